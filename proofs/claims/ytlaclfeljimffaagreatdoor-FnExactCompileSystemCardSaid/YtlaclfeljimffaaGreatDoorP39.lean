/-
  CONTRACTS: cascades and all nodes of a core tree, of the reference.
  Conditions: those that each lemma states.
-/
import Derived.Test.YtlaclfeljimffaaGreatDoorRows
import Derived.Test.YtlaclfeljimffaaGreatDoorP32
import Derived.Test.YtlaclfeljimffaaGreatDoorP38
namespace Go.Proofs.YtlaclfeljimffaaGreatDoor
open Go.RowKit
set_option maxHeartbeats 8000000
set_option maxRecDepth 100000
set_option linter.unusedSimpArgs false
set_option linter.unusedVariables false
theorem casc_tail {n : Nat} {K : Int} {F : Fr} {l : List MCore} {k : Nat} (h1 : 1 <= k) (hk : k < l.length) (h : ∀ m, m ∈ (l.take k).tail -> mesC n K F m) (hm : mesC n K F l[k]) : ∀ m, m ∈ (l.take (k + 1)).tail -> mesC n K F m := by
 intro m hmem
 have e : (l.take (k + 1)).tail = (l.take k).tail ++ [l[k]] := by
  rw [List.take_succ_eq_append_getElem hk]
  cases l with
  | nil => simp at hk
  | cons a t =>
   obtain ⟨j, rfl⟩ : ∃ j, k = j + 1 := ⟨k - 1, by omega⟩
   simp
 rw [e] at hmem
 rcases List.mem_append.1 hmem with hmem | hmem
 · exact h m hmem
 · rw [List.mem_singleton.1 hmem]; exact hm
theorem l8Right_casc (n : Nat) (IH : Hid (CoreAtS n)) (t : ByteArray) (nu de : Int) (kids : List MCore) (ak : Option Addr) (ck : Nat) (K : Int) (F : Fr) (vs vp : Value) (w : World)
 (hd : (MCore.mk 15 t nu de kids).deep <= n + 1) (hF : F.length + (n + 1) <= 1000) (hFo : FrOk F) (hK0 : 0 <= K) (hK1 : K <= 1000) (hb : (MCore.mk 15 t nu de kids).d.bulk <= 1048576)
 (rk : Rep w (MCores kids) [.slice ak kids.length ck]) (rs : Rep w (slD F) [vs]) (rp : Rep w (paD F) [vp]) :
 Calls Tryz.prog 73 #[.agg #[.int .i64 15, .string t, .int .i64 nu, .int .i64 de, .slice ak kids.length ck], .int .i64 K, vs, vp] w fun e w' => e = .returned (.bool (prB (cascP n K F ⟨15, t, nu, de, kids⟩))) /\ Ext w w' := by
 have CI : Hid (∀ (z : MCore) (cz : List Value) W, z.deep <= n -> z.d.bulk <= 1048576 -> Ext w W -> Rep W z.d cz -> Calls Tryz.prog 73 #[.agg cz.toArray, .int .i64 K, vs, vp] W fun e w' => e = .returned (.bool (prB (okN n K F z))) /\ Ext W w') := LH fun z cz W h1 h2 h3 h4 => IH.out z cz K F vs vp W h1 (by omega) hFo hK0 hK1 h2 h4 (Rep.ext h3 rs) (Rep.ext h3 rp)
 have HDK : Hid (∀ z, z ∈ kids -> z.deep <= n /\ z.d.bulk <= 1048576) := LH fun z hz => by
  have h1 := MCore.deep_kid (x := ⟨15, t, nu, de, kids⟩) hz
  have h2 := MCore.bulk_kid (x := ⟨15, t, nu, de, kids⟩) hz
  exact ⟨by omega, by omega⟩
 have CK : Hid (∀ (m : MCore) (cm : List Value) W, m ∈ kids -> Ext w W -> Rep W m.d cm -> Calls Tryz.prog 101 #[.agg cm.toArray, .int .i64 K, vs, vp] W fun e w' => e = .returned (.bool (prB (kidsP n K F m.kids))) /\ Ext W w') := LH fun m cm W h1 h2 h3 => by
  have h0 := HDK.out m h1
  exact l8Kids_at n IH m cm K F vs vp W (fun z hz => by
   have a1 := MCore.deep_kid hz
   have a2 := MCore.bulk_kid hz
   exact ⟨by omega, by omega⟩) (by omega) hFo hK0 hK1 h3 (Rep.ext h2 rs) (Rep.ext h2 rp)
 have hks := Nat.le_trans (MCore.bulk_kids ⟨15, t, nu, de, kids⟩) hb
 simp only at hks
 have RK := LH rk
 clear hd hF hFo hb rk rs rp IH
 obtain ⟨ako, cko, ba, oa, h1, hla, hma, pa, ha⟩ := Rep.slmap RK.out
 simp only [List.cons.injEq, and_true, Value.slice.injEq] at h1
 obtain ⟨rfl, -, rfl⟩ := h1
 unfold maxLen at hma
 have HA := LH ha; clear ha
 obtain ⟨sT, hsT⟩ : ∃ b, b = (t.toList.isEmpty && decide (2 <= kids.length)) := ⟨_, rfl⟩
 have HST : Hid (sT = true ↔ t = ⟨#[]⟩ /\ 2 <= kids.length) := LH (by
  rw [hsT]
  have e : t.toList.isEmpty = true ↔ t = ⟨#[]⟩ := by
   constructor
   · intro h
     refine toList_inj ?_
     have : t.toList = [] := by simpa using h
     rw [this]; simp [ByteArray.toList_eq]
   · intro h; subst h; simp [ByteArray.toList_eq]
  simp [e])
 have HSE := LH hsT; clear hsT
 go_enter Tryz.func73, Tryz.ntmps73
 go_upto_region 2 with fail
 generalize hS : World.alloc w _ = W1
 have x1 : Ext w W1 := by rw [<- hS]; exact (XR _).alloc _
 have m0 : W1.cell? ⟨w.heap.size, 0, none⟩ = some (.int .i64 15) := by rw [<- hS]; simp
 have m1 : W1.cell? ⟨w.heap.size, 1, none⟩ = some (.string t) := by rw [<- hS]; simp
 have m2 : W1.cell? ⟨w.heap.size, 2, none⟩ = some (.int .i64 nu) := by rw [<- hS]; simp
 have m3 : W1.cell? ⟨w.heap.size, 3, none⟩ = some (.int .i64 de) := by rw [<- hS]; simp
 have m4 : W1.cell? ⟨w.heap.size, 4, none⟩ = some (.slice ak kids.length ck) := by rw [<- hS]; simp
 clear hS
 have k1 := reg (XR _) m1
 have k2 := reg (XR _) m2
 have k3 := reg (XR _) m3
 refine wp_region_quiet_below (by kernel_rfl) (by kernel_rfl) ?_
 repeat (go_big_quiet_step (fail))
 refine wpQuiet_nil ?_
 clear k1 k2 k3
 intro _ hw'
 obtain ⟨pw, hw''⟩ := hw'
 subst hw''
 have y1 := regx W1 pw
 generalize hW2 : «Sort».grow (redrawn W1 pw.d) pw.os = W2 at *
 clear hW2
 replace m0 := Ext.cell y1 m0
 replace m4 := Ext.cell y1 m4
 replace x1 := x1.trans y1
 clear y1 m1 m2 m3
 generalize hN : (nu == 0) = zN
 generalize hD : (de == 0) = zD
 have HZN : Hid (zN = true ↔ nu = 0) := LH (by rw [<- hN]; simp)
 have HZD : Hid (zD = true ↔ de = 0) := LH (by rw [<- hD]; simp)
 clear hN hD
 generalize hT : t.toList.isEmpty = zT
 have HT := LH hT; clear hT
 go_upto_region 31 with fail
 go_cut [10] (fun tv wx => tv = .bool sT /\ wx = W2)
 case first =>
  cases zT
  · have e : sT = false := by rw [HSE.out, HT.out]; rfl
    have HE := LH e; clear e
    go_wp2_with fail
    go_meet
    exact ⟨by rw [HE.out], rfl⟩
  · by_cases hk2 : (2 : Int) <= kids.length
    · have e : sT = true := by
       rw [HSE.out, HT.out]
       have : 2 <= kids.length := by omega
       simp [this]
      have HE := LH e; clear e
      go_wp2_with fail
      go_meet
      exact ⟨by rw [HE.out], rfl⟩
    · have e : sT = false := by
       rw [HSE.out, HT.out]
       have : ¬ 2 <= kids.length := by omega
       simp [this]
      have HE := LH e; clear e
      go_wp2_with fail
      go_meet
      exact ⟨by rw [HE.out], rfl⟩
 case rest =>
 obtain ⟨rfl, rfl⟩ := hcut
 clear HSE HT
 go_wp2_with fail
 go_loopw [13, 14] (fun iv _ wr => ∃ k : Nat, 1 <= k /\ (k <= kids.length ∨ k = 1) /\ iv = .int .i64 k /\ Ext w wr /\ wr.cell? ⟨w.heap.size, 4, none⟩ = some (.slice ak kids.length ck) /\ Hid (∀ m, m ∈ (kids.take k).tail -> mesC n K F m)) (fun iv _ _ => kids.length + 1 - (intOf iv).toNat)
 case atStart => exact ⟨1, by omega, Or.inr rfl, rfl, x1, m4, LH (by
  intro m hm
  cases kids with
  | nil => simp at hm
  | cons a l => simp at hm)⟩
 case round =>
  clear m0 m4 x1
  obtain ⟨k, hk1, hk, rfl, hx, m4, hR⟩ := hrel
  by_cases hlt : k < kids.length
  rotate_left
  · have HTL : Hid (∀ m, m ∈ kids.tail -> mesC n K F m) := LH (fun m hm => hR.out m (by rw [List.take_of_length_le (by omega)]; exact hm))
    clear hR hk
    have hlt' : ¬ (k : Int) < kids.length := by omega
    cases sT
    · have NE : Hid (¬ cascP n K F ⟨15, t, nu, de, kids⟩) := LH (fun h => by have := HST.out.2 ⟨h.1.2.1, h.1.1⟩; cases this)
      go_wp2_with fail
      go_ret
      exact ⟨ret_bool (prB_ff NE.out).symm, hx⟩
    cases zN
    · have NE : Hid (¬ cascP n K F ⟨15, t, nu, de, kids⟩) := LH (fun h => by have := HZN.out.2 h.1.2.2.1; cases this)
      go_wp2_with fail
      go_ret
      exact ⟨ret_bool (prB_ff NE.out).symm, hx⟩
    cases zD
    · have NE : Hid (¬ cascP n K F ⟨15, t, nu, de, kids⟩) := LH (fun h => by have := HZD.out.2 h.1.2.2.2; cases this)
      go_wp2_with fail
      go_ret
      exact ⟨ret_bool (prB_ff NE.out).symm, hx⟩
    have hl0 : 0 < kids.length := by have := (HST.out.1 rfl).2; omega
    have hl0' : (0 : Int) < kids.length := by omega
    obtain rfl := pa hl0
    obtain ⟨ea, la, c1, rz⟩ := HA.out 0 kids[0] (by simp [hl0])
    obtain ⟨aa0, cc0, rfl, -⟩ := MCore.op_en rz
    have a0 : wr.cell? ⟨ba, oa, none⟩ = some (.int .i64 kids[0].kind) := hx.cell (by have := c1 0 (by omega); simpa using this)
    have a1 : wr.cell? ⟨ba, oa + 1, none⟩ = some (.string kids[0].text) := hx.cell (by have := c1 1 (by omega); simpa using this)
    have a2 : wr.cell? ⟨ba, oa + 2, none⟩ = some (.int .i64 kids[0].number) := hx.cell (by have := c1 2 (by omega); simpa using this)
    have a3 : wr.cell? ⟨ba, oa + 3, none⟩ = some (.int .i64 kids[0].depth) := hx.cell (by have := c1 3 (by omega); simpa using this)
    have a4 : wr.cell? ⟨ba, oa + 4, none⟩ = some (.slice aa0 kids[0].kids.length cc0) := hx.cell (by have := c1 4 (by omega); simpa using this)
    have RZ := LH rz
    have hz := HDK.out kids[0] (List.getElem_mem hl0)
    have CZ : Hid (∀ W, Ext w W -> Calls Tryz.prog 73 #[.agg #[.int .i64 kids[0].kind, .string kids[0].text, .int .i64 kids[0].number, .int .i64 kids[0].depth, .slice aa0 kids[0].kids.length cc0], .int .i64 K, vs, vp] W fun e w' => e = .returned (.bool (prB (cascP n K F ⟨15, t, nu, de, kids⟩))) /\ Ext W w') := LH fun W h => by
     have h0 := CI.out kids[0] _ W hz.1 hz.2 h (Rep.ext h RZ.out)
     have e : prB (okN n K F kids[0]) = prB (cascP n K F ⟨15, t, nu, de, kids⟩) := by
      congr 1
      refine propext ⟨fun g => ⟨⟨(HST.out.1 rfl).2, (HST.out.1 rfl).1, HZN.out.1 rfl, HZD.out.1 rfl⟩, fun z hz => ?_, HTL.out⟩, fun g => g.2.1 _ ?_⟩
      · rw [List.take_one, List.head?_eq_getElem?, List.getElem?_eq_getElem hl0] at hz
        simp at hz; rw [hz]; exact g
      · show kids[0] ∈ kids.take 1
        rw [List.take_one, List.head?_eq_getElem?, List.getElem?_eq_getElem hl0]; simp
     rw [<- e]; exact h0
    clear c1 la rz hz HTL
    generalize kids[0] = Z at *
    go_wp2_with fail
    refine (CZ.out _ hx).mono ?_
    clear a0 a1 a2 a3 a4
    rintro e w5 ⟨rfl, hx5⟩
    go_wp2_with fail
    go_ret
    exact ⟨rfl, hx.trans hx5⟩
  obtain rfl := pa (by omega)
  have HM : Hid (kids[k] ∈ kids.tail) := LH (by
   cases kids with
   | nil => simp at hlt
   | cons a l =>
    obtain ⟨j, rfl⟩ : ∃ j, k = j + 1 := ⟨k - 1, by omega⟩
    simp only [List.tail_cons, List.getElem_cons_succ]
    exact List.getElem_mem _)
  have HMM := LH (show kids[k] ∈ kids from List.getElem_mem hlt)
  have HSTEP : Hid (mesC n K F kids[k] -> ∀ m, m ∈ (kids.take (k + 1)).tail -> mesC n K F m) := LH (casc_tail hk1 hlt hR.out)
  have hq := HDK.out _ (List.getElem_mem hlt)
  obtain ⟨ea, la, c1, ra⟩ := HA.out k kids[k] (by simp [hlt])
  obtain ⟨aM, cM, rfl, -⟩ := MCore.op_en ra
  have b0 := hx.cell (show w.cell? ⟨ba, oa + k * 5, none⟩ = some _ from c1 0 (by omega))
  have b1 := hx.cell (show w.cell? ⟨ba, oa + k * 5 + 1, none⟩ = some _ from c1 1 (by omega))
  have b2 := hx.cell (show w.cell? ⟨ba, oa + k * 5 + 2, none⟩ = some _ from c1 2 (by omega))
  have b3 := hx.cell (show w.cell? ⟨ba, oa + k * 5 + 3, none⟩ = some _ from c1 3 (by omega))
  have b4 := hx.cell (show w.cell? ⟨ba, oa + k * 5 + 4, none⟩ = some _ from c1 4 (by omega))
  have RM := LH ra
  have hmt : kids[k].text.size <= 1048576 := by have := MCore.bulk_text kids[k]; omega
  clear c1 la ra hR hq hk
  have hlt' : (k : Int) < kids.length := by omega
  generalize kids[k] = M at *
  go_upto_region 36 with fail
  generalize hW : World.alloc wr _ = W3
  have c0 : W3.cell? ⟨wr.heap.size, 0, none⟩ = some (.int .i64 M.kind) := by rw [<- hW]; simp
  have c1 : W3.cell? ⟨wr.heap.size, 1, none⟩ = some (.string M.text) := by rw [<- hW]; simp
  have c2 : W3.cell? ⟨wr.heap.size, 2, none⟩ = some (.int .i64 M.number) := by rw [<- hW]; simp
  have c3 : W3.cell? ⟨wr.heap.size, 3, none⟩ = some (.int .i64 M.depth) := by rw [<- hW]; simp
  have c4 : W3.cell? ⟨wr.heap.size, 4, none⟩ = some (.slice aM M.kids.length cM) := by rw [<- hW]; simp
  have E1 : Ext w W3 := by rw [<- hW]; exact hx.alloc _
  have n4 : W3.cell? ⟨w.heap.size, 4, none⟩ = some (.slice (some ⟨ba, oa, none⟩) kids.length ck) := by rw [<- hW]; exact Ext.cell ((XR wr).alloc _) m4
  clear hW b0 b1 b2 b3 b4 m4
  have CAR : Hid (∀ W, Ext W3 W -> Calls Tryz.prog 43 #[.string M.text] W fun e w' => e = .returned (.int .i64 (argsB M.text)) /\ Ext W w') := LH fun W hW => spec_CountArgs_any _ _ hmt
  have hab := argsB_bd M.text
  by_cases h1 : M.kind = 13
  rotate_left
  · have t1 := int_nen h1
    have t1' := int_ne h1
    have H1 := LH h1; clear h1
    have NE : Hid (¬ cascP n K F ⟨15, t, nu, de, kids⟩) := LH (fun g => (fun q : mesC n K F M => H1.out q.1.1) (g.2.2 M HM.out))
    have gc0 := reg (XR _) c0
    have gc1 := reg (XR _) c1
    have gc2 := reg (XR _) c2
    have gc3 := reg (XR _) c3
    have gc4 := reg (XR _) c4
    refine wp_region_quiet_below (by kernel_rfl) (by kernel_rfl) ?_
    repeat (go_big_quiet_step ((go_at_call 43; exact Calls.regrown_of (CAR.out _ (below_regrown _ _ _)))))
    refine wpQuiet_nil ?_
    clear gc0 gc1 gc2 gc3 gc4
    intro _ hw'
    obtain ⟨pw, hw''⟩ := hw'
    subst hw''
    have X2 := regx W3 pw
    generalize hW4 : «Sort».grow (redrawn W3 pw.d) pw.os = W4 at *
    clear hW4
    go_wp2_with fail
    go_ret
    exact ⟨ret_bool (prB_ff NE.out).symm, E1.trans X2⟩
  have t1 := int_eqn h1
  by_cases h2 : M.number = 0
  rotate_left
  · have t2 := int_nen h2
    have t2' := int_ne h2
    have H2 := LH h2; clear h2
    have H1 := LH h1; clear h1
    have NE : Hid (¬ cascP n K F ⟨15, t, nu, de, kids⟩) := LH (fun g => (fun q : mesC n K F M => H2.out q.1.2.1) (g.2.2 M HM.out))
    have gc0 := reg (XR _) c0
    have gc1 := reg (XR _) c1
    have gc2 := reg (XR _) c2
    have gc3 := reg (XR _) c3
    have gc4 := reg (XR _) c4
    refine wp_region_quiet_below (by kernel_rfl) (by kernel_rfl) ?_
    repeat (go_big_quiet_step ((go_at_call 43; exact Calls.regrown_of (CAR.out _ (below_regrown _ _ _)))))
    refine wpQuiet_nil ?_
    clear gc0 gc1 gc2 gc3 gc4
    intro _ hw'
    obtain ⟨pw, hw''⟩ := hw'
    subst hw''
    have X2 := regx W3 pw
    generalize hW4 : «Sort».grow (redrawn W3 pw.d) pw.os = W4 at *
    clear hW4
    go_wp2_with fail
    go_ret
    exact ⟨ret_bool (prB_ff NE.out).symm, E1.trans X2⟩
  have t2 := int_eqn h2
  by_cases h3 : M.depth = 0
  rotate_left
  · have t3 := int_nen h3
    have t3' := int_ne h3
    have H3 := LH h3; clear h3
    have H1 := LH h1; clear h1
    have H2 := LH h2; clear h2
    have NE : Hid (¬ cascP n K F ⟨15, t, nu, de, kids⟩) := LH (fun g => (fun q : mesC n K F M => H3.out q.1.2.2.1) (g.2.2 M HM.out))
    have gc0 := reg (XR _) c0
    have gc1 := reg (XR _) c1
    have gc2 := reg (XR _) c2
    have gc3 := reg (XR _) c3
    have gc4 := reg (XR _) c4
    refine wp_region_quiet_below (by kernel_rfl) (by kernel_rfl) ?_
    repeat (go_big_quiet_step ((go_at_call 43; exact Calls.regrown_of (CAR.out _ (below_regrown _ _ _)))))
    refine wpQuiet_nil ?_
    clear gc0 gc1 gc2 gc3 gc4
    intro _ hw'
    obtain ⟨pw, hw''⟩ := hw'
    subst hw''
    have X2 := regx W3 pw
    generalize hW4 : «Sort».grow (redrawn W3 pw.d) pw.os = W4 at *
    clear hW4
    go_wp2_with fail
    go_ret
    exact ⟨ret_bool (prB_ff NE.out).symm, E1.trans X2⟩
  have t3 := int_eqn h3
  by_cases h4 : argsB M.text = (M.kids.length : Int)
  rotate_left
  · have H1 := LH h1; clear h1
    have H2 := LH h2; clear h2
    have H3 := LH h3; clear h3
    have t4 : ((M.kids.length : Int) != argsB M.text) = true := int_nen (fun e => h4 e.symm)
    have H4 := LH h4; clear h4
    by_cases h5 : argsB M.text < 0
    · have d5 : decide (argsB M.text < 0) = true := decide_eq_true h5
      have NE : Hid (¬ cascP n K F ⟨15, t, nu, de, kids⟩) := LH (fun g => (fun q : mesC n K F M => H4.out q.1.2.2.2) (g.2.2 M HM.out))
      have gc0 := reg (XR _) c0
      have gc1 := reg (XR _) c1
      have gc2 := reg (XR _) c2
      have gc3 := reg (XR _) c3
      have gc4 := reg (XR _) c4
      refine wp_region_quiet_below (by kernel_rfl) (by kernel_rfl) ?_
      repeat (go_big_quiet_step ((go_at_call 43; exact Calls.regrown_of (CAR.out _ (below_regrown _ _ _)))))
      refine wpQuiet_nil ?_
      clear gc0 gc1 gc2 gc3 gc4
      intro _ hw'
      obtain ⟨pw, hw''⟩ := hw'
      subst hw''
      have X2 := regx W3 pw
      generalize hW4 : «Sort».grow (redrawn W3 pw.d) pw.os = W4 at *
      clear hW4
      go_wp2_with fail
      go_ret
      exact ⟨ret_bool (prB_ff NE.out).symm, E1.trans X2⟩
    · have d5 : decide (argsB M.text < 0) = false := decide_eq_false h5
      have NE : Hid (¬ cascP n K F ⟨15, t, nu, de, kids⟩) := LH (fun g => (fun q : mesC n K F M => H4.out q.1.2.2.2) (g.2.2 M HM.out))
      have gc0 := reg (XR _) c0
      have gc1 := reg (XR _) c1
      have gc2 := reg (XR _) c2
      have gc3 := reg (XR _) c3
      have gc4 := reg (XR _) c4
      refine wp_region_quiet_below (by kernel_rfl) (by kernel_rfl) ?_
      repeat (go_big_quiet_step ((go_at_call 43; exact Calls.regrown_of (CAR.out _ (below_regrown _ _ _)))))
      refine wpQuiet_nil ?_
      clear gc0 gc1 gc2 gc3 gc4
      intro _ hw'
      obtain ⟨pw, hw''⟩ := hw'
      subst hw''
      have X2 := regx W3 pw
      generalize hW4 : «Sort».grow (redrawn W3 pw.d) pw.os = W4 at *
      clear hW4
      go_wp2_with fail
      go_ret
      exact ⟨ret_bool (prB_ff NE.out).symm, E1.trans X2⟩
  have t4 : ((M.kids.length : Int) != argsB M.text) = false := int_eqn h4.symm
  have h5 : ¬ argsB M.text < 0 := by omega
  have d5 : decide (argsB M.text < 0) = false := decide_eq_false h5
  have HH : Hid (msgC M) := LH ⟨h1, h2, h3, h4⟩
  clear h1 h2 h3 h4
  have CKD : Hid (∀ W, Ext W3 W -> Calls Tryz.prog 101 #[.agg #[.int .i64 M.kind, .string M.text, .int .i64 M.number, .int .i64 M.depth, .slice aM M.kids.length cM], .int .i64 K, vs, vp] W fun e w' => e = .returned (.bool (prB (kidsP n K F M.kids))) /\ Ext W w') := LH fun W hW => CK.out M _ W HMM.out (E1.trans hW) (Rep.ext (E1.trans hW) RM.out)
  cases hg : prB (kidsP n K F M.kids)
  · rw [hg] at CKD
    have HG : Hid (¬ kidsP n K F M.kids) := LH (fun h => by have := prB_tt h; rw [hg] at this; cases this)
    clear hg
    have NE : Hid (¬ cascP n K F ⟨15, t, nu, de, kids⟩) := LH (fun g => (fun q : mesC n K F M => HG.out q.2) (g.2.2 M HM.out))
    have gc0 := reg (XR _) c0
    have gc1 := reg (XR _) c1
    have gc2 := reg (XR _) c2
    have gc3 := reg (XR _) c3
    have gc4 := reg (XR _) c4
    refine wp_region_quiet_below (by kernel_rfl) (by kernel_rfl) ?_
    repeat (go_big_quiet_step (first | (go_at_call 43; exact Calls.regrown_of (CAR.out _ (below_regrown _ _ _))) | (go_at_call 101; exact Calls.regrown_of (CKD.out _ (below_regrown _ _ _)))))
    refine wpQuiet_nil ?_
    clear gc0 gc1 gc2 gc3 gc4
    intro _ hw'
    obtain ⟨pw, hw''⟩ := hw'
    subst hw''
    have X2 := regx W3 pw
    generalize hW4 : «Sort».grow (redrawn W3 pw.d) pw.os = W4 at *
    clear hW4
    go_wp2_with fail
    go_ret
    exact ⟨ret_bool (prB_ff NE.out).symm, E1.trans X2⟩
  rw [hg] at CKD
  have HN : Hid (∀ m, m ∈ (kids.take (k + 1)).tail -> mesC n K F m) := LH (HSTEP.out ⟨HH.out, prB_iff.1 hg⟩)
  clear hg
  have gc0 := reg (XR _) c0
  have gc1 := reg (XR _) c1
  have gc2 := reg (XR _) c2
  have gc3 := reg (XR _) c3
  have gc4 := reg (XR _) c4
  refine wp_region_quiet_below (by kernel_rfl) (by kernel_rfl) ?_
  repeat (go_big_quiet_step (first | (go_at_call 43; exact Calls.regrown_of (CAR.out _ (below_regrown _ _ _))) | (go_at_call 101; exact Calls.regrown_of (CKD.out _ (below_regrown _ _ _)))))
  refine wpQuiet_nil ?_
  clear gc0 gc1 gc2 gc3 gc4
  intro _ hw'
  obtain ⟨pw, hw''⟩ := hw'
  subst hw''
  have X2 := regx W3 pw
  generalize hW4 : «Sort».grow (redrawn W3 pw.d) pw.os = W4 at *
  clear hW4
  have E2 := E1.trans X2
  have n5 := Ext.cell X2 n4
  clear c0 c1 c2 c3 c4 CAR CKD X2 n4
  go_wp2_with fail
  go_roundw
  case rel => exact ⟨k + 1, by omega, Or.inl (by omega), by go_num, E2, n5, HN⟩
  case measure => simp [intOf]; omega
theorem l8Right_at : ∀ n, CoreAtS n := by
 intro n
 induction n with
 | zero =>
  intro z cz K F vs vp w h
  have := MCore.deep_eq z
  omega
 | succ n ih =>
  intro z cz K F vs vp w hd hF hFo hK0 hK1 hb rz rs rp
  have IH := LH ih; clear ih
  obtain ⟨ak, ck, rfl, rk⟩ := MCore.op_en rz
  clear rz
  obtain ⟨kd, t, nu, de, kids⟩ := z
  simp only at *
  by_cases h15 : kd = 15
  rotate_left
  · exact l8Right_node n IH kd t nu de kids ak ck K F vs vp w hd hF hFo hK0 hK1 hb rk rs rp h15
  subst h15
  have h1 := l8Right_casc n IH t nu de kids ak ck K F vs vp w hd hF hFo hK0 hK1 hb rk rs rp
  have e : prB (cascP n K F ⟨15, t, nu, de, kids⟩) = prB (okN (n + 1) K F ⟨15, t, nu, de, kids⟩) := by
   congr 1
   exact propext (okN_casc rfl).symm
  rw [e] at h1
  exact h1
end Go.Proofs.YtlaclfeljimffaaGreatDoor
