/-
  CONTRACTS: right core trees, of the program.
  Conditions: those that each lemma states.
-/
import Derived.Test.YtlaclfeljimffaaGreatDoorRows
import Derived.Test.YtlaclfeljimffaaGreatDoorP31
namespace Go.Proofs.YtlaclfeljimffaaGreatDoor
open Go.RowKit
set_option maxHeartbeats 8000000
set_option maxRecDepth 100000
set_option linter.unusedSimpArgs false
set_option linter.unusedVariables false
def mesC (n : Nat) (K : Int) (F : Fr) (m : MCore) : Prop := msgC m /\ ∀ z, z ∈ m.kids -> okN n K F z
def cascP (n : Nat) (K : Int) (F : Fr) (x : MCore) : Prop := cascH x /\ (∀ z, z ∈ x.kids.take 1 -> okN n K F z) /\ ∀ m, m ∈ x.kids.tail -> mesC n K F m
theorem cascadeOk_at (n : Nat) (IH : Hid (CoreAt n)) (kd : Int) (t : ByteArray) (nu de : Int) (kids : List MCore) (ak : Option Addr) (ck : Nat) (K : Int) (F : Fr) (vf : Value) (w : World)
 (hd : (MCore.mk kd t nu de kids).deep <= n + 1) (hF : F.length + (n + 1) <= 1000) (hFo : FrOk F) (hK0 : 0 <= K) (hK1 : K <= 1000) (hb : (MCore.mk kd t nu de kids).d.bulk <= 1048576) (hM : MaxOk w)
 (rk : Rep w (MCores kids) [.slice ak kids.length ck]) (rf : Rep w (frD F) [vf]) :
 Calls Tryz.prog 118 #[.agg #[.int .i64 kd, .string t, .int .i64 nu, .int .i64 de, .slice ak kids.length ck], .int .i64 K, vf] w fun e w' => e = .returned (.bool (prB (cascP n K F ⟨kd, t, nu, de, kids⟩))) /\ Ext w w' := by
 have CI : Hid (∀ (z : MCore) (cz : List Value) W, z.deep <= n -> z.d.bulk <= 1048576 -> Ext w W -> Rep W z.d cz -> Calls Tryz.prog 87 #[.agg cz.toArray, .int .i64 K, vf] W fun e w' => e = .returned (.bool (prB (okN n K F z))) /\ Ext W w') := LH fun z cz W h1 h2 h3 h4 => IH.out z cz K F vf W h1 (by omega) hFo hK0 hK1 h2 (hM.ext h3) h4 (Rep.ext h3 rf)
 have HDK : Hid (∀ z, z ∈ kids -> z.deep <= n /\ z.d.bulk <= 1048576) := LH fun z hz => by
  have h1 := MCore.deep_kid (x := ⟨kd, t, nu, de, kids⟩) hz
  have h2 := MCore.bulk_kid (x := ⟨kd, t, nu, de, kids⟩) hz
  exact ⟨by omega, by omega⟩
 have HDM : Hid (∀ m, m ∈ kids -> (∀ z, z ∈ m.kids -> z.deep <= n /\ z.d.bulk <= 1048576) /\ m.text.size <= 1048576 /\ m.kids.length <= 1048576) := LH fun m hm => by
  have h0 := HDK.out m hm
  refine ⟨fun z hz => ?_, by have := MCore.bulk_text m; omega, by have := MCore.bulk_kids m; omega⟩
  have h1 := MCore.deep_kid hz
  have h2 := MCore.bulk_kid hz
  exact ⟨by omega, by omega⟩
 have hks := Nat.le_trans (MCore.bulk_kids ⟨kd, t, nu, de, kids⟩) hb
 have RK := LH rk
 simp only at hks
 clear hd hF hFo hb rf rk IH
 by_cases hk : 2 <= kids.length
 rotate_left
 · have hk1 : kids.length < 2 := by omega
   have hk2 : (kids.length : Int) < 2 := by omega
   have NE : Hid (¬ cascP n K F ⟨kd, t, nu, de, kids⟩) := LH (fun h => hk h.1.1)
   go_enter Tryz.func118, Tryz.ntmps118
   go_wp2_with fail
   go_ret
   exact ⟨ret_bool (prB_ff NE.out).symm, (XR w).alloc _⟩
 have hk2 : ¬ (kids.length : Int) < 2 := by omega
 by_cases ht : t = ⟨#[]⟩
 rotate_left
 · have e1 : t.toList.isEmpty = false := by
    cases h : t.toList with
    | nil => exact absurd (toList_inj (b := ⟨#[]⟩) (by rw [h]; simp [ByteArray.toList_eq])) ht
    | cons a l => rfl
   have HT := LH ht; clear ht
   have NE : Hid (¬ cascP n K F ⟨kd, t, nu, de, kids⟩) := LH (fun h => HT.out h.1.2.1)
   go_enter Tryz.func118, Tryz.ntmps118
   go_wp2_with fail
   go_ret
   exact ⟨ret_bool (prB_ff NE.out).symm, (XR w).alloc _⟩
 subst ht
 by_cases hn : nu = 0
 rotate_left
 · have z1 := int_nen hn
   have z2 := int_ne hn
   have HN := LH hn; clear hn
   have NE : Hid (¬ cascP n K F ⟨kd, ⟨#[]⟩, nu, de, kids⟩) := LH (fun h => HN.out h.1.2.2.1)
   go_enter Tryz.func118, Tryz.ntmps118
   go_wp2_with fail
   go_ret
   exact ⟨ret_bool (prB_ff NE.out).symm, (XR w).alloc _⟩
 subst hn
 by_cases hd : de = 0
 rotate_left
 · have z1 := int_nen hd
   have z2 := int_ne hd
   have HN := LH hd; clear hd
   have NE : Hid (¬ cascP n K F ⟨kd, ⟨#[]⟩, 0, de, kids⟩) := LH (fun h => HN.out h.1.2.2.2)
   go_enter Tryz.func118, Tryz.ntmps118
   go_wp2_with fail
   go_ret
   exact ⟨ret_bool (prB_ff NE.out).symm, (XR w).alloc _⟩
 subst hd
 obtain ⟨z, ks, rfl⟩ : ∃ z ks, kids = z :: ks := by
  cases kids with
  | nil => simp at hk
  | cons z ks => exact ⟨z, ks, rfl⟩
 have rk := RK.out
 obtain ⟨ao, ca, ba, oa, e1, hla, hma, pa, ha⟩ := Rep.slmap rk
 simp only [List.cons.injEq, and_true, Value.slice.injEq] at e1
 obtain ⟨rfl, -, rfl⟩ := e1
 obtain rfl := pa (by simp)
 clear pa
 have rt := Rep.sl_tail (show Rep w (.sl 5 (z.d :: ks.map MCore.d)) _ from rk)
 obtain ⟨ao2, ca2, bb, ob, e1, hlb, hmb, pb, hb2⟩ := Rep.slmap rt
 simp only [List.length_cons, List.cons.injEq, and_true, Value.slice.injEq, Nat.add_sub_cancel] at e1
 obtain ⟨rfl, -, rfl⟩ := e1
 simp only [List.length_cons] at *
 have e2 := pb (by omega)
 simp only [Option.some.injEq, Addr.mk.injEq, and_true] at e2
 obtain ⟨rfl, rfl⟩ := e2
 unfold maxLen at hma
 obtain ⟨ea, la, c1, rz⟩ := ha 0 z rfl
 obtain ⟨aa0, cc0, rfl, -⟩ := MCore.op_en rz
 have a0 : w.cell? ⟨ba, oa, none⟩ = some (.int .i64 z.kind) := by have := c1 0 (by omega); simpa using this
 have a1 : w.cell? ⟨ba, oa + 1, none⟩ = some (.string z.text) := by have := c1 1 (by omega); simpa using this
 have a2 : w.cell? ⟨ba, oa + 2, none⟩ = some (.int .i64 z.number) := by have := c1 2 (by omega); simpa using this
 have a3 : w.cell? ⟨ba, oa + 3, none⟩ = some (.int .i64 z.depth) := by have := c1 3 (by omega); simpa using this
 have a4 : w.cell? ⟨ba, oa + 4, none⟩ = some (.slice aa0 z.kids.length cc0) := by have := c1 4 (by omega); simpa using this
 have zba : ba < w.heap.size := lt_of_cell a0
 have RZ := LH rz
 have hz := HDK.out z (by simp)
 have HB2 := LH hb2
 clear c1 la ha rz rk rt pb hb2
 have CZ : Hid (∀ W, Ext w W -> Calls Tryz.prog 87 #[.agg #[.int .i64 z.kind, .string z.text, .int .i64 z.number, .int .i64 z.depth, .slice aa0 z.kids.length cc0], .int .i64 K, vf] W fun e w' => e = .returned (.bool (prB (okN n K F z))) /\ Ext W w') := LH fun W h => CI.out z _ W hz.1 hz.2 h (Rep.ext h RZ.out)
 cases hg : prB (okN n K F z)
 · have NE : Hid (¬ cascP n K F ⟨kd, ⟨#[]⟩, 0, 0, z :: ks⟩) := LH (fun h => by
    have := prB_tt (h.2.1 z (by simp))
    rw [hg] at this; cases this)
   rw [hg] at CZ
   clear hg
   go_enter Tryz.func118, Tryz.ntmps118
   go_wp2_with fail
   refine (CZ.out _ ((XR w).alloc _)).mono ?_
   clear a0 a1 a2 a3 a4
   rintro e w1 ⟨rfl, hx1⟩
   go_wp2_with fail
   go_ret
   exact ⟨ret_bool (prB_ff NE.out).symm, ((XR w).alloc _).trans hx1⟩
 have HZ := LH (prB_iff.1 hg)
 rw [hg] at CZ
 clear hg
 go_enter Tryz.func118, Tryz.ntmps118
 go_wp2_with fail
 refine (CZ.out _ ((XR w).alloc _)).mono ?_
 clear a0 a1 a2 a3 a4
 rintro e w1 ⟨rfl, hx1⟩
 have m4 := Ext.cell hx1 (show (w.alloc (.cells #[.int .i64 kd, .string ⟨#[]⟩, .int .i64 0, .int .i64 0, .slice (some ⟨ba, oa, none⟩) (ks.length + 1) ck] 42)).cell? ⟨w.heap.size, 4, none⟩ = some (.slice (some ⟨ba, oa, none⟩) (ks.length + 1) ck) by simp)
 have x1 := ((XR w).alloc _).trans hx1
 have hck : ¬ ck = 1 := by omega
 have hck1 : 1 < ck := by omega
 clear hx1
 go_wp2_with fail
 go_loopw [6, 44] (fun _ iv wr => ∃ k : Nat, k <= ks.length /\ iv = .int .i64 k /\ Ext w wr /\ Hid (∀ m, m ∈ ks.take k -> mesC n K F m)) (fun _ iv _ => ks.length - (intOf iv).toNat)
 case atStart => exact ⟨0, Nat.zero_le _, rfl, x1, LH (by simp)⟩
 case round =>
  clear m4 x1
  obtain ⟨k, hk3, rfl, hx, hR⟩ := hrel
  by_cases hlt : k < ks.length
  rotate_left
  · have HT : Hid (cascP n K F ⟨kd, ⟨#[]⟩, 0, 0, z :: ks⟩) := LH ⟨⟨by simp; omega, rfl, rfl, rfl⟩, by simpa using HZ.out, fun m hm => hR.out m (by rw [List.take_of_length_le (by omega)]; exact hm)⟩
    go_wp2_with fail
    go_ret
    exact ⟨ret_bool (prB_tt HT.out).symm, hx⟩
  obtain ⟨eb, lb, c1, rm⟩ := HB2.out k ks[k] (by simp [hlt])
  obtain ⟨aM, cM, rfl, rkM⟩ := MCore.op_en rm
  have b0 := hx.cell (show w.cell? ⟨ba, oa + 5 + k * 5, none⟩ = some _ from c1 0 (by omega))
  have b1 := hx.cell (show w.cell? ⟨ba, oa + 5 + k * 5 + 1, none⟩ = some _ from c1 1 (by omega))
  have b2 := hx.cell (show w.cell? ⟨ba, oa + 5 + k * 5 + 2, none⟩ = some _ from c1 2 (by omega))
  have b3 := hx.cell (show w.cell? ⟨ba, oa + 5 + k * 5 + 3, none⟩ = some _ from c1 3 (by omega))
  have b4 := hx.cell (show w.cell? ⟨ba, oa + 5 + k * 5 + 4, none⟩ = some _ from c1 4 (by omega))
  have HM := LH (show ks[k] ∈ ks from List.getElem_mem hlt)
  have HM1 := HDM.out ks[k] (List.mem_cons_of_mem _ (List.getElem_mem hlt))
  have HTK : Hid (ks.take (k + 1) = ks.take k ++ [ks[k]]) := LH (List.take_succ_eq_append_getElem hlt)
  clear c1 lb rm
  generalize ks[k] = M at *
  obtain ⟨hmz, hmt, hmk⟩ := HM1
  have HMZ := LH hmz; clear hmz
  go_upto_region 6 with fail
  generalize hW : World.alloc wr _ = W1
  have c0 : W1.cell? ⟨wr.heap.size, 0, none⟩ = some (.int .i64 M.kind) := by rw [<- hW]; simp
  have c1 : W1.cell? ⟨wr.heap.size, 1, none⟩ = some (.string M.text) := by rw [<- hW]; simp
  have c2 : W1.cell? ⟨wr.heap.size, 2, none⟩ = some (.int .i64 M.number) := by rw [<- hW]; simp
  have c3 : W1.cell? ⟨wr.heap.size, 3, none⟩ = some (.int .i64 M.depth) := by rw [<- hW]; simp
  have c4 : W1.cell? ⟨wr.heap.size, 4, none⟩ = some (.slice aM M.kids.length cM) := by rw [<- hW]; simp
  have E1 : Ext w W1 := by rw [<- hW]; exact hx.alloc _
  clear hW b0 b1 b2 b3 b4
  have CAR : Hid (∀ W, Ext W1 W -> Calls Tryz.prog 51 #[.string M.text] W fun e w' => e = .returned (.int .i64 (argsB M.text)) /\ Ext W w') := LH fun W hW => impl_CountArgs_any _ _ hmt (hM.ext (E1.trans hW))
  by_cases h1 : M.kind = 13
  rotate_left
  · have t1 := int_nen h1
    have t1' := int_ne h1
    have H1 := LH h1; clear h1
    have NE : Hid (¬ cascP n K F ⟨kd, ⟨#[]⟩, 0, 0, z :: ks⟩) := LH (fun g => (fun q : mesC n K F M => H1.out q.1.1) (g.2.2 M HM.out))
    have gc0 := reg (XR _) c0
    have gc1 := reg (XR _) c1
    have gc2 := reg (XR _) c2
    have gc3 := reg (XR _) c3
    have gc4 := reg (XR _) c4
    refine wp_region_quiet_below (by kernel_rfl) (by kernel_rfl) ?_
    repeat (go_big_quiet_step ((go_at_call 51; exact Calls.regrown_of (CAR.out _ (below_regrown _ _ _)))))
    refine wpQuiet_nil ?_
    clear gc0 gc1 gc2 gc3 gc4
    intro _ hw'
    obtain ⟨pw, hw''⟩ := hw'
    subst hw''
    have X2 := regx W1 pw
    generalize hW2 : «Sort».grow (redrawn W1 pw.d) pw.os = W2 at *
    clear hW2
    go_wp2_with fail
    go_ret
    exact ⟨ret_bool (prB_ff NE.out).symm, E1.trans X2⟩
  have t1 := int_eqn h1
  by_cases h2 : M.number = 0
  rotate_left
  · have t2 := int_nen h2
    have t2' := int_ne h2
    have H2 := LH h2; clear h2
    have H1 := LH h1; clear h1
    have NE : Hid (¬ cascP n K F ⟨kd, ⟨#[]⟩, 0, 0, z :: ks⟩) := LH (fun g => (fun q : mesC n K F M => H2.out q.1.2.1) (g.2.2 M HM.out))
    have gc0 := reg (XR _) c0
    have gc1 := reg (XR _) c1
    have gc2 := reg (XR _) c2
    have gc3 := reg (XR _) c3
    have gc4 := reg (XR _) c4
    refine wp_region_quiet_below (by kernel_rfl) (by kernel_rfl) ?_
    repeat (go_big_quiet_step ((go_at_call 51; exact Calls.regrown_of (CAR.out _ (below_regrown _ _ _)))))
    refine wpQuiet_nil ?_
    clear gc0 gc1 gc2 gc3 gc4
    intro _ hw'
    obtain ⟨pw, hw''⟩ := hw'
    subst hw''
    have X2 := regx W1 pw
    generalize hW2 : «Sort».grow (redrawn W1 pw.d) pw.os = W2 at *
    clear hW2
    go_wp2_with fail
    go_ret
    exact ⟨ret_bool (prB_ff NE.out).symm, E1.trans X2⟩
  have t2 := int_eqn h2
  by_cases h3 : M.depth = 0
  rotate_left
  · have t3 := int_nen h3
    have t3' := int_ne h3
    have H3 := LH h3; clear h3
    have H1 := LH h1; clear h1
    have H2 := LH h2; clear h2
    have NE : Hid (¬ cascP n K F ⟨kd, ⟨#[]⟩, 0, 0, z :: ks⟩) := LH (fun g => (fun q : mesC n K F M => H3.out q.1.2.2.1) (g.2.2 M HM.out))
    have gc0 := reg (XR _) c0
    have gc1 := reg (XR _) c1
    have gc2 := reg (XR _) c2
    have gc3 := reg (XR _) c3
    have gc4 := reg (XR _) c4
    refine wp_region_quiet_below (by kernel_rfl) (by kernel_rfl) ?_
    repeat (go_big_quiet_step ((go_at_call 51; exact Calls.regrown_of (CAR.out _ (below_regrown _ _ _)))))
    refine wpQuiet_nil ?_
    clear gc0 gc1 gc2 gc3 gc4
    intro _ hw'
    obtain ⟨pw, hw''⟩ := hw'
    subst hw''
    have X2 := regx W1 pw
    generalize hW2 : «Sort».grow (redrawn W1 pw.d) pw.os = W2 at *
    clear hW2
    go_wp2_with fail
    go_ret
    exact ⟨ret_bool (prB_ff NE.out).symm, E1.trans X2⟩
  have t3 := int_eqn h3
  by_cases h4 : argsB M.text = (M.kids.length : Int)
  rotate_left
  · have t4 := int_nen h4
    have t4' := int_ne h4
    have H4 := LH h4; clear h4
    have H1 := LH h1; clear h1
    have H2 := LH h2; clear h2
    have H3 := LH h3; clear h3
    have NE : Hid (¬ cascP n K F ⟨kd, ⟨#[]⟩, 0, 0, z :: ks⟩) := LH (fun g => (fun q : mesC n K F M => H4.out q.1.2.2.2) (g.2.2 M HM.out))
    have gc0 := reg (XR _) c0
    have gc1 := reg (XR _) c1
    have gc2 := reg (XR _) c2
    have gc3 := reg (XR _) c3
    have gc4 := reg (XR _) c4
    refine wp_region_quiet_below (by kernel_rfl) (by kernel_rfl) ?_
    repeat (go_big_quiet_step ((go_at_call 51; exact Calls.regrown_of (CAR.out _ (below_regrown _ _ _)))))
    refine wpQuiet_nil ?_
    clear gc0 gc1 gc2 gc3 gc4
    intro _ hw'
    obtain ⟨pw, hw''⟩ := hw'
    subst hw''
    have X2 := regx W1 pw
    generalize hW2 : «Sort».grow (redrawn W1 pw.d) pw.os = W2 at *
    clear hW2
    go_wp2_with fail
    go_ret
    exact ⟨ret_bool (prB_ff NE.out).symm, E1.trans X2⟩
  have t4 := int_eqn h4
  have HH : Hid (msgC M) := LH ⟨h1, h2, h3, h4⟩
  clear h1 h2 h3 h4
  have gc0 := reg (XR _) c0
  have gc1 := reg (XR _) c1
  have gc2 := reg (XR _) c2
  have gc3 := reg (XR _) c3
  have gc4 := reg (XR _) c4
  refine wp_region_quiet_below (by kernel_rfl) (by kernel_rfl) ?_
  repeat (go_big_quiet_step ((go_at_call 51; exact Calls.regrown_of (CAR.out _ (below_regrown _ _ _)))))
  refine wpQuiet_nil ?_
  clear gc0 gc1 gc2 gc3 gc4
  intro _ hw'
  obtain ⟨pw, hw''⟩ := hw'
  subst hw''
  have X2 := regx W1 pw
  generalize hW2 : «Sort».grow (redrawn W1 pw.d) pw.os = W2 at *
  clear hW2
  clear t1 t2 t3 t4
  have E2 := E1.trans X2
  have n4 := Ext.cell X2 c4
  clear c0 c1 c2 c3 c4 CAR X2
  obtain ⟨amo, cmo, bm, om, h1, hlm, hmm, pm, hm5⟩ := Rep.slmap rkM
  simp only [List.cons.injEq, and_true, Value.slice.injEq] at h1
  obtain ⟨rfl, -, rfl⟩ := h1
  unfold maxLen at hmm
  have HM5 := LH hm5; clear hm5 rkM
  go_wp2_with fail
  go_loopw [6, 73] (fun _ iv w5 => ∃ j : Nat, j <= M.kids.length /\ iv = .int .i64 j /\ Ext w w5 /\ Hid (∀ q, q ∈ M.kids.take j -> okN n K F q)) (fun _ iv _ => M.kids.length - (intOf iv).toNat)
  case atStart => exact ⟨0, Nat.zero_le _, rfl, E2, LH (by simp)⟩
  case round =>
   clear n4 E2
   obtain ⟨j, hj, rfl, hx5, hR5⟩ := hrel
   by_cases hjt : j < M.kids.length
   rotate_left
   · have HA : Hid (∀ m, m ∈ ks.take (k + 1) -> mesC n K F m) := LH (fun m hm => by
      rw [HTK.out] at hm
      rcases List.mem_append.1 hm with hm | hm
      · exact hR.out m hm
      · rw [List.mem_singleton.1 hm]
        exact ⟨HH.out, fun q hq => hR5.out q (by rw [List.take_of_length_le (by omega)]; exact hq)⟩)
     go_wp2_with fail
     go_roundw
     case rel => exact ⟨k + 1, by omega, by go_num, hx5, HA⟩
     case measure => simp [intOf]; omega
   obtain rfl := pm (by omega)
   obtain ⟨eq5, lq5, c5, rq⟩ := HM5.out j M.kids[j] (by simp [hjt])
   obtain ⟨aq, cq, rfl, -⟩ := MCore.op_en rq
   have d0 := hx5.cell (show w.cell? ⟨bm, om + j * 5, none⟩ = some _ from c5 0 (by omega))
   have d1 := hx5.cell (show w.cell? ⟨bm, om + j * 5 + 1, none⟩ = some _ from c5 1 (by omega))
   have d2 := hx5.cell (show w.cell? ⟨bm, om + j * 5 + 2, none⟩ = some _ from c5 2 (by omega))
   have d3 := hx5.cell (show w.cell? ⟨bm, om + j * 5 + 3, none⟩ = some _ from c5 3 (by omega))
   have d4 := hx5.cell (show w.cell? ⟨bm, om + j * 5 + 4, none⟩ = some _ from c5 4 (by omega))
   have RQ := LH rq
   have hq5 := HMZ.out _ (List.getElem_mem hjt)
   clear c5 lq5 rq
   have CQ : Hid (∀ W, Ext w W -> Calls Tryz.prog 87 #[.agg #[.int .i64 M.kids[j].kind, .string M.kids[j].text, .int .i64 M.kids[j].number, .int .i64 M.kids[j].depth, .slice aq M.kids[j].kids.length cq], .int .i64 K, vf] W fun e w' => e = .returned (.bool (prB (okN n K F M.kids[j]))) /\ Ext W w') := LH fun W h => CI.out _ _ W hq5.1 hq5.2 h (Rep.ext h RQ.out)
   cases hg : prB (okN n K F M.kids[j])
   · have NE : Hid (¬ cascP n K F ⟨kd, ⟨#[]⟩, 0, 0, z :: ks⟩) := LH (fun h => by
      have := prB_tt ((h.2.2 M HM.out).2 _ (List.getElem_mem hjt))
      rw [hg] at this; cases this)
     rw [hg] at CQ
     clear hg
     go_wp2_with fail
     refine (CQ.out _ (hx5.alloc _)).mono ?_
     clear d0 d1 d2 d3 d4
     rintro e w6 ⟨rfl, hx6⟩
     go_wp2_with fail
     go_ret
     exact ⟨ret_bool (prB_ff NE.out).symm, (hx5.alloc _).trans hx6⟩
   have HT : Hid (∀ q, q ∈ M.kids.take (j + 1) -> okN n K F q) := LH (fun q hq => by
    rw [List.take_succ_eq_append_getElem hjt] at hq
    rcases List.mem_append.1 hq with hq | hq
    · exact hR5.out q hq
    · rw [List.mem_singleton.1 hq]; exact prB_iff.1 hg)
   rw [hg] at CQ
   clear hg
   go_wp2_with fail
   refine (CQ.out _ (hx5.alloc _)).mono ?_
   clear d0 d1 d2 d3 d4
   rintro e w6 ⟨rfl, hx6⟩
   go_wp2_with fail
   go_roundw
   case rel => exact ⟨j + 1, by omega, by go_num, (hx5.alloc _).trans hx6, HT⟩
   case measure => simp [intOf]; omega
theorem coreOk_at : ∀ n, CoreAt n := by
 intro n
 induction n with
 | zero =>
  intro z cz K F vf w h
  have := MCore.deep_eq z
  omega
 | succ n ih =>
  intro z cz K F vf w hd hF hFo hK0 hK1 hb hM rz rf
  have IH := LH ih; clear ih
  obtain ⟨ak, ck, rfl, rk⟩ := MCore.op_en rz
  clear rz
  obtain ⟨kd, t, nu, de, kids⟩ := z
  simp only at *
  by_cases h15 : kd = 15
  rotate_left
  · exact coreOk_node n IH kd t nu de kids ak ck K F vf w hd hF hFo hK0 hK1 hb hM rk rf h15
  subst h15
  have CC : Hid (∀ W, Ext w W -> Calls Tryz.prog 118 #[.agg #[.int .i64 15, .string t, .int .i64 nu, .int .i64 de, .slice ak kids.length ck], .int .i64 K, vf] W fun e w' => e = .returned (.bool (prB (okN (n + 1) K F ⟨15, t, nu, de, kids⟩))) /\ Ext W w') := LH fun W h => by
   have h1 := cascadeOk_at n IH 15 t nu de kids ak ck K F vf W hd hF hFo hK0 hK1 hb (hM.ext h) (Rep.ext h rk) (Rep.ext h rf)
   have e : prB (cascP n K F ⟨15, t, nu, de, kids⟩) = prB (okN (n + 1) K F ⟨15, t, nu, de, kids⟩) := by
    congr 1
    exact propext (okN_casc rfl).symm
   rw [e] at h1
   exact h1
  obtain ⟨b, o, cap, rfl, hlc, hcm, zb, hcell⟩ := fr_open rf hFo.1
  obtain ⟨G, f0, rfl⟩ : ∃ G f0, F = G ++ [f0] := ⟨F.dropLast, F.getLast hFo.1, (List.dropLast_concat_getLast hFo.1).symm⟩
  clear hFo hd rk rf hb
  have hlen : (G ++ [f0]).length = G.length + 1 := by simp
  rw [hlen] at CC hF hlc ⊢
  clear hlen
  obtain ⟨f0p, f0s⟩ := f0
  have t0 : w.cell? ⟨b, o + G.length * 2, none⟩ = some (.int .i64 f0p) := (hcell G.length ⟨f0p, f0s⟩ (by simp)).1
  have t1 : w.cell? ⟨b, o + G.length * 2 + 1, none⟩ = some (.int .i64 f0s) := (hcell G.length ⟨f0p, f0s⟩ (by simp)).2
  clear hcell
  unfold maxLen at hcm
  go_enter Tryz.func87, Tryz.ntmps87
  go_wp2_with fail
  refine (CC.out _ (((XR w).alloc _).alloc _)).mono ?_
  rintro e w2 ⟨rfl, hx2⟩
  go_wp2_with fail
  go_ret
  exact ⟨rfl, (((XR w).alloc _).alloc _).trans hx2⟩
end Go.Proofs.YtlaclfeljimffaaGreatDoor
