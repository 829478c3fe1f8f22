/-
  CONTRACTS: right expressions, of the reference.
  Conditions: those that each lemma states.
-/
import Derived.Test.YtndhpbjhkgdieaaGreatDoorRows
import Derived.Lib.QuietBelow
import Derived.BigQuiet
import Derived.Test.YtndhpbjhkgdieaaGreatDoorP15
namespace Go.Proofs.YtndhpbjhkgdieaaGreatDoor
open Go.RowKit
set_option maxHeartbeats 8000000
set_option maxRecDepth 100000
set_option linter.unusedSimpArgs false
set_option linter.unusedVariables false
def RightAt (n : Nat) : Prop := ∀ (st : Bool) (z : MExpr) (cz : List Value) (w : World), SizeOf.sizeOf z < n -> z.d.bulk <= 1048576 -> Rep w z.d cz ->
 Calls Tryz.prog 20 #[.agg cz.toArray, .bool st] w fun e w' => e = .returned (.bool (prB (okR n st z))) /\ Ext w w'
theorem l3Messages_at (n : Nat) (IH : Hid (RightAt n)) (l : List MExpr) (v : Value) (w : World) (rl : Rep w (MExprs l) [v]) (hb : Hid (∀ m, m ∈ l -> m.d.bulk <= 1048576)) (hs : Hid (∀ m, m ∈ l -> ∀ z, z ∈ m.kids -> SizeOf.sizeOf z < n)) :
 Calls Tryz.prog 79 #[v] w fun e w' => e = .returned (.bool (prB (msgsOk n l))) /\ Ext w w' := by
 obtain ⟨ao, ca, ba, oa, h1, hla, hma, pa, ha⟩ := Rep.slmap rl
 simp only [List.cons.injEq, and_true] at h1
 subst h1
 clear rl
 unfold maxLen at hma
 go_enter Tryz.func79, Tryz.ntmps79
 go_wp2_with fail
 go_loopw [3, 4, 5] (fun iv pv jv wr => ∃ k : Nat, k <= l.length /\ iv = .int .i64 k /\ Ext w wr /\ Hid (∀ j (hj : j < k) (hl : j < l.length), msgHead l[j] /\ ∀ z, z ∈ l[j].kids -> okR n false z)) (fun iv _ _ _ => l.length - (intOf iv).toNat)
 case atStart => exact ⟨0, Nat.zero_le _, rfl, XR _, LH fun j hj => by omega⟩
 case round =>
  obtain ⟨k, hk, rfl, hx, hR⟩ := hrel
  by_cases hlt : k < l.length
  rotate_left
  · go_wp2_with fail
    go_ret
    exact ⟨ret_bool (Eq.symm (prB_tt fun m hm => by
     obtain ⟨j, hj, rfl⟩ := List.mem_iff_getElem.1 hm
     exact hR.out j (by omega) hj)), hx⟩
  obtain rfl := pa (by omega)
  obtain ⟨ea, la, c1, ra⟩ := ha k l[k] (by simp [hlt])
  obtain ⟨aa0, cc0, aa1, cc1, rfl, rn, rk⟩ := MExpr.op_en ra
  have a0 := hx.cell (show w.cell? ⟨ba, oa + k * 5, none⟩ = some _ from c1 0 (by omega))
  have a1 := hx.cell (show w.cell? ⟨ba, oa + k * 5 + 1, none⟩ = some _ from c1 1 (by omega))
  have a2 := hx.cell (show w.cell? ⟨ba, oa + k * 5 + 2, none⟩ = some _ from c1 2 (by omega))
  have a3 := hx.cell (show w.cell? ⟨ba, oa + k * 5 + 3, none⟩ = some _ from c1 3 (by omega))
  have a4 := hx.cell (show w.cell? ⟨ba, oa + k * 5 + 4, none⟩ = some _ from c1 4 (by omega))
  clear c1 la
  have HB := LH (hb.out l[k] (List.getElem_mem hlt))
  have HS := LH (hs.out l[k] (List.getElem_mem hlt))
  have ht : l[k].text.size <= 1048576 := Nat.le_trans (MExpr.bulk_text _) HB.out
  have hkl : l[k].kids.length <= 1048576 := Nat.le_trans (MExpr.bulk_kids _) HB.out
  have HM := LH (show l[k] ∈ l from List.getElem_mem hlt)
  clear ha pa ra rn
  generalize hM0 : l[k] = M at *
  have hM := LH hM0; clear hM0
  go_wp2_with fail
  generalize hW : World.alloc wr _ = W1
  have c0 : W1.cell? ⟨wr.heap.size, 0, none⟩ = some (.int .i64 M.kind) := by rw [<- hW]; simp
  have c1 : W1.cell? ⟨wr.heap.size, 1, none⟩ = some (.string M.text) := by rw [<- hW]; simp
  have c2 : W1.cell? ⟨wr.heap.size, 2, none⟩ = some (.int .i64 M.number) := by rw [<- hW]; simp
  have c3 : W1.cell? ⟨wr.heap.size, 3, none⟩ = some (.slice aa0 M.names.length cc0) := by rw [<- hW]; simp
  have c4 : W1.cell? ⟨wr.heap.size, 4, none⟩ = some (.slice aa1 M.kids.length cc1) := by rw [<- hW]; simp
  have E1 : Ext wr W1 := by rw [<- hW]; exact (XR wr).alloc _
  clear hW a0 a1 a2 a3 a4
  by_cases h1 : M.kind = 6
  rotate_left
  · have t1 := int_nen h1
    have H1 := LH h1; clear h1
    have gc0 := reg (XR _) c0
    have gc1 := reg (XR _) c1
    have gc2 := reg (XR _) c2
    have gc3 := reg (XR _) c3
    have gc4 := reg (XR _) c4
    refine wp_region_quiet_below (by kernel_rfl) (by kernel_rfl) ?_
    repeat (go_big_quiet_step (exact Calls.regrown_of (spec_CountArgs_any _ _ ht)))
    refine wpQuiet_nil ?_
    clear gc0 gc1 gc2 gc3 gc4
    intro _ hw'
    obtain ⟨pw, hw''⟩ := hw'
    subst hw''
    have X1 := regx W1 pw
    generalize hW2 : «Sort».grow (redrawn W1 pw.d) pw.os = W2 at *
    clear hW2
    go_wp2_with fail
    go_ret
    exact ⟨ret_bool (Eq.symm (prB_ff fun h => H1.out (h M HM.out).1.1)), hx.trans (E1.trans X1)⟩
  have t1 := int_eqn h1
  by_cases h2 : M.number = 0
  rotate_left
  · have t2 := int_nen h2
    have H2 := LH h2; clear h2
    have gc0 := reg (XR _) c0
    have gc1 := reg (XR _) c1
    have gc2 := reg (XR _) c2
    have gc3 := reg (XR _) c3
    have gc4 := reg (XR _) c4
    refine wp_region_quiet_below (by kernel_rfl) (by kernel_rfl) ?_
    repeat (go_big_quiet_step (exact Calls.regrown_of (spec_CountArgs_any _ _ ht)))
    refine wpQuiet_nil ?_
    clear gc0 gc1 gc2 gc3 gc4
    intro _ hw'
    obtain ⟨pw, hw''⟩ := hw'
    subst hw''
    have X1 := regx W1 pw
    generalize hW2 : «Sort».grow (redrawn W1 pw.d) pw.os = W2 at *
    clear hW2
    go_wp2_with fail
    go_ret
    exact ⟨ret_bool (Eq.symm (prB_ff fun h => H2.out (h M HM.out).1.2.1)), hx.trans (E1.trans X1)⟩
  have t2 := int_eqn h2
  by_cases h3 : M.names = []
  rotate_left
  · have t3 : 0 < M.names.length := List.length_pos_iff.2 h3
    have H3 := LH h3
    have gc0 := reg (XR _) c0
    have gc1 := reg (XR _) c1
    have gc2 := reg (XR _) c2
    have gc3 := reg (XR _) c3
    have gc4 := reg (XR _) c4
    refine wp_region_quiet_below (by kernel_rfl) (by kernel_rfl) ?_
    repeat (go_big_quiet_step (exact Calls.regrown_of (spec_CountArgs_any _ _ ht)))
    refine wpQuiet_nil ?_
    clear gc0 gc1 gc2 gc3 gc4
    intro _ hw'
    obtain ⟨pw, hw''⟩ := hw'
    subst hw''
    have X1 := regx W1 pw
    generalize hW2 : «Sort».grow (redrawn W1 pw.d) pw.os = W2 at *
    clear hW2
    go_wp2_with fail
    go_ret
    exact ⟨ret_bool (Eq.symm (prB_ff fun h => H3.out (h M HM.out).1.2.2.1)), hx.trans (E1.trans X1)⟩
  have t3 : (0 < M.names.length) = False := by rw [h3]; simp
  have H1 := LH h1; have H2 := LH h2; have H3 := LH h3
  by_cases h4 : 0 <= argsB M.text
  rotate_left
  · have t4 : argsB M.text < 0 := by omega
    have H4 := LH h4; clear h4
    have gc0 := reg (XR _) c0
    have gc1 := reg (XR _) c1
    have gc2 := reg (XR _) c2
    have gc3 := reg (XR _) c3
    have gc4 := reg (XR _) c4
    refine wp_region_quiet_below (by kernel_rfl) (by kernel_rfl) ?_
    repeat (go_big_quiet_step (exact Calls.regrown_of (spec_CountArgs_any _ _ ht)))
    refine wpQuiet_nil ?_
    clear gc0 gc1 gc2 gc3 gc4
    intro _ hw'
    obtain ⟨pw, hw''⟩ := hw'
    subst hw''
    have X1 := regx W1 pw
    generalize hW2 : «Sort».grow (redrawn W1 pw.d) pw.os = W2 at *
    clear hW2
    go_wp2_with fail
    go_ret
    exact ⟨ret_bool (Eq.symm (prB_ff fun h => absurd (h M HM.out).1.2.2.2.1 (by have := H4.out; omega))), hx.trans (E1.trans X1)⟩
  have t4 : (argsB M.text < 0) = False := by simp; omega
  by_cases h5 : (M.kids.length : Int) = argsB M.text
  rotate_left
  · have t5 := int_nen h5
    have H5 := LH h5; clear h5
    have gc0 := reg (XR _) c0
    have gc1 := reg (XR _) c1
    have gc2 := reg (XR _) c2
    have gc3 := reg (XR _) c3
    have gc4 := reg (XR _) c4
    refine wp_region_quiet_below (by kernel_rfl) (by kernel_rfl) ?_
    repeat (go_big_quiet_step (exact Calls.regrown_of (spec_CountArgs_any _ _ ht)))
    refine wpQuiet_nil ?_
    clear gc0 gc1 gc2 gc3 gc4
    intro _ hw'
    obtain ⟨pw, hw''⟩ := hw'
    subst hw''
    have X1 := regx W1 pw
    generalize hW2 : «Sort».grow (redrawn W1 pw.d) pw.os = W2 at *
    clear hW2
    go_wp2_with fail
    go_ret
    exact ⟨ret_bool (Eq.symm (prB_ff fun h => H5.out (h M HM.out).1.2.2.2.2)), hx.trans (E1.trans X1)⟩
  have t5 := int_eqn h5
  have HH : Hid (msgHead M) := LH ⟨h1, h2, h3, h4, h5⟩
  clear h1 h2 h3 h4 h5 H1 H2 H3
  have gc0 := reg (XR _) c0
  have gc1 := reg (XR _) c1
  have gc2 := reg (XR _) c2
  have gc3 := reg (XR _) c3
  have gc4 := reg (XR _) c4
  refine wp_region_quiet_below (by kernel_rfl) (by kernel_rfl) ?_
  repeat (go_big_quiet_step (exact Calls.regrown_of (spec_CountArgs_any _ _ ht)))
  refine wpQuiet_nil ?_
  clear gc0 gc1 gc2 gc3 gc4
  intro _ hw'
  obtain ⟨pw, hw''⟩ := hw'
  subst hw''
  have X1 := regx W1 pw
  generalize hW2 : «Sort».grow (redrawn W1 pw.d) pw.os = W2 at *
  clear hW2
  have d4 := X1.cell c4
  have e2 := hx.trans (E1.trans X1)
  clear c0 c1 c2 c3 c4 t1 t2 t3 t4 t5
  obtain ⟨ao2, ca2, ba2, oa2, h1, hla2, hma2, pa2, ha2⟩ := Rep.slmap rk
  simp only [List.cons.injEq, and_true, Value.slice.injEq] at h1
  obtain ⟨rfl, -, rfl⟩ := h1
  unfold maxLen at hma2
  go_wp2_with fail
  go_loopw [5] (fun jv wq => ∃ j : Nat, j <= M.kids.length /\ jv = .int .i64 j /\ Ext W2 wq /\ Hid (∀ i (hi : i < j) (hl : i < M.kids.length), okR n false M.kids[i])) (fun jv _ => M.kids.length - (intOf jv).toNat)
  case atStart => exact ⟨0, Nat.zero_le _, rfl, XR _, LH fun j hj => by omega⟩
  case round =>
   obtain ⟨j, hj, rfl, hy, hQ⟩ := hrel
   have d5 := hy.cell d4
   by_cases hjl : j < M.kids.length
   · obtain rfl := pa2 (by omega)
     obtain ⟨eb, lb, cb, rb⟩ := ha2 j M.kids[j] (by simp [hjl])
     obtain ⟨ab0, cb0, ab1, cb1, rfl, -, -⟩ := MExpr.op_en rb
     have hy2 := e2.trans hy
     have b0 := hy2.cell (show w.cell? ⟨ba2, oa2 + j * 5, none⟩ = some _ from cb 0 (by omega))
     have b1 := hy2.cell (show w.cell? ⟨ba2, oa2 + j * 5 + 1, none⟩ = some _ from cb 1 (by omega))
     have b2 := hy2.cell (show w.cell? ⟨ba2, oa2 + j * 5 + 2, none⟩ = some _ from cb 2 (by omega))
     have b3 := hy2.cell (show w.cell? ⟨ba2, oa2 + j * 5 + 3, none⟩ = some _ from cb 3 (by omega))
     have b4 := hy2.cell (show w.cell? ⟨ba2, oa2 + j * 5 + 4, none⟩ = some _ from cb 4 (by omega))
     have con := IH.out false M.kids[j] _ _ (HS.out _ (List.getElem_mem hjl)) (Nat.le_trans (MExpr.bulk_kid (List.getElem_mem hjl)) HB.out) (Rep.ext hy2 rb)
     clear cb lb ha2 pa2 rk
     cases hg : prB (okR n false M.kids[j])
     · rw [hg] at con
       have HG := LH hg; clear hg
       go_wp2_with fail
       refine con.mono ?_
       rintro e w3 ⟨rfl, hx3⟩
       go_wp2_with fail
       go_ret
       exact ⟨ret_bool (Eq.symm (prB_ff fun h => by
        have := (h M HM.out).2 _ (List.getElem_mem hjl)
        have h2 := prB_tt this
        rw [HG.out] at h2; cases h2)), hy2.trans hx3⟩
     · rw [hg] at con
       have HG := LH hg; clear hg
       go_wp2_with fail
       refine con.mono ?_
       rintro e w3 ⟨rfl, hx3⟩
       go_wp2_with fail
       go_roundw
       case rel => exact ⟨j + 1, by omega, by go_num, hy.trans hx3, LH fun i hi hl => by
        by_cases h : i < j
        · exact hQ.out i h hl
        · obtain rfl : i = j := by omega
          exact prB_iff.1 HG.out⟩
       case measure => simp [intOf]; omega
   · go_wp2_with fail
     go_roundw
     case rel => exact ⟨k + 1, by omega, by go_num, e2.trans hy, LH fun i hi hl => by
      by_cases h : i < k
      · exact hR.out i h hl
      · obtain rfl : i = k := by omega
        rw [hM.out]
        exact ⟨HH.out, fun z hz => by
         obtain ⟨q, hq, rfl⟩ := List.mem_iff_getElem.1 hz
         exact hQ.out q (by omega) hq⟩⟩
     case measure => simp [intOf]; omega
theorem l3Node_at (n : Nat) (IH : Hid (RightAt n)) (x : MExpr) (cx : List Value) (w : World) (rx : Rep w x.d cx) (hb : x.d.bulk <= 1048576) (hs : Hid (∀ m, m ∈ x.kids -> ∀ z, z ∈ m.kids -> SizeOf.sizeOf z < n)) :
 Calls Tryz.prog 45 #[.agg cx.toArray] w fun e w' => e = .returned (.bool (prB (nodeOk n x))) /\ Ext w w' := by
 obtain ⟨an, cn, ak, ck, rfl, rn, rk⟩ := MExpr.op_en rx
 have ht := Nat.le_trans (MExpr.bulk_text x) hb
 have hkl := Nat.le_trans (MExpr.bulk_kids x) hb
 have hnl := Nat.le_trans (MExpr.bulk_names x) hb
 have hbk := LH (fun m (hm : m ∈ x.kids) => Nat.le_trans (MExpr.bulk_kid hm) hb)
 have hbn := LH (fun m (hm : m ∈ x.names) => Nat.le_trans (MExpr.bulk_name hm) hb)
 have hab := argsB_bd x.text
 clear rx hb
 obtain ⟨K, t, num, nm, kids⟩ := x
 simp only at *
 by_cases h1 : K = 1
 · subst h1
   by_cases hnm : nm = []
   rotate_left
   · have hn0 : 0 < nm.length := List.length_pos_iff.2 hnm
     have hp := LH (prB_ff (p := nodeOk n ⟨1, t, num, nm, kids⟩) (by simp [nodeOk, headOk, hnm]))
     go_enter Tryz.func45, Tryz.ntmps45
     go_wp2_with fail
     go_ret
     exact ⟨ret_bool (by rw [hp.out]), (XR _).alloc _⟩
   subst hnm
   by_cases ht0 : t = ⟨#[]⟩
   rotate_left
   · have t0 : ¬ t.toList = [] := fun h => ht0 (toList_inj (by simp [h]))
     have t0' : t.toList.isEmpty = false := by simpa using t0
     have hp := LH (prB_ff (p := nodeOk n ⟨1, t, num, [], kids⟩) (by simp [nodeOk, headOk, ht0]))
     go_enter Tryz.func45, Tryz.ntmps45
     go_wp2_with fail
     go_ret
     exact ⟨ret_bool (by rw [hp.out]), (XR _).alloc _⟩
   subst ht0
   cases hr : decide ((0 : Int) <= num /\ num <= 999999999)
   · have hr' := of_decide_eq_false hr
     have hp := LH (prB_ff (p := nodeOk n ⟨1, ⟨#[]⟩, num, [], kids⟩) (by intro h; exact hr' (h.1.2.2.2.1 rfl).2.1))
     go_enter Tryz.func45, Tryz.ntmps45
     go_wp2_with fail
     refine (l1In_any _ _ _ _).mono ?_
     rw [hr]
     rintro e w' ⟨rfl, rfl⟩
     go_wp2_with fail
     go_ret
     exact ⟨ret_bool (by rw [hp.out]), (XR _).alloc _⟩
   have hr' := of_decide_eq_true hr
   by_cases hk : kids = []
   · subst hk
     have hp := LH (prB_tt (p := nodeOk n ⟨1, ⟨#[]⟩, num, [], []⟩) (by simp [nodeOk, headOk, hr']))
     go_enter Tryz.func45, Tryz.ntmps45
     go_wp2_with fail
     refine (l1In_any _ _ _ _).mono ?_
     rw [hr]
     rintro e w' ⟨rfl, rfl⟩
     go_wp2_with fail
     go_ret
     exact ⟨ret_bool (by rw [hp.out]), (XR _).alloc _⟩
   · have hk0 : 0 < kids.length := List.length_pos_iff.2 hk
     have hk1 := int_ne (show ¬ (kids.length : Int) = 0 by omega)
     have hp := LH (prB_ff (p := nodeOk n ⟨1, ⟨#[]⟩, num, [], kids⟩) (by simp [nodeOk, headOk, hk]))
     go_enter Tryz.func45, Tryz.ntmps45
     go_wp2_with fail
     refine (l1In_any _ _ _ _).mono ?_
     rw [hr]
     rintro e w' ⟨rfl, rfl⟩
     go_wp2_with fail
     go_ret
     exact ⟨ret_bool (by rw [hp.out]), (XR _).alloc _⟩
 by_cases h2 : K = 2
 · subst h2
   clear h1
   by_cases hnm : nm = []
   rotate_left
   · have hn0 : 0 < nm.length := List.length_pos_iff.2 hnm
     have hp := LH (prB_ff (p := nodeOk n ⟨2, t, num, nm, kids⟩) (by simp [nodeOk, headOk, hnm]))
     go_enter Tryz.func45, Tryz.ntmps45
     go_wp2_with fail
     go_ret
     exact ⟨ret_bool (by rw [hp.out]), (XR _).alloc _⟩
   subst hnm
   by_cases hnu : num = 0
   rotate_left
   · have n1 := int_nen hnu
     have hp := LH (prB_ff (p := nodeOk n ⟨2, t, num, [], kids⟩) (by simp [nodeOk, headOk, hnu]))
     go_enter Tryz.func45, Tryz.ntmps45
     go_wp2_with fail
     go_ret
     exact ⟨ret_bool (by rw [hp.out]), (XR _).alloc _⟩
   subst hnu
   cases hq : textB 40 t
   · skip
     have hp := LH (prB_ff (p := nodeOk n ⟨2, t, 0, [], kids⟩) (by simp [nodeOk, headOk, hq]))
     go_enter Tryz.func45, Tryz.ntmps45
     go_wp2_with fail
     refine (l3IsText_any t _ (by omega)).mono ?_
     rw [hq]
     rintro e w' ⟨rfl, rfl⟩
     go_wp2_with fail
     go_ret
     exact ⟨ret_bool (by rw [hp.out]), (XR _).alloc _⟩
   by_cases hk : kids = []
   · subst hk
     have hp := LH (prB_tt (p := nodeOk n ⟨2, t, 0, [], []⟩) (by simp [nodeOk, headOk, hq]))
     go_enter Tryz.func45, Tryz.ntmps45
     go_wp2_with fail
     refine (l3IsText_any t _ (by omega)).mono ?_
     rw [hq]
     rintro e w' ⟨rfl, rfl⟩
     go_wp2_with fail
     go_ret
     exact ⟨ret_bool (by rw [hp.out]), (XR _).alloc _⟩
   · have hk0 : 0 < kids.length := List.length_pos_iff.2 hk
     have hk1 := int_ne (show ¬ (kids.length : Int) = 0 by omega)
     have hp := LH (prB_ff (p := nodeOk n ⟨2, t, 0, [], kids⟩) (by simp [nodeOk, headOk, hk]))
     go_enter Tryz.func45, Tryz.ntmps45
     go_wp2_with fail
     refine (l3IsText_any t _ (by omega)).mono ?_
     rw [hq]
     rintro e w' ⟨rfl, rfl⟩
     go_wp2_with fail
     go_ret
     exact ⟨ret_bool (by rw [hp.out]), (XR _).alloc _⟩
 by_cases h3 : K = 3
 · subst h3
   clear h1 h2
   by_cases hnm : nm = []
   rotate_left
   · have hn0 : 0 < nm.length := List.length_pos_iff.2 hnm
     have hp := LH (prB_ff (p := nodeOk n ⟨3, t, num, nm, kids⟩) (by simp [nodeOk, headOk, hnm]))
     go_enter Tryz.func45, Tryz.ntmps45
     go_wp2_with fail
     go_ret
     exact ⟨ret_bool (by rw [hp.out]), (XR _).alloc _⟩
   subst hnm
   by_cases hnu : num = 0
   rotate_left
   · have n1 := int_nen hnu
     have hp := LH (prB_ff (p := nodeOk n ⟨3, t, num, [], kids⟩) (by simp [nodeOk, headOk, hnu]))
     go_enter Tryz.func45, Tryz.ntmps45
     go_wp2_with fail
     go_ret
     exact ⟨ret_bool (by rw [hp.out]), (XR _).alloc _⟩
   subst hnu
   cases hq : selB t
   · skip
     have hp := LH (prB_ff (p := nodeOk n ⟨3, t, 0, [], kids⟩) (by simp [nodeOk, headOk, hq]))
     go_enter Tryz.func45, Tryz.ntmps45
     go_wp2_with fail
     refine (spec_IsSelector_any t _ ht).mono ?_
     rw [hq]
     rintro e w' ⟨rfl, hx⟩
     go_wp2_with fail
     go_ret
     exact ⟨ret_bool (by rw [hp.out]), ((XR _).alloc _).trans hx⟩
   by_cases hk : kids = []
   · subst hk
     have hp := LH (prB_tt (p := nodeOk n ⟨3, t, 0, [], []⟩) (by simp [nodeOk, headOk, hq]))
     go_enter Tryz.func45, Tryz.ntmps45
     go_wp2_with fail
     refine (spec_IsSelector_any t _ ht).mono ?_
     rw [hq]
     rintro e w' ⟨rfl, hx⟩
     go_wp2_with fail
     go_ret
     exact ⟨ret_bool (by rw [hp.out]), ((XR _).alloc _).trans hx⟩
   · have hk0 : 0 < kids.length := List.length_pos_iff.2 hk
     have hk1 := int_ne (show ¬ (kids.length : Int) = 0 by omega)
     have hp := LH (prB_ff (p := nodeOk n ⟨3, t, 0, [], kids⟩) (by simp [nodeOk, headOk, hk]))
     go_enter Tryz.func45, Tryz.ntmps45
     go_wp2_with fail
     refine (spec_IsSelector_any t _ ht).mono ?_
     rw [hq]
     rintro e w' ⟨rfl, hx⟩
     go_wp2_with fail
     go_ret
     exact ⟨ret_bool (by rw [hp.out]), ((XR _).alloc _).trans hx⟩
 by_cases h4 : K = 4
 · subst h4
   clear h1 h2 h3
   by_cases hnm : nm = []
   rotate_left
   · have hn0 : 0 < nm.length := List.length_pos_iff.2 hnm
     have hp := LH (prB_ff (p := nodeOk n ⟨4, t, num, nm, kids⟩) (by simp [nodeOk, headOk, hnm]))
     go_enter Tryz.func45, Tryz.ntmps45
     go_wp2_with fail
     go_ret
     exact ⟨ret_bool (by rw [hp.out]), (XR _).alloc _⟩
   subst hnm
   by_cases hnu : num = 0
   rotate_left
   · have n1 := int_nen hnu
     have hp := LH (prB_ff (p := nodeOk n ⟨4, t, num, [], kids⟩) (by simp [nodeOk, headOk, hnu]))
     go_enter Tryz.func45, Tryz.ntmps45
     go_wp2_with fail
     go_ret
     exact ⟨ret_bool (by rw [hp.out]), (XR _).alloc _⟩
   subst hnu
   cases hq : nameB t
   · skip
     have hp := LH (prB_ff (p := nodeOk n ⟨4, t, 0, [], kids⟩) (by simp [nodeOk, headOk, hq]))
     go_enter Tryz.func45, Tryz.ntmps45
     go_wp2_with fail
     refine (spec_IsName_any t _ (by omega)).mono ?_
     rw [hq]
     rintro e w' ⟨rfl, hx⟩
     go_wp2_with fail
     go_ret
     exact ⟨ret_bool (by rw [hp.out]), ((XR _).alloc _).trans hx⟩
   by_cases hk : kids = []
   · subst hk
     have hp := LH (prB_tt (p := nodeOk n ⟨4, t, 0, [], []⟩) (by simp [nodeOk, headOk, hq]))
     go_enter Tryz.func45, Tryz.ntmps45
     go_wp2_with fail
     refine (spec_IsName_any t _ (by omega)).mono ?_
     rw [hq]
     rintro e w' ⟨rfl, hx⟩
     go_wp2_with fail
     go_ret
     exact ⟨ret_bool (by rw [hp.out]), ((XR _).alloc _).trans hx⟩
   · have hk0 : 0 < kids.length := List.length_pos_iff.2 hk
     have hk1 := int_ne (show ¬ (kids.length : Int) = 0 by omega)
     have hp := LH (prB_ff (p := nodeOk n ⟨4, t, 0, [], kids⟩) (by simp [nodeOk, headOk, hk]))
     go_enter Tryz.func45, Tryz.ntmps45
     go_wp2_with fail
     refine (spec_IsName_any t _ (by omega)).mono ?_
     rw [hq]
     rintro e w' ⟨rfl, hx⟩
     go_wp2_with fail
     go_ret
     exact ⟨ret_bool (by rw [hp.out]), ((XR _).alloc _).trans hx⟩
 by_cases h5 : K = 5
 · subst h5
   clear h1 h2 h3 h4
   by_cases hnm : nm = []
   rotate_left
   · have hn0 : 0 < nm.length := List.length_pos_iff.2 hnm
     have hp := LH (prB_ff (p := nodeOk n ⟨5, t, num, nm, kids⟩) (by simp [nodeOk, headOk, hnm]))
     go_enter Tryz.func45, Tryz.ntmps45
     go_wp2_with fail
     go_ret
     exact ⟨ret_bool (by rw [hp.out]), (XR _).alloc _⟩
   subst hnm
   by_cases hnu : num = 0
   rotate_left
   · have n1 := int_nen hnu
     have hp := LH (prB_ff (p := nodeOk n ⟨5, t, num, [], kids⟩) (by simp [nodeOk, headOk, hnu]))
     go_enter Tryz.func45, Tryz.ntmps45
     go_wp2_with fail
     go_ret
     exact ⟨ret_bool (by rw [hp.out]), (XR _).alloc _⟩
   subst hnu
   cases hq : nameB t
   · skip
     have hp := LH (prB_ff (p := nodeOk n ⟨5, t, 0, [], kids⟩) (by simp [nodeOk, headOk, hq]))
     go_enter Tryz.func45, Tryz.ntmps45
     go_wp2_with fail
     refine (spec_IsName_any t _ (by omega)).mono ?_
     rw [hq]
     rintro e w' ⟨rfl, hx⟩
     go_wp2_with fail
     go_ret
     exact ⟨ret_bool (by rw [hp.out]), ((XR _).alloc _).trans hx⟩
   by_cases hk : kids.length = 1
   · have hk0 := int_eq (show (kids.length : Int) = 1 by omega)
     have HK := LH hk; clear hk
     have hp := LH (prB_tt (p := nodeOk n ⟨5, t, 0, [], kids⟩) (by simp [nodeOk, headOk, hq, HK.out]))
     go_enter Tryz.func45, Tryz.ntmps45
     go_wp2_with fail
     refine (spec_IsName_any t _ (by omega)).mono ?_
     rw [hq]
     rintro e w' ⟨rfl, hx⟩
     go_wp2_with fail
     go_ret
     exact ⟨ret_bool (by rw [hp.out]), ((XR _).alloc _).trans hx⟩
   · have hk1 := int_ne (show ¬ (kids.length : Int) = 1 by omega)
     have HK := LH hk; clear hk
     have hp := LH (prB_ff (p := nodeOk n ⟨5, t, 0, [], kids⟩) (by simp [nodeOk, headOk, HK.out]))
     go_enter Tryz.func45, Tryz.ntmps45
     go_wp2_with fail
     refine (spec_IsName_any t _ (by omega)).mono ?_
     rw [hq]
     rintro e w' ⟨rfl, hx⟩
     go_wp2_with fail
     go_ret
     exact ⟨ret_bool (by rw [hp.out]), ((XR _).alloc _).trans hx⟩
 by_cases h6 : K = 6
 · subst h6
   clear h1 h2 h3 h4 h5
   by_cases hnm : nm = []
   rotate_left
   · have hn0 : 0 < nm.length := List.length_pos_iff.2 hnm
     have hp := LH (prB_ff (p := nodeOk n ⟨6, t, num, nm, kids⟩) (by simp [nodeOk, headOk, hnm]))
     go_enter Tryz.func45, Tryz.ntmps45
     go_wp2_with fail
     go_ret
     exact ⟨ret_bool (by rw [hp.out]), (XR _).alloc _⟩
   subst hnm
   by_cases hnu : num = 0
   rotate_left
   · have n1 := int_nen hnu
     have hp := LH (prB_ff (p := nodeOk n ⟨6, t, num, [], kids⟩) (by simp [nodeOk, headOk, hnu]))
     go_enter Tryz.func45, Tryz.ntmps45
     go_wp2_with fail
     go_ret
     exact ⟨ret_bool (by rw [hp.out]), (XR _).alloc _⟩
   subst hnu
   by_cases hq : (kids.length : Int) = argsB t + 1
   rotate_left
   · have q1 := int_ne hq
     have HQ := LH hq; clear hq
     have hp := LH (prB_ff (p := nodeOk n ⟨6, t, 0, [], kids⟩) (by simp [nodeOk, headOk, HQ.out]))
     go_enter Tryz.func45, Tryz.ntmps45
     go_wp2_with fail
     refine (spec_CountArgs_any t _ ht).mono ?_
     rintro e w' ⟨rfl, hx⟩
     go_wp2_with fail
     go_ret
     exact ⟨ret_bool (by rw [hp.out]), ((XR _).alloc _).trans hx⟩
   have q1 := int_eq hq
   have HQ := LH hq; clear hq
   by_cases hk : 0 < kids.length
   · have HK := LH hk
     have hp := LH (prB_tt (p := nodeOk n ⟨6, t, 0, [], kids⟩) (by simp [nodeOk, headOk, HQ.out]; have := HQ.out; have := HK.out; omega))
     go_enter Tryz.func45, Tryz.ntmps45
     go_wp2_with fail
     refine (spec_CountArgs_any t _ ht).mono ?_
     rintro e w' ⟨rfl, hx⟩
     go_wp2_with fail
     go_ret
     exact ⟨ret_bool (by rw [hp.out]), ((XR _).alloc _).trans hx⟩
   · have HK := LH hk; clear hk
     have k1 : (0 < kids.length) = False := eq_false HK.out
     have hp := LH (prB_ff (p := nodeOk n ⟨6, t, 0, [], kids⟩) (by intro h; exact HK.out (h.1.2.2.2.2.2.2.2.2.1 rfl).2))
     go_enter Tryz.func45, Tryz.ntmps45
     go_wp2_with fail
     refine (spec_CountArgs_any t _ ht).mono ?_
     rintro e w' ⟨rfl, hx⟩
     go_wp2_with fail
     go_ret
     exact ⟨ret_bool (by rw [hp.out]), ((XR _).alloc _).trans hx⟩
 by_cases h7 : K = 7
 · subst h7
   clear h1 h2 h3 h4 h5 h6
   by_cases hnm : nm = []
   rotate_left
   · have hn0 : 0 < nm.length := List.length_pos_iff.2 hnm
     have hp := LH (prB_ff (p := nodeOk n ⟨7, t, num, nm, kids⟩) (by simp [nodeOk, headOk, hnm]))
     go_enter Tryz.func45, Tryz.ntmps45
     go_wp2_with fail
     go_ret
     exact ⟨ret_bool (by rw [hp.out]), (XR _).alloc _⟩
   subst hnm
   by_cases hnu : num = 0
   rotate_left
   · have n1 := int_nen hnu
     have hp := LH (prB_ff (p := nodeOk n ⟨7, t, num, [], kids⟩) (by simp [nodeOk, headOk, hnu]))
     go_enter Tryz.func45, Tryz.ntmps45
     go_wp2_with fail
     go_ret
     exact ⟨ret_bool (by rw [hp.out]), (XR _).alloc _⟩
   subst hnu
   by_cases ht0 : t = ⟨#[]⟩
   rotate_left
   · have t0 : ¬ t.toList = [] := fun h => ht0 (toList_inj (by simp [h]))
     have t0' : t.toList.isEmpty = false := by simpa using t0
     have hp := LH (prB_ff (p := nodeOk n ⟨7, t, 0, [], kids⟩) (by simp [nodeOk, headOk, ht0]))
     go_enter Tryz.func45, Tryz.ntmps45
     go_wp2_with fail
     go_ret
     exact ⟨ret_bool (by rw [hp.out]), (XR _).alloc _⟩
   subst ht0
   by_cases hk : 3 <= kids.length
   rotate_left
   · have k1 : kids.length < 3 := by omega
     have hp := LH (prB_ff (p := nodeOk n ⟨7, ⟨#[]⟩, 0, [], kids⟩) (by intro h; exact hk (h.1.2.2.2.2.2.2.2.2.2.1 rfl).2))
     go_enter Tryz.func45, Tryz.ntmps45
     go_wp2_with fail
     go_ret
     exact ⟨ret_bool (by rw [hp.out]), (XR _).alloc _⟩
   obtain ⟨z, ks, rfl⟩ : ∃ z ks, kids = z :: ks := by
    cases kids with
    | nil => simp at hk
    | cons z ks => exact ⟨z, ks, rfl⟩
   obtain ⟨ao, ca, ba, oa, e1, hla, hma, pa, -⟩ := Rep.slmap rk
   simp only [List.cons.injEq, and_true, Value.slice.injEq] at e1
   obtain ⟨rfl, -, rfl⟩ := e1
   obtain rfl := pa (by simp)
   clear pa
   have rt := Rep.sl_tail (show Rep w (.sl 5 (z.d :: ks.map MExpr.d)) _ from rk)
   simp only [List.length_cons] at *
   unfold maxLen at hma
   have hb2 : Hid (∀ m, m ∈ ks -> m.d.bulk <= 1048576) := LH fun m hm => hbk.out m (List.mem_cons_of_mem _ hm)
   have hs2 : Hid (∀ m, m ∈ ks -> ∀ z, z ∈ m.kids -> SizeOf.sizeOf z < n) := LH fun m hm => hs m (List.mem_cons_of_mem _ hm)
   have hH : Hid (prB (nodeOk n ⟨7, ⟨#[]⟩, 0, [], z :: ks⟩) = prB (msgsOk n ks)) := LH (by
    congr 1
    simp only [nodeOk, headOk, eq_iff_iff, List.tail_cons]
    exact ⟨fun h => h.2 trivial, fun h => ⟨by simp; omega, fun _ => h⟩⟩)
   clear rk rn hs hbk hbn hab hnl
   go_enter Tryz.func45, Tryz.ntmps45
   go_wp2_with fail
   refine (l3Messages_at n IH ks _ _ (Rep.ext ((XR w).alloc _) rt) hb2 hs2).mono ?_
   rintro e w' ⟨rfl, hx⟩
   go_wp2_with fail
   go_ret
   exact ⟨ret_bool (by rw [hH.out]), ((XR _).alloc _).trans hx⟩
 by_cases h8 : K = 8
 · subst h8
   clear h1 h2 h3 h4 h5 h6 h7
   obtain ⟨ao, ca, ba, oa, e1, hla, hma, pa, ha⟩ := Rep.strs rn
   simp only [List.cons.injEq, and_true, Value.slice.injEq] at e1
   obtain ⟨rfl, -, rfl⟩ := e1
   unfold maxLen at hma
   clear rn rk hs hbk hab hkl
   have hH : Hid (nodeOk n ⟨8, t, num, nm, kids⟩ ↔ (∀ s, s ∈ nm -> nameB s = true) /\ t = ⟨#[]⟩ /\ 0 <= num /\ num <= (nm.length : Int)) := LH (by simp [nodeOk, headOk])
   go_enter Tryz.func45, Tryz.ntmps45
   go_wp2_with fail
   go_loopw [4] (fun iv wr => ∃ k : Nat, k <= nm.length /\ iv = .int .i64 k /\ Ext w wr /\ wr.cell? ⟨w.heap.size, 1, none⟩ = some (.string t) /\ wr.cell? ⟨w.heap.size, 2, none⟩ = some (.int .i64 num) /\ wr.cell? ⟨w.heap.size, 3, none⟩ = some (.slice an nm.length cn) /\ Hid (∀ j (hj : j < k) (hl : j < nm.length), nameB nm[j] = true)) (fun iv _ => nm.length - (intOf iv).toNat)
   case atStart => exact ⟨0, Nat.zero_le _, rfl, (XR w).alloc _, by simp, by simp, by simp, LH fun j hj => by omega⟩
   case round =>
    obtain ⟨k, hk, rfl, hx, m1, m2, m3, hR⟩ := hrel
    by_cases hlt : k < nm.length
    · obtain rfl := pa (by omega)
      have a0 := hx.cell (ha k nm[k] (by simp [hlt]))
      have hsz : nm[k].size <= 9223372036854775806 := by have := hbn.out nm[k] (List.getElem_mem hlt); omega
      clear ha pa
      cases hq : nameB nm[k]
      · have HQ := LH hq; clear hq
        go_wp2_with fail
        refine (spec_IsName_any nm[k] _ hsz).mono ?_
        rw [HQ.out]
        rintro e w' ⟨rfl, hx3⟩
        go_wp2_with fail
        go_ret
        exact ⟨ret_bool (Eq.symm (prB_ff fun h => by have := (hH.out.1 h).1 _ (List.getElem_mem hlt); rw [HQ.out] at this; cases this)), hx.trans hx3⟩
      · have HQ := LH hq; clear hq
        go_wp2_with fail
        refine (spec_IsName_any nm[k] _ hsz).mono ?_
        rw [HQ.out]
        rintro e w' ⟨rfl, hx3⟩
        go_wp2_with fail
        go_roundw
        case rel => exact ⟨k + 1, by omega, by go_num, hx.trans hx3, Ext.cell hx3 m1, Ext.cell hx3 m2, Ext.cell hx3 m3, LH fun j hj hl => by
         by_cases h : j < k
         · exact hR.out j h hl
         · obtain rfl : j = k := by omega
           exact HQ.out⟩
        case measure => simp [intOf]; omega
    · have hA : Hid (∀ s, s ∈ nm -> nameB s = true) := LH fun s hs => by
       obtain ⟨j, hj, rfl⟩ := List.mem_iff_getElem.1 hs
       exact hR.out j (by omega) hj
      by_cases ht0 : t = ⟨#[]⟩
      · subst ht0
        cases hr : decide ((0 : Int) <= num /\ num <= (nm.length : Int))
        all_goals
         have HR := LH hr; clear hr
         go_wp2_with fail
         refine (l1In_any _ _ _ _).mono ?_
         rw [HR.out]
         rintro e w' ⟨rfl, rfl⟩
         go_wp2_with fail
         go_ret
        · exact ⟨ret_bool (Eq.symm (prB_ff fun h => of_decide_eq_false HR.out (hH.out.1 h).2.2)), hx⟩
        · exact ⟨ret_bool (Eq.symm (prB_tt (hH.out.2 ⟨hA.out, by first | rfl | trivial, of_decide_eq_true HR.out⟩))), hx⟩
      · have t0 : ¬ t.toList = [] := fun h => ht0 (toList_inj (by simp [h]))
        have t0' : t.toList.isEmpty = false := by simpa using t0
        have HT := LH ht0; clear ht0
        go_wp2_with fail
        go_ret
        exact ⟨ret_bool (Eq.symm (prB_ff fun h => HT.out (hH.out.1 h).2.1)), hx⟩
 by_cases h9 : K = 9
 · subst h9
   clear h1 h2 h3 h4 h5 h6 h7 h8
   by_cases hnm : nm = []
   rotate_left
   · have hn0 : 0 < nm.length := List.length_pos_iff.2 hnm
     have hp := LH (prB_ff (p := nodeOk n ⟨9, t, num, nm, kids⟩) (by simp [nodeOk, headOk, hnm]))
     go_enter Tryz.func45, Tryz.ntmps45
     go_wp2_with fail
     go_ret
     exact ⟨ret_bool (by rw [hp.out]), (XR _).alloc _⟩
   subst hnm
   by_cases hnu : num = 0
   rotate_left
   · have n1 := int_nen hnu
     have hp := LH (prB_ff (p := nodeOk n ⟨9, t, num, [], kids⟩) (by simp [nodeOk, headOk, hnu]))
     go_enter Tryz.func45, Tryz.ntmps45
     go_wp2_with fail
     go_ret
     exact ⟨ret_bool (by rw [hp.out]), (XR _).alloc _⟩
   subst hnu
   by_cases ht0 : t = ⟨#[]⟩
   rotate_left
   · have t0 : ¬ t.toList = [] := fun h => ht0 (toList_inj (by simp [h]))
     have t0' : t.toList.isEmpty = false := by simpa using t0
     have hp := LH (prB_ff (p := nodeOk n ⟨9, t, 0, [], kids⟩) (by simp [nodeOk, headOk, ht0]))
     go_enter Tryz.func45, Tryz.ntmps45
     go_wp2_with fail
     go_ret
     exact ⟨ret_bool (by rw [hp.out]), (XR _).alloc _⟩
   subst ht0
   by_cases hk : kids.length = 1
   · have hk0 := int_eq (show (kids.length : Int) = 1 by omega)
     have HK := LH hk; clear hk
     have hp := LH (prB_tt (p := nodeOk n ⟨9, ⟨#[]⟩, 0, [], kids⟩) (by simp [nodeOk, headOk, HK.out]))
     go_enter Tryz.func45, Tryz.ntmps45
     go_wp2_with fail
     go_ret
     exact ⟨ret_bool (by rw [hp.out]), (XR _).alloc _⟩
   · have hk1 := int_ne (show ¬ (kids.length : Int) = 1 by omega)
     have HK := LH hk; clear hk
     have hp := LH (prB_ff (p := nodeOk n ⟨9, ⟨#[]⟩, 0, [], kids⟩) (by simp [nodeOk, headOk, HK.out]))
     go_enter Tryz.func45, Tryz.ntmps45
     go_wp2_with fail
     go_ret
     exact ⟨ret_bool (by rw [hp.out]), (XR _).alloc _⟩
 have hp := LH (prB_ff (p := nodeOk n ⟨K, t, num, nm, kids⟩) (fun h => by have := h.1.2.2.1; simp only at this; omega))
 have e1 := int_ne h1
 have e2 := int_ne h2
 have e3 := int_ne h3
 have e4 := int_ne h4
 have e5 := int_ne h5
 have e6 := int_ne h6
 have e7 := int_ne h7
 have e8 := int_ne h8
 have e9 := int_ne h9
 have f1 := int_nen h1
 have f8 := int_nen h8
 clear h1 h2 h3 h4 h5 h6 h7 h8 h9 rn rk
 by_cases hnm : nm = []
 rotate_left
 · have hn0 : 0 < nm.length := List.length_pos_iff.2 hnm
   go_enter Tryz.func45, Tryz.ntmps45
   go_wp2_with fail
   go_ret
   exact ⟨ret_bool (by rw [hp.out]), (XR _).alloc _⟩
 subst hnm
 by_cases hnu : num = 0
 rotate_left
 · have n1 := int_nen hnu
   go_enter Tryz.func45, Tryz.ntmps45
   go_wp2_with fail
   go_ret
   exact ⟨ret_bool (by rw [hp.out]), (XR _).alloc _⟩
 subst hnu
 go_enter Tryz.func45, Tryz.ntmps45
 go_wp2_with fail
 go_ret
 exact ⟨ret_bool (by rw [hp.out]), (XR _).alloc _⟩
end Go.Proofs.YtndhpbjhkgdieaaGreatDoor
