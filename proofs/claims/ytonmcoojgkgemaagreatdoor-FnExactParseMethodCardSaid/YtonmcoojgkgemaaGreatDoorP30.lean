/-
  SEVERAL TEXTS IN ONE: CONTRACTS: IsMethod, of the program and of the reference; PLAIN: methods of a text.
  Conditions: those that each lemma states.
-/
import Derived.Test.YtonmcoojgkgemaaGreatDoorRows
import Derived.Lib.QuietBelow
import Derived.BigQuiet
import Derived.Deep.RegionHeld3
import Derived.Test.YtonmcoojgkgemaaGreatDoorP23
import Derived.Test.YtonmcoojgkgemaaGreatDoorP12
import Derived.Test.YtonmcoojgkgemaaGreatDoorParQ
namespace Go.Proofs.YtonmcoojgkgemaaGreatDoor
open Go.RowKit
set_option linter.unusedSimpArgs false
set_option linter.unusedVariables false

def MethOk (x : MMethod) : Prop := selB x.selector = true ∧ argsB x.selector = (x.params.length : Int) ∧ ExprOk (blockM x.params x.temps x.body)
theorem bulk_block {x : MMethod} (h : x.d.bulk ≤ 1048576) : (blockM x.params x.temps x.body).d.bulk ≤ 1048576 := by
  have e : (blockM x.params x.temps x.body).d.bulk + x.selector.size = x.d.bulk := by
    rw [MExpr.d_eq, MMethod.d_eq]
    simp only [blockM, D.bulk, D.bulkL, strs, MExprs, List.length_map, List.map_append, D.bulkL_append, List.length_append]
    have : (⟨#[]⟩ : ByteArray).size = 0 := rfl
    omega
  omega
theorem bulk_sel {x : MMethod} (h : x.d.bulk ≤ 1048576) : x.selector.size ≤ 1048576 := by
  rw [MMethod.d_eq] at h
  simp only [D.bulk, D.bulkL] at h
  omega
theorem sel_noword {s : ByteArray} (h : selB s = true) : hasB wordsL s = false := by
  apply hasB_ff
  intro hm
  have hw := hasB_tt hm
  have hn : nameB s = false := by simp [nameB, hw]
  have ho : hasB opsL s = false := hasB_ff fun ho => by
    simp only [wordsL, opsL, List.mem_cons, List.not_mem_nil, or_false] at hm ho
    rcases hm with rfl | rfl | rfl | rfl | rfl | rfl | rfl <;> revert ho <;> decide
  have hk : kwB s = false := by
    have hc : colB s = false := by
      simp only [wordsL, List.mem_cons, List.not_mem_nil, or_false] at hm
      rcases hm with rfl | rfl | rfl | rfl | rfl | rfl | rfl <;> decide
    simp [kwB, hc]
  simp [selB, ho, hn, hk] at h
theorem MMethod.shut_rep {w : World} {x : MMethod} {cs : List Value} (h : Rep w x.d cs) : ∃ a1 c1 a2 c2 a3 c3, cs = [.string x.selector, .bool x.cls, .slice a1 x.params.length c1, .slice a2 x.temps.length c2, .slice a3 x.body.length c3] := by
  obtain ⟨a1, c1, a2, c2, a3, c3, h, -, -, -⟩ := MMethod.op_en h
  exact ⟨a1, c1, a2, c2, a3, c3, h⟩

set_option maxHeartbeats 2000000 in
theorem l5Right_any (x : MMethod) (cx : List Value) (w : World) (rx : Rep w x.d cx) (hb : x.d.bulk ≤ 1048576) :
    Calls Tryz.prog 72 #[.agg cx.toArray] w fun e w' => e = .returned (.bool (prB (MethOk x))) ∧ Ext w w' := by
  have hl := bulk_method hb
  have hbb := bulk_block hb
  have hsel := bulk_sel hb
  have RX : Hid (∀ W, Ext w W → Rep W x.d cx) := Lib.hid fun W h => Rep.ext h rx
  obtain ⟨a1, k1, a2, k2, a3, k3, rfl⟩ := MMethod.shut_rep rx
  clear rx
  go_enter Tryz.func72, Tryz.ntmps72
  go_wp2_with fail
  refine (l5Body_any x _ _ (RX.out _ ((Ext.refl w).alloc _)) hl).mono ?_
  rintro e w1 ⟨cs, rfl, hr, hx1⟩
  obtain ⟨b1, d1, b2, d2, rfl⟩ := MExpr.shut_rep hr
  have HR := Lib.hid hr; clear hr
  have m0 := Ext.cell hx1 (show (w.alloc (.cells #[.string x.selector, .bool x.cls, .slice a1 x.params.length k1, .slice a2 x.temps.length k2, .slice a3 x.body.length k3] 32)).cell? ⟨w.heap.size, 0, none⟩ = some (.string x.selector) by simp)
  have m1 := Ext.cell hx1 (show (w.alloc (.cells #[.string x.selector, .bool x.cls, .slice a1 x.params.length k1, .slice a2 x.temps.length k2, .slice a3 x.body.length k3] 32)).cell? ⟨w.heap.size, 1, none⟩ = some (.bool x.cls) by simp)
  have m2 := Ext.cell hx1 (show (w.alloc (.cells #[.string x.selector, .bool x.cls, .slice a1 x.params.length k1, .slice a2 x.temps.length k2, .slice a3 x.body.length k3] 32)).cell? ⟨w.heap.size, 2, none⟩ = some (.slice a1 x.params.length k1) by simp)
  have m3 := Ext.cell hx1 (show (w.alloc (.cells #[.string x.selector, .bool x.cls, .slice a1 x.params.length k1, .slice a2 x.temps.length k2, .slice a3 x.body.length k3] 32)).cell? ⟨w.heap.size, 3, none⟩ = some (.slice a2 x.temps.length k2) by simp)
  have m4 := Ext.cell hx1 (show (w.alloc (.cells #[.string x.selector, .bool x.cls, .slice a1 x.params.length k1, .slice a2 x.temps.length k2, .slice a3 x.body.length k3] 32)).cell? ⟨w.heap.size, 4, none⟩ = some (.slice a3 x.body.length k3) by simp)
  have x1 := ((Ext.refl w).alloc _).trans hx1
  clear hx1
  go_wp2_with fail
  generalize hW : World.alloc w1 _ = W1
  have E1 : Ext w1 W1 := by rw [← hW]; exact (Ext.refl w1).alloc _
  have c0 := E1.cell m0
  have c1 := E1.cell m1
  have c2 := E1.cell m2
  have c3 := E1.cell m3
  have c4 := E1.cell m4
  have f0 : W1.cell? ⟨w1.heap.size, 0, none⟩ = some (.int .i64 (blockM x.params x.temps x.body).kind) := by rw [← hW]; simp
  have f1 : W1.cell? ⟨w1.heap.size, 1, none⟩ = some (.string (blockM x.params x.temps x.body).text) := by rw [← hW]; simp
  have f2 : W1.cell? ⟨w1.heap.size, 2, none⟩ = some (.int .i64 (blockM x.params x.temps x.body).number) := by rw [← hW]; simp
  have f3 : W1.cell? ⟨w1.heap.size, 3, none⟩ = some (.slice b1 (blockM x.params x.temps x.body).names.length d1) := by rw [← hW]; simp
  have f4 : W1.cell? ⟨w1.heap.size, 4, none⟩ = some (.slice b2 (blockM x.params x.temps x.body).kids.length d2) := by rw [← hW]; simp
  have x2 := x1.trans E1
  have CE0 : Hid (∀ W, Ext W1 W → Calls Tryz.prog 23 #[.agg #[.int .i64 (blockM x.params x.temps x.body).kind, .string (blockM x.params x.temps x.body).text, .int .i64 (blockM x.params x.temps x.body).number, .slice b1 (blockM x.params x.temps x.body).names.length d1, .slice b2 (blockM x.params x.temps x.body).kids.length d2]] W fun e w' => e = .returned (.bool (prB (ExprOk (blockM x.params x.temps x.body)))) ∧ Ext W w') := Lib.hid fun W h => spec_IsExpr_any _ _ W (Rep.ext (E1.trans h) HR.out) hbb
  clear hW m0 m1 m2 m3 m4 E1 x1
  have CA : Hid (∀ W, Ext W1 W → Calls Tryz.prog 124 #[.string x.selector] W fun e w' => e = .returned (.int .i64 (argsB x.selector)) ∧ Ext W w') := Lib.hid fun W h => spec_CountArgs_any _ _ hsel
  have CS0 : Hid (∀ W, Ext W1 W → Calls Tryz.prog 123 #[.string x.selector] W fun e w' => e = .returned (.bool (selB x.selector)) ∧ Ext W w') := Lib.hid fun W h => spec_IsSelector_any _ _ hsel
  generalize hB : (blockM x.params x.temps x.body) = BB at *
  have HB := Lib.hid hB; clear hB
  cases hs : selB x.selector
  all_goals
    have HS := Lib.hid hs; clear hs
    have CS := CS0.out
    rw [HS.out] at CS
    replace CS := Lib.hid CS
    clear CS0
  · have CE := CE0
    have gc0 := reg (Ext.refl _) c0
    have gc1 := reg (Ext.refl _) c1
    have gc2 := reg (Ext.refl _) c2
    have gc3 := reg (Ext.refl _) c3
    have gc4 := reg (Ext.refl _) c4
    have gf0 := reg (Ext.refl _) f0
    have gf1 := reg (Ext.refl _) f1
    have gf2 := reg (Ext.refl _) f2
    have gf3 := reg (Ext.refl _) f3
    have gf4 := reg (Ext.refl _) f4
    refine wp_region_quiet_below (by kernel_rfl) (by kernel_rfl) ?_
    repeat (go_big_quiet_step ((first | (go_at_call 123; exact Calls.regrown_of (CS.out _ (below_regrown _ _ _))) | (go_at_call 124; exact Calls.regrown_of (CA.out _ (below_regrown _ _ _))) | (go_at_call 23; exact Calls.regrown_of (CE.out _ (below_regrown _ _ _))))))
    refine wpQuiet_nil ?_
    clear gc0 gc1 gc2 gc3 gc4 gf0 gf1 gf2 gf3 gf4
    intro _ hw'
    obtain ⟨pw, hw''⟩ := hw'
    subst hw''
    have X1 := regx W1 pw
    generalize hW2 : «Sort».grow (redrawn W1 pw.d) pw.os = W2 at *
    clear hW2
    go_wp2_with fail
    go_ret
    exact ⟨ret_bool (Eq.symm (prB_ff fun h => by have := h.1; rw [HS.out] at this; cases this)), x2.trans X1⟩
  by_cases ha : argsB x.selector = (x.params.length : Int)
  rotate_left
  · have ha1 := int_ne ha
    have HA := Lib.hid ha; clear ha
    have CE := CE0
    have gc0 := reg (Ext.refl _) c0
    have gc1 := reg (Ext.refl _) c1
    have gc2 := reg (Ext.refl _) c2
    have gc3 := reg (Ext.refl _) c3
    have gc4 := reg (Ext.refl _) c4
    have gf0 := reg (Ext.refl _) f0
    have gf1 := reg (Ext.refl _) f1
    have gf2 := reg (Ext.refl _) f2
    have gf3 := reg (Ext.refl _) f3
    have gf4 := reg (Ext.refl _) f4
    refine wp_region_quiet_below (by kernel_rfl) (by kernel_rfl) ?_
    repeat (go_big_quiet_step ((first | (go_at_call 123; exact Calls.regrown_of (CS.out _ (below_regrown _ _ _))) | (go_at_call 124; exact Calls.regrown_of (CA.out _ (below_regrown _ _ _))) | (go_at_call 23; exact Calls.regrown_of (CE.out _ (below_regrown _ _ _))))))
    refine wpQuiet_nil ?_
    clear gc0 gc1 gc2 gc3 gc4 gf0 gf1 gf2 gf3 gf4
    intro _ hw'
    obtain ⟨pw, hw''⟩ := hw'
    subst hw''
    have X1 := regx W1 pw
    generalize hW2 : «Sort».grow (redrawn W1 pw.d) pw.os = W2 at *
    clear hW2
    go_wp2_with fail
    go_ret
    exact ⟨ret_bool (Eq.symm (prB_ff fun h => HA.out h.2.1)), x2.trans X1⟩
  have ha1 := int_eq ha
  have HA := Lib.hid ha; clear ha
  cases he : prB (ExprOk BB)
  all_goals
    have HE := Lib.hid he; clear he
    have CE := CE0.out
    rw [HE.out] at CE
    replace CE := Lib.hid CE
    clear CE0
    have gc0 := reg (Ext.refl _) c0
    have gc1 := reg (Ext.refl _) c1
    have gc2 := reg (Ext.refl _) c2
    have gc3 := reg (Ext.refl _) c3
    have gc4 := reg (Ext.refl _) c4
    have gf0 := reg (Ext.refl _) f0
    have gf1 := reg (Ext.refl _) f1
    have gf2 := reg (Ext.refl _) f2
    have gf3 := reg (Ext.refl _) f3
    have gf4 := reg (Ext.refl _) f4
    refine wp_region_quiet_below (by kernel_rfl) (by kernel_rfl) ?_
    repeat (go_big_quiet_step ((first | (go_at_call 123; exact Calls.regrown_of (CS.out _ (below_regrown _ _ _))) | (go_at_call 124; exact Calls.regrown_of (CA.out _ (below_regrown _ _ _))) | (go_at_call 23; exact Calls.regrown_of (CE.out _ (below_regrown _ _ _))))))
    refine wpQuiet_nil ?_
    clear gc0 gc1 gc2 gc3 gc4 gf0 gf1 gf2 gf3 gf4
    intro _ hw'
    obtain ⟨pw, hw''⟩ := hw'
    subst hw''
    have X1 := regx W1 pw
    generalize hW2 : «Sort».grow (redrawn W1 pw.d) pw.os = W2 at *
    clear hW2
    go_wp2_with fail
    go_ret
  · exact ⟨ret_bool (Eq.symm (prB_ff fun h => by have h2 := h.2.2; rw [HB.out] at h2; have := prB_tt h2; rw [HE.out] at this; cases this)), x2.trans X1⟩
  · exact ⟨ret_bool (Eq.symm (prB_tt ⟨HS.out, HA.out, by rw [HB.out]; exact prB_iff.1 HE.out⟩)), x2.trans X1⟩

set_option maxHeartbeats 2000000 in
theorem spec_IsMethod_any (x : MMethod) (cx : List Value) (w : World) (rx : Rep w x.d cx) (hb : x.d.bulk ≤ 1048576) :
    Calls Tryz.prog 38 #[.agg cx.toArray] w fun e w' => e = .returned (.bool (prB (MethOk x))) ∧ Ext w w' := by
  have hl := bulk_method hb
  have hbb := bulk_block hb
  have hsel := bulk_sel hb
  have RX : Hid (∀ W, Ext w W → Rep W x.d cx) := Lib.hid fun W h => Rep.ext h rx
  obtain ⟨a1, k1, a2, k2, a3, k3, rfl⟩ := MMethod.shut_rep rx
  clear rx
  go_enter Tryz.func38, Tryz.ntmps38
  go_wp2_with fail
  generalize hW : World.alloc w _ = W1
  have E1 : Ext w W1 := by rw [← hW]; exact (Ext.refl w).alloc _
  have c0 : W1.cell? ⟨w.heap.size, 0, none⟩ = some (.string x.selector) := by rw [← hW]; simp
  have c1 : W1.cell? ⟨w.heap.size, 1, none⟩ = some (.bool x.cls) := by rw [← hW]; simp
  have c2 : W1.cell? ⟨w.heap.size, 2, none⟩ = some (.slice a1 x.params.length k1) := by rw [← hW]; simp
  have c3 : W1.cell? ⟨w.heap.size, 3, none⟩ = some (.slice a2 x.temps.length k2) := by rw [← hW]; simp
  have c4 : W1.cell? ⟨w.heap.size, 4, none⟩ = some (.slice a3 x.body.length k3) := by rw [← hW]; simp
  clear hW
  have CM0 : Hid (∀ W, Ext W1 W → Calls Tryz.prog 72 #[.agg #[.string x.selector, .bool x.cls, .slice a1 x.params.length k1, .slice a2 x.temps.length k2, .slice a3 x.body.length k3]] W fun e w' => e = .returned (.bool (prB (MethOk x))) ∧ Ext W w') := Lib.hid fun W h => l5Right_any x _ W (RX.out _ (E1.trans h)) hb
  cases hq : prB (MethOk x)
  all_goals
    have HQ := Lib.hid hq; clear hq
    have CM := CM0.out
    rw [HQ.out] at CM
    replace CM := Lib.hid CM
    clear CM0
  · skip
    have gc0 := reg (Ext.refl _) c0
    have gc1 := reg (Ext.refl _) c1
    have gc2 := reg (Ext.refl _) c2
    have gc3 := reg (Ext.refl _) c3
    have gc4 := reg (Ext.refl _) c4
    refine wp_region_quiet_below (by kernel_rfl) (by kernel_rfl) ?_
    repeat (go_big_quiet_step (((go_at_call 72; exact Calls.regrown_of (CM.out _ (below_regrown _ _ _))))))
    refine wpQuiet_nil ?_
    clear gc0 gc1 gc2 gc3 gc4
    intro _ hw'
    obtain ⟨pw, hw''⟩ := hw'
    subst hw''
    have X1 := regx W1 pw
    generalize hW2 : «Sort».grow (redrawn W1 pw.d) pw.os = W2 at *
    clear hW2
    go_wp2_with fail
    go_ret
    exact ⟨ret_bool (by rw [HQ.out]), E1.trans X1⟩
  have hno : hasB wordsL x.selector = false := sel_noword (prB_iff.1 HQ.out).1
  have HN := Lib.hid hno; clear hno
  have KS : Hid (∀ w', Ext W1 w' → w'.cell? ⟨w.heap.size, 0, none⟩ = some (.string x.selector) ∧ w'.cell? ⟨w.heap.size, 1, none⟩ = some (.bool x.cls) ∧ w'.cell? ⟨w.heap.size, 2, none⟩ = some (.slice a1 x.params.length k1) ∧ w'.cell? ⟨w.heap.size, 3, none⟩ = some (.slice a2 x.temps.length k2) ∧ w'.cell? ⟨w.heap.size, 4, none⟩ = some (.slice a3 x.body.length k3) ∧ Ext W1 w') := Lib.hid fun w' h => ⟨Ext.cell h c0, Ext.cell h c1, Ext.cell h c2, Ext.cell h c3, Ext.cell h c4, h⟩
  go_region_held3 (fun w' => w'.cell? ⟨w.heap.size, 0, none⟩ = some (.string x.selector) ∧ w'.cell? ⟨w.heap.size, 1, none⟩ = some (.bool x.cls) ∧ w'.cell? ⟨w.heap.size, 2, none⟩ = some (.slice a1 x.params.length k1) ∧ w'.cell? ⟨w.heap.size, 3, none⟩ = some (.slice a2 x.temps.length k2) ∧ w'.cell? ⟨w.heap.size, 4, none⟩ = some (.slice a3 x.body.length k3) ∧ Ext W1 w')
    (first | exact KS.out _ (Ext.drew (Ext.refl _)) | exact KS.out _ (Ext.trans (Ext.trans (Ext.drew (Ext.refl _)) hx1) hx2) | exact KS.out _ (Ext.trans (Ext.drew (Ext.refl _)) hx1))
    (first
      | (go_at_call 73; have hq := hx2; refine (l1Has_any wordsL _ _ _ hr2.rep).mono ?_; rw [HN.out]; rintro e w3 ⟨rfl, rfl⟩)
      | (go_at_call 74; have hq := hx1; refine (l2Words_any _).mono ?_; rintro e w2 ⟨ao, n, cap, fp, rfl, hr2, hf2, hx2⟩)
      | (go_at_call 72; refine (CM.out _ (Ext.drew (Ext.refl _))).mono ?_; rintro e w1 ⟨rfl, hx1⟩))
  go_wp2_with fail
  go_ret
  exact ⟨ret_bool (by rw [HQ.out]), E1.trans (Ext.trans (Ext.trans (Ext.drew (Ext.refl _)) hx1) hx2)⟩

set_option maxHeartbeats 2000000 in
theorem impl_IsMethod_any (x : MMethod) (cx : List Value) (w : World) (rx : Rep w x.d cx) (hb : x.d.bulk ≤ 1048576) (hm : MaxOk w) :
    Calls Tryz.prog 40 #[.agg cx.toArray] w fun e w' => e = .returned (.bool (prB (MethOk x))) ∧ Ext w w' := by
  have hl := bulk_method hb
  have hbb := bulk_block hb
  have hsel := bulk_sel hb
  have RX : Hid (∀ W, Ext w W → Rep W x.d cx) := Lib.hid fun W h => Rep.ext h rx
  obtain ⟨a1, k1, a2, k2, a3, k3, rfl⟩ := MMethod.shut_rep rx
  clear rx
  go_enter Tryz.func40, Tryz.ntmps40
  go_wp2_with fail
  generalize hW : World.alloc w _ = W1
  have E1 : Ext w W1 := by rw [← hW]; exact (Ext.refl w).alloc _
  have c0 : W1.cell? ⟨w.heap.size, 0, none⟩ = some (.string x.selector) := by rw [← hW]; simp
  have c1 : W1.cell? ⟨w.heap.size, 1, none⟩ = some (.bool x.cls) := by rw [← hW]; simp
  have c2 : W1.cell? ⟨w.heap.size, 2, none⟩ = some (.slice a1 x.params.length k1) := by rw [← hW]; simp
  have c3 : W1.cell? ⟨w.heap.size, 3, none⟩ = some (.slice a2 x.temps.length k2) := by rw [← hW]; simp
  have c4 : W1.cell? ⟨w.heap.size, 4, none⟩ = some (.slice a3 x.body.length k3) := by rw [← hW]; simp
  clear hW
  have CA : Hid (∀ W, Ext W1 W → Calls Tryz.prog 78 #[.string x.selector] W fun e w' => e = .returned (.int .i64 (argsB x.selector)) ∧ Ext W w') := Lib.hid fun W h => impl_CountArgs_any _ _ hsel (hm.ext (E1.trans h))
  have CS0 : Hid (∀ W, Ext W1 W → Calls Tryz.prog 77 #[.string x.selector] W fun e w' => e = .returned (.bool (selB x.selector)) ∧ Ext W w') := Lib.hid fun W h => impl_IsSelector_any _ _ hsel (hm.ext (E1.trans h))
  cases hs : selB x.selector
  all_goals
    have HS := Lib.hid hs; clear hs
    have CS := CS0.out
    rw [HS.out] at CS
    replace CS := Lib.hid CS
    clear CS0
  · skip
    have gc0 := reg (Ext.refl _) c0
    have gc1 := reg (Ext.refl _) c1
    have gc2 := reg (Ext.refl _) c2
    have gc3 := reg (Ext.refl _) c3
    have gc4 := reg (Ext.refl _) c4
    refine wp_region_quiet_below (by kernel_rfl) (by kernel_rfl) ?_
    repeat (go_big_quiet_step ((first | (go_at_call 77; exact Calls.regrown_of (CS.out _ (below_regrown _ _ _))) | (go_at_call 78; exact Calls.regrown_of (CA.out _ (below_regrown _ _ _))))))
    refine wpQuiet_nil ?_
    clear gc0 gc1 gc2 gc3 gc4
    intro _ hw'
    obtain ⟨pw, hw''⟩ := hw'
    subst hw''
    have X1 := regx W1 pw
    generalize hW2 : «Sort».grow (redrawn W1 pw.d) pw.os = W2 at *
    clear hW2
    go_wp2_with fail
    go_ret
    exact ⟨ret_bool (Eq.symm (prB_ff fun h => by have := h.1; rw [HS.out] at this; cases this)), E1.trans X1⟩
  by_cases ha : argsB x.selector = (x.params.length : Int)
  rotate_left
  · have ha1 := int_ne ha
    have HA := Lib.hid ha; clear ha
    have gc0 := reg (Ext.refl _) c0
    have gc1 := reg (Ext.refl _) c1
    have gc2 := reg (Ext.refl _) c2
    have gc3 := reg (Ext.refl _) c3
    have gc4 := reg (Ext.refl _) c4
    refine wp_region_quiet_below (by kernel_rfl) (by kernel_rfl) ?_
    repeat (go_big_quiet_step ((first | (go_at_call 77; exact Calls.regrown_of (CS.out _ (below_regrown _ _ _))) | (go_at_call 78; exact Calls.regrown_of (CA.out _ (below_regrown _ _ _))))))
    refine wpQuiet_nil ?_
    clear gc0 gc1 gc2 gc3 gc4
    intro _ hw'
    obtain ⟨pw, hw''⟩ := hw'
    subst hw''
    have X1 := regx W1 pw
    generalize hW2 : «Sort».grow (redrawn W1 pw.d) pw.os = W2 at *
    clear hW2
    go_wp2_with fail
    go_ret
    exact ⟨ret_bool (Eq.symm (prB_ff fun h => HA.out h.2.1)), E1.trans X1⟩
  have ha1 := int_eq ha
  have HA := Lib.hid ha; clear ha
  have KS : Hid (∀ w', Ext W1 w' → w'.cell? ⟨w.heap.size, 0, none⟩ = some (.string x.selector) ∧ w'.cell? ⟨w.heap.size, 1, none⟩ = some (.bool x.cls) ∧ w'.cell? ⟨w.heap.size, 2, none⟩ = some (.slice a1 x.params.length k1) ∧ w'.cell? ⟨w.heap.size, 3, none⟩ = some (.slice a2 x.temps.length k2) ∧ w'.cell? ⟨w.heap.size, 4, none⟩ = some (.slice a3 x.body.length k3) ∧ Ext W1 w') := Lib.hid fun w' h => ⟨Ext.cell h c0, Ext.cell h c1, Ext.cell h c2, Ext.cell h c3, Ext.cell h c4, h⟩
  go_region_held3 (fun w' => w'.cell? ⟨w.heap.size, 0, none⟩ = some (.string x.selector) ∧ w'.cell? ⟨w.heap.size, 1, none⟩ = some (.bool x.cls) ∧ w'.cell? ⟨w.heap.size, 2, none⟩ = some (.slice a1 x.params.length k1) ∧ w'.cell? ⟨w.heap.size, 3, none⟩ = some (.slice a2 x.temps.length k2) ∧ w'.cell? ⟨w.heap.size, 4, none⟩ = some (.slice a3 x.body.length k3) ∧ Ext W1 w')
    (first | exact KS.out _ (Ext.drew (Ext.refl _)) | exact KS.out _ (Ext.trans (Ext.trans (Ext.trans (Ext.trans (Ext.drew (Ext.refl _)) hx1) hx2) hx3) hx4) | exact KS.out _ (Ext.trans (Ext.trans (Ext.trans (Ext.drew (Ext.refl _)) hx1) hx2) hx3) | exact KS.out _ (Ext.trans (Ext.trans (Ext.drew (Ext.refl _)) hx1) hx2) | exact KS.out _ (Ext.trans (Ext.drew (Ext.refl _)) hx1))
    (first
      | (go_at_call 27; have hq := hx3; refine (impl_IsExpr_any _ _ _ hr3 hbb (hm.ext (E1.trans (Ext.trans (Ext.trans (Ext.trans (Ext.drew (Ext.refl _)) hx1) hx2) hx3)))).mono ?_; rintro e w4 ⟨rfl, hx4⟩)
      | (go_at_call 79; have hq := hx2; refine (blockOf_any x _ _ (RX.out _ (E1.trans (Ext.trans (Ext.trans (Ext.drew (Ext.refl _)) hx1) hx2))) hl).mono ?_; rintro e w3 ⟨cs, rfl, hr3, hx3⟩)
      | (go_at_call 78; have hq := hx1; refine (CA.out _ (Ext.trans (Ext.drew (Ext.refl _)) hx1)).mono ?_; rintro e w2 ⟨rfl, hx2⟩)
      | (go_at_call 77; refine (CS.out _ (Ext.drew (Ext.refl _))).mono ?_; rintro e w1 ⟨rfl, hx1⟩))
  go_wp2_with fail
  go_ret
  refine ⟨ret_bool ?_, E1.trans (Ext.trans (Ext.trans (Ext.trans (Ext.trans (Ext.drew (Ext.refl _)) hx1) hx2) hx3) hx4)⟩
  have h1' := HS.out
  have h2' := HA.out
  unfold MethOk
  congr 1
  rw [eq_iff_iff]
  exact ⟨fun h => ⟨h1', h2', h⟩, fun h => h.2.2⟩

open Go.RowKit
set_option linter.unusedSimpArgs false
set_option linter.unusedVariables false

def cmW : ByteArray := ⟨#[99, 108, 97, 115, 115, 109, 101, 116, 104, 111, 100]⟩
def meW : ByteArray := ⟨#[109, 101, 116, 104, 111, 100]⟩
noncomputable def pKSig (ts : List MToken) : Nat → ByteArray → List ByteArray → Nat → Option (ByteArray × List ByteArray × Nat)
  | 0, _, _, _ => none
  | n + 1, s, l, a => if tkB ts a 2 = true then (if tkB ts (a + 1) 1 = true then pKSig ts n (s ++ tkT ts a) (l ++ [tkT ts (a + 1)]) (a + 2) else none) else some (s, l, a)
/-- A selector with its parameters. -/
noncomputable def pSig (ts : List MToken) (n a : Nat) : Option (ByteArray × List ByteArray × Nat) :=
  if tkB ts a 1 = true then some (tkT ts a, [], a + 1)
  else if tkB ts a 6 = true then (if tkB ts (a + 1) 1 = true then some (tkT ts a, [tkT ts (a + 1)], a + 2) else none)
  else if tkB ts a 2 = true then pKSig ts n ⟨#[]⟩ [] a else none
/-- Variables and statements. -/
noncomputable def pVS (ts : List MToken) (n a : Nat) : Option (List ByteArray × List MExpr × Nat) := (pVars ts n a).bind fun v => (pStmts ts n [] v.2).bind fun b => some (v.1, b.1, b.2)
noncomputable def pMRest (ts : List MToken) (n : Nat) (cls : Bool) (a : Nat) : Option (MMethod × Nat) := (pSig ts n a).bind fun g => (pVS ts n g.2.2).bind fun v => some (⟨g.1, cls, g.2.1, v.1, v.2.1⟩, v.2.2)
noncomputable def pMeth (ts : List MToken) (n a : Nat) : Option (MMethod × Nat) := if tkxB ts a 8 cmW = true then pMRest ts n true (a + 1) else if tkxB ts a 8 meW = true then pMRest ts n false (a + 1) else none
theorem Todo.eq0 {β : Type} {b0 b : Bool} {G F H : Nat → Option β} (h : Todo b0 G b F) (hF : ∀ n, F n = H n) : Todo b0 G b H := by
  have e : F = H := funext hF
  subst e
  exact h
theorem Todo.done0 {β : Type} {b0 b : Bool} {G F : Nat → Option β} {y : β} (h : Todo b0 G b F) (hF : ∀ n, F n = some y) : Got b0 G b y := h.done (fun n => hF (n + 1))
theorem Todo.badly0 {β : Type} {b0 b : Bool} {G F H : Nat → Option β} (h : Todo b0 G b F) (hF : ∀ n, F n = none) : Todo b0 G true H := h.badly (fun n => hF (n + 1))
theorem bulk_m (x : MMethod) : x.d.bulk = x.selector.size + lbT x.params + lbT x.temps + lbE x.body := by
  rw [MMethod.d_eq, ← bulkE_lb, ← bulkT_lb, ← bulkT_lb]
  simp only [D.bulk, D.bulkL, strs, MExprs, List.length_map]
  omega
theorem ksig_lb (ts : List MToken) : ∀ (n : Nat) (s : ByteArray) (l : List ByteArray) (a : Nat) (r : ByteArray × List ByteArray × Nat), pKSig ts n s l a = some r → ∀ c, s.size + lbT l + c ≤ PS ts a → r.1.size + lbT r.2.1 + c ≤ PS ts r.2.2
  | 0, s, l, a, r, h, c, hc => by simp [pKSig] at h
  | n + 1, s, l, a, r, h, c, hc => by
    rw [pKSig] at h
    split at h
    · split at h
      · refine ksig_lb ts n _ _ _ r h c ?_
        rw [lbT_append, PS_succ, PS_succ, ByteArray.size_append]
        simp only [lbT]
        omega
      · cases h
    · injection h with h; subst h; exact hc
theorem sig_lb (ts : List MToken) (n a : Nat) (r : ByteArray × List ByteArray × Nat) (h : pSig ts n a = some r) : r.1.size + lbT r.2.1 + PS ts a ≤ PS ts r.2.2 := by
  unfold pSig at h
  split at h
  · injection h with h; subst h
    show (tkT ts a).size + lbT [] + _ ≤ PS ts (a + 1)
    rw [PS_succ]; simp only [lbT]; omega
  · split at h
    · split at h
      · injection h with h; subst h
        show (tkT ts a).size + lbT [tkT ts (a + 1)] + _ ≤ PS ts (a + 2)
        rw [PS_succ, PS_succ]; simp only [lbT]; omega
      · cases h
    · split at h
      · exact ksig_lb ts n _ _ _ r h (PS ts a) (by rw [nil_sz]; simp only [lbT]; omega)
      · cases h
theorem vs_lb (ts : List MToken) (n a : Nat) (r : List ByteArray × List MExpr × Nat) (h : pVS ts n a = some r) : lbT r.1 + lbE r.2.1 + PS ts a ≤ PS ts r.2.2 := by
  unfold pVS at h
  rw [Option.bind_eq_some_iff] at h
  obtain ⟨v, h1, h2⟩ := h
  rw [Option.bind_eq_some_iff] at h2
  obtain ⟨b, h3, h4⟩ := h2
  injection h4 with h4; subst h4
  have k1 := vars_lb ts n a v h1
  have k2 := (bnd_all ts n).st _ _ _ h3 (PS ts v.2) (by simp only [lbE]; omega)
  show lbT v.1 + lbE b.1 + _ ≤ PS ts b.2
  omega
theorem mrest_lb (ts : List MToken) (n : Nat) (cls : Bool) (a : Nat) (r : MMethod × Nat) (h : pMRest ts n cls a = some r) : r.1.d.bulk + PS ts a ≤ PS ts r.2 := by
  unfold pMRest at h
  rw [Option.bind_eq_some_iff] at h
  obtain ⟨g, h1, h2⟩ := h
  rw [Option.bind_eq_some_iff] at h2
  obtain ⟨v, h3, h4⟩ := h2
  injection h4 with h4; subst h4
  have k1 := sig_lb ts n a g h1
  have k2 := vs_lb ts n _ v h3
  rw [bulk_m]
  show g.1.size + lbT g.2.1 + lbT v.1 + lbE v.2.1 + _ ≤ PS ts v.2.2
  omega
theorem meth_lb (ts : List MToken) (n a : Nat) (r : MMethod × Nat) (h : pMeth ts n a = some r) : r.1.d.bulk + PS ts a ≤ PS ts r.2 := by
  unfold pMeth at h
  split at h
  · have := mrest_lb ts n _ _ r h; rw [PS_succ] at this; omega
  · split at h
    · have := mrest_lb ts n _ _ r h; rw [PS_succ] at this; omega
    · cases h
theorem evm_bulk {ts : List MToken} (h : sumW ts ≤ 4000 + 84 * ts.length) (hl : ts.length ≤ 800) {x : MMethod} {a : Nat} (he : Ev (fun n => pMeth ts n 0) (some (x, a))) (ha : a ≤ 801) : x.d.bulk ≤ 1048576 := by
  obtain ⟨n, he⟩ := he
  have := meth_lb ts n 0 _ (he n (Nat.le_refl _))
  have h2 := PS_sum ts a
  have h3 := sumW_take ts a
  simp only [PS] at this
  omega

def zM : MMethod := ⟨⟨#[]⟩, false, [], [], []⟩
def IsParsedM (s : ByteArray) (x : MMethod) : Prop := ∃ ts, toksL s = some ts ∧ Ev (fun n => pMeth ts n 0) (some (x, ts.length)) ∧ MethOk x
noncomputable def parseM (s : ByteArray) : Option MMethod := @dite _ (∃ x, IsParsedM s x) (Classical.propDecidable _) (fun h => some (Classical.choose h)) (fun _ => none)
theorem IsParsedM.uniq {s : ByteArray} {x y : MMethod} (h : IsParsedM s x) (k : IsParsedM s y) : x = y := by
  obtain ⟨ts, h1, h2, _⟩ := h
  obtain ⟨us, k1, k2, _⟩ := k
  rw [h1] at k1
  injection k1 with k1
  subst k1
  have := Ev.uniq h2 k2
  injection this with this
  injection this
theorem parseM_yes {s : ByteArray} {x : MMethod} (h : IsParsedM s x) : parseM s = some x := by
  have he : ∃ x, IsParsedM s x := ⟨x, h⟩
  unfold parseM
  rw [dif_pos he]
  exact congrArg some ((Classical.choose_spec he).uniq h)
theorem parseM_no {s : ByteArray} (h : ¬ ∃ x, IsParsedM s x) : parseM s = none := by
  unfold parseM
  rw [dif_neg h]
theorem parseM_no1 {s : ByteArray} (h : toksL s = none) : parseM s = none := parseM_no (fun ⟨_, ts, h1, _⟩ => by rw [h] at h1; cases h1)
theorem parseM_no2 {s : ByteArray} {ts : List MToken} (h : toksL s = some ts) (hE : Ev (fun n => pMeth ts n 0) none) : parseM s = none := parseM_no (fun ⟨y, us, h1, h2, _⟩ => by
  rw [h] at h1
  injection h1 with h1
  subst h1
  have := Ev.uniq hE h2
  cases this)
theorem parseM_no3 {s : ByteArray} {ts : List MToken} {x : MMethod} {a : Nat} (h : toksL s = some ts) (hE : Ev (fun n => pMeth ts n 0) (some (x, a))) (hn : a ≠ ts.length ∨ ¬ MethOk x) : parseM s = none := parseM_no (fun ⟨y, us, h1, h2, h3⟩ => by
  rw [h] at h1
  injection h1 with h1
  subst h1
  have := Ev.uniq hE h2
  injection this with this
  injection this with e1 e2
  subst e1 e2
  rcases hn with hn | hn
  · exact hn rfl
  · exact hn h3)
theorem parseM_bulk (s : ByteArray) : ((parseM s).getD zM).d.bulk ≤ 1048576 := by
  cases h : parseM s with
  | none =>
    show zM.d.bulk ≤ _
    rw [bulk_m]
    simp only [zM, lbT, lbE]
    decide
  | some x =>
    show x.d.bulk ≤ _
    have hp : IsParsedM s x := by
      by_cases he : ∃ x, IsParsedM s x
      · obtain ⟨y, hy⟩ := he
        have := parseM_yes hy
        rw [h] at this
        injection this with this
        exact this ▸ hy
      · have := parseM_no he
        rw [h] at this
        cases this
    obtain ⟨ts, h1, h2, _⟩ := hp
    obtain ⟨h3, h4⟩ := toks_sum h1
    exact evm_bulk h3 h4 h2 (by omega)


end Go.Proofs.YtonmcoojgkgemaaGreatDoor
