/-
  CONTRACTS: EqualMethods.
  Conditions: those that each lemma states.
-/
import Derived.Test.YtihibfdnmbapkaaRows
import Derived.Test.YtihibfdnmbapkaaFnEqTrees
import Derived.Test.YtihibfdnmbapkaaFnBlocks
import Derived.Deep.RegionHeld3
import Derived.Deep.RegionHeldLaw
namespace Go.Proofs.Ytihibfdnmbapkaa
open Go.RowKit
set_option linter.unusedSimpArgs false
set_option linter.unusedVariables false

set_option maxRecDepth 100000 in
set_option maxHeartbeats 1000000 in
theorem spec_EqualMethods_any (x y : MMethod) (cx cy : List Value) (w : World) (rx : Rep w x.d cx) (ry : Rep w y.d cy) (hx : x.d.bulk ≤ 1048576) (hy : y.d.bulk ≤ 1048576) :
    Calls Try.prog 11 #[.agg cx.toArray, .agg cy.toArray] w fun e w' => e = .returned (.bool (eqB x y)) ∧ Ext w w' := by
  obtain ⟨a1, c1, a2, c2, a3, c3, rfl, r1, r2, r3⟩ := MMethod.op_en rx
  obtain ⟨b1, d1, b2, d2, b3, d3, rfl, k1, k2, k3⟩ := MMethod.op_en ry
  have HX := Lib.hid (bulk_method hx)
  have HY := Lib.hid (bulk_method hy)
  clear hx hy r1 r2 r3 k1 k2 k3
  go_enter Try.func11, Try.ntmps11
  go_wp2_with fail
  generalize hW : World.alloc (World.alloc w _) _ = W
  have A0 : W.cell? ⟨w.heap.size, 0, none⟩ = some (.string x.selector) := by rw [← hW]; simp
  have A1 : W.cell? ⟨w.heap.size, 1, none⟩ = some (.bool x.cls) := by rw [← hW]; simp
  have A2 : W.cell? ⟨w.heap.size, 2, none⟩ = some (.slice a1 x.params.length c1) := by rw [← hW]; simp
  have A3 : W.cell? ⟨w.heap.size, 3, none⟩ = some (.slice a2 x.temps.length c2) := by rw [← hW]; simp
  have A4 : W.cell? ⟨w.heap.size, 4, none⟩ = some (.slice a3 x.body.length c3) := by rw [← hW]; simp
  have B0 : W.cell? ⟨w.heap.size + 1, 0, none⟩ = some (.string y.selector) := by rw [← hW]; simp
  have B1 : W.cell? ⟨w.heap.size + 1, 1, none⟩ = some (.bool y.cls) := by rw [← hW]; simp
  have B2 : W.cell? ⟨w.heap.size + 1, 2, none⟩ = some (.slice b1 y.params.length d1) := by rw [← hW]; simp
  have B3 : W.cell? ⟨w.heap.size + 1, 3, none⟩ = some (.slice b2 y.temps.length d2) := by rw [← hW]; simp
  have B4 : W.cell? ⟨w.heap.size + 1, 4, none⟩ = some (.slice b3 y.body.length d3) := by rw [← hW]; simp
  have EW : Ext w W := by rw [← hW]; exact ((Ext.refl w).alloc _).alloc _
  have RX := Lib.hid rx; clear rx
  have RY := Lib.hid ry; clear ry
  clear hW
  by_cases h : x.selector = y.selector
  rotate_left
  · have t := str_ne h
    have H := Lib.hid h; clear h
    have gA0 := reg (Ext.refl _) A0
    have gA1 := reg (Ext.refl _) A1
    have gA2 := reg (Ext.refl _) A2
    have gA3 := reg (Ext.refl _) A3
    have gA4 := reg (Ext.refl _) A4
    have gB0 := reg (Ext.refl _) B0
    have gB1 := reg (Ext.refl _) B1
    have gB2 := reg (Ext.refl _) B2
    have gB3 := reg (Ext.refl _) B3
    have gB4 := reg (Ext.refl _) B4
    refine wp_region_quiet_below (by kernel_rfl) (by kernel_rfl) ?_
    repeat (quiet_step (fail))
    refine wpQuiet_nil ?_
    clear gA0 gB0 gA1 gB1 gA2 gB2 gA3 gB3 gA4 gB4
    intro _ hw'
    obtain ⟨pw, hw''⟩ := hw'
    subst hw''
    go_wp2
    go_ret
    exact ⟨ret_ff fun e => H.out (by rw [e]), EW.trans (regx _ _)⟩
  have t1 := str_eq h
  have H1 := Lib.hid h; clear h
  by_cases h : x.cls = y.cls
  rotate_left
  · have t := bool_ne h
    have H := Lib.hid h; clear h
    have gA0 := reg (Ext.refl _) A0
    have gA1 := reg (Ext.refl _) A1
    have gA2 := reg (Ext.refl _) A2
    have gA3 := reg (Ext.refl _) A3
    have gA4 := reg (Ext.refl _) A4
    have gB0 := reg (Ext.refl _) B0
    have gB1 := reg (Ext.refl _) B1
    have gB2 := reg (Ext.refl _) B2
    have gB3 := reg (Ext.refl _) B3
    have gB4 := reg (Ext.refl _) B4
    refine wp_region_quiet_below (by kernel_rfl) (by kernel_rfl) ?_
    repeat (quiet_step (fail))
    refine wpQuiet_nil ?_
    clear gA0 gB0 gA1 gB1 gA2 gB2 gA3 gB3 gA4 gB4
    intro _ hw'
    obtain ⟨pw, hw''⟩ := hw'
    subst hw''
    go_wp2
    go_ret
    exact ⟨ret_ff fun e => H.out (by rw [e]), EW.trans (regx _ _)⟩
  have t2 := bool_eq h
  have H2 := Lib.hid h; clear h
  have KS : Hid (∀ w', Ext W w' → w'.cell? ⟨w.heap.size, 0, none⟩ = some (.string x.selector) ∧ w'.cell? ⟨w.heap.size, 1, none⟩ = some (.bool x.cls) ∧ w'.cell? ⟨w.heap.size, 2, none⟩ = some (.slice a1 x.params.length c1) ∧ w'.cell? ⟨w.heap.size, 3, none⟩ = some (.slice a2 x.temps.length c2) ∧ w'.cell? ⟨w.heap.size, 4, none⟩ = some (.slice a3 x.body.length c3) ∧ w'.cell? ⟨w.heap.size + 1, 0, none⟩ = some (.string y.selector) ∧ w'.cell? ⟨w.heap.size + 1, 1, none⟩ = some (.bool y.cls) ∧ w'.cell? ⟨w.heap.size + 1, 2, none⟩ = some (.slice b1 y.params.length d1) ∧ w'.cell? ⟨w.heap.size + 1, 3, none⟩ = some (.slice b2 y.temps.length d2) ∧ w'.cell? ⟨w.heap.size + 1, 4, none⟩ = some (.slice b3 y.body.length d3) ∧ Ext W w') := Lib.hid fun w' h => ⟨Ext.cell h A0, Ext.cell h A1, Ext.cell h A2, Ext.cell h A3, Ext.cell h A4, Ext.cell h B0, Ext.cell h B1, Ext.cell h B2, Ext.cell h B3, Ext.cell h B4, h⟩
  go_region_held3 (fun w' => w'.cell? ⟨w.heap.size, 0, none⟩ = some (.string x.selector) ∧ w'.cell? ⟨w.heap.size, 1, none⟩ = some (.bool x.cls) ∧ w'.cell? ⟨w.heap.size, 2, none⟩ = some (.slice a1 x.params.length c1) ∧ w'.cell? ⟨w.heap.size, 3, none⟩ = some (.slice a2 x.temps.length c2) ∧ w'.cell? ⟨w.heap.size, 4, none⟩ = some (.slice a3 x.body.length c3) ∧ w'.cell? ⟨w.heap.size + 1, 0, none⟩ = some (.string y.selector) ∧ w'.cell? ⟨w.heap.size + 1, 1, none⟩ = some (.bool y.cls) ∧ w'.cell? ⟨w.heap.size + 1, 2, none⟩ = some (.slice b1 y.params.length d1) ∧ w'.cell? ⟨w.heap.size + 1, 3, none⟩ = some (.slice b2 y.temps.length d2) ∧ w'.cell? ⟨w.heap.size + 1, 4, none⟩ = some (.slice b3 y.body.length d3) ∧ Ext W w')
    (first | exact KS.out _ (Ext.drew (Ext.refl _)) | exact KS.out _ (Ext.trans (Ext.trans (Ext.trans (Ext.drew (Ext.refl _)) hx1) hx2) hx3) | exact KS.out _ (Ext.trans (Ext.trans (Ext.drew (Ext.refl _)) hx1) hx2) | exact KS.out _ (Ext.trans (Ext.drew (Ext.refl _)) hx1))
    (first
      | (go_at_call 22; have hq := hx2; refine (spec_EqualExprs_any _ _ _ _ _ (Rep.ext hx2 h1) h2).mono ?_; rintro e w3 ⟨rfl, hx3⟩)
      | (go_at_call 23; have hq := hx1; refine (l5Body_any y _ _ (Rep.ext (EW.trans (Ext.trans (Ext.drew (Ext.refl _)) hx1)) RY.out) HY.out).mono ?_; rintro e w2 ⟨cs2, rfl, h2, hx2⟩)
      | (go_at_call 23; refine (l5Body_any x _ _ (Rep.ext (EW.trans (Ext.drew (Ext.refl _))) RX.out) HX.out).mono ?_; rintro e w1 ⟨cs1, rfl, h1, hx1⟩))
  go_wp2_with fail
  go_ret
  refine ⟨ret_bool ?_, EW.trans (Ext.trans (Ext.trans (Ext.trans (Ext.drew (Ext.refl _)) hx1) hx2) hx3)⟩
  have h1' := H1.out
  have h2' := H2.out
  rw [Bool.eq_iff_iff, eqB_iff, eqB_iff]
  refine ⟨fun h => ?_, fun h => by rw [h]⟩
  exact method_ext h1' h2' h

set_option maxRecDepth 100000 in
set_option maxHeartbeats 1000000 in
theorem impl_EqualMethods_any (x y : MMethod) (cx cy : List Value) (w : World) (rx : Rep w x.d cx) (ry : Rep w y.d cy) (hx : x.d.bulk ≤ 1048576) (hy : y.d.bulk ≤ 1048576) :
    Calls Try.prog 15 #[.agg cx.toArray, .agg cy.toArray] w fun e w' => e = .returned (.bool (eqB x y)) ∧ Ext w w' := by
  obtain ⟨a1, c1, a2, c2, a3, c3, rfl, r1, r2, r3⟩ := MMethod.op_en rx
  obtain ⟨b1, d1, b2, d2, b3, d3, rfl, k1, k2, k3⟩ := MMethod.op_en ry
  have HX := Lib.hid (bulk_method hx)
  have HY := Lib.hid (bulk_method hy)
  clear hx hy r1 r2 r3 k1 k2 k3
  go_enter Try.func15, Try.ntmps15
  go_wp2_with fail
  generalize hW : World.alloc (World.alloc w _) _ = W
  have A0 : W.cell? ⟨w.heap.size, 0, none⟩ = some (.string x.selector) := by rw [← hW]; simp
  have A1 : W.cell? ⟨w.heap.size, 1, none⟩ = some (.bool x.cls) := by rw [← hW]; simp
  have A2 : W.cell? ⟨w.heap.size, 2, none⟩ = some (.slice a1 x.params.length c1) := by rw [← hW]; simp
  have A3 : W.cell? ⟨w.heap.size, 3, none⟩ = some (.slice a2 x.temps.length c2) := by rw [← hW]; simp
  have A4 : W.cell? ⟨w.heap.size, 4, none⟩ = some (.slice a3 x.body.length c3) := by rw [← hW]; simp
  have B0 : W.cell? ⟨w.heap.size + 1, 0, none⟩ = some (.string y.selector) := by rw [← hW]; simp
  have B1 : W.cell? ⟨w.heap.size + 1, 1, none⟩ = some (.bool y.cls) := by rw [← hW]; simp
  have B2 : W.cell? ⟨w.heap.size + 1, 2, none⟩ = some (.slice b1 y.params.length d1) := by rw [← hW]; simp
  have B3 : W.cell? ⟨w.heap.size + 1, 3, none⟩ = some (.slice b2 y.temps.length d2) := by rw [← hW]; simp
  have B4 : W.cell? ⟨w.heap.size + 1, 4, none⟩ = some (.slice b3 y.body.length d3) := by rw [← hW]; simp
  have EW : Ext w W := by rw [← hW]; exact ((Ext.refl w).alloc _).alloc _
  have RX := Lib.hid rx; clear rx
  have RY := Lib.hid ry; clear ry
  clear hW
  by_cases h : x.selector = y.selector
  rotate_left
  · have t := str_ne h
    have H := Lib.hid h; clear h
    have gA0 := reg (Ext.refl _) A0
    have gA1 := reg (Ext.refl _) A1
    have gA2 := reg (Ext.refl _) A2
    have gA3 := reg (Ext.refl _) A3
    have gA4 := reg (Ext.refl _) A4
    have gB0 := reg (Ext.refl _) B0
    have gB1 := reg (Ext.refl _) B1
    have gB2 := reg (Ext.refl _) B2
    have gB3 := reg (Ext.refl _) B3
    have gB4 := reg (Ext.refl _) B4
    refine wp_region_quiet_below (by kernel_rfl) (by kernel_rfl) ?_
    repeat (quiet_step (fail))
    refine wpQuiet_nil ?_
    clear gA0 gB0 gA1 gB1 gA2 gB2 gA3 gB3 gA4 gB4
    intro _ hw'
    obtain ⟨pw, hw''⟩ := hw'
    subst hw''
    go_wp2
    go_ret
    exact ⟨ret_ff fun e => H.out (by rw [e]), EW.trans (regx _ _)⟩
  have t1 := str_eq h
  have H1 := Lib.hid h; clear h
  by_cases h : x.cls = y.cls
  rotate_left
  · have t := bool_ne h
    have H := Lib.hid h; clear h
    have gA0 := reg (Ext.refl _) A0
    have gA1 := reg (Ext.refl _) A1
    have gA2 := reg (Ext.refl _) A2
    have gA3 := reg (Ext.refl _) A3
    have gA4 := reg (Ext.refl _) A4
    have gB0 := reg (Ext.refl _) B0
    have gB1 := reg (Ext.refl _) B1
    have gB2 := reg (Ext.refl _) B2
    have gB3 := reg (Ext.refl _) B3
    have gB4 := reg (Ext.refl _) B4
    refine wp_region_quiet_below (by kernel_rfl) (by kernel_rfl) ?_
    repeat (quiet_step (fail))
    refine wpQuiet_nil ?_
    clear gA0 gB0 gA1 gB1 gA2 gB2 gA3 gB3 gA4 gB4
    intro _ hw'
    obtain ⟨pw, hw''⟩ := hw'
    subst hw''
    go_wp2
    go_ret
    exact ⟨ret_ff fun e => H.out (by rw [e]), EW.trans (regx _ _)⟩
  have t2 := bool_eq h
  have H2 := Lib.hid h; clear h
  have KS : Hid (∀ w', Ext W w' → w'.cell? ⟨w.heap.size, 0, none⟩ = some (.string x.selector) ∧ w'.cell? ⟨w.heap.size, 1, none⟩ = some (.bool x.cls) ∧ w'.cell? ⟨w.heap.size, 2, none⟩ = some (.slice a1 x.params.length c1) ∧ w'.cell? ⟨w.heap.size, 3, none⟩ = some (.slice a2 x.temps.length c2) ∧ w'.cell? ⟨w.heap.size, 4, none⟩ = some (.slice a3 x.body.length c3) ∧ w'.cell? ⟨w.heap.size + 1, 0, none⟩ = some (.string y.selector) ∧ w'.cell? ⟨w.heap.size + 1, 1, none⟩ = some (.bool y.cls) ∧ w'.cell? ⟨w.heap.size + 1, 2, none⟩ = some (.slice b1 y.params.length d1) ∧ w'.cell? ⟨w.heap.size + 1, 3, none⟩ = some (.slice b2 y.temps.length d2) ∧ w'.cell? ⟨w.heap.size + 1, 4, none⟩ = some (.slice b3 y.body.length d3) ∧ Ext W w') := Lib.hid fun w' h => ⟨Ext.cell h A0, Ext.cell h A1, Ext.cell h A2, Ext.cell h A3, Ext.cell h A4, Ext.cell h B0, Ext.cell h B1, Ext.cell h B2, Ext.cell h B3, Ext.cell h B4, h⟩
  go_region_held3 (fun w' => w'.cell? ⟨w.heap.size, 0, none⟩ = some (.string x.selector) ∧ w'.cell? ⟨w.heap.size, 1, none⟩ = some (.bool x.cls) ∧ w'.cell? ⟨w.heap.size, 2, none⟩ = some (.slice a1 x.params.length c1) ∧ w'.cell? ⟨w.heap.size, 3, none⟩ = some (.slice a2 x.temps.length c2) ∧ w'.cell? ⟨w.heap.size, 4, none⟩ = some (.slice a3 x.body.length c3) ∧ w'.cell? ⟨w.heap.size + 1, 0, none⟩ = some (.string y.selector) ∧ w'.cell? ⟨w.heap.size + 1, 1, none⟩ = some (.bool y.cls) ∧ w'.cell? ⟨w.heap.size + 1, 2, none⟩ = some (.slice b1 y.params.length d1) ∧ w'.cell? ⟨w.heap.size + 1, 3, none⟩ = some (.slice b2 y.temps.length d2) ∧ w'.cell? ⟨w.heap.size + 1, 4, none⟩ = some (.slice b3 y.body.length d3) ∧ Ext W w')
    (first | exact KS.out _ (Ext.drew (Ext.refl _)) | exact KS.out _ (Ext.trans (Ext.trans (Ext.trans (Ext.drew (Ext.refl _)) hx1) hx2) hx3) | exact KS.out _ (Ext.trans (Ext.trans (Ext.drew (Ext.refl _)) hx1) hx2) | exact KS.out _ (Ext.trans (Ext.drew (Ext.refl _)) hx1))
    (first
      | (go_at_call 27; have hq := hx2; refine (impl_EqualExprs_any _ _ _ _ _ (Rep.ext hx2 h1) h2).mono ?_; rintro e w3 ⟨rfl, hx3⟩)
      | (go_at_call 28; have hq := hx1; refine (blockOf_any y _ _ (Rep.ext (EW.trans (Ext.trans (Ext.drew (Ext.refl _)) hx1)) RY.out) HY.out).mono ?_; rintro e w2 ⟨cs2, rfl, h2, hx2⟩)
      | (go_at_call 28; refine (blockOf_any x _ _ (Rep.ext (EW.trans (Ext.drew (Ext.refl _))) RX.out) HX.out).mono ?_; rintro e w1 ⟨cs1, rfl, h1, hx1⟩))
  go_wp2_with fail
  go_ret
  refine ⟨ret_bool ?_, EW.trans (Ext.trans (Ext.trans (Ext.trans (Ext.drew (Ext.refl _)) hx1) hx2) hx3)⟩
  have h1' := H1.out
  have h2' := H2.out
  rw [Bool.eq_iff_iff, eqB_iff, eqB_iff]
  refine ⟨fun h => ?_, fun h => by rw [h]⟩
  exact method_ext h1' h2' h

end Go.Proofs.Ytihibfdnmbapkaa
