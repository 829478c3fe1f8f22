/-
  FnExactCheckUnit: the program's CheckUnit gives what the reference's gives, for all arguments.
  Conditions: none.
-/
import Derived.Test.YtlppoffneeglgaaGreatDoorDoorLaw
import Derived.Deep.RegionHeld3
import Derived.Test.YtlppoffneeglgaaGreatDoorEq
import Derived.Test.YtlppoffneeglgaaGreatDoorSz
import Derived.Test.YtlppoffneeglgaaGreatDoorTo
import Derived.Test.YtlppoffneeglgaaGreatDoorArgTypes
import Derived.Test.YtlppoffneeglgaaGreatDoorChkT
import Derived.Test.YtlppoffneeglgaaGreatDoorChkU
namespace Go.Proofs.YtlppoffneeglgaaGreatDoor
open Go.ChangeShapes Go.WideShapes Go.ChangeAt Go.RowKit Go.Joins
open Go.ChangeMaps (open_string)
set_option linter.unusedSimpArgs false
set_option linter.unusedVariables false


set_option maxHeartbeats 1000000 in
theorem fnExactCheckUnit_calls (x : MUnit) (cx : List Value) (w : World) (rx : Rep w x.d cx) (ox : x.d.ok) (hM : MaxOk w) :
    Calls Tryz.prog 3 #[.agg cx.toArray] w fun e w' => e = .returned (.bool true) ∧ Ext w w' := by
  obtain ⟨a_x_classes, c_x_classes, a_x_main_params, c_x_main_params, a_x_main_temps, c_x_main_temps, a_x_main_body, c_x_main_body, rfl, _, _, _, _, _⟩ := MUnit.op_en rx
  go_enter Tryz.func3, Tryz.ntmps3
  go_wp2_with fail
  refine (szUnit_any x _ 1048576 _ (by omega) (by omega) (Rep.ext (Ext.alloc (Ext.refl w) _) rx) ox).mono ?_
  rintro e w1 ⟨q1, rfl, hq, hx1⟩
  have e1 : Ext w w1 := (Ext.alloc (Ext.refl w) _).trans hx1
  have mx_0 : w1.cell? ⟨w.heap.size, 0, none⟩ = some (.slice a_x_classes x.classes.length c_x_classes) := Ext.cell hx1 (by simp)
  have mx_1 : w1.cell? ⟨w.heap.size, 1, none⟩ = some (.string x.main.selector) := Ext.cell hx1 (by simp)
  have mx_2 : w1.cell? ⟨w.heap.size, 2, none⟩ = some (.bool x.main.cls) := Ext.cell hx1 (by simp)
  have mx_3 : w1.cell? ⟨w.heap.size, 3, none⟩ = some (.slice a_x_main_params x.main.params.length c_x_main_params) := Ext.cell hx1 (by simp)
  have mx_4 : w1.cell? ⟨w.heap.size, 4, none⟩ = some (.slice a_x_main_temps x.main.temps.length c_x_main_temps) := Ext.cell hx1 (by simp)
  have mx_5 : w1.cell? ⟨w.heap.size, 5, none⟩ = some (.slice a_x_main_body x.main.body.length c_x_main_body) := Ext.cell hx1 (by simp)
  have zx : w.heap.size < w1.heap.size := lt_of_cell mx_0
  rcases hq with rfl | ⟨hq1, hqe⟩
  · go_wp2_with fail
    go_ret
    exact ⟨rfl, e1⟩
  have hl1 : q1 ≤ 1048576 := by omega
  have HQ1 := Lib.hid hqe; clear hqe
  have Bx : Hid (x.d.bulk ≤ 1048576) := Lib.hid (by have := HQ1.out; omega)
  clear HQ1
  have tq : (!(checkU x).toList == (checkU x).toList) = false := str_eqn rfl
  have tq2 : ((checkU x).toList == (checkU x).toList) = true := str_eq rfl
  have tb : (prB (UnitOk x) == prB (UnitOk x)) = true := by simp
  have tb2 : (!prB (UnitOk x) == prB (UnitOk x)) = false := by simp
  go_wp2_with fail
  refine (toUnit_any x _ _ (Rep.ext (e1) rx) Bx.out).mono ?_
  rintro e w2 ⟨cs2, fp2, rfl, hr2, hf2, hx2⟩
  have e2 : Ext w w2 := (e1).trans hx2
  have mx_0 := Ext.cell (hx2) mx_0
  have mx_1 := Ext.cell (hx2) mx_1
  have mx_2 := Ext.cell (hx2) mx_2
  have mx_3 := Ext.cell (hx2) mx_3
  have mx_4 := Ext.cell (hx2) mx_4
  have mx_5 := Ext.cell (hx2) mx_5
  have zx : w.heap.size < w2.heap.size := lt_of_cell mx_0
  go_wp2_with fail
  refine (spec_CheckUnit_any x _ _ hr2.rep Bx.out).mono ?_
  rintro e w3 ⟨rfl, hx3⟩
  have e3 : Ext w w3 := (e2).trans hx3
  have mx_0 := Ext.cell (hx3) mx_0
  have mx_1 := Ext.cell (hx3) mx_1
  have mx_2 := Ext.cell (hx3) mx_2
  have mx_3 := Ext.cell (hx3) mx_3
  have mx_4 := Ext.cell (hx3) mx_4
  have mx_5 := Ext.cell (hx3) mx_5
  have zx : w.heap.size < w3.heap.size := lt_of_cell mx_0
  go_wp2_with fail
  refine (toUnit_any x _ _ (Rep.ext (e3) rx) Bx.out).mono ?_
  rintro e w4 ⟨cs4, fp4, rfl, hr4, hf4, hx4⟩
  have e4 : Ext w w4 := (e3).trans hx4
  have mx_0 := Ext.cell (hx4) mx_0
  have mx_1 := Ext.cell (hx4) mx_1
  have mx_2 := Ext.cell (hx4) mx_2
  have mx_3 := Ext.cell (hx4) mx_3
  have mx_4 := Ext.cell (hx4) mx_4
  have mx_5 := Ext.cell (hx4) mx_5
  have zx : w.heap.size < w4.heap.size := lt_of_cell mx_0
  obtain ⟨n4_x_classes, d4_x_classes, n4_x_main_params, d4_x_main_params, n4_x_main_temps, d4_x_main_temps, n4_x_main_body, d4_x_main_body, rfl, _, _, _, _, _⟩ := MUnit.op_en hr4.rep
  have HR4 := Lib.hid hr4.rep; clear hr4 hf4
  go_wp2_with fail
  refine (impl_CheckUnit_any x _ _ (Rep.ext (Ext.alloc (Ext.refl _) _) (HR4.out)) Bx.out (hM.ext (Ext.alloc e4 _))).mono ?_
  rintro e w5 ⟨rfl, hx5⟩
  have e5 : Ext w w5 := (Ext.alloc e4 _).trans hx5
  have mx_0 := Ext.cell (Ext.trans (Ext.alloc (Ext.refl _) _) hx5) mx_0
  have mx_1 := Ext.cell (Ext.trans (Ext.alloc (Ext.refl _) _) hx5) mx_1
  have mx_2 := Ext.cell (Ext.trans (Ext.alloc (Ext.refl _) _) hx5) mx_2
  have mx_3 := Ext.cell (Ext.trans (Ext.alloc (Ext.refl _) _) hx5) mx_3
  have mx_4 := Ext.cell (Ext.trans (Ext.alloc (Ext.refl _) _) hx5) mx_4
  have mx_5 := Ext.cell (Ext.trans (Ext.alloc (Ext.refl _) _) hx5) mx_5
  have zx : w.heap.size < w5.heap.size := lt_of_cell mx_0
  have mnx_0 : w5.cell? ⟨w4.heap.size, 0, none⟩ = some (.slice n4_x_classes x.classes.length d4_x_classes) := Ext.cell hx5 (by simp)
  have mnx_1 : w5.cell? ⟨w4.heap.size, 1, none⟩ = some (.string x.main.selector) := Ext.cell hx5 (by simp)
  have mnx_2 : w5.cell? ⟨w4.heap.size, 2, none⟩ = some (.bool x.main.cls) := Ext.cell hx5 (by simp)
  have mnx_3 : w5.cell? ⟨w4.heap.size, 3, none⟩ = some (.slice n4_x_main_params x.main.params.length d4_x_main_params) := Ext.cell hx5 (by simp)
  have mnx_4 : w5.cell? ⟨w4.heap.size, 4, none⟩ = some (.slice n4_x_main_temps x.main.temps.length d4_x_main_temps) := Ext.cell hx5 (by simp)
  have mnx_5 : w5.cell? ⟨w4.heap.size, 5, none⟩ = some (.slice n4_x_main_body x.main.body.length d4_x_main_body) := Ext.cell hx5 (by simp)
  have znx : w4.heap.size < w5.heap.size := lt_of_cell mnx_0
  have Px : Hid (Rep w5 x.d _) := Lib.hid (Rep.ext (Ext.trans (Ext.alloc (Ext.refl _) _) hx5) (HR4.out))
  have htx : eqB x x = true := eqB_tt rfl
  have KS : Hid (∀ w', Ext w5 w' → w'.cell? ⟨w.heap.size, 0, none⟩ = some (.slice a_x_classes x.classes.length c_x_classes) ∧ w'.cell? ⟨w.heap.size, 1, none⟩ = some (.string x.main.selector) ∧ w'.cell? ⟨w.heap.size, 2, none⟩ = some (.bool x.main.cls) ∧ w'.cell? ⟨w.heap.size, 3, none⟩ = some (.slice a_x_main_params x.main.params.length c_x_main_params) ∧ w'.cell? ⟨w.heap.size, 4, none⟩ = some (.slice a_x_main_temps x.main.temps.length c_x_main_temps) ∧ w'.cell? ⟨w.heap.size, 5, none⟩ = some (.slice a_x_main_body x.main.body.length c_x_main_body) ∧ w'.cell? ⟨w4.heap.size, 0, none⟩ = some (.slice n4_x_classes x.classes.length d4_x_classes) ∧ w'.cell? ⟨w4.heap.size, 1, none⟩ = some (.string x.main.selector) ∧ w'.cell? ⟨w4.heap.size, 2, none⟩ = some (.bool x.main.cls) ∧ w'.cell? ⟨w4.heap.size, 3, none⟩ = some (.slice n4_x_main_params x.main.params.length d4_x_main_params) ∧ w'.cell? ⟨w4.heap.size, 4, none⟩ = some (.slice n4_x_main_temps x.main.temps.length d4_x_main_temps) ∧ w'.cell? ⟨w4.heap.size, 5, none⟩ = some (.slice n4_x_main_body x.main.body.length d4_x_main_body) ∧ Ext w5 w') := Lib.hid fun w' h => ⟨Ext.cell h mx_0, Ext.cell h mx_1, Ext.cell h mx_2, Ext.cell h mx_3, Ext.cell h mx_4, Ext.cell h mx_5, Ext.cell h mnx_0, Ext.cell h mnx_1, Ext.cell h mnx_2, Ext.cell h mnx_3, Ext.cell h mnx_4, Ext.cell h mnx_5, h⟩
  go_wp2_with fail
  go_region_held3 (fun w' => w'.cell? ⟨w.heap.size, 0, none⟩ = some (.slice a_x_classes x.classes.length c_x_classes) ∧ w'.cell? ⟨w.heap.size, 1, none⟩ = some (.string x.main.selector) ∧ w'.cell? ⟨w.heap.size, 2, none⟩ = some (.bool x.main.cls) ∧ w'.cell? ⟨w.heap.size, 3, none⟩ = some (.slice a_x_main_params x.main.params.length c_x_main_params) ∧ w'.cell? ⟨w.heap.size, 4, none⟩ = some (.slice a_x_main_temps x.main.temps.length c_x_main_temps) ∧ w'.cell? ⟨w.heap.size, 5, none⟩ = some (.slice a_x_main_body x.main.body.length c_x_main_body) ∧ w'.cell? ⟨w4.heap.size, 0, none⟩ = some (.slice n4_x_classes x.classes.length d4_x_classes) ∧ w'.cell? ⟨w4.heap.size, 1, none⟩ = some (.string x.main.selector) ∧ w'.cell? ⟨w4.heap.size, 2, none⟩ = some (.bool x.main.cls) ∧ w'.cell? ⟨w4.heap.size, 3, none⟩ = some (.slice n4_x_main_params x.main.params.length d4_x_main_params) ∧ w'.cell? ⟨w4.heap.size, 4, none⟩ = some (.slice n4_x_main_temps x.main.temps.length d4_x_main_temps) ∧ w'.cell? ⟨w4.heap.size, 5, none⟩ = some (.slice n4_x_main_body x.main.body.length d4_x_main_body) ∧ Ext w5 w')
    (first | exact KS.out _ (Ext.drew (Ext.refl _)) | exact KS.out _ (Ext.trans (Ext.drew (Ext.refl _)) hx6) | exact KS.out _ (Ext.trans (Ext.trans (Ext.drew (Ext.refl _)) hx6) hx7))
    (first | (go_at_call 6; refine (toUnit_any x _ _ (Rep.ext (Ext.drew (e5)) rx) Bx.out).mono ?_; rintro e w6 ⟨cs6, fp6, rfl, hr6, hf6, hx6⟩) | (go_at_call 8; refine (eqUnit_any x x _ _ _ (Rep.ext (Ext.trans (Ext.drew (Ext.refl _)) hx6) Px.out) hr6.rep).mono ?_; rintro e w7 ⟨rfl, hx7⟩))
  have e7 : Ext w w7 := (e5).trans (Ext.trans (Ext.trans (Ext.drew (Ext.refl _)) hx6) hx7)
  have mx_0 := Ext.cell (Ext.trans (Ext.trans (Ext.drew (Ext.refl _)) hx6) hx7) mx_0
  have mx_1 := Ext.cell (Ext.trans (Ext.trans (Ext.drew (Ext.refl _)) hx6) hx7) mx_1
  have mx_2 := Ext.cell (Ext.trans (Ext.trans (Ext.drew (Ext.refl _)) hx6) hx7) mx_2
  have mx_3 := Ext.cell (Ext.trans (Ext.trans (Ext.drew (Ext.refl _)) hx6) hx7) mx_3
  have mx_4 := Ext.cell (Ext.trans (Ext.trans (Ext.drew (Ext.refl _)) hx6) hx7) mx_4
  have mx_5 := Ext.cell (Ext.trans (Ext.trans (Ext.drew (Ext.refl _)) hx6) hx7) mx_5
  have zx : w.heap.size < w7.heap.size := lt_of_cell mx_0
  have mnx_0 := Ext.cell (Ext.trans (Ext.trans (Ext.drew (Ext.refl _)) hx6) hx7) mnx_0
  have mnx_1 := Ext.cell (Ext.trans (Ext.trans (Ext.drew (Ext.refl _)) hx6) hx7) mnx_1
  have mnx_2 := Ext.cell (Ext.trans (Ext.trans (Ext.drew (Ext.refl _)) hx6) hx7) mnx_2
  have mnx_3 := Ext.cell (Ext.trans (Ext.trans (Ext.drew (Ext.refl _)) hx6) hx7) mnx_3
  have mnx_4 := Ext.cell (Ext.trans (Ext.trans (Ext.drew (Ext.refl _)) hx6) hx7) mnx_4
  have mnx_5 := Ext.cell (Ext.trans (Ext.trans (Ext.drew (Ext.refl _)) hx6) hx7) mnx_5
  have znx : w4.heap.size < w7.heap.size := lt_of_cell mnx_0
  clear KS
  have Px : Hid (Rep w7 x.d _) := Lib.hid (Rep.ext (Ext.trans (Ext.trans (Ext.drew (Ext.refl _)) hx6) hx7) Px.out)
  go_wp2_with fail
  go_ret
  exact ⟨rfl, e7⟩

set_option maxRecDepth 100000 in
theorem fnExactCheckUnit_lifted (os : Os) (started : os.Started) (H : Type) (enc : TypeId × Value → H) :
    ReturnsInHanded {} Tryz.checked os 3 .any (fun w args => (Rows.fnExactCheckUnitSpec.pre enc Tryz.prog Tryz.f3 Rows.fnExactCheckUnitRow.domain false w args ∧ laidMetH Tryz.prog Rows.fnExactCheckUnitRow.laid w) ∧ sizedMet enc Tryz.prog Tryz.f3 (OpenSpec.ofChange Rows.fnExactCheckUnitSpec) false w args) (Rows.fnExactCheckUnitSpec.post enc Tryz.prog Tryz.f3 false true false false) := by
  refine returns_laid (C := Tryz.checked) (X := fun w _ => laidMetH Tryz.prog Rows.fnExactCheckUnitRow.laid w) (fun _ _ _ hh h => h.of_heap hh) Tryz.own started (by kernel_rfl) Tryz.func3
    (ChangeSpec.witness_shaped (enc := enc) (C := Tryz.checked) (os := os) (X := fun w _ => laidMetH Tryz.prog Rows.fnExactCheckUnitRow.laid w) false (World.laidAll Tryz.prog os Rows.fnExactCheckUnitRow.laid) #[.agg #[.slice none 0 0, .string ByteArray.empty, .bool false, .slice none 0 0, .slice none 0 0, .slice none 0 0]] 8 (World.laidAll_os _ _ _)
      (World.shaped_of_ZipB (by kernel_rfl) (by kernel_rfl)) (by kernel_rfl) (by kernel_rfl) (by kernel_rfl)
      (by rw [MakeChecks.laidMetH_plain _ _ _ (by kernel_rfl)]; exact laidMet_laidAll _ (by kernel_rfl) (by kernel_rfl))) ?_
  intro W base args ds gs before hval0 hW hL hsh
  have hM := max_ok hsh
  have hval : ∀ (j : Nat) t v, Tryz.f3.params[j]? = some t → args[j]? = some v → Value.okWide Tryz.prog W .any base t v := hval0
  have hW' := hW
  obtain ⟨p, q, hA0, hV, rfl, hfz, hnd⟩ := hW
  have hA : DataW.TrodAll enc Tryz.prog W 0 (fun _ => true) true Tryz.f3.params.toList args.toList ds p := hA0
  rw [Tryz.params3] at hA hval
  obtain ⟨v0, d0, rfl, rfl, h0⟩ := trodAll_one hA
  obtain ⟨rfl, rfl⟩ := trodVars_none hV
  obtain ⟨c0, rfl, hc0⟩ := okWide_agg Tryz.underlying28 (hval 0 28 v0 rfl rfl)
  obtain ⟨fu0, hh0⟩ := h0
  rw [hc0] at hh0
  obtain ⟨x0, r0, o0⟩ := trod_Unit hh0
  exact (fnExactCheckUnit_calls x0 c0 W r0 o0 hM).mono fun e W' ⟨he, hb⟩ => ⟨_, he, law_post Tryz.laidOut rfl (by kernel_rfl) rfl Tryz.underlying4 hW' rfl hb⟩




end Go.Proofs.YtlppoffneeglgaaGreatDoor
