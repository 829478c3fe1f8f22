/-
  FnExactEqualUnits: the program's EqualUnits gives what the reference's gives, for all arguments.
  Conditions: none.
-/
import Derived.Test.YtihibfdnmbapkaaLaw
import Derived.Deep.RegionHeld3
import Derived.Test.YtihibfdnmbapkaaEq
import Derived.Test.YtihibfdnmbapkaaSz
import Derived.Test.YtihibfdnmbapkaaTo
import Derived.Test.YtihibfdnmbapkaaArgTypes
import Derived.Test.YtihibfdnmbapkaaFnUnits
namespace Go.Proofs.Ytihibfdnmbapkaa
open Go.ChangeShapes Go.WideShapes Go.ChangeAt Go.RowKit Go.Joins
open Go.ChangeMaps (open_string)
set_option linter.unusedSimpArgs false
set_option linter.unusedVariables false


set_option maxHeartbeats 1000000 in
theorem fnExactEqualUnits_calls (x : MUnit) (cx : List Value) (y : MUnit) (cy : List Value) (w : World) (rx : Rep w x.d cx) (ry : Rep w y.d cy) (ox : x.d.ok) (oy : y.d.ok) :
    Calls Try.prog 3 #[.agg cx.toArray, .agg cy.toArray] w fun e w' => e = .returned (.bool true) ∧ Ext w w' := by
  obtain ⟨a_x_classes, c_x_classes, a_x_main_params, c_x_main_params, a_x_main_temps, c_x_main_temps, a_x_main_body, c_x_main_body, rfl, _, _, _, _, _⟩ := MUnit.op_en rx
  obtain ⟨a_y_classes, c_y_classes, a_y_main_params, c_y_main_params, a_y_main_temps, c_y_main_temps, a_y_main_body, c_y_main_body, rfl, _, _, _, _, _⟩ := MUnit.op_en ry
  go_enter Try.func3, Try.ntmps3
  go_wp2_with fail
  refine (szUnit_any x _ 1048576 _ (by omega) (by omega) (Rep.ext (Ext.alloc (Ext.alloc (Ext.refl w) _) _) rx) ox).mono ?_
  rintro e w1 ⟨q1, rfl, hq, hx1⟩
  have e1 : Ext w w1 := (Ext.alloc (Ext.alloc (Ext.refl w) _) _).trans hx1
  have mx_0 : w1.cell? ⟨w.heap.size, 0, none⟩ = some (.slice a_x_classes x.classes.length c_x_classes) := Ext.cell hx1 (by simp)
  have mx_1 : w1.cell? ⟨w.heap.size, 1, none⟩ = some (.string x.main.selector) := Ext.cell hx1 (by simp)
  have mx_2 : w1.cell? ⟨w.heap.size, 2, none⟩ = some (.bool x.main.cls) := Ext.cell hx1 (by simp)
  have mx_3 : w1.cell? ⟨w.heap.size, 3, none⟩ = some (.slice a_x_main_params x.main.params.length c_x_main_params) := Ext.cell hx1 (by simp)
  have mx_4 : w1.cell? ⟨w.heap.size, 4, none⟩ = some (.slice a_x_main_temps x.main.temps.length c_x_main_temps) := Ext.cell hx1 (by simp)
  have mx_5 : w1.cell? ⟨w.heap.size, 5, none⟩ = some (.slice a_x_main_body x.main.body.length c_x_main_body) := Ext.cell hx1 (by simp)
  have zx : w.heap.size < w1.heap.size := lt_of_cell mx_0
  have my_0 : w1.cell? ⟨w.heap.size + 1, 0, none⟩ = some (.slice a_y_classes y.classes.length c_y_classes) := Ext.cell hx1 (by simp)
  have my_1 : w1.cell? ⟨w.heap.size + 1, 1, none⟩ = some (.string y.main.selector) := Ext.cell hx1 (by simp)
  have my_2 : w1.cell? ⟨w.heap.size + 1, 2, none⟩ = some (.bool y.main.cls) := Ext.cell hx1 (by simp)
  have my_3 : w1.cell? ⟨w.heap.size + 1, 3, none⟩ = some (.slice a_y_main_params y.main.params.length c_y_main_params) := Ext.cell hx1 (by simp)
  have my_4 : w1.cell? ⟨w.heap.size + 1, 4, none⟩ = some (.slice a_y_main_temps y.main.temps.length c_y_main_temps) := Ext.cell hx1 (by simp)
  have my_5 : w1.cell? ⟨w.heap.size + 1, 5, none⟩ = some (.slice a_y_main_body y.main.body.length c_y_main_body) := Ext.cell hx1 (by simp)
  have zy : w.heap.size + 1 < w1.heap.size := lt_of_cell my_0
  rcases hq with rfl | ⟨hq1, hqe⟩
  · go_wp2_with fail
    go_ret
    exact ⟨rfl, e1⟩
  have hl1 : q1 ≤ 1048576 := by omega
  have HQ1 := Lib.hid hqe; clear hqe
  go_wp2_with fail
  refine (szUnit_any y _ q1 _ (by omega) (by omega) (Rep.ext (e1) ry) oy).mono ?_
  rintro e w2 ⟨q2, rfl, hq, hx2⟩
  have e2 : Ext w w2 := (e1).trans hx2
  have mx_0 := Ext.cell (hx2) mx_0
  have mx_1 := Ext.cell (hx2) mx_1
  have mx_2 := Ext.cell (hx2) mx_2
  have mx_3 := Ext.cell (hx2) mx_3
  have mx_4 := Ext.cell (hx2) mx_4
  have mx_5 := Ext.cell (hx2) mx_5
  have zx : w.heap.size < w2.heap.size := lt_of_cell mx_0
  have my_0 := Ext.cell (hx2) my_0
  have my_1 := Ext.cell (hx2) my_1
  have my_2 := Ext.cell (hx2) my_2
  have my_3 := Ext.cell (hx2) my_3
  have my_4 := Ext.cell (hx2) my_4
  have my_5 := Ext.cell (hx2) my_5
  have zy : w.heap.size + 1 < w2.heap.size := lt_of_cell my_0
  rcases hq with rfl | ⟨hq2, hqe⟩
  · go_wp2_with fail
    go_ret
    exact ⟨rfl, e2⟩
  have hl2 : q2 ≤ 1048576 := by omega
  have HQ2 := Lib.hid hqe; clear hqe
  have Bx : Hid (x.d.bulk ≤ 1048576) := Lib.hid (by have := HQ1.out; have := HQ2.out; omega)
  have By : Hid (y.d.bulk ≤ 1048576) := Lib.hid (by have := HQ1.out; have := HQ2.out; omega)
  clear HQ1 HQ2
  have KS : Hid (∀ w', Ext w2 w' → w'.cell? ⟨w.heap.size, 0, none⟩ = some (.slice a_x_classes x.classes.length c_x_classes) ∧ w'.cell? ⟨w.heap.size, 1, none⟩ = some (.string x.main.selector) ∧ w'.cell? ⟨w.heap.size, 2, none⟩ = some (.bool x.main.cls) ∧ w'.cell? ⟨w.heap.size, 3, none⟩ = some (.slice a_x_main_params x.main.params.length c_x_main_params) ∧ w'.cell? ⟨w.heap.size, 4, none⟩ = some (.slice a_x_main_temps x.main.temps.length c_x_main_temps) ∧ w'.cell? ⟨w.heap.size, 5, none⟩ = some (.slice a_x_main_body x.main.body.length c_x_main_body) ∧ w'.cell? ⟨w.heap.size + 1, 0, none⟩ = some (.slice a_y_classes y.classes.length c_y_classes) ∧ w'.cell? ⟨w.heap.size + 1, 1, none⟩ = some (.string y.main.selector) ∧ w'.cell? ⟨w.heap.size + 1, 2, none⟩ = some (.bool y.main.cls) ∧ w'.cell? ⟨w.heap.size + 1, 3, none⟩ = some (.slice a_y_main_params y.main.params.length c_y_main_params) ∧ w'.cell? ⟨w.heap.size + 1, 4, none⟩ = some (.slice a_y_main_temps y.main.temps.length c_y_main_temps) ∧ w'.cell? ⟨w.heap.size + 1, 5, none⟩ = some (.slice a_y_main_body y.main.body.length c_y_main_body) ∧ Ext w2 w') := Lib.hid fun w' h => ⟨Ext.cell h mx_0, Ext.cell h mx_1, Ext.cell h mx_2, Ext.cell h mx_3, Ext.cell h mx_4, Ext.cell h mx_5, Ext.cell h my_0, Ext.cell h my_1, Ext.cell h my_2, Ext.cell h my_3, Ext.cell h my_4, Ext.cell h my_5, h⟩
  go_wp2_with fail
  go_region_held3 (fun w' => w'.cell? ⟨w.heap.size, 0, none⟩ = some (.slice a_x_classes x.classes.length c_x_classes) ∧ w'.cell? ⟨w.heap.size, 1, none⟩ = some (.string x.main.selector) ∧ w'.cell? ⟨w.heap.size, 2, none⟩ = some (.bool x.main.cls) ∧ w'.cell? ⟨w.heap.size, 3, none⟩ = some (.slice a_x_main_params x.main.params.length c_x_main_params) ∧ w'.cell? ⟨w.heap.size, 4, none⟩ = some (.slice a_x_main_temps x.main.temps.length c_x_main_temps) ∧ w'.cell? ⟨w.heap.size, 5, none⟩ = some (.slice a_x_main_body x.main.body.length c_x_main_body) ∧ w'.cell? ⟨w.heap.size + 1, 0, none⟩ = some (.slice a_y_classes y.classes.length c_y_classes) ∧ w'.cell? ⟨w.heap.size + 1, 1, none⟩ = some (.string y.main.selector) ∧ w'.cell? ⟨w.heap.size + 1, 2, none⟩ = some (.bool y.main.cls) ∧ w'.cell? ⟨w.heap.size + 1, 3, none⟩ = some (.slice a_y_main_params y.main.params.length c_y_main_params) ∧ w'.cell? ⟨w.heap.size + 1, 4, none⟩ = some (.slice a_y_main_temps y.main.temps.length c_y_main_temps) ∧ w'.cell? ⟨w.heap.size + 1, 5, none⟩ = some (.slice a_y_main_body y.main.body.length c_y_main_body) ∧ Ext w2 w')
    (first | exact KS.out _ (Ext.drew (Ext.refl _)) | exact KS.out _ (Ext.trans (Ext.drew (Ext.refl _)) hx3) | exact KS.out _ (Ext.trans (Ext.trans (Ext.drew (Ext.refl _)) hx3) hx4) | exact KS.out _ (Ext.trans (Ext.trans (Ext.trans (Ext.drew (Ext.refl _)) hx3) hx4) hx5))
    (first | (go_at_call_of 6 x.classes; refine (toUnit_any x _ _ (Rep.ext (Ext.drew (e2)) rx) Bx.out).mono ?_; rintro e w3 ⟨cs3, fp3, rfl, hr3, hf3, hx3⟩) | (go_at_call_of 6 y.classes; refine (toUnit_any y _ _ (Rep.ext (Ext.trans (Ext.drew (e2)) hx3) ry) By.out).mono ?_; rintro e w4 ⟨cs4, fp4, rfl, hr4, hf4, hx4⟩) | (go_at_call 5; refine (spec_EqualUnits_any x y _ _ _ (Rep.ext hx4 (hr3.rep)) (hr4.rep) Bx.out By.out).mono ?_; rintro e w5 ⟨rfl, hx5⟩))
  have e5 : Ext w w5 := (e2).trans (Ext.trans (Ext.trans (Ext.trans (Ext.drew (Ext.refl _)) hx3) hx4) hx5)
  have mx_0 := Ext.cell (Ext.trans (Ext.trans (Ext.trans (Ext.drew (Ext.refl _)) hx3) hx4) hx5) mx_0
  have mx_1 := Ext.cell (Ext.trans (Ext.trans (Ext.trans (Ext.drew (Ext.refl _)) hx3) hx4) hx5) mx_1
  have mx_2 := Ext.cell (Ext.trans (Ext.trans (Ext.trans (Ext.drew (Ext.refl _)) hx3) hx4) hx5) mx_2
  have mx_3 := Ext.cell (Ext.trans (Ext.trans (Ext.trans (Ext.drew (Ext.refl _)) hx3) hx4) hx5) mx_3
  have mx_4 := Ext.cell (Ext.trans (Ext.trans (Ext.trans (Ext.drew (Ext.refl _)) hx3) hx4) hx5) mx_4
  have mx_5 := Ext.cell (Ext.trans (Ext.trans (Ext.trans (Ext.drew (Ext.refl _)) hx3) hx4) hx5) mx_5
  have zx : w.heap.size < w5.heap.size := lt_of_cell mx_0
  have my_0 := Ext.cell (Ext.trans (Ext.trans (Ext.trans (Ext.drew (Ext.refl _)) hx3) hx4) hx5) my_0
  have my_1 := Ext.cell (Ext.trans (Ext.trans (Ext.trans (Ext.drew (Ext.refl _)) hx3) hx4) hx5) my_1
  have my_2 := Ext.cell (Ext.trans (Ext.trans (Ext.trans (Ext.drew (Ext.refl _)) hx3) hx4) hx5) my_2
  have my_3 := Ext.cell (Ext.trans (Ext.trans (Ext.trans (Ext.drew (Ext.refl _)) hx3) hx4) hx5) my_3
  have my_4 := Ext.cell (Ext.trans (Ext.trans (Ext.trans (Ext.drew (Ext.refl _)) hx3) hx4) hx5) my_4
  have my_5 := Ext.cell (Ext.trans (Ext.trans (Ext.trans (Ext.drew (Ext.refl _)) hx3) hx4) hx5) my_5
  have zy : w.heap.size + 1 < w5.heap.size := lt_of_cell my_0
  clear KS
  go_wp2_with fail
  refine (toUnit_any x _ _ (Rep.ext (e5) rx) Bx.out).mono ?_
  rintro e w6 ⟨cs6, fp6, rfl, hr6, hf6, hx6⟩
  have e6 : Ext w w6 := (e5).trans hx6
  have mx_0 := Ext.cell (hx6) mx_0
  have mx_1 := Ext.cell (hx6) mx_1
  have mx_2 := Ext.cell (hx6) mx_2
  have mx_3 := Ext.cell (hx6) mx_3
  have mx_4 := Ext.cell (hx6) mx_4
  have mx_5 := Ext.cell (hx6) mx_5
  have zx : w.heap.size < w6.heap.size := lt_of_cell mx_0
  have my_0 := Ext.cell (hx6) my_0
  have my_1 := Ext.cell (hx6) my_1
  have my_2 := Ext.cell (hx6) my_2
  have my_3 := Ext.cell (hx6) my_3
  have my_4 := Ext.cell (hx6) my_4
  have my_5 := Ext.cell (hx6) my_5
  have zy : w.heap.size + 1 < w6.heap.size := lt_of_cell my_0
  obtain ⟨n6_x_classes, d6_x_classes, n6_x_main_params, d6_x_main_params, n6_x_main_temps, d6_x_main_temps, n6_x_main_body, d6_x_main_body, rfl, _, _, _, _, _⟩ := MUnit.op_en hr6.rep
  have HR6 := Lib.hid hr6.rep; clear hr6 hf6
  go_wp2_with fail
  refine (toUnit_any y _ _ (Rep.ext (Ext.alloc e6 _) ry) By.out).mono ?_
  rintro e w7 ⟨cs7, fp7, rfl, hr7, hf7, hx7⟩
  have e7 : Ext w w7 := (Ext.alloc e6 _).trans hx7
  have mx_0 := Ext.cell (Ext.trans (Ext.alloc (Ext.refl _) _) hx7) mx_0
  have mx_1 := Ext.cell (Ext.trans (Ext.alloc (Ext.refl _) _) hx7) mx_1
  have mx_2 := Ext.cell (Ext.trans (Ext.alloc (Ext.refl _) _) hx7) mx_2
  have mx_3 := Ext.cell (Ext.trans (Ext.alloc (Ext.refl _) _) hx7) mx_3
  have mx_4 := Ext.cell (Ext.trans (Ext.alloc (Ext.refl _) _) hx7) mx_4
  have mx_5 := Ext.cell (Ext.trans (Ext.alloc (Ext.refl _) _) hx7) mx_5
  have zx : w.heap.size < w7.heap.size := lt_of_cell mx_0
  have my_0 := Ext.cell (Ext.trans (Ext.alloc (Ext.refl _) _) hx7) my_0
  have my_1 := Ext.cell (Ext.trans (Ext.alloc (Ext.refl _) _) hx7) my_1
  have my_2 := Ext.cell (Ext.trans (Ext.alloc (Ext.refl _) _) hx7) my_2
  have my_3 := Ext.cell (Ext.trans (Ext.alloc (Ext.refl _) _) hx7) my_3
  have my_4 := Ext.cell (Ext.trans (Ext.alloc (Ext.refl _) _) hx7) my_4
  have my_5 := Ext.cell (Ext.trans (Ext.alloc (Ext.refl _) _) hx7) my_5
  have zy : w.heap.size + 1 < w7.heap.size := lt_of_cell my_0
  have mnx_0 : w7.cell? ⟨w6.heap.size, 0, none⟩ = some (.slice n6_x_classes x.classes.length d6_x_classes) := Ext.cell hx7 (by simp)
  have mnx_1 : w7.cell? ⟨w6.heap.size, 1, none⟩ = some (.string x.main.selector) := Ext.cell hx7 (by simp)
  have mnx_2 : w7.cell? ⟨w6.heap.size, 2, none⟩ = some (.bool x.main.cls) := Ext.cell hx7 (by simp)
  have mnx_3 : w7.cell? ⟨w6.heap.size, 3, none⟩ = some (.slice n6_x_main_params x.main.params.length d6_x_main_params) := Ext.cell hx7 (by simp)
  have mnx_4 : w7.cell? ⟨w6.heap.size, 4, none⟩ = some (.slice n6_x_main_temps x.main.temps.length d6_x_main_temps) := Ext.cell hx7 (by simp)
  have mnx_5 : w7.cell? ⟨w6.heap.size, 5, none⟩ = some (.slice n6_x_main_body x.main.body.length d6_x_main_body) := Ext.cell hx7 (by simp)
  have znx : w6.heap.size < w7.heap.size := lt_of_cell mnx_0
  obtain ⟨n7_y_classes, d7_y_classes, n7_y_main_params, d7_y_main_params, n7_y_main_temps, d7_y_main_temps, n7_y_main_body, d7_y_main_body, rfl, _, _, _, _, _⟩ := MUnit.op_en hr7.rep
  have HR7 := Lib.hid hr7.rep; clear hr7 hf7
  go_wp2_with fail
  refine (impl_EqualUnits_any x y _ _ _ (Rep.ext (Ext.alloc (Ext.refl _) _) (Rep.ext (Ext.trans (Ext.alloc (Ext.refl _) _) hx7) (HR6.out))) (Rep.ext (Ext.alloc (Ext.refl _) _) (HR7.out)) Bx.out By.out).mono ?_
  rintro e w8 ⟨rfl, hx8⟩
  have e8 : Ext w w8 := (Ext.alloc e7 _).trans hx8
  have mx_0 := Ext.cell (Ext.trans (Ext.alloc (Ext.refl _) _) hx8) mx_0
  have mx_1 := Ext.cell (Ext.trans (Ext.alloc (Ext.refl _) _) hx8) mx_1
  have mx_2 := Ext.cell (Ext.trans (Ext.alloc (Ext.refl _) _) hx8) mx_2
  have mx_3 := Ext.cell (Ext.trans (Ext.alloc (Ext.refl _) _) hx8) mx_3
  have mx_4 := Ext.cell (Ext.trans (Ext.alloc (Ext.refl _) _) hx8) mx_4
  have mx_5 := Ext.cell (Ext.trans (Ext.alloc (Ext.refl _) _) hx8) mx_5
  have zx : w.heap.size < w8.heap.size := lt_of_cell mx_0
  have my_0 := Ext.cell (Ext.trans (Ext.alloc (Ext.refl _) _) hx8) my_0
  have my_1 := Ext.cell (Ext.trans (Ext.alloc (Ext.refl _) _) hx8) my_1
  have my_2 := Ext.cell (Ext.trans (Ext.alloc (Ext.refl _) _) hx8) my_2
  have my_3 := Ext.cell (Ext.trans (Ext.alloc (Ext.refl _) _) hx8) my_3
  have my_4 := Ext.cell (Ext.trans (Ext.alloc (Ext.refl _) _) hx8) my_4
  have my_5 := Ext.cell (Ext.trans (Ext.alloc (Ext.refl _) _) hx8) my_5
  have zy : w.heap.size + 1 < w8.heap.size := lt_of_cell my_0
  have mnx_0 := Ext.cell (Ext.trans (Ext.alloc (Ext.refl _) _) hx8) mnx_0
  have mnx_1 := Ext.cell (Ext.trans (Ext.alloc (Ext.refl _) _) hx8) mnx_1
  have mnx_2 := Ext.cell (Ext.trans (Ext.alloc (Ext.refl _) _) hx8) mnx_2
  have mnx_3 := Ext.cell (Ext.trans (Ext.alloc (Ext.refl _) _) hx8) mnx_3
  have mnx_4 := Ext.cell (Ext.trans (Ext.alloc (Ext.refl _) _) hx8) mnx_4
  have mnx_5 := Ext.cell (Ext.trans (Ext.alloc (Ext.refl _) _) hx8) mnx_5
  have znx : w6.heap.size < w8.heap.size := lt_of_cell mnx_0
  have mny_0 : w8.cell? ⟨w7.heap.size, 0, none⟩ = some (.slice n7_y_classes y.classes.length d7_y_classes) := Ext.cell hx8 (by simp)
  have mny_1 : w8.cell? ⟨w7.heap.size, 1, none⟩ = some (.string y.main.selector) := Ext.cell hx8 (by simp)
  have mny_2 : w8.cell? ⟨w7.heap.size, 2, none⟩ = some (.bool y.main.cls) := Ext.cell hx8 (by simp)
  have mny_3 : w8.cell? ⟨w7.heap.size, 3, none⟩ = some (.slice n7_y_main_params y.main.params.length d7_y_main_params) := Ext.cell hx8 (by simp)
  have mny_4 : w8.cell? ⟨w7.heap.size, 4, none⟩ = some (.slice n7_y_main_temps y.main.temps.length d7_y_main_temps) := Ext.cell hx8 (by simp)
  have mny_5 : w8.cell? ⟨w7.heap.size, 5, none⟩ = some (.slice n7_y_main_body y.main.body.length d7_y_main_body) := Ext.cell hx8 (by simp)
  have zny : w7.heap.size < w8.heap.size := lt_of_cell mny_0
  have Px : Hid (Rep w8 x.d _) := Lib.hid (Rep.ext (Ext.trans (Ext.alloc (Ext.refl _) _) hx8) (Rep.ext (Ext.trans (Ext.alloc (Ext.refl _) _) hx7) (HR6.out)))
  have htx : eqB x x = true := eqB_tt rfl
  have Py : Hid (Rep w8 y.d _) := Lib.hid (Rep.ext (Ext.trans (Ext.alloc (Ext.refl _) _) hx8) (HR7.out))
  have hty : eqB y y = true := eqB_tt rfl
  have KS : Hid (∀ w', Ext w8 w' → w'.cell? ⟨w.heap.size, 0, none⟩ = some (.slice a_x_classes x.classes.length c_x_classes) ∧ w'.cell? ⟨w.heap.size, 1, none⟩ = some (.string x.main.selector) ∧ w'.cell? ⟨w.heap.size, 2, none⟩ = some (.bool x.main.cls) ∧ w'.cell? ⟨w.heap.size, 3, none⟩ = some (.slice a_x_main_params x.main.params.length c_x_main_params) ∧ w'.cell? ⟨w.heap.size, 4, none⟩ = some (.slice a_x_main_temps x.main.temps.length c_x_main_temps) ∧ w'.cell? ⟨w.heap.size, 5, none⟩ = some (.slice a_x_main_body x.main.body.length c_x_main_body) ∧ w'.cell? ⟨w.heap.size + 1, 0, none⟩ = some (.slice a_y_classes y.classes.length c_y_classes) ∧ w'.cell? ⟨w.heap.size + 1, 1, none⟩ = some (.string y.main.selector) ∧ w'.cell? ⟨w.heap.size + 1, 2, none⟩ = some (.bool y.main.cls) ∧ w'.cell? ⟨w.heap.size + 1, 3, none⟩ = some (.slice a_y_main_params y.main.params.length c_y_main_params) ∧ w'.cell? ⟨w.heap.size + 1, 4, none⟩ = some (.slice a_y_main_temps y.main.temps.length c_y_main_temps) ∧ w'.cell? ⟨w.heap.size + 1, 5, none⟩ = some (.slice a_y_main_body y.main.body.length c_y_main_body) ∧ w'.cell? ⟨w6.heap.size, 0, none⟩ = some (.slice n6_x_classes x.classes.length d6_x_classes) ∧ w'.cell? ⟨w6.heap.size, 1, none⟩ = some (.string x.main.selector) ∧ w'.cell? ⟨w6.heap.size, 2, none⟩ = some (.bool x.main.cls) ∧ w'.cell? ⟨w6.heap.size, 3, none⟩ = some (.slice n6_x_main_params x.main.params.length d6_x_main_params) ∧ w'.cell? ⟨w6.heap.size, 4, none⟩ = some (.slice n6_x_main_temps x.main.temps.length d6_x_main_temps) ∧ w'.cell? ⟨w6.heap.size, 5, none⟩ = some (.slice n6_x_main_body x.main.body.length d6_x_main_body) ∧ w'.cell? ⟨w7.heap.size, 0, none⟩ = some (.slice n7_y_classes y.classes.length d7_y_classes) ∧ w'.cell? ⟨w7.heap.size, 1, none⟩ = some (.string y.main.selector) ∧ w'.cell? ⟨w7.heap.size, 2, none⟩ = some (.bool y.main.cls) ∧ w'.cell? ⟨w7.heap.size, 3, none⟩ = some (.slice n7_y_main_params y.main.params.length d7_y_main_params) ∧ w'.cell? ⟨w7.heap.size, 4, none⟩ = some (.slice n7_y_main_temps y.main.temps.length d7_y_main_temps) ∧ w'.cell? ⟨w7.heap.size, 5, none⟩ = some (.slice n7_y_main_body y.main.body.length d7_y_main_body) ∧ Ext w8 w') := Lib.hid fun w' h => ⟨Ext.cell h mx_0, Ext.cell h mx_1, Ext.cell h mx_2, Ext.cell h mx_3, Ext.cell h mx_4, Ext.cell h mx_5, Ext.cell h my_0, Ext.cell h my_1, Ext.cell h my_2, Ext.cell h my_3, Ext.cell h my_4, Ext.cell h my_5, Ext.cell h mnx_0, Ext.cell h mnx_1, Ext.cell h mnx_2, Ext.cell h mnx_3, Ext.cell h mnx_4, Ext.cell h mnx_5, Ext.cell h mny_0, Ext.cell h mny_1, Ext.cell h mny_2, Ext.cell h mny_3, Ext.cell h mny_4, Ext.cell h mny_5, h⟩
  go_wp2_with fail
  go_region_held3 (fun w' => w'.cell? ⟨w.heap.size, 0, none⟩ = some (.slice a_x_classes x.classes.length c_x_classes) ∧ w'.cell? ⟨w.heap.size, 1, none⟩ = some (.string x.main.selector) ∧ w'.cell? ⟨w.heap.size, 2, none⟩ = some (.bool x.main.cls) ∧ w'.cell? ⟨w.heap.size, 3, none⟩ = some (.slice a_x_main_params x.main.params.length c_x_main_params) ∧ w'.cell? ⟨w.heap.size, 4, none⟩ = some (.slice a_x_main_temps x.main.temps.length c_x_main_temps) ∧ w'.cell? ⟨w.heap.size, 5, none⟩ = some (.slice a_x_main_body x.main.body.length c_x_main_body) ∧ w'.cell? ⟨w.heap.size + 1, 0, none⟩ = some (.slice a_y_classes y.classes.length c_y_classes) ∧ w'.cell? ⟨w.heap.size + 1, 1, none⟩ = some (.string y.main.selector) ∧ w'.cell? ⟨w.heap.size + 1, 2, none⟩ = some (.bool y.main.cls) ∧ w'.cell? ⟨w.heap.size + 1, 3, none⟩ = some (.slice a_y_main_params y.main.params.length c_y_main_params) ∧ w'.cell? ⟨w.heap.size + 1, 4, none⟩ = some (.slice a_y_main_temps y.main.temps.length c_y_main_temps) ∧ w'.cell? ⟨w.heap.size + 1, 5, none⟩ = some (.slice a_y_main_body y.main.body.length c_y_main_body) ∧ w'.cell? ⟨w6.heap.size, 0, none⟩ = some (.slice n6_x_classes x.classes.length d6_x_classes) ∧ w'.cell? ⟨w6.heap.size, 1, none⟩ = some (.string x.main.selector) ∧ w'.cell? ⟨w6.heap.size, 2, none⟩ = some (.bool x.main.cls) ∧ w'.cell? ⟨w6.heap.size, 3, none⟩ = some (.slice n6_x_main_params x.main.params.length d6_x_main_params) ∧ w'.cell? ⟨w6.heap.size, 4, none⟩ = some (.slice n6_x_main_temps x.main.temps.length d6_x_main_temps) ∧ w'.cell? ⟨w6.heap.size, 5, none⟩ = some (.slice n6_x_main_body x.main.body.length d6_x_main_body) ∧ w'.cell? ⟨w7.heap.size, 0, none⟩ = some (.slice n7_y_classes y.classes.length d7_y_classes) ∧ w'.cell? ⟨w7.heap.size, 1, none⟩ = some (.string y.main.selector) ∧ w'.cell? ⟨w7.heap.size, 2, none⟩ = some (.bool y.main.cls) ∧ w'.cell? ⟨w7.heap.size, 3, none⟩ = some (.slice n7_y_main_params y.main.params.length d7_y_main_params) ∧ w'.cell? ⟨w7.heap.size, 4, none⟩ = some (.slice n7_y_main_temps y.main.temps.length d7_y_main_temps) ∧ w'.cell? ⟨w7.heap.size, 5, none⟩ = some (.slice n7_y_main_body y.main.body.length d7_y_main_body) ∧ Ext w8 w')
    (first | exact KS.out _ (Ext.drew (Ext.refl _)) | exact KS.out _ (Ext.trans (Ext.drew (Ext.refl _)) hx9) | exact KS.out _ (Ext.trans (Ext.trans (Ext.drew (Ext.refl _)) hx9) hx10))
    (first | (go_at_call 6; refine (toUnit_any x _ _ (Rep.ext (Ext.drew (e8)) rx) Bx.out).mono ?_; rintro e w9 ⟨cs9, fp9, rfl, hr9, hf9, hx9⟩) | (go_at_call 8; refine (eqUnit_any x x _ _ _ (Rep.ext (Ext.trans (Ext.drew (Ext.refl _)) hx9) Px.out) hr9.rep).mono ?_; rintro e w10 ⟨rfl, hx10⟩))
  have e10 : Ext w w10 := (e8).trans (Ext.trans (Ext.trans (Ext.drew (Ext.refl _)) hx9) hx10)
  have mx_0 := Ext.cell (Ext.trans (Ext.trans (Ext.drew (Ext.refl _)) hx9) hx10) mx_0
  have mx_1 := Ext.cell (Ext.trans (Ext.trans (Ext.drew (Ext.refl _)) hx9) hx10) mx_1
  have mx_2 := Ext.cell (Ext.trans (Ext.trans (Ext.drew (Ext.refl _)) hx9) hx10) mx_2
  have mx_3 := Ext.cell (Ext.trans (Ext.trans (Ext.drew (Ext.refl _)) hx9) hx10) mx_3
  have mx_4 := Ext.cell (Ext.trans (Ext.trans (Ext.drew (Ext.refl _)) hx9) hx10) mx_4
  have mx_5 := Ext.cell (Ext.trans (Ext.trans (Ext.drew (Ext.refl _)) hx9) hx10) mx_5
  have zx : w.heap.size < w10.heap.size := lt_of_cell mx_0
  have my_0 := Ext.cell (Ext.trans (Ext.trans (Ext.drew (Ext.refl _)) hx9) hx10) my_0
  have my_1 := Ext.cell (Ext.trans (Ext.trans (Ext.drew (Ext.refl _)) hx9) hx10) my_1
  have my_2 := Ext.cell (Ext.trans (Ext.trans (Ext.drew (Ext.refl _)) hx9) hx10) my_2
  have my_3 := Ext.cell (Ext.trans (Ext.trans (Ext.drew (Ext.refl _)) hx9) hx10) my_3
  have my_4 := Ext.cell (Ext.trans (Ext.trans (Ext.drew (Ext.refl _)) hx9) hx10) my_4
  have my_5 := Ext.cell (Ext.trans (Ext.trans (Ext.drew (Ext.refl _)) hx9) hx10) my_5
  have zy : w.heap.size + 1 < w10.heap.size := lt_of_cell my_0
  have mnx_0 := Ext.cell (Ext.trans (Ext.trans (Ext.drew (Ext.refl _)) hx9) hx10) mnx_0
  have mnx_1 := Ext.cell (Ext.trans (Ext.trans (Ext.drew (Ext.refl _)) hx9) hx10) mnx_1
  have mnx_2 := Ext.cell (Ext.trans (Ext.trans (Ext.drew (Ext.refl _)) hx9) hx10) mnx_2
  have mnx_3 := Ext.cell (Ext.trans (Ext.trans (Ext.drew (Ext.refl _)) hx9) hx10) mnx_3
  have mnx_4 := Ext.cell (Ext.trans (Ext.trans (Ext.drew (Ext.refl _)) hx9) hx10) mnx_4
  have mnx_5 := Ext.cell (Ext.trans (Ext.trans (Ext.drew (Ext.refl _)) hx9) hx10) mnx_5
  have znx : w6.heap.size < w10.heap.size := lt_of_cell mnx_0
  have mny_0 := Ext.cell (Ext.trans (Ext.trans (Ext.drew (Ext.refl _)) hx9) hx10) mny_0
  have mny_1 := Ext.cell (Ext.trans (Ext.trans (Ext.drew (Ext.refl _)) hx9) hx10) mny_1
  have mny_2 := Ext.cell (Ext.trans (Ext.trans (Ext.drew (Ext.refl _)) hx9) hx10) mny_2
  have mny_3 := Ext.cell (Ext.trans (Ext.trans (Ext.drew (Ext.refl _)) hx9) hx10) mny_3
  have mny_4 := Ext.cell (Ext.trans (Ext.trans (Ext.drew (Ext.refl _)) hx9) hx10) mny_4
  have mny_5 := Ext.cell (Ext.trans (Ext.trans (Ext.drew (Ext.refl _)) hx9) hx10) mny_5
  have zny : w7.heap.size < w10.heap.size := lt_of_cell mny_0
  clear KS
  have Px : Hid (Rep w10 x.d _) := Lib.hid (Rep.ext (Ext.trans (Ext.trans (Ext.drew (Ext.refl _)) hx9) hx10) Px.out)
  have Py : Hid (Rep w10 y.d _) := Lib.hid (Rep.ext (Ext.trans (Ext.trans (Ext.drew (Ext.refl _)) hx9) hx10) Py.out)
  have KS : Hid (∀ w', Ext w10 w' → w'.cell? ⟨w.heap.size, 0, none⟩ = some (.slice a_x_classes x.classes.length c_x_classes) ∧ w'.cell? ⟨w.heap.size, 1, none⟩ = some (.string x.main.selector) ∧ w'.cell? ⟨w.heap.size, 2, none⟩ = some (.bool x.main.cls) ∧ w'.cell? ⟨w.heap.size, 3, none⟩ = some (.slice a_x_main_params x.main.params.length c_x_main_params) ∧ w'.cell? ⟨w.heap.size, 4, none⟩ = some (.slice a_x_main_temps x.main.temps.length c_x_main_temps) ∧ w'.cell? ⟨w.heap.size, 5, none⟩ = some (.slice a_x_main_body x.main.body.length c_x_main_body) ∧ w'.cell? ⟨w.heap.size + 1, 0, none⟩ = some (.slice a_y_classes y.classes.length c_y_classes) ∧ w'.cell? ⟨w.heap.size + 1, 1, none⟩ = some (.string y.main.selector) ∧ w'.cell? ⟨w.heap.size + 1, 2, none⟩ = some (.bool y.main.cls) ∧ w'.cell? ⟨w.heap.size + 1, 3, none⟩ = some (.slice a_y_main_params y.main.params.length c_y_main_params) ∧ w'.cell? ⟨w.heap.size + 1, 4, none⟩ = some (.slice a_y_main_temps y.main.temps.length c_y_main_temps) ∧ w'.cell? ⟨w.heap.size + 1, 5, none⟩ = some (.slice a_y_main_body y.main.body.length c_y_main_body) ∧ w'.cell? ⟨w6.heap.size, 0, none⟩ = some (.slice n6_x_classes x.classes.length d6_x_classes) ∧ w'.cell? ⟨w6.heap.size, 1, none⟩ = some (.string x.main.selector) ∧ w'.cell? ⟨w6.heap.size, 2, none⟩ = some (.bool x.main.cls) ∧ w'.cell? ⟨w6.heap.size, 3, none⟩ = some (.slice n6_x_main_params x.main.params.length d6_x_main_params) ∧ w'.cell? ⟨w6.heap.size, 4, none⟩ = some (.slice n6_x_main_temps x.main.temps.length d6_x_main_temps) ∧ w'.cell? ⟨w6.heap.size, 5, none⟩ = some (.slice n6_x_main_body x.main.body.length d6_x_main_body) ∧ w'.cell? ⟨w7.heap.size, 0, none⟩ = some (.slice n7_y_classes y.classes.length d7_y_classes) ∧ w'.cell? ⟨w7.heap.size, 1, none⟩ = some (.string y.main.selector) ∧ w'.cell? ⟨w7.heap.size, 2, none⟩ = some (.bool y.main.cls) ∧ w'.cell? ⟨w7.heap.size, 3, none⟩ = some (.slice n7_y_main_params y.main.params.length d7_y_main_params) ∧ w'.cell? ⟨w7.heap.size, 4, none⟩ = some (.slice n7_y_main_temps y.main.temps.length d7_y_main_temps) ∧ w'.cell? ⟨w7.heap.size, 5, none⟩ = some (.slice n7_y_main_body y.main.body.length d7_y_main_body) ∧ Ext w10 w') := Lib.hid fun w' h => ⟨Ext.cell h mx_0, Ext.cell h mx_1, Ext.cell h mx_2, Ext.cell h mx_3, Ext.cell h mx_4, Ext.cell h mx_5, Ext.cell h my_0, Ext.cell h my_1, Ext.cell h my_2, Ext.cell h my_3, Ext.cell h my_4, Ext.cell h my_5, Ext.cell h mnx_0, Ext.cell h mnx_1, Ext.cell h mnx_2, Ext.cell h mnx_3, Ext.cell h mnx_4, Ext.cell h mnx_5, Ext.cell h mny_0, Ext.cell h mny_1, Ext.cell h mny_2, Ext.cell h mny_3, Ext.cell h mny_4, Ext.cell h mny_5, h⟩
  go_wp2_with fail
  go_region_held3 (fun w' => w'.cell? ⟨w.heap.size, 0, none⟩ = some (.slice a_x_classes x.classes.length c_x_classes) ∧ w'.cell? ⟨w.heap.size, 1, none⟩ = some (.string x.main.selector) ∧ w'.cell? ⟨w.heap.size, 2, none⟩ = some (.bool x.main.cls) ∧ w'.cell? ⟨w.heap.size, 3, none⟩ = some (.slice a_x_main_params x.main.params.length c_x_main_params) ∧ w'.cell? ⟨w.heap.size, 4, none⟩ = some (.slice a_x_main_temps x.main.temps.length c_x_main_temps) ∧ w'.cell? ⟨w.heap.size, 5, none⟩ = some (.slice a_x_main_body x.main.body.length c_x_main_body) ∧ w'.cell? ⟨w.heap.size + 1, 0, none⟩ = some (.slice a_y_classes y.classes.length c_y_classes) ∧ w'.cell? ⟨w.heap.size + 1, 1, none⟩ = some (.string y.main.selector) ∧ w'.cell? ⟨w.heap.size + 1, 2, none⟩ = some (.bool y.main.cls) ∧ w'.cell? ⟨w.heap.size + 1, 3, none⟩ = some (.slice a_y_main_params y.main.params.length c_y_main_params) ∧ w'.cell? ⟨w.heap.size + 1, 4, none⟩ = some (.slice a_y_main_temps y.main.temps.length c_y_main_temps) ∧ w'.cell? ⟨w.heap.size + 1, 5, none⟩ = some (.slice a_y_main_body y.main.body.length c_y_main_body) ∧ w'.cell? ⟨w6.heap.size, 0, none⟩ = some (.slice n6_x_classes x.classes.length d6_x_classes) ∧ w'.cell? ⟨w6.heap.size, 1, none⟩ = some (.string x.main.selector) ∧ w'.cell? ⟨w6.heap.size, 2, none⟩ = some (.bool x.main.cls) ∧ w'.cell? ⟨w6.heap.size, 3, none⟩ = some (.slice n6_x_main_params x.main.params.length d6_x_main_params) ∧ w'.cell? ⟨w6.heap.size, 4, none⟩ = some (.slice n6_x_main_temps x.main.temps.length d6_x_main_temps) ∧ w'.cell? ⟨w6.heap.size, 5, none⟩ = some (.slice n6_x_main_body x.main.body.length d6_x_main_body) ∧ w'.cell? ⟨w7.heap.size, 0, none⟩ = some (.slice n7_y_classes y.classes.length d7_y_classes) ∧ w'.cell? ⟨w7.heap.size, 1, none⟩ = some (.string y.main.selector) ∧ w'.cell? ⟨w7.heap.size, 2, none⟩ = some (.bool y.main.cls) ∧ w'.cell? ⟨w7.heap.size, 3, none⟩ = some (.slice n7_y_main_params y.main.params.length d7_y_main_params) ∧ w'.cell? ⟨w7.heap.size, 4, none⟩ = some (.slice n7_y_main_temps y.main.temps.length d7_y_main_temps) ∧ w'.cell? ⟨w7.heap.size, 5, none⟩ = some (.slice n7_y_main_body y.main.body.length d7_y_main_body) ∧ Ext w10 w')
    (first | exact KS.out _ (Ext.drew (Ext.refl _)) | exact KS.out _ (Ext.trans (Ext.drew (Ext.refl _)) hx11) | exact KS.out _ (Ext.trans (Ext.trans (Ext.drew (Ext.refl _)) hx11) hx12))
    (first | (go_at_call 6; refine (toUnit_any y _ _ (Rep.ext (Ext.drew (e10)) ry) By.out).mono ?_; rintro e w11 ⟨cs11, fp11, rfl, hr11, hf11, hx11⟩) | (go_at_call 8; refine (eqUnit_any y y _ _ _ (Rep.ext (Ext.trans (Ext.drew (Ext.refl _)) hx11) Py.out) hr11.rep).mono ?_; rintro e w12 ⟨rfl, hx12⟩))
  have e12 : Ext w w12 := (e10).trans (Ext.trans (Ext.trans (Ext.drew (Ext.refl _)) hx11) hx12)
  have mx_0 := Ext.cell (Ext.trans (Ext.trans (Ext.drew (Ext.refl _)) hx11) hx12) mx_0
  have mx_1 := Ext.cell (Ext.trans (Ext.trans (Ext.drew (Ext.refl _)) hx11) hx12) mx_1
  have mx_2 := Ext.cell (Ext.trans (Ext.trans (Ext.drew (Ext.refl _)) hx11) hx12) mx_2
  have mx_3 := Ext.cell (Ext.trans (Ext.trans (Ext.drew (Ext.refl _)) hx11) hx12) mx_3
  have mx_4 := Ext.cell (Ext.trans (Ext.trans (Ext.drew (Ext.refl _)) hx11) hx12) mx_4
  have mx_5 := Ext.cell (Ext.trans (Ext.trans (Ext.drew (Ext.refl _)) hx11) hx12) mx_5
  have zx : w.heap.size < w12.heap.size := lt_of_cell mx_0
  have my_0 := Ext.cell (Ext.trans (Ext.trans (Ext.drew (Ext.refl _)) hx11) hx12) my_0
  have my_1 := Ext.cell (Ext.trans (Ext.trans (Ext.drew (Ext.refl _)) hx11) hx12) my_1
  have my_2 := Ext.cell (Ext.trans (Ext.trans (Ext.drew (Ext.refl _)) hx11) hx12) my_2
  have my_3 := Ext.cell (Ext.trans (Ext.trans (Ext.drew (Ext.refl _)) hx11) hx12) my_3
  have my_4 := Ext.cell (Ext.trans (Ext.trans (Ext.drew (Ext.refl _)) hx11) hx12) my_4
  have my_5 := Ext.cell (Ext.trans (Ext.trans (Ext.drew (Ext.refl _)) hx11) hx12) my_5
  have zy : w.heap.size + 1 < w12.heap.size := lt_of_cell my_0
  have mnx_0 := Ext.cell (Ext.trans (Ext.trans (Ext.drew (Ext.refl _)) hx11) hx12) mnx_0
  have mnx_1 := Ext.cell (Ext.trans (Ext.trans (Ext.drew (Ext.refl _)) hx11) hx12) mnx_1
  have mnx_2 := Ext.cell (Ext.trans (Ext.trans (Ext.drew (Ext.refl _)) hx11) hx12) mnx_2
  have mnx_3 := Ext.cell (Ext.trans (Ext.trans (Ext.drew (Ext.refl _)) hx11) hx12) mnx_3
  have mnx_4 := Ext.cell (Ext.trans (Ext.trans (Ext.drew (Ext.refl _)) hx11) hx12) mnx_4
  have mnx_5 := Ext.cell (Ext.trans (Ext.trans (Ext.drew (Ext.refl _)) hx11) hx12) mnx_5
  have znx : w6.heap.size < w12.heap.size := lt_of_cell mnx_0
  have mny_0 := Ext.cell (Ext.trans (Ext.trans (Ext.drew (Ext.refl _)) hx11) hx12) mny_0
  have mny_1 := Ext.cell (Ext.trans (Ext.trans (Ext.drew (Ext.refl _)) hx11) hx12) mny_1
  have mny_2 := Ext.cell (Ext.trans (Ext.trans (Ext.drew (Ext.refl _)) hx11) hx12) mny_2
  have mny_3 := Ext.cell (Ext.trans (Ext.trans (Ext.drew (Ext.refl _)) hx11) hx12) mny_3
  have mny_4 := Ext.cell (Ext.trans (Ext.trans (Ext.drew (Ext.refl _)) hx11) hx12) mny_4
  have mny_5 := Ext.cell (Ext.trans (Ext.trans (Ext.drew (Ext.refl _)) hx11) hx12) mny_5
  have zny : w7.heap.size < w12.heap.size := lt_of_cell mny_0
  clear KS
  have Px : Hid (Rep w12 x.d _) := Lib.hid (Rep.ext (Ext.trans (Ext.trans (Ext.drew (Ext.refl _)) hx11) hx12) Px.out)
  have Py : Hid (Rep w12 y.d _) := Lib.hid (Rep.ext (Ext.trans (Ext.trans (Ext.drew (Ext.refl _)) hx11) hx12) Py.out)
  go_wp2_with fail
  go_ret
  exact ⟨rfl, e12⟩

set_option maxRecDepth 100000 in
theorem fnExactEqualUnits_lifted (os : Os) (started : os.Started) (H : Type) (enc : TypeId × Value → H) :
    ReturnsInHanded {} Try.checked os 3 .any (Rows.fnExactEqualUnitsSpec.pre6 enc Try.prog Try.f3 Rows.fnExactEqualUnitsRow.domain false) (Rows.fnExactEqualUnitsSpec.post enc Try.prog Try.f3 false true false false) := by
  refine returnsInHanded_of_change (C := Try.checked) Try.own started (by kernel_rfl) Try.func3
    (ChangeSpec.witness6 (enc := enc) (C := Try.checked) false ⟨#[], #[.agg #[.slice none 0 0, .string ByteArray.empty, .bool false, .slice none 0 0, .slice none 0 0, .slice none 0 0], .agg #[.slice none 0 0, .string ByteArray.empty, .bool false, .slice none 0 0, .slice none 0 0, .slice none 0 0]], []⟩ 8 (by kernel_rfl) (by kernel_rfl) (by kernel_rfl) (by kernel_rfl)) ?_
  intro W base args ds gs before hval0 hW hcnd _
  have hval : ∀ (j : Nat) t v, Try.f3.params[j]? = some t → args[j]? = some v → Value.okWide Try.prog W .any base t v := hval0
  have hW' := hW
  obtain ⟨p, q, hA0, hV, rfl, hfz, hnd⟩ := hW
  have hA : DataW.TrodAll enc Try.prog W 0 (fun _ => true) true Try.f3.params.toList args.toList ds p := hA0
  rw [Try.params3] at hA hval
  obtain ⟨v0, v1, d0, d1, p0, p1, rfl, rfl, rfl, h0, h1⟩ := trodAll_two hA
  obtain ⟨rfl, rfl⟩ := trodVars_none hV
  obtain ⟨c0, rfl, hc0⟩ := okWide_agg Try.underlying28 (hval 0 28 v0 rfl rfl)
  obtain ⟨fu0, hh0⟩ := h0
  rw [hc0] at hh0
  obtain ⟨x0, r0, o0⟩ := trod_Unit hh0
  obtain ⟨c1, rfl, hc1⟩ := okWide_agg Try.underlying28 (hval 1 28 v1 rfl rfl)
  obtain ⟨fu1, hh1⟩ := h1
  rw [hc1] at hh1
  obtain ⟨x1, r1, o1⟩ := trod_Unit hh1
  exact (fnExactEqualUnits_calls x0 c0 x1 c1 W r0 r1 o0 o1).mono fun e W' ⟨he, hb⟩ => ⟨_, he, law_post Try.laidOut rfl (by kernel_rfl) rfl Try.underlying4 hW' rfl hb⟩

theorem fnExactEqualUnits_holds : Rows.FnExactEqualUnitsSaid :=
  OpenClaim.holds_of_wide 3 Try.f3 rfl rfl rfl rfl rfl rfl rfl ⟨rfl, rfl, rfl, rfl, rfl⟩ rfl rfl rfl rfl rfl (by kernel_rfl) Try.func3 (by kernel_rfl)
    (of_decide_eq_true (by kernel_rfl)) (by unfold Func.isWrapper; rw [if_neg (of_decide_eq_false (by kernel_rfl))]; exact ⟨rfl, rfl⟩)
    (fun os started H enc _ => fnExactEqualUnits_lifted os started H enc)

#print axioms fnExactEqualUnits_holds


end Go.Proofs.Ytihibfdnmbapkaa
