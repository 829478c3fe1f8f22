/-
  FnExactPrintValue: the program's PrintValue gives what the reference's gives, for all arguments.
  Conditions: none.
-/
import Derived.Test.YticdmbmjlaomiaaGreatDoorDoorLaw
import Derived.Deep.RegionHeld3
import Derived.Test.YticdmbmjlaomiaaGreatDoorEq
import Derived.Test.YticdmbmjlaomiaaGreatDoorSz
import Derived.Test.YticdmbmjlaomiaaGreatDoorTo
import Derived.Test.YticdmbmjlaomiaaGreatDoorArgTypes
import Derived.Test.YticdmbmjlaomiaaGreatDoorFnPrintV
import Derived.Test.YticdmbmjlaomiaaGreatDoorFnPrintS
namespace Go.Proofs.YticdmbmjlaomiaaGreatDoor
open Go.ChangeShapes Go.WideShapes Go.ChangeAt Go.RowKit Go.Joins
open Go.ChangeMaps (open_string)
set_option linter.unusedSimpArgs false
set_option linter.unusedVariables false


set_option maxHeartbeats 2000000 in
theorem fnExactPrintValue_calls (x : MStore) (cx : List Value) (v : MValue) (cv : List Value) (w : World) (rx : Rep w x.d cx) (rv : Rep w v.d cv) (ox : x.d.ok) (ov : v.d.ok) (hM : MaxOk w ∧ TabOk w) :
    Calls Tryz.prog 3 #[.agg cx.toArray, .agg cv.toArray] w fun e w' => e = .returned (.bool true) ∧ Ext w w' := by
  obtain ⟨a_x_classes, c_x_classes, a_x_objects, c_x_objects, a_x_output, c_x_output, rfl, _, _, _⟩ := MStore.op_en rx
  have hcv := MValue.op_en rv
  subst hcv
  go_enter Tryz.func3, Tryz.ntmps3
  go_wp2_with fail
  refine (szStore_any x _ 1048576 _ (by omega) (by omega) (Rep.ext (Ext.alloc (Ext.alloc (Ext.refl w) _) _) rx) ox).mono ?_
  rintro e w1 ⟨q1, rfl, hq, hx1⟩
  have e1 : Ext w w1 := (Ext.alloc (Ext.alloc (Ext.refl w) _) _).trans hx1
  have mx_0 : w1.cell? ⟨w.heap.size, 0, none⟩ = some (.slice a_x_classes x.classes.length c_x_classes) := Ext.cell hx1 (by simp)
  have mx_1 : w1.cell? ⟨w.heap.size, 1, none⟩ = some (.slice a_x_objects x.objects.length c_x_objects) := Ext.cell hx1 (by simp)
  have mx_2 : w1.cell? ⟨w.heap.size, 2, none⟩ = some (.slice a_x_output x.output.length c_x_output) := Ext.cell hx1 (by simp)
  have mx_3 : w1.cell? ⟨w.heap.size, 3, none⟩ = some (.int .i64 x.ticks) := Ext.cell hx1 (by simp)
  have mx_4 : w1.cell? ⟨w.heap.size, 4, none⟩ = some (.int .i64 x.budget) := Ext.cell hx1 (by simp)
  have mx_5 : w1.cell? ⟨w.heap.size, 5, none⟩ = some (.int .i64 x.made) := Ext.cell hx1 (by simp)
  have zx : w.heap.size < w1.heap.size := lt_of_cell mx_0
  have mv_0 : w1.cell? ⟨w.heap.size + 1, 0, none⟩ = some (.int .i64 v.kind) := Ext.cell hx1 (by simp)
  have mv_1 : w1.cell? ⟨w.heap.size + 1, 1, none⟩ = some (.int .i64 v.number) := Ext.cell hx1 (by simp)
  have mv_2 : w1.cell? ⟨w.heap.size + 1, 2, none⟩ = some (.string v.text) := Ext.cell hx1 (by simp)
  have zv : w.heap.size + 1 < w1.heap.size := lt_of_cell mv_0
  rcases hq with rfl | ⟨hq1, hqe⟩
  · go_wp2_with fail
    go_ret
    exact ⟨rfl, e1⟩
  have hl1 : q1 ≤ 1048576 := by omega
  have HQ1 := Lib.hid hqe; clear hqe
  go_wp2_with fail
  refine (szValue_any v _ q1 _ (by omega) (by omega) (Rep.ext (e1) rv) ov).mono ?_
  rintro e w2 ⟨q2, rfl, hq, hx2⟩
  have e2 : Ext w w2 := (e1).trans hx2
  have mx_0 := Ext.cell (hx2) mx_0
  have mx_1 := Ext.cell (hx2) mx_1
  have mx_2 := Ext.cell (hx2) mx_2
  have mx_3 := Ext.cell (hx2) mx_3
  have mx_4 := Ext.cell (hx2) mx_4
  have mx_5 := Ext.cell (hx2) mx_5
  have zx : w.heap.size < w2.heap.size := lt_of_cell mx_0
  have mv_0 := Ext.cell (hx2) mv_0
  have mv_1 := Ext.cell (hx2) mv_1
  have mv_2 := Ext.cell (hx2) mv_2
  have zv : w.heap.size + 1 < w2.heap.size := lt_of_cell mv_0
  rcases hq with rfl | ⟨hq2, hqe⟩
  · go_wp2_with fail
    go_ret
    exact ⟨rfl, e2⟩
  have hl2 : q2 ≤ 1048576 := by omega
  have HQ2 := Lib.hid hqe; clear hqe
  have Bx : Hid (x.d.bulk ≤ 1048576) := Lib.hid (by have := HQ1.out; have := HQ2.out; omega)
  have Bv : Hid (v.d.bulk ≤ 1048576) := Lib.hid (by have := HQ1.out; have := HQ2.out; omega)
  clear HQ1 HQ2
  have tq : (!(printV x v).toList == (printV x v).toList) = false := str_eqn rfl
  have KS : Hid (∀ w', Ext w2 w' → w'.cell? ⟨w.heap.size, 0, none⟩ = some (.slice a_x_classes x.classes.length c_x_classes) ∧ w'.cell? ⟨w.heap.size, 1, none⟩ = some (.slice a_x_objects x.objects.length c_x_objects) ∧ w'.cell? ⟨w.heap.size, 2, none⟩ = some (.slice a_x_output x.output.length c_x_output) ∧ w'.cell? ⟨w.heap.size, 3, none⟩ = some (.int .i64 x.ticks) ∧ w'.cell? ⟨w.heap.size, 4, none⟩ = some (.int .i64 x.budget) ∧ w'.cell? ⟨w.heap.size, 5, none⟩ = some (.int .i64 x.made) ∧ w'.cell? ⟨w.heap.size + 1, 0, none⟩ = some (.int .i64 v.kind) ∧ w'.cell? ⟨w.heap.size + 1, 1, none⟩ = some (.int .i64 v.number) ∧ w'.cell? ⟨w.heap.size + 1, 2, none⟩ = some (.string v.text) ∧ Ext w2 w') := Lib.hid fun w' h => ⟨Ext.cell h mx_0, Ext.cell h mx_1, Ext.cell h mx_2, Ext.cell h mx_3, Ext.cell h mx_4, Ext.cell h mx_5, Ext.cell h mv_0, Ext.cell h mv_1, Ext.cell h mv_2, h⟩
  go_wp2_with fail
  go_region_held3 (fun w' => w'.cell? ⟨w.heap.size, 0, none⟩ = some (.slice a_x_classes x.classes.length c_x_classes) ∧ w'.cell? ⟨w.heap.size, 1, none⟩ = some (.slice a_x_objects x.objects.length c_x_objects) ∧ w'.cell? ⟨w.heap.size, 2, none⟩ = some (.slice a_x_output x.output.length c_x_output) ∧ w'.cell? ⟨w.heap.size, 3, none⟩ = some (.int .i64 x.ticks) ∧ w'.cell? ⟨w.heap.size, 4, none⟩ = some (.int .i64 x.budget) ∧ w'.cell? ⟨w.heap.size, 5, none⟩ = some (.int .i64 x.made) ∧ w'.cell? ⟨w.heap.size + 1, 0, none⟩ = some (.int .i64 v.kind) ∧ w'.cell? ⟨w.heap.size + 1, 1, none⟩ = some (.int .i64 v.number) ∧ w'.cell? ⟨w.heap.size + 1, 2, none⟩ = some (.string v.text) ∧ Ext w2 w')
    (first | exact KS.out _ (Ext.drew (Ext.refl _)) | exact KS.out _ (Ext.trans (Ext.drew (Ext.refl _)) hx3) | exact KS.out _ (Ext.trans (Ext.trans (Ext.drew (Ext.refl _)) hx3) hx4) | exact KS.out _ (Ext.trans (Ext.trans (Ext.trans (Ext.drew (Ext.refl _)) hx3) hx4) hx5))
    (first | (go_at_call_of 12 x.classes; refine (toStore_any x _ _ (Rep.ext (Ext.drew (e2)) rx) Bx.out).mono ?_; rintro e w3 ⟨cs3, fp3, rfl, hr3, hf3, hx3⟩) | (go_at_call_of 13 v.kind; refine (toValue_any v _ _ (Rep.ext (Ext.trans (Ext.drew (e2)) hx3) rv) Bv.out).mono ?_; rintro e w4 ⟨cs4, fp4, rfl, hr4, hf4, hx4⟩) | (go_at_call 11; refine (spec_PrintValue_any x v _ _ _ (Rep.ext hx4 (hr3.rep)) (hr4.rep) (bulk_store Bx.out) (bulk_value Bv.out)).mono ?_; rintro e w5 ⟨rfl, hx5⟩))
  have e5 : Ext w w5 := (e2).trans (Ext.trans (Ext.trans (Ext.trans (Ext.drew (Ext.refl _)) hx3) hx4) hx5)
  have mx_0 := Ext.cell (Ext.trans (Ext.trans (Ext.trans (Ext.drew (Ext.refl _)) hx3) hx4) hx5) mx_0
  have mx_1 := Ext.cell (Ext.trans (Ext.trans (Ext.trans (Ext.drew (Ext.refl _)) hx3) hx4) hx5) mx_1
  have mx_2 := Ext.cell (Ext.trans (Ext.trans (Ext.trans (Ext.drew (Ext.refl _)) hx3) hx4) hx5) mx_2
  have mx_3 := Ext.cell (Ext.trans (Ext.trans (Ext.trans (Ext.drew (Ext.refl _)) hx3) hx4) hx5) mx_3
  have mx_4 := Ext.cell (Ext.trans (Ext.trans (Ext.trans (Ext.drew (Ext.refl _)) hx3) hx4) hx5) mx_4
  have mx_5 := Ext.cell (Ext.trans (Ext.trans (Ext.trans (Ext.drew (Ext.refl _)) hx3) hx4) hx5) mx_5
  have zx : w.heap.size < w5.heap.size := lt_of_cell mx_0
  have mv_0 := Ext.cell (Ext.trans (Ext.trans (Ext.trans (Ext.drew (Ext.refl _)) hx3) hx4) hx5) mv_0
  have mv_1 := Ext.cell (Ext.trans (Ext.trans (Ext.trans (Ext.drew (Ext.refl _)) hx3) hx4) hx5) mv_1
  have mv_2 := Ext.cell (Ext.trans (Ext.trans (Ext.trans (Ext.drew (Ext.refl _)) hx3) hx4) hx5) mv_2
  have zv : w.heap.size + 1 < w5.heap.size := lt_of_cell mv_0
  clear KS
  go_wp2_with fail
  refine (toStore_any x _ _ (Rep.ext (e5) rx) Bx.out).mono ?_
  rintro e w6 ⟨cs6, fp6, rfl, hr6, hf6, hx6⟩
  have e6 : Ext w w6 := (e5).trans hx6
  have mx_0 := Ext.cell (hx6) mx_0
  have mx_1 := Ext.cell (hx6) mx_1
  have mx_2 := Ext.cell (hx6) mx_2
  have mx_3 := Ext.cell (hx6) mx_3
  have mx_4 := Ext.cell (hx6) mx_4
  have mx_5 := Ext.cell (hx6) mx_5
  have zx : w.heap.size < w6.heap.size := lt_of_cell mx_0
  have mv_0 := Ext.cell (hx6) mv_0
  have mv_1 := Ext.cell (hx6) mv_1
  have mv_2 := Ext.cell (hx6) mv_2
  have zv : w.heap.size + 1 < w6.heap.size := lt_of_cell mv_0
  obtain ⟨n6_x_classes, d6_x_classes, n6_x_objects, d6_x_objects, n6_x_output, d6_x_output, rfl, _, _, _⟩ := MStore.op_en hr6.rep
  have HR6 := Lib.hid hr6.rep; clear hr6 hf6
  go_upto_region 10 with fail
  generalize hS : World.alloc w6 _ = w7
  have hx7 : Ext w6 w7 := by rw [← hS]; exact (Ext.refl _).alloc _
  have mnx_0 : w7.cell? ⟨w6.heap.size, 0, none⟩ = some (.slice n6_x_classes x.classes.length d6_x_classes) := by rw [← hS]; simp
  have mnx_1 : w7.cell? ⟨w6.heap.size, 1, none⟩ = some (.slice n6_x_objects x.objects.length d6_x_objects) := by rw [← hS]; simp
  have mnx_2 : w7.cell? ⟨w6.heap.size, 2, none⟩ = some (.slice n6_x_output x.output.length d6_x_output) := by rw [← hS]; simp
  have mnx_3 : w7.cell? ⟨w6.heap.size, 3, none⟩ = some (.int .i64 x.ticks) := by rw [← hS]; simp
  have mnx_4 : w7.cell? ⟨w6.heap.size, 4, none⟩ = some (.int .i64 x.budget) := by rw [← hS]; simp
  have mnx_5 : w7.cell? ⟨w6.heap.size, 5, none⟩ = some (.int .i64 x.made) := by rw [← hS]; simp
  clear hS
  have e7 : Ext w w7 := e6.trans hx7
  replace mx_0 := Ext.cell hx7 mx_0
  replace mx_1 := Ext.cell hx7 mx_1
  replace mx_2 := Ext.cell hx7 mx_2
  replace mx_3 := Ext.cell hx7 mx_3
  replace mx_4 := Ext.cell hx7 mx_4
  replace mx_5 := Ext.cell hx7 mx_5
  replace zx : w.heap.size < w7.heap.size := lt_of_cell mx_0
  replace mv_0 := Ext.cell hx7 mv_0
  replace mv_1 := Ext.cell hx7 mv_1
  replace mv_2 := Ext.cell hx7 mv_2
  replace zv : w.heap.size + 1 < w7.heap.size := lt_of_cell mv_0
  have znx : w6.heap.size < w7.heap.size := lt_of_cell mnx_0
  have Px : Hid (Rep w7 x.d _) := Lib.hid (Rep.ext hx7 HR6.out)
  have KS : Hid (∀ w', Ext w7 w' → w'.cell? ⟨w.heap.size, 0, none⟩ = some (.slice a_x_classes x.classes.length c_x_classes) ∧ w'.cell? ⟨w.heap.size, 1, none⟩ = some (.slice a_x_objects x.objects.length c_x_objects) ∧ w'.cell? ⟨w.heap.size, 2, none⟩ = some (.slice a_x_output x.output.length c_x_output) ∧ w'.cell? ⟨w.heap.size, 3, none⟩ = some (.int .i64 x.ticks) ∧ w'.cell? ⟨w.heap.size, 4, none⟩ = some (.int .i64 x.budget) ∧ w'.cell? ⟨w.heap.size, 5, none⟩ = some (.int .i64 x.made) ∧ w'.cell? ⟨w.heap.size + 1, 0, none⟩ = some (.int .i64 v.kind) ∧ w'.cell? ⟨w.heap.size + 1, 1, none⟩ = some (.int .i64 v.number) ∧ w'.cell? ⟨w.heap.size + 1, 2, none⟩ = some (.string v.text) ∧ w'.cell? ⟨w6.heap.size, 0, none⟩ = some (.slice n6_x_classes x.classes.length d6_x_classes) ∧ w'.cell? ⟨w6.heap.size, 1, none⟩ = some (.slice n6_x_objects x.objects.length d6_x_objects) ∧ w'.cell? ⟨w6.heap.size, 2, none⟩ = some (.slice n6_x_output x.output.length d6_x_output) ∧ w'.cell? ⟨w6.heap.size, 3, none⟩ = some (.int .i64 x.ticks) ∧ w'.cell? ⟨w6.heap.size, 4, none⟩ = some (.int .i64 x.budget) ∧ w'.cell? ⟨w6.heap.size, 5, none⟩ = some (.int .i64 x.made) ∧ Ext w7 w') := Lib.hid fun w' h => ⟨Ext.cell h mx_0, Ext.cell h mx_1, Ext.cell h mx_2, Ext.cell h mx_3, Ext.cell h mx_4, Ext.cell h mx_5, Ext.cell h mv_0, Ext.cell h mv_1, Ext.cell h mv_2, Ext.cell h mnx_0, Ext.cell h mnx_1, Ext.cell h mnx_2, Ext.cell h mnx_3, Ext.cell h mnx_4, Ext.cell h mnx_5, h⟩
  go_wp2_with fail
  go_region_held3 (fun w' => w'.cell? ⟨w.heap.size, 0, none⟩ = some (.slice a_x_classes x.classes.length c_x_classes) ∧ w'.cell? ⟨w.heap.size, 1, none⟩ = some (.slice a_x_objects x.objects.length c_x_objects) ∧ w'.cell? ⟨w.heap.size, 2, none⟩ = some (.slice a_x_output x.output.length c_x_output) ∧ w'.cell? ⟨w.heap.size, 3, none⟩ = some (.int .i64 x.ticks) ∧ w'.cell? ⟨w.heap.size, 4, none⟩ = some (.int .i64 x.budget) ∧ w'.cell? ⟨w.heap.size, 5, none⟩ = some (.int .i64 x.made) ∧ w'.cell? ⟨w.heap.size + 1, 0, none⟩ = some (.int .i64 v.kind) ∧ w'.cell? ⟨w.heap.size + 1, 1, none⟩ = some (.int .i64 v.number) ∧ w'.cell? ⟨w.heap.size + 1, 2, none⟩ = some (.string v.text) ∧ w'.cell? ⟨w6.heap.size, 0, none⟩ = some (.slice n6_x_classes x.classes.length d6_x_classes) ∧ w'.cell? ⟨w6.heap.size, 1, none⟩ = some (.slice n6_x_objects x.objects.length d6_x_objects) ∧ w'.cell? ⟨w6.heap.size, 2, none⟩ = some (.slice n6_x_output x.output.length d6_x_output) ∧ w'.cell? ⟨w6.heap.size, 3, none⟩ = some (.int .i64 x.ticks) ∧ w'.cell? ⟨w6.heap.size, 4, none⟩ = some (.int .i64 x.budget) ∧ w'.cell? ⟨w6.heap.size, 5, none⟩ = some (.int .i64 x.made) ∧ Ext w7 w')
    (first | exact KS.out _ (Ext.drew (Ext.refl _)) | exact KS.out _ (Ext.trans (Ext.drew (Ext.refl _)) hx8) | exact KS.out _ (Ext.trans (Ext.trans (Ext.drew (Ext.refl _)) hx8) hx9))
    (first | (go_at_call_of 13 v.kind; refine (toValue_any v _ _ (Rep.ext (Ext.drew (e7)) rv) Bv.out).mono ?_; rintro e w8 ⟨cs8, fp8, rfl, hr8, hf8, hx8⟩) | (go_at_call 14; refine (impl_PrintValue_any x v _ _ _ (Rep.ext (Ext.trans (Ext.drew (Ext.refl _)) hx8) Px.out) (hr8.rep) (bulk_store Bx.out) (bulk_value Bv.out) (hM.1.ext (Ext.trans (Ext.drew (e7)) hx8)) (hM.2.ext (Ext.trans (Ext.drew (e7)) hx8))).mono ?_; rintro e w9 ⟨rfl, hx9⟩))
  have e9 : Ext w w9 := (e7).trans (Ext.trans (Ext.trans (Ext.drew (Ext.refl _)) hx8) hx9)
  have mx_0 := Ext.cell (Ext.trans (Ext.trans (Ext.drew (Ext.refl _)) hx8) hx9) mx_0
  have mx_1 := Ext.cell (Ext.trans (Ext.trans (Ext.drew (Ext.refl _)) hx8) hx9) mx_1
  have mx_2 := Ext.cell (Ext.trans (Ext.trans (Ext.drew (Ext.refl _)) hx8) hx9) mx_2
  have mx_3 := Ext.cell (Ext.trans (Ext.trans (Ext.drew (Ext.refl _)) hx8) hx9) mx_3
  have mx_4 := Ext.cell (Ext.trans (Ext.trans (Ext.drew (Ext.refl _)) hx8) hx9) mx_4
  have mx_5 := Ext.cell (Ext.trans (Ext.trans (Ext.drew (Ext.refl _)) hx8) hx9) mx_5
  have zx : w.heap.size < w9.heap.size := lt_of_cell mx_0
  have mv_0 := Ext.cell (Ext.trans (Ext.trans (Ext.drew (Ext.refl _)) hx8) hx9) mv_0
  have mv_1 := Ext.cell (Ext.trans (Ext.trans (Ext.drew (Ext.refl _)) hx8) hx9) mv_1
  have mv_2 := Ext.cell (Ext.trans (Ext.trans (Ext.drew (Ext.refl _)) hx8) hx9) mv_2
  have zv : w.heap.size + 1 < w9.heap.size := lt_of_cell mv_0
  have mnx_0 := Ext.cell (Ext.trans (Ext.trans (Ext.drew (Ext.refl _)) hx8) hx9) mnx_0
  have mnx_1 := Ext.cell (Ext.trans (Ext.trans (Ext.drew (Ext.refl _)) hx8) hx9) mnx_1
  have mnx_2 := Ext.cell (Ext.trans (Ext.trans (Ext.drew (Ext.refl _)) hx8) hx9) mnx_2
  have mnx_3 := Ext.cell (Ext.trans (Ext.trans (Ext.drew (Ext.refl _)) hx8) hx9) mnx_3
  have mnx_4 := Ext.cell (Ext.trans (Ext.trans (Ext.drew (Ext.refl _)) hx8) hx9) mnx_4
  have mnx_5 := Ext.cell (Ext.trans (Ext.trans (Ext.drew (Ext.refl _)) hx8) hx9) mnx_5
  have znx : w6.heap.size < w9.heap.size := lt_of_cell mnx_0
  clear KS
  replace Px : Hid (Rep w9 x.d _) := Lib.hid (Rep.ext (Ext.trans (Ext.trans (Ext.drew (Ext.refl _)) hx8) hx9) Px.out)
  have htx : eqB x x = true := eqB_tt rfl
  have KS : Hid (∀ w', Ext w9 w' → w'.cell? ⟨w.heap.size, 0, none⟩ = some (.slice a_x_classes x.classes.length c_x_classes) ∧ w'.cell? ⟨w.heap.size, 1, none⟩ = some (.slice a_x_objects x.objects.length c_x_objects) ∧ w'.cell? ⟨w.heap.size, 2, none⟩ = some (.slice a_x_output x.output.length c_x_output) ∧ w'.cell? ⟨w.heap.size, 3, none⟩ = some (.int .i64 x.ticks) ∧ w'.cell? ⟨w.heap.size, 4, none⟩ = some (.int .i64 x.budget) ∧ w'.cell? ⟨w.heap.size, 5, none⟩ = some (.int .i64 x.made) ∧ w'.cell? ⟨w.heap.size + 1, 0, none⟩ = some (.int .i64 v.kind) ∧ w'.cell? ⟨w.heap.size + 1, 1, none⟩ = some (.int .i64 v.number) ∧ w'.cell? ⟨w.heap.size + 1, 2, none⟩ = some (.string v.text) ∧ w'.cell? ⟨w6.heap.size, 0, none⟩ = some (.slice n6_x_classes x.classes.length d6_x_classes) ∧ w'.cell? ⟨w6.heap.size, 1, none⟩ = some (.slice n6_x_objects x.objects.length d6_x_objects) ∧ w'.cell? ⟨w6.heap.size, 2, none⟩ = some (.slice n6_x_output x.output.length d6_x_output) ∧ w'.cell? ⟨w6.heap.size, 3, none⟩ = some (.int .i64 x.ticks) ∧ w'.cell? ⟨w6.heap.size, 4, none⟩ = some (.int .i64 x.budget) ∧ w'.cell? ⟨w6.heap.size, 5, none⟩ = some (.int .i64 x.made) ∧ Ext w9 w') := Lib.hid fun w' h => ⟨Ext.cell h mx_0, Ext.cell h mx_1, Ext.cell h mx_2, Ext.cell h mx_3, Ext.cell h mx_4, Ext.cell h mx_5, Ext.cell h mv_0, Ext.cell h mv_1, Ext.cell h mv_2, Ext.cell h mnx_0, Ext.cell h mnx_1, Ext.cell h mnx_2, Ext.cell h mnx_3, Ext.cell h mnx_4, Ext.cell h mnx_5, h⟩
  go_wp2_with fail
  go_region_held3 (fun w' => w'.cell? ⟨w.heap.size, 0, none⟩ = some (.slice a_x_classes x.classes.length c_x_classes) ∧ w'.cell? ⟨w.heap.size, 1, none⟩ = some (.slice a_x_objects x.objects.length c_x_objects) ∧ w'.cell? ⟨w.heap.size, 2, none⟩ = some (.slice a_x_output x.output.length c_x_output) ∧ w'.cell? ⟨w.heap.size, 3, none⟩ = some (.int .i64 x.ticks) ∧ w'.cell? ⟨w.heap.size, 4, none⟩ = some (.int .i64 x.budget) ∧ w'.cell? ⟨w.heap.size, 5, none⟩ = some (.int .i64 x.made) ∧ w'.cell? ⟨w.heap.size + 1, 0, none⟩ = some (.int .i64 v.kind) ∧ w'.cell? ⟨w.heap.size + 1, 1, none⟩ = some (.int .i64 v.number) ∧ w'.cell? ⟨w.heap.size + 1, 2, none⟩ = some (.string v.text) ∧ w'.cell? ⟨w6.heap.size, 0, none⟩ = some (.slice n6_x_classes x.classes.length d6_x_classes) ∧ w'.cell? ⟨w6.heap.size, 1, none⟩ = some (.slice n6_x_objects x.objects.length d6_x_objects) ∧ w'.cell? ⟨w6.heap.size, 2, none⟩ = some (.slice n6_x_output x.output.length d6_x_output) ∧ w'.cell? ⟨w6.heap.size, 3, none⟩ = some (.int .i64 x.ticks) ∧ w'.cell? ⟨w6.heap.size, 4, none⟩ = some (.int .i64 x.budget) ∧ w'.cell? ⟨w6.heap.size, 5, none⟩ = some (.int .i64 x.made) ∧ Ext w9 w')
    (first | exact KS.out _ (Ext.drew (Ext.refl _)) | exact KS.out _ (Ext.trans (Ext.drew (Ext.refl _)) hx10) | exact KS.out _ (Ext.trans (Ext.trans (Ext.drew (Ext.refl _)) hx10) hx11))
    (first | (go_at_call 12; refine (toStore_any x _ _ (Rep.ext (Ext.drew (e9)) rx) Bx.out).mono ?_; rintro e w10 ⟨cs10, fp10, rfl, hr10, hf10, hx10⟩) | (go_at_call 15; refine (eqStore_any x x _ _ _ (Rep.ext (Ext.trans (Ext.drew (Ext.refl _)) hx10) Px.out) hr10.rep).mono ?_; rintro e w11 ⟨rfl, hx11⟩))
  have e11 : Ext w w11 := (e9).trans (Ext.trans (Ext.trans (Ext.drew (Ext.refl _)) hx10) hx11)
  have mx_0 := Ext.cell (Ext.trans (Ext.trans (Ext.drew (Ext.refl _)) hx10) hx11) mx_0
  have mx_1 := Ext.cell (Ext.trans (Ext.trans (Ext.drew (Ext.refl _)) hx10) hx11) mx_1
  have mx_2 := Ext.cell (Ext.trans (Ext.trans (Ext.drew (Ext.refl _)) hx10) hx11) mx_2
  have mx_3 := Ext.cell (Ext.trans (Ext.trans (Ext.drew (Ext.refl _)) hx10) hx11) mx_3
  have mx_4 := Ext.cell (Ext.trans (Ext.trans (Ext.drew (Ext.refl _)) hx10) hx11) mx_4
  have mx_5 := Ext.cell (Ext.trans (Ext.trans (Ext.drew (Ext.refl _)) hx10) hx11) mx_5
  have zx : w.heap.size < w11.heap.size := lt_of_cell mx_0
  have mv_0 := Ext.cell (Ext.trans (Ext.trans (Ext.drew (Ext.refl _)) hx10) hx11) mv_0
  have mv_1 := Ext.cell (Ext.trans (Ext.trans (Ext.drew (Ext.refl _)) hx10) hx11) mv_1
  have mv_2 := Ext.cell (Ext.trans (Ext.trans (Ext.drew (Ext.refl _)) hx10) hx11) mv_2
  have zv : w.heap.size + 1 < w11.heap.size := lt_of_cell mv_0
  have mnx_0 := Ext.cell (Ext.trans (Ext.trans (Ext.drew (Ext.refl _)) hx10) hx11) mnx_0
  have mnx_1 := Ext.cell (Ext.trans (Ext.trans (Ext.drew (Ext.refl _)) hx10) hx11) mnx_1
  have mnx_2 := Ext.cell (Ext.trans (Ext.trans (Ext.drew (Ext.refl _)) hx10) hx11) mnx_2
  have mnx_3 := Ext.cell (Ext.trans (Ext.trans (Ext.drew (Ext.refl _)) hx10) hx11) mnx_3
  have mnx_4 := Ext.cell (Ext.trans (Ext.trans (Ext.drew (Ext.refl _)) hx10) hx11) mnx_4
  have mnx_5 := Ext.cell (Ext.trans (Ext.trans (Ext.drew (Ext.refl _)) hx10) hx11) mnx_5
  have znx : w6.heap.size < w11.heap.size := lt_of_cell mnx_0
  clear KS
  replace Px : Hid (Rep w11 x.d _) := Lib.hid (Rep.ext (Ext.trans (Ext.trans (Ext.drew (Ext.refl _)) hx10) hx11) Px.out)
  go_wp2_with fail
  go_ret
  exact ⟨rfl, e11⟩

set_option maxRecDepth 100000 in
theorem fnExactPrintValue_lifted (os : Os) (started : os.Started) (H : Type) (enc : TypeId × Value → H) :
    ReturnsInHanded {} Tryz.checked os 3 .any (fun w args => (Rows.fnExactPrintValueSpec.pre enc Tryz.prog Tryz.f3 Rows.fnExactPrintValueRow.domain false w args ∧ laidMetH Tryz.prog Rows.fnExactPrintValueRow.laid w) ∧ sizedMet enc Tryz.prog Tryz.f3 (OpenSpec.ofChange Rows.fnExactPrintValueSpec) false w args) (Rows.fnExactPrintValueSpec.post enc Tryz.prog Tryz.f3 false true false false) := by
  refine returns_laid (C := Tryz.checked) (X := fun w _ => laidMetH Tryz.prog Rows.fnExactPrintValueRow.laid w) (fun _ _ _ hh h => h.of_heap hh) Tryz.own started (by kernel_rfl) Tryz.func3
    (ChangeSpec.witness_shaped (enc := enc) (C := Tryz.checked) (os := os) (X := fun w _ => laidMetH Tryz.prog Rows.fnExactPrintValueRow.laid w) false (World.laidAll Tryz.prog os Rows.fnExactPrintValueRow.laid) #[.agg #[.slice none 0 0, .slice none 0 0, .slice none 0 0, .int .i64 0, .int .i64 0, .int .i64 0], .agg #[.int .i64 0, .int .i64 0, .string ByteArray.empty]] 8 (World.laidAll_os _ _ _)
      (World.shaped_of_ZipB (by kernel_rfl) (by kernel_rfl)) (by kernel_rfl) (by kernel_rfl) (by kernel_rfl)
      (by rw [MakeChecks.laidMetH_plain _ _ _ (by kernel_rfl)]; exact laidMet_laidAll _ (by kernel_rfl) (by kernel_rfl))) ?_
  intro W base args ds gs before hval0 hW hL hsh
  have hM := And.intro (max_ok hsh) (door_tab hL (by kernel_rfl) (i := 2) (by kernel_rfl))
  have hval : ∀ (j : Nat) t v, Tryz.f3.params[j]? = some t → args[j]? = some v → Value.okWide Tryz.prog W .any base t v := hval0
  have hW' := hW
  obtain ⟨p, q, hA0, hV, rfl, hfz, hnd⟩ := hW
  have hA : DataW.TrodAll enc Tryz.prog W 0 (fun _ => true) true Tryz.f3.params.toList args.toList ds p := hA0
  rw [Tryz.params3] at hA hval
  obtain ⟨v0, v1, d0, d1, p0, p1, rfl, rfl, rfl, h0, h1⟩ := trodAll_two hA
  obtain ⟨rfl, rfl⟩ := trodVars_none hV
  obtain ⟨c0, rfl, hc0⟩ := okWide_agg Tryz.underlying26 (hval 0 26 v0 rfl rfl)
  obtain ⟨fu0, hh0⟩ := h0
  rw [hc0] at hh0
  obtain ⟨x0, r0, o0⟩ := trod_Store hh0
  obtain ⟨c1, rfl, hc1⟩ := okWide_agg Tryz.underlying28 (hval 1 28 v1 rfl rfl)
  obtain ⟨fu1, hh1⟩ := h1
  rw [hc1] at hh1
  obtain ⟨x1, r1, o1⟩ := trod_Value hh1
  exact (fnExactPrintValue_calls x0 c0 x1 c1 W r0 r1 o0 o1 hM).mono fun e W' ⟨he, hb⟩ => ⟨_, he, law_post Tryz.laidOut rfl (by kernel_rfl) rfl Tryz.underlying4 hW' rfl hb⟩




end Go.Proofs.YticdmbmjlaomiaaGreatDoor
