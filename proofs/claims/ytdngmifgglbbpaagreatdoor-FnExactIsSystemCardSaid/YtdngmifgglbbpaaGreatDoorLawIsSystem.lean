/-
  FnExactIsSystem: the program's IsSystem gives what the reference's gives, for all arguments.
  Conditions: none.
-/
import Derived.Test.YtdngmifgglbbpaaGreatDoorDoorLaw
import Derived.Deep.RegionHeld3
import Derived.Test.YtdngmifgglbbpaaGreatDoorEq
import Derived.Test.YtdngmifgglbbpaaGreatDoorSz
import Derived.Test.YtdngmifgglbbpaaGreatDoorTo
import Derived.Test.YtdngmifgglbbpaaGreatDoorArgTypes
import Derived.Test.YtdngmifgglbbpaaGreatDoorFnSys
namespace Go.Proofs.YtdngmifgglbbpaaGreatDoor
open Go.ChangeShapes Go.WideShapes Go.ChangeAt Go.RowKit Go.Joins
open Go.ChangeMaps (open_string)
set_option linter.unusedSimpArgs false
set_option linter.unusedVariables false


set_option maxHeartbeats 1000000 in
theorem fnExactIsSystem_calls (x : MSystem) (cx : List Value) (w : World) (rx : Rep w x.d cx) (ox : x.d.ok) (hM : MaxOk w) :
    Calls Tryz.prog 3 #[.agg cx.toArray] w fun e w' => e = .returned (.bool true) ∧ Ext w w' := by
  obtain ⟨a_x_classes, c_x_classes, a_x_routines, c_x_routines, a_x_main_body_kids, c_x_main_body_kids, rfl, _, _, _, _⟩ := MSystem.op_en rx
  go_enter Tryz.func3, Tryz.ntmps3
  go_wp2_with fail
  refine (szSystem_any x _ 1048576 _ (by omega) (by omega) (Rep.ext (Ext.alloc (Ext.refl w) _) rx) ox).mono ?_
  rintro e w1 ⟨q1, rfl, hq, hx1⟩
  have e1 : Ext w w1 := (Ext.alloc (Ext.refl w) _).trans hx1
  have mx_0 : w1.cell? ⟨w.heap.size, 0, none⟩ = some (.slice a_x_classes x.classes.length c_x_classes) := Ext.cell hx1 (by simp)
  have mx_1 : w1.cell? ⟨w.heap.size, 1, none⟩ = some (.slice a_x_routines x.routines.length c_x_routines) := Ext.cell hx1 (by simp)
  have mx_2 : w1.cell? ⟨w.heap.size, 2, none⟩ = some (.string x.main.selector) := Ext.cell hx1 (by simp)
  have mx_3 : w1.cell? ⟨w.heap.size, 3, none⟩ = some (.int .i64 x.main.owner) := Ext.cell hx1 (by simp)
  have mx_4 : w1.cell? ⟨w.heap.size, 4, none⟩ = some (.bool x.main.cls) := Ext.cell hx1 (by simp)
  have mx_5 : w1.cell? ⟨w.heap.size, 5, none⟩ = some (.int .i64 x.main.params) := Ext.cell hx1 (by simp)
  have mx_6 : w1.cell? ⟨w.heap.size, 6, none⟩ = some (.int .i64 x.main.slots) := Ext.cell hx1 (by simp)
  have mx_7 : w1.cell? ⟨w.heap.size, 7, none⟩ = some (.int .i64 x.main.body.kind) := Ext.cell hx1 (by simp)
  have mx_8 : w1.cell? ⟨w.heap.size, 8, none⟩ = some (.string x.main.body.text) := Ext.cell hx1 (by simp)
  have mx_9 : w1.cell? ⟨w.heap.size, 9, none⟩ = some (.int .i64 x.main.body.number) := Ext.cell hx1 (by simp)
  have mx_10 : w1.cell? ⟨w.heap.size, 10, none⟩ = some (.int .i64 x.main.body.depth) := Ext.cell hx1 (by simp)
  have mx_11 : w1.cell? ⟨w.heap.size, 11, none⟩ = some (.slice a_x_main_body_kids x.main.body.kids.length c_x_main_body_kids) := Ext.cell hx1 (by simp)
  have zx : w.heap.size < w1.heap.size := lt_of_cell mx_0
  rcases hq with rfl | ⟨hq1, hqe⟩
  · go_wp2_with fail
    go_ret
    exact ⟨rfl, e1⟩
  have hl1 : q1 ≤ 1048576 := by omega
  have HQ1 := Lib.hid hqe; clear hqe
  have Bx : Hid (x.d.bulk ≤ 1048576) := Lib.hid (by have := HQ1.out; omega)
  clear HQ1
  go_wp2_with fail
  refine (toSystem_any x _ _ (Rep.ext (e1) rx) Bx.out).mono ?_
  rintro e w2 ⟨cs2, fp2, rfl, hr2, hf2, hx2⟩
  have e2 : Ext w w2 := (e1).trans hx2
  have mx_0 := Ext.cell (hx2) mx_0
  have mx_1 := Ext.cell (hx2) mx_1
  have mx_2 := Ext.cell (hx2) mx_2
  have mx_3 := Ext.cell (hx2) mx_3
  have mx_4 := Ext.cell (hx2) mx_4
  have mx_5 := Ext.cell (hx2) mx_5
  have mx_6 := Ext.cell (hx2) mx_6
  have mx_7 := Ext.cell (hx2) mx_7
  have mx_8 := Ext.cell (hx2) mx_8
  have mx_9 := Ext.cell (hx2) mx_9
  have mx_10 := Ext.cell (hx2) mx_10
  have mx_11 := Ext.cell (hx2) mx_11
  have zx : w.heap.size < w2.heap.size := lt_of_cell mx_0
  go_wp2_with fail
  refine (spec_IsSystem_any x _ _ hr2.rep (bulk_system Bx.out)).mono ?_
  rintro e w3 ⟨rfl, hx3⟩
  have e3 : Ext w w3 := (e2).trans hx3
  have mx_0 := Ext.cell (hx3) mx_0
  have mx_1 := Ext.cell (hx3) mx_1
  have mx_2 := Ext.cell (hx3) mx_2
  have mx_3 := Ext.cell (hx3) mx_3
  have mx_4 := Ext.cell (hx3) mx_4
  have mx_5 := Ext.cell (hx3) mx_5
  have mx_6 := Ext.cell (hx3) mx_6
  have mx_7 := Ext.cell (hx3) mx_7
  have mx_8 := Ext.cell (hx3) mx_8
  have mx_9 := Ext.cell (hx3) mx_9
  have mx_10 := Ext.cell (hx3) mx_10
  have mx_11 := Ext.cell (hx3) mx_11
  have zx : w.heap.size < w3.heap.size := lt_of_cell mx_0
  go_wp2_with fail
  refine (toSystem_any x _ _ (Rep.ext (e3) rx) Bx.out).mono ?_
  rintro e w4 ⟨cs4, fp4, rfl, hr4, hf4, hx4⟩
  have e4 : Ext w w4 := (e3).trans hx4
  have mx_0 := Ext.cell (hx4) mx_0
  have mx_1 := Ext.cell (hx4) mx_1
  have mx_2 := Ext.cell (hx4) mx_2
  have mx_3 := Ext.cell (hx4) mx_3
  have mx_4 := Ext.cell (hx4) mx_4
  have mx_5 := Ext.cell (hx4) mx_5
  have mx_6 := Ext.cell (hx4) mx_6
  have mx_7 := Ext.cell (hx4) mx_7
  have mx_8 := Ext.cell (hx4) mx_8
  have mx_9 := Ext.cell (hx4) mx_9
  have mx_10 := Ext.cell (hx4) mx_10
  have mx_11 := Ext.cell (hx4) mx_11
  have zx : w.heap.size < w4.heap.size := lt_of_cell mx_0
  obtain ⟨n4_x_classes, d4_x_classes, n4_x_routines, d4_x_routines, n4_x_main_body_kids, d4_x_main_body_kids, rfl, _, _, _, _⟩ := MSystem.op_en hr4.rep
  have HR4 := Lib.hid hr4.rep; clear hr4 hf4
  go_wp2_with fail
  refine (impl_IsSystem_any x _ _ (Rep.ext (Ext.alloc (Ext.refl _) _) (HR4.out)) (bulk_system Bx.out) (hM.ext (Ext.alloc e4 _))).mono ?_
  rintro e w5 ⟨rfl, hx5⟩
  have e5 : Ext w w5 := (Ext.alloc e4 _).trans hx5
  have mx_0 := Ext.cell (Ext.trans (Ext.alloc (Ext.refl _) _) hx5) mx_0
  have mx_1 := Ext.cell (Ext.trans (Ext.alloc (Ext.refl _) _) hx5) mx_1
  have mx_2 := Ext.cell (Ext.trans (Ext.alloc (Ext.refl _) _) hx5) mx_2
  have mx_3 := Ext.cell (Ext.trans (Ext.alloc (Ext.refl _) _) hx5) mx_3
  have mx_4 := Ext.cell (Ext.trans (Ext.alloc (Ext.refl _) _) hx5) mx_4
  have mx_5 := Ext.cell (Ext.trans (Ext.alloc (Ext.refl _) _) hx5) mx_5
  have mx_6 := Ext.cell (Ext.trans (Ext.alloc (Ext.refl _) _) hx5) mx_6
  have mx_7 := Ext.cell (Ext.trans (Ext.alloc (Ext.refl _) _) hx5) mx_7
  have mx_8 := Ext.cell (Ext.trans (Ext.alloc (Ext.refl _) _) hx5) mx_8
  have mx_9 := Ext.cell (Ext.trans (Ext.alloc (Ext.refl _) _) hx5) mx_9
  have mx_10 := Ext.cell (Ext.trans (Ext.alloc (Ext.refl _) _) hx5) mx_10
  have mx_11 := Ext.cell (Ext.trans (Ext.alloc (Ext.refl _) _) hx5) mx_11
  have zx : w.heap.size < w5.heap.size := lt_of_cell mx_0
  have mnx_0 : w5.cell? ⟨w4.heap.size, 0, none⟩ = some (.slice n4_x_classes x.classes.length d4_x_classes) := Ext.cell hx5 (by simp)
  have mnx_1 : w5.cell? ⟨w4.heap.size, 1, none⟩ = some (.slice n4_x_routines x.routines.length d4_x_routines) := Ext.cell hx5 (by simp)
  have mnx_2 : w5.cell? ⟨w4.heap.size, 2, none⟩ = some (.string x.main.selector) := Ext.cell hx5 (by simp)
  have mnx_3 : w5.cell? ⟨w4.heap.size, 3, none⟩ = some (.int .i64 x.main.owner) := Ext.cell hx5 (by simp)
  have mnx_4 : w5.cell? ⟨w4.heap.size, 4, none⟩ = some (.bool x.main.cls) := Ext.cell hx5 (by simp)
  have mnx_5 : w5.cell? ⟨w4.heap.size, 5, none⟩ = some (.int .i64 x.main.params) := Ext.cell hx5 (by simp)
  have mnx_6 : w5.cell? ⟨w4.heap.size, 6, none⟩ = some (.int .i64 x.main.slots) := Ext.cell hx5 (by simp)
  have mnx_7 : w5.cell? ⟨w4.heap.size, 7, none⟩ = some (.int .i64 x.main.body.kind) := Ext.cell hx5 (by simp)
  have mnx_8 : w5.cell? ⟨w4.heap.size, 8, none⟩ = some (.string x.main.body.text) := Ext.cell hx5 (by simp)
  have mnx_9 : w5.cell? ⟨w4.heap.size, 9, none⟩ = some (.int .i64 x.main.body.number) := Ext.cell hx5 (by simp)
  have mnx_10 : w5.cell? ⟨w4.heap.size, 10, none⟩ = some (.int .i64 x.main.body.depth) := Ext.cell hx5 (by simp)
  have mnx_11 : w5.cell? ⟨w4.heap.size, 11, none⟩ = some (.slice n4_x_main_body_kids x.main.body.kids.length d4_x_main_body_kids) := Ext.cell hx5 (by simp)
  have znx : w4.heap.size < w5.heap.size := lt_of_cell mnx_0
  have Px : Hid (Rep w5 x.d _) := Lib.hid (Rep.ext (Ext.trans (Ext.alloc (Ext.refl _) _) hx5) (HR4.out))
  have htx : eqB x x = true := eqB_tt rfl
  have KS : Hid (∀ w', Ext w5 w' → w'.cell? ⟨w.heap.size, 0, none⟩ = some (.slice a_x_classes x.classes.length c_x_classes) ∧ w'.cell? ⟨w.heap.size, 1, none⟩ = some (.slice a_x_routines x.routines.length c_x_routines) ∧ w'.cell? ⟨w.heap.size, 2, none⟩ = some (.string x.main.selector) ∧ w'.cell? ⟨w.heap.size, 3, none⟩ = some (.int .i64 x.main.owner) ∧ w'.cell? ⟨w.heap.size, 4, none⟩ = some (.bool x.main.cls) ∧ w'.cell? ⟨w.heap.size, 5, none⟩ = some (.int .i64 x.main.params) ∧ w'.cell? ⟨w.heap.size, 6, none⟩ = some (.int .i64 x.main.slots) ∧ w'.cell? ⟨w.heap.size, 7, none⟩ = some (.int .i64 x.main.body.kind) ∧ w'.cell? ⟨w.heap.size, 8, none⟩ = some (.string x.main.body.text) ∧ w'.cell? ⟨w.heap.size, 9, none⟩ = some (.int .i64 x.main.body.number) ∧ w'.cell? ⟨w.heap.size, 10, none⟩ = some (.int .i64 x.main.body.depth) ∧ w'.cell? ⟨w.heap.size, 11, none⟩ = some (.slice a_x_main_body_kids x.main.body.kids.length c_x_main_body_kids) ∧ w'.cell? ⟨w4.heap.size, 0, none⟩ = some (.slice n4_x_classes x.classes.length d4_x_classes) ∧ w'.cell? ⟨w4.heap.size, 1, none⟩ = some (.slice n4_x_routines x.routines.length d4_x_routines) ∧ w'.cell? ⟨w4.heap.size, 2, none⟩ = some (.string x.main.selector) ∧ w'.cell? ⟨w4.heap.size, 3, none⟩ = some (.int .i64 x.main.owner) ∧ w'.cell? ⟨w4.heap.size, 4, none⟩ = some (.bool x.main.cls) ∧ w'.cell? ⟨w4.heap.size, 5, none⟩ = some (.int .i64 x.main.params) ∧ w'.cell? ⟨w4.heap.size, 6, none⟩ = some (.int .i64 x.main.slots) ∧ w'.cell? ⟨w4.heap.size, 7, none⟩ = some (.int .i64 x.main.body.kind) ∧ w'.cell? ⟨w4.heap.size, 8, none⟩ = some (.string x.main.body.text) ∧ w'.cell? ⟨w4.heap.size, 9, none⟩ = some (.int .i64 x.main.body.number) ∧ w'.cell? ⟨w4.heap.size, 10, none⟩ = some (.int .i64 x.main.body.depth) ∧ w'.cell? ⟨w4.heap.size, 11, none⟩ = some (.slice n4_x_main_body_kids x.main.body.kids.length d4_x_main_body_kids) ∧ Ext w5 w') := Lib.hid fun w' h => ⟨Ext.cell h mx_0, Ext.cell h mx_1, Ext.cell h mx_2, Ext.cell h mx_3, Ext.cell h mx_4, Ext.cell h mx_5, Ext.cell h mx_6, Ext.cell h mx_7, Ext.cell h mx_8, Ext.cell h mx_9, Ext.cell h mx_10, Ext.cell h mx_11, Ext.cell h mnx_0, Ext.cell h mnx_1, Ext.cell h mnx_2, Ext.cell h mnx_3, Ext.cell h mnx_4, Ext.cell h mnx_5, Ext.cell h mnx_6, Ext.cell h mnx_7, Ext.cell h mnx_8, Ext.cell h mnx_9, Ext.cell h mnx_10, Ext.cell h mnx_11, h⟩
  go_wp2_with fail
  go_region_held3 (fun w' => w'.cell? ⟨w.heap.size, 0, none⟩ = some (.slice a_x_classes x.classes.length c_x_classes) ∧ w'.cell? ⟨w.heap.size, 1, none⟩ = some (.slice a_x_routines x.routines.length c_x_routines) ∧ w'.cell? ⟨w.heap.size, 2, none⟩ = some (.string x.main.selector) ∧ w'.cell? ⟨w.heap.size, 3, none⟩ = some (.int .i64 x.main.owner) ∧ w'.cell? ⟨w.heap.size, 4, none⟩ = some (.bool x.main.cls) ∧ w'.cell? ⟨w.heap.size, 5, none⟩ = some (.int .i64 x.main.params) ∧ w'.cell? ⟨w.heap.size, 6, none⟩ = some (.int .i64 x.main.slots) ∧ w'.cell? ⟨w.heap.size, 7, none⟩ = some (.int .i64 x.main.body.kind) ∧ w'.cell? ⟨w.heap.size, 8, none⟩ = some (.string x.main.body.text) ∧ w'.cell? ⟨w.heap.size, 9, none⟩ = some (.int .i64 x.main.body.number) ∧ w'.cell? ⟨w.heap.size, 10, none⟩ = some (.int .i64 x.main.body.depth) ∧ w'.cell? ⟨w.heap.size, 11, none⟩ = some (.slice a_x_main_body_kids x.main.body.kids.length c_x_main_body_kids) ∧ w'.cell? ⟨w4.heap.size, 0, none⟩ = some (.slice n4_x_classes x.classes.length d4_x_classes) ∧ w'.cell? ⟨w4.heap.size, 1, none⟩ = some (.slice n4_x_routines x.routines.length d4_x_routines) ∧ w'.cell? ⟨w4.heap.size, 2, none⟩ = some (.string x.main.selector) ∧ w'.cell? ⟨w4.heap.size, 3, none⟩ = some (.int .i64 x.main.owner) ∧ w'.cell? ⟨w4.heap.size, 4, none⟩ = some (.bool x.main.cls) ∧ w'.cell? ⟨w4.heap.size, 5, none⟩ = some (.int .i64 x.main.params) ∧ w'.cell? ⟨w4.heap.size, 6, none⟩ = some (.int .i64 x.main.slots) ∧ w'.cell? ⟨w4.heap.size, 7, none⟩ = some (.int .i64 x.main.body.kind) ∧ w'.cell? ⟨w4.heap.size, 8, none⟩ = some (.string x.main.body.text) ∧ w'.cell? ⟨w4.heap.size, 9, none⟩ = some (.int .i64 x.main.body.number) ∧ w'.cell? ⟨w4.heap.size, 10, none⟩ = some (.int .i64 x.main.body.depth) ∧ w'.cell? ⟨w4.heap.size, 11, none⟩ = some (.slice n4_x_main_body_kids x.main.body.kids.length d4_x_main_body_kids) ∧ Ext w5 w')
    (first | exact KS.out _ (Ext.drew (Ext.refl _)) | exact KS.out _ (Ext.trans (Ext.drew (Ext.refl _)) hx6) | exact KS.out _ (Ext.trans (Ext.trans (Ext.drew (Ext.refl _)) hx6) hx7))
    (first | (go_at_call 11; refine (toSystem_any x _ _ (Rep.ext (Ext.drew (e5)) rx) Bx.out).mono ?_; rintro e w6 ⟨cs6, fp6, rfl, hr6, hf6, hx6⟩) | (go_at_call 13; refine (eqSystem_any x x _ _ _ (Rep.ext (Ext.trans (Ext.drew (Ext.refl _)) hx6) Px.out) hr6.rep).mono ?_; rintro e w7 ⟨rfl, hx7⟩))
  have e7 : Ext w w7 := (e5).trans (Ext.trans (Ext.trans (Ext.drew (Ext.refl _)) hx6) hx7)
  have mx_0 := Ext.cell (Ext.trans (Ext.trans (Ext.drew (Ext.refl _)) hx6) hx7) mx_0
  have mx_1 := Ext.cell (Ext.trans (Ext.trans (Ext.drew (Ext.refl _)) hx6) hx7) mx_1
  have mx_2 := Ext.cell (Ext.trans (Ext.trans (Ext.drew (Ext.refl _)) hx6) hx7) mx_2
  have mx_3 := Ext.cell (Ext.trans (Ext.trans (Ext.drew (Ext.refl _)) hx6) hx7) mx_3
  have mx_4 := Ext.cell (Ext.trans (Ext.trans (Ext.drew (Ext.refl _)) hx6) hx7) mx_4
  have mx_5 := Ext.cell (Ext.trans (Ext.trans (Ext.drew (Ext.refl _)) hx6) hx7) mx_5
  have mx_6 := Ext.cell (Ext.trans (Ext.trans (Ext.drew (Ext.refl _)) hx6) hx7) mx_6
  have mx_7 := Ext.cell (Ext.trans (Ext.trans (Ext.drew (Ext.refl _)) hx6) hx7) mx_7
  have mx_8 := Ext.cell (Ext.trans (Ext.trans (Ext.drew (Ext.refl _)) hx6) hx7) mx_8
  have mx_9 := Ext.cell (Ext.trans (Ext.trans (Ext.drew (Ext.refl _)) hx6) hx7) mx_9
  have mx_10 := Ext.cell (Ext.trans (Ext.trans (Ext.drew (Ext.refl _)) hx6) hx7) mx_10
  have mx_11 := Ext.cell (Ext.trans (Ext.trans (Ext.drew (Ext.refl _)) hx6) hx7) mx_11
  have zx : w.heap.size < w7.heap.size := lt_of_cell mx_0
  have mnx_0 := Ext.cell (Ext.trans (Ext.trans (Ext.drew (Ext.refl _)) hx6) hx7) mnx_0
  have mnx_1 := Ext.cell (Ext.trans (Ext.trans (Ext.drew (Ext.refl _)) hx6) hx7) mnx_1
  have mnx_2 := Ext.cell (Ext.trans (Ext.trans (Ext.drew (Ext.refl _)) hx6) hx7) mnx_2
  have mnx_3 := Ext.cell (Ext.trans (Ext.trans (Ext.drew (Ext.refl _)) hx6) hx7) mnx_3
  have mnx_4 := Ext.cell (Ext.trans (Ext.trans (Ext.drew (Ext.refl _)) hx6) hx7) mnx_4
  have mnx_5 := Ext.cell (Ext.trans (Ext.trans (Ext.drew (Ext.refl _)) hx6) hx7) mnx_5
  have mnx_6 := Ext.cell (Ext.trans (Ext.trans (Ext.drew (Ext.refl _)) hx6) hx7) mnx_6
  have mnx_7 := Ext.cell (Ext.trans (Ext.trans (Ext.drew (Ext.refl _)) hx6) hx7) mnx_7
  have mnx_8 := Ext.cell (Ext.trans (Ext.trans (Ext.drew (Ext.refl _)) hx6) hx7) mnx_8
  have mnx_9 := Ext.cell (Ext.trans (Ext.trans (Ext.drew (Ext.refl _)) hx6) hx7) mnx_9
  have mnx_10 := Ext.cell (Ext.trans (Ext.trans (Ext.drew (Ext.refl _)) hx6) hx7) mnx_10
  have mnx_11 := Ext.cell (Ext.trans (Ext.trans (Ext.drew (Ext.refl _)) hx6) hx7) mnx_11
  have znx : w4.heap.size < w7.heap.size := lt_of_cell mnx_0
  clear KS
  have Px : Hid (Rep w7 x.d _) := Lib.hid (Rep.ext (Ext.trans (Ext.trans (Ext.drew (Ext.refl _)) hx6) hx7) Px.out)
  go_wp2_with fail
  go_ret
  exact ⟨rfl, e7⟩

set_option maxRecDepth 100000 in
theorem fnExactIsSystem_lifted (os : Os) (started : os.Started) (H : Type) (enc : TypeId × Value → H) :
    ReturnsInHanded {} Tryz.checked os 3 .any (fun w args => (Rows.fnExactIsSystemSpec.pre enc Tryz.prog Tryz.f3 Rows.fnExactIsSystemRow.domain false w args ∧ laidMetH Tryz.prog Rows.fnExactIsSystemRow.laid w) ∧ sizedMet enc Tryz.prog Tryz.f3 (OpenSpec.ofChange Rows.fnExactIsSystemSpec) false w args) (Rows.fnExactIsSystemSpec.post enc Tryz.prog Tryz.f3 false true false false) := by
  refine returns_laid (C := Tryz.checked) (X := fun w _ => laidMetH Tryz.prog Rows.fnExactIsSystemRow.laid w) (fun _ _ _ hh h => h.of_heap hh) Tryz.own started (by kernel_rfl) Tryz.func3
    (ChangeSpec.witness_shaped (enc := enc) (C := Tryz.checked) (os := os) (X := fun w _ => laidMetH Tryz.prog Rows.fnExactIsSystemRow.laid w) false (World.laidAll Tryz.prog os Rows.fnExactIsSystemRow.laid) #[.agg #[.slice none 0 0, .slice none 0 0, .string ByteArray.empty, .int .i64 0, .bool false, .int .i64 0, .int .i64 0, .int .i64 0, .string ByteArray.empty, .int .i64 0, .int .i64 0, .slice none 0 0]] 8 (World.laidAll_os _ _ _)
      (World.shaped_of_ZipB (by kernel_rfl) (by kernel_rfl)) (by kernel_rfl) (by kernel_rfl) (by kernel_rfl)
      (by rw [MakeChecks.laidMetH_plain _ _ _ (by kernel_rfl)]; exact laidMet_laidAll _ (by kernel_rfl) (by kernel_rfl))) ?_
  intro W base args ds gs before hval0 hW hL hsh
  have hM := max_ok hsh
  have hval : ∀ (j : Nat) t v, Tryz.f3.params[j]? = some t → args[j]? = some v → Value.okWide Tryz.prog W .any base t v := hval0
  have hW' := hW
  obtain ⟨p, q, hA0, hV, rfl, hfz, hnd⟩ := hW
  have hA : DataW.TrodAll enc Tryz.prog W 0 (fun _ => true) true Tryz.f3.params.toList args.toList ds p := hA0
  rw [Tryz.params3] at hA hval
  obtain ⟨v0, d0, rfl, rfl, h0⟩ := trodAll_one hA
  obtain ⟨rfl, rfl⟩ := trodVars_none hV
  obtain ⟨c0, rfl, hc0⟩ := okWide_agg Tryz.underlying30 (hval 0 30 v0 rfl rfl)
  obtain ⟨fu0, hh0⟩ := h0
  rw [hc0] at hh0
  obtain ⟨x0, r0, o0⟩ := trod_System hh0
  exact (fnExactIsSystem_calls x0 c0 W r0 o0 hM).mono fun e W' ⟨he, hb⟩ => ⟨_, he, law_post Tryz.laidOut rfl (by kernel_rfl) rfl Tryz.underlying4 hW' rfl hb⟩

theorem fnExactIsSystem_holds : Rows.FnExactIsSystemSaid :=
  OpenClaim.holds_of_wide 3 Tryz.f3 rfl rfl rfl rfl rfl rfl rfl ⟨rfl, rfl, rfl, rfl, rfl⟩ rfl rfl rfl rfl rfl (by kernel_rfl) Tryz.func3 (by kernel_rfl)
    (of_decide_eq_true (by kernel_rfl)) (by unfold Func.isWrapper; rw [if_neg (of_decide_eq_false (by kernel_rfl))]; exact ⟨rfl, rfl⟩)
    (fun os started H enc _ => fnExactIsSystem_lifted os started H enc)


theorem fnExactIsSystem_card : Rows.FnExactIsSystemCardSaid :=
  Claim7.holds_tied_plain_at .later [] [.data, .pinned] true (true, "4e8ba00cf27972743f4a415ffe2fdd1de1e5ad4018091dc47328bdf7bdb0fd87") true fnExactIsSystem_holds (fun _ h => by cases h) (by kernel_rfl) (fun _ h => by cases h) fnExactIsSystem_row_tie rfl ⟨rfl, rfl⟩ (by kernel_rfl) rfl
    (fun f fn hf hfn => by
      obtain rfl : f = 3 := Option.some.inj ((show Tryz.prog.funcNamed "loop.example/g03108/laws.FnExactIsSystem" = some 3 by kernel_rfl).symm.trans hf) |>.symm
      obtain rfl : fn = Tryz.f3 := (Option.some.inj (Tryz.func3.symm.trans hfn)).symm
      exact ⟨by kernel_rfl, fun j t ht => by
        rw [Tryz.params3] at ht
        have hm : t ∈ [30] := by
          have h := Array.mem_of_getElem? ht
          simpa using h
        have hall : ([30].all fun u => !Tryz.prog.wantsStandIn u) = true := by kernel_rfl
        exact (show Tryz.prog.wantsStandIn t = false by simpa using List.all_eq_true.1 hall t hm)⟩)
    (by kernel_rfl)

#print axioms fnExactIsSystem_card


end Go.Proofs.YtdngmifgglbbpaaGreatDoor
