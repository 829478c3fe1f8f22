/-
  FnExactRoutineFor: the program's RoutineFor gives what the reference's gives, for all arguments.
  Conditions: none.
-/
import Derived.Test.YtdngmifgglbbpaaGreatDoorDoorLaw
import Derived.Deep.RegionHeld3
import Derived.Test.YtdngmifgglbbpaaGreatDoorEq
import Derived.Test.YtdngmifgglbbpaaGreatDoorSz
import Derived.Test.YtdngmifgglbbpaaGreatDoorTo
import Derived.Test.YtdngmifgglbbpaaGreatDoorArgTypes
import Derived.Test.YtdngmifgglbbpaaGreatDoorFnRFor
namespace Go.Proofs.YtdngmifgglbbpaaGreatDoor
open Go.ChangeShapes Go.WideShapes Go.ChangeAt Go.RowKit Go.Joins
open Go.ChangeMaps (open_string)
set_option linter.unusedSimpArgs false
set_option linter.unusedVariables false


set_option maxHeartbeats 2000000 in
theorem fnExactRoutineFor_calls (x : MSystem) (cx : List Value) (s : MStore) (cs : List Value) (v : MValue) (cv : List Value) (sel : ByteArray) (w : World) (rx : Rep w x.d cx) (rs : Rep w s.d cs) (rv : Rep w v.d cv) (ox : x.d.ok) (os : s.d.ok) (ov : v.d.ok) (osel : sel.size ≤ maxLen) (hM : MaxOk w) :
    Calls Tryz.prog 5 #[.agg cx.toArray, .agg cs.toArray, .agg cv.toArray, .string sel] w fun e w' => e = .returned (.bool true) ∧ Ext w w' := by
  obtain ⟨a_x_classes, c_x_classes, a_x_routines, c_x_routines, a_x_main_body_kids, c_x_main_body_kids, rfl, _, _, _, _⟩ := MSystem.op_en rx
  obtain ⟨a_s_classes, c_s_classes, a_s_objects, c_s_objects, a_s_output, c_s_output, rfl, _, _, _⟩ := MStore.op_en rs
  have hcv := MValue.op_en rv
  subst hcv
  unfold maxLen at osel
  by_cases hszsel : sel.size ≤ 1048576
  rotate_left
  · go_enter Tryz.func5, Tryz.ntmps5
    go_wp2_with fail
    go_ret
    exact ⟨rfl, Ext.alloc (Ext.alloc (Ext.alloc (Ext.refl w) _) _) _⟩
  go_enter Tryz.func5, Tryz.ntmps5
  go_upto_region 1 with fail
  generalize hS : World.alloc (World.alloc (World.alloc w _) _) _ = wa
  have ea : Ext w wa := by rw [← hS]; exact Ext.alloc (Ext.alloc (Ext.alloc (Ext.refl w) _) _) _
  have O0 : Own wa (w.heap.size) 30 #[.slice a_x_classes x.classes.length c_x_classes, .slice a_x_routines x.routines.length c_x_routines, .string x.main.selector, .int .i64 x.main.owner, .bool x.main.cls, .int .i64 x.main.params, .int .i64 x.main.slots, .int .i64 x.main.body.kind, .string x.main.body.text, .int .i64 x.main.body.number, .int .i64 x.main.body.depth, .slice a_x_main_body_kids x.main.body.kids.length c_x_main_body_kids] := by rw [← hS]; exact (own_new w _ _).ext (Ext.alloc (Ext.alloc (Ext.refl _) _) _)
  have mx_0 : wa.cell? ⟨w.heap.size, 0, none⟩ = some (.slice a_x_classes x.classes.length c_x_classes) := by rw [O0.cell]; rfl
  have mx_1 : wa.cell? ⟨w.heap.size, 1, none⟩ = some (.slice a_x_routines x.routines.length c_x_routines) := by rw [O0.cell]; rfl
  have mx_2 : wa.cell? ⟨w.heap.size, 2, none⟩ = some (.string x.main.selector) := by rw [O0.cell]; rfl
  have mx_3 : wa.cell? ⟨w.heap.size, 3, none⟩ = some (.int .i64 x.main.owner) := by rw [O0.cell]; rfl
  have mx_4 : wa.cell? ⟨w.heap.size, 4, none⟩ = some (.bool x.main.cls) := by rw [O0.cell]; rfl
  have mx_5 : wa.cell? ⟨w.heap.size, 5, none⟩ = some (.int .i64 x.main.params) := by rw [O0.cell]; rfl
  have mx_6 : wa.cell? ⟨w.heap.size, 6, none⟩ = some (.int .i64 x.main.slots) := by rw [O0.cell]; rfl
  have mx_7 : wa.cell? ⟨w.heap.size, 7, none⟩ = some (.int .i64 x.main.body.kind) := by rw [O0.cell]; rfl
  have mx_8 : wa.cell? ⟨w.heap.size, 8, none⟩ = some (.string x.main.body.text) := by rw [O0.cell]; rfl
  have mx_9 : wa.cell? ⟨w.heap.size, 9, none⟩ = some (.int .i64 x.main.body.number) := by rw [O0.cell]; rfl
  have mx_10 : wa.cell? ⟨w.heap.size, 10, none⟩ = some (.int .i64 x.main.body.depth) := by rw [O0.cell]; rfl
  have mx_11 : wa.cell? ⟨w.heap.size, 11, none⟩ = some (.slice a_x_main_body_kids x.main.body.kids.length c_x_main_body_kids) := by rw [O0.cell]; rfl
  have zx : w.heap.size < wa.heap.size := lt_of_cell mx_0
  have O1 : Own wa (w.heap.size + 1) 50 #[.slice a_s_classes s.classes.length c_s_classes, .slice a_s_objects s.objects.length c_s_objects, .slice a_s_output s.output.length c_s_output, .int .i64 s.ticks, .int .i64 s.budget, .int .i64 s.made] := by rw [← hS]; exact (own_new2 w _ _ _).ext (Ext.alloc (Ext.refl _) _)
  have ms_0 : wa.cell? ⟨w.heap.size + 1, 0, none⟩ = some (.slice a_s_classes s.classes.length c_s_classes) := by rw [O1.cell]; rfl
  have ms_1 : wa.cell? ⟨w.heap.size + 1, 1, none⟩ = some (.slice a_s_objects s.objects.length c_s_objects) := by rw [O1.cell]; rfl
  have ms_2 : wa.cell? ⟨w.heap.size + 1, 2, none⟩ = some (.slice a_s_output s.output.length c_s_output) := by rw [O1.cell]; rfl
  have ms_3 : wa.cell? ⟨w.heap.size + 1, 3, none⟩ = some (.int .i64 s.ticks) := by rw [O1.cell]; rfl
  have ms_4 : wa.cell? ⟨w.heap.size + 1, 4, none⟩ = some (.int .i64 s.budget) := by rw [O1.cell]; rfl
  have ms_5 : wa.cell? ⟨w.heap.size + 1, 5, none⟩ = some (.int .i64 s.made) := by rw [O1.cell]; rfl
  have zs : w.heap.size + 1 < wa.heap.size := lt_of_cell ms_0
  have O2 : Own wa (w.heap.size + 1 + 1) 52 #[.int .i64 v.kind, .int .i64 v.number, .string v.text] := by rw [← hS]; exact (own_new3 w _ _ _ _).ext (Ext.refl _)
  have mv_0 : wa.cell? ⟨w.heap.size + 1 + 1, 0, none⟩ = some (.int .i64 v.kind) := by rw [O2.cell]; rfl
  have mv_1 : wa.cell? ⟨w.heap.size + 1 + 1, 1, none⟩ = some (.int .i64 v.number) := by rw [O2.cell]; rfl
  have mv_2 : wa.cell? ⟨w.heap.size + 1 + 1, 2, none⟩ = some (.string v.text) := by rw [O2.cell]; rfl
  have zv : w.heap.size + 1 + 1 < wa.heap.size := lt_of_cell mv_0
  clear hS O0 O1 O2
  go_wp2_with fail
  refine (szSystem_any x _ 1048576 _ (by omega) (by omega) (Rep.ext (ea) rx) ox).mono ?_
  rintro e w1 ⟨q1, rfl, hq, hx1⟩
  have e1 : Ext w w1 := (ea).trans hx1
  have mx_0 := Ext.cell (hx1) mx_0
  have mx_1 := Ext.cell (hx1) mx_1
  have mx_2 := Ext.cell (hx1) mx_2
  have mx_3 := Ext.cell (hx1) mx_3
  have mx_4 := Ext.cell (hx1) mx_4
  have mx_5 := Ext.cell (hx1) mx_5
  have mx_6 := Ext.cell (hx1) mx_6
  have mx_7 := Ext.cell (hx1) mx_7
  have mx_8 := Ext.cell (hx1) mx_8
  have mx_9 := Ext.cell (hx1) mx_9
  have mx_10 := Ext.cell (hx1) mx_10
  have mx_11 := Ext.cell (hx1) mx_11
  have zx : w.heap.size < w1.heap.size := lt_of_cell mx_0
  have ms_0 := Ext.cell (hx1) ms_0
  have ms_1 := Ext.cell (hx1) ms_1
  have ms_2 := Ext.cell (hx1) ms_2
  have ms_3 := Ext.cell (hx1) ms_3
  have ms_4 := Ext.cell (hx1) ms_4
  have ms_5 := Ext.cell (hx1) ms_5
  have zs : w.heap.size + 1 < w1.heap.size := lt_of_cell ms_0
  have mv_0 := Ext.cell (hx1) mv_0
  have mv_1 := Ext.cell (hx1) mv_1
  have mv_2 := Ext.cell (hx1) mv_2
  have zv : w.heap.size + 1 + 1 < w1.heap.size := lt_of_cell mv_0
  rcases hq with rfl | ⟨hq1, hqe⟩
  · go_wp2_with fail
    go_ret
    exact ⟨rfl, e1⟩
  have hl1 : q1 ≤ 1048576 := by omega
  have HQ1 := Lib.hid hqe; clear hqe
  go_wp2_with fail
  refine (szStore_any s _ q1 _ (by omega) (by omega) (Rep.ext (e1) rs) os).mono ?_
  rintro e w2 ⟨q2, rfl, hq, hx2⟩
  have e2 : Ext w w2 := (e1).trans hx2
  have mx_0 := Ext.cell (hx2) mx_0
  have mx_1 := Ext.cell (hx2) mx_1
  have mx_2 := Ext.cell (hx2) mx_2
  have mx_3 := Ext.cell (hx2) mx_3
  have mx_4 := Ext.cell (hx2) mx_4
  have mx_5 := Ext.cell (hx2) mx_5
  have mx_6 := Ext.cell (hx2) mx_6
  have mx_7 := Ext.cell (hx2) mx_7
  have mx_8 := Ext.cell (hx2) mx_8
  have mx_9 := Ext.cell (hx2) mx_9
  have mx_10 := Ext.cell (hx2) mx_10
  have mx_11 := Ext.cell (hx2) mx_11
  have zx : w.heap.size < w2.heap.size := lt_of_cell mx_0
  have ms_0 := Ext.cell (hx2) ms_0
  have ms_1 := Ext.cell (hx2) ms_1
  have ms_2 := Ext.cell (hx2) ms_2
  have ms_3 := Ext.cell (hx2) ms_3
  have ms_4 := Ext.cell (hx2) ms_4
  have ms_5 := Ext.cell (hx2) ms_5
  have zs : w.heap.size + 1 < w2.heap.size := lt_of_cell ms_0
  have mv_0 := Ext.cell (hx2) mv_0
  have mv_1 := Ext.cell (hx2) mv_1
  have mv_2 := Ext.cell (hx2) mv_2
  have zv : w.heap.size + 1 + 1 < w2.heap.size := lt_of_cell mv_0
  rcases hq with rfl | ⟨hq2, hqe⟩
  · go_wp2_with fail
    go_ret
    exact ⟨rfl, e2⟩
  have hl2 : q2 ≤ 1048576 := by omega
  have HQ2 := Lib.hid hqe; clear hqe
  go_wp2_with fail
  refine (szValue_any v _ q2 _ (by omega) (by omega) (Rep.ext (e2) rv) ov).mono ?_
  rintro e w3 ⟨q3, rfl, hq, hx3⟩
  have e3 : Ext w w3 := (e2).trans hx3
  have mx_0 := Ext.cell (hx3) mx_0
  have mx_1 := Ext.cell (hx3) mx_1
  have mx_2 := Ext.cell (hx3) mx_2
  have mx_3 := Ext.cell (hx3) mx_3
  have mx_4 := Ext.cell (hx3) mx_4
  have mx_5 := Ext.cell (hx3) mx_5
  have mx_6 := Ext.cell (hx3) mx_6
  have mx_7 := Ext.cell (hx3) mx_7
  have mx_8 := Ext.cell (hx3) mx_8
  have mx_9 := Ext.cell (hx3) mx_9
  have mx_10 := Ext.cell (hx3) mx_10
  have mx_11 := Ext.cell (hx3) mx_11
  have zx : w.heap.size < w3.heap.size := lt_of_cell mx_0
  have ms_0 := Ext.cell (hx3) ms_0
  have ms_1 := Ext.cell (hx3) ms_1
  have ms_2 := Ext.cell (hx3) ms_2
  have ms_3 := Ext.cell (hx3) ms_3
  have ms_4 := Ext.cell (hx3) ms_4
  have ms_5 := Ext.cell (hx3) ms_5
  have zs : w.heap.size + 1 < w3.heap.size := lt_of_cell ms_0
  have mv_0 := Ext.cell (hx3) mv_0
  have mv_1 := Ext.cell (hx3) mv_1
  have mv_2 := Ext.cell (hx3) mv_2
  have zv : w.heap.size + 1 + 1 < w3.heap.size := lt_of_cell mv_0
  rcases hq with rfl | ⟨hq3, hqe⟩
  · go_wp2_with fail
    go_ret
    exact ⟨rfl, e3⟩
  have hl3 : q3 ≤ 1048576 := by omega
  have HQ3 := Lib.hid hqe; clear hqe
  have Bx : Hid (x.d.bulk ≤ 1048576) := Lib.hid (by have := HQ1.out; have := HQ2.out; have := HQ3.out; omega)
  have Bs : Hid (s.d.bulk ≤ 1048576) := Lib.hid (by have := HQ1.out; have := HQ2.out; have := HQ3.out; omega)
  have Bv : Hid (v.d.bulk ≤ 1048576) := Lib.hid (by have := HQ1.out; have := HQ2.out; have := HQ3.out; omega)
  clear HQ1 HQ2 HQ3
  have tq : (routV x s v sel != routV x s v sel) = false := int_eqn rfl
  have KS : Hid (∀ w', Ext w3 w' → w'.cell? ⟨w.heap.size, 0, none⟩ = some (.slice a_x_classes x.classes.length c_x_classes) ∧ w'.cell? ⟨w.heap.size, 1, none⟩ = some (.slice a_x_routines x.routines.length c_x_routines) ∧ w'.cell? ⟨w.heap.size, 2, none⟩ = some (.string x.main.selector) ∧ w'.cell? ⟨w.heap.size, 3, none⟩ = some (.int .i64 x.main.owner) ∧ w'.cell? ⟨w.heap.size, 4, none⟩ = some (.bool x.main.cls) ∧ w'.cell? ⟨w.heap.size, 5, none⟩ = some (.int .i64 x.main.params) ∧ w'.cell? ⟨w.heap.size, 6, none⟩ = some (.int .i64 x.main.slots) ∧ w'.cell? ⟨w.heap.size, 7, none⟩ = some (.int .i64 x.main.body.kind) ∧ w'.cell? ⟨w.heap.size, 8, none⟩ = some (.string x.main.body.text) ∧ w'.cell? ⟨w.heap.size, 9, none⟩ = some (.int .i64 x.main.body.number) ∧ w'.cell? ⟨w.heap.size, 10, none⟩ = some (.int .i64 x.main.body.depth) ∧ w'.cell? ⟨w.heap.size, 11, none⟩ = some (.slice a_x_main_body_kids x.main.body.kids.length c_x_main_body_kids) ∧ w'.cell? ⟨w.heap.size + 1, 0, none⟩ = some (.slice a_s_classes s.classes.length c_s_classes) ∧ w'.cell? ⟨w.heap.size + 1, 1, none⟩ = some (.slice a_s_objects s.objects.length c_s_objects) ∧ w'.cell? ⟨w.heap.size + 1, 2, none⟩ = some (.slice a_s_output s.output.length c_s_output) ∧ w'.cell? ⟨w.heap.size + 1, 3, none⟩ = some (.int .i64 s.ticks) ∧ w'.cell? ⟨w.heap.size + 1, 4, none⟩ = some (.int .i64 s.budget) ∧ w'.cell? ⟨w.heap.size + 1, 5, none⟩ = some (.int .i64 s.made) ∧ w'.cell? ⟨w.heap.size + 1 + 1, 0, none⟩ = some (.int .i64 v.kind) ∧ w'.cell? ⟨w.heap.size + 1 + 1, 1, none⟩ = some (.int .i64 v.number) ∧ w'.cell? ⟨w.heap.size + 1 + 1, 2, none⟩ = some (.string v.text) ∧ Ext w3 w') := Lib.hid fun w' h => ⟨Ext.cell h mx_0, Ext.cell h mx_1, Ext.cell h mx_2, Ext.cell h mx_3, Ext.cell h mx_4, Ext.cell h mx_5, Ext.cell h mx_6, Ext.cell h mx_7, Ext.cell h mx_8, Ext.cell h mx_9, Ext.cell h mx_10, Ext.cell h mx_11, Ext.cell h ms_0, Ext.cell h ms_1, Ext.cell h ms_2, Ext.cell h ms_3, Ext.cell h ms_4, Ext.cell h ms_5, Ext.cell h mv_0, Ext.cell h mv_1, Ext.cell h mv_2, h⟩
  go_wp2_with fail
  go_region_held3 (fun w' => w'.cell? ⟨w.heap.size, 0, none⟩ = some (.slice a_x_classes x.classes.length c_x_classes) ∧ w'.cell? ⟨w.heap.size, 1, none⟩ = some (.slice a_x_routines x.routines.length c_x_routines) ∧ w'.cell? ⟨w.heap.size, 2, none⟩ = some (.string x.main.selector) ∧ w'.cell? ⟨w.heap.size, 3, none⟩ = some (.int .i64 x.main.owner) ∧ w'.cell? ⟨w.heap.size, 4, none⟩ = some (.bool x.main.cls) ∧ w'.cell? ⟨w.heap.size, 5, none⟩ = some (.int .i64 x.main.params) ∧ w'.cell? ⟨w.heap.size, 6, none⟩ = some (.int .i64 x.main.slots) ∧ w'.cell? ⟨w.heap.size, 7, none⟩ = some (.int .i64 x.main.body.kind) ∧ w'.cell? ⟨w.heap.size, 8, none⟩ = some (.string x.main.body.text) ∧ w'.cell? ⟨w.heap.size, 9, none⟩ = some (.int .i64 x.main.body.number) ∧ w'.cell? ⟨w.heap.size, 10, none⟩ = some (.int .i64 x.main.body.depth) ∧ w'.cell? ⟨w.heap.size, 11, none⟩ = some (.slice a_x_main_body_kids x.main.body.kids.length c_x_main_body_kids) ∧ w'.cell? ⟨w.heap.size + 1, 0, none⟩ = some (.slice a_s_classes s.classes.length c_s_classes) ∧ w'.cell? ⟨w.heap.size + 1, 1, none⟩ = some (.slice a_s_objects s.objects.length c_s_objects) ∧ w'.cell? ⟨w.heap.size + 1, 2, none⟩ = some (.slice a_s_output s.output.length c_s_output) ∧ w'.cell? ⟨w.heap.size + 1, 3, none⟩ = some (.int .i64 s.ticks) ∧ w'.cell? ⟨w.heap.size + 1, 4, none⟩ = some (.int .i64 s.budget) ∧ w'.cell? ⟨w.heap.size + 1, 5, none⟩ = some (.int .i64 s.made) ∧ w'.cell? ⟨w.heap.size + 1 + 1, 0, none⟩ = some (.int .i64 v.kind) ∧ w'.cell? ⟨w.heap.size + 1 + 1, 1, none⟩ = some (.int .i64 v.number) ∧ w'.cell? ⟨w.heap.size + 1 + 1, 2, none⟩ = some (.string v.text) ∧ Ext w3 w')
    (first | exact KS.out _ (Ext.drew (Ext.refl _)) | exact KS.out _ (Ext.trans (Ext.drew (Ext.refl _)) hx4) | exact KS.out _ (Ext.trans (Ext.trans (Ext.drew (Ext.refl _)) hx4) hx5) | exact KS.out _ (Ext.trans (Ext.trans (Ext.trans (Ext.drew (Ext.refl _)) hx4) hx5) hx6) | exact KS.out _ (Ext.trans (Ext.trans (Ext.trans (Ext.trans (Ext.drew (Ext.refl _)) hx4) hx5) hx6) hx7))
    (first | (go_at_call_of 11 x.classes; refine (toSystem_any x _ _ (Rep.ext (Ext.drew (e3)) rx) Bx.out).mono ?_; rintro e w4 ⟨cs4, fp4, rfl, hr4, hf4, hx4⟩) | (go_at_call_of 19 s.classes; refine (toStore_any s _ _ (Rep.ext (Ext.trans (Ext.drew (e3)) hx4) rs) Bs.out).mono ?_; rintro e w5 ⟨cs5, fp5, rfl, hr5, hf5, hx5⟩) | (go_at_call_of 20 v.kind; refine (toValue_any v _ _ (Rep.ext (Ext.trans (Ext.trans (Ext.drew (e3)) hx4) hx5) rv) Bv.out).mono ?_; rintro e w6 ⟨cs6, fp6, rfl, hr6, hf6, hx6⟩) | (go_at_call 18; refine (spec_RoutineFor_any x s v sel _ _ _ _ (Rep.ext hx6 (Rep.ext hx5 (hr4.rep))) (Rep.ext hx6 (hr5.rep)) (hr6.rep) (bulk_system Bx.out) (bulk_store Bs.out) (bulk_value Bv.out)).mono ?_; rintro e w7 ⟨rfl, hx7⟩))
  have e7 : Ext w w7 := (e3).trans (Ext.trans (Ext.trans (Ext.trans (Ext.trans (Ext.drew (Ext.refl _)) hx4) hx5) hx6) hx7)
  have mx_0 := Ext.cell (Ext.trans (Ext.trans (Ext.trans (Ext.trans (Ext.drew (Ext.refl _)) hx4) hx5) hx6) hx7) mx_0
  have mx_1 := Ext.cell (Ext.trans (Ext.trans (Ext.trans (Ext.trans (Ext.drew (Ext.refl _)) hx4) hx5) hx6) hx7) mx_1
  have mx_2 := Ext.cell (Ext.trans (Ext.trans (Ext.trans (Ext.trans (Ext.drew (Ext.refl _)) hx4) hx5) hx6) hx7) mx_2
  have mx_3 := Ext.cell (Ext.trans (Ext.trans (Ext.trans (Ext.trans (Ext.drew (Ext.refl _)) hx4) hx5) hx6) hx7) mx_3
  have mx_4 := Ext.cell (Ext.trans (Ext.trans (Ext.trans (Ext.trans (Ext.drew (Ext.refl _)) hx4) hx5) hx6) hx7) mx_4
  have mx_5 := Ext.cell (Ext.trans (Ext.trans (Ext.trans (Ext.trans (Ext.drew (Ext.refl _)) hx4) hx5) hx6) hx7) mx_5
  have mx_6 := Ext.cell (Ext.trans (Ext.trans (Ext.trans (Ext.trans (Ext.drew (Ext.refl _)) hx4) hx5) hx6) hx7) mx_6
  have mx_7 := Ext.cell (Ext.trans (Ext.trans (Ext.trans (Ext.trans (Ext.drew (Ext.refl _)) hx4) hx5) hx6) hx7) mx_7
  have mx_8 := Ext.cell (Ext.trans (Ext.trans (Ext.trans (Ext.trans (Ext.drew (Ext.refl _)) hx4) hx5) hx6) hx7) mx_8
  have mx_9 := Ext.cell (Ext.trans (Ext.trans (Ext.trans (Ext.trans (Ext.drew (Ext.refl _)) hx4) hx5) hx6) hx7) mx_9
  have mx_10 := Ext.cell (Ext.trans (Ext.trans (Ext.trans (Ext.trans (Ext.drew (Ext.refl _)) hx4) hx5) hx6) hx7) mx_10
  have mx_11 := Ext.cell (Ext.trans (Ext.trans (Ext.trans (Ext.trans (Ext.drew (Ext.refl _)) hx4) hx5) hx6) hx7) mx_11
  have zx : w.heap.size < w7.heap.size := lt_of_cell mx_0
  have ms_0 := Ext.cell (Ext.trans (Ext.trans (Ext.trans (Ext.trans (Ext.drew (Ext.refl _)) hx4) hx5) hx6) hx7) ms_0
  have ms_1 := Ext.cell (Ext.trans (Ext.trans (Ext.trans (Ext.trans (Ext.drew (Ext.refl _)) hx4) hx5) hx6) hx7) ms_1
  have ms_2 := Ext.cell (Ext.trans (Ext.trans (Ext.trans (Ext.trans (Ext.drew (Ext.refl _)) hx4) hx5) hx6) hx7) ms_2
  have ms_3 := Ext.cell (Ext.trans (Ext.trans (Ext.trans (Ext.trans (Ext.drew (Ext.refl _)) hx4) hx5) hx6) hx7) ms_3
  have ms_4 := Ext.cell (Ext.trans (Ext.trans (Ext.trans (Ext.trans (Ext.drew (Ext.refl _)) hx4) hx5) hx6) hx7) ms_4
  have ms_5 := Ext.cell (Ext.trans (Ext.trans (Ext.trans (Ext.trans (Ext.drew (Ext.refl _)) hx4) hx5) hx6) hx7) ms_5
  have zs : w.heap.size + 1 < w7.heap.size := lt_of_cell ms_0
  have mv_0 := Ext.cell (Ext.trans (Ext.trans (Ext.trans (Ext.trans (Ext.drew (Ext.refl _)) hx4) hx5) hx6) hx7) mv_0
  have mv_1 := Ext.cell (Ext.trans (Ext.trans (Ext.trans (Ext.trans (Ext.drew (Ext.refl _)) hx4) hx5) hx6) hx7) mv_1
  have mv_2 := Ext.cell (Ext.trans (Ext.trans (Ext.trans (Ext.trans (Ext.drew (Ext.refl _)) hx4) hx5) hx6) hx7) mv_2
  have zv : w.heap.size + 1 + 1 < w7.heap.size := lt_of_cell mv_0
  clear KS
  go_wp2_with fail
  refine (toSystem_any x _ _ (Rep.ext (e7) rx) Bx.out).mono ?_
  rintro e w8 ⟨cs8, fp8, rfl, hr8, hf8, hx8⟩
  have e8 : Ext w w8 := (e7).trans hx8
  have mx_0 := Ext.cell (hx8) mx_0
  have mx_1 := Ext.cell (hx8) mx_1
  have mx_2 := Ext.cell (hx8) mx_2
  have mx_3 := Ext.cell (hx8) mx_3
  have mx_4 := Ext.cell (hx8) mx_4
  have mx_5 := Ext.cell (hx8) mx_5
  have mx_6 := Ext.cell (hx8) mx_6
  have mx_7 := Ext.cell (hx8) mx_7
  have mx_8 := Ext.cell (hx8) mx_8
  have mx_9 := Ext.cell (hx8) mx_9
  have mx_10 := Ext.cell (hx8) mx_10
  have mx_11 := Ext.cell (hx8) mx_11
  have zx : w.heap.size < w8.heap.size := lt_of_cell mx_0
  have ms_0 := Ext.cell (hx8) ms_0
  have ms_1 := Ext.cell (hx8) ms_1
  have ms_2 := Ext.cell (hx8) ms_2
  have ms_3 := Ext.cell (hx8) ms_3
  have ms_4 := Ext.cell (hx8) ms_4
  have ms_5 := Ext.cell (hx8) ms_5
  have zs : w.heap.size + 1 < w8.heap.size := lt_of_cell ms_0
  have mv_0 := Ext.cell (hx8) mv_0
  have mv_1 := Ext.cell (hx8) mv_1
  have mv_2 := Ext.cell (hx8) mv_2
  have zv : w.heap.size + 1 + 1 < w8.heap.size := lt_of_cell mv_0
  obtain ⟨n8_x_classes, d8_x_classes, n8_x_routines, d8_x_routines, n8_x_main_body_kids, d8_x_main_body_kids, rfl, _, _, _, _⟩ := MSystem.op_en hr8.rep
  have HR8 := Lib.hid hr8.rep; clear hr8 hf8
  go_upto_region 15 with fail
  generalize hS : World.alloc w8 _ = w9
  have hx9 : Ext w8 w9 := by rw [← hS]; exact (Ext.refl _).alloc _
  have mnx_0 : w9.cell? ⟨w8.heap.size, 0, none⟩ = some (.slice n8_x_classes x.classes.length d8_x_classes) := by rw [← hS]; simp
  have mnx_1 : w9.cell? ⟨w8.heap.size, 1, none⟩ = some (.slice n8_x_routines x.routines.length d8_x_routines) := by rw [← hS]; simp
  have mnx_2 : w9.cell? ⟨w8.heap.size, 2, none⟩ = some (.string x.main.selector) := by rw [← hS]; simp
  have mnx_3 : w9.cell? ⟨w8.heap.size, 3, none⟩ = some (.int .i64 x.main.owner) := by rw [← hS]; simp
  have mnx_4 : w9.cell? ⟨w8.heap.size, 4, none⟩ = some (.bool x.main.cls) := by rw [← hS]; simp
  have mnx_5 : w9.cell? ⟨w8.heap.size, 5, none⟩ = some (.int .i64 x.main.params) := by rw [← hS]; simp
  have mnx_6 : w9.cell? ⟨w8.heap.size, 6, none⟩ = some (.int .i64 x.main.slots) := by rw [← hS]; simp
  have mnx_7 : w9.cell? ⟨w8.heap.size, 7, none⟩ = some (.int .i64 x.main.body.kind) := by rw [← hS]; simp
  have mnx_8 : w9.cell? ⟨w8.heap.size, 8, none⟩ = some (.string x.main.body.text) := by rw [← hS]; simp
  have mnx_9 : w9.cell? ⟨w8.heap.size, 9, none⟩ = some (.int .i64 x.main.body.number) := by rw [← hS]; simp
  have mnx_10 : w9.cell? ⟨w8.heap.size, 10, none⟩ = some (.int .i64 x.main.body.depth) := by rw [← hS]; simp
  have mnx_11 : w9.cell? ⟨w8.heap.size, 11, none⟩ = some (.slice n8_x_main_body_kids x.main.body.kids.length d8_x_main_body_kids) := by rw [← hS]; simp
  clear hS
  have e9 : Ext w w9 := e8.trans hx9
  replace mx_0 := Ext.cell hx9 mx_0
  replace mx_1 := Ext.cell hx9 mx_1
  replace mx_2 := Ext.cell hx9 mx_2
  replace mx_3 := Ext.cell hx9 mx_3
  replace mx_4 := Ext.cell hx9 mx_4
  replace mx_5 := Ext.cell hx9 mx_5
  replace mx_6 := Ext.cell hx9 mx_6
  replace mx_7 := Ext.cell hx9 mx_7
  replace mx_8 := Ext.cell hx9 mx_8
  replace mx_9 := Ext.cell hx9 mx_9
  replace mx_10 := Ext.cell hx9 mx_10
  replace mx_11 := Ext.cell hx9 mx_11
  replace zx : w.heap.size < w9.heap.size := lt_of_cell mx_0
  replace ms_0 := Ext.cell hx9 ms_0
  replace ms_1 := Ext.cell hx9 ms_1
  replace ms_2 := Ext.cell hx9 ms_2
  replace ms_3 := Ext.cell hx9 ms_3
  replace ms_4 := Ext.cell hx9 ms_4
  replace ms_5 := Ext.cell hx9 ms_5
  replace zs : w.heap.size + 1 < w9.heap.size := lt_of_cell ms_0
  replace mv_0 := Ext.cell hx9 mv_0
  replace mv_1 := Ext.cell hx9 mv_1
  replace mv_2 := Ext.cell hx9 mv_2
  replace zv : w.heap.size + 1 + 1 < w9.heap.size := lt_of_cell mv_0
  have znx : w8.heap.size < w9.heap.size := lt_of_cell mnx_0
  have Px : Hid (Rep w9 x.d _) := Lib.hid (Rep.ext hx9 HR8.out)
  go_wp2_with fail
  refine (toStore_any s _ _ (Rep.ext (e9) rs) Bs.out).mono ?_
  rintro e w10 ⟨cs10, fp10, rfl, hr10, hf10, hx10⟩
  have e10 : Ext w w10 := (e9).trans hx10
  have mx_0 := Ext.cell (hx10) mx_0
  have mx_1 := Ext.cell (hx10) mx_1
  have mx_2 := Ext.cell (hx10) mx_2
  have mx_3 := Ext.cell (hx10) mx_3
  have mx_4 := Ext.cell (hx10) mx_4
  have mx_5 := Ext.cell (hx10) mx_5
  have mx_6 := Ext.cell (hx10) mx_6
  have mx_7 := Ext.cell (hx10) mx_7
  have mx_8 := Ext.cell (hx10) mx_8
  have mx_9 := Ext.cell (hx10) mx_9
  have mx_10 := Ext.cell (hx10) mx_10
  have mx_11 := Ext.cell (hx10) mx_11
  have zx : w.heap.size < w10.heap.size := lt_of_cell mx_0
  have ms_0 := Ext.cell (hx10) ms_0
  have ms_1 := Ext.cell (hx10) ms_1
  have ms_2 := Ext.cell (hx10) ms_2
  have ms_3 := Ext.cell (hx10) ms_3
  have ms_4 := Ext.cell (hx10) ms_4
  have ms_5 := Ext.cell (hx10) ms_5
  have zs : w.heap.size + 1 < w10.heap.size := lt_of_cell ms_0
  have mv_0 := Ext.cell (hx10) mv_0
  have mv_1 := Ext.cell (hx10) mv_1
  have mv_2 := Ext.cell (hx10) mv_2
  have zv : w.heap.size + 1 + 1 < w10.heap.size := lt_of_cell mv_0
  have mnx_0 := Ext.cell (hx10) mnx_0
  have mnx_1 := Ext.cell (hx10) mnx_1
  have mnx_2 := Ext.cell (hx10) mnx_2
  have mnx_3 := Ext.cell (hx10) mnx_3
  have mnx_4 := Ext.cell (hx10) mnx_4
  have mnx_5 := Ext.cell (hx10) mnx_5
  have mnx_6 := Ext.cell (hx10) mnx_6
  have mnx_7 := Ext.cell (hx10) mnx_7
  have mnx_8 := Ext.cell (hx10) mnx_8
  have mnx_9 := Ext.cell (hx10) mnx_9
  have mnx_10 := Ext.cell (hx10) mnx_10
  have mnx_11 := Ext.cell (hx10) mnx_11
  have znx : w8.heap.size < w10.heap.size := lt_of_cell mnx_0
  obtain ⟨n10_s_classes, d10_s_classes, n10_s_objects, d10_s_objects, n10_s_output, d10_s_output, rfl, _, _, _⟩ := MStore.op_en hr10.rep
  have HR10 := Lib.hid hr10.rep; clear hr10 hf10
  go_upto_region 16 with fail
  generalize hS : World.alloc w10 _ = w11
  have hx11 : Ext w10 w11 := by rw [← hS]; exact (Ext.refl _).alloc _
  have mns_0 : w11.cell? ⟨w10.heap.size, 0, none⟩ = some (.slice n10_s_classes s.classes.length d10_s_classes) := by rw [← hS]; simp
  have mns_1 : w11.cell? ⟨w10.heap.size, 1, none⟩ = some (.slice n10_s_objects s.objects.length d10_s_objects) := by rw [← hS]; simp
  have mns_2 : w11.cell? ⟨w10.heap.size, 2, none⟩ = some (.slice n10_s_output s.output.length d10_s_output) := by rw [← hS]; simp
  have mns_3 : w11.cell? ⟨w10.heap.size, 3, none⟩ = some (.int .i64 s.ticks) := by rw [← hS]; simp
  have mns_4 : w11.cell? ⟨w10.heap.size, 4, none⟩ = some (.int .i64 s.budget) := by rw [← hS]; simp
  have mns_5 : w11.cell? ⟨w10.heap.size, 5, none⟩ = some (.int .i64 s.made) := by rw [← hS]; simp
  clear hS
  have e11 : Ext w w11 := e10.trans hx11
  replace mx_0 := Ext.cell hx11 mx_0
  replace mx_1 := Ext.cell hx11 mx_1
  replace mx_2 := Ext.cell hx11 mx_2
  replace mx_3 := Ext.cell hx11 mx_3
  replace mx_4 := Ext.cell hx11 mx_4
  replace mx_5 := Ext.cell hx11 mx_5
  replace mx_6 := Ext.cell hx11 mx_6
  replace mx_7 := Ext.cell hx11 mx_7
  replace mx_8 := Ext.cell hx11 mx_8
  replace mx_9 := Ext.cell hx11 mx_9
  replace mx_10 := Ext.cell hx11 mx_10
  replace mx_11 := Ext.cell hx11 mx_11
  replace zx : w.heap.size < w11.heap.size := lt_of_cell mx_0
  replace ms_0 := Ext.cell hx11 ms_0
  replace ms_1 := Ext.cell hx11 ms_1
  replace ms_2 := Ext.cell hx11 ms_2
  replace ms_3 := Ext.cell hx11 ms_3
  replace ms_4 := Ext.cell hx11 ms_4
  replace ms_5 := Ext.cell hx11 ms_5
  replace zs : w.heap.size + 1 < w11.heap.size := lt_of_cell ms_0
  replace mv_0 := Ext.cell hx11 mv_0
  replace mv_1 := Ext.cell hx11 mv_1
  replace mv_2 := Ext.cell hx11 mv_2
  replace zv : w.heap.size + 1 + 1 < w11.heap.size := lt_of_cell mv_0
  replace mnx_0 := Ext.cell hx11 mnx_0
  replace mnx_1 := Ext.cell hx11 mnx_1
  replace mnx_2 := Ext.cell hx11 mnx_2
  replace mnx_3 := Ext.cell hx11 mnx_3
  replace mnx_4 := Ext.cell hx11 mnx_4
  replace mnx_5 := Ext.cell hx11 mnx_5
  replace mnx_6 := Ext.cell hx11 mnx_6
  replace mnx_7 := Ext.cell hx11 mnx_7
  replace mnx_8 := Ext.cell hx11 mnx_8
  replace mnx_9 := Ext.cell hx11 mnx_9
  replace mnx_10 := Ext.cell hx11 mnx_10
  replace mnx_11 := Ext.cell hx11 mnx_11
  replace znx : w8.heap.size < w11.heap.size := lt_of_cell mnx_0
  have zns : w10.heap.size < w11.heap.size := lt_of_cell mns_0
  have Ps : Hid (Rep w11 s.d _) := Lib.hid (Rep.ext hx11 HR10.out)
  replace Px := Lib.hid (Rep.ext (Ext.trans hx10 hx11) Px.out)
  have KS : Hid (∀ w', Ext w11 w' → w'.cell? ⟨w.heap.size, 0, none⟩ = some (.slice a_x_classes x.classes.length c_x_classes) ∧ w'.cell? ⟨w.heap.size, 1, none⟩ = some (.slice a_x_routines x.routines.length c_x_routines) ∧ w'.cell? ⟨w.heap.size, 2, none⟩ = some (.string x.main.selector) ∧ w'.cell? ⟨w.heap.size, 3, none⟩ = some (.int .i64 x.main.owner) ∧ w'.cell? ⟨w.heap.size, 4, none⟩ = some (.bool x.main.cls) ∧ w'.cell? ⟨w.heap.size, 5, none⟩ = some (.int .i64 x.main.params) ∧ w'.cell? ⟨w.heap.size, 6, none⟩ = some (.int .i64 x.main.slots) ∧ w'.cell? ⟨w.heap.size, 7, none⟩ = some (.int .i64 x.main.body.kind) ∧ w'.cell? ⟨w.heap.size, 8, none⟩ = some (.string x.main.body.text) ∧ w'.cell? ⟨w.heap.size, 9, none⟩ = some (.int .i64 x.main.body.number) ∧ w'.cell? ⟨w.heap.size, 10, none⟩ = some (.int .i64 x.main.body.depth) ∧ w'.cell? ⟨w.heap.size, 11, none⟩ = some (.slice a_x_main_body_kids x.main.body.kids.length c_x_main_body_kids) ∧ w'.cell? ⟨w.heap.size + 1, 0, none⟩ = some (.slice a_s_classes s.classes.length c_s_classes) ∧ w'.cell? ⟨w.heap.size + 1, 1, none⟩ = some (.slice a_s_objects s.objects.length c_s_objects) ∧ w'.cell? ⟨w.heap.size + 1, 2, none⟩ = some (.slice a_s_output s.output.length c_s_output) ∧ w'.cell? ⟨w.heap.size + 1, 3, none⟩ = some (.int .i64 s.ticks) ∧ w'.cell? ⟨w.heap.size + 1, 4, none⟩ = some (.int .i64 s.budget) ∧ w'.cell? ⟨w.heap.size + 1, 5, none⟩ = some (.int .i64 s.made) ∧ w'.cell? ⟨w.heap.size + 1 + 1, 0, none⟩ = some (.int .i64 v.kind) ∧ w'.cell? ⟨w.heap.size + 1 + 1, 1, none⟩ = some (.int .i64 v.number) ∧ w'.cell? ⟨w.heap.size + 1 + 1, 2, none⟩ = some (.string v.text) ∧ w'.cell? ⟨w8.heap.size, 0, none⟩ = some (.slice n8_x_classes x.classes.length d8_x_classes) ∧ w'.cell? ⟨w8.heap.size, 1, none⟩ = some (.slice n8_x_routines x.routines.length d8_x_routines) ∧ w'.cell? ⟨w8.heap.size, 2, none⟩ = some (.string x.main.selector) ∧ w'.cell? ⟨w8.heap.size, 3, none⟩ = some (.int .i64 x.main.owner) ∧ w'.cell? ⟨w8.heap.size, 4, none⟩ = some (.bool x.main.cls) ∧ w'.cell? ⟨w8.heap.size, 5, none⟩ = some (.int .i64 x.main.params) ∧ w'.cell? ⟨w8.heap.size, 6, none⟩ = some (.int .i64 x.main.slots) ∧ w'.cell? ⟨w8.heap.size, 7, none⟩ = some (.int .i64 x.main.body.kind) ∧ w'.cell? ⟨w8.heap.size, 8, none⟩ = some (.string x.main.body.text) ∧ w'.cell? ⟨w8.heap.size, 9, none⟩ = some (.int .i64 x.main.body.number) ∧ w'.cell? ⟨w8.heap.size, 10, none⟩ = some (.int .i64 x.main.body.depth) ∧ w'.cell? ⟨w8.heap.size, 11, none⟩ = some (.slice n8_x_main_body_kids x.main.body.kids.length d8_x_main_body_kids) ∧ w'.cell? ⟨w10.heap.size, 0, none⟩ = some (.slice n10_s_classes s.classes.length d10_s_classes) ∧ w'.cell? ⟨w10.heap.size, 1, none⟩ = some (.slice n10_s_objects s.objects.length d10_s_objects) ∧ w'.cell? ⟨w10.heap.size, 2, none⟩ = some (.slice n10_s_output s.output.length d10_s_output) ∧ w'.cell? ⟨w10.heap.size, 3, none⟩ = some (.int .i64 s.ticks) ∧ w'.cell? ⟨w10.heap.size, 4, none⟩ = some (.int .i64 s.budget) ∧ w'.cell? ⟨w10.heap.size, 5, none⟩ = some (.int .i64 s.made) ∧ Ext w11 w') := Lib.hid fun w' h => ⟨Ext.cell h mx_0, Ext.cell h mx_1, Ext.cell h mx_2, Ext.cell h mx_3, Ext.cell h mx_4, Ext.cell h mx_5, Ext.cell h mx_6, Ext.cell h mx_7, Ext.cell h mx_8, Ext.cell h mx_9, Ext.cell h mx_10, Ext.cell h mx_11, Ext.cell h ms_0, Ext.cell h ms_1, Ext.cell h ms_2, Ext.cell h ms_3, Ext.cell h ms_4, Ext.cell h ms_5, Ext.cell h mv_0, Ext.cell h mv_1, Ext.cell h mv_2, Ext.cell h mnx_0, Ext.cell h mnx_1, Ext.cell h mnx_2, Ext.cell h mnx_3, Ext.cell h mnx_4, Ext.cell h mnx_5, Ext.cell h mnx_6, Ext.cell h mnx_7, Ext.cell h mnx_8, Ext.cell h mnx_9, Ext.cell h mnx_10, Ext.cell h mnx_11, Ext.cell h mns_0, Ext.cell h mns_1, Ext.cell h mns_2, Ext.cell h mns_3, Ext.cell h mns_4, Ext.cell h mns_5, h⟩
  go_wp2_with fail
  go_region_held3 (fun w' => w'.cell? ⟨w.heap.size, 0, none⟩ = some (.slice a_x_classes x.classes.length c_x_classes) ∧ w'.cell? ⟨w.heap.size, 1, none⟩ = some (.slice a_x_routines x.routines.length c_x_routines) ∧ w'.cell? ⟨w.heap.size, 2, none⟩ = some (.string x.main.selector) ∧ w'.cell? ⟨w.heap.size, 3, none⟩ = some (.int .i64 x.main.owner) ∧ w'.cell? ⟨w.heap.size, 4, none⟩ = some (.bool x.main.cls) ∧ w'.cell? ⟨w.heap.size, 5, none⟩ = some (.int .i64 x.main.params) ∧ w'.cell? ⟨w.heap.size, 6, none⟩ = some (.int .i64 x.main.slots) ∧ w'.cell? ⟨w.heap.size, 7, none⟩ = some (.int .i64 x.main.body.kind) ∧ w'.cell? ⟨w.heap.size, 8, none⟩ = some (.string x.main.body.text) ∧ w'.cell? ⟨w.heap.size, 9, none⟩ = some (.int .i64 x.main.body.number) ∧ w'.cell? ⟨w.heap.size, 10, none⟩ = some (.int .i64 x.main.body.depth) ∧ w'.cell? ⟨w.heap.size, 11, none⟩ = some (.slice a_x_main_body_kids x.main.body.kids.length c_x_main_body_kids) ∧ w'.cell? ⟨w.heap.size + 1, 0, none⟩ = some (.slice a_s_classes s.classes.length c_s_classes) ∧ w'.cell? ⟨w.heap.size + 1, 1, none⟩ = some (.slice a_s_objects s.objects.length c_s_objects) ∧ w'.cell? ⟨w.heap.size + 1, 2, none⟩ = some (.slice a_s_output s.output.length c_s_output) ∧ w'.cell? ⟨w.heap.size + 1, 3, none⟩ = some (.int .i64 s.ticks) ∧ w'.cell? ⟨w.heap.size + 1, 4, none⟩ = some (.int .i64 s.budget) ∧ w'.cell? ⟨w.heap.size + 1, 5, none⟩ = some (.int .i64 s.made) ∧ w'.cell? ⟨w.heap.size + 1 + 1, 0, none⟩ = some (.int .i64 v.kind) ∧ w'.cell? ⟨w.heap.size + 1 + 1, 1, none⟩ = some (.int .i64 v.number) ∧ w'.cell? ⟨w.heap.size + 1 + 1, 2, none⟩ = some (.string v.text) ∧ w'.cell? ⟨w8.heap.size, 0, none⟩ = some (.slice n8_x_classes x.classes.length d8_x_classes) ∧ w'.cell? ⟨w8.heap.size, 1, none⟩ = some (.slice n8_x_routines x.routines.length d8_x_routines) ∧ w'.cell? ⟨w8.heap.size, 2, none⟩ = some (.string x.main.selector) ∧ w'.cell? ⟨w8.heap.size, 3, none⟩ = some (.int .i64 x.main.owner) ∧ w'.cell? ⟨w8.heap.size, 4, none⟩ = some (.bool x.main.cls) ∧ w'.cell? ⟨w8.heap.size, 5, none⟩ = some (.int .i64 x.main.params) ∧ w'.cell? ⟨w8.heap.size, 6, none⟩ = some (.int .i64 x.main.slots) ∧ w'.cell? ⟨w8.heap.size, 7, none⟩ = some (.int .i64 x.main.body.kind) ∧ w'.cell? ⟨w8.heap.size, 8, none⟩ = some (.string x.main.body.text) ∧ w'.cell? ⟨w8.heap.size, 9, none⟩ = some (.int .i64 x.main.body.number) ∧ w'.cell? ⟨w8.heap.size, 10, none⟩ = some (.int .i64 x.main.body.depth) ∧ w'.cell? ⟨w8.heap.size, 11, none⟩ = some (.slice n8_x_main_body_kids x.main.body.kids.length d8_x_main_body_kids) ∧ w'.cell? ⟨w10.heap.size, 0, none⟩ = some (.slice n10_s_classes s.classes.length d10_s_classes) ∧ w'.cell? ⟨w10.heap.size, 1, none⟩ = some (.slice n10_s_objects s.objects.length d10_s_objects) ∧ w'.cell? ⟨w10.heap.size, 2, none⟩ = some (.slice n10_s_output s.output.length d10_s_output) ∧ w'.cell? ⟨w10.heap.size, 3, none⟩ = some (.int .i64 s.ticks) ∧ w'.cell? ⟨w10.heap.size, 4, none⟩ = some (.int .i64 s.budget) ∧ w'.cell? ⟨w10.heap.size, 5, none⟩ = some (.int .i64 s.made) ∧ Ext w11 w')
    (first | exact KS.out _ (Ext.drew (Ext.refl _)) | exact KS.out _ (Ext.trans (Ext.drew (Ext.refl _)) hx12) | exact KS.out _ (Ext.trans (Ext.trans (Ext.drew (Ext.refl _)) hx12) hx13))
    (first | (go_at_call_of 20 v.kind; refine (toValue_any v _ _ (Rep.ext (Ext.drew (e11)) rv) Bv.out).mono ?_; rintro e w12 ⟨cs12, fp12, rfl, hr12, hf12, hx12⟩) | (go_at_call 21; refine (impl_RoutineFor_any x s v sel _ _ _ _ (Rep.ext (Ext.trans (Ext.drew (Ext.refl _)) hx12) Px.out) (Rep.ext (Ext.trans (Ext.drew (Ext.refl _)) hx12) Ps.out) (hr12.rep) (bulk_system Bx.out) (bulk_store Bs.out) (bulk_value Bv.out) (hM.ext (Ext.trans (Ext.drew (e11)) hx12))).mono ?_; rintro e w13 ⟨rfl, hx13⟩))
  have e13 : Ext w w13 := (e11).trans (Ext.trans (Ext.trans (Ext.drew (Ext.refl _)) hx12) hx13)
  have mx_0 := Ext.cell (Ext.trans (Ext.trans (Ext.drew (Ext.refl _)) hx12) hx13) mx_0
  have mx_1 := Ext.cell (Ext.trans (Ext.trans (Ext.drew (Ext.refl _)) hx12) hx13) mx_1
  have mx_2 := Ext.cell (Ext.trans (Ext.trans (Ext.drew (Ext.refl _)) hx12) hx13) mx_2
  have mx_3 := Ext.cell (Ext.trans (Ext.trans (Ext.drew (Ext.refl _)) hx12) hx13) mx_3
  have mx_4 := Ext.cell (Ext.trans (Ext.trans (Ext.drew (Ext.refl _)) hx12) hx13) mx_4
  have mx_5 := Ext.cell (Ext.trans (Ext.trans (Ext.drew (Ext.refl _)) hx12) hx13) mx_5
  have mx_6 := Ext.cell (Ext.trans (Ext.trans (Ext.drew (Ext.refl _)) hx12) hx13) mx_6
  have mx_7 := Ext.cell (Ext.trans (Ext.trans (Ext.drew (Ext.refl _)) hx12) hx13) mx_7
  have mx_8 := Ext.cell (Ext.trans (Ext.trans (Ext.drew (Ext.refl _)) hx12) hx13) mx_8
  have mx_9 := Ext.cell (Ext.trans (Ext.trans (Ext.drew (Ext.refl _)) hx12) hx13) mx_9
  have mx_10 := Ext.cell (Ext.trans (Ext.trans (Ext.drew (Ext.refl _)) hx12) hx13) mx_10
  have mx_11 := Ext.cell (Ext.trans (Ext.trans (Ext.drew (Ext.refl _)) hx12) hx13) mx_11
  have zx : w.heap.size < w13.heap.size := lt_of_cell mx_0
  have ms_0 := Ext.cell (Ext.trans (Ext.trans (Ext.drew (Ext.refl _)) hx12) hx13) ms_0
  have ms_1 := Ext.cell (Ext.trans (Ext.trans (Ext.drew (Ext.refl _)) hx12) hx13) ms_1
  have ms_2 := Ext.cell (Ext.trans (Ext.trans (Ext.drew (Ext.refl _)) hx12) hx13) ms_2
  have ms_3 := Ext.cell (Ext.trans (Ext.trans (Ext.drew (Ext.refl _)) hx12) hx13) ms_3
  have ms_4 := Ext.cell (Ext.trans (Ext.trans (Ext.drew (Ext.refl _)) hx12) hx13) ms_4
  have ms_5 := Ext.cell (Ext.trans (Ext.trans (Ext.drew (Ext.refl _)) hx12) hx13) ms_5
  have zs : w.heap.size + 1 < w13.heap.size := lt_of_cell ms_0
  have mv_0 := Ext.cell (Ext.trans (Ext.trans (Ext.drew (Ext.refl _)) hx12) hx13) mv_0
  have mv_1 := Ext.cell (Ext.trans (Ext.trans (Ext.drew (Ext.refl _)) hx12) hx13) mv_1
  have mv_2 := Ext.cell (Ext.trans (Ext.trans (Ext.drew (Ext.refl _)) hx12) hx13) mv_2
  have zv : w.heap.size + 1 + 1 < w13.heap.size := lt_of_cell mv_0
  have mnx_0 := Ext.cell (Ext.trans (Ext.trans (Ext.drew (Ext.refl _)) hx12) hx13) mnx_0
  have mnx_1 := Ext.cell (Ext.trans (Ext.trans (Ext.drew (Ext.refl _)) hx12) hx13) mnx_1
  have mnx_2 := Ext.cell (Ext.trans (Ext.trans (Ext.drew (Ext.refl _)) hx12) hx13) mnx_2
  have mnx_3 := Ext.cell (Ext.trans (Ext.trans (Ext.drew (Ext.refl _)) hx12) hx13) mnx_3
  have mnx_4 := Ext.cell (Ext.trans (Ext.trans (Ext.drew (Ext.refl _)) hx12) hx13) mnx_4
  have mnx_5 := Ext.cell (Ext.trans (Ext.trans (Ext.drew (Ext.refl _)) hx12) hx13) mnx_5
  have mnx_6 := Ext.cell (Ext.trans (Ext.trans (Ext.drew (Ext.refl _)) hx12) hx13) mnx_6
  have mnx_7 := Ext.cell (Ext.trans (Ext.trans (Ext.drew (Ext.refl _)) hx12) hx13) mnx_7
  have mnx_8 := Ext.cell (Ext.trans (Ext.trans (Ext.drew (Ext.refl _)) hx12) hx13) mnx_8
  have mnx_9 := Ext.cell (Ext.trans (Ext.trans (Ext.drew (Ext.refl _)) hx12) hx13) mnx_9
  have mnx_10 := Ext.cell (Ext.trans (Ext.trans (Ext.drew (Ext.refl _)) hx12) hx13) mnx_10
  have mnx_11 := Ext.cell (Ext.trans (Ext.trans (Ext.drew (Ext.refl _)) hx12) hx13) mnx_11
  have znx : w8.heap.size < w13.heap.size := lt_of_cell mnx_0
  have mns_0 := Ext.cell (Ext.trans (Ext.trans (Ext.drew (Ext.refl _)) hx12) hx13) mns_0
  have mns_1 := Ext.cell (Ext.trans (Ext.trans (Ext.drew (Ext.refl _)) hx12) hx13) mns_1
  have mns_2 := Ext.cell (Ext.trans (Ext.trans (Ext.drew (Ext.refl _)) hx12) hx13) mns_2
  have mns_3 := Ext.cell (Ext.trans (Ext.trans (Ext.drew (Ext.refl _)) hx12) hx13) mns_3
  have mns_4 := Ext.cell (Ext.trans (Ext.trans (Ext.drew (Ext.refl _)) hx12) hx13) mns_4
  have mns_5 := Ext.cell (Ext.trans (Ext.trans (Ext.drew (Ext.refl _)) hx12) hx13) mns_5
  have zns : w10.heap.size < w13.heap.size := lt_of_cell mns_0
  clear KS
  replace Px : Hid (Rep w13 x.d _) := Lib.hid (Rep.ext (Ext.trans (Ext.trans (Ext.drew (Ext.refl _)) hx12) hx13) Px.out)
  have htx : eqB x x = true := eqB_tt rfl
  replace Ps : Hid (Rep w13 s.d _) := Lib.hid (Rep.ext (Ext.trans (Ext.trans (Ext.drew (Ext.refl _)) hx12) hx13) Ps.out)
  have hts : eqB s s = true := eqB_tt rfl
  have KS : Hid (∀ w', Ext w13 w' → w'.cell? ⟨w.heap.size, 0, none⟩ = some (.slice a_x_classes x.classes.length c_x_classes) ∧ w'.cell? ⟨w.heap.size, 1, none⟩ = some (.slice a_x_routines x.routines.length c_x_routines) ∧ w'.cell? ⟨w.heap.size, 2, none⟩ = some (.string x.main.selector) ∧ w'.cell? ⟨w.heap.size, 3, none⟩ = some (.int .i64 x.main.owner) ∧ w'.cell? ⟨w.heap.size, 4, none⟩ = some (.bool x.main.cls) ∧ w'.cell? ⟨w.heap.size, 5, none⟩ = some (.int .i64 x.main.params) ∧ w'.cell? ⟨w.heap.size, 6, none⟩ = some (.int .i64 x.main.slots) ∧ w'.cell? ⟨w.heap.size, 7, none⟩ = some (.int .i64 x.main.body.kind) ∧ w'.cell? ⟨w.heap.size, 8, none⟩ = some (.string x.main.body.text) ∧ w'.cell? ⟨w.heap.size, 9, none⟩ = some (.int .i64 x.main.body.number) ∧ w'.cell? ⟨w.heap.size, 10, none⟩ = some (.int .i64 x.main.body.depth) ∧ w'.cell? ⟨w.heap.size, 11, none⟩ = some (.slice a_x_main_body_kids x.main.body.kids.length c_x_main_body_kids) ∧ w'.cell? ⟨w.heap.size + 1, 0, none⟩ = some (.slice a_s_classes s.classes.length c_s_classes) ∧ w'.cell? ⟨w.heap.size + 1, 1, none⟩ = some (.slice a_s_objects s.objects.length c_s_objects) ∧ w'.cell? ⟨w.heap.size + 1, 2, none⟩ = some (.slice a_s_output s.output.length c_s_output) ∧ w'.cell? ⟨w.heap.size + 1, 3, none⟩ = some (.int .i64 s.ticks) ∧ w'.cell? ⟨w.heap.size + 1, 4, none⟩ = some (.int .i64 s.budget) ∧ w'.cell? ⟨w.heap.size + 1, 5, none⟩ = some (.int .i64 s.made) ∧ w'.cell? ⟨w.heap.size + 1 + 1, 0, none⟩ = some (.int .i64 v.kind) ∧ w'.cell? ⟨w.heap.size + 1 + 1, 1, none⟩ = some (.int .i64 v.number) ∧ w'.cell? ⟨w.heap.size + 1 + 1, 2, none⟩ = some (.string v.text) ∧ w'.cell? ⟨w8.heap.size, 0, none⟩ = some (.slice n8_x_classes x.classes.length d8_x_classes) ∧ w'.cell? ⟨w8.heap.size, 1, none⟩ = some (.slice n8_x_routines x.routines.length d8_x_routines) ∧ w'.cell? ⟨w8.heap.size, 2, none⟩ = some (.string x.main.selector) ∧ w'.cell? ⟨w8.heap.size, 3, none⟩ = some (.int .i64 x.main.owner) ∧ w'.cell? ⟨w8.heap.size, 4, none⟩ = some (.bool x.main.cls) ∧ w'.cell? ⟨w8.heap.size, 5, none⟩ = some (.int .i64 x.main.params) ∧ w'.cell? ⟨w8.heap.size, 6, none⟩ = some (.int .i64 x.main.slots) ∧ w'.cell? ⟨w8.heap.size, 7, none⟩ = some (.int .i64 x.main.body.kind) ∧ w'.cell? ⟨w8.heap.size, 8, none⟩ = some (.string x.main.body.text) ∧ w'.cell? ⟨w8.heap.size, 9, none⟩ = some (.int .i64 x.main.body.number) ∧ w'.cell? ⟨w8.heap.size, 10, none⟩ = some (.int .i64 x.main.body.depth) ∧ w'.cell? ⟨w8.heap.size, 11, none⟩ = some (.slice n8_x_main_body_kids x.main.body.kids.length d8_x_main_body_kids) ∧ w'.cell? ⟨w10.heap.size, 0, none⟩ = some (.slice n10_s_classes s.classes.length d10_s_classes) ∧ w'.cell? ⟨w10.heap.size, 1, none⟩ = some (.slice n10_s_objects s.objects.length d10_s_objects) ∧ w'.cell? ⟨w10.heap.size, 2, none⟩ = some (.slice n10_s_output s.output.length d10_s_output) ∧ w'.cell? ⟨w10.heap.size, 3, none⟩ = some (.int .i64 s.ticks) ∧ w'.cell? ⟨w10.heap.size, 4, none⟩ = some (.int .i64 s.budget) ∧ w'.cell? ⟨w10.heap.size, 5, none⟩ = some (.int .i64 s.made) ∧ Ext w13 w') := Lib.hid fun w' h => ⟨Ext.cell h mx_0, Ext.cell h mx_1, Ext.cell h mx_2, Ext.cell h mx_3, Ext.cell h mx_4, Ext.cell h mx_5, Ext.cell h mx_6, Ext.cell h mx_7, Ext.cell h mx_8, Ext.cell h mx_9, Ext.cell h mx_10, Ext.cell h mx_11, Ext.cell h ms_0, Ext.cell h ms_1, Ext.cell h ms_2, Ext.cell h ms_3, Ext.cell h ms_4, Ext.cell h ms_5, Ext.cell h mv_0, Ext.cell h mv_1, Ext.cell h mv_2, Ext.cell h mnx_0, Ext.cell h mnx_1, Ext.cell h mnx_2, Ext.cell h mnx_3, Ext.cell h mnx_4, Ext.cell h mnx_5, Ext.cell h mnx_6, Ext.cell h mnx_7, Ext.cell h mnx_8, Ext.cell h mnx_9, Ext.cell h mnx_10, Ext.cell h mnx_11, Ext.cell h mns_0, Ext.cell h mns_1, Ext.cell h mns_2, Ext.cell h mns_3, Ext.cell h mns_4, Ext.cell h mns_5, h⟩
  go_wp2_with fail
  go_region_held3 (fun w' => w'.cell? ⟨w.heap.size, 0, none⟩ = some (.slice a_x_classes x.classes.length c_x_classes) ∧ w'.cell? ⟨w.heap.size, 1, none⟩ = some (.slice a_x_routines x.routines.length c_x_routines) ∧ w'.cell? ⟨w.heap.size, 2, none⟩ = some (.string x.main.selector) ∧ w'.cell? ⟨w.heap.size, 3, none⟩ = some (.int .i64 x.main.owner) ∧ w'.cell? ⟨w.heap.size, 4, none⟩ = some (.bool x.main.cls) ∧ w'.cell? ⟨w.heap.size, 5, none⟩ = some (.int .i64 x.main.params) ∧ w'.cell? ⟨w.heap.size, 6, none⟩ = some (.int .i64 x.main.slots) ∧ w'.cell? ⟨w.heap.size, 7, none⟩ = some (.int .i64 x.main.body.kind) ∧ w'.cell? ⟨w.heap.size, 8, none⟩ = some (.string x.main.body.text) ∧ w'.cell? ⟨w.heap.size, 9, none⟩ = some (.int .i64 x.main.body.number) ∧ w'.cell? ⟨w.heap.size, 10, none⟩ = some (.int .i64 x.main.body.depth) ∧ w'.cell? ⟨w.heap.size, 11, none⟩ = some (.slice a_x_main_body_kids x.main.body.kids.length c_x_main_body_kids) ∧ w'.cell? ⟨w.heap.size + 1, 0, none⟩ = some (.slice a_s_classes s.classes.length c_s_classes) ∧ w'.cell? ⟨w.heap.size + 1, 1, none⟩ = some (.slice a_s_objects s.objects.length c_s_objects) ∧ w'.cell? ⟨w.heap.size + 1, 2, none⟩ = some (.slice a_s_output s.output.length c_s_output) ∧ w'.cell? ⟨w.heap.size + 1, 3, none⟩ = some (.int .i64 s.ticks) ∧ w'.cell? ⟨w.heap.size + 1, 4, none⟩ = some (.int .i64 s.budget) ∧ w'.cell? ⟨w.heap.size + 1, 5, none⟩ = some (.int .i64 s.made) ∧ w'.cell? ⟨w.heap.size + 1 + 1, 0, none⟩ = some (.int .i64 v.kind) ∧ w'.cell? ⟨w.heap.size + 1 + 1, 1, none⟩ = some (.int .i64 v.number) ∧ w'.cell? ⟨w.heap.size + 1 + 1, 2, none⟩ = some (.string v.text) ∧ w'.cell? ⟨w8.heap.size, 0, none⟩ = some (.slice n8_x_classes x.classes.length d8_x_classes) ∧ w'.cell? ⟨w8.heap.size, 1, none⟩ = some (.slice n8_x_routines x.routines.length d8_x_routines) ∧ w'.cell? ⟨w8.heap.size, 2, none⟩ = some (.string x.main.selector) ∧ w'.cell? ⟨w8.heap.size, 3, none⟩ = some (.int .i64 x.main.owner) ∧ w'.cell? ⟨w8.heap.size, 4, none⟩ = some (.bool x.main.cls) ∧ w'.cell? ⟨w8.heap.size, 5, none⟩ = some (.int .i64 x.main.params) ∧ w'.cell? ⟨w8.heap.size, 6, none⟩ = some (.int .i64 x.main.slots) ∧ w'.cell? ⟨w8.heap.size, 7, none⟩ = some (.int .i64 x.main.body.kind) ∧ w'.cell? ⟨w8.heap.size, 8, none⟩ = some (.string x.main.body.text) ∧ w'.cell? ⟨w8.heap.size, 9, none⟩ = some (.int .i64 x.main.body.number) ∧ w'.cell? ⟨w8.heap.size, 10, none⟩ = some (.int .i64 x.main.body.depth) ∧ w'.cell? ⟨w8.heap.size, 11, none⟩ = some (.slice n8_x_main_body_kids x.main.body.kids.length d8_x_main_body_kids) ∧ w'.cell? ⟨w10.heap.size, 0, none⟩ = some (.slice n10_s_classes s.classes.length d10_s_classes) ∧ w'.cell? ⟨w10.heap.size, 1, none⟩ = some (.slice n10_s_objects s.objects.length d10_s_objects) ∧ w'.cell? ⟨w10.heap.size, 2, none⟩ = some (.slice n10_s_output s.output.length d10_s_output) ∧ w'.cell? ⟨w10.heap.size, 3, none⟩ = some (.int .i64 s.ticks) ∧ w'.cell? ⟨w10.heap.size, 4, none⟩ = some (.int .i64 s.budget) ∧ w'.cell? ⟨w10.heap.size, 5, none⟩ = some (.int .i64 s.made) ∧ Ext w13 w')
    (first | exact KS.out _ (Ext.drew (Ext.refl _)) | exact KS.out _ (Ext.trans (Ext.drew (Ext.refl _)) hx14) | exact KS.out _ (Ext.trans (Ext.trans (Ext.drew (Ext.refl _)) hx14) hx15))
    (first | (go_at_call 11; refine (toSystem_any x _ _ (Rep.ext (Ext.drew (e13)) rx) Bx.out).mono ?_; rintro e w14 ⟨cs14, fp14, rfl, hr14, hf14, hx14⟩) | (go_at_call 13; refine (eqSystem_any x x _ _ _ (Rep.ext (Ext.trans (Ext.drew (Ext.refl _)) hx14) Px.out) hr14.rep).mono ?_; rintro e w15 ⟨rfl, hx15⟩))
  have e15 : Ext w w15 := (e13).trans (Ext.trans (Ext.trans (Ext.drew (Ext.refl _)) hx14) hx15)
  have mx_0 := Ext.cell (Ext.trans (Ext.trans (Ext.drew (Ext.refl _)) hx14) hx15) mx_0
  have mx_1 := Ext.cell (Ext.trans (Ext.trans (Ext.drew (Ext.refl _)) hx14) hx15) mx_1
  have mx_2 := Ext.cell (Ext.trans (Ext.trans (Ext.drew (Ext.refl _)) hx14) hx15) mx_2
  have mx_3 := Ext.cell (Ext.trans (Ext.trans (Ext.drew (Ext.refl _)) hx14) hx15) mx_3
  have mx_4 := Ext.cell (Ext.trans (Ext.trans (Ext.drew (Ext.refl _)) hx14) hx15) mx_4
  have mx_5 := Ext.cell (Ext.trans (Ext.trans (Ext.drew (Ext.refl _)) hx14) hx15) mx_5
  have mx_6 := Ext.cell (Ext.trans (Ext.trans (Ext.drew (Ext.refl _)) hx14) hx15) mx_6
  have mx_7 := Ext.cell (Ext.trans (Ext.trans (Ext.drew (Ext.refl _)) hx14) hx15) mx_7
  have mx_8 := Ext.cell (Ext.trans (Ext.trans (Ext.drew (Ext.refl _)) hx14) hx15) mx_8
  have mx_9 := Ext.cell (Ext.trans (Ext.trans (Ext.drew (Ext.refl _)) hx14) hx15) mx_9
  have mx_10 := Ext.cell (Ext.trans (Ext.trans (Ext.drew (Ext.refl _)) hx14) hx15) mx_10
  have mx_11 := Ext.cell (Ext.trans (Ext.trans (Ext.drew (Ext.refl _)) hx14) hx15) mx_11
  have zx : w.heap.size < w15.heap.size := lt_of_cell mx_0
  have ms_0 := Ext.cell (Ext.trans (Ext.trans (Ext.drew (Ext.refl _)) hx14) hx15) ms_0
  have ms_1 := Ext.cell (Ext.trans (Ext.trans (Ext.drew (Ext.refl _)) hx14) hx15) ms_1
  have ms_2 := Ext.cell (Ext.trans (Ext.trans (Ext.drew (Ext.refl _)) hx14) hx15) ms_2
  have ms_3 := Ext.cell (Ext.trans (Ext.trans (Ext.drew (Ext.refl _)) hx14) hx15) ms_3
  have ms_4 := Ext.cell (Ext.trans (Ext.trans (Ext.drew (Ext.refl _)) hx14) hx15) ms_4
  have ms_5 := Ext.cell (Ext.trans (Ext.trans (Ext.drew (Ext.refl _)) hx14) hx15) ms_5
  have zs : w.heap.size + 1 < w15.heap.size := lt_of_cell ms_0
  have mv_0 := Ext.cell (Ext.trans (Ext.trans (Ext.drew (Ext.refl _)) hx14) hx15) mv_0
  have mv_1 := Ext.cell (Ext.trans (Ext.trans (Ext.drew (Ext.refl _)) hx14) hx15) mv_1
  have mv_2 := Ext.cell (Ext.trans (Ext.trans (Ext.drew (Ext.refl _)) hx14) hx15) mv_2
  have zv : w.heap.size + 1 + 1 < w15.heap.size := lt_of_cell mv_0
  have mnx_0 := Ext.cell (Ext.trans (Ext.trans (Ext.drew (Ext.refl _)) hx14) hx15) mnx_0
  have mnx_1 := Ext.cell (Ext.trans (Ext.trans (Ext.drew (Ext.refl _)) hx14) hx15) mnx_1
  have mnx_2 := Ext.cell (Ext.trans (Ext.trans (Ext.drew (Ext.refl _)) hx14) hx15) mnx_2
  have mnx_3 := Ext.cell (Ext.trans (Ext.trans (Ext.drew (Ext.refl _)) hx14) hx15) mnx_3
  have mnx_4 := Ext.cell (Ext.trans (Ext.trans (Ext.drew (Ext.refl _)) hx14) hx15) mnx_4
  have mnx_5 := Ext.cell (Ext.trans (Ext.trans (Ext.drew (Ext.refl _)) hx14) hx15) mnx_5
  have mnx_6 := Ext.cell (Ext.trans (Ext.trans (Ext.drew (Ext.refl _)) hx14) hx15) mnx_6
  have mnx_7 := Ext.cell (Ext.trans (Ext.trans (Ext.drew (Ext.refl _)) hx14) hx15) mnx_7
  have mnx_8 := Ext.cell (Ext.trans (Ext.trans (Ext.drew (Ext.refl _)) hx14) hx15) mnx_8
  have mnx_9 := Ext.cell (Ext.trans (Ext.trans (Ext.drew (Ext.refl _)) hx14) hx15) mnx_9
  have mnx_10 := Ext.cell (Ext.trans (Ext.trans (Ext.drew (Ext.refl _)) hx14) hx15) mnx_10
  have mnx_11 := Ext.cell (Ext.trans (Ext.trans (Ext.drew (Ext.refl _)) hx14) hx15) mnx_11
  have znx : w8.heap.size < w15.heap.size := lt_of_cell mnx_0
  have mns_0 := Ext.cell (Ext.trans (Ext.trans (Ext.drew (Ext.refl _)) hx14) hx15) mns_0
  have mns_1 := Ext.cell (Ext.trans (Ext.trans (Ext.drew (Ext.refl _)) hx14) hx15) mns_1
  have mns_2 := Ext.cell (Ext.trans (Ext.trans (Ext.drew (Ext.refl _)) hx14) hx15) mns_2
  have mns_3 := Ext.cell (Ext.trans (Ext.trans (Ext.drew (Ext.refl _)) hx14) hx15) mns_3
  have mns_4 := Ext.cell (Ext.trans (Ext.trans (Ext.drew (Ext.refl _)) hx14) hx15) mns_4
  have mns_5 := Ext.cell (Ext.trans (Ext.trans (Ext.drew (Ext.refl _)) hx14) hx15) mns_5
  have zns : w10.heap.size < w15.heap.size := lt_of_cell mns_0
  clear KS
  replace Px : Hid (Rep w15 x.d _) := Lib.hid (Rep.ext (Ext.trans (Ext.trans (Ext.drew (Ext.refl _)) hx14) hx15) Px.out)
  replace Ps : Hid (Rep w15 s.d _) := Lib.hid (Rep.ext (Ext.trans (Ext.trans (Ext.drew (Ext.refl _)) hx14) hx15) Ps.out)
  have KS : Hid (∀ w', Ext w15 w' → w'.cell? ⟨w.heap.size, 0, none⟩ = some (.slice a_x_classes x.classes.length c_x_classes) ∧ w'.cell? ⟨w.heap.size, 1, none⟩ = some (.slice a_x_routines x.routines.length c_x_routines) ∧ w'.cell? ⟨w.heap.size, 2, none⟩ = some (.string x.main.selector) ∧ w'.cell? ⟨w.heap.size, 3, none⟩ = some (.int .i64 x.main.owner) ∧ w'.cell? ⟨w.heap.size, 4, none⟩ = some (.bool x.main.cls) ∧ w'.cell? ⟨w.heap.size, 5, none⟩ = some (.int .i64 x.main.params) ∧ w'.cell? ⟨w.heap.size, 6, none⟩ = some (.int .i64 x.main.slots) ∧ w'.cell? ⟨w.heap.size, 7, none⟩ = some (.int .i64 x.main.body.kind) ∧ w'.cell? ⟨w.heap.size, 8, none⟩ = some (.string x.main.body.text) ∧ w'.cell? ⟨w.heap.size, 9, none⟩ = some (.int .i64 x.main.body.number) ∧ w'.cell? ⟨w.heap.size, 10, none⟩ = some (.int .i64 x.main.body.depth) ∧ w'.cell? ⟨w.heap.size, 11, none⟩ = some (.slice a_x_main_body_kids x.main.body.kids.length c_x_main_body_kids) ∧ w'.cell? ⟨w.heap.size + 1, 0, none⟩ = some (.slice a_s_classes s.classes.length c_s_classes) ∧ w'.cell? ⟨w.heap.size + 1, 1, none⟩ = some (.slice a_s_objects s.objects.length c_s_objects) ∧ w'.cell? ⟨w.heap.size + 1, 2, none⟩ = some (.slice a_s_output s.output.length c_s_output) ∧ w'.cell? ⟨w.heap.size + 1, 3, none⟩ = some (.int .i64 s.ticks) ∧ w'.cell? ⟨w.heap.size + 1, 4, none⟩ = some (.int .i64 s.budget) ∧ w'.cell? ⟨w.heap.size + 1, 5, none⟩ = some (.int .i64 s.made) ∧ w'.cell? ⟨w.heap.size + 1 + 1, 0, none⟩ = some (.int .i64 v.kind) ∧ w'.cell? ⟨w.heap.size + 1 + 1, 1, none⟩ = some (.int .i64 v.number) ∧ w'.cell? ⟨w.heap.size + 1 + 1, 2, none⟩ = some (.string v.text) ∧ w'.cell? ⟨w8.heap.size, 0, none⟩ = some (.slice n8_x_classes x.classes.length d8_x_classes) ∧ w'.cell? ⟨w8.heap.size, 1, none⟩ = some (.slice n8_x_routines x.routines.length d8_x_routines) ∧ w'.cell? ⟨w8.heap.size, 2, none⟩ = some (.string x.main.selector) ∧ w'.cell? ⟨w8.heap.size, 3, none⟩ = some (.int .i64 x.main.owner) ∧ w'.cell? ⟨w8.heap.size, 4, none⟩ = some (.bool x.main.cls) ∧ w'.cell? ⟨w8.heap.size, 5, none⟩ = some (.int .i64 x.main.params) ∧ w'.cell? ⟨w8.heap.size, 6, none⟩ = some (.int .i64 x.main.slots) ∧ w'.cell? ⟨w8.heap.size, 7, none⟩ = some (.int .i64 x.main.body.kind) ∧ w'.cell? ⟨w8.heap.size, 8, none⟩ = some (.string x.main.body.text) ∧ w'.cell? ⟨w8.heap.size, 9, none⟩ = some (.int .i64 x.main.body.number) ∧ w'.cell? ⟨w8.heap.size, 10, none⟩ = some (.int .i64 x.main.body.depth) ∧ w'.cell? ⟨w8.heap.size, 11, none⟩ = some (.slice n8_x_main_body_kids x.main.body.kids.length d8_x_main_body_kids) ∧ w'.cell? ⟨w10.heap.size, 0, none⟩ = some (.slice n10_s_classes s.classes.length d10_s_classes) ∧ w'.cell? ⟨w10.heap.size, 1, none⟩ = some (.slice n10_s_objects s.objects.length d10_s_objects) ∧ w'.cell? ⟨w10.heap.size, 2, none⟩ = some (.slice n10_s_output s.output.length d10_s_output) ∧ w'.cell? ⟨w10.heap.size, 3, none⟩ = some (.int .i64 s.ticks) ∧ w'.cell? ⟨w10.heap.size, 4, none⟩ = some (.int .i64 s.budget) ∧ w'.cell? ⟨w10.heap.size, 5, none⟩ = some (.int .i64 s.made) ∧ Ext w15 w') := Lib.hid fun w' h => ⟨Ext.cell h mx_0, Ext.cell h mx_1, Ext.cell h mx_2, Ext.cell h mx_3, Ext.cell h mx_4, Ext.cell h mx_5, Ext.cell h mx_6, Ext.cell h mx_7, Ext.cell h mx_8, Ext.cell h mx_9, Ext.cell h mx_10, Ext.cell h mx_11, Ext.cell h ms_0, Ext.cell h ms_1, Ext.cell h ms_2, Ext.cell h ms_3, Ext.cell h ms_4, Ext.cell h ms_5, Ext.cell h mv_0, Ext.cell h mv_1, Ext.cell h mv_2, Ext.cell h mnx_0, Ext.cell h mnx_1, Ext.cell h mnx_2, Ext.cell h mnx_3, Ext.cell h mnx_4, Ext.cell h mnx_5, Ext.cell h mnx_6, Ext.cell h mnx_7, Ext.cell h mnx_8, Ext.cell h mnx_9, Ext.cell h mnx_10, Ext.cell h mnx_11, Ext.cell h mns_0, Ext.cell h mns_1, Ext.cell h mns_2, Ext.cell h mns_3, Ext.cell h mns_4, Ext.cell h mns_5, h⟩
  go_wp2_with fail
  go_region_held3 (fun w' => w'.cell? ⟨w.heap.size, 0, none⟩ = some (.slice a_x_classes x.classes.length c_x_classes) ∧ w'.cell? ⟨w.heap.size, 1, none⟩ = some (.slice a_x_routines x.routines.length c_x_routines) ∧ w'.cell? ⟨w.heap.size, 2, none⟩ = some (.string x.main.selector) ∧ w'.cell? ⟨w.heap.size, 3, none⟩ = some (.int .i64 x.main.owner) ∧ w'.cell? ⟨w.heap.size, 4, none⟩ = some (.bool x.main.cls) ∧ w'.cell? ⟨w.heap.size, 5, none⟩ = some (.int .i64 x.main.params) ∧ w'.cell? ⟨w.heap.size, 6, none⟩ = some (.int .i64 x.main.slots) ∧ w'.cell? ⟨w.heap.size, 7, none⟩ = some (.int .i64 x.main.body.kind) ∧ w'.cell? ⟨w.heap.size, 8, none⟩ = some (.string x.main.body.text) ∧ w'.cell? ⟨w.heap.size, 9, none⟩ = some (.int .i64 x.main.body.number) ∧ w'.cell? ⟨w.heap.size, 10, none⟩ = some (.int .i64 x.main.body.depth) ∧ w'.cell? ⟨w.heap.size, 11, none⟩ = some (.slice a_x_main_body_kids x.main.body.kids.length c_x_main_body_kids) ∧ w'.cell? ⟨w.heap.size + 1, 0, none⟩ = some (.slice a_s_classes s.classes.length c_s_classes) ∧ w'.cell? ⟨w.heap.size + 1, 1, none⟩ = some (.slice a_s_objects s.objects.length c_s_objects) ∧ w'.cell? ⟨w.heap.size + 1, 2, none⟩ = some (.slice a_s_output s.output.length c_s_output) ∧ w'.cell? ⟨w.heap.size + 1, 3, none⟩ = some (.int .i64 s.ticks) ∧ w'.cell? ⟨w.heap.size + 1, 4, none⟩ = some (.int .i64 s.budget) ∧ w'.cell? ⟨w.heap.size + 1, 5, none⟩ = some (.int .i64 s.made) ∧ w'.cell? ⟨w.heap.size + 1 + 1, 0, none⟩ = some (.int .i64 v.kind) ∧ w'.cell? ⟨w.heap.size + 1 + 1, 1, none⟩ = some (.int .i64 v.number) ∧ w'.cell? ⟨w.heap.size + 1 + 1, 2, none⟩ = some (.string v.text) ∧ w'.cell? ⟨w8.heap.size, 0, none⟩ = some (.slice n8_x_classes x.classes.length d8_x_classes) ∧ w'.cell? ⟨w8.heap.size, 1, none⟩ = some (.slice n8_x_routines x.routines.length d8_x_routines) ∧ w'.cell? ⟨w8.heap.size, 2, none⟩ = some (.string x.main.selector) ∧ w'.cell? ⟨w8.heap.size, 3, none⟩ = some (.int .i64 x.main.owner) ∧ w'.cell? ⟨w8.heap.size, 4, none⟩ = some (.bool x.main.cls) ∧ w'.cell? ⟨w8.heap.size, 5, none⟩ = some (.int .i64 x.main.params) ∧ w'.cell? ⟨w8.heap.size, 6, none⟩ = some (.int .i64 x.main.slots) ∧ w'.cell? ⟨w8.heap.size, 7, none⟩ = some (.int .i64 x.main.body.kind) ∧ w'.cell? ⟨w8.heap.size, 8, none⟩ = some (.string x.main.body.text) ∧ w'.cell? ⟨w8.heap.size, 9, none⟩ = some (.int .i64 x.main.body.number) ∧ w'.cell? ⟨w8.heap.size, 10, none⟩ = some (.int .i64 x.main.body.depth) ∧ w'.cell? ⟨w8.heap.size, 11, none⟩ = some (.slice n8_x_main_body_kids x.main.body.kids.length d8_x_main_body_kids) ∧ w'.cell? ⟨w10.heap.size, 0, none⟩ = some (.slice n10_s_classes s.classes.length d10_s_classes) ∧ w'.cell? ⟨w10.heap.size, 1, none⟩ = some (.slice n10_s_objects s.objects.length d10_s_objects) ∧ w'.cell? ⟨w10.heap.size, 2, none⟩ = some (.slice n10_s_output s.output.length d10_s_output) ∧ w'.cell? ⟨w10.heap.size, 3, none⟩ = some (.int .i64 s.ticks) ∧ w'.cell? ⟨w10.heap.size, 4, none⟩ = some (.int .i64 s.budget) ∧ w'.cell? ⟨w10.heap.size, 5, none⟩ = some (.int .i64 s.made) ∧ Ext w15 w')
    (first | exact KS.out _ (Ext.drew (Ext.refl _)) | exact KS.out _ (Ext.trans (Ext.drew (Ext.refl _)) hx16) | exact KS.out _ (Ext.trans (Ext.trans (Ext.drew (Ext.refl _)) hx16) hx17))
    (first | (go_at_call 19; refine (toStore_any s _ _ (Rep.ext (Ext.drew (e15)) rs) Bs.out).mono ?_; rintro e w16 ⟨cs16, fp16, rfl, hr16, hf16, hx16⟩) | (go_at_call 22; refine (eqStore_any s s _ _ _ (Rep.ext (Ext.trans (Ext.drew (Ext.refl _)) hx16) Ps.out) hr16.rep).mono ?_; rintro e w17 ⟨rfl, hx17⟩))
  have e17 : Ext w w17 := (e15).trans (Ext.trans (Ext.trans (Ext.drew (Ext.refl _)) hx16) hx17)
  have mx_0 := Ext.cell (Ext.trans (Ext.trans (Ext.drew (Ext.refl _)) hx16) hx17) mx_0
  have mx_1 := Ext.cell (Ext.trans (Ext.trans (Ext.drew (Ext.refl _)) hx16) hx17) mx_1
  have mx_2 := Ext.cell (Ext.trans (Ext.trans (Ext.drew (Ext.refl _)) hx16) hx17) mx_2
  have mx_3 := Ext.cell (Ext.trans (Ext.trans (Ext.drew (Ext.refl _)) hx16) hx17) mx_3
  have mx_4 := Ext.cell (Ext.trans (Ext.trans (Ext.drew (Ext.refl _)) hx16) hx17) mx_4
  have mx_5 := Ext.cell (Ext.trans (Ext.trans (Ext.drew (Ext.refl _)) hx16) hx17) mx_5
  have mx_6 := Ext.cell (Ext.trans (Ext.trans (Ext.drew (Ext.refl _)) hx16) hx17) mx_6
  have mx_7 := Ext.cell (Ext.trans (Ext.trans (Ext.drew (Ext.refl _)) hx16) hx17) mx_7
  have mx_8 := Ext.cell (Ext.trans (Ext.trans (Ext.drew (Ext.refl _)) hx16) hx17) mx_8
  have mx_9 := Ext.cell (Ext.trans (Ext.trans (Ext.drew (Ext.refl _)) hx16) hx17) mx_9
  have mx_10 := Ext.cell (Ext.trans (Ext.trans (Ext.drew (Ext.refl _)) hx16) hx17) mx_10
  have mx_11 := Ext.cell (Ext.trans (Ext.trans (Ext.drew (Ext.refl _)) hx16) hx17) mx_11
  have zx : w.heap.size < w17.heap.size := lt_of_cell mx_0
  have ms_0 := Ext.cell (Ext.trans (Ext.trans (Ext.drew (Ext.refl _)) hx16) hx17) ms_0
  have ms_1 := Ext.cell (Ext.trans (Ext.trans (Ext.drew (Ext.refl _)) hx16) hx17) ms_1
  have ms_2 := Ext.cell (Ext.trans (Ext.trans (Ext.drew (Ext.refl _)) hx16) hx17) ms_2
  have ms_3 := Ext.cell (Ext.trans (Ext.trans (Ext.drew (Ext.refl _)) hx16) hx17) ms_3
  have ms_4 := Ext.cell (Ext.trans (Ext.trans (Ext.drew (Ext.refl _)) hx16) hx17) ms_4
  have ms_5 := Ext.cell (Ext.trans (Ext.trans (Ext.drew (Ext.refl _)) hx16) hx17) ms_5
  have zs : w.heap.size + 1 < w17.heap.size := lt_of_cell ms_0
  have mv_0 := Ext.cell (Ext.trans (Ext.trans (Ext.drew (Ext.refl _)) hx16) hx17) mv_0
  have mv_1 := Ext.cell (Ext.trans (Ext.trans (Ext.drew (Ext.refl _)) hx16) hx17) mv_1
  have mv_2 := Ext.cell (Ext.trans (Ext.trans (Ext.drew (Ext.refl _)) hx16) hx17) mv_2
  have zv : w.heap.size + 1 + 1 < w17.heap.size := lt_of_cell mv_0
  have mnx_0 := Ext.cell (Ext.trans (Ext.trans (Ext.drew (Ext.refl _)) hx16) hx17) mnx_0
  have mnx_1 := Ext.cell (Ext.trans (Ext.trans (Ext.drew (Ext.refl _)) hx16) hx17) mnx_1
  have mnx_2 := Ext.cell (Ext.trans (Ext.trans (Ext.drew (Ext.refl _)) hx16) hx17) mnx_2
  have mnx_3 := Ext.cell (Ext.trans (Ext.trans (Ext.drew (Ext.refl _)) hx16) hx17) mnx_3
  have mnx_4 := Ext.cell (Ext.trans (Ext.trans (Ext.drew (Ext.refl _)) hx16) hx17) mnx_4
  have mnx_5 := Ext.cell (Ext.trans (Ext.trans (Ext.drew (Ext.refl _)) hx16) hx17) mnx_5
  have mnx_6 := Ext.cell (Ext.trans (Ext.trans (Ext.drew (Ext.refl _)) hx16) hx17) mnx_6
  have mnx_7 := Ext.cell (Ext.trans (Ext.trans (Ext.drew (Ext.refl _)) hx16) hx17) mnx_7
  have mnx_8 := Ext.cell (Ext.trans (Ext.trans (Ext.drew (Ext.refl _)) hx16) hx17) mnx_8
  have mnx_9 := Ext.cell (Ext.trans (Ext.trans (Ext.drew (Ext.refl _)) hx16) hx17) mnx_9
  have mnx_10 := Ext.cell (Ext.trans (Ext.trans (Ext.drew (Ext.refl _)) hx16) hx17) mnx_10
  have mnx_11 := Ext.cell (Ext.trans (Ext.trans (Ext.drew (Ext.refl _)) hx16) hx17) mnx_11
  have znx : w8.heap.size < w17.heap.size := lt_of_cell mnx_0
  have mns_0 := Ext.cell (Ext.trans (Ext.trans (Ext.drew (Ext.refl _)) hx16) hx17) mns_0
  have mns_1 := Ext.cell (Ext.trans (Ext.trans (Ext.drew (Ext.refl _)) hx16) hx17) mns_1
  have mns_2 := Ext.cell (Ext.trans (Ext.trans (Ext.drew (Ext.refl _)) hx16) hx17) mns_2
  have mns_3 := Ext.cell (Ext.trans (Ext.trans (Ext.drew (Ext.refl _)) hx16) hx17) mns_3
  have mns_4 := Ext.cell (Ext.trans (Ext.trans (Ext.drew (Ext.refl _)) hx16) hx17) mns_4
  have mns_5 := Ext.cell (Ext.trans (Ext.trans (Ext.drew (Ext.refl _)) hx16) hx17) mns_5
  have zns : w10.heap.size < w17.heap.size := lt_of_cell mns_0
  clear KS
  replace Px : Hid (Rep w17 x.d _) := Lib.hid (Rep.ext (Ext.trans (Ext.trans (Ext.drew (Ext.refl _)) hx16) hx17) Px.out)
  replace Ps : Hid (Rep w17 s.d _) := Lib.hid (Rep.ext (Ext.trans (Ext.trans (Ext.drew (Ext.refl _)) hx16) hx17) Ps.out)
  go_wp2_with fail
  go_ret
  exact ⟨rfl, e17⟩

set_option maxRecDepth 100000 in
theorem fnExactRoutineFor_lifted (os : Os) (started : os.Started) (H : Type) (enc : TypeId × Value → H) :
    ReturnsInHanded {} Tryz.checked os 5 .any (fun w args => (Rows.fnExactRoutineForSpec.pre enc Tryz.prog Tryz.f5 Rows.fnExactRoutineForRow.domain false w args ∧ laidMetH Tryz.prog Rows.fnExactRoutineForRow.laid w) ∧ sizedMet enc Tryz.prog Tryz.f5 (OpenSpec.ofChange Rows.fnExactRoutineForSpec) false w args) (Rows.fnExactRoutineForSpec.post enc Tryz.prog Tryz.f5 false true false false) := by
  refine returns_laid (C := Tryz.checked) (X := fun w _ => laidMetH Tryz.prog Rows.fnExactRoutineForRow.laid w) (fun _ _ _ hh h => h.of_heap hh) Tryz.own started (by kernel_rfl) Tryz.func5
    (ChangeSpec.witness_shaped (enc := enc) (C := Tryz.checked) (os := os) (X := fun w _ => laidMetH Tryz.prog Rows.fnExactRoutineForRow.laid w) false (World.laidAll Tryz.prog os Rows.fnExactRoutineForRow.laid) #[.agg #[.slice none 0 0, .slice none 0 0, .string ByteArray.empty, .int .i64 0, .bool false, .int .i64 0, .int .i64 0, .int .i64 0, .string ByteArray.empty, .int .i64 0, .int .i64 0, .slice none 0 0], .agg #[.slice none 0 0, .slice none 0 0, .slice none 0 0, .int .i64 0, .int .i64 0, .int .i64 0], .agg #[.int .i64 0, .int .i64 0, .string ByteArray.empty], .string ByteArray.empty] 8 (World.laidAll_os _ _ _)
      (World.shaped_of_ZipB (by kernel_rfl) (by kernel_rfl)) (by kernel_rfl) (by kernel_rfl) (by kernel_rfl)
      (by rw [MakeChecks.laidMetH_plain _ _ _ (by kernel_rfl)]; exact laidMet_laidAll _ (by kernel_rfl) (by kernel_rfl))) ?_
  intro W base args ds gs before hval0 hW hL hsh
  have hM := max_ok hsh
  have hval : ∀ (j : Nat) t v, Tryz.f5.params[j]? = some t → args[j]? = some v → Value.okWide Tryz.prog W .any base t v := hval0
  have hW' := hW
  obtain ⟨p, q, hA0, hV, rfl, hfz, hnd⟩ := hW
  have hA : DataW.TrodAll enc Tryz.prog W 0 (fun _ => true) true Tryz.f5.params.toList args.toList ds p := hA0
  rw [Tryz.params5] at hA hval
  obtain ⟨v0, v1, v2, v3, d0, d1, d2, d3, p0, p1, p2, p3, rfl, rfl, rfl, h0, h1, h2, h3⟩ := trodAll_four hA
  obtain ⟨rfl, rfl⟩ := trodVars_none hV
  obtain ⟨c0, rfl, hc0⟩ := okWide_agg Tryz.underlying30 (hval 0 30 v0 rfl rfl)
  obtain ⟨fu0, hh0⟩ := h0
  rw [hc0] at hh0
  obtain ⟨x0, r0, o0⟩ := trod_System hh0
  obtain ⟨c1, rfl, hc1⟩ := okWide_agg Tryz.underlying50 (hval 1 50 v1 rfl rfl)
  obtain ⟨fu1, hh1⟩ := h1
  rw [hc1] at hh1
  obtain ⟨x1, r1, o1⟩ := trod_Store hh1
  obtain ⟨c2, rfl, hc2⟩ := okWide_agg Tryz.underlying52 (hval 2 52 v2 rfl rfl)
  obtain ⟨fu2, hh2⟩ := h2
  rw [hc2] at hh2
  obtain ⟨x2, r2, o2⟩ := trod_Value hh2
  obtain ⟨x3, rfl, rfl, rfl, o3⟩ := open_string Tryz.underlying9 (hval 3 9 v3 rfl rfl) h3
  exact (fnExactRoutineFor_calls x0 c0 x1 c1 x2 c2 x3 W r0 r1 r2 o0 o1 o2 o3 hM).mono fun e W' ⟨he, hb⟩ => ⟨_, he, law_post Tryz.laidOut rfl (by kernel_rfl) rfl Tryz.underlying4 hW' rfl hb⟩



theorem fnExactRoutineFor_c1 : (Rows.fnExactRoutineForRow.inPlace == Tryz.prog.inPlace 5) = true := by kernel_rfl
theorem fnExactRoutineFor_c2 : (Rows.fnExactRoutineForRow.unfollowed == Tryz.prog.unfollowed 5) = true := by kernel_rfl
theorem fnExactRoutineFor_c3a : (Tryz.prog.closure 5).contains 191 = true := by kernel_rfl
theorem fnExactRoutineFor_c3b : (((Tryz.prog.funcs[191]?).elim [] Tryz.prog.leadsTo).any fun h => (Tryz.prog.closure h).contains 191) = true := by kernel_rfl
theorem fnExactRoutineFor_c3 : (Rows.fnExactRoutineForRow.recurses == Tryz.prog.recurses 5) = true := by
  have h : Tryz.prog.recurses 5 = true := by
    unfold Program.recurses
    rw [Bool.or_eq_true]
    exact Or.inr (List.any_eq_true.2 ⟨191, by simpa using fnExactRoutineFor_c3a, fnExactRoutineFor_c3b⟩)
  rw [h]; rfl
theorem fnExactRoutineFor_c4 : (Rows.fnExactRoutineForRow.named == Tryz.prog.varsNamed 5) = true := by kernel_rfl
theorem fnExactRoutineFor_closed : joinedFacts Tryz.prog 5 Tryz.f5 Rows.fnExactRoutineForSpec Rows.fnExactRoutineForRow = true := by
  unfold joinedFacts
  rw [fnExactRoutineFor_c1, fnExactRoutineFor_c2, fnExactRoutineFor_c3, fnExactRoutineFor_c4]
  kernel_rfl

theorem fnExactRoutineFor_holds : Rows.FnExactRoutineForSaid :=
  OpenClaim.holds_of_wide 5 Tryz.f5 rfl rfl rfl rfl rfl rfl rfl ⟨rfl, rfl, rfl, rfl, rfl⟩ rfl rfl rfl rfl rfl (by kernel_rfl) Tryz.func5 fnExactRoutineFor_closed
    (of_decide_eq_true (by kernel_rfl)) (by unfold Func.isWrapper; rw [if_neg (of_decide_eq_false (by kernel_rfl))]; exact ⟨rfl, rfl⟩)
    (fun os started H enc _ => fnExactRoutineFor_lifted os started H enc)


theorem fnExactRoutineFor_card : Rows.FnExactRoutineForCardSaid :=
  Claim7.holds_tied_plain_at .later [] [.data, .pinned] true (true, "4e8ba00cf27972743f4a415ffe2fdd1de1e5ad4018091dc47328bdf7bdb0fd87") true fnExactRoutineFor_holds (fun _ h => by cases h) (by kernel_rfl) (fun _ h => by cases h) fnExactRoutineFor_row_tie rfl ⟨rfl, rfl⟩ (by kernel_rfl) rfl
    (fun f fn hf hfn => by
      obtain rfl : f = 5 := Option.some.inj ((show Tryz.prog.funcNamed "loop.example/g03108/laws.FnExactRoutineFor" = some 5 by kernel_rfl).symm.trans hf) |>.symm
      obtain rfl : fn = Tryz.f5 := (Option.some.inj (Tryz.func5.symm.trans hfn)).symm
      exact ⟨by kernel_rfl, fun j t ht => by
        rw [Tryz.params5] at ht
        have hm : t ∈ [30, 50, 52, 9] := by
          have h := Array.mem_of_getElem? ht
          simpa using h
        have hall : ([30, 50, 52, 9].all fun u => !Tryz.prog.wantsStandIn u) = true := by kernel_rfl
        exact (show Tryz.prog.wantsStandIn t = false by simpa using List.all_eq_true.1 hall t hm)⟩)
    (by kernel_rfl)

#print axioms fnExactRoutineFor_card


end Go.Proofs.YtdngmifgglbbpaaGreatDoor
