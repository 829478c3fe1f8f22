/-
  FnExactSelectorsOf: the program's SelectorsOf gives what the reference's gives, for all arguments.
  Conditions: none.
-/
import Derived.Test.YtdngmifgglbbpaaGreatDoorDoorLaw
import Derived.Deep.RegionHeld3
import Derived.Test.YtdngmifgglbbpaaGreatDoorEq
import Derived.Test.YtdngmifgglbbpaaGreatDoorSz
import Derived.Test.YtdngmifgglbbpaaGreatDoorTo
import Derived.Test.YtdngmifgglbbpaaGreatDoorArgTypes
import Derived.Test.YtdngmifgglbbpaaGreatDoorMarkT
import Derived.Test.YtdngmifgglbbpaaGreatDoorFnSelO
namespace Go.Proofs.YtdngmifgglbbpaaGreatDoor
open Go.ChangeShapes Go.WideShapes Go.ChangeAt Go.RowKit Go.Joins
open Go.ChangeMaps (open_string)
set_option linter.unusedSimpArgs false
set_option linter.unusedVariables false


theorem lvl_len (cls : Bool) (k : Int) : ∀ (rs : List MRoutine) (out : List ByteArray), (lvl cls k out rs).length ≤ out.length + rs.length
  | [], out => by simp [lvl]
  | r :: rs, out => by
    have h := lvl_len cls k rs (addR cls k out r)
    have h2 : (addR cls k out r).length ≤ out.length + 1 := by unfold addR; split <;> simp
    unfold lvl at *
    simp only [List.foldl_cons, List.length_cons] at *
    omega
theorem selR_len {x : MSystem} {cls : Bool} (hok : ClsOk x.classes) (hn : x.routines.length ≤ 96) : ∀ (n : Nat) {k : Int} {out res : List ByteArray}, SelR x cls k out res → k < n → -1 ≤ k → res.length ≤ out.length + 96 * n
  | 0, k, out, res, h, hk, h1 => by
    cases h with
    | neg h => omega
    | up h0 _ _ => omega
  | n + 1, k, out, res, h, hk, h1 => by
    cases h with
    | neg h => omega
    | up h0 hc h =>
      have hp := hok.parent hc
      have := selR_len hok hn n h (by omega) (by omega)
      have := lvl_len cls k x.routines out
      omega
theorem sel_len (x : MSystem) (k : Int) (c : Bool) : (selO x k c).length ≤ 2400 := by
  unfold selO
  split
  · rename_i h
    have hS := prB_iff.1 h.1
    have hok : ClsOk x.classes := clsB_iff.1 hS.1
    have hk := of_decide_eq_true h.2
    unfold selsV
    split
    · rename_i hx
      have h1 := hok.1.2
      have := selR_len hok hS.2.2.2.1 24 hx.choose_spec (by omega) (by omega)
      simp at this; omega
    · simp
  · simp
set_option maxHeartbeats 4000000 in
set_option maxRecDepth 100000 in
theorem fnExactSelectorsOf_calls (x : MSystem) (cx : List Value) (k : Int) (c : Bool) (w : World) (rx : Rep w x.d cx) (ox : x.d.ok) (ok : -9223372036854775808 ≤ k ∧ k ≤ 9223372036854775807) (hM : MaxOk w) : Calls Tryz.prog 7 #[.agg cx.toArray, .int .i64 k, .bool c] w fun e w' => e = .returned (.bool true) ∧ Ext w w' := by
  have RX := Lib.hid rx
  obtain ⟨a_x_classes, c_x_classes, a_x_routines, c_x_routines, a_x_main_body_kids, c_x_main_body_kids, rfl, _, _, _, _⟩ := MSystem.op_en rx
  clear rx
  go_enter Tryz.func7, Tryz.ntmps7
  go_upto_region 1 with fail
  generalize hS : World.alloc w _ = wa
  have ea : Ext w wa := by rw [← hS]; exact (Ext.refl _).alloc _
  have m0 : wa.cell? ⟨w.heap.size, 0, none⟩ = some (.slice a_x_classes x.classes.length c_x_classes) := by rw [← hS]; simp
  have m1 : wa.cell? ⟨w.heap.size, 1, none⟩ = some (.slice a_x_routines x.routines.length c_x_routines) := by rw [← hS]; simp
  have m2 : wa.cell? ⟨w.heap.size, 2, none⟩ = some (.string x.main.selector) := by rw [← hS]; simp
  have m3 : wa.cell? ⟨w.heap.size, 3, none⟩ = some (.int .i64 x.main.owner) := by rw [← hS]; simp
  have m4 : wa.cell? ⟨w.heap.size, 4, none⟩ = some (.bool x.main.cls) := by rw [← hS]; simp
  have m5 : wa.cell? ⟨w.heap.size, 5, none⟩ = some (.int .i64 x.main.params) := by rw [← hS]; simp
  have m6 : wa.cell? ⟨w.heap.size, 6, none⟩ = some (.int .i64 x.main.slots) := by rw [← hS]; simp
  have m7 : wa.cell? ⟨w.heap.size, 7, none⟩ = some (.int .i64 x.main.body.kind) := by rw [← hS]; simp
  have m8 : wa.cell? ⟨w.heap.size, 8, none⟩ = some (.string x.main.body.text) := by rw [← hS]; simp
  have m9 : wa.cell? ⟨w.heap.size, 9, none⟩ = some (.int .i64 x.main.body.number) := by rw [← hS]; simp
  have m10 : wa.cell? ⟨w.heap.size, 10, none⟩ = some (.int .i64 x.main.body.depth) := by rw [← hS]; simp
  have m11 : wa.cell? ⟨w.heap.size, 11, none⟩ = some (.slice a_x_main_body_kids x.main.body.kids.length c_x_main_body_kids) := by rw [← hS]; simp
  clear hS
  go_wp2_with fail
  refine (szSystem_any x _ 1048576 _ (by omega) (by omega) (Rep.ext ea RX.out) ox).mono ?_
  rintro e w1 ⟨q1, rfl, hq, hx1⟩
  replace m0 := Ext.cell (hx1) m0
  replace m1 := Ext.cell (hx1) m1
  replace m2 := Ext.cell (hx1) m2
  replace m3 := Ext.cell (hx1) m3
  replace m4 := Ext.cell (hx1) m4
  replace m5 := Ext.cell (hx1) m5
  replace m6 := Ext.cell (hx1) m6
  replace m7 := Ext.cell (hx1) m7
  replace m8 := Ext.cell (hx1) m8
  replace m9 := Ext.cell (hx1) m9
  replace m10 := Ext.cell (hx1) m10
  replace m11 := Ext.cell (hx1) m11
  have e1 := ea.trans hx1
  rcases hq with rfl | ⟨hq1, hqe⟩
  · go_wp2_with fail
    go_ret
    exact ⟨rfl, e1⟩
  have hl1 : q1 ≤ 1048576 := by omega
  have B : Hid (x.d.bulk ≤ 1048576) := Lib.hid (by omega)
  have HC : Hid ((1 : Int) + x.d.tcnt ≤ 1099511627776) := Lib.hid (by have := MSystem.tcnt_le x; have := B.out; omega)
  clear hqe ea hx1
  have zx := lt_of_cell m0
  go_wp2_with fail
  refine (toSystem_any x _ _ (Rep.ext e1 RX.out) B.out).mono ?_
  rintro e w2 ⟨cs2, fp2, rfl, hr2, hf2, hx2⟩
  go_wp2_with fail
  refine (spec_SelectorsOf_any x _ k c _ hr2.rep (bulk_system B.out)).mono ?_
  rintro e w3 ⟨a3, n3, c3, f3, rfl, hr3, hf3, hx3⟩
  replace m0 := Ext.cell (hx2.trans hx3) m0
  replace m1 := Ext.cell (hx2.trans hx3) m1
  replace m2 := Ext.cell (hx2.trans hx3) m2
  replace m3 := Ext.cell (hx2.trans hx3) m3
  replace m4 := Ext.cell (hx2.trans hx3) m4
  replace m5 := Ext.cell (hx2.trans hx3) m5
  replace m6 := Ext.cell (hx2.trans hx3) m6
  replace m7 := Ext.cell (hx2.trans hx3) m7
  replace m8 := Ext.cell (hx2.trans hx3) m8
  replace m9 := Ext.cell (hx2.trans hx3) m9
  replace m10 := Ext.cell (hx2.trans hx3) m10
  replace m11 := Ext.cell (hx2.trans hx3) m11
  have e3 := (e1.trans hx2).trans hx3
  have hz3 : w1.heap.size ≤ w2.heap.size := hx2.size
  have H3 := Lib.hid hr3
  have L3 : Hid (∀ b, b ∈ f3 → b < w3.heap.size ∧ w.heap.size < b) := Lib.hid fun b hb => ⟨hf3.lt hb, by have := hf3.ge b hb; omega⟩
  clear hr2 hf2 hr3 hf3 hx2 hx3
  replace zx := lt_of_cell m0
  have ZX3 : Hid (w.heap.size < w3.heap.size) := Lib.hid zx
  go_wp2_with fail
  refine (toSystem_any x _ _ (Rep.ext e3 RX.out) B.out).mono ?_
  rintro e w4 ⟨cs4, fp4, rfl, hr4, hf4, hx4⟩
  replace m0 := Ext.cell (hx4) m0
  replace m1 := Ext.cell (hx4) m1
  replace m2 := Ext.cell (hx4) m2
  replace m3 := Ext.cell (hx4) m3
  replace m4 := Ext.cell (hx4) m4
  replace m5 := Ext.cell (hx4) m5
  replace m6 := Ext.cell (hx4) m6
  replace m7 := Ext.cell (hx4) m7
  replace m8 := Ext.cell (hx4) m8
  replace m9 := Ext.cell (hx4) m9
  replace m10 := Ext.cell (hx4) m10
  replace m11 := Ext.cell (hx4) m11
  obtain ⟨n_x_classes, d_x_classes, n_x_routines, d_x_routines, n_x_main_body_kids, d_x_main_body_kids, rfl, _, _, _, _⟩ := MSystem.op_en hr4.rep
  have e4 := e3.trans hx4
  go_upto_region 7 with fail
  generalize hS : World.alloc w4 _ = v4
  have y4 : Ext w4 v4 := by rw [← hS]; exact (Ext.refl _).alloc _
  have nn0 : v4.cell? ⟨w4.heap.size, 0, none⟩ = some (.slice n_x_classes x.classes.length d_x_classes) := by rw [← hS]; simp
  have nn1 : v4.cell? ⟨w4.heap.size, 1, none⟩ = some (.slice n_x_routines x.routines.length d_x_routines) := by rw [← hS]; simp
  have nn2 : v4.cell? ⟨w4.heap.size, 2, none⟩ = some (.string x.main.selector) := by rw [← hS]; simp
  have nn3 : v4.cell? ⟨w4.heap.size, 3, none⟩ = some (.int .i64 x.main.owner) := by rw [← hS]; simp
  have nn4 : v4.cell? ⟨w4.heap.size, 4, none⟩ = some (.bool x.main.cls) := by rw [← hS]; simp
  have nn5 : v4.cell? ⟨w4.heap.size, 5, none⟩ = some (.int .i64 x.main.params) := by rw [← hS]; simp
  have nn6 : v4.cell? ⟨w4.heap.size, 6, none⟩ = some (.int .i64 x.main.slots) := by rw [← hS]; simp
  have nn7 : v4.cell? ⟨w4.heap.size, 7, none⟩ = some (.int .i64 x.main.body.kind) := by rw [← hS]; simp
  have nn8 : v4.cell? ⟨w4.heap.size, 8, none⟩ = some (.string x.main.body.text) := by rw [← hS]; simp
  have nn9 : v4.cell? ⟨w4.heap.size, 9, none⟩ = some (.int .i64 x.main.body.number) := by rw [← hS]; simp
  have nn10 : v4.cell? ⟨w4.heap.size, 10, none⟩ = some (.int .i64 x.main.body.depth) := by rw [← hS]; simp
  have nn11 : v4.cell? ⟨w4.heap.size, 11, none⟩ = some (.slice n_x_main_body_kids x.main.body.kids.length d_x_main_body_kids) := by rw [← hS]; simp
  have zv4 : Hid (v4.heap.size = w4.heap.size + 1) := Lib.hid (by rw [← hS]; simp)
  clear hS
  replace m0 := Ext.cell (y4) m0
  replace m1 := Ext.cell (y4) m1
  replace m2 := Ext.cell (y4) m2
  replace m3 := Ext.cell (y4) m3
  replace m4 := Ext.cell (y4) m4
  replace m5 := Ext.cell (y4) m5
  replace m6 := Ext.cell (y4) m6
  replace m7 := Ext.cell (y4) m7
  replace m8 := Ext.cell (y4) m8
  replace m9 := Ext.cell (y4) m9
  replace m10 := Ext.cell (y4) m10
  replace m11 := Ext.cell (y4) m11
  have H4 := Lib.hid (hr4.ext y4)
  have F4 := Lib.hid (hf4.ext y4)
  have L4 : Hid (∀ b, b ∈ fp4 → b < w4.heap.size ∧ w3.heap.size ≤ b) := Lib.hid fun b hb => ⟨hf4.lt hb, hf4.ge b hb⟩
  have ev := e4.trans y4
  have H3b := Lib.hid (H3.out.ext (hx4.trans y4))
  have Z34 : Hid (w3.heap.size ≤ w4.heap.size) := Lib.hid hx4.size
  have ZX4 : Hid (w.heap.size < v4.heap.size) := Lib.hid (lt_of_cell m0)
  clear hr4 hf4 H3 y4 hx4
  have zn := lt_of_cell nn0
  go_wp2_with fail
  refine (impl_SelectorsOf_any x _ k c _ H4.out.rep (bulk_system B.out) (hM.ext ev)).mono ?_
  rintro e w5 ⟨a5, n5, c5, f5, rfl, hr5, hf5, hx5⟩
  replace m0 := Ext.cell (hx5) m0
  replace m1 := Ext.cell (hx5) m1
  replace m2 := Ext.cell (hx5) m2
  replace m3 := Ext.cell (hx5) m3
  replace m4 := Ext.cell (hx5) m4
  replace m5 := Ext.cell (hx5) m5
  replace m6 := Ext.cell (hx5) m6
  replace m7 := Ext.cell (hx5) m7
  replace m8 := Ext.cell (hx5) m8
  replace m9 := Ext.cell (hx5) m9
  replace m10 := Ext.cell (hx5) m10
  replace m11 := Ext.cell (hx5) m11
  replace nn0 := Ext.cell (hx5) nn0
  replace nn1 := Ext.cell (hx5) nn1
  replace nn2 := Ext.cell (hx5) nn2
  replace nn3 := Ext.cell (hx5) nn3
  replace nn4 := Ext.cell (hx5) nn4
  replace nn5 := Ext.cell (hx5) nn5
  replace nn6 := Ext.cell (hx5) nn6
  replace nn7 := Ext.cell (hx5) nn7
  replace nn8 := Ext.cell (hx5) nn8
  replace nn9 := Ext.cell (hx5) nn9
  replace nn10 := Ext.cell (hx5) nn10
  replace nn11 := Ext.cell (hx5) nn11
  have e5 := ev.trans hx5
  have L5 : Hid (∀ b, b ∈ f5 → v4.heap.size ≤ b) := Lib.hid fun b hb => hf5.ge b hb
  have H5 := Lib.hid hr5
  have F5 := Lib.hid hf5
  have hzv : v4.heap.size ≤ w5.heap.size := hx5.size
  have HX5 := Lib.hid hx5
  clear hr5 hf5 hx5
  have ht : eqB (selO x k c) (selO x k c) = true := eqB_tt rfl
  have htx : eqB x x = true := eqB_tt rfl
  replace zx := lt_of_cell m0
  replace zn := lt_of_cell nn0
  go_wp2_with fail
  refine (eqStringS_any _ _ _ _ _ H5.out.rep (Rep.ext HX5.out H3b.out.rep)).mono ?_
  rw [ht]
  rintro e w6 ⟨rfl, hx6⟩
  replace m0 := Ext.cell (hx6) m0
  replace m1 := Ext.cell (hx6) m1
  replace m2 := Ext.cell (hx6) m2
  replace m3 := Ext.cell (hx6) m3
  replace m4 := Ext.cell (hx6) m4
  replace m5 := Ext.cell (hx6) m5
  replace m6 := Ext.cell (hx6) m6
  replace m7 := Ext.cell (hx6) m7
  replace m8 := Ext.cell (hx6) m8
  replace m9 := Ext.cell (hx6) m9
  replace m10 := Ext.cell (hx6) m10
  replace m11 := Ext.cell (hx6) m11
  replace nn0 := Ext.cell (hx6) nn0
  replace nn1 := Ext.cell (hx6) nn1
  replace nn2 := Ext.cell (hx6) nn2
  replace nn3 := Ext.cell (hx6) nn3
  replace nn4 := Ext.cell (hx6) nn4
  replace nn5 := Ext.cell (hx6) nn5
  replace nn6 := Ext.cell (hx6) nn6
  replace nn7 := Ext.cell (hx6) nn7
  replace nn8 := Ext.cell (hx6) nn8
  replace nn9 := Ext.cell (hx6) nn9
  replace nn10 := Ext.cell (hx6) nn10
  replace nn11 := Ext.cell (hx6) nn11
  have e6 := e5.trans hx6
  replace zx := lt_of_cell m0
  replace zn := lt_of_cell nn0
  go_wp2_with fail
  have KS : Hid (∀ w', Ext w6 w' → w'.cell? ⟨w.heap.size, 0, none⟩ = some (.slice a_x_classes x.classes.length c_x_classes) ∧ w'.cell? ⟨w.heap.size, 1, none⟩ = some (.slice a_x_routines x.routines.length c_x_routines) ∧ w'.cell? ⟨w.heap.size, 2, none⟩ = some (.string x.main.selector) ∧ w'.cell? ⟨w.heap.size, 3, none⟩ = some (.int .i64 x.main.owner) ∧ w'.cell? ⟨w.heap.size, 4, none⟩ = some (.bool x.main.cls) ∧ w'.cell? ⟨w.heap.size, 5, none⟩ = some (.int .i64 x.main.params) ∧ w'.cell? ⟨w.heap.size, 6, none⟩ = some (.int .i64 x.main.slots) ∧ w'.cell? ⟨w.heap.size, 7, none⟩ = some (.int .i64 x.main.body.kind) ∧ w'.cell? ⟨w.heap.size, 8, none⟩ = some (.string x.main.body.text) ∧ w'.cell? ⟨w.heap.size, 9, none⟩ = some (.int .i64 x.main.body.number) ∧ w'.cell? ⟨w.heap.size, 10, none⟩ = some (.int .i64 x.main.body.depth) ∧ w'.cell? ⟨w.heap.size, 11, none⟩ = some (.slice a_x_main_body_kids x.main.body.kids.length c_x_main_body_kids) ∧ w'.cell? ⟨w4.heap.size, 0, none⟩ = some (.slice n_x_classes x.classes.length d_x_classes) ∧ w'.cell? ⟨w4.heap.size, 1, none⟩ = some (.slice n_x_routines x.routines.length d_x_routines) ∧ w'.cell? ⟨w4.heap.size, 2, none⟩ = some (.string x.main.selector) ∧ w'.cell? ⟨w4.heap.size, 3, none⟩ = some (.int .i64 x.main.owner) ∧ w'.cell? ⟨w4.heap.size, 4, none⟩ = some (.bool x.main.cls) ∧ w'.cell? ⟨w4.heap.size, 5, none⟩ = some (.int .i64 x.main.params) ∧ w'.cell? ⟨w4.heap.size, 6, none⟩ = some (.int .i64 x.main.slots) ∧ w'.cell? ⟨w4.heap.size, 7, none⟩ = some (.int .i64 x.main.body.kind) ∧ w'.cell? ⟨w4.heap.size, 8, none⟩ = some (.string x.main.body.text) ∧ w'.cell? ⟨w4.heap.size, 9, none⟩ = some (.int .i64 x.main.body.number) ∧ w'.cell? ⟨w4.heap.size, 10, none⟩ = some (.int .i64 x.main.body.depth) ∧ w'.cell? ⟨w4.heap.size, 11, none⟩ = some (.slice n_x_main_body_kids x.main.body.kids.length d_x_main_body_kids) ∧ Ext w6 w') := Lib.hid fun w' h => ⟨Ext.cell h m0, Ext.cell h m1, Ext.cell h m2, Ext.cell h m3, Ext.cell h m4, Ext.cell h m5, Ext.cell h m6, Ext.cell h m7, Ext.cell h m8, Ext.cell h m9, Ext.cell h m10, Ext.cell h m11, Ext.cell h nn0, Ext.cell h nn1, Ext.cell h nn2, Ext.cell h nn3, Ext.cell h nn4, Ext.cell h nn5, Ext.cell h nn6, Ext.cell h nn7, Ext.cell h nn8, Ext.cell h nn9, Ext.cell h nn10, Ext.cell h nn11, h⟩
  go_region_held3 (fun w' => w'.cell? ⟨w.heap.size, 0, none⟩ = some (.slice a_x_classes x.classes.length c_x_classes) ∧ w'.cell? ⟨w.heap.size, 1, none⟩ = some (.slice a_x_routines x.routines.length c_x_routines) ∧ w'.cell? ⟨w.heap.size, 2, none⟩ = some (.string x.main.selector) ∧ w'.cell? ⟨w.heap.size, 3, none⟩ = some (.int .i64 x.main.owner) ∧ w'.cell? ⟨w.heap.size, 4, none⟩ = some (.bool x.main.cls) ∧ w'.cell? ⟨w.heap.size, 5, none⟩ = some (.int .i64 x.main.params) ∧ w'.cell? ⟨w.heap.size, 6, none⟩ = some (.int .i64 x.main.slots) ∧ w'.cell? ⟨w.heap.size, 7, none⟩ = some (.int .i64 x.main.body.kind) ∧ w'.cell? ⟨w.heap.size, 8, none⟩ = some (.string x.main.body.text) ∧ w'.cell? ⟨w.heap.size, 9, none⟩ = some (.int .i64 x.main.body.number) ∧ w'.cell? ⟨w.heap.size, 10, none⟩ = some (.int .i64 x.main.body.depth) ∧ w'.cell? ⟨w.heap.size, 11, none⟩ = some (.slice a_x_main_body_kids x.main.body.kids.length c_x_main_body_kids) ∧ w'.cell? ⟨w4.heap.size, 0, none⟩ = some (.slice n_x_classes x.classes.length d_x_classes) ∧ w'.cell? ⟨w4.heap.size, 1, none⟩ = some (.slice n_x_routines x.routines.length d_x_routines) ∧ w'.cell? ⟨w4.heap.size, 2, none⟩ = some (.string x.main.selector) ∧ w'.cell? ⟨w4.heap.size, 3, none⟩ = some (.int .i64 x.main.owner) ∧ w'.cell? ⟨w4.heap.size, 4, none⟩ = some (.bool x.main.cls) ∧ w'.cell? ⟨w4.heap.size, 5, none⟩ = some (.int .i64 x.main.params) ∧ w'.cell? ⟨w4.heap.size, 6, none⟩ = some (.int .i64 x.main.slots) ∧ w'.cell? ⟨w4.heap.size, 7, none⟩ = some (.int .i64 x.main.body.kind) ∧ w'.cell? ⟨w4.heap.size, 8, none⟩ = some (.string x.main.body.text) ∧ w'.cell? ⟨w4.heap.size, 9, none⟩ = some (.int .i64 x.main.body.number) ∧ w'.cell? ⟨w4.heap.size, 10, none⟩ = some (.int .i64 x.main.body.depth) ∧ w'.cell? ⟨w4.heap.size, 11, none⟩ = some (.slice n_x_main_body_kids x.main.body.kids.length d_x_main_body_kids) ∧ Ext w6 w')
    (first | exact KS.out _ (Ext.drew (Ext.refl _)) | exact KS.out _ (Ext.trans (Ext.trans (Ext.drew (Ext.refl _)) hx7) hx8) | exact KS.out _ (Ext.trans (Ext.drew (Ext.refl _)) hx7))
    (first | (go_at_call 11; refine (toSystem_any x _ _ (Rep.ext (Ext.drew e6) RX.out) B.out).mono ?_; rintro e w7 ⟨cs7, fp7, rfl, hr7, hf7, hx7⟩) | (go_at_call 13; refine (eqSystem_any x x _ _ _ (Rep.ext (Ext.trans (Ext.trans (HX5.out.trans hx6) (Ext.drew (Ext.refl _))) hx7) H4.out.rep) hr7.rep).mono ?_; rintro e w8 ⟨rfl, hx8⟩))
  have x68 := Ext.trans (Ext.trans (Ext.drew (Ext.refl w6)) hx7) hx8
  replace m0 := Ext.cell (x68) m0
  replace m1 := Ext.cell (x68) m1
  replace m2 := Ext.cell (x68) m2
  replace m3 := Ext.cell (x68) m3
  replace m4 := Ext.cell (x68) m4
  replace m5 := Ext.cell (x68) m5
  replace m6 := Ext.cell (x68) m6
  replace m7 := Ext.cell (x68) m7
  replace m8 := Ext.cell (x68) m8
  replace m9 := Ext.cell (x68) m9
  replace m10 := Ext.cell (x68) m10
  replace m11 := Ext.cell (x68) m11
  replace nn0 := Ext.cell (x68) nn0
  replace nn1 := Ext.cell (x68) nn1
  replace nn2 := Ext.cell (x68) nn2
  replace nn3 := Ext.cell (x68) nn3
  replace nn4 := Ext.cell (x68) nn4
  replace nn5 := Ext.cell (x68) nn5
  replace nn6 := Ext.cell (x68) nn6
  replace nn7 := Ext.cell (x68) nn7
  replace nn8 := Ext.cell (x68) nn8
  replace nn9 := Ext.cell (x68) nn9
  replace nn10 := Ext.cell (x68) nn10
  replace nn11 := Ext.cell (x68) nn11
  have e8 := e6.trans x68
  have x58 := hx6.trans x68
  clear KS hx7 hx8 hr7 hf7 x68
  replace zx := lt_of_cell m0
  replace zn := lt_of_cell nn0
  have H4' := Lib.hid (H4.out.ext (HX5.out.trans x58))
  have F4' := Lib.hid (F4.out.ext (HX5.out.trans x58))
  go_wp2_with fail
  refine (markSystem_any x _ fp4 _ 1 w8 H4'.out F4'.out (by omega) HC.out).mono ?_
  rintro e w9 ⟨rfl, -, -, ht9⟩
  have e9 : Ext w w9 := ht9.ext e8 fun b hb => by have := (L4.out b hb).2; have := e3.size; omega
  have G5 : Hid (RepF w9 (strs (selO x k c)) [.slice a5 n5 c5] f5) := Lib.hid ((H5.out.ext x58).touch ht9 fun b hb hb2 => by have := L5.out b hb; have := (L4.out b hb2).1; have := zv4.out; omega)
  have O5 : Hid (∀ b, b ∈ f5 → ∃ C e, Own w9 b e C) := Lib.hid fun b hb => by
    obtain ⟨C, e, hO⟩ := (F5.out.ext x58).own b hb
    exact ⟨C, e, (ht9.block b hO.lt fun hb2 => by have := L5.out b hb; have := (L4.out b hb2).1; have := zv4.out; omega).trans hO⟩
  have G3 : Hid (RepF w9 (strs (selO x k c)) [.slice a3 n3 c3] f3) := Lib.hid ((H3b.out.ext (HX5.out.trans x58)).touch ht9 fun b hb hb2 => by have := (L3.out b hb).1; have := (L4.out b hb2).2; omega)
  have N4m : w.heap.size ∉ fp4 := fun h => by have := (L4.out _ h).2; have := ZX3.out; omega
  have N4n : w4.heap.size ∉ fp4 := fun h => by have := (L4.out _ h).1; omega
  replace m0 := Touch.cellAt ht9 (show _ ∉ _ from N4m) m0
  replace m1 := Touch.cellAt ht9 (show _ ∉ _ from N4m) m1
  replace m2 := Touch.cellAt ht9 (show _ ∉ _ from N4m) m2
  replace m3 := Touch.cellAt ht9 (show _ ∉ _ from N4m) m3
  replace m4 := Touch.cellAt ht9 (show _ ∉ _ from N4m) m4
  replace m5 := Touch.cellAt ht9 (show _ ∉ _ from N4m) m5
  replace m6 := Touch.cellAt ht9 (show _ ∉ _ from N4m) m6
  replace m7 := Touch.cellAt ht9 (show _ ∉ _ from N4m) m7
  replace m8 := Touch.cellAt ht9 (show _ ∉ _ from N4m) m8
  replace m9 := Touch.cellAt ht9 (show _ ∉ _ from N4m) m9
  replace m10 := Touch.cellAt ht9 (show _ ∉ _ from N4m) m10
  replace m11 := Touch.cellAt ht9 (show _ ∉ _ from N4m) m11
  replace nn0 := Touch.cellAt ht9 (show _ ∉ _ from N4n) nn0
  replace nn1 := Touch.cellAt ht9 (show _ ∉ _ from N4n) nn1
  replace nn2 := Touch.cellAt ht9 (show _ ∉ _ from N4n) nn2
  replace nn3 := Touch.cellAt ht9 (show _ ∉ _ from N4n) nn3
  replace nn4 := Touch.cellAt ht9 (show _ ∉ _ from N4n) nn4
  replace nn5 := Touch.cellAt ht9 (show _ ∉ _ from N4n) nn5
  replace nn6 := Touch.cellAt ht9 (show _ ∉ _ from N4n) nn6
  replace nn7 := Touch.cellAt ht9 (show _ ∉ _ from N4n) nn7
  replace nn8 := Touch.cellAt ht9 (show _ ∉ _ from N4n) nn8
  replace nn9 := Touch.cellAt ht9 (show _ ∉ _ from N4n) nn9
  replace nn10 := Touch.cellAt ht9 (show _ ∉ _ from N4n) nn10
  replace nn11 := Touch.cellAt ht9 (show _ ∉ _ from N4n) nn11
  clear ht9 N4m N4n H3b H5 F5 H4' F4' H4 F4
  replace zx := lt_of_cell m0
  replace zn := lt_of_cell nn0
  have p0 : ¬ (1 + (x.d.tcnt : Int) < 0) := by omega
  have HLN : Hid ((1 : Int) + (selO x k c).length ≤ 1099511627776) := Lib.hid (by have := sel_len x k c; omega)
  go_wp2_with fail
  refine (eqStringS_any _ _ _ _ _ G5.out.rep G3.out.rep).mono ?_
  rw [ht]
  rintro e w10 ⟨rfl, hx10⟩
  replace m0 := Ext.cell (hx10) m0
  replace m1 := Ext.cell (hx10) m1
  replace m2 := Ext.cell (hx10) m2
  replace m3 := Ext.cell (hx10) m3
  replace m4 := Ext.cell (hx10) m4
  replace m5 := Ext.cell (hx10) m5
  replace m6 := Ext.cell (hx10) m6
  replace m7 := Ext.cell (hx10) m7
  replace m8 := Ext.cell (hx10) m8
  replace m9 := Ext.cell (hx10) m9
  replace m10 := Ext.cell (hx10) m10
  replace m11 := Ext.cell (hx10) m11
  replace nn0 := Ext.cell (hx10) nn0
  replace nn1 := Ext.cell (hx10) nn1
  replace nn2 := Ext.cell (hx10) nn2
  replace nn3 := Ext.cell (hx10) nn3
  replace nn4 := Ext.cell (hx10) nn4
  replace nn5 := Ext.cell (hx10) nn5
  replace nn6 := Ext.cell (hx10) nn6
  replace nn7 := Ext.cell (hx10) nn7
  replace nn8 := Ext.cell (hx10) nn8
  replace nn9 := Ext.cell (hx10) nn9
  replace nn10 := Ext.cell (hx10) nn10
  replace nn11 := Ext.cell (hx10) nn11
  go_wp2_with fail
  refine (markStringS_any (selO x k c) _ f5 1 w10 (G5.out.ext hx10) (fun b hb => let ⟨C, e, hO⟩ := O5.out b hb; ⟨C, e, hO.ext hx10⟩) (by omega) HLN.out).mono ?_
  rintro e w11 ⟨rfl, hr11, -, ht11⟩
  have e11 : Ext w w11 := ht11.ext (e9.trans hx10) fun b hb => by have := L5.out b hb; have := ev.size; omega
  have D3 : Hid (RepF w11 (strs (selO x k c)) [.slice a3 n3 c3] f3) := Lib.hid ((G3.out.ext hx10).touch ht11 fun b hb hb2 => by have := (L3.out b hb).1; have := L5.out b hb2; have := zv4.out; have := Z34.out; omega)
  have N5m : w.heap.size ∉ f5 := fun h => by have := L5.out _ h; have := ZX4.out; omega
  have N5n : w4.heap.size ∉ f5 := fun h => by have := L5.out _ h; have := zv4.out; omega
  replace m0 := Touch.cellAt ht11 (show _ ∉ _ from N5m) m0
  replace m1 := Touch.cellAt ht11 (show _ ∉ _ from N5m) m1
  replace m2 := Touch.cellAt ht11 (show _ ∉ _ from N5m) m2
  replace m3 := Touch.cellAt ht11 (show _ ∉ _ from N5m) m3
  replace m4 := Touch.cellAt ht11 (show _ ∉ _ from N5m) m4
  replace m5 := Touch.cellAt ht11 (show _ ∉ _ from N5m) m5
  replace m6 := Touch.cellAt ht11 (show _ ∉ _ from N5m) m6
  replace m7 := Touch.cellAt ht11 (show _ ∉ _ from N5m) m7
  replace m8 := Touch.cellAt ht11 (show _ ∉ _ from N5m) m8
  replace m9 := Touch.cellAt ht11 (show _ ∉ _ from N5m) m9
  replace m10 := Touch.cellAt ht11 (show _ ∉ _ from N5m) m10
  replace m11 := Touch.cellAt ht11 (show _ ∉ _ from N5m) m11
  replace nn0 := Touch.cellAt ht11 (show _ ∉ _ from N5n) nn0
  replace nn1 := Touch.cellAt ht11 (show _ ∉ _ from N5n) nn1
  replace nn2 := Touch.cellAt ht11 (show _ ∉ _ from N5n) nn2
  replace nn3 := Touch.cellAt ht11 (show _ ∉ _ from N5n) nn3
  replace nn4 := Touch.cellAt ht11 (show _ ∉ _ from N5n) nn4
  replace nn5 := Touch.cellAt ht11 (show _ ∉ _ from N5n) nn5
  replace nn6 := Touch.cellAt ht11 (show _ ∉ _ from N5n) nn6
  replace nn7 := Touch.cellAt ht11 (show _ ∉ _ from N5n) nn7
  replace nn8 := Touch.cellAt ht11 (show _ ∉ _ from N5n) nn8
  replace nn9 := Touch.cellAt ht11 (show _ ∉ _ from N5n) nn9
  replace nn10 := Touch.cellAt ht11 (show _ ∉ _ from N5n) nn10
  replace nn11 := Touch.cellAt ht11 (show _ ∉ _ from N5n) nn11
  have H11 := Lib.hid hr11.rep
  have hq : ((1 : Int) + ((selO x k c).length : Int) != 1 + (selO x k c).length) = false := by simp
  have hp : ¬ (1 : Int) + ((selO x k c).length : Int) < 0 := by omega
  clear ht11 hr11 N5m N5n G5 G3 O5
  replace zx := lt_of_cell m0
  replace zn := lt_of_cell nn0
  go_wp2_with fail
  refine (heldStringS_any (selO x k c).length _ 1 w11 H11.out (by omega) HLN.out).mono ?_
  rintro e w12 ⟨rfl, hx12⟩
  replace m0 := Ext.cell (hx12) m0
  replace m1 := Ext.cell (hx12) m1
  replace m2 := Ext.cell (hx12) m2
  replace m3 := Ext.cell (hx12) m3
  replace m4 := Ext.cell (hx12) m4
  replace m5 := Ext.cell (hx12) m5
  replace m6 := Ext.cell (hx12) m6
  replace m7 := Ext.cell (hx12) m7
  replace m8 := Ext.cell (hx12) m8
  replace m9 := Ext.cell (hx12) m9
  replace m10 := Ext.cell (hx12) m10
  replace m11 := Ext.cell (hx12) m11
  have e12 := e11.trans hx12
  replace zx := lt_of_cell m0
  clear nn0 nn1 nn2 nn3 nn4 nn5 nn6 nn7 nn8 nn9 nn10 nn11 zn
  go_wp2_with fail
  refine (toSystem_any x _ _ (Rep.ext e12 RX.out) B.out).mono ?_
  rintro e w13 ⟨cs13, fp13, rfl, hr13, hf13, hx13⟩
  have e13 := e12.trans hx13
  go_wp2_with fail
  refine (impl_SelectorsOf_any x _ k c _ hr13.rep (bulk_system B.out) (hM.ext e13)).mono ?_
  rintro e w14 ⟨a14, n14, c14, f14, rfl, hr14, hf14, hx14⟩
  have H14 := Lib.hid hr14.rep
  have X14 := (hx12.trans hx13).trans hx14
  clear hr13 hf13 hr14 hf14 hx12 hx13 hx14
  go_wp2_with fail
  refine (eqStringS_any _ _ _ _ _ H14.out (D3.out.ext X14).rep).mono ?_
  rw [ht]
  rintro e w15 ⟨rfl, hx15⟩
  go_wp2_with fail
  refine (heldStringS_any (selO x k c).length _ 1 w15 (Rep.ext (X14.trans hx15) H11.out) (by omega) HLN.out).mono ?_
  rintro e w16 ⟨rfl, hx16⟩
  go_wp2_with fail
  go_ret
  exact ⟨rfl, e11.trans ((X14.trans hx15).trans hx16)⟩

set_option maxRecDepth 100000 in
theorem fnExactSelectorsOf_lifted (os : Os) (started : os.Started) (H : Type) (enc : TypeId × Value → H) :
    ReturnsInHanded {} Tryz.checked os 7 .any (fun w args => (Rows.fnExactSelectorsOfSpec.pre enc Tryz.prog Tryz.f7 Rows.fnExactSelectorsOfRow.domain false w args ∧ laidMetH Tryz.prog Rows.fnExactSelectorsOfRow.laid w) ∧ sizedMet enc Tryz.prog Tryz.f7 (OpenSpec.ofChange Rows.fnExactSelectorsOfSpec) false w args) (Rows.fnExactSelectorsOfSpec.post enc Tryz.prog Tryz.f7 false true false false) := by
  refine returns_laid (C := Tryz.checked) (X := fun w _ => laidMetH Tryz.prog Rows.fnExactSelectorsOfRow.laid w) (fun _ _ _ hh h => h.of_heap hh) Tryz.own started (by kernel_rfl) Tryz.func7
    (ChangeSpec.witness_shaped (enc := enc) (C := Tryz.checked) (os := os) (X := fun w _ => laidMetH Tryz.prog Rows.fnExactSelectorsOfRow.laid w) false (World.laidAll Tryz.prog os Rows.fnExactSelectorsOfRow.laid) #[.agg #[.slice none 0 0, .slice none 0 0, .string ByteArray.empty, .int .i64 0, .bool false, .int .i64 0, .int .i64 0, .int .i64 0, .string ByteArray.empty, .int .i64 0, .int .i64 0, .slice none 0 0], .int .i64 0, .bool false] 8 (World.laidAll_os _ _ _)
      (World.shaped_of_ZipB (by kernel_rfl) (by kernel_rfl)) (by kernel_rfl) (by kernel_rfl) (by kernel_rfl)
      (by rw [MakeChecks.laidMetH_plain _ _ _ (by kernel_rfl)]; exact laidMet_laidAll _ (by kernel_rfl) (by kernel_rfl))) ?_
  intro W base args ds gs before hval0 hW hL hsh
  have hM := max_ok hsh
  have hval : ∀ (j : Nat) t v, Tryz.f7.params[j]? = some t → args[j]? = some v → Value.okWide Tryz.prog W .any base t v := hval0
  have hW' := hW
  obtain ⟨p, q, hA0, hV, rfl, hfz, hnd⟩ := hW
  have hA : DataW.TrodAll enc Tryz.prog W 0 (fun _ => true) true Tryz.f7.params.toList args.toList ds p := hA0
  rw [Tryz.params7] at hA hval
  obtain ⟨v0, v1, v2, d0, d1, d2, p0, p1, p2, rfl, rfl, rfl, h0, h1, h2⟩ := trodAll_three hA
  obtain ⟨rfl, rfl⟩ := trodVars_none hV
  obtain ⟨c0, rfl, hc0⟩ := okWide_agg Tryz.underlying30 (hval 0 30 v0 rfl rfl)
  obtain ⟨fu0, hh0⟩ := h0
  rw [hc0] at hh0
  obtain ⟨x0, r0, o0⟩ := trod_System hh0
  obtain ⟨x1, rfl, rfl, rfl, o1⟩ := open_int Tryz.underlying3 (hval 1 3 v1 rfl rfl) h1
  obtain ⟨x2, rfl, rfl, rfl⟩ := open_bool Tryz.underlying4 (hval 2 4 v2 rfl rfl) h2
  exact (fnExactSelectorsOf_calls x0 c0 x1 x2 W r0 o0 (bounds_i64 o1) hM).mono fun e W' ⟨he, hb⟩ => ⟨_, he, law_post Tryz.laidOut rfl (by kernel_rfl) rfl Tryz.underlying4 hW' rfl hb⟩

theorem fnExactSelectorsOf_holds : Rows.FnExactSelectorsOfSaid :=
  OpenClaim.holds_of_wide 7 Tryz.f7 rfl rfl rfl rfl rfl rfl rfl ⟨rfl, rfl, rfl, rfl, rfl⟩ rfl rfl rfl rfl rfl (by kernel_rfl) Tryz.func7 (by kernel_rfl)
    (of_decide_eq_true (by kernel_rfl)) (by unfold Func.isWrapper; rw [if_neg (of_decide_eq_false (by kernel_rfl))]; exact ⟨rfl, rfl⟩)
    (fun os started H enc _ => fnExactSelectorsOf_lifted os started H enc)


theorem fnExactSelectorsOf_card : Rows.FnExactSelectorsOfCardSaid :=
  Claim7.holds_tied_plain_at .later [] [.data, .pinned] true (true, "4e8ba00cf27972743f4a415ffe2fdd1de1e5ad4018091dc47328bdf7bdb0fd87") true fnExactSelectorsOf_holds (fun _ h => by cases h) (by kernel_rfl) (fun _ h => by cases h) fnExactSelectorsOf_row_tie rfl ⟨rfl, rfl⟩ (by kernel_rfl) rfl
    (fun f fn hf hfn => by
      obtain rfl : f = 7 := Option.some.inj ((show Tryz.prog.funcNamed "loop.example/g03108/laws.FnExactSelectorsOf" = some 7 by kernel_rfl).symm.trans hf) |>.symm
      obtain rfl : fn = Tryz.f7 := (Option.some.inj (Tryz.func7.symm.trans hfn)).symm
      exact ⟨by kernel_rfl, fun j t ht => by
        rw [Tryz.params7] at ht
        have hm : t ∈ [30, 3, 4] := by
          have h := Array.mem_of_getElem? ht
          simpa using h
        have hall : ([30, 3, 4].all fun u => !Tryz.prog.wantsStandIn u) = true := by kernel_rfl
        exact (show Tryz.prog.wantsStandIn t = false by simpa using List.all_eq_true.1 hall t hm)⟩)
    (by kernel_rfl)

#print axioms fnExactSelectorsOf_card


end Go.Proofs.YtdngmifgglbbpaaGreatDoor
