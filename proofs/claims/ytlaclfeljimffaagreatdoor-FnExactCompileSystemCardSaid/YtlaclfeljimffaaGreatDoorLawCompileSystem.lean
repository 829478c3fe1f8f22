/-
  FnExactCompileSystem: the program's function gives what the reference's gives, for all arguments.
  Conditions: none.
-/
import Derived.Deep.RegionHeld3
import Derived.Test.YtlaclfeljimffaaGreatDoorP07
import Derived.Test.YtlaclfeljimffaaGreatDoorP08
import Derived.Test.YtlaclfeljimffaaGreatDoorP09
import Derived.Test.YtlaclfeljimffaaGreatDoorP11
import Derived.Test.YtlaclfeljimffaaGreatDoorP13
import Derived.Test.YtlaclfeljimffaaGreatDoorP43
namespace Go.Proofs.YtlaclfeljimffaaGreatDoor
open Go.ChangeShapes Go.WideShapes Go.ChangeAt Go.RowKit Go.Joins
open Go.ChangeMaps (open_string)
set_option maxHeartbeats 8000000
set_option maxRecDepth 100000
set_option linter.unusedSimpArgs false
set_option linter.unusedVariables false
theorem cntL_le {n : Nat} : ∀ {l : List D}, (∀ d, d ∈ l -> d.cnt <= n) -> D.cntL l <= n * l.length
 | [], _ => by simp [D.cntL]
 | d :: l, h => by
  have h1 := h d (by simp)
  have h2 := cntL_le (l := l) fun e he => h e (by simp [he])
  simp only [D.cntL, List.length_cons, Nat.mul_add, Nat.mul_one]
  omega
theorem cnt_row {α : Type} {f : α -> D} {sz n : Nat} {l : List α} (h : ∀ a, a ∈ l -> (f a).cnt <= n) : (D.sl sz (l.map f)).cnt <= n * l.length := by
 have := cntL_le (l := l.map f) (n := n) fun d hd => by obtain ⟨a, ha, rfl⟩ := List.mem_map.1 hd; exact h a ha
 simpa [D.cnt] using this
theorem comp_tcnt (x : MSystem) : (compV x).d.tcnt <= 100000000 := by
 by_cases h : SysP x /\ BaseOk (baseF (cmp 40) x)
 · rw [compV_yes h.1 h.2]
   obtain ⟨hs, hb1, hb2⟩ := h
   rw [MCodeBase.tcnt_eq]
   have h1 : (MClassInfos (baseF (cmp 40) x).classes).cnt <= 1000002 * x.classes.length := cnt_row fun c hc => by
    have := hs.clsF.2 c hc
    rw [MClassInfo.cnt_eq]
    simp only [strs, D.cnt, D.cntL_strs]
    omega
   have h2 : (MCodes (baseF (cmp 40) x).codes).cnt <= 3603 * (baseF (cmp 40) x).codes.length := cnt_row fun c hc => by
    have h3 := hb1 c hc
    have h4 : (MInstrs c.instrs).cnt <= 4 * c.instrs.length := cnt_row fun i _ => by rw [MInstr.cnt_eq]; omega
    rw [MCode.cnt_eq]
    omega
   have h3 : (MEntrys (baseF (cmp 40) x).entries).cnt <= 4 * (baseF (cmp 40) x).entries.length := cnt_row fun i _ => by rw [MEntry.cnt_eq]; omega
   have h4 : (baseF (cmp 40) x).entries.length = x.routines.length := by
    have := (routsF_len (cmp_few 40) (l := x.routines) (fun r hr => (hs.rout hr).1) _ (Nat.le_refl _)).2
    rw [List.take_length] at this
    exact this
   have h5 := (clsB_iff.1 hs.1).1.2
   have h6 := hs.2.2.2.1
   omega
 · rw [compV_no h]
   decide
theorem fnExactCompileSystem_calls (x : MSystem) (cx : List Value) (w : World) (rx : Rep w x.d cx) (ox : x.d.ok) (hM : MaxOk w) : Calls Tryz.prog 3 #[.agg cx.toArray] w fun e w' => e = .returned (.bool true) /\ Ext w w' := by
 have RX := LH rx
 obtain ⟨a_x_classes, c_x_classes, a_x_routines, c_x_routines, a_x_main_body_kids, c_x_main_body_kids, rfl, _, _, _, _⟩ := MSystem.op_en rx
 clear rx
 go_enter Tryz.func3, Tryz.ntmps3
 go_upto_region 1 with fail
 generalize hS : World.alloc w _ = wa
 have ywa : Ext w wa := by rw [<- hS]; exact (XR _).alloc _
 have m0 : wa.cell? ⟨w.heap.size, 0, none⟩ = some (.slice a_x_classes x.classes.length c_x_classes) := by rw [<- hS]; simp
 have m1 : wa.cell? ⟨w.heap.size, 1, none⟩ = some (.slice a_x_routines x.routines.length c_x_routines) := by rw [<- hS]; simp
 have m2 : wa.cell? ⟨w.heap.size, 2, none⟩ = some (.string x.main.selector) := by rw [<- hS]; simp
 have m3 : wa.cell? ⟨w.heap.size, 3, none⟩ = some (.int .i64 x.main.owner) := by rw [<- hS]; simp
 have m4 : wa.cell? ⟨w.heap.size, 4, none⟩ = some (.bool x.main.cls) := by rw [<- hS]; simp
 have m5 : wa.cell? ⟨w.heap.size, 5, none⟩ = some (.int .i64 x.main.params) := by rw [<- hS]; simp
 have m6 : wa.cell? ⟨w.heap.size, 6, none⟩ = some (.int .i64 x.main.slots) := by rw [<- hS]; simp
 have m7 : wa.cell? ⟨w.heap.size, 7, none⟩ = some (.int .i64 x.main.body.kind) := by rw [<- hS]; simp
 have m8 : wa.cell? ⟨w.heap.size, 8, none⟩ = some (.string x.main.body.text) := by rw [<- hS]; simp
 have m9 : wa.cell? ⟨w.heap.size, 9, none⟩ = some (.int .i64 x.main.body.number) := by rw [<- hS]; simp
 have m10 : wa.cell? ⟨w.heap.size, 10, none⟩ = some (.int .i64 x.main.body.depth) := by rw [<- hS]; simp
 have m11 : wa.cell? ⟨w.heap.size, 11, none⟩ = some (.slice a_x_main_body_kids x.main.body.kids.length c_x_main_body_kids) := by rw [<- hS]; simp
 clear hS
 go_wp2_with fail
 refine (szSystem_any x _ 1048576 _ (by omega) (by omega) (Rep.ext ywa RX.out) ox).mono ?_
 rintro e w1 ⟨q1, rfl, hq, hx1⟩
 replace m0 := Ext.cell hx1 m0
 replace m1 := Ext.cell hx1 m1
 replace m2 := Ext.cell hx1 m2
 replace m3 := Ext.cell hx1 m3
 replace m4 := Ext.cell hx1 m4
 replace m5 := Ext.cell hx1 m5
 replace m6 := Ext.cell hx1 m6
 replace m7 := Ext.cell hx1 m7
 replace m8 := Ext.cell hx1 m8
 replace m9 := Ext.cell hx1 m9
 replace m10 := Ext.cell hx1 m10
 replace m11 := Ext.cell hx1 m11
 have e1 := ywa.trans hx1
 rcases hq with rfl | ⟨hq1, hqe⟩
 · go_wp2_with fail
   go_ret
   exact ⟨rfl, e1⟩
 have hl1 : q1 <= 1048576 := by omega
 have B : Hid (x.d.bulk <= 1048576) := LH (by omega)
 have HC : Hid ((1 : Int) + x.d.tcnt <= 1099511627776) := LH (by have := MSystem.tcnt_le x; have := B.out; omega)
 clear hqe ywa hx1
 have S : Hid (∀ (W : World) (cs : List Value), Rep W x.d cs -> Calls Tryz.prog 5 #[.agg cs.toArray] W (GivesB W (compV x) (prB (SysP x /\ BaseOk (baseF (cmp 40) x))))) := LH fun W cs h => spec_CompileSystem_any x _ W h (bulk_system B.out)
 have I : Hid (∀ (W : World) (cs : List Value), Rep W x.d cs -> MaxOk W -> Calls Tryz.prog 7 #[.agg cs.toArray] W (GivesB W (compV x) (prB (SysP x /\ BaseOk (baseF (cmp 40) x))))) := LH fun W cs h hm => impl_CompileSystem_any x _ W h (bulk_system B.out) hm
 have HTC : Hid ((1 : Int) + ((compV x).d.tcnt : Int) <= 1099511627776) := LH (by have := comp_tcnt x; omega)
 obtain ⟨y, hy⟩ : ∃ y, compV x = y := ⟨_, rfl⟩
 obtain ⟨kb, hkb⟩ : ∃ b, prB (SysP x /\ BaseOk (baseF (cmp 40) x)) = b := ⟨_, rfl⟩
 rw [hy] at S I HTC
 rw [hkb] at S I
 clear hy hkb
 have hkk : (kb != kb) = false := by cases kb <;> rfl
 have hkk2 : (!kb == kb) = false := by cases kb <;> rfl
 have ht : eqB y y = true := eqB_tt rfl
 have htx : eqB x x = true := eqB_tt rfl
 unfold GivesB at S I
 have hq : ((1 : Int) + (y.d.tcnt : Int) != 1 + y.d.tcnt) = false := by simp
 have hp : ¬ (1 : Int) + (y.d.tcnt : Int) < 0 := by omega
 have p0 : ¬ (1 + (x.d.tcnt : Int) < 0) := by omega
 skip
 have z_m := lt_of_cell m0
 go_wp2_with fail
 refine (toSystem_any x _ _ (Rep.ext e1 RX.out) B.out).mono ?_
 rintro e w2 ⟨cs2, fp2, rfl, hr2, hf2, hx2⟩
 replace m0 := Ext.cell hx2 m0
 replace m1 := Ext.cell hx2 m1
 replace m2 := Ext.cell hx2 m2
 replace m3 := Ext.cell hx2 m3
 replace m4 := Ext.cell hx2 m4
 replace m5 := Ext.cell hx2 m5
 replace m6 := Ext.cell hx2 m6
 replace m7 := Ext.cell hx2 m7
 replace m8 := Ext.cell hx2 m8
 replace m9 := Ext.cell hx2 m9
 replace m10 := Ext.cell hx2 m10
 replace m11 := Ext.cell hx2 m11
 skip
 have z_m := lt_of_cell m0
 go_wp2_with fail
 refine (S.out _ _ hr2.rep).mono ?_
 rintro e w3 ⟨cs3, f3, rfl, hr3, hf3, hx3⟩
 replace m0 := Ext.cell hx3 m0
 replace m1 := Ext.cell hx3 m1
 replace m2 := Ext.cell hx3 m2
 replace m3 := Ext.cell hx3 m3
 replace m4 := Ext.cell hx3 m4
 replace m5 := Ext.cell hx3 m5
 replace m6 := Ext.cell hx3 m6
 replace m7 := Ext.cell hx3 m7
 replace m8 := Ext.cell hx3 m8
 replace m9 := Ext.cell hx3 m9
 replace m10 := Ext.cell hx3 m10
 replace m11 := Ext.cell hx3 m11
 obtain ⟨i0, j0, u0, i1, j1, u1, i2, j2, u2, rfl, -, -, -, -⟩ := MCodeBase.op_f hr3
 have e3 := (e1.trans hx2).trans hx3
 have hz3 : w1.heap.size <= w2.heap.size := hx2.size
 have H3 := LH hr3
 have L3 : Hid (∀ b, b ∈ f3 -> b < w3.heap.size /\ w.heap.size < b) := LH fun b hb => ⟨hf3.lt hb, by have := hf3.ge b hb; omega⟩
 clear hr2 hf2 hr3 hf3 hx2 hx3
 skip
 have z_m := lt_of_cell m0
 go_upto_region 6 with fail
 generalize hS : World.alloc w3 _ = v3
 have yv3 : Ext w3 v3 := by rw [<- hS]; exact (XR _).alloc _
 have p0 : v3.cell? ⟨w3.heap.size, 0, none⟩ = some (.slice i0 y.classes.length j0) := by rw [<- hS]; simp
 have p1 : v3.cell? ⟨w3.heap.size, 1, none⟩ = some (.slice i1 y.codes.length j1) := by rw [<- hS]; simp
 have p2 : v3.cell? ⟨w3.heap.size, 2, none⟩ = some (.slice i2 y.entries.length j2) := by rw [<- hS]; simp
 have p3 : v3.cell? ⟨w3.heap.size, 3, none⟩ = some (.int .i64 y.main) := by rw [<- hS]; simp
 clear hS
 replace m0 := Ext.cell yv3 m0
 replace m1 := Ext.cell yv3 m1
 replace m2 := Ext.cell yv3 m2
 replace m3 := Ext.cell yv3 m3
 replace m4 := Ext.cell yv3 m4
 replace m5 := Ext.cell yv3 m5
 replace m6 := Ext.cell yv3 m6
 replace m7 := Ext.cell yv3 m7
 replace m8 := Ext.cell yv3 m8
 replace m9 := Ext.cell yv3 m9
 replace m10 := Ext.cell yv3 m10
 replace m11 := Ext.cell yv3 m11
 have ev3 := e3.trans yv3
 have H3v := LH (H3.out.ext yv3)
 have zv3 : Hid (w3.heap.size < v3.heap.size) := LH (lt_of_cell p0)
 skip
 have z_m := lt_of_cell m0
 have z_p := lt_of_cell p0
 go_wp2_with fail
 refine (toSystem_any x _ _ (Rep.ext ev3 RX.out) B.out).mono ?_
 rintro e w4 ⟨cs4, fp4, rfl, hr4, hf4, hx4⟩
 replace m0 := Ext.cell hx4 m0
 replace m1 := Ext.cell hx4 m1
 replace m2 := Ext.cell hx4 m2
 replace m3 := Ext.cell hx4 m3
 replace m4 := Ext.cell hx4 m4
 replace m5 := Ext.cell hx4 m5
 replace m6 := Ext.cell hx4 m6
 replace m7 := Ext.cell hx4 m7
 replace m8 := Ext.cell hx4 m8
 replace m9 := Ext.cell hx4 m9
 replace m10 := Ext.cell hx4 m10
 replace m11 := Ext.cell hx4 m11
 replace p0 := Ext.cell hx4 p0
 replace p1 := Ext.cell hx4 p1
 replace p2 := Ext.cell hx4 p2
 replace p3 := Ext.cell hx4 p3
 obtain ⟨n_x_classes, d_x_classes, n_x_routines, d_x_routines, n_x_main_body_kids, d_x_main_body_kids, rfl, _, _, _, _⟩ := MSystem.op_en hr4.rep
 have e4 := ev3.trans hx4
 go_upto_region 7 with fail
 generalize hS : World.alloc w4 _ = v4
 have yv4 : Ext w4 v4 := by rw [<- hS]; exact (XR _).alloc _
 have nn0 : v4.cell? ⟨w4.heap.size, 0, none⟩ = some (.slice n_x_classes x.classes.length d_x_classes) := by rw [<- hS]; simp
 have nn1 : v4.cell? ⟨w4.heap.size, 1, none⟩ = some (.slice n_x_routines x.routines.length d_x_routines) := by rw [<- hS]; simp
 have nn2 : v4.cell? ⟨w4.heap.size, 2, none⟩ = some (.string x.main.selector) := by rw [<- hS]; simp
 have nn3 : v4.cell? ⟨w4.heap.size, 3, none⟩ = some (.int .i64 x.main.owner) := by rw [<- hS]; simp
 have nn4 : v4.cell? ⟨w4.heap.size, 4, none⟩ = some (.bool x.main.cls) := by rw [<- hS]; simp
 have nn5 : v4.cell? ⟨w4.heap.size, 5, none⟩ = some (.int .i64 x.main.params) := by rw [<- hS]; simp
 have nn6 : v4.cell? ⟨w4.heap.size, 6, none⟩ = some (.int .i64 x.main.slots) := by rw [<- hS]; simp
 have nn7 : v4.cell? ⟨w4.heap.size, 7, none⟩ = some (.int .i64 x.main.body.kind) := by rw [<- hS]; simp
 have nn8 : v4.cell? ⟨w4.heap.size, 8, none⟩ = some (.string x.main.body.text) := by rw [<- hS]; simp
 have nn9 : v4.cell? ⟨w4.heap.size, 9, none⟩ = some (.int .i64 x.main.body.number) := by rw [<- hS]; simp
 have nn10 : v4.cell? ⟨w4.heap.size, 10, none⟩ = some (.int .i64 x.main.body.depth) := by rw [<- hS]; simp
 have nn11 : v4.cell? ⟨w4.heap.size, 11, none⟩ = some (.slice n_x_main_body_kids x.main.body.kids.length d_x_main_body_kids) := by rw [<- hS]; simp
 clear hS
 replace m0 := Ext.cell yv4 m0
 replace m1 := Ext.cell yv4 m1
 replace m2 := Ext.cell yv4 m2
 replace m3 := Ext.cell yv4 m3
 replace m4 := Ext.cell yv4 m4
 replace m5 := Ext.cell yv4 m5
 replace m6 := Ext.cell yv4 m6
 replace m7 := Ext.cell yv4 m7
 replace m8 := Ext.cell yv4 m8
 replace m9 := Ext.cell yv4 m9
 replace m10 := Ext.cell yv4 m10
 replace m11 := Ext.cell yv4 m11
 replace p0 := Ext.cell yv4 p0
 replace p1 := Ext.cell yv4 p1
 replace p2 := Ext.cell yv4 p2
 replace p3 := Ext.cell yv4 p3
 have zv4 : Hid (w4.heap.size < v4.heap.size) := LH (lt_of_cell nn0)
 have H4 := LH (hr4.ext yv4)
 have F4 := LH (hf4.ext yv4)
 have L4 : Hid (∀ b, b ∈ fp4 -> b < w4.heap.size /\ v3.heap.size <= b) := LH fun b hb => ⟨hf4.lt hb, hf4.ge b hb⟩
 have ev := e4.trans yv4
 have H3b := LH (H3v.out.ext (hx4.trans yv4))
 have Z34 : Hid (v3.heap.size <= w4.heap.size) := LH hx4.size
 clear hr4 hf4 H3 H3v yv4 hx4
 skip
 have z_m := lt_of_cell m0
 have z_p := lt_of_cell p0
 have z_nn := lt_of_cell nn0
 go_wp2_with fail
 refine (I.out _ _ H4.out.rep (hM.ext ev)).mono ?_
 rintro e w5 ⟨cs5, f5, rfl, hr5, hf5, hx5⟩
 replace m0 := Ext.cell hx5 m0
 replace m1 := Ext.cell hx5 m1
 replace m2 := Ext.cell hx5 m2
 replace m3 := Ext.cell hx5 m3
 replace m4 := Ext.cell hx5 m4
 replace m5 := Ext.cell hx5 m5
 replace m6 := Ext.cell hx5 m6
 replace m7 := Ext.cell hx5 m7
 replace m8 := Ext.cell hx5 m8
 replace m9 := Ext.cell hx5 m9
 replace m10 := Ext.cell hx5 m10
 replace m11 := Ext.cell hx5 m11
 replace p0 := Ext.cell hx5 p0
 replace p1 := Ext.cell hx5 p1
 replace p2 := Ext.cell hx5 p2
 replace p3 := Ext.cell hx5 p3
 replace nn0 := Ext.cell hx5 nn0
 replace nn1 := Ext.cell hx5 nn1
 replace nn2 := Ext.cell hx5 nn2
 replace nn3 := Ext.cell hx5 nn3
 replace nn4 := Ext.cell hx5 nn4
 replace nn5 := Ext.cell hx5 nn5
 replace nn6 := Ext.cell hx5 nn6
 replace nn7 := Ext.cell hx5 nn7
 replace nn8 := Ext.cell hx5 nn8
 replace nn9 := Ext.cell hx5 nn9
 replace nn10 := Ext.cell hx5 nn10
 replace nn11 := Ext.cell hx5 nn11
 obtain ⟨k0, l0, u5_0, k1, l1, u5_1, k2, l2, u5_2, rfl, -, -, -, -⟩ := MCodeBase.op_f hr5
 have e5 := ev.trans hx5
 have L5 : Hid (∀ b, b ∈ f5 -> v4.heap.size <= b /\ b < w5.heap.size) := LH fun b hb => ⟨hf5.ge b hb, hf5.lt hb⟩
 have Z45 : Hid (v4.heap.size <= w5.heap.size) := LH hx5.size
 skip
 have z_m := lt_of_cell m0
 have z_p := lt_of_cell p0
 have z_nn := lt_of_cell nn0
 go_upto_region 8 with fail
 generalize hS : World.alloc w5 _ = v5
 have yv5 : Ext w5 v5 := by rw [<- hS]; exact (XR _).alloc _
 have g0 : v5.cell? ⟨w5.heap.size, 0, none⟩ = some (.slice k0 y.classes.length l0) := by rw [<- hS]; simp
 have g1 : v5.cell? ⟨w5.heap.size, 1, none⟩ = some (.slice k1 y.codes.length l1) := by rw [<- hS]; simp
 have g2 : v5.cell? ⟨w5.heap.size, 2, none⟩ = some (.slice k2 y.entries.length l2) := by rw [<- hS]; simp
 have g3 : v5.cell? ⟨w5.heap.size, 3, none⟩ = some (.int .i64 y.main) := by rw [<- hS]; simp
 clear hS
 replace m0 := Ext.cell yv5 m0
 replace m1 := Ext.cell yv5 m1
 replace m2 := Ext.cell yv5 m2
 replace m3 := Ext.cell yv5 m3
 replace m4 := Ext.cell yv5 m4
 replace m5 := Ext.cell yv5 m5
 replace m6 := Ext.cell yv5 m6
 replace m7 := Ext.cell yv5 m7
 replace m8 := Ext.cell yv5 m8
 replace m9 := Ext.cell yv5 m9
 replace m10 := Ext.cell yv5 m10
 replace m11 := Ext.cell yv5 m11
 replace p0 := Ext.cell yv5 p0
 replace p1 := Ext.cell yv5 p1
 replace p2 := Ext.cell yv5 p2
 replace p3 := Ext.cell yv5 p3
 replace nn0 := Ext.cell yv5 nn0
 replace nn1 := Ext.cell yv5 nn1
 replace nn2 := Ext.cell yv5 nn2
 replace nn3 := Ext.cell yv5 nn3
 replace nn4 := Ext.cell yv5 nn4
 replace nn5 := Ext.cell yv5 nn5
 replace nn6 := Ext.cell yv5 nn6
 replace nn7 := Ext.cell yv5 nn7
 replace nn8 := Ext.cell yv5 nn8
 replace nn9 := Ext.cell yv5 nn9
 replace nn10 := Ext.cell yv5 nn10
 replace nn11 := Ext.cell yv5 nn11
 have ev5 := e5.trans yv5
 have H5 := LH (hr5.ext yv5)
 have F5 := LH (hf5.ext yv5)
 have X5 := LH (hx5.trans yv5)
 clear hr5 hf5 hx5 yv5
 skip
 have z_m := lt_of_cell m0
 have z_p := lt_of_cell p0
 have z_nn := lt_of_cell nn0
 have z_g := lt_of_cell g0
 go_wp2_with fail
 refine (eqCodeBase_any y y _ _ _ H5.out.rep (Rep.ext X5.out H3b.out.rep)).mono ?_
 rw [ht]
 rintro e w6 ⟨rfl, hx6⟩
 replace m0 := Ext.cell hx6 m0
 replace m1 := Ext.cell hx6 m1
 replace m2 := Ext.cell hx6 m2
 replace m3 := Ext.cell hx6 m3
 replace m4 := Ext.cell hx6 m4
 replace m5 := Ext.cell hx6 m5
 replace m6 := Ext.cell hx6 m6
 replace m7 := Ext.cell hx6 m7
 replace m8 := Ext.cell hx6 m8
 replace m9 := Ext.cell hx6 m9
 replace m10 := Ext.cell hx6 m10
 replace m11 := Ext.cell hx6 m11
 replace p0 := Ext.cell hx6 p0
 replace p1 := Ext.cell hx6 p1
 replace p2 := Ext.cell hx6 p2
 replace p3 := Ext.cell hx6 p3
 replace nn0 := Ext.cell hx6 nn0
 replace nn1 := Ext.cell hx6 nn1
 replace nn2 := Ext.cell hx6 nn2
 replace nn3 := Ext.cell hx6 nn3
 replace nn4 := Ext.cell hx6 nn4
 replace nn5 := Ext.cell hx6 nn5
 replace nn6 := Ext.cell hx6 nn6
 replace nn7 := Ext.cell hx6 nn7
 replace nn8 := Ext.cell hx6 nn8
 replace nn9 := Ext.cell hx6 nn9
 replace nn10 := Ext.cell hx6 nn10
 replace nn11 := Ext.cell hx6 nn11
 replace g0 := Ext.cell hx6 g0
 replace g1 := Ext.cell hx6 g1
 replace g2 := Ext.cell hx6 g2
 replace g3 := Ext.cell hx6 g3
 have e6 := ev5.trans hx6
 skip
 have z_m := lt_of_cell m0
 have z_p := lt_of_cell p0
 have z_nn := lt_of_cell nn0
 have z_g := lt_of_cell g0
 go_wp2_with fail
 have KS : Hid (∀ w', Ext w6 w' -> w'.cell? ⟨w.heap.size, 0, none⟩ = some (.slice a_x_classes x.classes.length c_x_classes) /\ w'.cell? ⟨w.heap.size, 1, none⟩ = some (.slice a_x_routines x.routines.length c_x_routines) /\ w'.cell? ⟨w.heap.size, 2, none⟩ = some (.string x.main.selector) /\ w'.cell? ⟨w.heap.size, 3, none⟩ = some (.int .i64 x.main.owner) /\ w'.cell? ⟨w.heap.size, 4, none⟩ = some (.bool x.main.cls) /\ w'.cell? ⟨w.heap.size, 5, none⟩ = some (.int .i64 x.main.params) /\ w'.cell? ⟨w.heap.size, 6, none⟩ = some (.int .i64 x.main.slots) /\ w'.cell? ⟨w.heap.size, 7, none⟩ = some (.int .i64 x.main.body.kind) /\ w'.cell? ⟨w.heap.size, 8, none⟩ = some (.string x.main.body.text) /\ w'.cell? ⟨w.heap.size, 9, none⟩ = some (.int .i64 x.main.body.number) /\ w'.cell? ⟨w.heap.size, 10, none⟩ = some (.int .i64 x.main.body.depth) /\ w'.cell? ⟨w.heap.size, 11, none⟩ = some (.slice a_x_main_body_kids x.main.body.kids.length c_x_main_body_kids) /\ w'.cell? ⟨w4.heap.size, 0, none⟩ = some (.slice n_x_classes x.classes.length d_x_classes) /\ w'.cell? ⟨w4.heap.size, 1, none⟩ = some (.slice n_x_routines x.routines.length d_x_routines) /\ w'.cell? ⟨w4.heap.size, 2, none⟩ = some (.string x.main.selector) /\ w'.cell? ⟨w4.heap.size, 3, none⟩ = some (.int .i64 x.main.owner) /\ w'.cell? ⟨w4.heap.size, 4, none⟩ = some (.bool x.main.cls) /\ w'.cell? ⟨w4.heap.size, 5, none⟩ = some (.int .i64 x.main.params) /\ w'.cell? ⟨w4.heap.size, 6, none⟩ = some (.int .i64 x.main.slots) /\ w'.cell? ⟨w4.heap.size, 7, none⟩ = some (.int .i64 x.main.body.kind) /\ w'.cell? ⟨w4.heap.size, 8, none⟩ = some (.string x.main.body.text) /\ w'.cell? ⟨w4.heap.size, 9, none⟩ = some (.int .i64 x.main.body.number) /\ w'.cell? ⟨w4.heap.size, 10, none⟩ = some (.int .i64 x.main.body.depth) /\ w'.cell? ⟨w4.heap.size, 11, none⟩ = some (.slice n_x_main_body_kids x.main.body.kids.length d_x_main_body_kids) /\ Ext w6 w') := LH fun w' h => ⟨Ext.cell h m0, Ext.cell h m1, Ext.cell h m2, Ext.cell h m3, Ext.cell h m4, Ext.cell h m5, Ext.cell h m6, Ext.cell h m7, Ext.cell h m8, Ext.cell h m9, Ext.cell h m10, Ext.cell h m11, Ext.cell h nn0, Ext.cell h nn1, Ext.cell h nn2, Ext.cell h nn3, Ext.cell h nn4, Ext.cell h nn5, Ext.cell h nn6, Ext.cell h nn7, Ext.cell h nn8, Ext.cell h nn9, Ext.cell h nn10, Ext.cell h nn11, h⟩
 go_region_held3 (fun w' => w'.cell? ⟨w.heap.size, 0, none⟩ = some (.slice a_x_classes x.classes.length c_x_classes) /\ w'.cell? ⟨w.heap.size, 1, none⟩ = some (.slice a_x_routines x.routines.length c_x_routines) /\ w'.cell? ⟨w.heap.size, 2, none⟩ = some (.string x.main.selector) /\ w'.cell? ⟨w.heap.size, 3, none⟩ = some (.int .i64 x.main.owner) /\ w'.cell? ⟨w.heap.size, 4, none⟩ = some (.bool x.main.cls) /\ w'.cell? ⟨w.heap.size, 5, none⟩ = some (.int .i64 x.main.params) /\ w'.cell? ⟨w.heap.size, 6, none⟩ = some (.int .i64 x.main.slots) /\ w'.cell? ⟨w.heap.size, 7, none⟩ = some (.int .i64 x.main.body.kind) /\ w'.cell? ⟨w.heap.size, 8, none⟩ = some (.string x.main.body.text) /\ w'.cell? ⟨w.heap.size, 9, none⟩ = some (.int .i64 x.main.body.number) /\ w'.cell? ⟨w.heap.size, 10, none⟩ = some (.int .i64 x.main.body.depth) /\ w'.cell? ⟨w.heap.size, 11, none⟩ = some (.slice a_x_main_body_kids x.main.body.kids.length c_x_main_body_kids) /\ w'.cell? ⟨w4.heap.size, 0, none⟩ = some (.slice n_x_classes x.classes.length d_x_classes) /\ w'.cell? ⟨w4.heap.size, 1, none⟩ = some (.slice n_x_routines x.routines.length d_x_routines) /\ w'.cell? ⟨w4.heap.size, 2, none⟩ = some (.string x.main.selector) /\ w'.cell? ⟨w4.heap.size, 3, none⟩ = some (.int .i64 x.main.owner) /\ w'.cell? ⟨w4.heap.size, 4, none⟩ = some (.bool x.main.cls) /\ w'.cell? ⟨w4.heap.size, 5, none⟩ = some (.int .i64 x.main.params) /\ w'.cell? ⟨w4.heap.size, 6, none⟩ = some (.int .i64 x.main.slots) /\ w'.cell? ⟨w4.heap.size, 7, none⟩ = some (.int .i64 x.main.body.kind) /\ w'.cell? ⟨w4.heap.size, 8, none⟩ = some (.string x.main.body.text) /\ w'.cell? ⟨w4.heap.size, 9, none⟩ = some (.int .i64 x.main.body.number) /\ w'.cell? ⟨w4.heap.size, 10, none⟩ = some (.int .i64 x.main.body.depth) /\ w'.cell? ⟨w4.heap.size, 11, none⟩ = some (.slice n_x_main_body_kids x.main.body.kids.length d_x_main_body_kids) /\ Ext w6 w')
  (first | exact KS.out _ (Ext.drew (XR _)) | exact KS.out _ (Ext.trans (Ext.trans (Ext.drew (XR _)) hx7) hx8) | exact KS.out _ (Ext.trans (Ext.drew (XR _)) hx7))
  (first | (go_at_call 6; refine (toSystem_any x _ _ (Rep.ext (Ext.drew e6) RX.out) B.out).mono ?_; rintro e w7 ⟨cs7, fp7, rfl, hr7, hf7, hx7⟩) | (go_at_call 9; refine (eqSystem_any x x _ _ _ (Rep.ext (Ext.trans (Ext.trans (X5.out.trans hx6) (Ext.drew (XR _))) hx7) H4.out.rep) hr7.rep).mono ?_; rintro e w8 ⟨rfl, hx8⟩))
 have x68 := Ext.trans (Ext.trans (Ext.drew (XR w6)) hx7) hx8
 replace m0 := Ext.cell x68 m0
 replace m1 := Ext.cell x68 m1
 replace m2 := Ext.cell x68 m2
 replace m3 := Ext.cell x68 m3
 replace m4 := Ext.cell x68 m4
 replace m5 := Ext.cell x68 m5
 replace m6 := Ext.cell x68 m6
 replace m7 := Ext.cell x68 m7
 replace m8 := Ext.cell x68 m8
 replace m9 := Ext.cell x68 m9
 replace m10 := Ext.cell x68 m10
 replace m11 := Ext.cell x68 m11
 replace p0 := Ext.cell x68 p0
 replace p1 := Ext.cell x68 p1
 replace p2 := Ext.cell x68 p2
 replace p3 := Ext.cell x68 p3
 replace nn0 := Ext.cell x68 nn0
 replace nn1 := Ext.cell x68 nn1
 replace nn2 := Ext.cell x68 nn2
 replace nn3 := Ext.cell x68 nn3
 replace nn4 := Ext.cell x68 nn4
 replace nn5 := Ext.cell x68 nn5
 replace nn6 := Ext.cell x68 nn6
 replace nn7 := Ext.cell x68 nn7
 replace nn8 := Ext.cell x68 nn8
 replace nn9 := Ext.cell x68 nn9
 replace nn10 := Ext.cell x68 nn10
 replace nn11 := Ext.cell x68 nn11
 replace g0 := Ext.cell x68 g0
 replace g1 := Ext.cell x68 g1
 replace g2 := Ext.cell x68 g2
 replace g3 := Ext.cell x68 g3
 have e8 := e6.trans x68
 have x58 := hx6.trans x68
 clear KS hx7 hx8 hr7 hf7 x68
 have H4' := LH (H4.out.ext (X5.out.trans x58))
 have F4' := LH (F4.out.ext (X5.out.trans x58))
 skip
 have z_m := lt_of_cell m0
 have z_p := lt_of_cell p0
 have z_nn := lt_of_cell nn0
 have z_g := lt_of_cell g0
 go_wp2_with fail
 refine (markSystem_any x _ fp4 _ 1 w8 H4'.out F4'.out (by omega) HC.out).mono ?_
 rintro e w9 ⟨rfl, -, -, ht9⟩
 have e9 : Ext w w9 := ht9.ext e8 fun b hb => by have := (L4.out b hb).2; have := ev3.size; omega
 have G5 : Hid (RepF w9 y.d _ f5) := LH ((H5.out.ext x58).touch ht9 fun b hb hb2 => by have := (L5.out b hb).1; have := (L4.out b hb2).1; have := zv4.out; omega)
 have FG5 : Hid (Fresh w9 _ f5) := LH ((F5.out.ext x58).touch ht9 fun b hb hb2 => by have := (L5.out b hb).1; have := (L4.out b hb2).1; have := zv4.out; omega)
 have G3 : Hid (RepF w9 y.d _ f3) := LH ((H3b.out.ext (X5.out.trans x58)).touch ht9 fun b hb hb2 => by have := (L3.out b hb).1; have := (L4.out b hb2).2; have := zv3.out; omega)
 have N4m : w.heap.size ∉ fp4 := fun h => by have := (L4.out _ h).2; have := zv3.out; have := e3.size; omega
 have N4p : w3.heap.size ∉ fp4 := fun h => by have := (L4.out _ h).2; have := zv3.out; omega
 have N4n : w4.heap.size ∉ fp4 := fun h => by have := (L4.out _ h).1; omega
 have N4g : w5.heap.size ∉ fp4 := fun h => by have := (L4.out _ h).1; have := zv4.out; have := Z45.out; omega
 replace m0 := Touch.cellAt ht9 (show _ ∉ _ from N4m) m0
 replace m1 := Touch.cellAt ht9 (show _ ∉ _ from N4m) m1
 replace m2 := Touch.cellAt ht9 (show _ ∉ _ from N4m) m2
 replace m3 := Touch.cellAt ht9 (show _ ∉ _ from N4m) m3
 replace m4 := Touch.cellAt ht9 (show _ ∉ _ from N4m) m4
 replace m5 := Touch.cellAt ht9 (show _ ∉ _ from N4m) m5
 replace m6 := Touch.cellAt ht9 (show _ ∉ _ from N4m) m6
 replace m7 := Touch.cellAt ht9 (show _ ∉ _ from N4m) m7
 replace m8 := Touch.cellAt ht9 (show _ ∉ _ from N4m) m8
 replace m9 := Touch.cellAt ht9 (show _ ∉ _ from N4m) m9
 replace m10 := Touch.cellAt ht9 (show _ ∉ _ from N4m) m10
 replace m11 := Touch.cellAt ht9 (show _ ∉ _ from N4m) m11
 replace p0 := Touch.cellAt ht9 (show _ ∉ _ from N4p) p0
 replace p1 := Touch.cellAt ht9 (show _ ∉ _ from N4p) p1
 replace p2 := Touch.cellAt ht9 (show _ ∉ _ from N4p) p2
 replace p3 := Touch.cellAt ht9 (show _ ∉ _ from N4p) p3
 replace nn0 := Touch.cellAt ht9 (show _ ∉ _ from N4n) nn0
 replace nn1 := Touch.cellAt ht9 (show _ ∉ _ from N4n) nn1
 replace nn2 := Touch.cellAt ht9 (show _ ∉ _ from N4n) nn2
 replace nn3 := Touch.cellAt ht9 (show _ ∉ _ from N4n) nn3
 replace nn4 := Touch.cellAt ht9 (show _ ∉ _ from N4n) nn4
 replace nn5 := Touch.cellAt ht9 (show _ ∉ _ from N4n) nn5
 replace nn6 := Touch.cellAt ht9 (show _ ∉ _ from N4n) nn6
 replace nn7 := Touch.cellAt ht9 (show _ ∉ _ from N4n) nn7
 replace nn8 := Touch.cellAt ht9 (show _ ∉ _ from N4n) nn8
 replace nn9 := Touch.cellAt ht9 (show _ ∉ _ from N4n) nn9
 replace nn10 := Touch.cellAt ht9 (show _ ∉ _ from N4n) nn10
 replace nn11 := Touch.cellAt ht9 (show _ ∉ _ from N4n) nn11
 replace g0 := Touch.cellAt ht9 (show _ ∉ _ from N4g) g0
 replace g1 := Touch.cellAt ht9 (show _ ∉ _ from N4g) g1
 replace g2 := Touch.cellAt ht9 (show _ ∉ _ from N4g) g2
 replace g3 := Touch.cellAt ht9 (show _ ∉ _ from N4g) g3
 clear ht9 N4m N4n N4p N4g H3b H5 F5 H4' F4' H4 F4
 skip
 have z_m := lt_of_cell m0
 have z_p := lt_of_cell p0
 have z_nn := lt_of_cell nn0
 have z_g := lt_of_cell g0
 go_wp2_with fail
 refine (eqCodeBase_any y y _ _ _ G5.out.rep G3.out.rep).mono ?_
 rw [ht]
 rintro e w10 ⟨rfl, hx10⟩
 replace m0 := Ext.cell hx10 m0
 replace m1 := Ext.cell hx10 m1
 replace m2 := Ext.cell hx10 m2
 replace m3 := Ext.cell hx10 m3
 replace m4 := Ext.cell hx10 m4
 replace m5 := Ext.cell hx10 m5
 replace m6 := Ext.cell hx10 m6
 replace m7 := Ext.cell hx10 m7
 replace m8 := Ext.cell hx10 m8
 replace m9 := Ext.cell hx10 m9
 replace m10 := Ext.cell hx10 m10
 replace m11 := Ext.cell hx10 m11
 replace p0 := Ext.cell hx10 p0
 replace p1 := Ext.cell hx10 p1
 replace p2 := Ext.cell hx10 p2
 replace p3 := Ext.cell hx10 p3
 replace nn0 := Ext.cell hx10 nn0
 replace nn1 := Ext.cell hx10 nn1
 replace nn2 := Ext.cell hx10 nn2
 replace nn3 := Ext.cell hx10 nn3
 replace nn4 := Ext.cell hx10 nn4
 replace nn5 := Ext.cell hx10 nn5
 replace nn6 := Ext.cell hx10 nn6
 replace nn7 := Ext.cell hx10 nn7
 replace nn8 := Ext.cell hx10 nn8
 replace nn9 := Ext.cell hx10 nn9
 replace nn10 := Ext.cell hx10 nn10
 replace nn11 := Ext.cell hx10 nn11
 replace g0 := Ext.cell hx10 g0
 replace g1 := Ext.cell hx10 g1
 replace g2 := Ext.cell hx10 g2
 replace g3 := Ext.cell hx10 g3
 skip
 have z_m := lt_of_cell m0
 have z_p := lt_of_cell p0
 have z_nn := lt_of_cell nn0
 have z_g := lt_of_cell g0
 go_wp2_with fail
 refine (markCodeBase_any y _ f5 _ 1 w10 (G5.out.ext hx10) (FG5.out.ext hx10) (by omega) HTC.out).mono ?_
 rintro e w11 ⟨rfl, hr11, -, ht11⟩
 have e11 : Ext w w11 := ht11.ext (e9.trans hx10) fun b hb => by have := (L5.out b hb).1; have := ev.size; omega
 have D3 : Hid (RepF w11 y.d _ f3) := LH ((G3.out.ext hx10).touch ht11 fun b hb hb2 => by have := (L3.out b hb).1; have := (L5.out b hb2).1; have := zv3.out; have := zv4.out; have := Z34.out; omega)
 have N5m : w.heap.size ∉ f5 := fun h => by have := (L5.out _ h).1; have := zv4.out; have := e4.size; omega
 have N5p : w3.heap.size ∉ f5 := fun h => by have := (L5.out _ h).1; have := zv3.out; have := zv4.out; have := Z34.out; omega
 have N5n : w4.heap.size ∉ f5 := fun h => by have := (L5.out _ h).1; have := zv4.out; omega
 have N5g : w5.heap.size ∉ f5 := fun h => by have := (L5.out _ h).2; omega
 replace m0 := Touch.cellAt ht11 (show _ ∉ _ from N5m) m0
 replace m1 := Touch.cellAt ht11 (show _ ∉ _ from N5m) m1
 replace m2 := Touch.cellAt ht11 (show _ ∉ _ from N5m) m2
 replace m3 := Touch.cellAt ht11 (show _ ∉ _ from N5m) m3
 replace m4 := Touch.cellAt ht11 (show _ ∉ _ from N5m) m4
 replace m5 := Touch.cellAt ht11 (show _ ∉ _ from N5m) m5
 replace m6 := Touch.cellAt ht11 (show _ ∉ _ from N5m) m6
 replace m7 := Touch.cellAt ht11 (show _ ∉ _ from N5m) m7
 replace m8 := Touch.cellAt ht11 (show _ ∉ _ from N5m) m8
 replace m9 := Touch.cellAt ht11 (show _ ∉ _ from N5m) m9
 replace m10 := Touch.cellAt ht11 (show _ ∉ _ from N5m) m10
 replace m11 := Touch.cellAt ht11 (show _ ∉ _ from N5m) m11
 replace p0 := Touch.cellAt ht11 (show _ ∉ _ from N5p) p0
 replace p1 := Touch.cellAt ht11 (show _ ∉ _ from N5p) p1
 replace p2 := Touch.cellAt ht11 (show _ ∉ _ from N5p) p2
 replace p3 := Touch.cellAt ht11 (show _ ∉ _ from N5p) p3
 replace nn0 := Touch.cellAt ht11 (show _ ∉ _ from N5n) nn0
 replace nn1 := Touch.cellAt ht11 (show _ ∉ _ from N5n) nn1
 replace nn2 := Touch.cellAt ht11 (show _ ∉ _ from N5n) nn2
 replace nn3 := Touch.cellAt ht11 (show _ ∉ _ from N5n) nn3
 replace nn4 := Touch.cellAt ht11 (show _ ∉ _ from N5n) nn4
 replace nn5 := Touch.cellAt ht11 (show _ ∉ _ from N5n) nn5
 replace nn6 := Touch.cellAt ht11 (show _ ∉ _ from N5n) nn6
 replace nn7 := Touch.cellAt ht11 (show _ ∉ _ from N5n) nn7
 replace nn8 := Touch.cellAt ht11 (show _ ∉ _ from N5n) nn8
 replace nn9 := Touch.cellAt ht11 (show _ ∉ _ from N5n) nn9
 replace nn10 := Touch.cellAt ht11 (show _ ∉ _ from N5n) nn10
 replace nn11 := Touch.cellAt ht11 (show _ ∉ _ from N5n) nn11
 replace g0 := Touch.cellAt ht11 (show _ ∉ _ from N5g) g0
 replace g1 := Touch.cellAt ht11 (show _ ∉ _ from N5g) g1
 replace g2 := Touch.cellAt ht11 (show _ ∉ _ from N5g) g2
 replace g3 := Touch.cellAt ht11 (show _ ∉ _ from N5g) g3
 have D5 := LH hr11.rep
 clear ht11 hr11 N5m N5n N5p N5g G5 G3 FG5
 clear nn0 nn1 nn2 nn3 nn4 nn5 nn6 nn7 nn8 nn9 nn10 nn11
 skip
 have z_m := lt_of_cell m0
 have z_p := lt_of_cell p0
 have z_g := lt_of_cell g0
 go_wp2_with fail
 refine (heldCodeBase_any y _ 1 w11 D5.out (by omega) HTC.out).mono ?_
 rintro e w12 ⟨rfl, hx12⟩
 replace m0 := Ext.cell hx12 m0
 replace m1 := Ext.cell hx12 m1
 replace m2 := Ext.cell hx12 m2
 replace m3 := Ext.cell hx12 m3
 replace m4 := Ext.cell hx12 m4
 replace m5 := Ext.cell hx12 m5
 replace m6 := Ext.cell hx12 m6
 replace m7 := Ext.cell hx12 m7
 replace m8 := Ext.cell hx12 m8
 replace m9 := Ext.cell hx12 m9
 replace m10 := Ext.cell hx12 m10
 replace m11 := Ext.cell hx12 m11
 replace p0 := Ext.cell hx12 p0
 replace p1 := Ext.cell hx12 p1
 replace p2 := Ext.cell hx12 p2
 replace p3 := Ext.cell hx12 p3
 replace g0 := Ext.cell hx12 g0
 replace g1 := Ext.cell hx12 g1
 replace g2 := Ext.cell hx12 g2
 replace g3 := Ext.cell hx12 g3
 have e12 := e11.trans hx12
 skip
 have z_m := lt_of_cell m0
 have z_p := lt_of_cell p0
 have z_g := lt_of_cell g0
 go_wp2_with fail
 refine (toSystem_any x _ _ (Rep.ext e12 RX.out) B.out).mono ?_
 rintro e w13 ⟨cs13, fp13, rfl, hr13, hf13, hx13⟩
 replace m0 := Ext.cell hx13 m0
 replace m1 := Ext.cell hx13 m1
 replace m2 := Ext.cell hx13 m2
 replace m3 := Ext.cell hx13 m3
 replace m4 := Ext.cell hx13 m4
 replace m5 := Ext.cell hx13 m5
 replace m6 := Ext.cell hx13 m6
 replace m7 := Ext.cell hx13 m7
 replace m8 := Ext.cell hx13 m8
 replace m9 := Ext.cell hx13 m9
 replace m10 := Ext.cell hx13 m10
 replace m11 := Ext.cell hx13 m11
 replace p0 := Ext.cell hx13 p0
 replace p1 := Ext.cell hx13 p1
 replace p2 := Ext.cell hx13 p2
 replace p3 := Ext.cell hx13 p3
 replace g0 := Ext.cell hx13 g0
 replace g1 := Ext.cell hx13 g1
 replace g2 := Ext.cell hx13 g2
 replace g3 := Ext.cell hx13 g3
 have e13 := e12.trans hx13
 skip
 have z_m := lt_of_cell m0
 have z_p := lt_of_cell p0
 have z_g := lt_of_cell g0
 go_wp2_with fail
 refine (I.out _ _ hr13.rep (hM.ext e13)).mono ?_
 rintro e w14 ⟨cs14, f14, rfl, hr14, hf14, hx14⟩
 replace m0 := Ext.cell hx14 m0
 replace m1 := Ext.cell hx14 m1
 replace m2 := Ext.cell hx14 m2
 replace m3 := Ext.cell hx14 m3
 replace m4 := Ext.cell hx14 m4
 replace m5 := Ext.cell hx14 m5
 replace m6 := Ext.cell hx14 m6
 replace m7 := Ext.cell hx14 m7
 replace m8 := Ext.cell hx14 m8
 replace m9 := Ext.cell hx14 m9
 replace m10 := Ext.cell hx14 m10
 replace m11 := Ext.cell hx14 m11
 replace p0 := Ext.cell hx14 p0
 replace p1 := Ext.cell hx14 p1
 replace p2 := Ext.cell hx14 p2
 replace p3 := Ext.cell hx14 p3
 replace g0 := Ext.cell hx14 g0
 replace g1 := Ext.cell hx14 g1
 replace g2 := Ext.cell hx14 g2
 replace g3 := Ext.cell hx14 g3
 obtain ⟨o0, q0, u14_0, o1, q1, u14_1, o2, q2, u14_2, rfl, -, -, -, -⟩ := MCodeBase.op_f hr14
 have H14 := LH hr14
 have X14 := (hx12.trans hx13).trans hx14
 clear hr13 hf13 hr14 hf14 hx12 hx13
 clear m0 m1 m2 m3 m4 m5 m6 m7 m8 m9 m10 m11
 skip
 have z_p := lt_of_cell p0
 have z_g := lt_of_cell g0
 go_upto_region 25 with fail
 generalize hS : World.alloc w14 _ = v14
 have yv14 : Ext w14 v14 := by rw [<- hS]; exact (XR _).alloc _
 have h0 : v14.cell? ⟨w14.heap.size, 0, none⟩ = some (.slice o0 y.classes.length q0) := by rw [<- hS]; simp
 have h1 : v14.cell? ⟨w14.heap.size, 1, none⟩ = some (.slice o1 y.codes.length q1) := by rw [<- hS]; simp
 have h2 : v14.cell? ⟨w14.heap.size, 2, none⟩ = some (.slice o2 y.entries.length q2) := by rw [<- hS]; simp
 have h3 : v14.cell? ⟨w14.heap.size, 3, none⟩ = some (.int .i64 y.main) := by rw [<- hS]; simp
 clear hS
 replace p0 := Ext.cell yv14 p0
 replace p1 := Ext.cell yv14 p1
 replace p2 := Ext.cell yv14 p2
 replace p3 := Ext.cell yv14 p3
 replace g0 := Ext.cell yv14 g0
 replace g1 := Ext.cell yv14 g1
 replace g2 := Ext.cell yv14 g2
 replace g3 := Ext.cell yv14 g3
 have X15 := X14.trans yv14
 have e15 := (e13.trans hx14).trans yv14
 skip
 have z_p := lt_of_cell p0
 have z_g := lt_of_cell g0
 have z_h := lt_of_cell h0
 go_wp2_with fail
 refine (eqCodeBase_any y y _ _ _ (H14.out.ext yv14).rep (D3.out.ext X15).rep).mono ?_
 rw [ht]
 rintro e w15 ⟨rfl, hx15⟩
 replace p0 := Ext.cell hx15 p0
 replace p1 := Ext.cell hx15 p1
 replace p2 := Ext.cell hx15 p2
 replace p3 := Ext.cell hx15 p3
 replace g0 := Ext.cell hx15 g0
 replace g1 := Ext.cell hx15 g1
 replace g2 := Ext.cell hx15 g2
 replace g3 := Ext.cell hx15 g3
 replace h0 := Ext.cell hx15 h0
 replace h1 := Ext.cell hx15 h1
 replace h2 := Ext.cell hx15 h2
 replace h3 := Ext.cell hx15 h3
 skip
 have z_p := lt_of_cell p0
 have z_g := lt_of_cell g0
 have z_h := lt_of_cell h0
 go_wp2_with fail
 refine (heldCodeBase_any y _ 1 w15 (Rep.ext (X15.trans hx15) D5.out) (by omega) HTC.out).mono ?_
 rintro e w16 ⟨rfl, hx16⟩
 go_wp2_with fail
 go_ret
 exact ⟨rfl, (e15.trans hx15).trans hx16⟩
theorem fnExactCompileSystem_lifted (os : Os) (started : os.Started) (H : Type) (enc : TypeId × Value -> H) :
 ReturnsInHanded {} Tryz.checked os 3 .any (fun w args => (Rows.fnExactCompileSystemSpec.pre enc Tryz.prog Tryz.f3 Rows.fnExactCompileSystemRow.domain false w args /\ laidMetH Tryz.prog Rows.fnExactCompileSystemRow.laid w) /\ sizedMet enc Tryz.prog Tryz.f3 (OpenSpec.ofChange Rows.fnExactCompileSystemSpec) false w args) (Rows.fnExactCompileSystemSpec.post enc Tryz.prog Tryz.f3 false true false false) := by
 refine returns_laid (C := Tryz.checked) (X := fun w _ => laidMetH Tryz.prog Rows.fnExactCompileSystemRow.laid w) (fun _ _ _ hh h => h.of_heap hh) Tryz.own started (by kernel_rfl) Tryz.func3
  (ChangeSpec.witness_shaped (enc := enc) (C := Tryz.checked) (os := os) (X := fun w _ => laidMetH Tryz.prog Rows.fnExactCompileSystemRow.laid w) false (World.laidAll Tryz.prog os Rows.fnExactCompileSystemRow.laid) #[.agg #[.slice none 0 0, .slice none 0 0, .string ByteArray.empty, .int .i64 0, .bool false, .int .i64 0, .int .i64 0, .int .i64 0, .string ByteArray.empty, .int .i64 0, .int .i64 0, .slice none 0 0]] 8 (World.laidAll_os _ _ _)
   (World.shaped_of_ZipB (by kernel_rfl) (by kernel_rfl)) (by kernel_rfl) (by kernel_rfl) (by kernel_rfl)
   (by rw [MakeChecks.laidMetH_plain _ _ _ (by kernel_rfl)]; exact laidMet_laidAll _ (by kernel_rfl) (by kernel_rfl))) ?_
 intro W base args ds gs before hval0 hW hL hsh
 have hM := max_ok hsh
 have hval : ∀ (j : Nat) t v, Tryz.f3.params[j]? = some t -> args[j]? = some v -> Value.okWide Tryz.prog W .any base t v := hval0
 have hW' := hW
 obtain ⟨p, q, hA0, hV, rfl, hfz, hnd⟩ := hW
 have hA : DataW.TrodAll enc Tryz.prog W 0 (fun _ => true) true Tryz.f3.params.toList args.toList ds p := hA0
 rw [Tryz.params3] at hA hval
 obtain ⟨v0, d0, rfl, rfl, h0⟩ := trodAll_one hA
 obtain ⟨rfl, rfl⟩ := trodVars_none hV
 obtain ⟨c0, rfl, hc0⟩ := okWide_agg Tryz.underlying30 (hval 0 30 v0 rfl rfl)
 obtain ⟨fu0, hh0⟩ := h0
 rw [hc0] at hh0
 obtain ⟨x0, r0, o0⟩ := trod_System hh0
 exact (fnExactCompileSystem_calls x0 c0 W r0 o0 hM).mono fun e W' ⟨he, hb⟩ => ⟨_, he, law_post Tryz.laidOut rfl (by kernel_rfl) rfl Tryz.underlying4 hW' rfl hb⟩
end Go.Proofs.YtlaclfeljimffaaGreatDoor
