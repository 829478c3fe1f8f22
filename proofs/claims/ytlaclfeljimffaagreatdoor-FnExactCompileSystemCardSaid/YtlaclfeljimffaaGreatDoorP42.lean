/-
  CONTRACTS: IsSystem, of the reference.
  Conditions: those that each lemma states.
-/
import Derived.Test.YtlaclfeljimffaaGreatDoorRows
import Derived.Test.YtlaclfeljimffaaGreatDoorP19
namespace Go.Proofs.YtlaclfeljimffaaGreatDoor
open Go.RowKit
set_option maxHeartbeats 8000000
set_option maxRecDepth 100000
set_option linter.unusedSimpArgs false
set_option linter.unusedVariables false
theorem spec_IsSystem_of (HRT : Hid RoutS) (x : MSystem) (cx : List Value) (w : World) (rx : Rep w x.d cx) (hz : SysSz x) :
 Calls Tryz.prog 16 #[.agg cx.toArray] w fun e w' => e = .returned (.bool (prB (SysP x))) /\ Ext w w' := by
 obtain ⟨ac, cc, ar, cr, am, cm, rfl, rc, rr, -, rm⟩ := MSystem.op_en rx
 have RC := LH rc
 have RR := LH rr
 have RM := LH rm
 have HZ := LH hz
 clear rx rc rr rm hz
 cases g0 : clsB x.classes
 · have NE : Hid (¬ SysP x) := LH (fun h => by have h1 := h.1; rw [g0] at h1; cases h1)
   go_enter Tryz.func16, Tryz.ntmps16
   go_upto_region 1 with fail
   generalize hS : World.alloc w _ = W1
   have x1 : Ext w W1 := by rw [<- hS]; exact (XR _).alloc _
   have m0 : W1.cell? ⟨w.heap.size, 0, none⟩ = some (.slice ac x.classes.length cc) := by rw [<- hS]; simp <;> assumption
   have m1 : W1.cell? ⟨w.heap.size, 1, none⟩ = some (.slice ar x.routines.length cr) := by rw [<- hS]; simp <;> assumption
   have m2 : W1.cell? ⟨w.heap.size, 2, none⟩ = some (.string x.main.selector) := by rw [<- hS]; simp <;> assumption
   have m3 : W1.cell? ⟨w.heap.size, 3, none⟩ = some (.int .i64 x.main.owner) := by rw [<- hS]; simp <;> assumption
   have m4 : W1.cell? ⟨w.heap.size, 4, none⟩ = some (.bool x.main.cls) := by rw [<- hS]; simp <;> assumption
   have m5 : W1.cell? ⟨w.heap.size, 5, none⟩ = some (.int .i64 x.main.params) := by rw [<- hS]; simp <;> assumption
   have m6 : W1.cell? ⟨w.heap.size, 6, none⟩ = some (.int .i64 x.main.slots) := by rw [<- hS]; simp <;> assumption
   have m7 : W1.cell? ⟨w.heap.size, 7, none⟩ = some (.int .i64 x.main.body.kind) := by rw [<- hS]; simp <;> assumption
   have m8 : W1.cell? ⟨w.heap.size, 8, none⟩ = some (.string x.main.body.text) := by rw [<- hS]; simp <;> assumption
   have m9 : W1.cell? ⟨w.heap.size, 9, none⟩ = some (.int .i64 x.main.body.number) := by rw [<- hS]; simp <;> assumption
   have m10 : W1.cell? ⟨w.heap.size, 10, none⟩ = some (.int .i64 x.main.body.depth) := by rw [<- hS]; simp <;> assumption
   have m11 : W1.cell? ⟨w.heap.size, 11, none⟩ = some (.slice am x.main.body.kids.length cm) := by rw [<- hS]; simp <;> assumption
   clear hS
   go_wp2_with fail
   refine (l8IsClasses_any x.classes _ _ (Rep.ext x1 RC.out) HZ.out.1).mono ?_
   rw [g0]
   rintro e w2 ⟨rfl, hx2⟩
   replace m0 := Ext.cell hx2 m0
   replace m1 := Ext.cell hx2 m1
   replace m2 := Ext.cell hx2 m2
   replace m3 := Ext.cell hx2 m3
   replace m4 := Ext.cell hx2 m4
   replace m5 := Ext.cell hx2 m5
   replace m6 := Ext.cell hx2 m6
   replace m7 := Ext.cell hx2 m7
   replace m8 := Ext.cell hx2 m8
   replace m9 := Ext.cell hx2 m9
   replace m10 := Ext.cell hx2 m10
   replace m11 := Ext.cell hx2 m11
   replace x1 := x1.trans hx2
   clear hx2
   clear g0
   go_wp2_with fail
   go_ret
   exact ⟨ret_bool (prB_ff NE.out).symm, x1⟩
 have hK : x.classes.length <= 24 := (clsB_iff.1 g0).1.2
 by_cases q0 : x.routines.length <= 96
 rotate_left
 · have NE : Hid (¬ SysP x) := LH (fun h => q0 h.2.2.2.1)
   have t0 : (96 : Int) < x.routines.length := by omega
   go_enter Tryz.func16, Tryz.ntmps16
   go_upto_region 1 with fail
   generalize hS : World.alloc w _ = W1
   have x1 : Ext w W1 := by rw [<- hS]; exact (XR _).alloc _
   have m0 : W1.cell? ⟨w.heap.size, 0, none⟩ = some (.slice ac x.classes.length cc) := by rw [<- hS]; simp <;> assumption
   have m1 : W1.cell? ⟨w.heap.size, 1, none⟩ = some (.slice ar x.routines.length cr) := by rw [<- hS]; simp <;> assumption
   have m2 : W1.cell? ⟨w.heap.size, 2, none⟩ = some (.string x.main.selector) := by rw [<- hS]; simp <;> assumption
   have m3 : W1.cell? ⟨w.heap.size, 3, none⟩ = some (.int .i64 x.main.owner) := by rw [<- hS]; simp <;> assumption
   have m4 : W1.cell? ⟨w.heap.size, 4, none⟩ = some (.bool x.main.cls) := by rw [<- hS]; simp <;> assumption
   have m5 : W1.cell? ⟨w.heap.size, 5, none⟩ = some (.int .i64 x.main.params) := by rw [<- hS]; simp <;> assumption
   have m6 : W1.cell? ⟨w.heap.size, 6, none⟩ = some (.int .i64 x.main.slots) := by rw [<- hS]; simp <;> assumption
   have m7 : W1.cell? ⟨w.heap.size, 7, none⟩ = some (.int .i64 x.main.body.kind) := by rw [<- hS]; simp <;> assumption
   have m8 : W1.cell? ⟨w.heap.size, 8, none⟩ = some (.string x.main.body.text) := by rw [<- hS]; simp <;> assumption
   have m9 : W1.cell? ⟨w.heap.size, 9, none⟩ = some (.int .i64 x.main.body.number) := by rw [<- hS]; simp <;> assumption
   have m10 : W1.cell? ⟨w.heap.size, 10, none⟩ = some (.int .i64 x.main.body.depth) := by rw [<- hS]; simp <;> assumption
   have m11 : W1.cell? ⟨w.heap.size, 11, none⟩ = some (.slice am x.main.body.kids.length cm) := by rw [<- hS]; simp <;> assumption
   clear hS
   go_wp2_with fail
   refine (l8IsClasses_any x.classes _ _ (Rep.ext x1 RC.out) HZ.out.1).mono ?_
   rw [g0]
   rintro e w2 ⟨rfl, hx2⟩
   replace m0 := Ext.cell hx2 m0
   replace m1 := Ext.cell hx2 m1
   replace m2 := Ext.cell hx2 m2
   replace m3 := Ext.cell hx2 m3
   replace m4 := Ext.cell hx2 m4
   replace m5 := Ext.cell hx2 m5
   replace m6 := Ext.cell hx2 m6
   replace m7 := Ext.cell hx2 m7
   replace m8 := Ext.cell hx2 m8
   replace m9 := Ext.cell hx2 m9
   replace m10 := Ext.cell hx2 m10
   replace m11 := Ext.cell hx2 m11
   replace x1 := x1.trans hx2
   clear hx2
   clear g0
   go_wp2_with fail
   go_ret
   exact ⟨ret_bool (prB_ff NE.out).symm, x1⟩
 have t0 : decide ((96 : Int) < x.routines.length) = false := decide_eq_false (by omega)
 by_cases q1 : x.main.selector = mainT
 rotate_left
 · have NE : Hid (¬ SysP x) := LH (fun h => q1 h.2.1.1)
   have t1 : (!x.main.selector.toList == [109, 97, 105, 110]) = true := by rw [str_ne' (show ¬ x.main.selector = ⟨#[109, 97, 105, 110]⟩ from q1)]; rfl
   have Q1 := LH q1; clear q1
   go_enter Tryz.func16, Tryz.ntmps16
   go_upto_region 1 with fail
   generalize hS : World.alloc w _ = W1
   have x1 : Ext w W1 := by rw [<- hS]; exact (XR _).alloc _
   have m0 : W1.cell? ⟨w.heap.size, 0, none⟩ = some (.slice ac x.classes.length cc) := by rw [<- hS]; simp <;> assumption
   have m1 : W1.cell? ⟨w.heap.size, 1, none⟩ = some (.slice ar x.routines.length cr) := by rw [<- hS]; simp <;> assumption
   have m2 : W1.cell? ⟨w.heap.size, 2, none⟩ = some (.string x.main.selector) := by rw [<- hS]; simp <;> assumption
   have m3 : W1.cell? ⟨w.heap.size, 3, none⟩ = some (.int .i64 x.main.owner) := by rw [<- hS]; simp <;> assumption
   have m4 : W1.cell? ⟨w.heap.size, 4, none⟩ = some (.bool x.main.cls) := by rw [<- hS]; simp <;> assumption
   have m5 : W1.cell? ⟨w.heap.size, 5, none⟩ = some (.int .i64 x.main.params) := by rw [<- hS]; simp <;> assumption
   have m6 : W1.cell? ⟨w.heap.size, 6, none⟩ = some (.int .i64 x.main.slots) := by rw [<- hS]; simp <;> assumption
   have m7 : W1.cell? ⟨w.heap.size, 7, none⟩ = some (.int .i64 x.main.body.kind) := by rw [<- hS]; simp <;> assumption
   have m8 : W1.cell? ⟨w.heap.size, 8, none⟩ = some (.string x.main.body.text) := by rw [<- hS]; simp <;> assumption
   have m9 : W1.cell? ⟨w.heap.size, 9, none⟩ = some (.int .i64 x.main.body.number) := by rw [<- hS]; simp <;> assumption
   have m10 : W1.cell? ⟨w.heap.size, 10, none⟩ = some (.int .i64 x.main.body.depth) := by rw [<- hS]; simp <;> assumption
   have m11 : W1.cell? ⟨w.heap.size, 11, none⟩ = some (.slice am x.main.body.kids.length cm) := by rw [<- hS]; simp <;> assumption
   clear hS
   go_wp2_with fail
   refine (l8IsClasses_any x.classes _ _ (Rep.ext x1 RC.out) HZ.out.1).mono ?_
   rw [g0]
   rintro e w2 ⟨rfl, hx2⟩
   replace m0 := Ext.cell hx2 m0
   replace m1 := Ext.cell hx2 m1
   replace m2 := Ext.cell hx2 m2
   replace m3 := Ext.cell hx2 m3
   replace m4 := Ext.cell hx2 m4
   replace m5 := Ext.cell hx2 m5
   replace m6 := Ext.cell hx2 m6
   replace m7 := Ext.cell hx2 m7
   replace m8 := Ext.cell hx2 m8
   replace m9 := Ext.cell hx2 m9
   replace m10 := Ext.cell hx2 m10
   replace m11 := Ext.cell hx2 m11
   replace x1 := x1.trans hx2
   clear hx2
   clear g0
   go_wp2_with fail
   go_ret
   exact ⟨ret_bool (prB_ff NE.out).symm, x1⟩
 have t1 : (!x.main.selector.toList == [109, 97, 105, 110]) = false := by rw [str_eq' (show x.main.selector = ⟨#[109, 97, 105, 110]⟩ from q1)]; rfl
 have Q1 := LH q1; clear q1
 by_cases q2 : x.main.owner = -1
 rotate_left
 · have NE : Hid (¬ SysP x) := LH (fun h => q2 h.2.1.2.1)
   have t2 := int_nen q2
   have Q2 := LH q2; clear q2
   go_enter Tryz.func16, Tryz.ntmps16
   go_upto_region 1 with fail
   generalize hS : World.alloc w _ = W1
   have x1 : Ext w W1 := by rw [<- hS]; exact (XR _).alloc _
   have m0 : W1.cell? ⟨w.heap.size, 0, none⟩ = some (.slice ac x.classes.length cc) := by rw [<- hS]; simp <;> assumption
   have m1 : W1.cell? ⟨w.heap.size, 1, none⟩ = some (.slice ar x.routines.length cr) := by rw [<- hS]; simp <;> assumption
   have m2 : W1.cell? ⟨w.heap.size, 2, none⟩ = some (.string x.main.selector) := by rw [<- hS]; simp <;> assumption
   have m3 : W1.cell? ⟨w.heap.size, 3, none⟩ = some (.int .i64 x.main.owner) := by rw [<- hS]; simp <;> assumption
   have m4 : W1.cell? ⟨w.heap.size, 4, none⟩ = some (.bool x.main.cls) := by rw [<- hS]; simp <;> assumption
   have m5 : W1.cell? ⟨w.heap.size, 5, none⟩ = some (.int .i64 x.main.params) := by rw [<- hS]; simp <;> assumption
   have m6 : W1.cell? ⟨w.heap.size, 6, none⟩ = some (.int .i64 x.main.slots) := by rw [<- hS]; simp <;> assumption
   have m7 : W1.cell? ⟨w.heap.size, 7, none⟩ = some (.int .i64 x.main.body.kind) := by rw [<- hS]; simp <;> assumption
   have m8 : W1.cell? ⟨w.heap.size, 8, none⟩ = some (.string x.main.body.text) := by rw [<- hS]; simp <;> assumption
   have m9 : W1.cell? ⟨w.heap.size, 9, none⟩ = some (.int .i64 x.main.body.number) := by rw [<- hS]; simp <;> assumption
   have m10 : W1.cell? ⟨w.heap.size, 10, none⟩ = some (.int .i64 x.main.body.depth) := by rw [<- hS]; simp <;> assumption
   have m11 : W1.cell? ⟨w.heap.size, 11, none⟩ = some (.slice am x.main.body.kids.length cm) := by rw [<- hS]; simp <;> assumption
   clear hS
   go_wp2_with fail
   refine (l8IsClasses_any x.classes _ _ (Rep.ext x1 RC.out) HZ.out.1).mono ?_
   rw [g0]
   rintro e w2 ⟨rfl, hx2⟩
   replace m0 := Ext.cell hx2 m0
   replace m1 := Ext.cell hx2 m1
   replace m2 := Ext.cell hx2 m2
   replace m3 := Ext.cell hx2 m3
   replace m4 := Ext.cell hx2 m4
   replace m5 := Ext.cell hx2 m5
   replace m6 := Ext.cell hx2 m6
   replace m7 := Ext.cell hx2 m7
   replace m8 := Ext.cell hx2 m8
   replace m9 := Ext.cell hx2 m9
   replace m10 := Ext.cell hx2 m10
   replace m11 := Ext.cell hx2 m11
   replace x1 := x1.trans hx2
   clear hx2
   clear g0
   go_wp2_with fail
   go_ret
   exact ⟨ret_bool (prB_ff NE.out).symm, x1⟩
 have t2 := int_eqn q2
 have Q2 := LH q2; clear q2
 by_cases q3 : x.main.cls = false
 rotate_left
 · have NE : Hid (¬ SysP x) := LH (fun h => q3 h.2.1.2.2.1)
   have t3 : x.main.cls = true := by simpa using q3
   have Q3 := LH q3; clear q3
   go_enter Tryz.func16, Tryz.ntmps16
   go_upto_region 1 with fail
   generalize hS : World.alloc w _ = W1
   have x1 : Ext w W1 := by rw [<- hS]; exact (XR _).alloc _
   have m0 : W1.cell? ⟨w.heap.size, 0, none⟩ = some (.slice ac x.classes.length cc) := by rw [<- hS]; simp <;> assumption
   have m1 : W1.cell? ⟨w.heap.size, 1, none⟩ = some (.slice ar x.routines.length cr) := by rw [<- hS]; simp <;> assumption
   have m2 : W1.cell? ⟨w.heap.size, 2, none⟩ = some (.string x.main.selector) := by rw [<- hS]; simp <;> assumption
   have m3 : W1.cell? ⟨w.heap.size, 3, none⟩ = some (.int .i64 x.main.owner) := by rw [<- hS]; simp <;> assumption
   have m4 : W1.cell? ⟨w.heap.size, 4, none⟩ = some (.bool x.main.cls) := by rw [<- hS]; simp <;> assumption
   have m5 : W1.cell? ⟨w.heap.size, 5, none⟩ = some (.int .i64 x.main.params) := by rw [<- hS]; simp <;> assumption
   have m6 : W1.cell? ⟨w.heap.size, 6, none⟩ = some (.int .i64 x.main.slots) := by rw [<- hS]; simp <;> assumption
   have m7 : W1.cell? ⟨w.heap.size, 7, none⟩ = some (.int .i64 x.main.body.kind) := by rw [<- hS]; simp <;> assumption
   have m8 : W1.cell? ⟨w.heap.size, 8, none⟩ = some (.string x.main.body.text) := by rw [<- hS]; simp <;> assumption
   have m9 : W1.cell? ⟨w.heap.size, 9, none⟩ = some (.int .i64 x.main.body.number) := by rw [<- hS]; simp <;> assumption
   have m10 : W1.cell? ⟨w.heap.size, 10, none⟩ = some (.int .i64 x.main.body.depth) := by rw [<- hS]; simp <;> assumption
   have m11 : W1.cell? ⟨w.heap.size, 11, none⟩ = some (.slice am x.main.body.kids.length cm) := by rw [<- hS]; simp <;> assumption
   clear hS
   go_wp2_with fail
   refine (l8IsClasses_any x.classes _ _ (Rep.ext x1 RC.out) HZ.out.1).mono ?_
   rw [g0]
   rintro e w2 ⟨rfl, hx2⟩
   replace m0 := Ext.cell hx2 m0
   replace m1 := Ext.cell hx2 m1
   replace m2 := Ext.cell hx2 m2
   replace m3 := Ext.cell hx2 m3
   replace m4 := Ext.cell hx2 m4
   replace m5 := Ext.cell hx2 m5
   replace m6 := Ext.cell hx2 m6
   replace m7 := Ext.cell hx2 m7
   replace m8 := Ext.cell hx2 m8
   replace m9 := Ext.cell hx2 m9
   replace m10 := Ext.cell hx2 m10
   replace m11 := Ext.cell hx2 m11
   replace x1 := x1.trans hx2
   clear hx2
   clear g0
   go_wp2_with fail
   go_ret
   exact ⟨ret_bool (prB_ff NE.out).symm, x1⟩
 have Q3 := LH q3
 by_cases q4 : x.main.params = 0
 rotate_left
 · have NE : Hid (¬ SysP x) := LH (fun h => q4 h.2.1.2.2.2)
   have t4 := int_nen q4
   have Q4 := LH q4; clear q4
   go_enter Tryz.func16, Tryz.ntmps16
   go_upto_region 1 with fail
   generalize hS : World.alloc w _ = W1
   have x1 : Ext w W1 := by rw [<- hS]; exact (XR _).alloc _
   have m0 : W1.cell? ⟨w.heap.size, 0, none⟩ = some (.slice ac x.classes.length cc) := by rw [<- hS]; simp <;> assumption
   have m1 : W1.cell? ⟨w.heap.size, 1, none⟩ = some (.slice ar x.routines.length cr) := by rw [<- hS]; simp <;> assumption
   have m2 : W1.cell? ⟨w.heap.size, 2, none⟩ = some (.string x.main.selector) := by rw [<- hS]; simp <;> assumption
   have m3 : W1.cell? ⟨w.heap.size, 3, none⟩ = some (.int .i64 x.main.owner) := by rw [<- hS]; simp <;> assumption
   have m4 : W1.cell? ⟨w.heap.size, 4, none⟩ = some (.bool x.main.cls) := by rw [<- hS]; simp <;> assumption
   have m5 : W1.cell? ⟨w.heap.size, 5, none⟩ = some (.int .i64 x.main.params) := by rw [<- hS]; simp <;> assumption
   have m6 : W1.cell? ⟨w.heap.size, 6, none⟩ = some (.int .i64 x.main.slots) := by rw [<- hS]; simp <;> assumption
   have m7 : W1.cell? ⟨w.heap.size, 7, none⟩ = some (.int .i64 x.main.body.kind) := by rw [<- hS]; simp <;> assumption
   have m8 : W1.cell? ⟨w.heap.size, 8, none⟩ = some (.string x.main.body.text) := by rw [<- hS]; simp <;> assumption
   have m9 : W1.cell? ⟨w.heap.size, 9, none⟩ = some (.int .i64 x.main.body.number) := by rw [<- hS]; simp <;> assumption
   have m10 : W1.cell? ⟨w.heap.size, 10, none⟩ = some (.int .i64 x.main.body.depth) := by rw [<- hS]; simp <;> assumption
   have m11 : W1.cell? ⟨w.heap.size, 11, none⟩ = some (.slice am x.main.body.kids.length cm) := by rw [<- hS]; simp <;> assumption
   clear hS
   go_wp2_with fail
   refine (l8IsClasses_any x.classes _ _ (Rep.ext x1 RC.out) HZ.out.1).mono ?_
   rw [g0]
   rintro e w2 ⟨rfl, hx2⟩
   replace m0 := Ext.cell hx2 m0
   replace m1 := Ext.cell hx2 m1
   replace m2 := Ext.cell hx2 m2
   replace m3 := Ext.cell hx2 m3
   replace m4 := Ext.cell hx2 m4
   replace m5 := Ext.cell hx2 m5
   replace m6 := Ext.cell hx2 m6
   replace m7 := Ext.cell hx2 m7
   replace m8 := Ext.cell hx2 m8
   replace m9 := Ext.cell hx2 m9
   replace m10 := Ext.cell hx2 m10
   replace m11 := Ext.cell hx2 m11
   replace x1 := x1.trans hx2
   clear hx2
   clear g0
   go_wp2_with fail
   go_ret
   exact ⟨ret_bool (prB_ff NE.out).symm, x1⟩
 have t4 := int_eqn q4
 have Q4 := LH q4; clear q4
 have RM2 : Hid (Rep w x.main.d [.string x.main.selector, .int .i64 x.main.owner, .bool false, .int .i64 x.main.params, .int .i64 x.main.slots, .int .i64 x.main.body.kind, .string x.main.body.text, .int .i64 x.main.body.number, .int .i64 x.main.body.depth, .slice am x.main.body.kids.length cm]) := LH (by
  have h := RM.out
  rw [Q3.out] at h
  exact h)
 cases g5 : prB (routP (x.classes.length : Int) x.main)
 · have NE : Hid (¬ SysP x) := LH (fun h => by have := prB_tt h.2.2.1; rw [g5] at this; cases this)
   go_enter Tryz.func16, Tryz.ntmps16
   go_upto_region 1 with fail
   generalize hS : World.alloc w _ = W1
   have x1 : Ext w W1 := by rw [<- hS]; exact (XR _).alloc _
   have m0 : W1.cell? ⟨w.heap.size, 0, none⟩ = some (.slice ac x.classes.length cc) := by rw [<- hS]; simp <;> assumption
   have m1 : W1.cell? ⟨w.heap.size, 1, none⟩ = some (.slice ar x.routines.length cr) := by rw [<- hS]; simp <;> assumption
   have m2 : W1.cell? ⟨w.heap.size, 2, none⟩ = some (.string x.main.selector) := by rw [<- hS]; simp <;> assumption
   have m3 : W1.cell? ⟨w.heap.size, 3, none⟩ = some (.int .i64 x.main.owner) := by rw [<- hS]; simp <;> assumption
   have m4 : W1.cell? ⟨w.heap.size, 4, none⟩ = some (.bool x.main.cls) := by rw [<- hS]; simp <;> assumption
   have m5 : W1.cell? ⟨w.heap.size, 5, none⟩ = some (.int .i64 x.main.params) := by rw [<- hS]; simp <;> assumption
   have m6 : W1.cell? ⟨w.heap.size, 6, none⟩ = some (.int .i64 x.main.slots) := by rw [<- hS]; simp <;> assumption
   have m7 : W1.cell? ⟨w.heap.size, 7, none⟩ = some (.int .i64 x.main.body.kind) := by rw [<- hS]; simp <;> assumption
   have m8 : W1.cell? ⟨w.heap.size, 8, none⟩ = some (.string x.main.body.text) := by rw [<- hS]; simp <;> assumption
   have m9 : W1.cell? ⟨w.heap.size, 9, none⟩ = some (.int .i64 x.main.body.number) := by rw [<- hS]; simp <;> assumption
   have m10 : W1.cell? ⟨w.heap.size, 10, none⟩ = some (.int .i64 x.main.body.depth) := by rw [<- hS]; simp <;> assumption
   have m11 : W1.cell? ⟨w.heap.size, 11, none⟩ = some (.slice am x.main.body.kids.length cm) := by rw [<- hS]; simp <;> assumption
   clear hS
   go_wp2_with fail
   refine (l8IsClasses_any x.classes _ _ (Rep.ext x1 RC.out) HZ.out.1).mono ?_
   rw [g0]
   rintro e w2 ⟨rfl, hx2⟩
   replace m0 := Ext.cell hx2 m0
   replace m1 := Ext.cell hx2 m1
   replace m2 := Ext.cell hx2 m2
   replace m3 := Ext.cell hx2 m3
   replace m4 := Ext.cell hx2 m4
   replace m5 := Ext.cell hx2 m5
   replace m6 := Ext.cell hx2 m6
   replace m7 := Ext.cell hx2 m7
   replace m8 := Ext.cell hx2 m8
   replace m9 := Ext.cell hx2 m9
   replace m10 := Ext.cell hx2 m10
   replace m11 := Ext.cell hx2 m11
   replace x1 := x1.trans hx2
   clear hx2
   clear g0
   go_wp2_with fail
   refine (HRT.out x.main _ (x.classes.length : Int) _ (Rep.ext x1 RM2.out) HZ.out.2.1.2 (by omega) (by omega)).mono ?_
   rw [g5]
   rintro e w3 ⟨rfl, hx3⟩
   replace m0 := Ext.cell hx3 m0
   replace m1 := Ext.cell hx3 m1
   replace m2 := Ext.cell hx3 m2
   replace m3 := Ext.cell hx3 m3
   replace m4 := Ext.cell hx3 m4
   replace m5 := Ext.cell hx3 m5
   replace m6 := Ext.cell hx3 m6
   replace m7 := Ext.cell hx3 m7
   replace m8 := Ext.cell hx3 m8
   replace m9 := Ext.cell hx3 m9
   replace m10 := Ext.cell hx3 m10
   replace m11 := Ext.cell hx3 m11
   replace x1 := x1.trans hx3
   clear hx3
   clear g5
   go_wp2_with fail
   go_ret
   exact ⟨ret_bool (prB_ff NE.out).symm, x1⟩
 have HH : Hid ((∀ i r, x.routines[i]? = some r -> RoutAt x.classes.length x.routines i r) -> SysP x) := LH (fun h => ⟨g0, ⟨Q1.out, Q2.out, Q3.out, Q4.out⟩, prB_iff.1 g5, q0, h⟩)
 have NO : Hid (∀ i r, x.routines[i]? = some r -> ¬ RoutAt x.classes.length x.routines i r -> ¬ SysP x) := LH (fun i r h1 h2 h3 => h2 (h3.2.2.2.2 i r h1))
 obtain ⟨aro, cro, br, orr, h1, hlr, hmr, pr, har⟩ := Rep.slmap RR.out
 simp only [List.cons.injEq, and_true, Value.slice.injEq] at h1
 obtain ⟨rfl, -, rfl⟩ := h1
 unfold maxLen at hmr
 have HAR := LH har; clear har
 go_enter Tryz.func16, Tryz.ntmps16
 go_upto_region 1 with fail
 generalize hS : World.alloc w _ = W1
 have x1 : Ext w W1 := by rw [<- hS]; exact (XR _).alloc _
 have m0 : W1.cell? ⟨w.heap.size, 0, none⟩ = some (.slice ac x.classes.length cc) := by rw [<- hS]; simp <;> assumption
 have m1 : W1.cell? ⟨w.heap.size, 1, none⟩ = some (.slice ar x.routines.length cr) := by rw [<- hS]; simp <;> assumption
 have m2 : W1.cell? ⟨w.heap.size, 2, none⟩ = some (.string x.main.selector) := by rw [<- hS]; simp <;> assumption
 have m3 : W1.cell? ⟨w.heap.size, 3, none⟩ = some (.int .i64 x.main.owner) := by rw [<- hS]; simp <;> assumption
 have m4 : W1.cell? ⟨w.heap.size, 4, none⟩ = some (.bool x.main.cls) := by rw [<- hS]; simp <;> assumption
 have m5 : W1.cell? ⟨w.heap.size, 5, none⟩ = some (.int .i64 x.main.params) := by rw [<- hS]; simp <;> assumption
 have m6 : W1.cell? ⟨w.heap.size, 6, none⟩ = some (.int .i64 x.main.slots) := by rw [<- hS]; simp <;> assumption
 have m7 : W1.cell? ⟨w.heap.size, 7, none⟩ = some (.int .i64 x.main.body.kind) := by rw [<- hS]; simp <;> assumption
 have m8 : W1.cell? ⟨w.heap.size, 8, none⟩ = some (.string x.main.body.text) := by rw [<- hS]; simp <;> assumption
 have m9 : W1.cell? ⟨w.heap.size, 9, none⟩ = some (.int .i64 x.main.body.number) := by rw [<- hS]; simp <;> assumption
 have m10 : W1.cell? ⟨w.heap.size, 10, none⟩ = some (.int .i64 x.main.body.depth) := by rw [<- hS]; simp <;> assumption
 have m11 : W1.cell? ⟨w.heap.size, 11, none⟩ = some (.slice am x.main.body.kids.length cm) := by rw [<- hS]; simp <;> assumption
 clear hS
 go_wp2_with fail
 refine (l8IsClasses_any x.classes _ _ (Rep.ext x1 RC.out) HZ.out.1).mono ?_
 rw [g0]
 rintro e w2 ⟨rfl, hx2⟩
 replace m0 := Ext.cell hx2 m0
 replace m1 := Ext.cell hx2 m1
 replace m2 := Ext.cell hx2 m2
 replace m3 := Ext.cell hx2 m3
 replace m4 := Ext.cell hx2 m4
 replace m5 := Ext.cell hx2 m5
 replace m6 := Ext.cell hx2 m6
 replace m7 := Ext.cell hx2 m7
 replace m8 := Ext.cell hx2 m8
 replace m9 := Ext.cell hx2 m9
 replace m10 := Ext.cell hx2 m10
 replace m11 := Ext.cell hx2 m11
 replace x1 := x1.trans hx2
 clear hx2
 go_wp2_with fail
 refine (HRT.out x.main _ (x.classes.length : Int) _ (Rep.ext x1 RM2.out) HZ.out.2.1.2 (by omega) (by omega)).mono ?_
 rw [g5]
 rintro e w3 ⟨rfl, hx3⟩
 replace m0 := Ext.cell hx3 m0
 replace m1 := Ext.cell hx3 m1
 replace m2 := Ext.cell hx3 m2
 replace m3 := Ext.cell hx3 m3
 replace m4 := Ext.cell hx3 m4
 replace m5 := Ext.cell hx3 m5
 replace m6 := Ext.cell hx3 m6
 replace m7 := Ext.cell hx3 m7
 replace m8 := Ext.cell hx3 m8
 replace m9 := Ext.cell hx3 m9
 replace m10 := Ext.cell hx3 m10
 replace m11 := Ext.cell hx3 m11
 replace x1 := x1.trans hx3
 clear hx3
 clear g0 g5
 clear m2
 clear m3
 clear m4
 clear m5
 clear m6
 clear m7
 clear m8
 clear m9
 clear m10
 clear m11
 have xo := x1
 go_wp2_with fail
 go_loopw [3] (fun iv wr => ∃ k : Nat, k <= x.routines.length /\ iv = .int .i64 k /\ Ext w3 wr /\ Hid (∀ i r, i < k -> x.routines[i]? = some r -> RoutAt x.classes.length x.routines i r)) (fun iv _ => x.routines.length - (intOf iv).toNat)
 case atStart => exact ⟨0, Nat.zero_le _, rfl, XR _, LH fun i r hi => by omega⟩
 case round =>
  obtain ⟨k, hk, rfl, hx, hR⟩ := hrel
  replace m0 := Ext.cell hx m0
  replace m1 := Ext.cell hx m1
  have X := x1.trans hx
  have HXR := LH hx
  clear hx x1 xo
  by_cases hlt : k < x.routines.length
  rotate_left
  · have YE : Hid (SysP x) := LH (HH.out fun i r hr => hR.out i r (by have := (List.getElem?_eq_some_iff.1 hr).1; omega) hr)
    have hlt' : ¬ (k : Int) < x.routines.length := by omega
    go_wp2_with fail
    go_ret
    exact ⟨ret_bool (prB_tt YE.out).symm, X⟩
  obtain ⟨r, hr⟩ : ∃ r, r = x.routines[k] := ⟨_, rfl⟩
  have hrk : x.routines[k]? = some r := by rw [hr]; simp [hlt]
  have hrz := HZ.out.2.2.1 r (by rw [hr]; exact List.getElem_mem _)
  clear hr
  obtain rfl := pr (by omega)
  obtain ⟨es, les, ces, res⟩ := HAR.out k r hrk
  have RS := LH (Rep.ext X res)
  obtain ⟨ab, cb, rfl, -, -⟩ := MRoutine.op_en res
  have b0 := X.cell (show w.cell? ⟨br, orr + k * 10, none⟩ = some _ from ces 0 (by omega))
  have b1 := X.cell (show w.cell? ⟨br, orr + k * 10 + 1, none⟩ = some _ from ces 1 (by omega))
  have b2 := X.cell (show w.cell? ⟨br, orr + k * 10 + 2, none⟩ = some _ from ces 2 (by omega))
  have b3 := X.cell (show w.cell? ⟨br, orr + k * 10 + 3, none⟩ = some _ from ces 3 (by omega))
  have b4 := X.cell (show w.cell? ⟨br, orr + k * 10 + 4, none⟩ = some _ from ces 4 (by omega))
  have b5 := X.cell (show w.cell? ⟨br, orr + k * 10 + 5, none⟩ = some _ from ces 5 (by omega))
  have b6 := X.cell (show w.cell? ⟨br, orr + k * 10 + 6, none⟩ = some _ from ces 6 (by omega))
  have b7 := X.cell (show w.cell? ⟨br, orr + k * 10 + 7, none⟩ = some _ from ces 7 (by omega))
  have b8 := X.cell (show w.cell? ⟨br, orr + k * 10 + 8, none⟩ = some _ from ces 8 (by omega))
  have b9 := X.cell (show w.cell? ⟨br, orr + k * 10 + 9, none⟩ = some _ from ces 9 (by omega))
  have HRK := LH hrk
  have NE0 : Hid (¬ RoutAt x.classes.length x.routines k r -> ¬ SysP x) := LH (NO.out k r hrk)
  have REL : Hid (RoutAt x.classes.length x.routines k r -> ∀ i r, i < k + 1 -> x.routines[i]? = some r -> RoutAt x.classes.length x.routines i r) := LH fun h i c hi hc => by
   by_cases h2 : i < k
   · exact hR.out i c h2 hc
   · obtain rfl : i = k := by omega
     rw [HRK.out] at hc; injection hc with hc; subst hc; exact h
  clear les ces res hrk hR
  have hlt' : (k : Int) < x.routines.length := by omega
  have hkl : (k : Int) <= x.routines.length := by omega
  obtain ⟨hrs, hrb⟩ := hrz
  go_upto_region 7 with fail
  generalize hS : World.alloc wr _ = W1
  have E1 : Ext w W1 := by rw [<- hS]; exact X.alloc _
  have HX1 : Hid (Ext w3 W1) := LH (by rw [<- hS]; exact HXR.out.alloc _)
  have c0 : W1.cell? ⟨wr.heap.size, 0, none⟩ = some (.string r.selector) := by rw [<- hS]; simp <;> assumption
  have c1 : W1.cell? ⟨wr.heap.size, 1, none⟩ = some (.int .i64 r.owner) := by rw [<- hS]; simp <;> assumption
  have c2 : W1.cell? ⟨wr.heap.size, 2, none⟩ = some (.bool r.cls) := by rw [<- hS]; simp <;> assumption
  have c3 : W1.cell? ⟨wr.heap.size, 3, none⟩ = some (.int .i64 r.params) := by rw [<- hS]; simp <;> assumption
  have c4 : W1.cell? ⟨wr.heap.size, 4, none⟩ = some (.int .i64 r.slots) := by rw [<- hS]; simp <;> assumption
  have c5 : W1.cell? ⟨wr.heap.size, 5, none⟩ = some (.int .i64 r.body.kind) := by rw [<- hS]; simp <;> assumption
  have c6 : W1.cell? ⟨wr.heap.size, 6, none⟩ = some (.string r.body.text) := by rw [<- hS]; simp <;> assumption
  have c7 : W1.cell? ⟨wr.heap.size, 7, none⟩ = some (.int .i64 r.body.number) := by rw [<- hS]; simp <;> assumption
  have c8 : W1.cell? ⟨wr.heap.size, 8, none⟩ = some (.int .i64 r.body.depth) := by rw [<- hS]; simp <;> assumption
  have c9 : W1.cell? ⟨wr.heap.size, 9, none⟩ = some (.slice ab r.body.kids.length cb) := by rw [<- hS]; simp <;> assumption
  replace m0 : W1.cell? ⟨w.heap.size, 0, none⟩ = some (.slice ac x.classes.length cc) := by rw [<- hS]; exact Ext.cell ((XR wr).alloc _) m0
  replace m1 : W1.cell? ⟨w.heap.size, 1, none⟩ = some (.slice (some ⟨br, orr, none⟩) x.routines.length cr) := by rw [<- hS]; exact Ext.cell ((XR wr).alloc _) m1
  replace RS : Hid (Rep W1 r.d _) := LH (by rw [<- hS]; exact Rep.ext ((XR wr).alloc _) RS.out)
  clear hS
  clear b0
  clear b1
  clear b2
  clear b3
  clear b4
  clear b5
  clear b6
  clear b7
  clear b8
  clear b9
  have hKi : ((x.classes.length : Int) - 1) <= 23 := by omega
  have CAR : Hid (∀ W, Ext W1 W -> Calls Tryz.prog 43 #[.string r.selector] W fun e w' => e = .returned (.int .i64 (argsB r.selector)) /\ Ext W w') := LH fun W hW => spec_CountArgs_any _ _ hrs
  have CRT : Hid (∀ W, Ext W1 W -> Calls Tryz.prog 41 #[.agg #[.string r.selector, .int .i64 r.owner, .bool r.cls, .int .i64 r.params, .int .i64 r.slots, .int .i64 r.body.kind, .string r.body.text, .int .i64 r.body.number, .int .i64 r.body.depth, .slice ab r.body.kids.length cb], .int .i64 (x.classes.length : Int)] W fun e w' => e = .returned (.bool (prB (routP x.classes.length r))) /\ Ext W w') := LH fun W hW => HRT.out r _ _ W (Rep.ext hW RS.out) hrb (by omega) (by omega)
  have CSE : Hid (∀ W, Ext W1 W -> Calls Tryz.prog 42 #[.string r.selector] W fun e w' => e = .returned (.bool (selB r.selector)) /\ Ext W w') := LH fun W hW => spec_IsSelector_any _ _ hrs
  clear hrs hrb
  cases r0 : selB r.selector
  · have NE : Hid (¬ SysP x) := LH (NE0.out fun h => by have h1 := h.2.2.1.1.1; rw [<- h.1] at h1; rw [sel_args.2 h1] at r0; cases r0)
    rw [r0] at CSE
    clear r0
    have gc0 := reg (XR _) c0
    have gc1 := reg (XR _) c1
    have gc2 := reg (XR _) c2
    have gc3 := reg (XR _) c3
    have gc4 := reg (XR _) c4
    have gc5 := reg (XR _) c5
    have gc6 := reg (XR _) c6
    have gc7 := reg (XR _) c7
    have gc8 := reg (XR _) c8
    have gc9 := reg (XR _) c9
    have gm0 := reg (XR _) m0
    refine wp_region_quiet_below (by kernel_rfl) (by kernel_rfl) ?_
    repeat (go_big_quiet_step (first | (go_at_call 42; exact Calls.regrown_of (CSE.out _ (below_regrown _ _ _)))))
    refine wpQuiet_nil ?_
    clear gc0 gc1 gc2 gc3 gc4 gc5 gc6 gc7 gc8 gc9 gm0
    intro _ hw'
    obtain ⟨pw, hw''⟩ := hw'
    subst hw''
    have X2 := regx W1 pw
    generalize hW2 : «Sort».grow (redrawn W1 pw.d) pw.os = W2 at *
    clear hW2
    go_wp2_with fail
    go_ret
    exact ⟨ret_bool (prB_ff NE.out).symm, E1.trans X2⟩
  rw [r0] at CSE
  clear r0
  by_cases r1 : argsB r.selector = r.params
  rotate_left
  · have NE : Hid (¬ SysP x) := LH (NE0.out fun h => r1 h.1)
    have t1 := int_nen r1
    have t1' := int_ne r1
    have R1 := LH r1; clear r1
    have gc0 := reg (XR _) c0
    have gc1 := reg (XR _) c1
    have gc2 := reg (XR _) c2
    have gc3 := reg (XR _) c3
    have gc4 := reg (XR _) c4
    have gc5 := reg (XR _) c5
    have gc6 := reg (XR _) c6
    have gc7 := reg (XR _) c7
    have gc8 := reg (XR _) c8
    have gc9 := reg (XR _) c9
    have gm0 := reg (XR _) m0
    refine wp_region_quiet_below (by kernel_rfl) (by kernel_rfl) ?_
    repeat (go_big_quiet_step (first | (go_at_call 42; exact Calls.regrown_of (CSE.out _ (below_regrown _ _ _))) | (go_at_call 43; exact Calls.regrown_of (CAR.out _ (below_regrown _ _ _)))))
    refine wpQuiet_nil ?_
    clear gc0 gc1 gc2 gc3 gc4 gc5 gc6 gc7 gc8 gc9 gm0
    intro _ hw'
    obtain ⟨pw, hw''⟩ := hw'
    subst hw''
    have X2 := regx W1 pw
    generalize hW2 : «Sort».grow (redrawn W1 pw.d) pw.os = W2 at *
    clear hW2
    go_wp2_with fail
    go_ret
    exact ⟨ret_bool (prB_ff NE.out).symm, E1.trans X2⟩
  have t1 := int_eqn r1
  have R1 := LH r1; clear r1
  cases r2 : inR 16 ((x.classes.length : Int) - 1) r.owner
  · have NE : Hid (¬ SysP x) := LH (NE0.out fun h => inR_ff r2 h.2.1)
    have CWN : Hid (∀ W, Calls Tryz.prog 44 #[.int .i64 r.owner, .int .i64 16, .int .i64 ((x.classes.length : Int) - 1)] W fun e w' => e = .returned (.bool false) /\ Ext W w') := LH fun W => (l1In_any r.owner 16 _ W).mono fun e w' h => ⟨by rw [h.1, show decide (16 <= r.owner /\ r.owner <= (x.classes.length : Int) - 1) = _ from r2], by rw [h.2]; exact XR _⟩
    clear r2
    have gc0 := reg (XR _) c0
    have gc1 := reg (XR _) c1
    have gc2 := reg (XR _) c2
    have gc3 := reg (XR _) c3
    have gc4 := reg (XR _) c4
    have gc5 := reg (XR _) c5
    have gc6 := reg (XR _) c6
    have gc7 := reg (XR _) c7
    have gc8 := reg (XR _) c8
    have gc9 := reg (XR _) c9
    have gm0 := reg (XR _) m0
    refine wp_region_quiet_below (by kernel_rfl) (by kernel_rfl) ?_
    repeat (go_big_quiet_step (first | (go_at_call 42; exact Calls.regrown_of (CSE.out _ (below_regrown _ _ _))) | (go_at_call 43; exact Calls.regrown_of (CAR.out _ (below_regrown _ _ _))) | (go_at_call 44; exact Calls.regrown_of (CWN.out _))))
    refine wpQuiet_nil ?_
    clear gc0 gc1 gc2 gc3 gc4 gc5 gc6 gc7 gc8 gc9 gm0
    intro _ hw'
    obtain ⟨pw, hw''⟩ := hw'
    subst hw''
    have X2 := regx W1 pw
    generalize hW2 : «Sort».grow (redrawn W1 pw.d) pw.os = W2 at *
    clear hW2
    go_wp2_with fail
    go_ret
    exact ⟨ret_bool (prB_ff NE.out).symm, E1.trans X2⟩
  have CWN : Hid (∀ W, Calls Tryz.prog 44 #[.int .i64 r.owner, .int .i64 16, .int .i64 ((x.classes.length : Int) - 1)] W fun e w' => e = .returned (.bool true) /\ Ext W w') := LH fun W => (l1In_any r.owner 16 _ W).mono fun e w' h => ⟨by rw [h.1, show decide (16 <= r.owner /\ r.owner <= (x.classes.length : Int) - 1) = _ from r2], by rw [h.2]; exact XR _⟩
  have R2 := LH (inR_iff.1 r2); clear r2
  cases r3 : prB (routP x.classes.length r)
  · have NE : Hid (¬ SysP x) := LH (NE0.out fun h => by have := prB_tt h.2.2.1; rw [r3] at this; cases this)
    rw [r3] at CRT
    clear r3
    have gc0 := reg (XR _) c0
    have gc1 := reg (XR _) c1
    have gc2 := reg (XR _) c2
    have gc3 := reg (XR _) c3
    have gc4 := reg (XR _) c4
    have gc5 := reg (XR _) c5
    have gc6 := reg (XR _) c6
    have gc7 := reg (XR _) c7
    have gc8 := reg (XR _) c8
    have gc9 := reg (XR _) c9
    have gm0 := reg (XR _) m0
    refine wp_region_quiet_below (by kernel_rfl) (by kernel_rfl) ?_
    repeat (go_big_quiet_step (first | (go_at_call 42; exact Calls.regrown_of (CSE.out _ (below_regrown _ _ _))) | (go_at_call 43; exact Calls.regrown_of (CAR.out _ (below_regrown _ _ _))) | (go_at_call 44; exact Calls.regrown_of (CWN.out _)) | (go_at_call 41; exact Calls.regrown_of (CRT.out _ (below_regrown _ _ _)))))
    refine wpQuiet_nil ?_
    clear gc0 gc1 gc2 gc3 gc4 gc5 gc6 gc7 gc8 gc9 gm0
    intro _ hw'
    obtain ⟨pw, hw''⟩ := hw'
    subst hw''
    have X2 := regx W1 pw
    generalize hW2 : «Sort».grow (redrawn W1 pw.d) pw.os = W2 at *
    clear hW2
    go_wp2_with fail
    go_ret
    exact ⟨ret_bool (prB_ff NE.out).symm, E1.trans X2⟩
  rw [r3] at CRT
  have R3 := LH (prB_iff.1 r3); clear r3
  have gc0 := reg (XR _) c0
  have gc1 := reg (XR _) c1
  have gc2 := reg (XR _) c2
  have gc3 := reg (XR _) c3
  have gc4 := reg (XR _) c4
  have gc5 := reg (XR _) c5
  have gc6 := reg (XR _) c6
  have gc7 := reg (XR _) c7
  have gc8 := reg (XR _) c8
  have gc9 := reg (XR _) c9
  have gm0 := reg (XR _) m0
  refine wp_region_quiet_below (by kernel_rfl) (by kernel_rfl) ?_
  repeat (go_big_quiet_step (first | (go_at_call 42; exact Calls.regrown_of (CSE.out _ (below_regrown _ _ _))) | (go_at_call 43; exact Calls.regrown_of (CAR.out _ (below_regrown _ _ _))) | (go_at_call 44; exact Calls.regrown_of (CWN.out _)) | (go_at_call 41; exact Calls.regrown_of (CRT.out _ (below_regrown _ _ _)))))
  refine wpQuiet_nil ?_
  clear gc0 gc1 gc2 gc3 gc4 gc5 gc6 gc7 gc8 gc9 gm0
  intro _ hw'
  obtain ⟨pw, hw''⟩ := hw'
  subst hw''
  have X2 := regx W1 pw
  generalize hW2 : «Sort».grow (redrawn W1 pw.d) pw.os = W2 at *
  clear hW2
  replace c0 := Ext.cell X2 c0
  replace c1 := Ext.cell X2 c1
  replace c2 := Ext.cell X2 c2
  replace m0 := Ext.cell X2 m0
  replace m1 := Ext.cell X2 m1
  have E2 := E1.trans X2
  have HX2 : Hid (Ext w3 W2) := LH (HX1.out.trans X2)
  clear c3 c4 c5 c6 c7 c8 c9 CAR CRT CWN X2 t1 E1 CSE
  have DUP : Hid (∀ i e, i < k -> x.routines[i]? = some e -> (e.selector = r.selector /\ e.owner = r.owner /\ e.cls = r.cls) -> ¬ SysP x) := LH fun i e h1 h2 h3 => NE0.out fun h => h.2.2.2 i e h1 h2 h3
  have DONE : Hid ((∀ i e, i < k -> x.routines[i]? = some e -> ¬ (e.selector = r.selector /\ e.owner = r.owner /\ e.cls = r.cls)) -> ∀ i r, i < k + 1 -> x.routines[i]? = some r -> RoutAt x.classes.length x.routines i r) := LH fun h => REL.out ⟨R1.out, R2.out, R3.out, h⟩
  clear REL NE0
  have hkc : k <= cr := by omega
  have hkc' : (k : Int) <= cr := by omega
  go_wp2_with fail
  go_loopw [5] (fun jv w5 => ∃ j : Nat, j <= k /\ jv = .int .i64 j /\ Ext W2 w5 /\ Hid (∀ i e, i < j -> x.routines[i]? = some e -> ¬ (e.selector = r.selector /\ e.owner = r.owner /\ e.cls = r.cls))) (fun jv _ => k - (intOf jv).toNat)
  case atStart => exact ⟨0, Nat.zero_le _, rfl, XR _, LH fun i e hi => by omega⟩
  case round =>
   obtain ⟨j, hj, rfl, hx5, hJ⟩ := hrel
   replace c0 := Ext.cell hx5 c0
   replace c1 := Ext.cell hx5 c1
   replace c2 := Ext.cell hx5 c2
   replace m1 := Ext.cell hx5 m1
   replace m0 := Ext.cell hx5 m0
   have E5 := E2.trans hx5
   clear E2
   by_cases hjk : j < k
   rotate_left
   · obtain rfl : j = k := by omega
     have HN := LH (DONE.out hJ.out)
     go_wp2_with fail
     go_roundw
     case rel => exact ⟨j + 1, by omega, by go_num, HX2.out.trans hx5, HN⟩
     case measure => simp [intOf]; omega
   obtain ⟨e, he⟩ : ∃ e, e = x.routines[j] := ⟨_, rfl⟩
   have hej : x.routines[j]? = some e := by rw [he]; simp [show j < x.routines.length by omega]
   clear he
   obtain ⟨es, les, ces, res⟩ := HAR.out j e hej
   obtain ⟨ae, ce, rfl, -, -⟩ := MRoutine.op_en res
   have d0 := E5.cell (show w.cell? ⟨br, orr + j * 10, none⟩ = some _ from ces 0 (by omega))
   have d1 := E5.cell (show w.cell? ⟨br, orr + j * 10 + 1, none⟩ = some _ from ces 1 (by omega))
   have d2 := E5.cell (show w.cell? ⟨br, orr + j * 10 + 2, none⟩ = some _ from ces 2 (by omega))
   have d3 := E5.cell (show w.cell? ⟨br, orr + j * 10 + 3, none⟩ = some _ from ces 3 (by omega))
   have d4 := E5.cell (show w.cell? ⟨br, orr + j * 10 + 4, none⟩ = some _ from ces 4 (by omega))
   have d5 := E5.cell (show w.cell? ⟨br, orr + j * 10 + 5, none⟩ = some _ from ces 5 (by omega))
   have d6 := E5.cell (show w.cell? ⟨br, orr + j * 10 + 6, none⟩ = some _ from ces 6 (by omega))
   have d7 := E5.cell (show w.cell? ⟨br, orr + j * 10 + 7, none⟩ = some _ from ces 7 (by omega))
   have d8 := E5.cell (show w.cell? ⟨br, orr + j * 10 + 8, none⟩ = some _ from ces 8 (by omega))
   have d9 := E5.cell (show w.cell? ⟨br, orr + j * 10 + 9, none⟩ = some _ from ces 9 (by omega))
   have HEJ := LH hej
   have hjl : (j : Int) < x.routines.length := by omega
   have hjk' : (j : Int) < k := by omega
   clear les ces res hej
   have STEP : Hid (¬ (e.selector = r.selector /\ e.owner = r.owner /\ e.cls = r.cls) -> ∀ i e, i < j + 1 -> x.routines[i]? = some e -> ¬ (e.selector = r.selector /\ e.owner = r.owner /\ e.cls = r.cls)) := LH fun h i e2 hi he2 => by
    by_cases h2 : i < j
    · exact hJ.out i e2 h2 he2
    · obtain rfl : i = j := by omega
      rw [HEJ.out] at he2; injection he2 with he2; subst he2; exact h
   have zb := lt_of_cell c0
   by_cases z1 : e.selector = r.selector
   rotate_left
   · have HS := LH (STEP.out fun h => z1 h.1)
     have s1 := str_ne z1
     clear z1 STEP
     go_upto_region 12 with fail
     have gc0 := reg (XR _) c0
     have gc1 := reg (XR _) c1
     have gc2 := reg (XR _) c2
     have gd0 := reg (XR _) d0
     have gd1 := reg (XR _) d1
     have gd2 := reg (XR _) d2
     have gm1 := reg (XR _) m1
     refine wp_region_quiet_below (by kernel_rfl) (by kernel_rfl) ?_
     repeat (go_big_quiet_step (fail))
     refine wpQuiet_nil ?_
     clear gc0 gc1 gc2 gd0 gd1 gd2 gm1
     intro _ hw'
     obtain ⟨pw, hw''⟩ := hw'
     subst hw''
     have X6 := regx wr pw
     generalize hW6 : «Sort».grow (redrawn wr pw.d) pw.os = w6 at *
     clear hW6
     go_wp2_with fail
     go_roundw
     case rel => exact ⟨j + 1, by omega, by go_num, hx5.trans X6, HS⟩
     case measure => simp [intOf]; omega
   have s1 := str_eq z1
   have Z1 := LH z1; clear z1
   by_cases z2 : e.owner = r.owner
   rotate_left
   · have HS := LH (STEP.out fun h => z2 h.2.1)
     have s2 := int_ne z2
     clear z2 STEP
     go_upto_region 12 with fail
     have gc0 := reg (XR _) c0
     have gc1 := reg (XR _) c1
     have gc2 := reg (XR _) c2
     have gd0 := reg (XR _) d0
     have gd1 := reg (XR _) d1
     have gd2 := reg (XR _) d2
     have gm1 := reg (XR _) m1
     refine wp_region_quiet_below (by kernel_rfl) (by kernel_rfl) ?_
     repeat (go_big_quiet_step (fail))
     refine wpQuiet_nil ?_
     clear gc0 gc1 gc2 gd0 gd1 gd2 gm1
     intro _ hw'
     obtain ⟨pw, hw''⟩ := hw'
     subst hw''
     have X6 := regx wr pw
     generalize hW6 : «Sort».grow (redrawn wr pw.d) pw.os = w6 at *
     clear hW6
     go_wp2_with fail
     go_roundw
     case rel => exact ⟨j + 1, by omega, by go_num, hx5.trans X6, HS⟩
     case measure => simp [intOf]; omega
   have s2 := int_eq z2
   have Z2 := LH z2; clear z2
   by_cases z3 : e.cls = r.cls
   rotate_left
   · have HS := LH (STEP.out fun h => z3 h.2.2)
     have s3 : (e.cls == r.cls) = false := by simpa using z3
     clear z3 STEP
     go_upto_region 12 with fail
     have gc0 := reg (XR _) c0
     have gc1 := reg (XR _) c1
     have gc2 := reg (XR _) c2
     have gd0 := reg (XR _) d0
     have gd1 := reg (XR _) d1
     have gd2 := reg (XR _) d2
     have gm1 := reg (XR _) m1
     refine wp_region_quiet_below (by kernel_rfl) (by kernel_rfl) ?_
     repeat (go_big_quiet_step (fail))
     refine wpQuiet_nil ?_
     clear gc0 gc1 gc2 gd0 gd1 gd2 gm1
     intro _ hw'
     obtain ⟨pw, hw''⟩ := hw'
     subst hw''
     have X6 := regx wr pw
     generalize hW6 : «Sort».grow (redrawn wr pw.d) pw.os = w6 at *
     clear hW6
     go_wp2_with fail
     go_roundw
     case rel => exact ⟨j + 1, by omega, by go_num, hx5.trans X6, HS⟩
     case measure => simp [intOf]; omega
   have s3 : (e.cls == r.cls) = true := by simpa using z3
   have NE : Hid (¬ SysP x) := LH (DUP.out j e hjk HEJ.out ⟨Z1.out, Z2.out, z3⟩)
   clear z3 STEP
   go_upto_region 12 with fail
   have gc0 := reg (XR _) c0
   have gc1 := reg (XR _) c1
   have gc2 := reg (XR _) c2
   have gd0 := reg (XR _) d0
   have gd1 := reg (XR _) d1
   have gd2 := reg (XR _) d2
   have gm1 := reg (XR _) m1
   refine wp_region_quiet_below (by kernel_rfl) (by kernel_rfl) ?_
   repeat (go_big_quiet_step (fail))
   refine wpQuiet_nil ?_
   clear gc0 gc1 gc2 gd0 gd1 gd2 gm1
   intro _ hw'
   obtain ⟨pw, hw''⟩ := hw'
   subst hw''
   have X6 := regx wr pw
   generalize hW6 : «Sort».grow (redrawn wr pw.d) pw.os = w6 at *
   clear hW6
   go_wp2_with fail
   go_ret
   exact ⟨ret_bool (prB_ff NE.out).symm, E5.trans X6⟩
end Go.Proofs.YtlaclfeljimffaaGreatDoor
