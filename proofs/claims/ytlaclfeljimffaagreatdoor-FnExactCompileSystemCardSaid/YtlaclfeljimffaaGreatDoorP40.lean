/-
  CONTRACTS: limits and routines, of the program and of the reference.
  Conditions: those that each lemma states.
-/
import Derived.Test.YtlaclfeljimffaaGreatDoorRows
import Derived.Test.YtlaclfeljimffaaGreatDoorP15
import Derived.Test.YtlaclfeljimffaaGreatDoorP32
import Derived.Test.YtlaclfeljimffaaGreatDoorP39
namespace Go.Proofs.YtlaclfeljimffaaGreatDoor
open Go.RowKit
set_option maxHeartbeats 8000000
set_option maxRecDepth 100000
set_option linter.unusedSimpArgs false
set_option linter.unusedVariables false
theorem fr_one {w : World} (p s : Int) : Rep (w.alloc (.cells #[.int .i64 p, .int .i64 s] 135)) (frD [(p, s)]) [.slice (some ⟨w.heap.size, 0, none⟩) 1 1] := by
 refine fr_make (F := [(p, s)]) (by simp) (by simp) (by unfold maxLen; omega) (fun i f hf => ?_)
 cases i with
 | zero => simp at hf; subst hf; simp
 | succ i => simp at hf
theorem frOk_one {p s : Int} (h0 : 0 <= p) (h1 : p <= s) (h2 : s <= 30) : FrOk [(p, s)] := ⟨by simp, fun f hf => by simp at hf; subst hf; exact ⟨h0, h1, h2⟩⟩
theorem limitsOk_any (r : MRoutine) (cr : List Value) (w : World) (rr : Rep w r.d cr) (hb : r.body.d.bulk <= 1048576) :
 Calls Tryz.prog 86 #[.agg cr.toArray] w fun e w' => e = .returned (.bool (prB (fitsR r))) /\ Ext w w' := by
 obtain ⟨ab, cb, rfl, rk, rb⟩ := MRoutine.op_en rr
 have RB := LH rb
 have RR := LH rr
 have hn := core_size hb
 clear rr rk rb
 by_cases h1 : r.slots <= 30
 rotate_left
 · have NE : Hid (¬ fitsR r) := LH (fun h => h1 h.1)
   go_enter Tryz.func86, Tryz.ntmps86
   go_upto_region 1 with fail
   generalize hS : World.alloc w _ = W1
   have x1 : Ext w W1 := by rw [<- hS]; exact (XR _).alloc _
   have m0 : W1.cell? ⟨w.heap.size, 0, none⟩ = some (.string r.selector) := by rw [<- hS]; simp <;> assumption
   have m1 : W1.cell? ⟨w.heap.size, 1, none⟩ = some (.int .i64 r.owner) := by rw [<- hS]; simp <;> assumption
   have m2 : W1.cell? ⟨w.heap.size, 2, none⟩ = some (.bool r.cls) := by rw [<- hS]; simp <;> assumption
   have m3 : W1.cell? ⟨w.heap.size, 3, none⟩ = some (.int .i64 r.params) := by rw [<- hS]; simp <;> assumption
   have m4 : W1.cell? ⟨w.heap.size, 4, none⟩ = some (.int .i64 r.slots) := by rw [<- hS]; simp <;> assumption
   have m5 : W1.cell? ⟨w.heap.size, 5, none⟩ = some (.int .i64 r.body.kind) := by rw [<- hS]; simp <;> assumption
   have m6 : W1.cell? ⟨w.heap.size, 6, none⟩ = some (.string r.body.text) := by rw [<- hS]; simp <;> assumption
   have m7 : W1.cell? ⟨w.heap.size, 7, none⟩ = some (.int .i64 r.body.number) := by rw [<- hS]; simp <;> assumption
   have m8 : W1.cell? ⟨w.heap.size, 8, none⟩ = some (.int .i64 r.body.depth) := by rw [<- hS]; simp <;> assumption
   have m9 : W1.cell? ⟨w.heap.size, 9, none⟩ = some (.slice ab r.body.kids.length cb) := by rw [<- hS]; simp <;> assumption
   clear hS
   go_wp2_with fail
   refine (countCore_lt (SizeOf.sizeOf r.body + 1) r.body _ _ (Nat.lt_succ_self _) hn (Rep.ext x1 RB.out)).mono ?_
   rintro e w2 ⟨rfl, hx2⟩
   replace m3 := Ext.cell hx2 m3
   replace m4 := Ext.cell hx2 m4
   replace m5 := Ext.cell hx2 m5
   replace m6 := Ext.cell hx2 m6
   replace m7 := Ext.cell hx2 m7
   replace m8 := Ext.cell hx2 m8
   replace m9 := Ext.cell hx2 m9
   replace x1 := x1.trans hx2
   clear hx2
   go_wp2_with fail
   go_ret
   exact ⟨ret_bool (prB_ff NE.out).symm, x1⟩
 by_cases h2 : (r.body.nodes : Int) <= 500
 rotate_left
 · have NE : Hid (¬ fitsR r) := LH (fun h => h2 (by have := h.2.1; omega))
   go_enter Tryz.func86, Tryz.ntmps86
   go_upto_region 1 with fail
   generalize hS : World.alloc w _ = W1
   have x1 : Ext w W1 := by rw [<- hS]; exact (XR _).alloc _
   have m0 : W1.cell? ⟨w.heap.size, 0, none⟩ = some (.string r.selector) := by rw [<- hS]; simp <;> assumption
   have m1 : W1.cell? ⟨w.heap.size, 1, none⟩ = some (.int .i64 r.owner) := by rw [<- hS]; simp <;> assumption
   have m2 : W1.cell? ⟨w.heap.size, 2, none⟩ = some (.bool r.cls) := by rw [<- hS]; simp <;> assumption
   have m3 : W1.cell? ⟨w.heap.size, 3, none⟩ = some (.int .i64 r.params) := by rw [<- hS]; simp <;> assumption
   have m4 : W1.cell? ⟨w.heap.size, 4, none⟩ = some (.int .i64 r.slots) := by rw [<- hS]; simp <;> assumption
   have m5 : W1.cell? ⟨w.heap.size, 5, none⟩ = some (.int .i64 r.body.kind) := by rw [<- hS]; simp <;> assumption
   have m6 : W1.cell? ⟨w.heap.size, 6, none⟩ = some (.string r.body.text) := by rw [<- hS]; simp <;> assumption
   have m7 : W1.cell? ⟨w.heap.size, 7, none⟩ = some (.int .i64 r.body.number) := by rw [<- hS]; simp <;> assumption
   have m8 : W1.cell? ⟨w.heap.size, 8, none⟩ = some (.int .i64 r.body.depth) := by rw [<- hS]; simp <;> assumption
   have m9 : W1.cell? ⟨w.heap.size, 9, none⟩ = some (.slice ab r.body.kids.length cb) := by rw [<- hS]; simp <;> assumption
   clear hS
   go_wp2_with fail
   refine (countCore_lt (SizeOf.sizeOf r.body + 1) r.body _ _ (Nat.lt_succ_self _) hn (Rep.ext x1 RB.out)).mono ?_
   rintro e w2 ⟨rfl, hx2⟩
   replace m3 := Ext.cell hx2 m3
   replace m4 := Ext.cell hx2 m4
   replace m5 := Ext.cell hx2 m5
   replace m6 := Ext.cell hx2 m6
   replace m7 := Ext.cell hx2 m7
   replace m8 := Ext.cell hx2 m8
   replace m9 := Ext.cell hx2 m9
   replace x1 := x1.trans hx2
   clear hx2
   go_wp2_with fail
   go_ret
   exact ⟨ret_bool (prB_ff NE.out).symm, x1⟩
 by_cases h3 : (r.body.deep : Int) <= 40
 rotate_left
 · have NE : Hid (¬ fitsR r) := LH (fun h => h3 (by have := h.2.2.1; omega))
   go_enter Tryz.func86, Tryz.ntmps86
   go_upto_region 1 with fail
   generalize hS : World.alloc w _ = W1
   have x1 : Ext w W1 := by rw [<- hS]; exact (XR _).alloc _
   have m0 : W1.cell? ⟨w.heap.size, 0, none⟩ = some (.string r.selector) := by rw [<- hS]; simp <;> assumption
   have m1 : W1.cell? ⟨w.heap.size, 1, none⟩ = some (.int .i64 r.owner) := by rw [<- hS]; simp <;> assumption
   have m2 : W1.cell? ⟨w.heap.size, 2, none⟩ = some (.bool r.cls) := by rw [<- hS]; simp <;> assumption
   have m3 : W1.cell? ⟨w.heap.size, 3, none⟩ = some (.int .i64 r.params) := by rw [<- hS]; simp <;> assumption
   have m4 : W1.cell? ⟨w.heap.size, 4, none⟩ = some (.int .i64 r.slots) := by rw [<- hS]; simp <;> assumption
   have m5 : W1.cell? ⟨w.heap.size, 5, none⟩ = some (.int .i64 r.body.kind) := by rw [<- hS]; simp <;> assumption
   have m6 : W1.cell? ⟨w.heap.size, 6, none⟩ = some (.string r.body.text) := by rw [<- hS]; simp <;> assumption
   have m7 : W1.cell? ⟨w.heap.size, 7, none⟩ = some (.int .i64 r.body.number) := by rw [<- hS]; simp <;> assumption
   have m8 : W1.cell? ⟨w.heap.size, 8, none⟩ = some (.int .i64 r.body.depth) := by rw [<- hS]; simp <;> assumption
   have m9 : W1.cell? ⟨w.heap.size, 9, none⟩ = some (.slice ab r.body.kids.length cb) := by rw [<- hS]; simp <;> assumption
   clear hS
   go_wp2_with fail
   refine (countCore_lt (SizeOf.sizeOf r.body + 1) r.body _ _ (Nat.lt_succ_self _) hn (Rep.ext x1 RB.out)).mono ?_
   rintro e w2 ⟨rfl, hx2⟩
   replace m3 := Ext.cell hx2 m3
   replace m4 := Ext.cell hx2 m4
   replace m5 := Ext.cell hx2 m5
   replace m6 := Ext.cell hx2 m6
   replace m7 := Ext.cell hx2 m7
   replace m8 := Ext.cell hx2 m8
   replace m9 := Ext.cell hx2 m9
   replace x1 := x1.trans hx2
   clear hx2
   go_wp2_with fail
   go_ret
   exact ⟨ret_bool (prB_ff NE.out).symm, x1⟩
 cases hg : prB r.body.slim
 · have NE : Hid (¬ fitsR r) := LH (fun h => by have := prB_tt h.2.2.2; rw [hg] at this; cases this)
   go_enter Tryz.func86, Tryz.ntmps86
   go_upto_region 1 with fail
   generalize hS : World.alloc w _ = W1
   have x1 : Ext w W1 := by rw [<- hS]; exact (XR _).alloc _
   have m0 : W1.cell? ⟨w.heap.size, 0, none⟩ = some (.string r.selector) := by rw [<- hS]; simp <;> assumption
   have m1 : W1.cell? ⟨w.heap.size, 1, none⟩ = some (.int .i64 r.owner) := by rw [<- hS]; simp <;> assumption
   have m2 : W1.cell? ⟨w.heap.size, 2, none⟩ = some (.bool r.cls) := by rw [<- hS]; simp <;> assumption
   have m3 : W1.cell? ⟨w.heap.size, 3, none⟩ = some (.int .i64 r.params) := by rw [<- hS]; simp <;> assumption
   have m4 : W1.cell? ⟨w.heap.size, 4, none⟩ = some (.int .i64 r.slots) := by rw [<- hS]; simp <;> assumption
   have m5 : W1.cell? ⟨w.heap.size, 5, none⟩ = some (.int .i64 r.body.kind) := by rw [<- hS]; simp <;> assumption
   have m6 : W1.cell? ⟨w.heap.size, 6, none⟩ = some (.string r.body.text) := by rw [<- hS]; simp <;> assumption
   have m7 : W1.cell? ⟨w.heap.size, 7, none⟩ = some (.int .i64 r.body.number) := by rw [<- hS]; simp <;> assumption
   have m8 : W1.cell? ⟨w.heap.size, 8, none⟩ = some (.int .i64 r.body.depth) := by rw [<- hS]; simp <;> assumption
   have m9 : W1.cell? ⟨w.heap.size, 9, none⟩ = some (.slice ab r.body.kids.length cb) := by rw [<- hS]; simp <;> assumption
   clear hS
   go_wp2_with fail
   refine (countCore_lt (SizeOf.sizeOf r.body + 1) r.body _ _ (Nat.lt_succ_self _) hn (Rep.ext x1 RB.out)).mono ?_
   rintro e w2 ⟨rfl, hx2⟩
   replace m3 := Ext.cell hx2 m3
   replace m4 := Ext.cell hx2 m4
   replace m5 := Ext.cell hx2 m5
   replace m6 := Ext.cell hx2 m6
   replace m7 := Ext.cell hx2 m7
   replace m8 := Ext.cell hx2 m8
   replace m9 := Ext.cell hx2 m9
   replace x1 := x1.trans hx2
   clear hx2
   go_wp2_with fail
   refine (slotsOk_lt (SizeOf.sizeOf r.body + 1) r.body _ _ (Nat.lt_succ_self _) hn (Rep.ext x1 RB.out)).mono ?_
   rw [hg]
   rintro e w3 ⟨rfl, hx3⟩
   go_wp2_with fail
   go_ret
   exact ⟨ret_bool (prB_ff NE.out).symm, x1.trans hx3⟩
 have YE : Hid (fitsR r) := LH ⟨h1, by omega, by omega, prB_iff.1 hg⟩
 go_enter Tryz.func86, Tryz.ntmps86
 go_upto_region 1 with fail
 generalize hS : World.alloc w _ = W1
 have x1 : Ext w W1 := by rw [<- hS]; exact (XR _).alloc _
 have m0 : W1.cell? ⟨w.heap.size, 0, none⟩ = some (.string r.selector) := by rw [<- hS]; simp <;> assumption
 have m1 : W1.cell? ⟨w.heap.size, 1, none⟩ = some (.int .i64 r.owner) := by rw [<- hS]; simp <;> assumption
 have m2 : W1.cell? ⟨w.heap.size, 2, none⟩ = some (.bool r.cls) := by rw [<- hS]; simp <;> assumption
 have m3 : W1.cell? ⟨w.heap.size, 3, none⟩ = some (.int .i64 r.params) := by rw [<- hS]; simp <;> assumption
 have m4 : W1.cell? ⟨w.heap.size, 4, none⟩ = some (.int .i64 r.slots) := by rw [<- hS]; simp <;> assumption
 have m5 : W1.cell? ⟨w.heap.size, 5, none⟩ = some (.int .i64 r.body.kind) := by rw [<- hS]; simp <;> assumption
 have m6 : W1.cell? ⟨w.heap.size, 6, none⟩ = some (.string r.body.text) := by rw [<- hS]; simp <;> assumption
 have m7 : W1.cell? ⟨w.heap.size, 7, none⟩ = some (.int .i64 r.body.number) := by rw [<- hS]; simp <;> assumption
 have m8 : W1.cell? ⟨w.heap.size, 8, none⟩ = some (.int .i64 r.body.depth) := by rw [<- hS]; simp <;> assumption
 have m9 : W1.cell? ⟨w.heap.size, 9, none⟩ = some (.slice ab r.body.kids.length cb) := by rw [<- hS]; simp <;> assumption
 clear hS
 go_wp2_with fail
 refine (countCore_lt (SizeOf.sizeOf r.body + 1) r.body _ _ (Nat.lt_succ_self _) hn (Rep.ext x1 RB.out)).mono ?_
 rintro e w2 ⟨rfl, hx2⟩
 replace m3 := Ext.cell hx2 m3
 replace m4 := Ext.cell hx2 m4
 replace m5 := Ext.cell hx2 m5
 replace m6 := Ext.cell hx2 m6
 replace m7 := Ext.cell hx2 m7
 replace m8 := Ext.cell hx2 m8
 replace m9 := Ext.cell hx2 m9
 replace x1 := x1.trans hx2
 clear hx2
 go_wp2_with fail
 refine (slotsOk_lt (SizeOf.sizeOf r.body + 1) r.body _ _ (Nat.lt_succ_self _) hn (Rep.ext x1 RB.out)).mono ?_
 rw [hg]
 rintro e w3 ⟨rfl, hx3⟩
 go_wp2_with fail
 go_ret
 exact ⟨ret_bool (prB_tt YE.out).symm, x1.trans hx3⟩
theorem l8Fits_any (r : MRoutine) (cr : List Value) (w : World) (rr : Rep w r.d cr) (hb : r.body.d.bulk <= 1048576) :
 Calls Tryz.prog 72 #[.agg cr.toArray] w fun e w' => e = .returned (.bool (prB (fitsR r))) /\ Ext w w' := by
 obtain ⟨ab, cb, rfl, rk, rb⟩ := MRoutine.op_en rr
 have RB := LH rb
 have RR := LH rr
 have hn := core_size hb
 clear rr rk rb
 by_cases h1 : r.slots <= 30
 rotate_left
 · have NE : Hid (¬ fitsR r) := LH (fun h => h1 h.1)
   go_enter Tryz.func72, Tryz.ntmps72
   go_upto_region 1 with fail
   generalize hS : World.alloc w _ = W1
   have x1 : Ext w W1 := by rw [<- hS]; exact (XR _).alloc _
   have m0 : W1.cell? ⟨w.heap.size, 0, none⟩ = some (.string r.selector) := by rw [<- hS]; simp <;> assumption
   have m1 : W1.cell? ⟨w.heap.size, 1, none⟩ = some (.int .i64 r.owner) := by rw [<- hS]; simp <;> assumption
   have m2 : W1.cell? ⟨w.heap.size, 2, none⟩ = some (.bool r.cls) := by rw [<- hS]; simp <;> assumption
   have m3 : W1.cell? ⟨w.heap.size, 3, none⟩ = some (.int .i64 r.params) := by rw [<- hS]; simp <;> assumption
   have m4 : W1.cell? ⟨w.heap.size, 4, none⟩ = some (.int .i64 r.slots) := by rw [<- hS]; simp <;> assumption
   have m5 : W1.cell? ⟨w.heap.size, 5, none⟩ = some (.int .i64 r.body.kind) := by rw [<- hS]; simp <;> assumption
   have m6 : W1.cell? ⟨w.heap.size, 6, none⟩ = some (.string r.body.text) := by rw [<- hS]; simp <;> assumption
   have m7 : W1.cell? ⟨w.heap.size, 7, none⟩ = some (.int .i64 r.body.number) := by rw [<- hS]; simp <;> assumption
   have m8 : W1.cell? ⟨w.heap.size, 8, none⟩ = some (.int .i64 r.body.depth) := by rw [<- hS]; simp <;> assumption
   have m9 : W1.cell? ⟨w.heap.size, 9, none⟩ = some (.slice ab r.body.kids.length cb) := by rw [<- hS]; simp <;> assumption
   clear hS
   go_wp2_with fail
   go_ret
   exact ⟨ret_bool (prB_ff NE.out).symm, x1⟩
 by_cases h2 : (r.body.nodes : Int) <= 500
 rotate_left
 · have NE : Hid (¬ fitsR r) := LH (fun h => h2 (by have := h.2.1; omega))
   go_enter Tryz.func72, Tryz.ntmps72
   go_upto_region 1 with fail
   generalize hS : World.alloc w _ = W1
   have x1 : Ext w W1 := by rw [<- hS]; exact (XR _).alloc _
   have m0 : W1.cell? ⟨w.heap.size, 0, none⟩ = some (.string r.selector) := by rw [<- hS]; simp <;> assumption
   have m1 : W1.cell? ⟨w.heap.size, 1, none⟩ = some (.int .i64 r.owner) := by rw [<- hS]; simp <;> assumption
   have m2 : W1.cell? ⟨w.heap.size, 2, none⟩ = some (.bool r.cls) := by rw [<- hS]; simp <;> assumption
   have m3 : W1.cell? ⟨w.heap.size, 3, none⟩ = some (.int .i64 r.params) := by rw [<- hS]; simp <;> assumption
   have m4 : W1.cell? ⟨w.heap.size, 4, none⟩ = some (.int .i64 r.slots) := by rw [<- hS]; simp <;> assumption
   have m5 : W1.cell? ⟨w.heap.size, 5, none⟩ = some (.int .i64 r.body.kind) := by rw [<- hS]; simp <;> assumption
   have m6 : W1.cell? ⟨w.heap.size, 6, none⟩ = some (.string r.body.text) := by rw [<- hS]; simp <;> assumption
   have m7 : W1.cell? ⟨w.heap.size, 7, none⟩ = some (.int .i64 r.body.number) := by rw [<- hS]; simp <;> assumption
   have m8 : W1.cell? ⟨w.heap.size, 8, none⟩ = some (.int .i64 r.body.depth) := by rw [<- hS]; simp <;> assumption
   have m9 : W1.cell? ⟨w.heap.size, 9, none⟩ = some (.slice ab r.body.kids.length cb) := by rw [<- hS]; simp <;> assumption
   clear hS
   go_wp2_with fail
   refine (l8Left_lt (SizeOf.sizeOf r.body + 1) r.body 500 _ _ (Nat.lt_succ_self _) hn (by omega) (by omega) (Rep.ext x1 RB.out)).mono ?_
   rintro e w2 ⟨⟨q, rfl, q0, q1, q2, q3⟩, hx2⟩
   replace m3 := Ext.cell hx2 m3
   replace m4 := Ext.cell hx2 m4
   replace m5 := Ext.cell hx2 m5
   replace m6 := Ext.cell hx2 m6
   replace m7 := Ext.cell hx2 m7
   replace m8 := Ext.cell hx2 m8
   replace m9 := Ext.cell hx2 m9
   replace x1 := x1.trans hx2
   clear hx2
   have hq : q < 0 := by have := q3 (by omega); omega
   have hq' : ¬ 0 <= q := by omega
   clear q0 q1 q2 q3
   go_wp2_with fail
   go_ret
   exact ⟨ret_bool (prB_ff NE.out).symm, x1⟩
 by_cases h3 : (r.body.deepV : Int) <= 40
 rotate_left
 · have NE : Hid (¬ fitsR r) := LH (fun h => h3 (by have := (r.body.deepV_iff 40 (by omega)).2 ⟨h.2.2.2, h.2.2.1⟩; omega))
   go_enter Tryz.func72, Tryz.ntmps72
   go_upto_region 1 with fail
   generalize hS : World.alloc w _ = W1
   have x1 : Ext w W1 := by rw [<- hS]; exact (XR _).alloc _
   have m0 : W1.cell? ⟨w.heap.size, 0, none⟩ = some (.string r.selector) := by rw [<- hS]; simp <;> assumption
   have m1 : W1.cell? ⟨w.heap.size, 1, none⟩ = some (.int .i64 r.owner) := by rw [<- hS]; simp <;> assumption
   have m2 : W1.cell? ⟨w.heap.size, 2, none⟩ = some (.bool r.cls) := by rw [<- hS]; simp <;> assumption
   have m3 : W1.cell? ⟨w.heap.size, 3, none⟩ = some (.int .i64 r.params) := by rw [<- hS]; simp <;> assumption
   have m4 : W1.cell? ⟨w.heap.size, 4, none⟩ = some (.int .i64 r.slots) := by rw [<- hS]; simp <;> assumption
   have m5 : W1.cell? ⟨w.heap.size, 5, none⟩ = some (.int .i64 r.body.kind) := by rw [<- hS]; simp <;> assumption
   have m6 : W1.cell? ⟨w.heap.size, 6, none⟩ = some (.string r.body.text) := by rw [<- hS]; simp <;> assumption
   have m7 : W1.cell? ⟨w.heap.size, 7, none⟩ = some (.int .i64 r.body.number) := by rw [<- hS]; simp <;> assumption
   have m8 : W1.cell? ⟨w.heap.size, 8, none⟩ = some (.int .i64 r.body.depth) := by rw [<- hS]; simp <;> assumption
   have m9 : W1.cell? ⟨w.heap.size, 9, none⟩ = some (.slice ab r.body.kids.length cb) := by rw [<- hS]; simp <;> assumption
   clear hS
   go_wp2_with fail
   refine (l8Left_lt (SizeOf.sizeOf r.body + 1) r.body 500 _ _ (Nat.lt_succ_self _) hn (by omega) (by omega) (Rep.ext x1 RB.out)).mono ?_
   rintro e w2 ⟨⟨q, rfl, q0, q1, q2, q3⟩, hx2⟩
   replace m3 := Ext.cell hx2 m3
   replace m4 := Ext.cell hx2 m4
   replace m5 := Ext.cell hx2 m5
   replace m6 := Ext.cell hx2 m6
   replace m7 := Ext.cell hx2 m7
   replace m8 := Ext.cell hx2 m8
   replace m9 := Ext.cell hx2 m9
   replace x1 := x1.trans hx2
   clear hx2
   have hq : 0 <= q := by have := q2 (by omega); omega
   clear q0 q1 q2 q3
   go_wp2_with fail
   refine (l8Deep_lt (SizeOf.sizeOf r.body + 1) r.body _ _ (Nat.lt_succ_self _) hn (Rep.ext x1 RB.out)).mono ?_
   rintro e w3 ⟨rfl, hx3⟩
   go_wp2_with fail
   go_ret
   exact ⟨ret_bool ((decide_eq_false (by omega)).trans (prB_ff NE.out).symm), x1.trans hx3⟩
 have hv := (r.body.deepV_iff 40 (by omega)).1 (by omega)
 have YE : Hid (fitsR r) := LH ⟨h1, by omega, hv.2, hv.1⟩
 clear hv
 go_enter Tryz.func72, Tryz.ntmps72
 go_upto_region 1 with fail
 generalize hS : World.alloc w _ = W1
 have x1 : Ext w W1 := by rw [<- hS]; exact (XR _).alloc _
 have m0 : W1.cell? ⟨w.heap.size, 0, none⟩ = some (.string r.selector) := by rw [<- hS]; simp <;> assumption
 have m1 : W1.cell? ⟨w.heap.size, 1, none⟩ = some (.int .i64 r.owner) := by rw [<- hS]; simp <;> assumption
 have m2 : W1.cell? ⟨w.heap.size, 2, none⟩ = some (.bool r.cls) := by rw [<- hS]; simp <;> assumption
 have m3 : W1.cell? ⟨w.heap.size, 3, none⟩ = some (.int .i64 r.params) := by rw [<- hS]; simp <;> assumption
 have m4 : W1.cell? ⟨w.heap.size, 4, none⟩ = some (.int .i64 r.slots) := by rw [<- hS]; simp <;> assumption
 have m5 : W1.cell? ⟨w.heap.size, 5, none⟩ = some (.int .i64 r.body.kind) := by rw [<- hS]; simp <;> assumption
 have m6 : W1.cell? ⟨w.heap.size, 6, none⟩ = some (.string r.body.text) := by rw [<- hS]; simp <;> assumption
 have m7 : W1.cell? ⟨w.heap.size, 7, none⟩ = some (.int .i64 r.body.number) := by rw [<- hS]; simp <;> assumption
 have m8 : W1.cell? ⟨w.heap.size, 8, none⟩ = some (.int .i64 r.body.depth) := by rw [<- hS]; simp <;> assumption
 have m9 : W1.cell? ⟨w.heap.size, 9, none⟩ = some (.slice ab r.body.kids.length cb) := by rw [<- hS]; simp <;> assumption
 clear hS
 go_wp2_with fail
 refine (l8Left_lt (SizeOf.sizeOf r.body + 1) r.body 500 _ _ (Nat.lt_succ_self _) hn (by omega) (by omega) (Rep.ext x1 RB.out)).mono ?_
 rintro e w2 ⟨⟨q, rfl, q0, q1, q2, q3⟩, hx2⟩
 replace m3 := Ext.cell hx2 m3
 replace m4 := Ext.cell hx2 m4
 replace m5 := Ext.cell hx2 m5
 replace m6 := Ext.cell hx2 m6
 replace m7 := Ext.cell hx2 m7
 replace m8 := Ext.cell hx2 m8
 replace m9 := Ext.cell hx2 m9
 replace x1 := x1.trans hx2
 clear hx2
 have hq : 0 <= q := by have := q2 (by omega); omega
 clear q0 q1 q2 q3
 go_wp2_with fail
 refine (l8Deep_lt (SizeOf.sizeOf r.body + 1) r.body _ _ (Nat.lt_succ_self _) hn (Rep.ext x1 RB.out)).mono ?_
 rintro e w3 ⟨rfl, hx3⟩
 go_wp2_with fail
 go_ret
 exact ⟨ret_bool (prB_tt YE.out).symm, x1.trans hx3⟩
theorem routineOk_any (r : MRoutine) (cr : List Value) (K : Int) (w : World) (rr : Rep w r.d cr) (hb : r.body.d.bulk <= 1048576) (hK0 : 0 <= K) (hK1 : K <= 1000) (hM : MaxOk w) :
 Calls Tryz.prog 50 #[.agg cr.toArray, .int .i64 K] w fun e w' => e = .returned (.bool (prB (routP K r))) /\ Ext w w' := by
 obtain ⟨ab, cb, rfl, rk, rb⟩ := MRoutine.op_en rr
 have RB := LH rb
 have RR := LH rr
 have hn := core_size hb
 clear rr rk rb
 cases r1 : inR 0 30 r.slots
 · have r1' : decide (0 <= r.slots /\ r.slots <= 30) = false := r1
   have NE : Hid (¬ routP K r) := LH (fun h => by have h1 := h.1; have h2 := h.2.1.1; have := inR_iff.2 (show (0 : Int) <= r.slots /\ r.slots <= 30 by omega); rw [r1] at this; cases this)
   clear r1
   go_enter Tryz.func50, Tryz.ntmps50
   go_upto_region 1 with fail
   generalize hS : World.alloc w _ = W1
   have x1 : Ext w W1 := by rw [<- hS]; exact (XR _).alloc _
   have m0 : W1.cell? ⟨w.heap.size, 0, none⟩ = some (.string r.selector) := by rw [<- hS]; simp <;> assumption
   have m1 : W1.cell? ⟨w.heap.size, 1, none⟩ = some (.int .i64 r.owner) := by rw [<- hS]; simp <;> assumption
   have m2 : W1.cell? ⟨w.heap.size, 2, none⟩ = some (.bool r.cls) := by rw [<- hS]; simp <;> assumption
   have m3 : W1.cell? ⟨w.heap.size, 3, none⟩ = some (.int .i64 r.params) := by rw [<- hS]; simp <;> assumption
   have m4 : W1.cell? ⟨w.heap.size, 4, none⟩ = some (.int .i64 r.slots) := by rw [<- hS]; simp <;> assumption
   have m5 : W1.cell? ⟨w.heap.size, 5, none⟩ = some (.int .i64 r.body.kind) := by rw [<- hS]; simp <;> assumption
   have m6 : W1.cell? ⟨w.heap.size, 6, none⟩ = some (.string r.body.text) := by rw [<- hS]; simp <;> assumption
   have m7 : W1.cell? ⟨w.heap.size, 7, none⟩ = some (.int .i64 r.body.number) := by rw [<- hS]; simp <;> assumption
   have m8 : W1.cell? ⟨w.heap.size, 8, none⟩ = some (.int .i64 r.body.depth) := by rw [<- hS]; simp <;> assumption
   have m9 : W1.cell? ⟨w.heap.size, 9, none⟩ = some (.slice ab r.body.kids.length cb) := by rw [<- hS]; simp <;> assumption
   clear hS
   go_wp2_with fail
   refine (within_any _ _ _ _).mono ?_
   rw [r1']
   rintro e wq ⟨rfl, hq⟩
   subst wq
   clear r1'
   go_wp2_with fail
   go_ret
   exact ⟨ret_bool (prB_ff NE.out).symm, x1⟩
 have r1' : decide (0 <= r.slots /\ r.slots <= 30) = true := r1
 clear r1
 cases r2 : inR 0 r.slots r.params
 · have r2' : decide (0 <= r.params /\ r.params <= r.slots) = false := r2
   have NE : Hid (¬ routP K r) := LH (fun h => by have := inR_iff.2 h.1; rw [r2] at this; cases this)
   clear r2
   go_enter Tryz.func50, Tryz.ntmps50
   go_upto_region 1 with fail
   generalize hS : World.alloc w _ = W1
   have x1 : Ext w W1 := by rw [<- hS]; exact (XR _).alloc _
   have m0 : W1.cell? ⟨w.heap.size, 0, none⟩ = some (.string r.selector) := by rw [<- hS]; simp <;> assumption
   have m1 : W1.cell? ⟨w.heap.size, 1, none⟩ = some (.int .i64 r.owner) := by rw [<- hS]; simp <;> assumption
   have m2 : W1.cell? ⟨w.heap.size, 2, none⟩ = some (.bool r.cls) := by rw [<- hS]; simp <;> assumption
   have m3 : W1.cell? ⟨w.heap.size, 3, none⟩ = some (.int .i64 r.params) := by rw [<- hS]; simp <;> assumption
   have m4 : W1.cell? ⟨w.heap.size, 4, none⟩ = some (.int .i64 r.slots) := by rw [<- hS]; simp <;> assumption
   have m5 : W1.cell? ⟨w.heap.size, 5, none⟩ = some (.int .i64 r.body.kind) := by rw [<- hS]; simp <;> assumption
   have m6 : W1.cell? ⟨w.heap.size, 6, none⟩ = some (.string r.body.text) := by rw [<- hS]; simp <;> assumption
   have m7 : W1.cell? ⟨w.heap.size, 7, none⟩ = some (.int .i64 r.body.number) := by rw [<- hS]; simp <;> assumption
   have m8 : W1.cell? ⟨w.heap.size, 8, none⟩ = some (.int .i64 r.body.depth) := by rw [<- hS]; simp <;> assumption
   have m9 : W1.cell? ⟨w.heap.size, 9, none⟩ = some (.slice ab r.body.kids.length cb) := by rw [<- hS]; simp <;> assumption
   clear hS
   go_wp2_with fail
   refine (within_any _ _ _ _).mono ?_
   rw [r1']
   rintro e wq ⟨rfl, hq⟩
   subst wq
   clear r1'
   go_wp2_with fail
   refine (within_any _ _ _ _).mono ?_
   rw [r2']
   rintro e wq ⟨rfl, hq⟩
   subst wq
   clear r2'
   go_wp2_with fail
   go_ret
   exact ⟨ret_bool (prB_ff NE.out).symm, x1⟩
 have r2' : decide (0 <= r.params /\ r.params <= r.slots) = true := r2
 cases r3 : prB (fitsR r)
 · have NE : Hid (¬ routP K r) := LH (fun h => by have := prB_tt h.2.1; rw [r3] at this; cases this)
   clear r2
   go_enter Tryz.func50, Tryz.ntmps50
   go_upto_region 1 with fail
   generalize hS : World.alloc w _ = W1
   have x1 : Ext w W1 := by rw [<- hS]; exact (XR _).alloc _
   have m0 : W1.cell? ⟨w.heap.size, 0, none⟩ = some (.string r.selector) := by rw [<- hS]; simp <;> assumption
   have m1 : W1.cell? ⟨w.heap.size, 1, none⟩ = some (.int .i64 r.owner) := by rw [<- hS]; simp <;> assumption
   have m2 : W1.cell? ⟨w.heap.size, 2, none⟩ = some (.bool r.cls) := by rw [<- hS]; simp <;> assumption
   have m3 : W1.cell? ⟨w.heap.size, 3, none⟩ = some (.int .i64 r.params) := by rw [<- hS]; simp <;> assumption
   have m4 : W1.cell? ⟨w.heap.size, 4, none⟩ = some (.int .i64 r.slots) := by rw [<- hS]; simp <;> assumption
   have m5 : W1.cell? ⟨w.heap.size, 5, none⟩ = some (.int .i64 r.body.kind) := by rw [<- hS]; simp <;> assumption
   have m6 : W1.cell? ⟨w.heap.size, 6, none⟩ = some (.string r.body.text) := by rw [<- hS]; simp <;> assumption
   have m7 : W1.cell? ⟨w.heap.size, 7, none⟩ = some (.int .i64 r.body.number) := by rw [<- hS]; simp <;> assumption
   have m8 : W1.cell? ⟨w.heap.size, 8, none⟩ = some (.int .i64 r.body.depth) := by rw [<- hS]; simp <;> assumption
   have m9 : W1.cell? ⟨w.heap.size, 9, none⟩ = some (.slice ab r.body.kids.length cb) := by rw [<- hS]; simp <;> assumption
   clear hS
   go_wp2_with fail
   refine (within_any _ _ _ _).mono ?_
   rw [r1']
   rintro e wq ⟨rfl, hq⟩
   subst wq
   clear r1'
   go_wp2_with fail
   refine (within_any _ _ _ _).mono ?_
   rw [r2']
   rintro e wq ⟨rfl, hq⟩
   subst wq
   clear r2'
   go_wp2_with fail
   refine (limitsOk_any r _ _ (Rep.ext x1 RR.out) hb).mono ?_
   rw [r3]
   clear r3
   rintro e w2 ⟨rfl, hx2⟩
   replace m3 := Ext.cell hx2 m3
   replace m4 := Ext.cell hx2 m4
   replace m5 := Ext.cell hx2 m5
   replace m6 := Ext.cell hx2 m6
   replace m7 := Ext.cell hx2 m7
   replace m8 := Ext.cell hx2 m8
   replace m9 := Ext.cell hx2 m9
   replace x1 := x1.trans hx2
   clear hx2
   go_wp2_with fail
   go_ret
   exact ⟨ret_bool (prB_ff NE.out).symm, x1⟩
 have HDP : Hid (r.body.deep <= 40) := LH (prB_iff.1 r3).2.2.1
 have HFO : Hid (FrOk [(r.params, r.slots)]) := LH (frOk_one (inR_iff.1 r2).1 (inR_iff.1 r2).2 (prB_iff.1 r3).1)
 have HE : Hid (Ending.returned (.bool (prB (okN 40 K [(r.params, r.slots)] r.body))) = .returned (.bool (prB (routP K r)))) := LH (by
  congr 3
  exact propext ⟨fun h => ⟨inR_iff.1 r2, prB_iff.1 r3, h⟩, fun h => h.2.2⟩)
 clear r2
 go_enter Tryz.func50, Tryz.ntmps50
 go_upto_region 1 with fail
 generalize hS : World.alloc w _ = W1
 have x1 : Ext w W1 := by rw [<- hS]; exact (XR _).alloc _
 have m0 : W1.cell? ⟨w.heap.size, 0, none⟩ = some (.string r.selector) := by rw [<- hS]; simp <;> assumption
 have m1 : W1.cell? ⟨w.heap.size, 1, none⟩ = some (.int .i64 r.owner) := by rw [<- hS]; simp <;> assumption
 have m2 : W1.cell? ⟨w.heap.size, 2, none⟩ = some (.bool r.cls) := by rw [<- hS]; simp <;> assumption
 have m3 : W1.cell? ⟨w.heap.size, 3, none⟩ = some (.int .i64 r.params) := by rw [<- hS]; simp <;> assumption
 have m4 : W1.cell? ⟨w.heap.size, 4, none⟩ = some (.int .i64 r.slots) := by rw [<- hS]; simp <;> assumption
 have m5 : W1.cell? ⟨w.heap.size, 5, none⟩ = some (.int .i64 r.body.kind) := by rw [<- hS]; simp <;> assumption
 have m6 : W1.cell? ⟨w.heap.size, 6, none⟩ = some (.string r.body.text) := by rw [<- hS]; simp <;> assumption
 have m7 : W1.cell? ⟨w.heap.size, 7, none⟩ = some (.int .i64 r.body.number) := by rw [<- hS]; simp <;> assumption
 have m8 : W1.cell? ⟨w.heap.size, 8, none⟩ = some (.int .i64 r.body.depth) := by rw [<- hS]; simp <;> assumption
 have m9 : W1.cell? ⟨w.heap.size, 9, none⟩ = some (.slice ab r.body.kids.length cb) := by rw [<- hS]; simp <;> assumption
 clear hS
 go_wp2_with fail
 refine (within_any _ _ _ _).mono ?_
 rw [r1']
 rintro e wq ⟨rfl, hq⟩
 subst wq
 clear r1'
 go_wp2_with fail
 refine (within_any _ _ _ _).mono ?_
 rw [r2']
 rintro e wq ⟨rfl, hq⟩
 subst wq
 clear r2'
 go_wp2_with fail
 refine (limitsOk_any r _ _ (Rep.ext x1 RR.out) hb).mono ?_
 rw [r3]
 clear r3
 rintro e w2 ⟨rfl, hx2⟩
 replace m3 := Ext.cell hx2 m3
 replace m4 := Ext.cell hx2 m4
 replace m5 := Ext.cell hx2 m5
 replace m6 := Ext.cell hx2 m6
 replace m7 := Ext.cell hx2 m7
 replace m8 := Ext.cell hx2 m8
 replace m9 := Ext.cell hx2 m9
 replace x1 := x1.trans hx2
 clear hx2
 go_wp2_with fail
 refine (coreOk_at 40 r.body _ K [(r.params, r.slots)] _ _ HDP.out (by simp) HFO.out hK0 hK1 hb (hM.ext (x1.alloc _)) (Rep.ext (x1.alloc _) RB.out) (fr_one r.params r.slots)).mono ?_
 rintro e w3 ⟨rfl, hx3⟩
 go_wp2_with fail
 go_ret
 exact ⟨HE.out, (x1.alloc _).trans hx3⟩
theorem l8IsRoutine_any (r : MRoutine) (cr : List Value) (K : Int) (w : World) (rr : Rep w r.d cr) (hb : r.body.d.bulk <= 1048576) (hK0 : 0 <= K) (hK1 : K <= 1000) :
 Calls Tryz.prog 41 #[.agg cr.toArray, .int .i64 K] w fun e w' => e = .returned (.bool (prB (routP K r))) /\ Ext w w' := by
 obtain ⟨ab, cb, rfl, rk, rb⟩ := MRoutine.op_en rr
 have RB := LH rb
 have RR := LH rr
 have hn := core_size hb
 clear rr rk rb
 cases r3 : prB (fitsR r)
 · have NE : Hid (¬ routP K r) := LH (fun h => by have := prB_tt h.2.1; rw [r3] at this; cases this)
   go_enter Tryz.func41, Tryz.ntmps41
   go_upto_region 1 with fail
   generalize hS : World.alloc w _ = W1
   have x1 : Ext w W1 := by rw [<- hS]; exact (XR _).alloc _
   have m0 : W1.cell? ⟨w.heap.size, 0, none⟩ = some (.string r.selector) := by rw [<- hS]; simp <;> assumption
   have m1 : W1.cell? ⟨w.heap.size, 1, none⟩ = some (.int .i64 r.owner) := by rw [<- hS]; simp <;> assumption
   have m2 : W1.cell? ⟨w.heap.size, 2, none⟩ = some (.bool r.cls) := by rw [<- hS]; simp <;> assumption
   have m3 : W1.cell? ⟨w.heap.size, 3, none⟩ = some (.int .i64 r.params) := by rw [<- hS]; simp <;> assumption
   have m4 : W1.cell? ⟨w.heap.size, 4, none⟩ = some (.int .i64 r.slots) := by rw [<- hS]; simp <;> assumption
   have m5 : W1.cell? ⟨w.heap.size, 5, none⟩ = some (.int .i64 r.body.kind) := by rw [<- hS]; simp <;> assumption
   have m6 : W1.cell? ⟨w.heap.size, 6, none⟩ = some (.string r.body.text) := by rw [<- hS]; simp <;> assumption
   have m7 : W1.cell? ⟨w.heap.size, 7, none⟩ = some (.int .i64 r.body.number) := by rw [<- hS]; simp <;> assumption
   have m8 : W1.cell? ⟨w.heap.size, 8, none⟩ = some (.int .i64 r.body.depth) := by rw [<- hS]; simp <;> assumption
   have m9 : W1.cell? ⟨w.heap.size, 9, none⟩ = some (.slice ab r.body.kids.length cb) := by rw [<- hS]; simp <;> assumption
   clear hS
   go_wp2_with fail
   refine (l8Fits_any r _ _ (Rep.ext x1 RR.out) hb).mono ?_
   rw [r3]
   clear r3
   rintro e w2 ⟨rfl, hx2⟩
   replace m3 := Ext.cell hx2 m3
   replace m4 := Ext.cell hx2 m4
   replace m5 := Ext.cell hx2 m5
   replace m6 := Ext.cell hx2 m6
   replace m7 := Ext.cell hx2 m7
   replace m8 := Ext.cell hx2 m8
   replace m9 := Ext.cell hx2 m9
   replace x1 := x1.trans hx2
   clear hx2
   go_wp2_with fail
   go_ret
   exact ⟨ret_bool (prB_ff NE.out).symm, x1⟩
 cases r2 : inR 0 r.slots r.params
 · have r2' : decide (0 <= r.params /\ r.params <= r.slots) = false := r2
   have NE : Hid (¬ routP K r) := LH (fun h => by have := inR_iff.2 h.1; rw [r2] at this; cases this)
   clear r2
   go_enter Tryz.func41, Tryz.ntmps41
   go_upto_region 1 with fail
   generalize hS : World.alloc w _ = W1
   have x1 : Ext w W1 := by rw [<- hS]; exact (XR _).alloc _
   have m0 : W1.cell? ⟨w.heap.size, 0, none⟩ = some (.string r.selector) := by rw [<- hS]; simp <;> assumption
   have m1 : W1.cell? ⟨w.heap.size, 1, none⟩ = some (.int .i64 r.owner) := by rw [<- hS]; simp <;> assumption
   have m2 : W1.cell? ⟨w.heap.size, 2, none⟩ = some (.bool r.cls) := by rw [<- hS]; simp <;> assumption
   have m3 : W1.cell? ⟨w.heap.size, 3, none⟩ = some (.int .i64 r.params) := by rw [<- hS]; simp <;> assumption
   have m4 : W1.cell? ⟨w.heap.size, 4, none⟩ = some (.int .i64 r.slots) := by rw [<- hS]; simp <;> assumption
   have m5 : W1.cell? ⟨w.heap.size, 5, none⟩ = some (.int .i64 r.body.kind) := by rw [<- hS]; simp <;> assumption
   have m6 : W1.cell? ⟨w.heap.size, 6, none⟩ = some (.string r.body.text) := by rw [<- hS]; simp <;> assumption
   have m7 : W1.cell? ⟨w.heap.size, 7, none⟩ = some (.int .i64 r.body.number) := by rw [<- hS]; simp <;> assumption
   have m8 : W1.cell? ⟨w.heap.size, 8, none⟩ = some (.int .i64 r.body.depth) := by rw [<- hS]; simp <;> assumption
   have m9 : W1.cell? ⟨w.heap.size, 9, none⟩ = some (.slice ab r.body.kids.length cb) := by rw [<- hS]; simp <;> assumption
   clear hS
   go_wp2_with fail
   refine (l8Fits_any r _ _ (Rep.ext x1 RR.out) hb).mono ?_
   rw [r3]
   clear r3
   rintro e w2 ⟨rfl, hx2⟩
   replace m3 := Ext.cell hx2 m3
   replace m4 := Ext.cell hx2 m4
   replace m5 := Ext.cell hx2 m5
   replace m6 := Ext.cell hx2 m6
   replace m7 := Ext.cell hx2 m7
   replace m8 := Ext.cell hx2 m8
   replace m9 := Ext.cell hx2 m9
   replace x1 := x1.trans hx2
   clear hx2
   go_wp2_with fail
   refine (l1In_any _ _ _ _).mono ?_
   rw [r2']
   rintro e wq ⟨rfl, hq⟩
   subst wq
   clear r2'
   go_wp2_with fail
   go_ret
   exact ⟨ret_bool (prB_ff NE.out).symm, x1⟩
 have r2' : decide (0 <= r.params /\ r.params <= r.slots) = true := r2
 have HDP : Hid (r.body.deep <= 40) := LH (prB_iff.1 r3).2.2.1
 have HFO : Hid (FrOk [(r.params, r.slots)]) := LH (frOk_one (inR_iff.1 r2).1 (inR_iff.1 r2).2 (prB_iff.1 r3).1)
 have HE : Hid (Ending.returned (.bool (prB (okN 40 K [(r.params, r.slots)] r.body))) = .returned (.bool (prB (routP K r)))) := LH (by
  congr 3
  exact propext ⟨fun h => ⟨inR_iff.1 r2, prB_iff.1 r3, h⟩, fun h => h.2.2⟩)
 clear r2
 go_enter Tryz.func41, Tryz.ntmps41
 go_upto_region 1 with fail
 generalize hS : World.alloc w _ = W1
 have x1 : Ext w W1 := by rw [<- hS]; exact (XR _).alloc _
 have m0 : W1.cell? ⟨w.heap.size, 0, none⟩ = some (.string r.selector) := by rw [<- hS]; simp <;> assumption
 have m1 : W1.cell? ⟨w.heap.size, 1, none⟩ = some (.int .i64 r.owner) := by rw [<- hS]; simp <;> assumption
 have m2 : W1.cell? ⟨w.heap.size, 2, none⟩ = some (.bool r.cls) := by rw [<- hS]; simp <;> assumption
 have m3 : W1.cell? ⟨w.heap.size, 3, none⟩ = some (.int .i64 r.params) := by rw [<- hS]; simp <;> assumption
 have m4 : W1.cell? ⟨w.heap.size, 4, none⟩ = some (.int .i64 r.slots) := by rw [<- hS]; simp <;> assumption
 have m5 : W1.cell? ⟨w.heap.size, 5, none⟩ = some (.int .i64 r.body.kind) := by rw [<- hS]; simp <;> assumption
 have m6 : W1.cell? ⟨w.heap.size, 6, none⟩ = some (.string r.body.text) := by rw [<- hS]; simp <;> assumption
 have m7 : W1.cell? ⟨w.heap.size, 7, none⟩ = some (.int .i64 r.body.number) := by rw [<- hS]; simp <;> assumption
 have m8 : W1.cell? ⟨w.heap.size, 8, none⟩ = some (.int .i64 r.body.depth) := by rw [<- hS]; simp <;> assumption
 have m9 : W1.cell? ⟨w.heap.size, 9, none⟩ = some (.slice ab r.body.kids.length cb) := by rw [<- hS]; simp <;> assumption
 clear hS
 go_wp2_with fail
 refine (l8Fits_any r _ _ (Rep.ext x1 RR.out) hb).mono ?_
 rw [r3]
 clear r3
 rintro e w2 ⟨rfl, hx2⟩
 replace m3 := Ext.cell hx2 m3
 replace m4 := Ext.cell hx2 m4
 replace m5 := Ext.cell hx2 m5
 replace m6 := Ext.cell hx2 m6
 replace m7 := Ext.cell hx2 m7
 replace m8 := Ext.cell hx2 m8
 replace m9 := Ext.cell hx2 m9
 replace x1 := x1.trans hx2
 clear hx2
 go_wp2_with fail
 refine (l1In_any _ _ _ _).mono ?_
 rw [r2']
 rintro e wq ⟨rfl, hq⟩
 subst wq
 clear r2'
 have zW := lt_of_cell m3
 go_wp2_with fail
 refine (l8Right_at 40 r.body _ K [(r.params, r.slots)] _ _ _ HDP.out (by simp) HFO.out hK0 hK1 hb (Rep.ext ((x1.alloc _).alloc _) RB.out) (Rep.ext ((XR _).alloc _) (int_row w2 r.slots)) (by have h := int_row (w2.alloc (.cells #[.int .i64 r.slots] 3)) r.params; show Rep _ (ints [r.params]) _; simpa using h)).mono ?_
 rintro e w3 ⟨rfl, hx3⟩
 go_wp2_with fail
 go_ret
 exact ⟨HE.out, ((x1.alloc _).alloc _).trans hx3⟩
end Go.Proofs.YtlaclfeljimffaaGreatDoor
