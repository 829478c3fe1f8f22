/-
  CONTRACTS: IsExpr, of the program and of the reference.
  Conditions: those that each lemma states.
-/
import Derived.Test.YtndhpbjhkgdieaaGreatDoorRows
import Derived.Lib.QuietBelow
import Derived.BigQuiet
import Derived.Test.YtndhpbjhkgdieaaGreatDoorP21
namespace Go.Proofs.YtndhpbjhkgdieaaGreatDoor
open Go.RowKit
set_option maxHeartbeats 8000000
set_option maxRecDepth 100000
set_option linter.unusedSimpArgs false
set_option linter.unusedVariables false
def ExprOk (x : MExpr) : Prop := x.size <= 300 /\ x.depth <= 25 /\ okR (SizeOf.sizeOf x + 1) true x
theorem spec_IsExpr_any (x : MExpr) (cx : List Value) (w : World) (rx : Rep w x.d cx) (hb : x.d.bulk <= 1048576) :
 Calls Tryz.prog 8 #[.agg cx.toArray] w fun e w' => e = .returned (.bool (prB (ExprOk x))) /\ Ext w w' := by
 have hsz := bulk_size hb
 have hdp : x.depth <= 1048577 := by have := MExpr.depth_le x; omega
 have RX : Hid (∀ W, Ext w W -> Rep W x.d cx) := LH fun W h => Rep.ext h rx
 obtain ⟨an, cn, ak, ck, rfl⟩ := MExpr.shut_rep rx
 clear rx
 have HM : Hid (∀ W, Ext (w.alloc (.cells #[.int .i64 x.kind, .string x.text, .int .i64 x.number, .slice an x.names.length cn, .slice ak x.kids.length ck] 27)) W -> W.cell? ⟨w.heap.size, 0, none⟩ = some (.int .i64 x.kind) /\ W.cell? ⟨w.heap.size, 1, none⟩ = some (.string x.text) /\ W.cell? ⟨w.heap.size, 2, none⟩ = some (.int .i64 x.number) /\ W.cell? ⟨w.heap.size, 3, none⟩ = some (.slice an x.names.length cn) /\ W.cell? ⟨w.heap.size, 4, none⟩ = some (.slice ak x.kids.length ck)) := LH fun W hW => ⟨Ext.cell hW (by simp), Ext.cell hW (by simp), Ext.cell hW (by simp), Ext.cell hW (by simp), Ext.cell hW (by simp)⟩
 by_cases hq : x.size <= 300
 rotate_left
 · have hq' : ¬ (x.size : Int) <= 300 := by omega
   go_enter Tryz.func8, Tryz.ntmps8
   go_wp2_with fail
   refine (l3Left_lt _ x 300 _ _ (Nat.lt_succ_self _) hsz (by omega) (by omega) (RX.out _ ((XR w).alloc _))).mono ?_
   rintro e w1 ⟨⟨r, rfl, hr0, hr1, hr2, hr3⟩, hx1⟩
   obtain rfl := hr3 (by omega)
   clear hr2 hr3
   go_wp2_with fail
   go_ret
   exact ⟨ret_bool (Eq.symm (prB_ff fun h => hq h.1)), ((XR w).alloc _).trans hx1⟩
 have hq' : (x.size : Int) <= 300 := by omega
 by_cases hd : x.depth <= 25
 rotate_left
 · have hd' : ¬ (x.depth : Int) <= 25 := by omega
   go_enter Tryz.func8, Tryz.ntmps8
   go_wp2_with fail
   refine (l3Left_lt _ x 300 _ _ (Nat.lt_succ_self _) hsz (by omega) (by omega) (RX.out _ ((XR w).alloc _))).mono ?_
   rintro e w1 ⟨⟨r, rfl, hr0, hr1, hr2, hr3⟩, hx1⟩
   have hr4 : (0 : Int) <= r := by have := hr2 (by omega); omega
   have Hr := LH (And.intro hr2 hr3); clear hr2 hr3
   obtain ⟨m0, m1, m2, m3, m4⟩ := HM.out _ hx1
   go_wp2_with fail
   refine (l3Depth_lt _ x _ _ (Nat.lt_succ_self _) hsz (RX.out _ (((XR w).alloc _).trans hx1))).mono ?_
   rintro e w2 ⟨rfl, hx2⟩
   clear m0 m1 m2 m3 m4
   go_wp2_with fail
   go_ret
   exact ⟨ret_bool (Eq.symm (prB_ff fun h => hd h.2.1)), (((XR w).alloc _).trans hx1).trans hx2⟩
 have hd' : (x.depth : Int) <= 25 := by omega
 go_enter Tryz.func8, Tryz.ntmps8
 go_wp2_with fail
 refine (l3Left_lt _ x 300 _ _ (Nat.lt_succ_self _) hsz (by omega) (by omega) (RX.out _ ((XR w).alloc _))).mono ?_
 rintro e w1 ⟨⟨r, rfl, hr0, hr1, hr2, hr3⟩, hx1⟩
 have hr4 : (0 : Int) <= r := by have := hr2 (by omega); omega
 have Hr := LH (And.intro hr2 hr3); clear hr2 hr3
 obtain ⟨m0, m1, m2, m3, m4⟩ := HM.out _ hx1
 go_wp2_with fail
 refine (l3Depth_lt _ x _ _ (Nat.lt_succ_self _) hsz (RX.out _ (((XR w).alloc _).trans hx1))).mono ?_
 rintro e w2 ⟨rfl, hx2⟩
 clear m0 m1 m2 m3 m4
 obtain ⟨m0, m1, m2, m3, m4⟩ := HM.out _ (hx1.trans hx2)
 go_wp2_with fail
 refine (l3Right_at (SizeOf.sizeOf x + 1) true x _ _ (Nat.lt_succ_self _) hb (RX.out _ ((((XR w).alloc _).trans hx1).trans hx2))).mono ?_
 rintro e w3 ⟨rfl, hx3⟩
 clear m0 m1 m2 m3 m4
 go_wp2_with fail
 go_ret
 refine ⟨ret_bool ?_, ((((XR w).alloc _).trans hx1).trans hx2).trans hx3⟩
 congr 1
 rw [eq_iff_iff]
 exact ⟨fun h => ⟨hq, hd, h⟩, fun h => h.2.2⟩
theorem impl_IsExpr_any (x : MExpr) (cx : List Value) (w : World) (rx : Rep w x.d cx) (hb : x.d.bulk <= 1048576) (hm : MaxOk w) :
 Calls Tryz.prog 7 #[.agg cx.toArray] w fun e w' => e = .returned (.bool (prB (ExprOk x))) /\ Ext w w' := by
 have hsz := bulk_size hb
 have hdp : x.depth <= 1048577 := by have := MExpr.depth_le x; omega
 have RX : Hid (∀ W, Ext w W -> Rep W x.d cx) := LH fun W h => Rep.ext h rx
 obtain ⟨an, cn, ak, ck, rfl⟩ := MExpr.shut_rep rx
 clear rx
 have HM : Hid (∀ W, Ext (w.alloc (.cells #[.int .i64 x.kind, .string x.text, .int .i64 x.number, .slice an x.names.length cn, .slice ak x.kids.length ck] 27)) W -> W.cell? ⟨w.heap.size, 0, none⟩ = some (.int .i64 x.kind) /\ W.cell? ⟨w.heap.size, 1, none⟩ = some (.string x.text) /\ W.cell? ⟨w.heap.size, 2, none⟩ = some (.int .i64 x.number) /\ W.cell? ⟨w.heap.size, 3, none⟩ = some (.slice an x.names.length cn) /\ W.cell? ⟨w.heap.size, 4, none⟩ = some (.slice ak x.kids.length ck)) := LH fun W hW => ⟨Ext.cell hW (by simp), Ext.cell hW (by simp), Ext.cell hW (by simp), Ext.cell hW (by simp), Ext.cell hW (by simp)⟩
 by_cases hq : x.size <= 300
 rotate_left
 · have hq' : ¬ (x.size : Int) <= 300 := by omega
   go_enter Tryz.func7, Tryz.ntmps7
   go_wp2_with fail
   refine (impl_SizeOfExpr_any x _ _ (RX.out _ ((XR w).alloc _)) hsz).mono ?_
   rintro e w1 ⟨rfl, hx1⟩
   skip
   go_wp2_with fail
   go_ret
   exact ⟨ret_bool (Eq.symm (prB_ff fun h => hq h.1)), ((XR w).alloc _).trans hx1⟩
 have hq' : (x.size : Int) <= 300 := by omega
 by_cases hd : x.depth <= 25
 rotate_left
 · have hd' : ¬ (x.depth : Int) <= 25 := by omega
   go_enter Tryz.func7, Tryz.ntmps7
   go_wp2_with fail
   refine (impl_SizeOfExpr_any x _ _ (RX.out _ ((XR w).alloc _)) hsz).mono ?_
   rintro e w1 ⟨rfl, hx1⟩
   skip
   obtain ⟨m0, m1, m2, m3, m4⟩ := HM.out _ hx1
   go_wp2_with fail
   refine (impl_DepthOfExpr_any x _ _ (RX.out _ (((XR w).alloc _).trans hx1)) hsz).mono ?_
   rintro e w2 ⟨rfl, hx2⟩
   clear m0 m1 m2 m3 m4
   go_wp2_with fail
   go_ret
   exact ⟨ret_bool (Eq.symm (prB_ff fun h => hd h.2.1)), (((XR w).alloc _).trans hx1).trans hx2⟩
 have hd' : (x.depth : Int) <= 25 := by omega
 go_enter Tryz.func7, Tryz.ntmps7
 go_wp2_with fail
 refine (impl_SizeOfExpr_any x _ _ (RX.out _ ((XR w).alloc _)) hsz).mono ?_
 rintro e w1 ⟨rfl, hx1⟩
 skip
 obtain ⟨m0, m1, m2, m3, m4⟩ := HM.out _ hx1
 go_wp2_with fail
 refine (impl_DepthOfExpr_any x _ _ (RX.out _ (((XR w).alloc _).trans hx1)) hsz).mono ?_
 rintro e w2 ⟨rfl, hx2⟩
 clear m0 m1 m2 m3 m4
 obtain ⟨m0, m1, m2, m3, m4⟩ := HM.out _ (hx1.trans hx2)
 go_wp2_with fail
 refine (wellFormed_at (SizeOf.sizeOf x + 1) x _ _ (Nat.lt_succ_self _) hb (hm.ext ((((XR w).alloc _).trans hx1).trans hx2)) (RX.out _ ((((XR w).alloc _).trans hx1).trans hx2))).mono ?_
 rintro e w3 ⟨rfl, hx3⟩
 clear m0 m1 m2 m3 m4
 go_wp2_with fail
 go_ret
 refine ⟨ret_bool ?_, ((((XR w).alloc _).trans hx1).trans hx2).trans hx3⟩
 congr 1
 rw [eq_iff_iff]
 exact ⟨fun h => ⟨hq, hd, h⟩, fun h => h.2.2⟩
end Go.Proofs.YtndhpbjhkgdieaaGreatDoor
