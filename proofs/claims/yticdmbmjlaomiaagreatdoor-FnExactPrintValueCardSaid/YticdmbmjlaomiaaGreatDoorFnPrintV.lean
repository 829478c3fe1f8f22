/-
  CONTRACTS: PrintValue of the program.
  Conditions: those that each lemma states.
-/
import Derived.Test.YticdmbmjlaomiaaGreatDoorRows
import Derived.Test.YticdmbmjlaomiaaGreatDoorFnPrint
namespace Go.Proofs.YticdmbmjlaomiaaGreatDoor
open Go.RowKit
set_option linter.unusedSimpArgs false
set_option linter.unusedVariables false

set_option maxHeartbeats 4000000 in
set_option maxRecDepth 100000 in
theorem printed_any (x : MStore) (hs : StoreOk 1000 x) : ∀ (d : Nat), d ≤ 3 → ∀ (v : MValue) (ac : Option Addr) (cc : Nat) (ab : Option Addr) (cb : Nat) (au : Option Addr) (cu : Nat) (w : World), Rep w x.d [.slice ac x.classes.length cc, .slice ab x.objects.length cb, .slice au x.output.length cu, .int .i64 x.ticks, .int .i64 x.budget, .int .i64 x.made] → FitP x.classes.length x.objects.length 1000 v → v.text.size ≤ 1048576 → (∀ o, o ∈ x.objects → ∀ u, u ∈ o.fields → u.text.size ≤ 1048576) → MaxOk w → TabOk w → Calls Tryz.prog 55 #[.agg #[.slice ac x.classes.length cc, .slice ab x.objects.length cb, .slice au x.output.length cu, .int .i64 x.ticks, .int .i64 x.budget, .int .i64 x.made], .agg #[.int .i64 v.kind, .int .i64 v.number, .string v.text], .int .i64 (3 - (d : Nat))] w fun e w' => e = .returned (.string (prT x d v)) ∧ Ext w w'
  | 0, hd => printed_step x hs 0 hd (Lib.hid fun d' e => absurd e (by omega))
  | d + 1, hd => printed_step x hs (d + 1) hd (Lib.hid fun d' e => by
    obtain rfl : d = d' := by omega
    exact printed_any x hs d (by omega))

set_option maxHeartbeats 4000000 in
theorem impl_PrintValue_any (x : MStore) (v : MValue) (cx cv : List Value) (w : World) (rx : Rep w x.d cx) (rv : Rep w v.d cv) (hz : StoreSz x) (hs : v.text.size ≤ 1048576) (hM : MaxOk w) (hT : TabOk w) :
    Calls Tryz.prog 14 #[.agg cx.toArray, .agg cv.toArray] w fun e w' => e = .returned (.string (printV x v)) ∧ Ext w w' := by
  obtain ⟨ac, cc, ab, cb, au, cu, rfl, rc, rb, ru⟩ := MStore.op_en rx
  have hcv := MValue.op_en rv
  subst hcv
  have RX := Lib.hid rx
  have RC := Lib.hid rc
  have RB := Lib.hid rb
  have RU := Lib.hid ru
  have RV := Lib.hid rv
  have HZ := Lib.hid hz
  have HS := Lib.hid hs
  clear rx rc rb ru rv hz hs
  have C1 : Hid (∀ W, Ext w W → Calls Tryz.prog 53 #[.agg #[.slice ac x.classes.length cc, .slice ab x.objects.length cb, .slice au x.output.length cu, .int .i64 x.ticks, .int .i64 x.budget, .int .i64 x.made], .int .i64 1000] W fun e w' => e = .returned (.bool (storeB 1000 x)) ∧ Ext W w') := Lib.hid fun W h => storeOk_any x [.slice ac x.classes.length cc, .slice ab x.objects.length cb, .slice au x.output.length cu, .int .i64 x.ticks, .int .i64 x.budget, .int .i64 x.made] 1000 W (Rep.ext h RX.out) HZ.out (hM.ext h)
  have C2 : Hid (∀ W, Ext w W → Calls Tryz.prog 54 #[.agg #[.slice ac x.classes.length cc, .slice ab x.objects.length cb, .slice au x.output.length cu, .int .i64 x.ticks, .int .i64 x.budget, .int .i64 x.made], .agg #[.int .i64 v.kind, .int .i64 v.number, .string v.text], .int .i64 1000] W fun e w' => e = .returned (.bool (fitB x.classes.length x.objects.length 1000 v)) ∧ Ext W w') := Lib.hid fun W h => exists_any v [.int .i64 v.kind, .int .i64 v.number, .string v.text] _ _ _ _ _ _ _ _ _ _ _ _ 1000 W (Rep.ext h RV.out) HS.out (hM.ext h)
  go_enter Tryz.func14, Tryz.ntmps14
  go_wp2_with fail
  generalize hS : World.alloc (World.alloc w _) _ = W1
  have x1 : Ext w W1 := by rw [← hS]; exact ((Ext.refl _).alloc _).alloc _
  have s0 : W1.cell? ⟨w.heap.size, 0, none⟩ = some (.slice ac x.classes.length cc) := by rw [← hS]; simp
  have s1 : W1.cell? ⟨w.heap.size, 1, none⟩ = some (.slice ab x.objects.length cb) := by rw [← hS]; simp
  have s2 : W1.cell? ⟨w.heap.size, 2, none⟩ = some (.slice au x.output.length cu) := by rw [← hS]; simp
  have s3 : W1.cell? ⟨w.heap.size, 3, none⟩ = some (.int .i64 x.ticks) := by rw [← hS]; simp
  have s4 : W1.cell? ⟨w.heap.size, 4, none⟩ = some (.int .i64 x.budget) := by rw [← hS]; simp
  have s5 : W1.cell? ⟨w.heap.size, 5, none⟩ = some (.int .i64 x.made) := by rw [← hS]; simp
  have t0 : W1.cell? ⟨w.heap.size + 1, 0, none⟩ = some (.int .i64 v.kind) := by rw [← hS]; simp
  have t1 : W1.cell? ⟨w.heap.size + 1, 1, none⟩ = some (.int .i64 v.number) := by rw [← hS]; simp
  have t2 : W1.cell? ⟨w.heap.size + 1, 2, none⟩ = some (.string v.text) := by rw [← hS]; simp
  clear hS
  refine (C1.out _ x1).mono ?_
  rintro e w2 ⟨rfl, hx2⟩
  have e2 := x1.trans hx2
  replace s0 := Ext.cell hx2 s0
  replace s1 := Ext.cell hx2 s1
  replace s2 := Ext.cell hx2 s2
  replace s3 := Ext.cell hx2 s3
  replace s4 := Ext.cell hx2 s4
  replace s5 := Ext.cell hx2 s5
  replace t0 := Ext.cell hx2 t0
  replace t1 := Ext.cell hx2 t1
  replace t2 := Ext.cell hx2 t2
  cases hb : storeB 1000 x
  · have HV : Hid (⟨#[]⟩ = printV x v) := Lib.hid (printV_no (fun h => by rw [hb] at h; cases h))
    clear hb
    go_wp2_with fail
    go_ret
    exact ⟨ret_str HV.out, e2⟩
  have HB := Lib.hid hb; clear hb
  go_wp2_with fail
  refine (C2.out _ e2).mono ?_
  rintro e w3 ⟨rfl, hx3⟩
  have e3 := e2.trans hx3
  replace s0 := Ext.cell hx3 s0
  replace s1 := Ext.cell hx3 s1
  replace s2 := Ext.cell hx3 s2
  replace s3 := Ext.cell hx3 s3
  replace s4 := Ext.cell hx3 s4
  replace s5 := Ext.cell hx3 s5
  replace t0 := Ext.cell hx3 t0
  replace t1 := Ext.cell hx3 t1
  replace t2 := Ext.cell hx3 t2
  cases hb : fitB x.classes.length x.objects.length 1000 v
  · have HV : Hid (⟨#[]⟩ = printV x v) := Lib.hid (printV_no (fun _ h => by rw [hb] at h; cases h))
    clear hb
    go_wp2_with fail
    go_ret
    exact ⟨ret_str HV.out, e3⟩
  have HF := Lib.hid hb; clear hb
  go_wp2_with fail
  have CP : Hid (Calls Tryz.prog 55 #[.agg #[.slice ac x.classes.length cc, .slice ab x.objects.length cb, .slice au x.output.length cu, .int .i64 x.ticks, .int .i64 x.budget, .int .i64 x.made], .agg #[.int .i64 v.kind, .int .i64 v.number, .string v.text], .int .i64 0] w3 fun e w' => e = .returned (.string (prT x 3 v)) ∧ Ext w3 w') := Lib.hid (printed_any x (storeB_iff.1 HB.out) 3 (Nat.le_refl _) v _ _ _ _ _ _ w3 (Rep.ext e3 RX.out) (fitB_iff.1 HF.out) HS.out HZ.out.2.2 (hM.ext e3) (hT.ext e3))
  refine CP.out.mono ?_
  rintro e w4 ⟨rfl, hx4⟩
  go_wp2_with fail
  go_ret
  exact ⟨ret_str (printV_yes HB.out HF.out), e3.trans hx4⟩

end Go.Proofs.YticdmbmjlaomiaaGreatDoor
