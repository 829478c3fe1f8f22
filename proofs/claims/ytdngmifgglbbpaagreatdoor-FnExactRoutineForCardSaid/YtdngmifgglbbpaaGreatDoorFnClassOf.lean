/-
  CONTRACTS: the class of a value in a store, of the program and of the reference.
  Conditions: those that each lemma states.
-/
import Derived.Test.YtdngmifgglbbpaaGreatDoorRows
import Derived.Test.YtdngmifgglbbpaaGreatDoorFnStore
namespace Go.Proofs.YtdngmifgglbbpaaGreatDoor
open Go.RowKit
set_option linter.unusedSimpArgs false
set_option linter.unusedVariables false

def clsV (l : List MObject) (v : MValue) : Int := if v.kind = 6 then (l.getD v.number.toNat ⟨0, 0, [], []⟩).cls else ([7, 6, 5, 8, 9, 15, 0, 11] : List Int).getD v.kind.toNat 0
open Classical in
noncomputable def classOfV (x : MStore) (v : MValue) : Int := if storeB 1000 x = true ∧ fitB x.classes.length x.objects.length 1000 v = true then clsV x.objects v else -1
theorem classOfV_tt {x : MStore} {v : MValue} (h1 : storeB 1000 x = true) (h2 : fitB x.classes.length x.objects.length 1000 v = true) : classOfV x v = clsV x.objects v := by
  unfold classOfV; rw [if_pos ⟨h1, h2⟩]
theorem classOfV_ff {x : MStore} {v : MValue} (h : storeB 1000 x = true → ¬ fitB x.classes.length x.objects.length 1000 v = true) : classOfV x v = -1 := by
  unfold classOfV; rw [if_neg (fun g => h g.1 g.2)]
theorem kinds_fit {nc no : Nat} {bk : Int} {v : MValue} (h : FitP nc no bk v) : v.kind = 0 ∨ v.kind = 1 ∨ v.kind = 2 ∨ v.kind = 3 ∨ v.kind = 4 ∨ v.kind = 5 ∨ v.kind = 6 ∨ v.kind = 7 := by
  rcases h.1 with h | h | h | h | h | h <;> omega
theorem num_fit {nc no : Nat} {bk : Int} {v : MValue} (h : FitP nc no bk v) (h6 : v.kind = 6) : ∃ m : Nat, v.number = m ∧ m < no := by
  have h1 := h.2.2.1 h6
  have h0 : 0 ≤ v.number := by rcases h.1 with h | h | h | h | h | h <;> omega
  exact ⟨v.number.toNat, by omega, by omega⟩


set_option maxHeartbeats 2000000 in
theorem classOf_any (x : MStore) (v : MValue) (ac : Option Addr) (cc : Nat) (ab : Option Addr) (cb : Nat) (au : Option Addr) (cu : Nat) (w : World)
    (rb : Rep w (MObjects x.objects) [.slice ab x.objects.length cb]) (hf : FitP x.classes.length x.objects.length 1000 v) :
    Calls Tryz.prog 135 #[.agg #[.slice ac x.classes.length cc, .slice ab x.objects.length cb, .slice au x.output.length cu, .int .i64 x.ticks, .int .i64 x.budget, .int .i64 x.made], .agg #[.int .i64 v.kind, .int .i64 v.number, .string v.text]] w fun e w' => e = .returned (.int .i64 (clsV x.objects v)) ∧ Ext w w' := by
  have HF := Lib.hid hf
  obtain ⟨abo, cbo, bb, oB, h1, hlb, hmb, pb, hob⟩ := Rep.slmap rb
  simp only [List.cons.injEq, and_true, Value.slice.injEq] at h1
  obtain ⟨rfl, -, rfl⟩ := h1
  unfold maxLen at hmb
  clear rb
  obtain ⟨K, n, t⟩ := v
  simp only at *
  by_cases h6 : K = 6
  · subst h6
    obtain ⟨m, hm, hmlt⟩ := num_fit hf rfl
    simp only at hm
    subst hm
    obtain rfl := pb (by omega)
    obtain ⟨z, hz⟩ : ∃ z, z = x.objects[m] := ⟨_, rfl⟩
    have hzm : x.objects[m]? = some z := by rw [hz]; simp [hmlt]
    obtain ⟨es, les, ces, res⟩ := hob m z hzm
    obtain ⟨af, cf, an, cn, rfl, -, -⟩ := MObject.op_en res
    have q1 : w.cell? ⟨bb, oB + m * 4 + 1, none⟩ = some _ := ces 1 (by omega)
    have zb : bb < w.heap.size := lt_of_cell q1
    have m0 : (0 : Int) ≤ m := by omega
    have m1 : (m : Int) < x.objects.length := by omega
    have HV : Hid (clsV x.objects ⟨6, m, t⟩ = z.cls) := Lib.hid (by simp [clsV, hzm])
    clear les ces res hzm hz hob hf
    go_enter Tryz.func135, Tryz.ntmps135
    go_wp2_with fail
    go_ret
    exact ⟨ret_int HV.out.symm, by first | exact Ext.refl _ | exact (Ext.refl _).alloc _ | exact ((Ext.refl _).alloc _).alloc _ | exact (((Ext.refl _).alloc _).alloc _).alloc _⟩
  have t6 : (K == 6) = false := int_ne h6
  have hk := kinds_fit hf
  simp only at hk
  clear hob pb
  rcases hk with rfl | rfl | rfl | rfl | rfl | rfl | rfl | rfl
  · clear h6 t6
    go_enter Tryz.func135, Tryz.ntmps135
    go_wp2_with fail
    go_ret
    exact ⟨rfl, by first | exact Ext.refl _ | exact (Ext.refl _).alloc _ | exact ((Ext.refl _).alloc _).alloc _ | exact (((Ext.refl _).alloc _).alloc _).alloc _⟩
  · clear h6 t6
    go_enter Tryz.func135, Tryz.ntmps135
    go_wp2_with fail
    go_ret
    exact ⟨rfl, by first | exact Ext.refl _ | exact (Ext.refl _).alloc _ | exact ((Ext.refl _).alloc _).alloc _ | exact (((Ext.refl _).alloc _).alloc _).alloc _⟩
  · clear h6 t6
    go_enter Tryz.func135, Tryz.ntmps135
    go_wp2_with fail
    go_ret
    exact ⟨rfl, by first | exact Ext.refl _ | exact (Ext.refl _).alloc _ | exact ((Ext.refl _).alloc _).alloc _ | exact (((Ext.refl _).alloc _).alloc _).alloc _⟩
  · clear h6 t6
    go_enter Tryz.func135, Tryz.ntmps135
    go_wp2_with fail
    go_ret
    exact ⟨rfl, by first | exact Ext.refl _ | exact (Ext.refl _).alloc _ | exact ((Ext.refl _).alloc _).alloc _ | exact (((Ext.refl _).alloc _).alloc _).alloc _⟩
  · clear h6 t6
    go_enter Tryz.func135, Tryz.ntmps135
    go_wp2_with fail
    go_ret
    exact ⟨rfl, by first | exact Ext.refl _ | exact (Ext.refl _).alloc _ | exact ((Ext.refl _).alloc _).alloc _ | exact (((Ext.refl _).alloc _).alloc _).alloc _⟩
  · clear h6 t6
    go_enter Tryz.func135, Tryz.ntmps135
    go_wp2_with fail
    go_ret
    exact ⟨rfl, by first | exact Ext.refl _ | exact (Ext.refl _).alloc _ | exact ((Ext.refl _).alloc _).alloc _ | exact (((Ext.refl _).alloc _).alloc _).alloc _⟩
  · exact absurd rfl h6
  · clear h6 t6
    go_enter Tryz.func135, Tryz.ntmps135
    go_wp2_with fail
    go_ret
    exact ⟨rfl, by first | exact Ext.refl _ | exact (Ext.refl _).alloc _ | exact ((Ext.refl _).alloc _).alloc _ | exact (((Ext.refl _).alloc _).alloc _).alloc _⟩

set_option maxHeartbeats 2000000 in
theorem l9Class_any (x : MStore) (v : MValue) (B : Nat) (ab : Option Addr) (cb : Nat) (w : World)
    (b1 : w.cell? ⟨B, 1, none⟩ = some (.slice ab x.objects.length cb))
    (rb : Rep w (MObjects x.objects) [.slice ab x.objects.length cb]) (hf : FitP x.classes.length x.objects.length 1000 v) :
    Calls Tryz.prog 131 #[.pointer (some ⟨B, 0, none⟩), .agg #[.int .i64 v.kind, .int .i64 v.number, .string v.text]] w fun e w' => e = .returned (.int .i64 (clsV x.objects v)) ∧ Ext w w' := by
  have zB : B < w.heap.size := lt_of_cell b1
  have HF := Lib.hid hf
  obtain ⟨abo, cbo, bb, oB, h1, hlb, hmb, pb, hob⟩ := Rep.slmap rb
  simp only [List.cons.injEq, and_true, Value.slice.injEq] at h1
  obtain ⟨rfl, -, rfl⟩ := h1
  unfold maxLen at hmb
  clear rb
  obtain ⟨K, n, t⟩ := v
  simp only at *
  by_cases h6 : K = 6
  · subst h6
    obtain ⟨m, hm, hmlt⟩ := num_fit hf rfl
    simp only at hm
    subst hm
    obtain rfl := pb (by omega)
    obtain ⟨z, hz⟩ : ∃ z, z = x.objects[m] := ⟨_, rfl⟩
    have hzm : x.objects[m]? = some z := by rw [hz]; simp [hmlt]
    obtain ⟨es, les, ces, res⟩ := hob m z hzm
    obtain ⟨af, cf, an, cn, rfl, -, -⟩ := MObject.op_en res
    have q1 : w.cell? ⟨bb, oB + m * 4 + 1, none⟩ = some _ := ces 1 (by omega)
    have zb : bb < w.heap.size := lt_of_cell q1
    have m0 : (0 : Int) ≤ m := by omega
    have m1 : (m : Int) < x.objects.length := by omega
    have HV : Hid (clsV x.objects ⟨6, m, t⟩ = z.cls) := Lib.hid (by simp [clsV, hzm])
    clear les ces res hzm hz hob hf
    go_enter Tryz.func131, Tryz.ntmps131
    go_wp2_with fail
    generalize hS : World.alloc w _ = W1
    have x1 : Ext w W1 := by rw [← hS]; exact (Ext.refl _).alloc _
    have v1 : W1.cell? ⟨w.heap.size, 1, none⟩ = some (.int .i64 m) := by rw [← hS]; simp
    clear hS
    have g1 := reg (Ext.refl _) v1
    have g2 := reg x1 b1
    have g3 := reg x1 q1
    refine wp_region_quiet_below (by kernel_rfl) (by kernel_rfl) ?_
    repeat (go_big_quiet_step (fail))
    refine wpQuiet_nil ?_
    clear g1 g2 g3
    intro _ hw'
    obtain ⟨pw, hw''⟩ := hw'
    subst hw''
    go_wp2_with fail
    go_ret
    exact ⟨ret_int HV.out.symm, x1.trans (regx _ _)⟩
  have t6 : (K == 6) = false := int_ne h6
  have hk := kinds_fit hf
  simp only at hk
  clear hob pb
  rcases hk with rfl | rfl | rfl | rfl | rfl | rfl | rfl | rfl
  · clear h6 t6
    go_enter Tryz.func131, Tryz.ntmps131
    go_wp2_with fail
    go_ret
    exact ⟨rfl, by first | exact Ext.refl _ | exact (Ext.refl _).alloc _ | exact ((Ext.refl _).alloc _).alloc _ | exact (((Ext.refl _).alloc _).alloc _).alloc _⟩
  · clear h6 t6
    go_enter Tryz.func131, Tryz.ntmps131
    go_wp2_with fail
    go_ret
    exact ⟨rfl, by first | exact Ext.refl _ | exact (Ext.refl _).alloc _ | exact ((Ext.refl _).alloc _).alloc _ | exact (((Ext.refl _).alloc _).alloc _).alloc _⟩
  · clear h6 t6
    go_enter Tryz.func131, Tryz.ntmps131
    go_wp2_with fail
    go_ret
    exact ⟨rfl, by first | exact Ext.refl _ | exact (Ext.refl _).alloc _ | exact ((Ext.refl _).alloc _).alloc _ | exact (((Ext.refl _).alloc _).alloc _).alloc _⟩
  · clear h6 t6
    go_enter Tryz.func131, Tryz.ntmps131
    go_wp2_with fail
    go_ret
    exact ⟨rfl, by first | exact Ext.refl _ | exact (Ext.refl _).alloc _ | exact ((Ext.refl _).alloc _).alloc _ | exact (((Ext.refl _).alloc _).alloc _).alloc _⟩
  · clear h6 t6
    go_enter Tryz.func131, Tryz.ntmps131
    go_wp2_with fail
    go_ret
    exact ⟨rfl, by first | exact Ext.refl _ | exact (Ext.refl _).alloc _ | exact ((Ext.refl _).alloc _).alloc _ | exact (((Ext.refl _).alloc _).alloc _).alloc _⟩
  · clear h6 t6
    go_enter Tryz.func131, Tryz.ntmps131
    go_wp2_with fail
    go_ret
    exact ⟨rfl, by first | exact Ext.refl _ | exact (Ext.refl _).alloc _ | exact ((Ext.refl _).alloc _).alloc _ | exact (((Ext.refl _).alloc _).alloc _).alloc _⟩
  · exact absurd rfl h6
  · clear h6 t6
    go_enter Tryz.func131, Tryz.ntmps131
    go_wp2_with fail
    go_ret
    exact ⟨rfl, by first | exact Ext.refl _ | exact (Ext.refl _).alloc _ | exact ((Ext.refl _).alloc _).alloc _ | exact (((Ext.refl _).alloc _).alloc _).alloc _⟩

end Go.Proofs.YtdngmifgglbbpaaGreatDoor
