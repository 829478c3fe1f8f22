/-
  CONTRACTS: IsSystem: plain.
  Conditions: those that each lemma states.
-/
import Derived.Test.YtdngmifgglbbpaaGreatDoorRows
import Derived.Test.YtdngmifgglbbpaaGreatDoorFnRoutP
import Derived.Test.YtdngmifgglbbpaaGreatDoorFnCls8
import Derived.Test.YtdngmifgglbbpaaGreatDoorFnClsOk
namespace Go.Proofs.YtdngmifgglbbpaaGreatDoor
open Go.RowKit
set_option linter.unusedSimpArgs false
set_option linter.unusedVariables false

/-- A routine in its place among the routines. -/
def RoutAt (K : Int) (R : List MRoutine) (i : Nat) (r : MRoutine) : Prop :=
  argsB r.selector = r.params ∧ (16 ≤ r.owner ∧ r.owner ≤ K - 1) ∧ routP K r ∧ ∀ k e, k < i → R[k]? = some e → ¬ (e.selector = r.selector ∧ e.owner = r.owner ∧ e.cls = r.cls)
def mainT : ByteArray := ⟨#[109, 97, 105, 110]⟩
def SysP (x : MSystem) : Prop :=
  clsB x.classes = true ∧ (x.main.selector = mainT ∧ x.main.owner = -1 ∧ x.main.cls = false ∧ x.main.params = 0) ∧ routP x.classes.length x.main ∧ x.routines.length ≤ 96 ∧ ∀ i r, x.routines[i]? = some r → RoutAt x.classes.length x.routines i r
def SysSz (x : MSystem) : Prop := (∀ c, c ∈ x.classes → c.name.size ≤ 1048576 ∧ ∀ s, s ∈ c.fields → s.size ≤ 1048576) ∧ (x.main.selector.size ≤ 1048576 ∧ x.main.body.d.bulk ≤ 1048576) ∧ (∀ r, r ∈ x.routines → r.selector.size ≤ 1048576 ∧ r.body.d.bulk ≤ 1048576) ∧ x.routines.length ≤ 1048576
theorem bulk_routine {x : MRoutine} {n : Nat} (h : x.d.bulk ≤ n) : x.selector.size ≤ n ∧ x.body.d.bulk ≤ n := by
  rw [MRoutine.d_eq] at h
  simp only [D.bulk, D.bulkL] at h
  omega
theorem bulk_system {x : MSystem} (h : x.d.bulk ≤ 1048576) : SysSz x := by
  rw [MSystem.d_eq] at h
  simp only [D.bulk, D.bulkL, MClassInfos, MRoutines, List.length_map] at h
  refine ⟨fun c hc => ?_, bulk_routine (by omega), fun r hr => ?_, by omega⟩
  · have h1 := D.bulkL_mem (List.mem_map_of_mem (f := MClassInfo.d) hc)
    have h2 : c.d.bulk ≤ 1048576 := by omega
    rw [MClassInfo.d_eq] at h2
    simp only [D.bulk, D.bulkL, strs, List.length_map] at h2
    refine ⟨by omega, fun s hs => ?_⟩
    have h3 := D.bulkL_mem (List.mem_map_of_mem (f := D.str) hs)
    simp only [D.bulk] at h3
    omega
  · have h1 := D.bulkL_mem (List.mem_map_of_mem (f := MRoutine.d) hr)
    exact bulk_routine (by omega)
/-- What a routine's own checks answer. -/
def RoutI : Prop := ∀ (r : MRoutine) (cr : List Value) (K : Int) (w : World), Rep w r.d cr → r.body.d.bulk ≤ 1048576 → 0 ≤ K → K ≤ 1000 → MaxOk w → Calls Tryz.prog 50 #[.agg cr.toArray, .int .i64 K] w fun e w' => e = .returned (.bool (prB (routP K r))) ∧ Ext w w'
def RoutS : Prop := ∀ (r : MRoutine) (cr : List Value) (K : Int) (w : World), Rep w r.d cr → r.body.d.bulk ≤ 1048576 → 0 ≤ K → K ≤ 1000 → Calls Tryz.prog 43 #[.agg cr.toArray, .int .i64 K] w fun e w' => e = .returned (.bool (prB (routP K r))) ∧ Ext w w'
theorem inR_ff {a b n : Int} (h : inR a b n = false) : ¬ (a ≤ n ∧ n ≤ b) := fun g => by rw [inR_iff.2 g] at h; cases h

end Go.Proofs.YtdngmifgglbbpaaGreatDoor
