/-
  CONTRACTS: the class of a value in a store, of the program and of the reference.
  Conditions: those that each lemma states.
-/
import Derived.Test.YticdmbmjlaomiaaGreatDoorRows
import Derived.Test.YticdmbmjlaomiaaGreatDoorFnStore
namespace Go.Proofs.YticdmbmjlaomiaaGreatDoor
open Go.RowKit
set_option linter.unusedSimpArgs false
set_option linter.unusedVariables false

def clsV (l : List MObject) (v : MValue) : Int := if v.kind = 6 then (l.getD v.number.toNat ⟨0, 0, [], []⟩).cls else ([7, 6, 5, 8, 9, 15, 0, 11] : List Int).getD v.kind.toNat 0
open Classical in
noncomputable def classOfV (x : MStore) (v : MValue) : Int := if storeB 1000 x = true ∧ fitB x.classes.length x.objects.length 1000 v = true then clsV x.objects v else -1
theorem classOfV_tt {x : MStore} {v : MValue} (h1 : storeB 1000 x = true) (h2 : fitB x.classes.length x.objects.length 1000 v = true) : classOfV x v = clsV x.objects v := by
  unfold classOfV; rw [if_pos ⟨h1, h2⟩]
theorem classOfV_ff {x : MStore} {v : MValue} (h : storeB 1000 x = true → ¬ fitB x.classes.length x.objects.length 1000 v = true) : classOfV x v = -1 := by
  unfold classOfV; rw [if_neg (fun g => h g.1 g.2)]
theorem kinds_fit {nc no : Nat} {bk : Int} {v : MValue} (h : FitP nc no bk v) : v.kind = 0 ∨ v.kind = 1 ∨ v.kind = 2 ∨ v.kind = 3 ∨ v.kind = 4 ∨ v.kind = 5 ∨ v.kind = 6 ∨ v.kind = 7 := by
  rcases h.1 with h | h | h | h | h | h <;> omega
theorem num_fit {nc no : Nat} {bk : Int} {v : MValue} (h : FitP nc no bk v) (h6 : v.kind = 6) : ∃ m : Nat, v.number = m ∧ m < no := by
  have h1 := h.2.2.1 h6
  have h0 : 0 ≤ v.number := by rcases h.1 with h | h | h | h | h | h <;> omega
  exact ⟨v.number.toNat, by omega, by omega⟩

end Go.Proofs.YticdmbmjlaomiaaGreatDoor
