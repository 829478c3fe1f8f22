/-
  CONTRACTS: limits of routines: plain.
  Conditions: those that each lemma states.
-/
import Derived.Test.YtdngmifgglbbpaaGreatDoorRows
import Derived.Test.YtdngmifgglbbpaaGreatDoorCoreP
namespace Go.Proofs.YtdngmifgglbbpaaGreatDoor
open Go.RowKit
set_option linter.unusedSimpArgs false
set_option linter.unusedVariables false

/-- The limits of a routine. -/
def fitsR (r : MRoutine) : Prop := r.slots ≤ 30 ∧ r.body.nodes ≤ 500 ∧ r.body.deep ≤ 40 ∧ r.body.slim
def routP (K : Int) (r : MRoutine) : Prop := (0 ≤ r.params ∧ r.params ≤ r.slots) ∧ fitsR r ∧ okN 40 K [(r.params, r.slots)] r.body

end Go.Proofs.YtdngmifgglbbpaaGreatDoor
