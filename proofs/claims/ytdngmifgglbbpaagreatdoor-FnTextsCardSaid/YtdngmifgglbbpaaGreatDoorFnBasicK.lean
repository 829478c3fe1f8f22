/-
  CONTRACTS: messages to numbers, of the reference.
  Conditions: those that each lemma states.
-/
import Derived.Test.YtdngmifgglbbpaaGreatDoorRows
import Derived.Test.YtdngmifgglbbpaaGreatDoorFnBasicI
namespace Go.Proofs.YtdngmifgglbbpaaGreatDoor
open Go.RowKit
set_option linter.unusedSimpArgs false
set_option linter.unusedVariables false

end Go.Proofs.YtdngmifgglbbpaaGreatDoor
