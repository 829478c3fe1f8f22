/-
  CONTRACTS: FormatInt, of the program and of the reference.
  Conditions: those that each lemma states.
-/
import Derived.Test.YtlaclfeljimffaaGreatDoorRows
import Derived.Laws.BytesArg
import Derived.Lib.ItoaNum
import Derived.Lib.SmallJoins
import Derived.Test.YtlaclfeljimffaaGreatDoorP02
import Derived.Test.YtlaclfeljimffaaGreatDoorShelf
namespace Go.Proofs.YtlaclfeljimffaaGreatDoor
open Go.RowKit Go.Joins
set_option maxHeartbeats 8000000
set_option maxRecDepth 100000
set_option linter.unusedSimpArgs false
set_option linter.unusedVariables false

end Go.Proofs.YtlaclfeljimffaaGreatDoor
