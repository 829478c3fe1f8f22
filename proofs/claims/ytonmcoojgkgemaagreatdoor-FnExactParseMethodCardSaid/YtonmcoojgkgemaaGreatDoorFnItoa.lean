/-
  CONTRACTS: FormatInt, of the program and of the reference.
  Conditions: those that each lemma states.
-/
import Derived.Test.YtonmcoojgkgemaaGreatDoorRows
import Derived.Laws.BytesArg
import Derived.Lib.ItoaNum
import Derived.Lib.SmallJoins
import Derived.Test.YtonmcoojgkgemaaGreatDoorP02
import Derived.Test.YtonmcoojgkgemaaGreatDoorShelf
namespace Go.Proofs.YtonmcoojgkgemaaGreatDoor
open Go.RowKit Go.Joins
set_option linter.unusedSimpArgs false
set_option linter.unusedVariables false

end Go.Proofs.YtonmcoojgkgemaaGreatDoor
