/-
  CONTRACTS: IsSystem, of both.
  Conditions: those that each lemma states.
-/
import Derived.Test.YtdngmifgglbbpaaGreatDoorRows
import Derived.Test.YtdngmifgglbbpaaGreatDoorFnRout
import Derived.Test.YtdngmifgglbbpaaGreatDoorFnSysI
import Derived.Test.YtdngmifgglbbpaaGreatDoorFnSysS
namespace Go.Proofs.YtdngmifgglbbpaaGreatDoor
open Go.RowKit
set_option linter.unusedSimpArgs false
set_option linter.unusedVariables false

theorem impl_IsSystem_any (x : MSystem) (cx : List Value) (w : World) (rx : Rep w x.d cx) (hz : SysSz x) (hM : MaxOk w) :
    Calls Tryz.prog 12 #[.agg cx.toArray] w fun e w' => e = .returned (.bool (prB (SysP x))) ∧ Ext w w' :=
  impl_IsSystem_of (Lib.hid fun r cr K w rr hb h0 h1 hM => routineOk_any r cr K w rr hb h0 h1 hM) x cx w rx hz hM
theorem spec_IsSystem_any (x : MSystem) (cx : List Value) (w : World) (rx : Rep w x.d cx) (hz : SysSz x) :
    Calls Tryz.prog 10 #[.agg cx.toArray] w fun e w' => e = .returned (.bool (prB (SysP x))) ∧ Ext w w' :=
  spec_IsSystem_of (Lib.hid fun r cr K w rr hb h0 h1 => l8IsRoutine_any r cr K w rr hb h0 h1) x cx w rx hz
end Go.Proofs.YtdngmifgglbbpaaGreatDoor
