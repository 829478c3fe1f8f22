/-
  CONTRACTS: FormatInt, of the program and of the reference.
  Conditions: those that each lemma states.
-/
import Derived.Test.YtndhpbjhkgdieaaGreatDoorRows
import Derived.Laws.BytesArg
import Derived.Lib.ItoaNum
import Derived.Lib.SmallJoins
import Derived.Test.YtndhpbjhkgdieaaGreatDoorP02
import Derived.Test.YtndhpbjhkgdieaaGreatDoorShelf
namespace Go.Proofs.YtndhpbjhkgdieaaGreatDoor
open Go.RowKit Go.Joins
set_option maxHeartbeats 8000000
set_option maxRecDepth 100000
set_option linter.unusedSimpArgs false
set_option linter.unusedVariables false
def itoaB (n : Int) : ByteArray := ⟨(Lib.itoa n).toArray⟩
def TabOk (w : World) : Prop := Lib.TabIs Tryz.prog w "internal/strconv.uint64pow10" .u64 Lib.pow10Tab
theorem TabOk.ext {w w' : World} (h : TabOk w) (hx : Ext w w') : TabOk w' := tab_stays (g := 3) (by kernel_rfl) h hx (Nat.le_refl _)
theorem impl_FormatInt_any (n : Int) (w : World) (h0 : -9223372036854775808 <= n) (h1 : n <= 9223372036854775807) (htab : Lib.TabIs Tryz.prog w "internal/strconv.uint64pow10" .u64 Lib.pow10Tab) :
 Calls Tryz.prog 63 #[.int .i64 n] w fun e w' => e = .returned (.string (itoaB n)) /\ Ext w w' := by
 go_enter Tryz.func63, Tryz.ntmps63
 go_wp2_with fail
 refine (Tryz.strconv_Itoa n h0 h1 _ htab).mono ?_
 rintro e w1 ⟨rfl, k, os, hw⟩
 have hx : Ext w w1 := by rw [hw]; exact below_regrown w _ _
 clear hw
 go_wp2_with fail
 go_ret
 exact ⟨rfl, hx⟩
end Go.Proofs.YtndhpbjhkgdieaaGreatDoor
