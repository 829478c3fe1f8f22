/-
  CONTRACTS: BuiltinClasses, of the program and of the reference.
  Conditions: those that each lemma states.
-/
import Derived.Test.YtlppoffneeglgaaGreatDoorRows
import Derived.Test.YtlppoffneeglgaaGreatDoorLem
namespace Go.Proofs.YtlppoffneeglgaaGreatDoor
open Go.RowKit

def builtinsL : List ByteArray := [⟨#[79, 98, 106, 101, 99, 116]⟩, ⟨#[69, 120, 99, 101, 112, 116, 105, 111, 110]⟩, ⟨#[69, 114, 114, 111, 114]⟩, ⟨#[77, 101, 115, 115, 97, 103, 101, 78, 111, 116, 85, 110, 100, 101, 114, 115, 116, 111, 111, 100]⟩, ⟨#[90, 101, 114, 111, 68, 105, 118, 105, 100, 101]⟩, ⟨#[73, 110, 116, 101, 103, 101, 114]⟩, ⟨#[66, 111, 111, 108, 101, 97, 110]⟩, ⟨#[78, 105, 108]⟩, ⟨#[83, 116, 114, 105, 110, 103]⟩, ⟨#[83, 121, 109, 98, 111, 108]⟩, ⟨#[65, 114, 114, 97, 121]⟩, ⟨#[66, 108, 111, 99, 107]⟩, ⟨#[83, 101, 109, 97, 112, 104, 111, 114, 101]⟩, ⟨#[80, 114, 111, 99, 101, 115, 115]⟩, ⟨#[84, 114, 97, 110, 115, 99, 114, 105, 112, 116]⟩, ⟨#[67, 108, 97, 115, 115]⟩]

set_option maxHeartbeats 400000 in
theorem spec_BuiltinClasses_any (w : World) : Calls Tryz.prog 60 #[] w (GivesV w (strs builtinsL)) := by
  go_enter Tryz.func60, Tryz.ntmps60
  go_wp2
  go_ret
  exact gives_strs w builtinsL 9 (by simp [builtinsL, maxLen]) (by simp [builtinsL])

set_option maxHeartbeats 400000 in
theorem impl_BuiltinClasses_any (w : World) : Calls Tryz.prog 17 #[] w (GivesV w (strs builtinsL)) := by
  go_enter Tryz.func17, Tryz.ntmps17
  go_wp2
  go_ret
  exact gives_strs w builtinsL 9 (by simp [builtinsL, maxLen]) (by simp [builtinsL])

end Go.Proofs.YtlppoffneeglgaaGreatDoor
