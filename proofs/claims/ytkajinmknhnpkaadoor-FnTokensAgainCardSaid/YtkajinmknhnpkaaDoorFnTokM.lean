/-
  CONTRACTS: parts of Tokens: marks.
  Conditions: those that each lemma states.
-/
import Derived.Test.YtkajinmknhnpkaaDoorRows
import Derived.Test.YtkajinmknhnpkaaDoorFnTokL
namespace Go.Proofs.YtkajinmknhnpkaaDoor
open Go.RowKit
set_option linter.unusedSimpArgs false
set_option linter.unusedVariables false

def marksL : List ByteArray := [⟨#[58, 61]⟩, ⟨#[94]⟩, ⟨#[46]⟩, ⟨#[59]⟩, ⟨#[91]⟩, ⟨#[93]⟩, ⟨#[40]⟩, ⟨#[41]⟩, ⟨#[124]⟩, ⟨#[58]⟩]
theorem marks_small : ∀ x, x ∈ marksL → x.size ≤ 1048576 := by
  intro x hx
  simp only [marksL, List.mem_cons, List.not_mem_nil, or_false] at hx
  rcases hx with rfl | rfl | rfl | rfl | rfl | rfl | rfl | rfl | rfl | rfl <;> decide
set_option maxHeartbeats 400000 in
theorem l2Marks_any (w : World) : Calls Tryd.prog 35 #[] w (GivesV w (strs marksL)) := by
  go_enter Tryd.func35, Tryd.ntmps35
  go_wp2
  go_ret
  exact gives_strs w marksL 9 (by simp [marksL, maxLen]) (by simp [marksL])
set_option maxHeartbeats 400000 in
theorem markList_any (w : World) : Calls Tryd.prog 30 #[] w (GivesV w (strs marksL)) := by
  go_enter Tryd.func30, Tryd.ntmps30
  go_wp2
  go_ret
  exact gives_strs w marksL 9 (by simp [marksL, maxLen]) (by simp [marksL])

end Go.Proofs.YtkajinmknhnpkaaDoor
