/-
  CONTRACTS: parts of Tokens: a symbol, of the reference.
  Conditions: those that each lemma states.
-/
import Derived.Test.YtpajlbmjlhafoaaDoorRows
import Derived.Test.YtpajlbmjlhafoaaDoorFnTokS
import Derived.Test.YtpajlbmjlhafoaaDoorFnTokD
namespace Go.Proofs.YtpajlbmjlhafoaaDoor
open Go.RowKit
set_option linter.unusedSimpArgs false
set_option linter.unusedVariables false

/-- A symbol that stands at the head, as the reference reads it. -/
noncomputable def selT (l : List UInt8) : MToken × Nat :=
  if firstP opsL (mkB l) = ⟨#[]⟩ then
    if headLtr l = true then (if selB (mkB (l.take (symN l))) = true then (⟨5, mkB (l.take (symN l)), 0⟩, symN l) else noTok) else noTok
  else (⟨5, firstP opsL (mkB l), 0⟩, (firstP opsL (mkB l)).size)
theorem suf_mk (s : ByteArray) (k : Nat) : suf s k = mkB (s.data.toList.drop k) := by rw [← suf_data, mkB_data]
theorem run_ltr {l : List UInt8} (h : headLtr l = true) : runL l ≠ 0 := by
  cases l with
  | nil => cases h
  | cons c r =>
    have h1 : ltrB (c.toNat : Int) = true := h
    have h2 : alnB c = true := by simp [alnB, h1]
    rw [runL, if_pos h2]; omega
theorem ops_small : ∀ x, x ∈ opsL → x.size ≤ 1048576 := by
  intro x hx
  simp only [opsL, List.mem_cons, List.not_mem_nil, or_false] at hx
  rcases hx with rfl | rfl | rfl | rfl | rfl | rfl | rfl | rfl | rfl | rfl | rfl | rfl | rfl | rfl | rfl <;> decide

end Go.Proofs.YtpajlbmjlhafoaaDoor
