/-
  CONTRACTS: parts of Tokens: names and keywords, of the reference.
  Conditions: those that each lemma states.
-/
import Derived.Test.YtpajlbmjlhafoaaDoorRows
import Derived.Test.YtpajlbmjlhafoaaDoorFnTok
import Derived.Deep.RegionHeld3
import Derived.Deep.DeepCutAuto
namespace Go.Proofs.YtpajlbmjlhafoaaDoor
open Go.RowKit
set_option linter.unusedSimpArgs false
set_option linter.unusedVariables false

def tokVal (t : MToken) : Value := .agg #[.int .i64 t.kind, .string t.text, .int .i64 t.number]
def endV (k n : Nat) : Int := if n = 0 then 0 else ((k + n : Nat) : Int)
def noTok : MToken × Nat := (⟨0, ⟨#[]⟩, 0⟩, 0)
def runB (l : List UInt8) : ByteArray := mkB (l.take (runL l))
/-- A name, a word or a keyword that stands at the head; 0: none. -/
noncomputable def nameT (l : List UInt8) : MToken × Nat :=
  if colL (l.drop (runL l)) then (if runL l ≤ 20 then (⟨2, runB l ++ ⟨#[58]⟩, 0⟩, runL l + 1) else noTok)
  else if hasB wordsL (runB l) then (⟨8, runB l, 0⟩, runL l) else if runL l ≤ 20 then (⟨1, runB l, 0⟩, runL l) else noTok
theorem word_len {s : ByteArray} (h : hasB wordsL s = true) : s.size ≤ 11 := by
  have h := hasB_iff.1 h
  simp only [wordsL, List.mem_cons, List.not_mem_nil, or_false] at h
  rcases h with rfl | rfl | rfl | rfl | rfl | rfl | rfl <;> decide

end Go.Proofs.YtpajlbmjlhafoaaDoor
