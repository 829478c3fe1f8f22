/-
  CONTRACTS: parts of Tokens: a symbol, of the program.
  Conditions: those that each lemma states.
-/
import Derived.Test.YtpajlbmjlhafoaaDoorRows
import Derived.Test.YtpajlbmjlhafoaaDoorFnTokN
namespace Go.Proofs.YtpajlbmjlhafoaaDoor
open Go.RowKit
set_option linter.unusedSimpArgs false
set_option linter.unusedVariables false

theorem runB_size (l : List UInt8) : (runB l).size = runL l := by
  rw [runB, mkB_size, List.length_take]
  have := runL_le l
  omega

theorem runOf_suf (s : ByteArray) (k : Nat) (w : World) (hs : s.size ≤ 1048576) :
    Calls Tryd.prog 121 #[.string (s.extract k s.size)] w fun e w' => e = .returned (.string (runB (s.data.toList.drop k))) ∧ w' = w := by
  have h := runOf_any (suf s k) w (by unfold suf; simp; omega)
  have e1 : (suf s k).extract 0 (runAt (suf s k) 0) = runB (s.data.toList.drop k) := by
    rw [extract_mk, runAt, suf_data, runB]; simp
  rw [e1] at h
  exact h

/-- The bytes of the keywords at the head. -/
def kwL (l : List UInt8) : Nat :=
  if h : runL l = 0 then 0 else if colL (l.drop (runL l)) = true then runL l + 1 + kwL (l.drop (runL l + 1)) else 0
termination_by l.length
decreasing_by
  have := runL_le l
  rw [List.length_drop]; omega

def symN (l : List UInt8) : Nat := if runL l = 0 then 0 else if colL (l.drop (runL l)) = true then kwL l else runL l
noncomputable def symB (l : List UInt8) : ByteArray := if firstP opsL (mkB l) = ⟨#[]⟩ then mkB (l.take (symN l)) else firstP opsL (mkB l)
theorem colL_pos {l : List UInt8} (h : colL l = true) : 0 < l.length := by
  cases l with
  | nil => cases h
  | cons _ _ => simp
theorem kw_no0 {l : List UInt8} (h : runL l = 0) : kwL l = 0 := by rw [kwL]; simp [h]
theorem kw_noc {l : List UInt8} (h : colL (l.drop (runL l)) = false) : kwL l = 0 := by rw [kwL]; simp [h]
theorem kw_yes {l : List UInt8} (h0 : runL l ≠ 0) (h : colL (l.drop (runL l)) = true) : kwL l = runL l + 1 + kwL (l.drop (runL l + 1)) := by
  rw [kwL, dif_neg h0, if_pos h]

end Go.Proofs.YtpajlbmjlhafoaaDoor
