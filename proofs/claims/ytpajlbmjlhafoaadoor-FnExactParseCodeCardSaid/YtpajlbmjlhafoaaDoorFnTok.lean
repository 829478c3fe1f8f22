/-
  CONTRACTS: parts of Tokens: what stands at a place.
  Conditions: those that each lemma states.
-/
import Derived.Test.YtpajlbmjlhafoaaDoorRows
import Derived.Test.YtpajlbmjlhafoaaDoorFnSel
import Derived.Lib.QuietBelow
import Derived.BigQuiet
namespace Go.Proofs.YtpajlbmjlhafoaaDoor
open Go.RowKit
set_option linter.unusedSimpArgs false
set_option linter.unusedVariables false

/-- What is left from a place on. -/
def suf (s : ByteArray) (k : Nat) : ByteArray := s.extract k s.size
theorem suf_data (s : ByteArray) (k : Nat) : (suf s k).data.toList = s.data.toList.drop k := by
  unfold suf
  rw [extract_mk, data_mkB, List.take_of_length_le (by simp)]
theorem pre_iff {s x : ByteArray} {k : Nat} (hk : k ≤ s.size) : Lib.hasPrefix (suf s k).data.toList x.data.toList = true ↔ k + x.size ≤ s.size ∧ s.extract k (k + x.size) = x := by
  have ex : x.data.toList.length = x.size := by simp
  have es : s.data.toList.length = s.size := by simp
  rw [suf_data, Lib.hasPrefix, List.isPrefixOf_iff_prefix, List.prefix_iff_eq_take, ex]
  constructor
  · intro h
    have hl := congrArg List.length h
    rw [List.length_take, List.length_drop, ex, es] at hl
    refine ⟨by omega, ?_⟩
    rw [extract_mk, show k + x.size - k = x.size from by omega, ← h, mkB_data]
  · rintro ⟨h1, h2⟩
    have h3 := congrArg (fun b : ByteArray => b.data.toList) h2
    simp only [extract_mk, data_mkB, show k + x.size - k = x.size from by omega] at h3
    exact h3.symm
theorem pre_no {s x : ByteArray} {k : Nat} (hk : k ≤ s.size) (h : ¬ (k + x.size ≤ s.size ∧ s.extract k (k + x.size) = x)) : Lib.hasPrefix (suf s k).data.toList x.data.toList = false := by
  cases hp : Lib.hasPrefix (suf s k).data.toList x.data.toList
  · rfl
  · exact absurd ((pre_iff hk).1 hp) h

/-- A colon that is not that of ':='. -/
def colL : List UInt8 → Bool
  | c :: d :: _ => decide (c = 58) && decide (d ≠ 61)
  | [c] => decide (c = 58)
  | [] => false

theorem drop_cons {s : ByteArray} {k : Nat} (h : k < s.size) : s.data.toList.drop k = s[k] :: s.data.toList.drop (k + 1) := by
  rw [List.drop_eq_getElem_cons (by simpa using h)]; rfl
theorem u8_eq {a : UInt8} {n : Int} (b : UInt8) (hb : (b.toNat : Int) = n) (h : a = b) : ((a.toNat : Int) == n) = true := int_eq (by rw [h, hb])
theorem u8_ne {a : UInt8} {n : Int} (b : UInt8) (hb : (b.toNat : Int) = n) (h : ¬ a = b) : ((a.toNat : Int) == n) = false := int_ne fun e => h (UInt8.toNat_inj.1 (by omega))
theorem u8_eqn {a : UInt8} {n : Int} (b : UInt8) (hb : (b.toNat : Int) = n) (h : a = b) : ((a.toNat : Int) != n) = false := int_eqn (by rw [h, hb])
theorem u8_nen {a : UInt8} {n : Int} (b : UInt8) (hb : (b.toNat : Int) = n) (h : ¬ a = b) : ((a.toNat : Int) != n) = true := int_nen fun e => h (UInt8.toNat_inj.1 (by omega))

end Go.Proofs.YtpajlbmjlhafoaaDoor
