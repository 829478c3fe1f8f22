/-
  CONTRACTS: parts of Tokens: numbers, of the reference.
  Conditions: those that each lemma states.
-/
import Derived.Test.YtpajlbmjlhafoaaDoorRows
import Derived.Test.YtpajlbmjlhafoaaDoorFnTokN
import Derived.Test.YtpajlbmjlhafoaaDoorNums
namespace Go.Proofs.YtpajlbmjlhafoaaDoor
open Go.RowKit
set_option linter.unusedSimpArgs false
set_option linter.unusedVariables false

/-- The digits at the head. -/
def digN : List UInt8 → Nat
  | [] => 0
  | c :: r => if dgtB (c.toNat : Int) = true then digN r + 1 else 0
def headLtr : List UInt8 → Bool
  | [] => false
  | c :: _ => ltrB (c.toNat : Int)
def numT (l : List UInt8) : MToken × Nat := if 9 < digN l then noTok else if headLtr (l.drop (digN l)) = true then noTok else (⟨3, ⟨#[]⟩, (valF 0 (l.take (digN l)) : Nat)⟩, digN l)
theorem digN_all : ∀ {l : List UInt8} {j : Nat}, j ≤ l.length → (∀ c, c ∈ l.take j → dgtB (c.toNat : Int) = true) → digN l = j + digN (l.drop j)
  | l, 0, _, _ => by simp
  | [], j + 1, h, _ => by simp at h
  | c :: r, j + 1, h, hd => by
    have h1 := hd c (by simp)
    have h2 := digN_all (l := r) (j := j) (by simpa using h) (fun x hx => hd x (by simp [hx]))
    rw [digN, if_pos h1, h2, List.drop_succ_cons]; omega
theorem dgt_iff {n : Int} : dgtB n = true ↔ 48 ≤ n ∧ n ≤ 57 := by unfold dgtB; exact decide_eq_true_iff

end Go.Proofs.YtpajlbmjlhafoaaDoor
