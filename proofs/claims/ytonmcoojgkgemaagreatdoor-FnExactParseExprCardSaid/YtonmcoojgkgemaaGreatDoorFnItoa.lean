/-
  CONTRACTS: FormatInt, of the program and of the reference.
  Conditions: those that each lemma states.
-/
import Derived.Test.YtonmcoojgkgemaaGreatDoorRows
import Derived.Laws.BytesArg
import Derived.Lib.ItoaNum
import Derived.Lib.SmallJoins
import Derived.Test.YtonmcoojgkgemaaGreatDoorP02
import Derived.Test.YtonmcoojgkgemaaGreatDoorShelf
namespace Go.Proofs.YtonmcoojgkgemaaGreatDoor
open Go.RowKit Go.Joins
set_option linter.unusedSimpArgs false
set_option linter.unusedVariables false

def ndig : Nat → Nat → List UInt8 → List UInt8
  | 0, _, acc => acc
  | f + 1, k, acc => if k = 0 then acc else ndig f (k / 10) (UInt8.ofNat (48 + k % 10) :: acc)
theorem ndig_fuel : ∀ (f k : Nat) (acc : List UInt8), k < f → ndig f k acc = ndig (k + 1) k acc
  | 0, k, acc, h => by omega
  | f + 1, k, acc, h => by
    by_cases h0 : k = 0
    · subst h0; simp [ndig]
    · rw [ndig, if_neg h0, ndig, if_neg h0, ndig_fuel f (k / 10) _ (by omega), ndig_fuel k (k / 10) _ (by omega)]
theorem ndig_zero (f : Nat) (acc : List UInt8) : ndig f 0 acc = acc := by cases f <;> simp [ndig]
theorem ndig_step {k : Nat} (h : 0 < k) (acc : List UInt8) : ndig (k + 1) k acc = ndig (k / 10 + 1) (k / 10) (UInt8.ofNat (48 + k % 10) :: acc) := by
  rw [ndig, if_neg (by omega), ndig_fuel k (k / 10) _ (by omega)]
theorem ndig_dec : ∀ (k : Nat) (acc : List UInt8), 0 < k → ndig (k + 1) k acc = Lib.decDigits k ++ acc := by
  intro k
  induction k using Nat.strongRecOn with
  | _ k ih =>
    intro acc hk
    rw [ndig_step hk, Lib.decDigits]
    by_cases h : k < 10
    · rw [dif_pos h, show k / 10 = 0 from by omega, ndig_zero, show k % 10 = k from by omega]; rfl
    · rw [dif_neg h, ih (k / 10) (by omega) _ (by omega)]; simp
def itoaB (n : Int) : ByteArray := ⟨(Lib.itoa n).toArray⟩

end Go.Proofs.YtonmcoojgkgemaaGreatDoor
