/-
  CONTRACTS: FormatInt, of the program and of the reference.
  Conditions: those that each lemma states.
-/
import Derived.Test.YtkajinmknhnpkaaDoorRows
import Derived.Test.YtkajinmknhnpkaaDoorLem
import Derived.Test.YtkajinmknhnpkaaDoorShelf
import Derived.Laws.BytesArg
import Derived.Lib.SmallJoins
namespace Go.Proofs.YtkajinmknhnpkaaDoor
open Go.RowKit Go.Joins
set_option linter.unusedSimpArgs false
set_option linter.unusedVariables false

def ndig : Nat → Nat → List UInt8 → List UInt8
  | 0, _, acc => acc
  | f + 1, k, acc => if k = 0 then acc else ndig f (k / 10) (UInt8.ofNat (48 + k % 10) :: acc)
theorem ndig_fuel : ∀ (f k : Nat) (acc : List UInt8), k < f → ndig f k acc = ndig (k + 1) k acc
  | 0, k, acc, h => by omega
  | f + 1, k, acc, h => by
    by_cases h0 : k = 0
    · subst h0; simp [ndig]
    · rw [ndig, if_neg h0, ndig, if_neg h0, ndig_fuel f (k / 10) _ (by omega), ndig_fuel k (k / 10) _ (by omega)]
theorem ndig_zero (f : Nat) (acc : List UInt8) : ndig f 0 acc = acc := by cases f <;> simp [ndig]
theorem ndig_step {k : Nat} (h : 0 < k) (acc : List UInt8) : ndig (k + 1) k acc = ndig (k / 10 + 1) (k / 10) (UInt8.ofNat (48 + k % 10) :: acc) := by
  rw [ndig, if_neg (by omega), ndig_fuel k (k / 10) _ (by omega)]
theorem ndig_dec : ∀ (k : Nat) (acc : List UInt8), 0 < k → ndig (k + 1) k acc = Lib.decDigits k ++ acc := by
  intro k
  induction k using Nat.strongRecOn with
  | _ k ih =>
    intro acc hk
    rw [ndig_step hk, Lib.decDigits]
    by_cases h : k < 10
    · rw [dif_pos h, show k / 10 = 0 from by omega, ndig_zero, show k % 10 = k from by omega]; rfl
    · rw [dif_neg h, ih (k / 10) (by omega) _ (by omega)]; simp
def itoaB (n : Int) : ByteArray := ⟨(Lib.itoa n).toArray⟩

def TabOk (w : World) : Prop := Lib.TabIs Tryd.prog w "internal/strconv.uint64pow10" .u64 Lib.pow10Tab
theorem TabOk.ext {w w' : World} (h : TabOk w) (hx : Ext w w') : TabOk w' := tab_stays (g := 3) (by kernel_rfl) h hx (Nat.le_refl _)

theorem impl_FormatInt_any (n : Int) (w : World) (h0 : -9223372036854775808 ≤ n) (h1 : n ≤ 9223372036854775807) (htab : Lib.TabIs Tryd.prog w "internal/strconv.uint64pow10" .u64 Lib.pow10Tab) :
    Calls Tryd.prog 15 #[.int .i64 n] w fun e w' => e = .returned (.string (itoaB n)) ∧ Ext w w' := by
  go_enter Tryd.func15, Tryd.ntmps15
  go_wp2_with fail
  refine (Tryd.strconv_Itoa n h0 h1 _ htab).mono ?_
  rintro e w1 ⟨rfl, k, os, hw⟩
  have hx : Ext w w1 := by rw [hw]; exact below_regrown w _ _
  clear hw
  go_wp2_with fail
  go_ret
  exact ⟨rfl, hx⟩

end Go.Proofs.YtkajinmknhnpkaaDoor
