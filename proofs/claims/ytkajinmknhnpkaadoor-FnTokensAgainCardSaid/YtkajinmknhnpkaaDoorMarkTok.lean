/-
  THE LAWS' MARKS of tokens: a result's memory is written over and read again.
  Conditions: those that each lemma states.
-/
import Derived.Test.YtkajinmknhnpkaaDoorRows
import Derived.Test.YtkajinmknhnpkaaDoorMark
import Derived.Test.YtkajinmknhnpkaaDoorTypes
namespace Go.Proofs.YtkajinmknhnpkaaDoor
open Go.RowKit
set_option linter.unusedSimpArgs false
set_option linter.unusedVariables false

def tmark (k : Int) : MToken := ⟨k, mtext (k + 1), k + 2⟩
/-- The marks of n tokens. -/
def tmarks (k : Int) : Nat → List MToken
  | 0 => []
  | n + 1 => tmarks k n ++ [tmark (k + 3 * n)]
theorem tmarks_length (k : Int) : ∀ n, (tmarks k n).length = n
  | 0 => rfl
  | n + 1 => by simp [tmarks, tmarks_length k n]
theorem tmarks_get (k : Int) : ∀ n i, i < n → (tmarks k n)[i]? = some (tmark (k + 3 * i))
  | 0, i, h => by omega
  | n + 1, i, h => by
    rw [tmarks]
    by_cases hi : i < n
    · rw [List.getElem?_append_left (by rw [tmarks_length]; exact hi), tmarks_get k n i hi]
    · obtain rfl : i = n := by omega
      rw [List.getElem?_append_right (by rw [tmarks_length]; omega), tmarks_length]; simp
def tcells : List MToken → List Value
  | [] => []
  | x :: l => .int .i64 x.kind :: .string x.text :: .int .i64 x.number :: tcells l
theorem repR_toks (w : World) : ∀ l : List MToken, RepR w 3 (l.map MToken.d) (tcells l) []
  | [] => by simp [RepR, tcells]
  | x :: l => by
    simp only [List.map_cons, RepR]
    exact ⟨[.int .i64 x.kind, .string x.text, .int .i64 x.number], _, [], [], rfl, rfl, rfl, MToken.shut, repR_toks w l⟩
theorem repR_toks_inv {w : World} : ∀ {l : List MToken} {cells : List Value} {fp : List Nat}, RepR w 3 (l.map MToken.d) cells fp → cells = tcells l ∧ fp = []
  | [], cells, fp, h => by simpa [RepR, tcells] using h
  | x :: l, cells, fp, h => by
    simp only [List.map_cons, RepR] at h
    obtain ⟨c1, c2, f1, f2, rfl, rfl, -, h1, h⟩ := h
    obtain ⟨rfl, rfl⟩ := repR_toks_inv h
    rw [MToken.d_eq] at h1
    simp only [RepF, RepS] at h1
    obtain ⟨_, _, _, _, rfl, rfl, ⟨rfl, rfl⟩, _, _, _, _, rfl, rfl, ⟨rfl, rfl⟩, _, _, _, _, rfl, rfl, ⟨rfl, rfl⟩, rfl, rfl⟩ := h1
    exact ⟨rfl, rfl⟩
theorem tcells_length : ∀ l : List MToken, (tcells l).length = 3 * l.length
  | [] => rfl
  | x :: l => by simp [tcells, tcells_length l]; omega
theorem tcells_get : ∀ (l : List MToken) (j : Nat) (c : Value), (tcells l)[j]? = some c → ∃ i x, l[i]? = some x ∧ ((j = 3 * i ∧ c = .int .i64 x.kind) ∨ (j = 3 * i + 1 ∧ c = .string x.text) ∨ (j = 3 * i + 2 ∧ c = .int .i64 x.number))
  | [], j, c, h => by simp [tcells] at h
  | x :: l, 0, c, h => by simp [tcells] at h; exact ⟨0, x, by simp, Or.inl ⟨rfl, h.symm⟩⟩
  | x :: l, 1, c, h => by simp [tcells] at h; exact ⟨0, x, by simp, Or.inr (Or.inl ⟨rfl, h.symm⟩)⟩
  | x :: l, 2, c, h => by simp [tcells] at h; exact ⟨0, x, by simp, Or.inr (Or.inr ⟨rfl, h.symm⟩)⟩
  | x :: l, j + 3, c, h => by
    have h' : (tcells l)[j]? = some c := by simpa [tcells] using h
    obtain ⟨i, y, hy, hc⟩ := tcells_get l j c h'
    refine ⟨i + 1, y, by simpa using hy, ?_⟩
    rcases hc with ⟨rfl, e⟩ | ⟨rfl, e⟩ | ⟨rfl, e⟩
    · exact Or.inl ⟨by omega, e⟩
    · exact Or.inr (Or.inl ⟨by omega, e⟩)
    · exact Or.inr (Or.inr ⟨by omega, e⟩)

end Go.Proofs.YtkajinmknhnpkaaDoor
