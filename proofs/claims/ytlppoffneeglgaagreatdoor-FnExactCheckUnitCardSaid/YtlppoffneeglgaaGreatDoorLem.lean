/-
  MORE LEMMAS on plain data in memory.
  Conditions: those that each lemma states.
-/
import Derived.Test.YtlppoffneeglgaaGreatDoorTypes
namespace Go.Proofs.YtlppoffneeglgaaGreatDoor
open Go.RowKit
set_option linter.unusedSimpArgs false
set_option linter.unusedVariables false

theorem ret_str {a b : ByteArray} (h : a = b) : Ending.returned (.string a) = .returned (.string b) := by rw [h]
theorem own_new (w : World) (C : Array Value) (e : TypeId) : Own (w.alloc (.cells C e)) w.heap.size e C := heap_alloc_new w _
theorem repR_strs (w : World) : ∀ l : List ByteArray, RepR w 1 (l.map D.str) (l.map Value.string) []
  | [] => by simp [RepR]
  | s :: l => by
    simp only [List.map_cons, RepR]
    exact ⟨[.string s], _, [], [], rfl, rfl, rfl, by simp [RepF], repR_strs w l⟩
/-- A literal slice of texts. -/
theorem gives_strs (w : World) (l : List ByteArray) (e : TypeId) (hl : l.length ≤ maxLen) (h0 : l ≠ []) :
    GivesV w (strs l) (.returned (.slice (some ⟨w.heap.size, 0, none⟩) l.length l.length)) (w.alloc (.cells (l.map Value.string).toArray e)) := by
  refine ⟨_, _, _, [w.heap.size], rfl, ?_, ⟨by simp, by simp, fun b hb => ?_⟩, (Ext.refl w).alloc _⟩
  · refine RepF.sl_iff.2 ⟨_, _, by simp, by simp, hl, by simp, Or.inr ⟨w.heap.size, 0, l.map Value.string, [], by simpa using h0, rfl, rfl, (own_new w _ e).lt, fun j c hc => ?_, repR_strs _ l⟩⟩
    rw [Nat.zero_add, (own_new w _ e).cell]
    simpa using hc
  · simp at hb; subst hb; exact ⟨_, _, own_new w _ e⟩

theorem str_ne' {a : ByteArray} {l : List UInt8} (h : ¬ a = ⟨l.toArray⟩) : (a.toList == l) = false := by
  have := str_ne h
  rwa [show (⟨l.toArray⟩ : ByteArray).toList = l from by simp [ByteArray.toList_eq]] at this
theorem str_eq' {a : ByteArray} {l : List UInt8} (h : a = ⟨l.toArray⟩) : (a.toList == l) = true := by
  have := str_eq h
  rwa [show (⟨l.toArray⟩ : ByteArray).toList = l from by simp [ByteArray.toList_eq]] at this

end Go.Proofs.YtlppoffneeglgaaGreatDoor
