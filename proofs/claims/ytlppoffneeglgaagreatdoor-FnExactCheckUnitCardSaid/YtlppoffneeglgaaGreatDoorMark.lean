/-
  THE LAWS' MARKS: a result's memory is written over and read again.
  Conditions: those that each lemma states.
-/
import Derived.Test.YtlppoffneeglgaaGreatDoorRows
import Derived.Test.YtlppoffneeglgaaGreatDoorLem
namespace Go.Proofs.YtlppoffneeglgaaGreatDoor
open Go.RowKit
set_option linter.unusedSimpArgs false
set_option linter.unusedVariables false

/-- Blocks of fp alone have been written. -/
structure Touch (w w' : World) (fp : List Nat) : Prop where
  os : w'.os = w.os
  tape : w'.tape = w.tape
  output : w'.output = w.output
  size : w.heap.size ≤ w'.heap.size
  block : ∀ k, k < w.heap.size → k ∉ fp → w'.heap[k]? = w.heap[k]?
theorem Touch.of_ext {w w' : World} (h : Ext w w') (fp : List Nat) : Touch w w' fp := ⟨h.os, h.tape, h.output, h.size, fun k hk _ => h.block k hk⟩
theorem Touch.trans {a b c : World} {fp : List Nat} (h : Touch a b fp) (k : Touch b c fp) : Touch a c fp :=
  ⟨k.os.trans h.os, k.tape.trans h.tape, k.output.trans h.output, Nat.le_trans h.size k.size, fun i hi hn => (k.block i (Nat.lt_of_lt_of_le hi h.size) hn).trans (h.block i hi hn)⟩
theorem Touch.setCell {a w : World} {fp : List Nat} (h : Touch a w fp) {b o : Nat} (hb : b ∈ fp) (v : Value) : Touch a (w.setCell ⟨b, o, none⟩ v) fp :=
  h.trans ⟨rfl, rfl, rfl, by simp [World.setCell], fun k hk hn => heap_setCell_other w ⟨b, o, none⟩ k v (show k ≠ b from fun e => hn (e ▸ hb))⟩
theorem Touch.ext {w w1 w2 : World} {fp : List Nat} (h : Ext w w1) (k : Touch w1 w2 fp) (hf : ∀ b, b ∈ fp → w.heap.size ≤ b) : Ext w w2 :=
  ⟨k.os.trans h.os, k.tape.trans h.tape, k.output.trans h.output, Nat.le_trans h.size k.size, fun i hi => (k.block i (Nat.lt_of_lt_of_le hi h.size) fun hm => by have := hf i hm; omega).trans (h.block i hi)⟩
theorem RepF.touch {w w' : World} {d : D} {cs : List Value} {fp gp : List Nat} (h : RepF w d cs gp) (k : Touch w w' fp) (hd : ∀ b, b ∈ gp → b ∉ fp) : RepF w' d cs gp :=
  h.keep d fun b hb => k.block b (h.lt d b hb) (hd b hb)

/-- What markText writes. -/
def mdig : Nat → Nat → List UInt8 → List UInt8
  | 0, _, acc => acc
  | f + 1, k, acc => if k = 0 then acc else mdig f (k / 10) (UInt8.ofNat (48 + k % 10) :: acc)
def mtext (k : Int) : ByteArray := if k ≤ 0 then ⟨#[109, 48]⟩ else ⟨(109 :: mdig (k.toNat + 1) k.toNat []).toArray⟩
theorem mdig_fuel : ∀ (f k : Nat) (acc : List UInt8), k < f → mdig f k acc = mdig (k + 1) k acc
  | 0, k, acc, h => by omega
  | f + 1, k, acc, h => by
    by_cases h0 : k = 0
    · subst h0; simp [mdig]
    · rw [mdig, if_neg h0, mdig, if_neg h0, mdig_fuel f (k / 10) _ (by omega), mdig_fuel k (k / 10) _ (by omega)]

/-- The marks of n texts. -/
def markL (k : Int) : Nat → List ByteArray
  | 0 => []
  | n + 1 => markL k n ++ [mtext (k + n)]
theorem markL_length (k : Int) : ∀ n, (markL k n).length = n
  | 0 => rfl
  | n + 1 => by simp [markL, markL_length k n]
theorem markL_get (k : Int) : ∀ n i, i < n → (markL k n)[i]? = some (mtext (k + i))
  | 0, i, h => by omega
  | n + 1, i, h => by
    rw [markL]
    by_cases hi : i < n
    · rw [List.getElem?_append_left (by rw [markL_length]; exact hi), markL_get k n i hi]
    · obtain rfl : i = n := by omega
      rw [List.getElem?_append_right (by rw [markL_length]; omega), markL_length]; simp

theorem repR_strs_inv {w : World} : ∀ {l : List ByteArray} {cells : List Value} {fp : List Nat}, RepR w 1 (l.map D.str) cells fp → cells = l.map Value.string ∧ fp = []
  | [], cells, fp, h => by simpa [RepR] using h
  | s :: l, cells, fp, h => by
    simp only [List.map_cons, RepR, RepF] at h
    obtain ⟨c1, c2, f1, f2, rfl, rfl, -, ⟨rfl, rfl⟩, h⟩ := h
    obtain ⟨rfl, rfl⟩ := repR_strs_inv h
    exact ⟨rfl, rfl⟩

/-- A slice of texts, opened with its footprint. -/
theorem RepF.strs_own {w : World} {l : List ByteArray} {v : Value} {fp : List Nat} (h : RepF w (strs l) [v] fp) (ho : ∀ b, b ∈ fp → ∃ C e, Own w b e C) :
    ∃ ao cap, v = .slice ao l.length cap ∧ l.length ≤ cap ∧ cap ≤ maxLen ∧ ((l = [] ∧ fp = []) ∨ ∃ b o C e, l ≠ [] ∧ ao = some ⟨b, o, none⟩ ∧ fp = [b] ∧ Own w b e C ∧ o + l.length ≤ C.size) := by
  obtain ⟨ao, cap, hv, hl, hm, -, h⟩ := RepF.sl_iff.1 h
  simp only [List.length_map, List.cons.injEq, and_true] at hv hl
  refine ⟨ao, cap, hv, hl, hm, ?_⟩
  rcases h with ⟨h1, h2⟩ | ⟨b, o, cells, fp', h1, h2, rfl, hb, h4, h5⟩
  · exact Or.inl ⟨by simpa using h1, h2⟩
  · obtain ⟨rfl, rfl⟩ := repR_strs_inv h5
    obtain ⟨C, e, hO⟩ := ho b List.mem_cons_self
    have hne : l ≠ [] := by simpa using h1
    refine Or.inr ⟨b, o, C, e, hne, h2, rfl, hO, ?_⟩
    have hpos : 0 < l.length := by cases l with | nil => exact absurd rfl hne | cons _ _ => simp
    have := h4 (l.length - 1) (.string (l[l.length - 1]'(by omega))) (by simp [hpos])
    rw [hO.cell] at this
    have := (Array.getElem?_eq_some_iff.1 this).1
    omega

/-- .. and shut again. -/
theorem RepF.strs_mk {w : World} {l : List ByteArray} {b o cap : Nat} (hl : l.length ≤ cap) (hm : cap ≤ maxLen) (h0 : l ≠ []) (hb : b < w.heap.size) (hc : ∀ i s, l[i]? = some s → w.cell? ⟨b, o + i, none⟩ = some (.string s)) :
    RepF w (strs l) [.slice (some ⟨b, o, none⟩) l.length cap] [b] := by
  refine RepF.sl_iff.2 ⟨_, cap, by simp, by simpa using hl, hm, by simp, Or.inr ⟨b, o, l.map Value.string, [], by simpa using h0, rfl, rfl, hb, fun j c hj => ?_, repR_strs w l⟩⟩
  rw [List.getElem?_map, Option.map_eq_some_iff] at hj
  obtain ⟨s, hs, rfl⟩ := hj
  exact hc j s hs

def MarkPost (w : World) (d' : D) (v : Value) (fp : List Nat) (k' : Int) (e : Ending) (w' : World) : Prop :=
  e = .returned (.int .i64 k') ∧ RepF w' d' [v] fp ∧ (∀ b, b ∈ fp → ∃ C e, Own w' b e C) ∧ Touch w w' fp

end Go.Proofs.YtlppoffneeglgaaGreatDoor
