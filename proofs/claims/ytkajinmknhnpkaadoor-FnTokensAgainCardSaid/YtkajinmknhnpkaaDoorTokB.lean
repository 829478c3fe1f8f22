/-
  PLAIN: the sizes of what a text's tokens hold.
  Conditions: those that each lemma states.
-/
import Derived.Test.YtkajinmknhnpkaaDoorRows
import Derived.Test.YtkajinmknhnpkaaDoorTokA
namespace Go.Proofs.YtkajinmknhnpkaaDoor
open Go.RowKit
set_option linter.unusedSimpArgs false
set_option linter.unusedVariables false

def TokS (n : Nat) (t : MToken) : Prop := t.text.size ≤ n ∧ (0 ≤ t.number ∧ t.number ≤ 999999999999) ∧ -100 ≤ t.kind ∧ t.kind ≤ 100
theorem TokS.mk0 {n : Nat} {k : Int} {t : ByteArray} (h : t.size ≤ n) (hk : -100 ≤ k ∧ k ≤ 100) : TokS n ⟨k, t, 0⟩ := ⟨h, ⟨Int.le_refl _, by show (0 : Int) ≤ 999999999999; decide⟩, hk⟩
theorem TokS.none (n : Nat) : TokS n noTok.1 := ⟨Nat.zero_le _, by decide, by decide⟩
theorem name_s (l : List UInt8) : TokS (l.length + 84) (nameT l).1 := by
  have h1 : (runB l).size ≤ l.length := by unfold runB; rw [mkB_size, List.length_take]; omega
  unfold nameT
  split
  · split
    · refine TokS.mk0 (k := 2) ?_ (by decide)
      show (runB l ++ (⟨#[58]⟩ : ByteArray)).size ≤ _
      rw [ByteArray.size_append]
      have : (⟨#[58]⟩ : ByteArray).size = 1 := rfl
      omega
    · exact TokS.none _
  · split
    · exact TokS.mk0 (k := 8) (t := runB l) (by omega) (by decide)
    · split
      · exact TokS.mk0 (k := 1) (t := runB l) (by omega) (by decide)
      · exact TokS.none _
theorem num_s (l : List UInt8) : TokS (l.length + 84) (numT l).1 := by
  unfold numT
  split
  · exact TokS.none _
  · rename_i h
    split
    · exact TokS.none _
    · have := val_bd (l := l.take (digN l)) (fun c hc => digL_dgt.1 (digN_take l c hc)) (by rw [List.length_take]; omega)
      exact ⟨Nat.zero_le _, ⟨Int.natCast_nonneg _, by show ((valF 0 (l.take (digN l)) : Nat) : Int) ≤ _; omega⟩, (by decide : (-100 : Int) ≤ 3 ∧ (3 : Int) ≤ 100)⟩
theorem quo_s (l : List UInt8) : TokS (l.length + 84) (quoT l).1 := by
  unfold quoT
  split
  · exact TokS.none _
  · split
    · rename_i h
      have := (textB_iff.1 h).2
      exact TokS.mk0 (k := 4) (Nat.le_trans this (by omega)) (by decide)
    · exact TokS.none _
theorem sel_s (l : List UInt8) : TokS (l.length + 84) (selT l).1 := by
  unfold selT
  split
  · split
    · split
      · exact TokS.mk0 (k := 5) (t := mkB (l.take (symN l))) (by rw [mkB_size, List.length_take]; omega) (by decide)
      · exact TokS.none _
    · exact TokS.none _
  · have := firstP_le opsL (mkB l)
    rw [mkB_size] at this
    exact TokS.mk0 (k := 5) (t := firstP opsL (mkB l)) (by omega) (by decide)
theorem sym_s (l : List UInt8) : TokS (l.length + 84) (symT l).1 := by
  unfold symT
  split
  · exact TokS.none _
  · exact sel_s l
theorem op_s (l : List UInt8) : TokS (l.length + 84) (opT l).1 := by
  unfold opT
  have h1 := firstP_le opsL (mkB l)
  have h2 := firstP_le marksL (mkB l)
  rw [mkB_size] at h1 h2
  split
  · split
    · exact TokS.none _
    · exact TokS.mk0 (k := 7) (t := firstP marksL (mkB l)) (by omega) (by decide)
  · exact TokS.mk0 (k := 6) (t := firstP opsL (mkB l)) (by omega) (by decide)
theorem TokS.mono {a b : Nat} {t : MToken} (h : TokS a t) (hab : a ≤ b) : TokS b t := ⟨Nat.le_trans h.1 hab, h.2⟩
theorem tok_s (l : List UInt8) : TokS (l.length + 84) (tokL l).1 := by
  unfold tokL tokC
  split
  · exact name_s l
  · split
    · exact num_s l
    · split
      · exact quo_s l
      · split
        · exact (sym_s _).mono (by rw [List.length_drop]; omega)
        · exact op_s l
theorem scan_s (N : Nat) : ∀ (m : Nat) (l : List UInt8) (acc r : List MToken), l.length ≤ m → l.length ≤ N → (∀ t, t ∈ acc → TokS (N + 84) t) → scanL l acc = some r → ∀ t, t ∈ r → TokS (N + 84) t
  | 0, l, acc, r, h, hN, ha, e => by
    have : l = [] := List.length_eq_zero_iff.1 (by omega)
    subst this
    rw [scan_nil] at e; injection e with e; subst e; exact ha
  | m + 1, [], acc, r, h, hN, ha, e => by rw [scan_nil] at e; injection e with e; subst e; exact ha
  | m + 1, b :: t, acc, r, h, hN, ha, e => by
    have h0 := h
    rw [List.length_cons] at h hN
    by_cases h1 : b = 32 ∨ b = 10 ∨ b = 9
    · rw [scan_blank h1] at e
      exact scan_s N m t acc r (by omega) (by omega) ha e
    · by_cases h2 : b = 34
      · subst h2
        by_cases h3 : quN t < t.length
        · rw [scan_note h3] at e
          exact scan_s N m _ acc r (by rw [List.length_drop]; omega) (by rw [List.length_drop]; omega) ha e
        · rw [scan_open h3] at e; cases e
      · by_cases h3 : (tokL (b :: t)).2 = 0 ∨ 800 ≤ acc.length
        · rw [scan_bad h1 h2 h3] at e; cases e
        · rw [scan_tok h1 h2 h3] at e
          refine scan_s N m _ _ r (by rw [List.length_drop, List.length_cons]; omega) (by rw [List.length_drop, List.length_cons]; omega) (fun x hx => ?_) e
          rcases List.mem_append.1 hx with hx | hx
          · exact ha x hx
          · rw [List.mem_singleton.1 hx]
            exact (tok_s (b :: t)).mono (by rw [List.length_cons]; omega)
theorem toks_s {s : ByteArray} {ts : List MToken} (h : toksL s = some ts) (hs : s.size ≤ 1000) : ∀ t, t ∈ ts → TokS 1084 t := by
  unfold toksL at h
  rw [if_neg (by omega)] at h
  exact scan_s 1000 _ s.data.toList [] ts (Nat.le_refl _) (by simpa using hs) (by simp) h

end Go.Proofs.YtkajinmknhnpkaaDoor
