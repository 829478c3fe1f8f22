/-
  CONTRACTS: none: plain facts of Tokens: the token at the head, and all of them.
  Conditions: those that each lemma states.
-/
import Derived.Test.YtndhpbjhkgdieaaGreatDoorRows
import Derived.Test.YtndhpbjhkgdieaaGreatDoorP10
import Derived.Test.YtndhpbjhkgdieaaGreatDoorP11
namespace Go.Proofs.YtndhpbjhkgdieaaGreatDoor
open Go.RowKit
set_option maxHeartbeats 8000000
set_option maxRecDepth 100000
set_option linter.unusedSimpArgs false
set_option linter.unusedVariables false
noncomputable def symT (l : List UInt8) : MToken × Nat := if (selT l).2 = 0 then noTok else ((selT l).1, (selT l).2 + 1)
noncomputable def opT (l : List UInt8) : MToken × Nat :=
 if firstP opsL (mkB l) = ⟨#[]⟩ then (if firstP marksL (mkB l) = ⟨#[]⟩ then noTok else (⟨7, firstP marksL (mkB l), 0⟩, (firstP marksL (mkB l)).size)) else (⟨6, firstP opsL (mkB l), 0⟩, (firstP opsL (mkB l)).size)
noncomputable def tokC (b : UInt8) (l : List UInt8) : MToken × Nat :=
 if ltrB (b.toNat : Int) = true then nameT l else if dgtB (b.toNat : Int) = true then numT l else if b = 39 then quoT l else if b = 35 then symT (l.drop 1) else opT l
noncomputable def tokL (l : List UInt8) : MToken × Nat := tokC (l.headD 0) l
def quN : List UInt8 -> Nat
 | [] => 0
 | b :: t => if b = 34 then 0 else quN t + 1
theorem quN_le : ∀ l : List UInt8, quN l <= l.length
 | [] => Nat.le_refl _
 | b :: t => by
  rw [quN, List.length_cons]
  have := quN_le t
  split <;> omega
theorem indexByte_quN : ∀ l : List UInt8, Lib.indexByte l 34 = if quN l < l.length then ((quN l : Nat) : Int) else -1
 | [] => by simp [Lib.indexByte, quN]
 | b :: t => by
  have ih := indexByte_quN t
  by_cases hb : b = 34
  · subst hb; simp [Lib.indexByte, quN]
  · have hb' : (b == 34) = false := by simpa using hb
    have hq : quN (b :: t) = quN t + 1 := by rw [quN, if_neg hb]
    by_cases hl : quN t < t.length
    · rw [if_pos hl] at ih
      have h1 : (((quN t : Nat) : Int) == -1) = false := int_ne (by omega)
      rw [hq, if_pos (by rw [List.length_cons]; omega)]
      simp [Lib.indexByte, hb', ih, h1]
    · rw [if_neg hl] at ih
      rw [hq, if_neg (by rw [List.length_cons]; omega)]
      simp [Lib.indexByte, hb', ih]
noncomputable def scanL : List UInt8 -> List MToken -> Option (List MToken)
 | [], acc => some acc
 | b :: t, acc =>
  if b = 32 ∨ b = 10 ∨ b = 9 then scanL t acc
  else if b = 34 then (if quN t < t.length then scanL (t.drop (quN t + 1)) acc else none)
  else if h : (tokL (b :: t)).2 = 0 ∨ 800 <= acc.length then none
  else scanL ((b :: t).drop (tokL (b :: t)).2) (acc ++ [(tokL (b :: t)).1])
termination_by l => l.length
decreasing_by
 · simp
 · simp; omega
 · simp; omega
theorem scan_nil (acc : List MToken) : scanL [] acc = some acc := by rw [scanL]
theorem scan_blank {b : UInt8} {t : List UInt8} {acc : List MToken} (h : b = 32 ∨ b = 10 ∨ b = 9) : scanL (b :: t) acc = scanL t acc := by rw [scanL, if_pos h]
theorem blank_ne {b : UInt8} (h : b = 34) : ¬ (b = 32 ∨ b = 10 ∨ b = 9) := by subst h; decide
theorem scan_note {t : List UInt8} {acc : List MToken} (h : quN t < t.length) : scanL (34 :: t) acc = scanL (t.drop (quN t + 1)) acc := by rw [scanL, if_neg (blank_ne rfl), if_pos rfl, if_pos h]
theorem scan_open {t : List UInt8} {acc : List MToken} (h : ¬ quN t < t.length) : scanL (34 :: t) acc = none := by rw [scanL, if_neg (blank_ne rfl), if_pos rfl, if_neg h]
theorem scan_bad {b : UInt8} {t : List UInt8} {acc : List MToken} (h1 : ¬ (b = 32 ∨ b = 10 ∨ b = 9)) (h2 : ¬ b = 34) (h : (tokL (b :: t)).2 = 0 ∨ 800 <= acc.length) : scanL (b :: t) acc = none := by rw [scanL, if_neg h1, if_neg h2, dif_pos h]
theorem scan_tok {b : UInt8} {t : List UInt8} {acc : List MToken} (h1 : ¬ (b = 32 ∨ b = 10 ∨ b = 9)) (h2 : ¬ b = 34) (h : ¬ ((tokL (b :: t)).2 = 0 ∨ 800 <= acc.length)) : scanL (b :: t) acc = scanL ((b :: t).drop (tokL (b :: t)).2) (acc ++ [(tokL (b :: t)).1]) := by rw [scanL, if_neg h1, if_neg h2, dif_neg h]
theorem firstP_le : ∀ (l : List ByteArray) (s : ByteArray), (firstP l s).size <= s.size
 | [], s => Nat.zero_le _
 | a :: r, s => by
  cases hp : Lib.hasPrefix s.data.toList a.data.toList
  · have : firstP (a :: r) s = firstP r s := by simp [firstP, hp]
    rw [this]; exact firstP_le r s
  · have : firstP (a :: r) s = a := by simp [firstP, hp]
    rw [this]
    have h := (List.isPrefixOf_iff_prefix.1 (show a.data.toList.isPrefixOf s.data.toList = true from hp)).length_le
    simpa using h
theorem size_zero {s : ByteArray} (h : s.size = 0) : s = ⟨#[]⟩ := ByteArray.ext (by apply Array.eq_empty_of_size_eq_zero; exact h)
theorem dig_le : ∀ l : List UInt8, digN l <= l.length
 | [] => Nat.le_refl _
 | c :: r => by
  have := dig_le r
  rw [digN, List.length_cons]
  split <;> omega
theorem quo_le : ∀ (m : Nat) (l acc : List UInt8) (n : Nat), l.length <= m -> (quoL acc n l).2 <= n + l.length
 | 0, l, acc, n, h => by
  have : l = [] := List.length_eq_zero_iff.1 (by omega)
  subst this
  simp [quoL]
 | m + 1, [], acc, n, h => by simp [quoL]
 | m + 1, [b], acc, n, h => by
  by_cases hb : b = 39 <;> simp [quoL, hb]
 | m + 1, b :: c :: t, acc, n, h => by
  by_cases hb : b = 39
  · subst hb
    by_cases hc : c = 39
    · subst hc
      rw [quo_qq]
      have := quo_le m t (acc ++ [39]) (n + 2) (by simp at h; omega)
      simp only [List.length_cons]; omega
    · rw [quo_q _ _ _ _ hc]; simp only [List.length_cons]; omega
  · rw [quo_o _ _ _ _ hb]
    have := quo_le m (c :: t) (acc ++ [b]) (n + 1) (by simp at h ⊢; omega)
    simp only [List.length_cons] at this ⊢; omega
theorem symB_le (l : List UInt8) : (symB l).size <= l.length := by
 unfold symB
 split
 · rw [mkB_size, List.length_take]; omega
 · have := firstP_le opsL (mkB l)
   rwa [mkB_size] at this
theorem selT_le (l : List UInt8) : (selT l).2 <= l.length := by
 rw [sel_sym]
 split
 · exact symB_le l
 · simp [noTok]
theorem name_le (l : List UInt8) : (nameT l).2 <= l.length := by
 unfold nameT
 split
 · rename_i h
   have h1 := colL_pos h
   rw [List.length_drop] at h1
   split
   · simp only; omega
   · simp [noTok]
 · have := runL_le l
   split
   · exact this
   · split
     · exact this
     · simp [noTok]
theorem tok_le (l : List UInt8) : (tokL l).2 <= l.length := by
 unfold tokL tokC
 split
 · exact name_le l
 · split
   · unfold numT
     split
     · simp [noTok]
     · split
       · simp [noTok]
       · exact dig_le l
   · split
     · rename_i h
       have hl : 1 <= l.length := by
        cases l with
        | nil => simp at h
        | cons _ _ => simp
       unfold quoT
       split
       · simp [noTok]
       · split
         · have := quo_le _ (l.drop 1) [] 1 (Nat.le_refl _)
           rw [List.length_drop] at this
           simp only; omega
         · simp [noTok]
     · split
       · rename_i h
         have hl : 1 <= l.length := by
          cases l with
          | nil => simp at h
          | cons _ _ => simp
         unfold symT
         split
         · simp [noTok]
         · have := selT_le (l.drop 1)
           rw [List.length_drop] at this
           simp only; omega
       · unfold opT
         have h1 := firstP_le opsL (mkB l)
         have h2 := firstP_le marksL (mkB l)
         rw [mkB_size] at h1 h2
         split
         · split
           · simp [noTok]
           · exact h2
         · exact h1
def TokK (x : MToken × Nat) : Prop := (x.2 = 0 -> x.1 = noTok.1) /\ (x.2 ≠ 0 -> x.1.kind ≠ 0)
theorem TokK.none : TokK noTok := ⟨fun _ => rfl, fun h => absurd rfl h⟩
theorem sel_k (l : List UInt8) : TokK (selT l) := by
 unfold selT
 split
 · split
   · split
     · rename_i h2 h3
       refine ⟨fun h => ?_, fun _ => by simp⟩
       have h0 : symN l = 0 := h
       have hr := run_ltr h2
       unfold symN at h0
       rw [if_neg hr] at h0
       split at h0
       · rename_i h4
         rw [kw_yes hr h4] at h0; omega
       · exact absurd h0 hr
     · exact TokK.none
   · exact TokK.none
 · rename_i h
   exact ⟨fun h0 => absurd (size_zero h0) h, fun _ => by simp⟩
theorem name_k {l : List UInt8} (h : headLtr l = true) : TokK (nameT l) := by
 have hr := run_ltr h
 unfold nameT
 split
 · split
   · exact ⟨fun h => by simp at h, fun _ => by simp⟩
   · exact TokK.none
 · split
   · exact ⟨fun h => absurd h hr, fun _ => by simp⟩
   · split
     · exact ⟨fun h => absurd h hr, fun _ => by simp⟩
     · exact TokK.none
theorem num_k {l : List UInt8} (h : digN l ≠ 0) : TokK (numT l) := by
 unfold numT
 split
 · exact TokK.none
 · split
   · exact TokK.none
   · exact ⟨fun h0 => absurd h0 h, fun _ => by simp⟩
theorem quo_k (l : List UInt8) : TokK (quoT l) := by
 unfold quoT
 split
 · exact TokK.none
 · rename_i h
   split
   · exact ⟨fun h0 => absurd h0 h, fun _ => by simp⟩
   · exact TokK.none
theorem sym_k (l : List UInt8) : TokK (symT l) := by
 unfold symT
 split
 · exact TokK.none
 · rename_i h
   exact ⟨fun h0 => by simp at h0, fun _ => (sel_k l).2 h⟩
theorem op_k (l : List UInt8) : TokK (opT l) := by
 unfold opT
 split
 · split
   · exact TokK.none
   · rename_i h
     exact ⟨fun h0 => absurd (size_zero h0) h, fun _ => by simp⟩
 · rename_i h
   exact ⟨fun h0 => absurd (size_zero h0) h, fun _ => by simp⟩
theorem tok_k (b : UInt8) (t : List UInt8) : TokK (tokL (b :: t)) := by
 unfold tokL tokC
 rw [List.headD_cons]
 split
 · rename_i h; exact name_k h
 · split
   · rename_i h
     exact num_k (by rw [digN, if_pos h]; omega)
   · split
     · exact quo_k _
     · split
       · exact sym_k _
       · exact op_k _
theorem scan_len : ∀ (m : Nat) (l : List UInt8) (acc r : List MToken), l.length <= m -> acc.length <= 800 -> scanL l acc = some r -> r.length <= 800
 | 0, l, acc, r, h, ha, e => by
  have : l = [] := List.length_eq_zero_iff.1 (by omega)
  subst this
  rw [scan_nil] at e; injection e with e; subst e; exact ha
 | m + 1, [], acc, r, h, ha, e => by rw [scan_nil] at e; injection e with e; subst e; exact ha
 | m + 1, b :: t, acc, r, h, ha, e => by
  rw [List.length_cons] at h
  by_cases h1 : b = 32 ∨ b = 10 ∨ b = 9
  · rw [scan_blank h1] at e
    exact scan_len m t acc r (by omega) ha e
  · by_cases h2 : b = 34
    · subst h2
      by_cases h3 : quN t < t.length
      · rw [scan_note h3] at e
        exact scan_len m _ acc r (by rw [List.length_drop]; omega) ha e
      · rw [scan_open h3] at e; cases e
    · by_cases h3 : (tokL (b :: t)).2 = 0 ∨ 800 <= acc.length
      · rw [scan_bad h1 h2 h3] at e; cases e
      · rw [scan_tok h1 h2 h3] at e
        exact scan_len m _ _ r (by rw [List.length_drop, List.length_cons]; omega) (by rw [List.length_append, List.length_singleton]; omega) e
noncomputable def toksL (s : ByteArray) : Option (List MToken) := if 4000 < s.size then none else scanL s.data.toList []
theorem toks_len (s : ByteArray) : ((toksL s).getD []).length <= 800 := by
 unfold toksL
 split
 · simp
 · cases h : scanL s.data.toList []
   · simp
   · exact scan_len _ _ [] _ (Nat.le_refl _) (by simp) h
end Go.Proofs.YtndhpbjhkgdieaaGreatDoor
