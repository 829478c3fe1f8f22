/-
  CONTRACTS: none: plain facts of Tokens.
  Conditions: those that each lemma states.
-/
import Derived.Test.YtkajinmknhnpkaaDoorRows
import Derived.Test.YtkajinmknhnpkaaDoorFnTokL
namespace Go.Proofs.YtkajinmknhnpkaaDoor
open Go.RowKit
set_option linter.unusedSimpArgs false
set_option linter.unusedVariables false

theorem cutGo_head (c : UInt8) : ∀ s cur : List UInt8, ∃ m xs, cutGo c cur s = (cur ++ m) :: xs
  | [], cur => ⟨[], [], by simp [cutGo]⟩
  | b :: t, cur => by
    by_cases h : b = c
    · exact ⟨[], cutGo c [] t, by simp [cutGo, h]⟩
    · obtain ⟨m, xs, e⟩ := cutGo_head c t (cur ++ [b])
      exact ⟨b :: m, xs, by simp [cutGo, h, e]⟩
theorem part_head {s : ByteArray} (h : partB s = true) : headLtr s.data.toList = true := by
  unfold partB at h
  obtain ⟨_, _, h0, h1, _⟩ := of_decide_eq_true h
  have e := drop_cons (s := s) (k := 0) h0
  rw [List.drop_zero] at e
  rw [e]; exact h1
theorem part_mk {l : List UInt8} (h : partB (mkB l) = true) : headLtr l = true := by
  have := part_head h
  rwa [data_mkB] at this
theorem stem_of {s : ByteArray} {l : List UInt8} (h : s.data.toList = l ++ [58]) : (stem s).data.toList = l := by
  have hl : s.size = l.length + 1 := by
    have := congrArg List.length h
    simpa using this
  rw [stem, extract_mk, data_mkB, h, hl]; simp
theorem kw_head {s : ByteArray} (h : kwB s = true) : headLtr s.data.toList = true := by
  simp only [kwB, Bool.and_eq_true] at h
  obtain ⟨h1, h2, _⟩ := h
  obtain ⟨l, hl⟩ := colB_iff.1 h1
  have hs := stem_of hl
  obtain ⟨m, xs, e⟩ := cutGo_head 58 l []
  have hp : partB (mkB ([] ++ m)) = true := by
    rw [allB_iff] at h2
    apply h2
    rw [cutB, hs, e]; simp
  have hm := part_mk hp
  rw [List.nil_append] at hm
  cases l with
  | nil =>
    simp only [cutGo, List.nil_append, List.cons.injEq] at e
    rw [← e.1] at hm; cases hm
  | cons a t =>
    by_cases ha : a = 58
    · simp only [cutGo, ha, if_pos, List.nil_append, List.cons.injEq] at e
      rw [← e.1] at hm; cases hm
    · obtain ⟨m2, xs2, e2⟩ := cutGo_head 58 t [a]
      simp only [cutGo, ha, if_false, List.nil_append] at e
      rw [e2] at e
      simp only [List.cons.injEq] at e
      rw [← e.1] at hm
      rw [hl]; exact hm
/-- A selector that is no operator begins with a letter. -/
theorem sel_head {s : ByteArray} (h : selB s = true) (ho : hasB opsL s = false) : headLtr s.data.toList = true := by
  simp only [selB, ho, Bool.false_or, Bool.or_eq_true] at h
  rcases h with h | h
  · simp only [nameB, Bool.and_eq_true] at h
    exact part_head h.1
  · exact kw_head h

theorem kw_le : ∀ n (l : List UInt8), l.length ≤ n → kwL l ≤ l.length
  | 0, l, h => by
    have : l = [] := List.length_eq_zero_iff.1 (by omega)
    subst this
    rw [kw_no0 rfl]; simp
  | n + 1, l, h => by
    by_cases h0 : runL l = 0
    · rw [kw_no0 h0]; omega
    · cases hc : colL (l.drop (runL l))
      · rw [kw_noc hc]; omega
      · have h1 := colL_pos hc
        have h2 := kw_le n (l.drop (runL l + 1)) (by rw [List.length_drop]; omega)
        rw [kw_yes h0 hc]
        rw [List.length_drop] at h1 h2
        omega
theorem sym_le (l : List UInt8) : symN l ≤ l.length := by
  unfold symN
  split
  · omega
  · split
    · exact kw_le _ l (Nat.le_refl _)
    · exact runL_le l
theorem firstP_nil : ∀ {l : List ByteArray} {s : ByteArray}, (∀ x, x ∈ l → x ≠ ⟨#[]⟩) → firstP l s = ⟨#[]⟩ → ∀ x, x ∈ l → Lib.hasPrefix s.data.toList x.data.toList = false
  | [], _, _, _, x, hx => by simp at hx
  | a :: r, s, hn, h, x, hx => by
    cases hp : Lib.hasPrefix s.data.toList a.data.toList
    · have h' : firstP r s = ⟨#[]⟩ := by simpa [firstP, hp] using h
      rcases List.mem_cons.1 hx with rfl | hx
      · exact hp
      · exact firstP_nil (fun y hy => hn y (List.mem_cons_of_mem _ hy)) h' x hx
    · exact absurd (by simpa [firstP, hp] using h) (hn a List.mem_cons_self)
/-- Both readings of a symbol are one. -/
theorem sel_sym (l : List UInt8) : selT l = if selB (symB l) = true then (⟨5, symB l, 0⟩, (symB l).size) else noTok := by
  unfold selT symB
  by_cases hf : firstP opsL (mkB l) = ⟨#[]⟩
  rotate_left
  · rw [if_neg hf, if_neg hf]
    rcases firstP_mem opsL (mkB l) with h | h
    · exact absurd h hf
    · rw [if_pos (by simp [selB, hasB_tt h])]
  rw [if_pos hf, if_pos hf]
  have ho : hasB opsL (mkB (l.take (symN l))) = false := hasB_ff fun hm => by
    have h := firstP_nil (fun x hx => ops_ne hx) hf _ hm
    rw [data_mkB, data_mkB, Lib.hasPrefix] at h
    have : (l.take (symN l)).isPrefixOf l = true := List.isPrefixOf_iff_prefix.2 (List.take_prefix _ _)
    rw [this] at h; cases h
  have hsz : (mkB (l.take (symN l))).size = symN l := by
    rw [mkB_size, List.length_take]
    have := sym_le l
    omega
  cases hh : headLtr l
  · have hs : selB (mkB (l.take (symN l))) = false := by
      cases hq : selB (mkB (l.take (symN l)))
      · rfl
      · have h := sel_head hq ho
        rw [data_mkB] at h
        cases l with
        | nil => simp [headLtr] at h
        | cons a t =>
          cases hn : symN (a :: t) with
          | zero => rw [hn] at h; simp [headLtr] at h
          | succ n => rw [hn] at h; rw [List.take_succ_cons] at h; exact absurd (h.symm.trans hh) (by simp)
    rw [if_neg Bool.false_ne_true, if_neg (by rw [hs]; exact Bool.false_ne_true)]
  · rw [if_pos rfl, hsz]

end Go.Proofs.YtkajinmknhnpkaaDoor
