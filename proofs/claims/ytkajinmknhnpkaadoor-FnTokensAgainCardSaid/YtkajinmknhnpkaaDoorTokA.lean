/-
  CONTRACTS: none: plain facts: tokens are read again from their texts.
  Conditions: those that each lemma states.
-/
import Derived.Test.YtkajinmknhnpkaaDoorRows
import Derived.Test.YtkajinmknhnpkaaDoorTokT
import Derived.Test.YtkajinmknhnpkaaDoorFnToken
import Derived.Test.YtkajinmknhnpkaaDoorNums
import Derived.Test.YtkajinmknhnpkaaDoorFnJoin
namespace Go.Proofs.YtkajinmknhnpkaaDoor
open Go.RowKit
set_option linter.unusedSimpArgs false
set_option linter.unusedVariables false

/-- What stands behind a token: nothing, or a blank. -/
def Gap (r : List UInt8) : Prop := r = [] ∨ ∃ t, r = 32 :: t
def Halt (r : List UInt8) : Prop := r = [] ∨ ∃ b t, r = b :: t ∧ alnB b = false
theorem Gap.halt {r : List UInt8} (h : Gap r) : Halt r := by
  rcases h with h | ⟨t, h⟩
  · exact Or.inl h
  · exact Or.inr ⟨32, t, h, by decide⟩
theorem run_halt {q : List UInt8} (hq : Halt q) : ∀ R : List UInt8, (∀ b, b ∈ R → alnB b = true) → runL (R ++ q) = R.length
  | [], _ => by
    rcases hq with rfl | ⟨b, t, rfl, hb⟩
    · rfl
    · rw [List.nil_append, runL, if_neg (by rw [hb]; exact Bool.false_ne_true)]; rfl
  | b :: R, h => by
    rw [List.cons_append, runL, if_pos (h b (by simp)), run_halt hq R (fun x hx => h x (by simp [hx])), List.length_cons]
theorem run_take : ∀ l : List UInt8, ∀ b, b ∈ l.take (runL l) → alnB b = true
  | [], b, h => by simp at h
  | a :: l, b, h => by
    rw [runL] at h
    split at h
    · rename_i ha
      rw [List.take_succ_cons] at h
      rcases List.mem_cons.1 h with rfl | h
      · exact ha
      · exact run_take l b h
    · simp at h
theorem col_gap {r : List UInt8} (h : Gap r) : colL r = false := by
  rcases h with rfl | ⟨t, rfl⟩
  · rfl
  · cases t <;> simp [colL]
theorem col_yes {r : List UInt8} (h : ∀ t, r ≠ 61 :: t) : colL (58 :: r) = true := by
  cases r with
  | nil => simp [colL]
  | cons a t =>
    have : a ≠ 61 := fun e => h t (by rw [e])
    simp [colL, this]
theorem gap_ne {r : List UInt8} (h : Gap r) : ∀ t, r ≠ 61 :: t := by
  intro t
  rcases h with rfl | ⟨u, rfl⟩
  · simp
  · simp
theorem take_app {R q : List UInt8} : (R ++ q).take R.length = R := by simp
theorem drop_app {R q : List UInt8} : (R ++ q).drop R.length = q := by simp

/-- A token that is read again from its text, whatever blank stands behind it. -/
def Again (t : MToken) : Prop := ∃ b u, (tokB t).data.toList = b :: u ∧ ¬ (b = 32 ∨ b = 10 ∨ b = 9) ∧ ¬ b = 34 ∧ ∀ r, Gap r → tokL (b :: u ++ r) = (t, (b :: u).length)

theorem ltr_plain {b : UInt8} (h : ltrB (b.toNat : Int) = true) : ¬ (b = 32 ∨ b = 10 ∨ b = 9) ∧ ¬ b = 34 := by
  refine ⟨fun e => ?_, fun e => ?_⟩
  · rcases e with rfl | rfl | rfl <;> revert h <;> decide
  · subst e; revert h; decide
theorem dgt_plain {b : UInt8} (h : dgtB (b.toNat : Int) = true) : ¬ (b = 32 ∨ b = 10 ∨ b = 9) ∧ ¬ b = 34 := by
  refine ⟨fun e => ?_, fun e => ?_⟩
  · rcases e with rfl | rfl | rfl <;> revert h <;> decide
  · subst e; revert h; decide
theorem dgt_ltr {b : UInt8} (h : dgtB (b.toNat : Int) = true) : ltrB (b.toNat : Int) = false := by
  have h1 := dgt_iff.1 h
  unfold ltrB
  exact decide_eq_false (by omega)
theorem runB_app {R q : List UInt8} (h : runL (R ++ q) = R.length) : runB (R ++ q) = mkB R := by rw [runB, h, take_app]

theorem name_again {l : List UInt8} (hl : headLtr l = true) (h : (nameT l).2 ≠ 0) : Again (nameT l).1 ∧ (tokB (nameT l).1).size ≤ (nameT l).2 := by
  obtain ⟨a, l', rfl⟩ : ∃ a l', l = a :: l' := by
    cases l with
    | nil => cases hl
    | cons a l' => exact ⟨a, l', rfl⟩
  have ha : ltrB (a.toNat : Int) = true := hl
  have haln : alnB a = true := by simp [alnB, ha]
  have hb := run_take (a :: l')
  have hrl := runL_le (a :: l')
  have hR : ∃ u, (a :: l').take (runL (a :: l')) = a :: u := ⟨l'.take (runL l'), by rw [runL, if_pos haln, List.take_succ_cons]⟩
  have hrb : runB (a :: l') = mkB ((a :: l').take (runL (a :: l'))) := rfl
  have hlen : ((a :: l').take (runL (a :: l'))).length = runL (a :: l') := by rw [List.length_take]; omega
  obtain ⟨u, hu⟩ := hR
  rw [hu] at hb hrb hlen
  generalize hn : runL (a :: l') = n at *
  obtain ⟨p1, p2⟩ := ltr_plain ha
  unfold nameT at h ⊢
  rw [hn, hrb] at h ⊢
  have key : ∀ q, Halt q → tokL (a :: u ++ q) = nameT (a :: u ++ q) := fun q _ => by
    unfold tokL tokC
    rw [List.cons_append, List.headD_cons, if_pos ha]
  split at h
  · rename_i hc
    rw [if_pos hc]
    split at h
    · rename_i h20
      rw [if_pos h20]
      have hd : (tokB ⟨2, mkB (a :: u) ++ ⟨#[58]⟩, 0⟩).data.toList = a :: u ++ [58] := by
        simp [tokB, mkB, ByteArray.toList_data_append]
      refine ⟨⟨a, u ++ [58], by rw [hd]; rfl, p1, p2, fun r hr => ?_⟩, ?_⟩
      · have hq : Halt (58 :: r) := Or.inr ⟨58, r, rfl, by decide⟩
        have e : a :: (u ++ [58]) ++ r = a :: u ++ 58 :: r := by simp
        have hrun := run_halt hq (a :: u) hb
        rw [e, key _ hq]
        unfold nameT
        rw [runB_app hrun, hrun, drop_app, if_pos (col_yes (gap_ne hr)), if_pos (by rw [hlen]; exact h20)]
        simp
      · have := congrArg List.length hd
        simp only [Array.length_toList, List.length_append, List.length_singleton] at this
        have e : (tokB ⟨2, mkB (a :: u) ++ ⟨#[58]⟩, 0⟩).size = (tokB ⟨2, mkB (a :: u) ++ ⟨#[58]⟩, 0⟩).data.size := rfl
        simp only
        omega
    · exact absurd rfl h
  · rename_i hc
    rw [if_neg hc]
    have hd : ∀ k : Int, k ≠ 3 → k ≠ 4 → k ≠ 5 → (tokB ⟨k, mkB (a :: u), 0⟩).data.toList = a :: u := fun k h3 h4 h5 => by
      simp [tokB, mkB, h3, h4, h5]
    have hz : ∀ k : Int, k ≠ 3 → k ≠ 4 → k ≠ 5 → (tokB ⟨k, mkB (a :: u), 0⟩).size ≤ n := fun k h3 h4 h5 => by
      simp only [tokB, h3, h4, h5, if_false, mkB_size, hlen, Nat.le_refl]
    have go : ∀ r, Gap r → tokL (a :: u ++ r) = if hasB wordsL (mkB (a :: u)) = true then (⟨8, mkB (a :: u), 0⟩, (a :: u).length) else if (a :: u).length ≤ 20 then (⟨1, mkB (a :: u), 0⟩, (a :: u).length) else noTok := fun r hr => by
      have hrun := run_halt hr.halt (a :: u) hb
      rw [key _ hr.halt]
      unfold nameT
      rw [runB_app hrun, hrun, drop_app, if_neg (by rw [col_gap hr]; exact Bool.false_ne_true)]
    split at h
    · rename_i hw
      rw [if_pos hw]
      exact ⟨⟨a, u, hd 8 (by decide) (by decide) (by decide), p1, p2, fun r hr => by rw [go r hr, if_pos hw]⟩, hz 8 (by decide) (by decide) (by decide)⟩
    · rename_i hw
      rw [if_neg hw]
      split at h
      · rename_i h20
        rw [if_pos h20]
        exact ⟨⟨a, u, hd 1 (by decide) (by decide) (by decide), p1, p2, fun r hr => by rw [go r hr, if_neg hw, if_pos (by rw [hlen]; exact h20)]⟩, hz 1 (by decide) (by decide) (by decide)⟩
      · exact absurd rfl h

theorem digN_take : ∀ l : List UInt8, ∀ c, c ∈ l.take (digN l) → dgtB (c.toNat : Int) = true
  | [], c, h => by simp at h
  | a :: l, c, h => by
    rw [digN] at h
    split at h
    · rename_i ha
      rw [List.take_succ_cons] at h
      rcases List.mem_cons.1 h with rfl | h
      · exact ha
      · exact digN_take l c h
    · simp at h
theorem digL_dgt {c : UInt8} : dgtB (c.toNat : Int) = true ↔ 48 ≤ c.toNat ∧ c.toNat ≤ 57 := by
  rw [dgt_iff]; omega
theorem digN_gap {r : List UInt8} (h : Gap r) : ∀ D : List UInt8, digL D → digN (D ++ r) = D.length
  | [], _ => by
    rcases h with rfl | ⟨t, rfl⟩
    · rfl
    · rw [List.nil_append, digN, if_neg (by decide)]; rfl
  | c :: D, hD => by
    rw [List.cons_append, digN, if_pos (digL_dgt.2 (hD c (by simp))), digN_gap h D (fun x hx => hD x (by simp [hx])), List.length_cons]
theorem headLtr_gap {r : List UInt8} (h : Gap r) : headLtr r = false := by
  rcases h with rfl | ⟨t, rfl⟩
  · rfl
  · show ltrB _ = false; decide
theorem num_again {l : List UInt8} (h : (numT l).2 ≠ 0) : Again (numT l).1 ∧ (tokB (numT l).1).size ≤ (numT l).2 := by
  unfold numT at h ⊢
  split at h
  · exact absurd rfl h
  rename_i h9
  rw [if_neg h9]
  split at h
  · exact absurd rfl h
  rename_i hh
  rw [if_neg hh]
  simp only at h ⊢
  have hdg : digL (l.take (digN l)) := fun c hc => digL_dgt.1 (digN_take l c hc)
  have hlen : (l.take (digN l)).length = digN l := by
    have := dig_le l
    rw [List.length_take]; omega
  have hv := valF_lt _ 0 hdg
  rw [hlen] at hv
  generalize valF 0 (l.take (digN l)) = v at *
  have hv9 : v < 10 ^ (8 + 1) := by
    have h1 : (10 : Nat) ^ digN l ≤ 10 ^ 9 := Nat.pow_le_pow_right (by omega) (by omega)
    have h2 : (0 + 1) * 10 ^ digN l = 10 ^ digN l := by simp
    have h3 : (10 : Nat) ^ (8 + 1) = 10 ^ 9 := rfl
    omega
  obtain ⟨d1, d2, d3⟩ := dec_val v v (Nat.le_refl _)
  have e : (tokB ⟨3, ⟨#[]⟩, (v : Int)⟩).data.toList = Lib.decDigits v := by
    have : tokB ⟨3, ⟨#[]⟩, (v : Int)⟩ = itoaB (v : Int) := by simp [tokB]
    rw [this, itoaB_data, Lib.itoa, if_neg (by omega)]
    rfl
  obtain ⟨c, u, hc, c1, c2⟩ := dec_head v
  have hcd : dgtB (c.toNat : Int) = true := digL_dgt.2 ⟨c1, c2⟩
  obtain ⟨p1, p2⟩ := dgt_plain hcd
  have l9 := dec_len' 8 v hv9
  have lk : (Lib.decDigits v).length ≤ digN l := by
    obtain ⟨k, hk⟩ : ∃ k, digN l = k + 1 := ⟨digN l - 1, by omega⟩
    rw [hk]
    refine dec_len' k v ?_
    have h2 : (0 + 1) * 10 ^ digN l = 10 ^ digN l := by simp
    rw [hk] at h2 hv
    omega
  refine ⟨⟨c, u, by rw [e, hc], p1, p2, fun r hr => ?_⟩, ?_⟩
  · unfold tokL tokC
    rw [List.cons_append, List.headD_cons, dgt_ltr hcd, if_neg Bool.false_ne_true, if_pos hcd, ← List.cons_append, ← hc]
    have hdn := digN_gap hr (Lib.decDigits v) d1
    unfold numT
    rw [hdn, drop_app, take_app, d2, if_neg (by omega), if_neg (by rw [headLtr_gap hr]; exact Bool.false_ne_true)]
  · have e2 : (tokB ⟨3, ⟨#[]⟩, (v : Int)⟩).size = (tokB ⟨3, ⟨#[]⟩, (v : Int)⟩).data.toList.length := by simp
    rw [e2, e]; exact lk

theorem quo_back {r : List UInt8} (hr : Gap r) : ∀ (m acc : List UInt8) (n : Nat), quoL acc n (subL 39 [39, 39] m ++ 39 :: r) = (acc ++ m, n + (subL 39 [39, 39] m).length + 1)
  | [], acc, n => by
    rcases hr with rfl | ⟨t, rfl⟩
    · simp [subL, quo_one]
    · simp only [subL, List.nil_append, List.length_nil, Nat.add_zero, List.append_nil]
      exact quo_q _ _ _ _ (by decide)
  | b :: m, acc, n => by
    by_cases hb : b = 39
    · subst hb
      have e : subL 39 [39, 39] (39 :: m) = 39 :: 39 :: subL 39 [39, 39] m := by simp [subL]
      rw [e, List.cons_append, List.cons_append, quo_qq, quo_back hr m]
      simp; omega
    · have e : subL 39 [39, 39] (b :: m) = b :: subL 39 [39, 39] m := by simp [subL, hb]
      rw [e, List.cons_append, quo_o _ _ _ _ hb, quo_back hr m]
      simp; omega
theorem quo_size : ∀ (k : Nat) (l acc : List UInt8) (n : Nat), l.length ≤ k → (quoL acc n l).2 ≠ 0 → ∃ m, (quoL acc n l).1 = acc ++ m ∧ n + (subL 39 [39, 39] m).length + 1 = (quoL acc n l).2
  | 0, l, acc, n, h, h2 => by
    have : l = [] := List.length_eq_zero_iff.1 (by omega)
    subst this
    exact absurd rfl h2
  | k + 1, [], acc, n, h, h2 => absurd rfl h2
  | k + 1, [b], acc, n, h, h2 => by
    by_cases hb : b = 39
    · subst hb; rw [quo_one]; exact ⟨[], by simp, by simp [subL]⟩
    · simp [quoL, hb] at h2
  | k + 1, b :: c :: t, acc, n, h, h2 => by
    by_cases hb : b = 39
    · subst hb
      by_cases hc : c = 39
      · subst hc
        rw [quo_qq] at h2 ⊢
        obtain ⟨m, h3, h4⟩ := quo_size k t _ _ (by simp at h; omega) h2
        exact ⟨39 :: m, by rw [h3]; simp, by rw [← h4]; simp [subL]; omega⟩
      · rw [quo_q _ _ _ _ hc]; exact ⟨[], by simp, by simp [subL]⟩
    · rw [quo_o _ _ _ _ hb] at h2 ⊢
      obtain ⟨m, h3, h4⟩ := quo_size k (c :: t) _ _ (by simp at h ⊢; omega) h2
      exact ⟨b :: m, by rw [h3]; simp, by rw [← h4]; simp [subL, hb]; omega⟩
theorem quo_again {l : List UInt8} (h : (quoT l).2 ≠ 0) : Again (quoT l).1 ∧ (tokB (quoT l).1).size ≤ (quoT l).2 := by
  unfold quoT at h ⊢
  split at h
  · exact absurd rfl h
  rename_i h0
  rw [if_neg h0]
  split at h
  · rename_i ht
    rw [if_pos ht]
    obtain ⟨m, h3, h4⟩ := quo_size _ _ _ _ (Nat.le_refl _) h0
    rw [List.nil_append] at h3
    rw [h3] at ht
    have e : (tokB ⟨4, mkB m, 0⟩).data.toList = 39 :: (subL 39 [39, 39] m ++ [39]) := by
      simp [tokB, quoteB, data_mkB]
    rw [h3]
    refine ⟨⟨39, subL 39 [39, 39] m ++ [39], e, by decide, by decide, fun r hr => ?_⟩, ?_⟩
    · unfold tokL tokC
      rw [List.cons_append, List.headD_cons, if_neg (by decide), if_neg (by decide), if_pos rfl]
      unfold quoT
      have hq := quo_back hr m [] 1
      have e2 : (39 :: (subL 39 [39, 39] m ++ [39] ++ r)).drop 1 = subL 39 [39, 39] m ++ 39 :: r := by simp
      rw [e2, hq, if_neg (by simp), List.nil_append, if_pos ht]
      simp; omega
    · have e2 : (tokB ⟨4, mkB m, 0⟩).size = (tokB ⟨4, mkB m, 0⟩).data.toList.length := by simp
      rw [e2, e]
      simp only [List.length_cons, List.length_append, List.length_nil]
      omega
  · exact absurd rfl h

theorem ops_app {s : ByteArray} (h : s ∈ opsL) {r : List UInt8} (hr : Gap r) : firstP opsL (mkB (s.data.toList ++ r)) = s := by
  simp only [opsL, List.mem_cons, List.not_mem_nil, or_false] at h
  rcases hr with rfl | ⟨t, rfl⟩ <;> rcases h with rfl | rfl | rfl | rfl | rfl | rfl | rfl | rfl | rfl | rfl | rfl | rfl | rfl | rfl | rfl <;> simp [firstP, opsL, Lib.hasPrefix, List.isPrefixOf, data_mkB]
theorem ops_ltr {l : List UInt8} (h : headLtr l = true) : firstP opsL (mkB l) = ⟨#[]⟩ := by
  cases l with
  | nil => cases h
  | cons a t =>
    have ha : ltrB (a.toNat : Int) = true := h
    have hn : ∀ x : UInt8, ltrB (x.toNat : Int) = false → (x == a) = false := fun x hx => by
      cases hq : x == a
      · rfl
      · rw [beq_iff_eq.1 hq, ha] at hx; cases hx
    have q1 := hn 47 (by decide)
    have q2 := hn 92 (by decide)
    have q3 := hn 60 (by decide)
    have q4 := hn 62 (by decide)
    have q5 := hn 61 (by decide)
    have q6 := hn 126 (by decide)
    have q7 := hn 43 (by decide)
    have q8 := hn 45 (by decide)
    have q9 := hn 42 (by decide)
    have q10 := hn 44 (by decide)
    have q11 := hn 38 (by decide)
    simp [firstP, opsL, Lib.hasPrefix, List.isPrefixOf, data_mkB, q1, q2, q3, q4, q5, q6, q7, q8, q9, q10, q11]
theorem marks_app {s : ByteArray} (h : s ∈ marksL) {r : List UInt8} (hr : Gap r) : firstP opsL (mkB (s.data.toList ++ r)) = ⟨#[]⟩ ∧ firstP marksL (mkB (s.data.toList ++ r)) = s := by
  simp only [marksL, List.mem_cons, List.not_mem_nil, or_false] at h
  rcases hr with rfl | ⟨t, rfl⟩ <;> rcases h with rfl | rfl | rfl | rfl | rfl | rfl | rfl | rfl | rfl | rfl <;> simp [firstP, opsL, marksL, Lib.hasPrefix, List.isPrefixOf, data_mkB]

theorem cut_flat (c : UInt8) : ∀ (l cur : List UInt8), (cutGo c cur l).flatMap (fun p => p ++ [c]) = cur ++ l ++ [c]
  | [], cur => by simp [cutGo]
  | b :: t, cur => by
    by_cases h : b = c
    · subst h
      simp [cutGo, cut_flat b t []]
    · simp [cutGo, h, cut_flat c t (cur ++ [b])]
theorem kw_flat {r : List UInt8} (hr : Gap r) : ∀ ps : List (List UInt8), (∀ p, p ∈ ps → partB (mkB p) = true) → kwL (ps.flatMap (fun p => p ++ [58]) ++ r) = (ps.flatMap (fun p => p ++ [58])).length
  | [], _ => by
    have h0 : runL r = 0 := by
      have := run_halt hr.halt [] (by simp)
      simpa using this
    simpa using kw_no0 h0
  | p :: ps, h => by
    have hp := h p (by simp)
    have ih := kw_flat hr ps (fun x hx => h x (by simp [hx]))
    have hb : ∀ b, b ∈ p → alnB b = true := fun b hb => part_bytes hp b (by rw [data_mkB]; exact hb)
    have hl := part_mk hp
    have e : (p :: ps).flatMap (fun p => p ++ [58]) ++ r = p ++ 58 :: (ps.flatMap (fun p => p ++ [58]) ++ r) := by simp
    have hrun := run_halt (q := 58 :: (ps.flatMap (fun p => p ++ [58]) ++ r)) (Or.inr ⟨58, _, rfl, by decide⟩) p hb
    have hne : ∀ t, ps.flatMap (fun p => p ++ [58]) ++ r ≠ 61 :: t := by
      cases ps with
      | nil => simpa using gap_ne hr
      | cons p2 ps2 =>
        have h2 := part_mk (h p2 (by simp))
        intro t he
        cases p2 with
        | nil => cases h2
        | cons a u =>
          simp only [List.flatMap_cons, List.cons_append, List.cons.injEq] at he
          have ha : ltrB (a.toNat : Int) = true := h2
          rw [he.1] at ha
          revert ha; decide
    have h0 : runL (p ++ 58 :: (ps.flatMap (fun p => p ++ [58]) ++ r)) ≠ 0 := by
      rw [hrun]
      cases p with
      | nil => cases hl
      | cons _ _ => simp
    rw [e, kw_yes h0 (by rw [hrun, drop_app]; exact col_yes hne), hrun]
    have e2 : (p ++ 58 :: (ps.flatMap (fun p => p ++ [58]) ++ r)).drop (p.length + 1) = ps.flatMap (fun p => p ++ [58]) ++ r := by
      rw [List.drop_append]; simp
    rw [e2, ih]
    simp; omega
theorem symN_app {s : ByteArray} (h : selB s = true) (ho : hasB opsL s = false) {r : List UInt8} (hr : Gap r) : symN (s.data.toList ++ r) = s.data.toList.length := by
  simp only [selB, ho, Bool.false_or, Bool.or_eq_true] at h
  rcases h with h | h
  · simp only [nameB, Bool.and_eq_true] at h
    have hb := part_bytes h.1
    have hl := part_head h.1
    have hrun := run_halt hr.halt s.data.toList hb
    unfold symN
    rw [hrun, if_neg (by cases hd : s.data.toList with
      | nil => rw [hd] at hl; cases hl
      | cons _ _ => simp), drop_app, if_neg (by rw [col_gap hr]; exact Bool.false_ne_true)]
  · simp only [kwB, Bool.and_eq_true] at h
    obtain ⟨h1, h2, _⟩ := h
    obtain ⟨l, hl⟩ := colB_iff.1 h1
    have hs := stem_of hl
    have hp : ∀ p, p ∈ cutGo 58 [] l → partB (mkB p) = true := fun p hp => by
      rw [allB_iff] at h2
      apply h2
      rw [cutB, hs]
      exact List.mem_map_of_mem hp
    have hf := cut_flat 58 l []
    rw [List.nil_append, ← hl] at hf
    have hk := kw_flat hr _ hp
    rw [hf] at hk
    have hne := cutGo_ne 58 l []
    have hrun : runL (s.data.toList ++ r) ≠ 0 ∧ colL ((s.data.toList ++ r).drop (runL (s.data.toList ++ r))) = true := by
      constructor
      · intro h0
        have h3 := kw_no0 h0
        rw [hk, hl] at h3
        simp at h3
      · cases hc : colL ((s.data.toList ++ r).drop (runL (s.data.toList ++ r)))
        · have h3 := kw_noc hc
          rw [hk, hl] at h3
          simp at h3
        · rfl
    unfold symN
    rw [if_neg hrun.1, if_pos hrun.2, hk]
theorem sym_again {l : List UInt8} (h : (symT l).2 ≠ 0) : Again (symT l).1 ∧ (tokB (symT l).1).size ≤ (symT l).2 := by
  unfold symT at h ⊢
  split at h
  · exact absurd rfl h
  rename_i h0
  rw [if_neg h0]
  rw [sel_sym] at h0 ⊢
  split at h0
  rotate_left
  · exact absurd rfl h0
  rename_i hs
  rw [if_pos hs]
  simp only at h0 ⊢
  generalize symB l = s at *
  have e : (tokB ⟨5, s, 0⟩).data.toList = 35 :: s.data.toList := by
    simp [tokB, ByteArray.toList_data_append]
  have hsym : ∀ r, Gap r → symB (s.data.toList ++ r) = s := fun r hr => by
    unfold symB
    cases ho : hasB opsL s
    · have hh := sel_head hs ho
      have hh2 : headLtr (s.data.toList ++ r) = true := by
        cases hd : s.data.toList with
        | nil => rw [hd] at hh; cases hh
        | cons a t => rw [hd] at hh; exact hh
      rw [if_pos (ops_ltr hh2), symN_app hs ho hr, take_app, mkB_data]
    · have hm := hasB_iff.1 ho
      rw [ops_app hm hr, if_neg (ops_ne hm)]
  have hz : s.size ≠ 0 := h0
  refine ⟨⟨35, s.data.toList, e, by decide, by decide, fun r hr => ?_⟩, ?_⟩
  · unfold tokL tokC
    rw [List.cons_append, List.headD_cons, if_neg (by decide), if_neg (by decide), if_neg (by decide), if_pos rfl]
    unfold symT
    have e2 : (35 :: (s.data.toList ++ r)).drop 1 = s.data.toList ++ r := rfl
    have e3 : selT (s.data.toList ++ r) = (⟨5, s, 0⟩, s.size) := by rw [sel_sym, hsym r hr, if_pos hs]
    rw [e2, e3, if_neg hz]
    have : s.data.toList.length = s.size := by simp
    simp
  · have e2 : (tokB ⟨5, s, 0⟩).size = (tokB ⟨5, s, 0⟩).data.toList.length := by simp
    have e3 : s.data.toList.length = s.size := by simp
    rw [e2, e, List.length_cons, e3]
    exact Nat.le_refl _

theorem op_plain {s : ByteArray} (h : s ∈ opsL ∨ s ∈ marksL) : ∃ b u, s.data.toList = b :: u ∧ ¬ (b = 32 ∨ b = 10 ∨ b = 9) ∧ ¬ b = 34 ∧ ltrB (b.toNat : Int) = false ∧ dgtB (b.toNat : Int) = false ∧ ¬ b = 39 ∧ ¬ b = 35 := by
  rcases h with h | h
  · simp only [opsL, List.mem_cons, List.not_mem_nil, or_false] at h
    rcases h with rfl | rfl | rfl | rfl | rfl | rfl | rfl | rfl | rfl | rfl | rfl | rfl | rfl | rfl | rfl <;> exact ⟨_, _, rfl, by decide, by decide, by decide, by decide, by decide, by decide⟩
  · simp only [marksL, List.mem_cons, List.not_mem_nil, or_false] at h
    rcases h with rfl | rfl | rfl | rfl | rfl | rfl | rfl | rfl | rfl | rfl <;> exact ⟨_, _, rfl, by decide, by decide, by decide, by decide, by decide, by decide⟩
theorem op_again {l : List UInt8} (h : (opT l).2 ≠ 0) : Again (opT l).1 ∧ (tokB (opT l).1).size ≤ (opT l).2 := by
  have key : ∀ (k : Int) (s : ByteArray), k ≠ 3 → k ≠ 4 → k ≠ 5 → s ∈ opsL ∨ s ∈ marksL → (∀ r, Gap r → opT (s.data.toList ++ r) = (⟨k, s, 0⟩, s.size)) → Again ⟨k, s, 0⟩ ∧ (tokB ⟨k, s, 0⟩).size ≤ s.size := fun k s h3 h4 h5 hm hop => by
    have hk : tokB ⟨k, s, 0⟩ = s := by simp [tokB, h3, h4, h5]
    obtain ⟨b, u, e, p1, p2, p3, p4, p5, p6⟩ := op_plain hm
    refine ⟨⟨b, u, by rw [hk, e], p1, p2, fun r hr => ?_⟩, by rw [hk]; exact Nat.le_refl _⟩
    unfold tokL tokC
    rw [List.cons_append, List.headD_cons, p3, p4, if_neg Bool.false_ne_true, if_neg Bool.false_ne_true, if_neg p5, if_neg p6, ← List.cons_append, ← e, hop r hr]
    have : s.data.toList.length = s.size := by simp
    rw [this]
  unfold opT at h ⊢
  split at h
  · rename_i h1
    rw [if_pos h1]
    split at h
    · exact absurd rfl h
    · rename_i h2
      rw [if_neg h2]
      rcases firstP_mem marksL (mkB l) with hm | hm
      · exact absurd hm h2
      · refine key 7 _ (by decide) (by decide) (by decide) (Or.inr hm) fun r hr => ?_
        obtain ⟨q1, q2⟩ := marks_app hm hr
        unfold opT
        rw [if_pos q1, q2, if_neg h2]
  · rename_i h1
    rw [if_neg h1]
    rcases firstP_mem opsL (mkB l) with hm | hm
    · exact absurd hm h1
    · refine key 6 _ (by decide) (by decide) (by decide) (Or.inl hm) fun r hr => ?_
      unfold opT
      rw [ops_app hm hr, if_neg h1]
theorem tok_again {b : UInt8} {t : List UInt8} (h : (tokL (b :: t)).2 ≠ 0) : Again (tokL (b :: t)).1 ∧ (tokB (tokL (b :: t)).1).size ≤ (tokL (b :: t)).2 := by
  unfold tokL tokC at h ⊢
  rw [List.headD_cons] at h ⊢
  split at h
  · rename_i h1
    rw [if_pos h1]
    exact name_again h1 h
  · rename_i h1
    rw [if_neg h1]
    split at h
    · rename_i h2
      rw [if_pos h2]; exact num_again h
    · rename_i h2
      rw [if_neg h2]
      split at h
      · rename_i h3
        rw [if_pos h3]; exact quo_again h
      · rename_i h3
        rw [if_neg h3]
        split at h
        · rename_i h4
          rw [if_pos h4]; exact sym_again h
        · rename_i h4
          rw [if_neg h4]; exact op_again h

/-- The bytes of all texts, a blank behind each. -/
def sumT : List MToken → Nat
  | [] => 0
  | t :: ts => (tokB t).size + 1 + sumT ts
theorem sumT_append : ∀ a b : List MToken, sumT (a ++ b) = sumT a + sumT b
  | [], b => by simp [sumT]
  | t :: a, b => by simp [sumT, sumT_append a b]; omega
theorem scan_again : ∀ (m : Nat) (l : List UInt8) (acc r : List MToken), l.length ≤ m → (∀ t, t ∈ acc → Again t) → scanL l acc = some r → (∀ t, t ∈ r → Again t) ∧ sumT r ≤ sumT acc + 2 * l.length
  | 0, l, acc, r, h, ha, e => by
    have : l = [] := List.length_eq_zero_iff.1 (by omega)
    subst this
    rw [scan_nil] at e; injection e with e; subst e; exact ⟨ha, by omega⟩
  | m + 1, [], acc, r, h, ha, e => by rw [scan_nil] at e; injection e with e; subst e; exact ⟨ha, by omega⟩
  | m + 1, b :: t, acc, r, h, ha, e => by
    rw [List.length_cons] at h
    by_cases h1 : b = 32 ∨ b = 10 ∨ b = 9
    · rw [scan_blank h1] at e
      obtain ⟨q1, q2⟩ := scan_again m t acc r (by omega) ha e
      exact ⟨q1, by rw [List.length_cons]; omega⟩
    · by_cases h2 : b = 34
      · subst h2
        by_cases h3 : quN t < t.length
        · rw [scan_note h3] at e
          obtain ⟨q1, q2⟩ := scan_again m _ acc r (by rw [List.length_drop]; omega) ha e
          refine ⟨q1, ?_⟩
          rw [List.length_drop] at q2
          rw [List.length_cons]; omega
        · rw [scan_open h3] at e; cases e
      · by_cases h3 : (tokL (b :: t)).2 = 0 ∨ 800 ≤ acc.length
        · rw [scan_bad h1 h2 h3] at e; cases e
        · rw [scan_tok h1 h2 h3] at e
          obtain ⟨k1, k2⟩ := tok_again (b := b) (t := t) (fun h => h3 (Or.inl h))
          obtain ⟨q1, q2⟩ := scan_again m _ _ r (by rw [List.length_drop, List.length_cons]; omega) (fun x hx => by
            rcases List.mem_append.1 hx with hx | hx
            · exact ha x hx
            · rw [List.mem_singleton.1 hx]; exact k1) e
          refine ⟨q1, ?_⟩
          have h5 := tok_le (b :: t)
          have h6 : (tokL (b :: t)).2 ≠ 0 := fun h => h3 (Or.inl h)
          rw [sumT_append, List.length_drop] at q2
          simp only [sumT] at q2
          rw [List.length_cons] at *
          omega
/-- The texts, a blank between two. -/
def joinT : List MToken → List UInt8
  | [] => []
  | [t] => (tokB t).data.toList
  | t :: ts => (tokB t).data.toList ++ 32 :: joinT ts
theorem scan_join : ∀ (ts acc : List MToken), (∀ t, t ∈ ts → Again t) → acc.length + ts.length ≤ 800 → scanL (joinT ts) acc = some (acc ++ ts)
  | [], acc, _, _ => by simp [joinT, scan_nil]
  | t :: ts, acc, h, hl => by
    obtain ⟨b, u, e, p1, p2, go⟩ := h t (by simp)
    rw [List.length_cons] at hl
    have hd : ∀ r, (b :: u ++ r).drop (b :: u).length = r := fun r => by simp
    have hstep : ∀ r, Gap r → scanL (b :: u ++ r) acc = scanL r (acc ++ [t]) := fun r hr => by
      have hg := go r hr
      have h3 : ¬ ((tokL (b :: u ++ r)).2 = 0 ∨ 800 ≤ acc.length) := by rw [hg]; simp; omega
      have := scan_tok (b := b) (t := u ++ r) (acc := acc) p1 p2 h3
      rw [← List.cons_append, hg] at this
      rw [this, hd]
    cases ts with
    | nil =>
      have := hstep [] (Or.inl rfl)
      rw [List.append_nil] at this
      rw [joinT, e, this, scan_nil]
    | cons t2 ts =>
      have := hstep (32 :: joinT (t2 :: ts)) (Or.inr ⟨_, rfl⟩)
      rw [joinT, e, this, scan_blank (Or.inl rfl), scan_join (t2 :: ts) (acc ++ [t]) (fun x hx => h x (by simp [hx])) (by simp at hl ⊢; omega)]
      · simp
      · simp
theorem joinT_len : ∀ ts : List MToken, (joinT ts).length ≤ sumT ts
  | [] => by simp [joinT, sumT]
  | [t] => by simp [joinT, sumT]
  | t :: t2 :: ts => by
    have := joinT_len (t2 :: ts)
    rw [joinT]
    · rw [sumT]
      have e : (tokB t).data.toList.length = (tokB t).size := by simp
      rw [List.length_append, List.length_cons, e]; omega
    · simp
theorem joinT_lib : ∀ ts : List MToken, Lib.join ((ts.map tokB).map (·.data.toList)) [32] = joinT ts
  | [] => by simp [joinT, Lib.join_nil]
  | [t] => by simp [joinT, Lib.join_one]
  | t :: t2 :: ts => by
    have ih := joinT_lib (t2 :: ts)
    rw [joinT]
    · rw [← ih]
      simp only [List.map_cons, Lib.join_cons, Lib.joinTail]
      simp
    · simp
/-- Tokens of a small text, printed with blanks between, are the same tokens. -/
theorem toks_again {s : ByteArray} {ts : List MToken} (h : toksL s = some ts) (hs : s.size ≤ 1000) : toksL (joinB (ts.map tokB) ⟨#[32]⟩) = some ts ∧ (joinB (ts.map tokB) ⟨#[32]⟩).size ≤ 2000 := by
  have hl := toks_len s
  rw [h, Option.getD_some] at hl
  unfold toksL at h
  rw [if_neg (by omega)] at h
  obtain ⟨q1, q2⟩ := scan_again _ s.data.toList [] ts (Nat.le_refl _) (by simp) h
  have e : jpart (ts.map tokB) ⟨#[32]⟩ (ts.map tokB).length = joinT ts := by
    rw [jpart_all]; exact joinT_lib ts
  have hj := joinT_len ts
  have hz : s.data.toList.length = s.size := by simp
  simp only [sumT, Nat.zero_add] at q2
  have hb : joinB (ts.map tokB) ⟨#[32]⟩ = ⟨(joinT ts).toArray⟩ := by
    unfold joinB
    rw [e, if_pos (by omega)]
  have hsz : (joinB (ts.map tokB) ⟨#[32]⟩).size = (joinT ts).length := by rw [hb]; simp [ByteArray.size]
  refine ⟨?_, by omega⟩
  unfold toksL
  rw [if_neg (by omega), hb]
  have := scan_join ts [] q1 (by simpa using hl)
  simpa using this

end Go.Proofs.YtkajinmknhnpkaaDoor
