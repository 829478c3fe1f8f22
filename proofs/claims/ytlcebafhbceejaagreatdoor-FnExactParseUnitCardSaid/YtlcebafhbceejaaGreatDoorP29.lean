/-
  SEVERAL TEXTS IN ONE: CONTRACTS: parts of Tokens: the next token, of the reference; CONTRACTS: parts of Tokens: the token with which a text begins, of the program; THE LAWS' MARKS of tokens: a result's memory is written over and read again; CONTRACTS: Tokens, of the program and of the reference.
  Conditions: those that each lemma states.
-/
import Derived.Test.YtlcebafhbceejaaGreatDoorRows
import Derived.Deep.AppendLies
import Derived.Test.YtlcebafhbceejaaGreatDoorP13
import Derived.Test.YtlcebafhbceejaaGreatDoorP07
import Derived.Test.YtlcebafhbceejaaGreatDoorP02
namespace Go.Proofs.YtlcebafhbceejaaGreatDoor
open Go.RowKit
set_option maxHeartbeats 8000000
set_option maxRecDepth 100000
set_option linter.unusedSimpArgs false
set_option linter.unusedVariables false
theorem txt_ne {f : ByteArray} (h : ¬ f = ⟨#[]⟩) : f.toList.isEmpty = false := by
 have : ¬ f.toList = [] := fun e => h (toList_inj (by rw [e]; simp))
 simpa using this
theorem l2Next_any (s : ByteArray) (k : Nat) (w : World) (hs : s.size <= 1048576) (hk : k < s.size) :
 Calls Tryz.prog 30 #[.string s, .int .i64 k] w fun e w' => e = .returned (.tuple #[tokVal (tokL (s.data.toList.drop k)).1, .int .i64 (endV k (tokL (s.data.toList.drop k)).2)]) /\ Ext w w' := by
 have p0 : (0 : Int) <= k := by omega
 have pk : (k : Int) < s.size := by omega
 obtain ⟨hb0, hb1⟩ := byte_bd s[k]
 have HT : Hid (tokL (s.data.toList.drop k) = tokC s[k] (s.data.toList.drop k)) := LH (by unfold tokL; congr 1; rw [drop_cons hk]; rfl)
 have HH : Hid (headLtr (s.data.toList.drop k) = ltrB (s[k].toNat : Int)) := LH (by rw [drop_cons hk]; rfl)
 have HF : Hid (∀ l, firstP l (mkB (s.data.toList.drop k)) = firstP l (suf s k)) := LH fun l => by rw [suf_mk]
 go_enter Tryz.func30, Tryz.ntmps30
 go_wp2_with fail
 generalize hW : World.alloc w _ = W1
 have x1 : Ext w W1 := by rw [<- hW]; exact (XR w).alloc _
 have R0 : W1.cell? ⟨w.heap.size, 0, none⟩ = some (.int .i64 0) := by rw [<- hW]; simp
 have R1 : W1.cell? ⟨w.heap.size, 1, none⟩ = some (.string ⟨#[]⟩) := by rw [<- hW]; simp
 have R2 : W1.cell? ⟨w.heap.size, 2, none⟩ = some (.int .i64 0) := by rw [<- hW]; simp
 have F0 : ∀ o, W1.frozen? ⟨w.heap.size, o, none⟩ = false := fun o => by rw [<- hW]; simp
 clear hW
 refine (l2Marks_any _).mono ?_
 rintro e w1 ⟨ao, n, cap, fp, rfl, hr, hf, hxa⟩
 go_wp2_with fail
 refine (l2Starts_any marksL s k _ _ hr.rep hs (by omega) marks_small).mono ?_
 rintro e w2 ⟨rfl, hxb⟩
 clear hr hf
 go_wp2_with fail
 refine (l2Binaries_any _).mono ?_
 rintro e w3 ⟨ao, n, cap, fp, rfl, hr, hf, hxc⟩
 go_wp2_with fail
 refine (l2Starts_any opsL s k _ _ hr.rep hs (by omega) ops_small).mono ?_
 rintro e w4 ⟨rfl, hxd⟩
 have hx := ((hxa.trans hxb).trans hxc).trans hxd
 have zz := lt_of_cell R0
 replace R0 := Ext.cell hx R0
 replace R1 := Ext.cell hx R1
 replace R2 := Ext.cell hx R2
 replace F0 := fun o => ((bcell hx).2 w.heap.size o zz).trans (F0 o)
 clear zz
 clear hr hf hxa hxb hxc hxd
 have HO := HF.out opsL
 have HM := HF.out marksL
 have hoz : (firstP opsL (suf s k)).size <= 1048576 := by
  rcases firstP_mem opsL (suf s k) with h | h
  · rw [h]; decide
  · exact ops_small _ h
 have hmz : (firstP marksL (suf s k)).size <= 1048576 := by
  rcases firstP_mem marksL (suf s k) with h | h
  · rw [h]; decide
  · exact marks_small _ h
 clear HF
 generalize firstP opsL (suf s k) = op at *
 generalize firstP marksL (suf s k) = mk at *
 have HO := LH HO
 have HM := LH HM
 cases hl : ltrB (s[k].toNat : Int)
 rotate_left
 · have HL := LH hl; clear hl
   have hr0 := run_ltr (HH.out.trans HL.out)
   have hr1 : Hid (0 < runL (s.data.toList.drop k)) := LH (by omega)
   clear hr0
   obtain ⟨⟨⟨K, T, N⟩, n⟩, hX⟩ : ∃ X, nameT (s.data.toList.drop k) = X := ⟨_, rfl⟩
   have C : Hid (∀ W, Calls Tryz.prog 65 #[.string s, .int .i64 ((k : Nat) : Int)] W fun e w' => e = .returned (.tuple #[.agg #[.int .i64 K, .string T, .int .i64 N], .int .i64 (endV (k) n)]) /\ Ext W w') := LH fun W => by
    have := l2Name_any s k W hs (by omega) hr1.out
    rw [hX] at this
    exact this
   have HN : Hid (Ending.returned (.tuple #[.agg #[.int .i64 K, .string T, .int .i64 N], .int .i64 (endV k n)]) = Ending.returned (.tuple #[tokVal (tokL (s.data.toList.drop k)).1, .int .i64 (endV k (tokL (s.data.toList.drop k)).2)])) := LH (by rw [show tokL (s.data.toList.drop k) = (⟨K, T, N⟩, n) from by rw [HT.out, tokC, if_pos HL.out, hX]]; rfl)
   clear hX
   go_wp2_with fail
   refine (l2Letter_any _ _ hb0 hb1).mono ?_
   rw [HL.out]
   rintro e w' ⟨rfl, rfl⟩
   go_wp2_with fail
   refine (C.out _).mono ?_
   rintro e w5 ⟨rfl, hx5⟩
   have zz := lt_of_cell R0
   replace R0 := Ext.cell hx5 R0
   replace R1 := Ext.cell hx5 R1
   replace R2 := Ext.cell hx5 R2
   replace F0 := fun o => ((bcell hx5).2 w.heap.size o zz).trans (F0 o)
   clear zz
   go_wp2_with fail
   refine bodyPost_ret (v := .tuple #[.agg #[.int .i64 (K), .string (T), .int .i64 (N)], .int .i64 (endV (k) n)]) (by simp [results, Tryz.results30, go_sem, R0, R1, R2, F0]) rfl ⟨?_, ?_⟩
   · exact HN.out
   · (repeat refine Ext.setCell ?_ (by omega) _)
     exact x1.trans (hx.trans hx5)
 have HL := LH hl; clear hl
 have nl : Hid (¬ ltrB (s[k].toNat : Int) = true) := LH (by rw [HL.out]; exact Bool.false_ne_true)
 cases hd : dgtB (s[k].toNat : Int)
 rotate_left
 · have HD := LH hd; clear hd
   have hd0 : Hid (0 < digN (s.data.toList.drop k)) := LH (by rw [drop_cons hk, digN, if_pos HD.out]; omega)
   obtain ⟨⟨⟨K, T, N⟩, n⟩, hX⟩ : ∃ X, numT (s.data.toList.drop k) = X := ⟨_, rfl⟩
   have C : Hid (∀ W, Calls Tryz.prog 67 #[.string s, .int .i64 ((k : Nat) : Int)] W fun e w' => e = .returned (.tuple #[.agg #[.int .i64 K, .string T, .int .i64 N], .int .i64 (endV (k) n)]) /\ Ext W w') := LH fun W => by
    have := l2Number_any s k W hs (by omega) hd0.out
    rw [hX] at this
    exact this
   have HN : Hid (Ending.returned (.tuple #[.agg #[.int .i64 K, .string T, .int .i64 N], .int .i64 (endV k n)]) = Ending.returned (.tuple #[tokVal (tokL (s.data.toList.drop k)).1, .int .i64 (endV k (tokL (s.data.toList.drop k)).2)])) := LH (by rw [show tokL (s.data.toList.drop k) = (⟨K, T, N⟩, n) from by rw [HT.out, tokC, if_neg nl.out, if_pos HD.out, hX]]; rfl)
   clear hX
   go_wp2_with fail
   refine (l2Letter_any _ _ hb0 hb1).mono ?_
   rw [HL.out]
   rintro e w' ⟨rfl, rfl⟩
   go_wp2_with fail
   refine (l2Digit_any _ _ hb0 hb1).mono ?_
   rw [HD.out]
   rintro e w' ⟨rfl, rfl⟩
   go_wp2_with fail
   refine (C.out _).mono ?_
   rintro e w5 ⟨rfl, hx5⟩
   have zz := lt_of_cell R0
   replace R0 := Ext.cell hx5 R0
   replace R1 := Ext.cell hx5 R1
   replace R2 := Ext.cell hx5 R2
   replace F0 := fun o => ((bcell hx5).2 w.heap.size o zz).trans (F0 o)
   clear zz
   go_wp2_with fail
   refine bodyPost_ret (v := .tuple #[.agg #[.int .i64 (K), .string (T), .int .i64 (N)], .int .i64 (endV (k) n)]) (by simp [results, Tryz.results30, go_sem, R0, R1, R2, F0]) rfl ⟨?_, ?_⟩
   · exact HN.out
   · (repeat refine Ext.setCell ?_ (by omega) _)
     exact x1.trans (hx.trans hx5)
 have HD := LH hd; clear hd
 have nd : Hid (¬ dgtB (s[k].toNat : Int) = true) := LH (by rw [HD.out]; exact Bool.false_ne_true)
 by_cases hq : s[k] = 39
 · have t1 := u8_eq (n := 39) 39 rfl hq
   have HQ := LH hq; clear hq
   obtain ⟨⟨⟨K, T, N⟩, n⟩, hX⟩ : ∃ X, quoT (s.data.toList.drop k) = X := ⟨_, rfl⟩
   have C : Hid (∀ W, Calls Tryz.prog 68 #[.string s, .int .i64 ((k : Nat) : Int)] W fun e w' => e = .returned (.tuple #[.agg #[.int .i64 K, .string T, .int .i64 N], .int .i64 (endV (k) n)]) /\ Ext W w') := LH fun W => by
    have := l2Quoted_any s k W hs hk
    rw [hX] at this
    exact this
   have HN : Hid (Ending.returned (.tuple #[.agg #[.int .i64 K, .string T, .int .i64 N], .int .i64 (endV k n)]) = Ending.returned (.tuple #[tokVal (tokL (s.data.toList.drop k)).1, .int .i64 (endV k (tokL (s.data.toList.drop k)).2)])) := LH (by rw [show tokL (s.data.toList.drop k) = (⟨K, T, N⟩, n) from by rw [HT.out, tokC, if_neg nl.out, if_neg nd.out, if_pos HQ.out, hX]]; rfl)
   clear hX
   go_wp2_with fail
   refine (l2Letter_any _ _ hb0 hb1).mono ?_
   rw [HL.out]
   rintro e w' ⟨rfl, rfl⟩
   go_wp2_with fail
   refine (l2Digit_any _ _ hb0 hb1).mono ?_
   rw [HD.out]
   rintro e w' ⟨rfl, rfl⟩
   go_wp2_with fail
   refine (C.out _).mono ?_
   rintro e w5 ⟨rfl, hx5⟩
   have zz := lt_of_cell R0
   replace R0 := Ext.cell hx5 R0
   replace R1 := Ext.cell hx5 R1
   replace R2 := Ext.cell hx5 R2
   replace F0 := fun o => ((bcell hx5).2 w.heap.size o zz).trans (F0 o)
   clear zz
   go_wp2_with fail
   refine bodyPost_ret (v := .tuple #[.agg #[.int .i64 (K), .string (T), .int .i64 (N)], .int .i64 (endV (k) n)]) (by simp [results, Tryz.results30, go_sem, R0, R1, R2, F0]) rfl ⟨?_, ?_⟩
   · exact HN.out
   · (repeat refine Ext.setCell ?_ (by omega) _)
     exact x1.trans (hx.trans hx5)
 have t1 := u8_ne (n := 39) 39 rfl hq
 have HQ := LH hq; clear hq
 by_cases hp : s[k] = 35
 · have t2 := u8_eq (n := 35) 35 rfl hp
   have HP := LH hp; clear hp
   obtain ⟨⟨⟨K, T, N⟩, n⟩, hX⟩ : ∃ X, selT (s.data.toList.drop (k + 1)) = X := ⟨_, rfl⟩
   have C : Hid (∀ W, Calls Tryz.prog 69 #[.string s, .int .i64 ((k + 1 : Nat) : Int)] W fun e w' => e = .returned (.tuple #[.agg #[.int .i64 K, .string T, .int .i64 N], .int .i64 (endV (k + 1) n)]) /\ Ext W w') := LH fun W => by
    have := l2Selector_any s (k + 1) W hs (by omega)
    rw [hX] at this
    exact this
   have HN : Hid (Ending.returned (.tuple #[.agg #[.int .i64 K, .string T, .int .i64 N], .int .i64 (endV (k + 1) n)]) = Ending.returned (.tuple #[tokVal (tokL (s.data.toList.drop k)).1, .int .i64 (endV k (tokL (s.data.toList.drop k)).2)])) := LH (by
    have e1 : tokL (s.data.toList.drop k) = symT (s.data.toList.drop (k + 1)) := by rw [HT.out, tokC, if_neg nl.out, if_neg nd.out, if_neg HQ.out, if_pos HP.out, List.drop_drop]
    have hk := sel_k (s.data.toList.drop (k + 1))
    rw [e1]
    unfold symT
    rw [hX] at hk ⊢
    by_cases h0 : n = 0
    · subst h0
      have e : (⟨K, T, N⟩ : MToken) = ⟨0, ⟨#[]⟩, 0⟩ := hk.1 rfl
      injection e with e1 e2 e3
      rw [if_pos rfl, e1, e2, e3]; rfl
    · rw [if_neg h0]
      simp only [tokVal, endV]
      rw [if_neg h0, if_neg (by omega), show k + 1 + n = k + (n + 1) from by omega])
   clear hX
   go_wp2_with fail
   refine (l2Letter_any _ _ hb0 hb1).mono ?_
   rw [HL.out]
   rintro e w' ⟨rfl, rfl⟩
   go_wp2_with fail
   refine (l2Digit_any _ _ hb0 hb1).mono ?_
   rw [HD.out]
   rintro e w' ⟨rfl, rfl⟩
   go_wp2_with fail
   refine (C.out _).mono ?_
   rintro e w5 ⟨rfl, hx5⟩
   have zz := lt_of_cell R0
   replace R0 := Ext.cell hx5 R0
   replace R1 := Ext.cell hx5 R1
   replace R2 := Ext.cell hx5 R2
   replace F0 := fun o => ((bcell hx5).2 w.heap.size o zz).trans (F0 o)
   clear zz
   go_wp2_with fail
   refine bodyPost_ret (v := .tuple #[.agg #[.int .i64 (K), .string (T), .int .i64 (N)], .int .i64 (endV (k + 1) n)]) (by simp [results, Tryz.results30, go_sem, R0, R1, R2, F0]) rfl ⟨?_, ?_⟩
   · exact HN.out
   · (repeat refine Ext.setCell ?_ (by omega) _)
     exact x1.trans (hx.trans hx5)
 have t2 := u8_ne (n := 35) 35 rfl hp
 have HP := LH hp; clear hp
 have HB : Hid (tokL (s.data.toList.drop k) = opT (s.data.toList.drop k)) := LH (by rw [HT.out, tokC, if_neg nl.out, if_neg nd.out, if_neg HQ.out, if_neg HP.out])
 by_cases ho : op = ⟨#[]⟩
 rotate_left
 · have t3 := txt_ne ho
   have hN : Hid (tokL (s.data.toList.drop k) = (⟨6, op, 0⟩, op.size)) := LH (by rw [HB.out, opT, HO.out, if_neg ho])
   have hnz : op.size ≠ 0 := fun e => ho (size_zero e)
   clear ho
   go_wp2_with fail
   refine (l2Letter_any _ _ hb0 hb1).mono ?_
   rw [HL.out]
   rintro e w' ⟨rfl, rfl⟩
   go_wp2_with fail
   refine (l2Digit_any _ _ hb0 hb1).mono ?_
   rw [HD.out]
   rintro e w' ⟨rfl, rfl⟩
   go_wp2_with fail
   refine bodyPost_ret (v := .tuple #[.agg #[.int .i64 (6), .string (op), .int .i64 (0)], .int .i64 (((k + op.size : Nat) : Int))]) (by simp [results, Tryz.results30, go_sem, R0, R1, R2, F0]) rfl ⟨?_, ?_⟩
   · rw [hN.out]; simp only [tokVal, endV]; rw [if_neg hnz]
   · (repeat refine Ext.setCell ?_ (by omega) _)
     exact x1.trans hx
 subst ho
 by_cases hm : mk = ⟨#[]⟩
 rotate_left
 · have t3 := txt_ne hm
   have hN : Hid (tokL (s.data.toList.drop k) = (⟨7, mk, 0⟩, mk.size)) := LH (by rw [HB.out, opT, HO.out, if_pos rfl, HM.out, if_neg hm])
   have hnz : mk.size ≠ 0 := fun e => hm (size_zero e)
   clear hm
   go_wp2_with fail
   refine (l2Letter_any _ _ hb0 hb1).mono ?_
   rw [HL.out]
   rintro e w' ⟨rfl, rfl⟩
   go_wp2_with fail
   refine (l2Digit_any _ _ hb0 hb1).mono ?_
   rw [HD.out]
   rintro e w' ⟨rfl, rfl⟩
   go_wp2_with fail
   refine bodyPost_ret (v := .tuple #[.agg #[.int .i64 (7), .string (mk), .int .i64 (0)], .int .i64 (((k + mk.size : Nat) : Int))]) (by simp [results, Tryz.results30, go_sem, R0, R1, R2, F0]) rfl ⟨?_, ?_⟩
   · rw [hN.out]; simp only [tokVal, endV]; rw [if_neg hnz]
   · (repeat refine Ext.setCell ?_ (by omega) _)
     exact x1.trans hx
 subst hm
 have hN : Hid (tokL (s.data.toList.drop k) = noTok) := LH (by rw [HB.out, opT, HO.out, if_pos rfl, HM.out, if_pos rfl])
 go_wp2_with fail
 refine (l2Letter_any _ _ hb0 hb1).mono ?_
 rw [HL.out]
 rintro e w' ⟨rfl, rfl⟩
 go_wp2_with fail
 refine (l2Digit_any _ _ hb0 hb1).mono ?_
 rw [HD.out]
 rintro e w' ⟨rfl, rfl⟩
 go_wp2_with fail
 refine bodyPost_ret (v := .tuple #[.agg #[.int .i64 (0), .string (⟨#[]⟩), .int .i64 (0)], .int .i64 (0)]) (by simp [results, Tryz.results30, go_sem, R0, R1, R2, F0]) rfl ⟨?_, ?_⟩
 · rw [hN.out]; rfl
 · (repeat refine Ext.setCell ?_ (by omega) _)
   exact x1.trans hx
theorem quo_len : ∀ (m : Nat) (l acc : List UInt8) (n : Nat), l.length <= m -> (quoL acc n l).1.length <= acc.length + l.length
 | 0, l, acc, n, h => by
  have : l = [] := List.length_eq_zero_iff.1 (by omega)
  subst this
  simp [quoL]
 | m + 1, [], acc, n, h => by simp [quoL]
 | m + 1, [b], acc, n, h => by
  by_cases hb : b = 39 <;> simp [quoL, hb]
 | m + 1, b :: c :: t, acc, n, h => by
  by_cases hb : b = 39
  · subst hb
    by_cases hc : c = 39
    · subst hc
      rw [quo_qq]
      have := quo_len m t (acc ++ [39]) (n + 2) (by simp at h; omega)
      simp only [List.length_cons, List.length_append, List.length_nil] at this ⊢; omega
    · rw [quo_q _ _ _ _ hc]; simp only [List.length_cons]; omega
  · rw [quo_o _ _ _ _ hb]
    have := quo_len m (c :: t) (acc ++ [b]) (n + 1) (by simp at h ⊢; omega)
    simp only [List.length_cons, List.length_append, List.length_nil] at this ⊢; omega
theorem sel_ne {s : ByteArray} (h : selB s = true) : s ≠ ⟨#[]⟩ := by
 rintro rfl
 cases ho : hasB opsL (⟨#[]⟩ : ByteArray)
 · have := sel_head h ho
   simp [headLtr] at this
 · exact ops_ne (hasB_iff.1 ho) rfl
theorem tokenAt_ltr (s : ByteArray) (w : World) (hs : s.size <= 1048576) (h0 : 0 < s.size) (hl : ltrB (s[0].toNat : Int) = true) :
 Calls Tryz.prog 40 #[.string s] w fun e w' => ∃ x : MToken, e = .returned (.tuple #[tokVal x, .int .i64 ((tokL s.data.toList).2 : Nat)]) /\ ((tokL s.data.toList).2 ≠ 0 -> x = (tokL s.data.toList).1) /\ Ext w w' := by
 have L0 : (0 : Nat) < s.size := h0
 obtain ⟨hb0, hb1⟩ := byte_bd s[0]
 have HT : Hid (tokL s.data.toList = tokC s[0] s.data.toList) := LH (by
  have e := drop_cons (s := s) (k := 0) h0
  rw [List.drop_zero] at e
  unfold tokL; congr 1; rw [e]; rfl)
 have HL := LH hl; clear hl
 have HB : Hid (tokL s.data.toList = nameT s.data.toList) := LH (by rw [HT.out, tokC, if_pos HL.out])
 have hrl : runL s.data.toList <= s.size := by have := runL_le s.data.toList; simpa using this
 have hz := runB_size s.data.toList
 have HE : Hid (s.extract 0 (runAt s 0) = runB s.data.toList) := LH (by rw [extract_mk, runAt, runB]; simp)
 obtain ⟨m, hm⟩ : ∃ m, runL s.data.toList = m := ⟨_, rfl⟩
 rw [hm] at hz hrl
 have HM := LH hm; clear hm
 have HNA : Hid (nameT s.data.toList = if colL (s.data.toList.drop m) = true then (if m <= 20 then (⟨2, runB s.data.toList ++ ⟨#[58]⟩, 0⟩, m + 1) else noTok)
  else if hasB wordsL (runB s.data.toList) = true then (⟨8, runB s.data.toList, 0⟩, m) else if m <= 20 then (⟨1, runB s.data.toList, 0⟩, m) else noTok) := LH (by rw [nameT, HM.out])
 generalize runB s.data.toList = R at *
 go_enter Tryz.func40, Tryz.ntmps40
 go_wp2_with fail
 generalize hW : World.alloc w _ = W1
 have x1 : Ext w W1 := by rw [<- hW]; exact (XR w).alloc _
 have R0 : W1.cell? ⟨w.heap.size, 0, none⟩ = some (.int .i64 0) := by rw [<- hW]; simp
 have R1 : W1.cell? ⟨w.heap.size, 1, none⟩ = some (.string ⟨#[]⟩) := by rw [<- hW]; simp
 have R2 : W1.cell? ⟨w.heap.size, 2, none⟩ = some (.int .i64 0) := by rw [<- hW]; simp
 have F0 : ∀ o, W1.frozen? ⟨w.heap.size, o, none⟩ = false := fun o => by rw [<- hW]; simp
 clear hW
 refine (isLetter_any _ _ hb0 hb1).mono ?_
 rw [HL.out]
 rintro e w' ⟨rfl, rfl⟩
 go_wp2_with fail
 refine (runOf_any s _ (by omega)).mono ?_
 rw [HE.out]
 rintro e w' ⟨rfl, rfl⟩
 have q1 : (0 : Int) <= m := by omega
 have q2 : (m : Int) <= s.size := by omega
 go_wp2_with fail
 refine (colon_suf s m _ hs).mono ?_
 cases hc : colL (s.data.toList.drop m)
 rotate_left
 · have HC := LH hc; clear hc
   rintro e w' ⟨rfl, rfl⟩
   by_cases h20 : m <= 20
   · have t1 : ¬ (20 : Int) < m := by omega
     have hN : Hid (tokL s.data.toList = (⟨2, R ++ ⟨#[58]⟩, 0⟩, m + 1)) := LH (by rw [HB.out, HNA.out, if_pos HC.out, if_pos h20])
     go_wp2_with fail
     refine bodyPost_ret (v := .tuple #[.agg #[.int .i64 (2), .string (R ++ ⟨#[58]⟩), .int .i64 (0)], .int .i64 (((m : Int) + 1))]) (by simp [results, Tryz.results40, go_sem, R0, R1, R2, F0]) rfl ⟨⟨2, R ++ ⟨#[58]⟩, 0⟩, ?_, ?_, ?_⟩
     · rw [hN.out]; rfl
     · exact fun _ => congrArg Prod.fst (hN.out).symm
     · (repeat refine Ext.setCell ?_ (by omega) _)
       exact x1
   · have t1 : (20 : Int) < m := by omega
     have hN : Hid (tokL s.data.toList = noTok) := LH (by rw [HB.out, HNA.out, if_pos HC.out, if_neg h20])
     go_wp2_with fail
     refine bodyPost_ret (v := .tuple #[.agg #[.int .i64 (0), .string (⟨#[]⟩), .int .i64 (0)], .int .i64 (0)]) (by simp [results, Tryz.results40, go_sem, R0, R1, R2, F0]) rfl ⟨⟨0, ⟨#[]⟩, 0⟩, ?_, ?_, ?_⟩
     · rw [hN.out]; rfl
     · exact fun _ => congrArg Prod.fst (hN.out).symm
     · (repeat refine Ext.setCell ?_ (by omega) _)
       exact x1
 have HC : Hid (¬ colL (s.data.toList.drop m) = true) := LH (by rw [hc]; exact Bool.false_ne_true)
 clear hc
 rintro e w' ⟨rfl, rfl⟩
 go_wp2_with fail
 refine (isWord_any R _).mono ?_
 cases hw : hasB wordsL R
 rotate_left
 · have HW := LH hw; clear hw
   rintro e w' ⟨rfl, rfl⟩
   have hN : Hid (tokL s.data.toList = (⟨8, R, 0⟩, m)) := LH (by rw [HB.out, HNA.out, if_neg HC.out, if_pos HW.out])
   go_wp2_with fail
   refine bodyPost_ret (v := .tuple #[.agg #[.int .i64 (8), .string (R), .int .i64 (0)], .int .i64 ((m : Int))]) (by simp [results, Tryz.results40, go_sem, R0, R1, R2, F0]) rfl ⟨⟨8, R, 0⟩, ?_, ?_, ?_⟩
   · rw [hN.out]; rfl
   · exact fun _ => congrArg Prod.fst (hN.out).symm
   · (repeat refine Ext.setCell ?_ (by omega) _)
     exact x1
 have HW : Hid (¬ hasB wordsL R = true) := LH (by rw [hw]; exact Bool.false_ne_true)
 clear hw
 rintro e w' ⟨rfl, rfl⟩
 by_cases h20 : m <= 20
 · have t1 : ¬ (20 : Int) < m := by omega
   have hN : Hid (tokL s.data.toList = (⟨1, R, 0⟩, m)) := LH (by rw [HB.out, HNA.out, if_neg HC.out, if_neg HW.out, if_pos h20])
   go_wp2_with fail
   refine bodyPost_ret (v := .tuple #[.agg #[.int .i64 (1), .string (R), .int .i64 (0)], .int .i64 ((m : Int))]) (by simp [results, Tryz.results40, go_sem, R0, R1, R2, F0]) rfl ⟨⟨1, R, 0⟩, ?_, ?_, ?_⟩
   · rw [hN.out]; rfl
   · exact fun _ => congrArg Prod.fst (hN.out).symm
   · (repeat refine Ext.setCell ?_ (by omega) _)
     exact x1
 · have t1 : (20 : Int) < m := by omega
   have hN : Hid (tokL s.data.toList = noTok) := LH (by rw [HB.out, HNA.out, if_neg HC.out, if_neg HW.out, if_neg h20])
   go_wp2_with fail
   refine bodyPost_ret (v := .tuple #[.agg #[.int .i64 (0), .string (⟨#[]⟩), .int .i64 (0)], .int .i64 (0)]) (by simp [results, Tryz.results40, go_sem, R0, R1, R2, F0]) rfl ⟨⟨0, ⟨#[]⟩, 0⟩, ?_, ?_, ?_⟩
   · rw [hN.out]; rfl
   · exact fun _ => congrArg Prod.fst (hN.out).symm
   · (repeat refine Ext.setCell ?_ (by omega) _)
     exact x1
theorem tokenAt_dgt (s : ByteArray) (w : World) (hs : s.size <= 1048576) (h0 : 0 < s.size) (hl : ltrB (s[0].toNat : Int) = false) (hd : dgtB (s[0].toNat : Int) = true) :
 Calls Tryz.prog 40 #[.string s] w fun e w' => ∃ x : MToken, e = .returned (.tuple #[tokVal x, .int .i64 ((tokL s.data.toList).2 : Nat)]) /\ ((tokL s.data.toList).2 ≠ 0 -> x = (tokL s.data.toList).1) /\ Ext w w' := by
 have L0 : (0 : Nat) < s.size := h0
 obtain ⟨hb0, hb1⟩ := byte_bd s[0]
 have HT : Hid (tokL s.data.toList = tokC s[0] s.data.toList) := LH (by
  have e := drop_cons (s := s) (k := 0) h0
  rw [List.drop_zero] at e
  unfold tokL; congr 1; rw [e]; rfl)
 have HL := LH hl; clear hl
 have HD := LH hd; clear hd
 have nl : Hid (¬ ltrB (s[0].toNat : Int) = true) := LH (by rw [HL.out]; exact Bool.false_ne_true)
 have HB : Hid (tokL s.data.toList = numT s.data.toList) := LH (by rw [HT.out, tokC, if_neg nl.out, if_pos HD.out])
 have HD0 : Hid (0 < digN s.data.toList) := LH (by
  have e := drop_cons (s := s) (k := 0) h0
  rw [List.drop_zero] at e
  rw [e, digN, if_pos HD.out]; omega)
 obtain ⟨L, hL⟩ : ∃ L, L = s.data.toList := ⟨_, rfl⟩
 have hLl : L.length = s.size := by rw [hL]; simp
 have HLL := LH hLl; clear hLl
 rw [<- hL] at HB HD0 ⊢
 have HL1 := LH hL; clear hL
 go_enter Tryz.func40, Tryz.ntmps40
 go_wp2_with fail
 generalize hW : World.alloc w _ = W1
 have x1 : Ext w W1 := by rw [<- hW]; exact (XR w).alloc _
 have R0 : W1.cell? ⟨w.heap.size, 0, none⟩ = some (.int .i64 0) := by rw [<- hW]; simp
 have R1 : W1.cell? ⟨w.heap.size, 1, none⟩ = some (.string ⟨#[]⟩) := by rw [<- hW]; simp
 have R2 : W1.cell? ⟨w.heap.size, 2, none⟩ = some (.int .i64 0) := by rw [<- hW]; simp
 have F0 : ∀ o, W1.frozen? ⟨w.heap.size, o, none⟩ = false := fun o => by rw [<- hW]; simp
 clear hW
 refine (isLetter_any _ _ hb0 hb1).mono ?_
 rw [HL.out]
 rintro e w' ⟨rfl, rfl⟩
 go_wp2_with fail
 refine (isDigit_any _ _ hb0 hb1).mono ?_
 rw [HD.out]
 rintro e w' ⟨rfl, rfl⟩
 go_wp2_with fail
 go_loop [6, 7] (fun nv ev => ∃ j : Nat, j <= s.size /\ j <= 10 /\ ev = .int .i64 ((j : Nat) : Int) /\ nv = .int .i64 (valF 0 (L.take j) : Nat) /\ Hid (∀ c, c ∈ L.take j -> dgtB (c.toNat : Int) = true)) (fun _ ev => s.size - (intOf ev).toNat)
 case atStart => exact ⟨0, by omega, by omega, rfl, by simp [valF_nil], LH (by simp)⟩
 case round =>
  clear hb0 hb1
  obtain ⟨j, hj, hj10, rfl, rfl, hR⟩ := hrel
  have hdg : digL (L.take j) := fun c hc => by have := dgt_iff.1 (hR.out c hc); omega
  have hvb := val_bd hdg (by rw [List.length_take]; omega)
  have HDG := LH hdg; clear hdg
  have hA := LH (digN_all (l := L) (j := j) (by rw [HLL.out]; omega) hR.out)
  by_cases hlt : j < s.size
  rotate_left
  · have hnil : L.drop j = [] := List.drop_eq_nil_of_le (by rw [HLL.out]; omega)
    have hN : Hid (digN L = j) := LH (by rw [hA.out, hnil]; rfl)
    by_cases h9 : j <= 9
    · have t9 : ¬ (9 : Int) < j := by omega
      have hT : Hid (tokL L = (⟨3, ⟨#[]⟩, (valF 0 (L.take j) : Nat)⟩, j)) := LH (by rw [HB.out, numT, if_neg (by rw [hN.out]; omega), if_neg (by rw [hN.out, hnil]; exact Bool.false_ne_true), hN.out])
      clear hnil
      go_wp2_with fail
      refine bodyPost_ret (v := .tuple #[.agg #[.int .i64 (3), .string (⟨#[]⟩), .int .i64 (((valF 0 (L.take j) : Nat) : Int))], .int .i64 ((j : Int))]) (by simp [results, Tryz.results40, go_sem, R0, R1, R2, F0]) rfl ⟨⟨3, ⟨#[]⟩, ((valF 0 (L.take j) : Nat) : Int)⟩, ?_, ?_, ?_⟩
      · rw [hT.out]; rfl
      · exact fun _ => congrArg Prod.fst (hT.out).symm
      · (repeat refine Ext.setCell ?_ (by omega) _)
        exact x1
    · have t9 : (9 : Int) < j := by omega
      have hT : Hid (tokL L = noTok) := LH (by rw [HB.out, numT, if_pos (by rw [hN.out]; omega)])
      clear hnil
      go_wp2_with fail
      refine bodyPost_ret (v := .tuple #[.agg #[.int .i64 (0), .string (⟨#[]⟩), .int .i64 (0)], .int .i64 (0)]) (by simp [results, Tryz.results40, go_sem, R0, R1, R2, F0]) rfl ⟨⟨0, ⟨#[]⟩, 0⟩, ?_, ?_, ?_⟩
      · rw [hT.out]; rfl
      · exact fun _ => congrArg Prod.fst (hT.out).symm
      · (repeat refine Ext.setCell ?_ (by omega) _)
        exact x1
  obtain ⟨hb0, hb1⟩ := byte_bd s[j]
  have hdrop : L.drop j = s[j] :: s.data.toList.drop (j + 1) := by rw [HL1.out, drop_cons hlt]
  have HDR := LH hdrop; clear hdrop
  have htk : L.take (j + 1) = L.take j ++ [s[j]] := by
   have h1 : L[j]? = some s[j] := by
    have := congrArg List.head? HDR.out
    rw [List.head?_drop] at this
    simpa using this
   rw [List.take_add_one, h1]; rfl
  have HTK := LH htk; clear htk
  cases hq : dgtB (s[j].toNat : Int)
  · have hN : Hid (digN L = j) := LH (by rw [hA.out, HDR.out, digN, if_neg (by rw [hq]; exact Bool.false_ne_true), Nat.add_zero])
    have HQ := LH hq; clear hq
    have hH : Hid (headLtr (L.drop (digN L)) = ltrB (s[j].toNat : Int)) := LH (by rw [hN.out, HDR.out]; rfl)
    by_cases h9 : j <= 9
    rotate_left
    · have t9 : (9 : Int) < j := by omega
      have hT : Hid (tokL L = noTok) := LH (by rw [HB.out, numT, if_pos (by rw [hN.out]; omega)])
      go_wp2_with fail
      refine (isDigit_any _ _ hb0 hb1).mono ?_
      rw [HQ.out]
      rintro e w' ⟨rfl, rfl⟩
      go_wp2_with fail
      refine bodyPost_ret (v := .tuple #[.agg #[.int .i64 (0), .string (⟨#[]⟩), .int .i64 (0)], .int .i64 (0)]) (by simp [results, Tryz.results40, go_sem, R0, R1, R2, F0]) rfl ⟨⟨0, ⟨#[]⟩, 0⟩, ?_, ?_, ?_⟩
      · rw [hT.out]; rfl
      · exact fun _ => congrArg Prod.fst (hT.out).symm
      · (repeat refine Ext.setCell ?_ (by omega) _)
        exact x1
    have t9 : ¬ (9 : Int) < j := by omega
    cases hl : ltrB (s[j].toNat : Int)
    · have hT : Hid (tokL L = (⟨3, ⟨#[]⟩, (valF 0 (L.take j) : Nat)⟩, j)) := LH (by rw [HB.out, numT, if_neg (by rw [hN.out]; omega), if_neg (by rw [hH.out, hl]; exact Bool.false_ne_true), hN.out])
      have HLt := LH hl; clear hl
      go_wp2_with fail
      refine (isDigit_any _ _ hb0 hb1).mono ?_
      rw [HQ.out]
      rintro e w' ⟨rfl, rfl⟩
      go_wp2_with fail
      refine (isLetter_any _ _ hb0 hb1).mono ?_
      rw [HLt.out]
      rintro e w' ⟨rfl, rfl⟩
      go_wp2_with fail
      refine bodyPost_ret (v := .tuple #[.agg #[.int .i64 (3), .string (⟨#[]⟩), .int .i64 (((valF 0 (L.take j) : Nat) : Int))], .int .i64 ((j : Int))]) (by simp [results, Tryz.results40, go_sem, R0, R1, R2, F0]) rfl ⟨⟨3, ⟨#[]⟩, ((valF 0 (L.take j) : Nat) : Int)⟩, ?_, ?_, ?_⟩
      · rw [hT.out]; rfl
      · exact fun _ => congrArg Prod.fst (hT.out).symm
      · (repeat refine Ext.setCell ?_ (by omega) _)
        exact x1
    · have hT : Hid (tokL L = noTok) := LH (by rw [HB.out, numT, if_neg (by rw [hN.out]; omega), if_pos (by rw [hH.out, hl])])
      have HLt := LH hl; clear hl
      go_wp2_with fail
      refine (isDigit_any _ _ hb0 hb1).mono ?_
      rw [HQ.out]
      rintro e w' ⟨rfl, rfl⟩
      go_wp2_with fail
      refine (isLetter_any _ _ hb0 hb1).mono ?_
      rw [HLt.out]
      rintro e w' ⟨rfl, rfl⟩
      go_wp2_with fail
      refine bodyPost_ret (v := .tuple #[.agg #[.int .i64 (0), .string (⟨#[]⟩), .int .i64 (0)], .int .i64 (0)]) (by simp [results, Tryz.results40, go_sem, R0, R1, R2, F0]) rfl ⟨⟨0, ⟨#[]⟩, 0⟩, ?_, ?_, ?_⟩
      · rw [hT.out]; rfl
      · exact fun _ => congrArg Prod.fst (hT.out).symm
      · (repeat refine Ext.setCell ?_ (by omega) _)
        exact x1
  obtain ⟨d0, d1⟩ := dgt_iff.1 hq
  have hN : Hid (j + 1 <= digN L) := LH (by rw [hA.out, HDR.out, digN, if_pos hq]; omega)
  have HV : Hid (valF 0 (L.take (j + 1)) = valF 0 (L.take j) * 10 + (s[j].toNat - 48)) := LH (by rw [HTK.out, valF_append, valF_cons, valF_nil])
  have HR2 : Hid (∀ c, c ∈ L.take (j + 1) -> dgtB (c.toNat : Int) = true) := LH (by
   rw [HTK.out]; intro c hc
   rcases List.mem_append.1 hc with hc | hc
   · exact hR.out c hc
   · have hc := List.mem_singleton.1 hc; rw [hc]; exact hq)
  have HQ := LH hq; clear hq
  generalize valF 0 (L.take j) = V0 at *
  by_cases h10 : j < 10
  · have t9 : (j : Int) < 10 := by omega
    go_wp2_with fail
    refine (isDigit_any _ _ hb0 hb1).mono ?_
    rw [HQ.out]
    rintro e w' ⟨rfl, rfl⟩
    go_wp2_with fail
    go_round
    case rel => exact ⟨j + 1, by omega, by omega, by go_num, by rw [HV.out]; go_num, HR2⟩
    case measure => simp [intOf]; omega
  · have t9 : ¬ (j : Int) < 10 := by omega
    have t8 : (9 : Int) < j := by omega
    have hT : Hid (tokL L = noTok) := LH (by rw [HB.out, numT, if_pos (by have := hN.out; omega)])
    go_wp2_with fail
    refine (isDigit_any _ _ hb0 hb1).mono ?_
    rw [HQ.out]
    rintro e w' ⟨rfl, rfl⟩
    go_wp2_with fail
    refine bodyPost_ret (v := .tuple #[.agg #[.int .i64 (0), .string (⟨#[]⟩), .int .i64 (0)], .int .i64 (0)]) (by simp [results, Tryz.results40, go_sem, R0, R1, R2, F0]) rfl ⟨⟨0, ⟨#[]⟩, 0⟩, ?_, ?_, ?_⟩
    · rw [hT.out]; rfl
    · exact fun _ => congrArg Prod.fst (hT.out).symm
    · (repeat refine Ext.setCell ?_ (by omega) _)
      exact x1
theorem tokenAt_quo (s : ByteArray) (w : World) (hs : s.size <= 1048576) (h0 : 0 < s.size) (hl : ltrB (s[0].toNat : Int) = false) (hd : dgtB (s[0].toNat : Int) = false) (hq : s[0] = 39) :
 Calls Tryz.prog 40 #[.string s] w fun e w' => ∃ x : MToken, e = .returned (.tuple #[tokVal x, .int .i64 ((tokL s.data.toList).2 : Nat)]) /\ ((tokL s.data.toList).2 ≠ 0 -> x = (tokL s.data.toList).1) /\ Ext w w' := by
 have L0 : (0 : Nat) < s.size := h0
 obtain ⟨hb0, hb1⟩ := byte_bd s[0]
 have HT : Hid (tokL s.data.toList = tokC s[0] s.data.toList) := LH (by
  have e := drop_cons (s := s) (k := 0) h0
  rw [List.drop_zero] at e
  unfold tokL; congr 1; rw [e]; rfl)
 have HL := LH hl; clear hl
 have HD := LH hd; clear hd
 have nl : Hid (¬ ltrB (s[0].toNat : Int) = true) := LH (by rw [HL.out]; exact Bool.false_ne_true)
 have nd : Hid (¬ dgtB (s[0].toNat : Int) = true) := LH (by rw [HD.out]; exact Bool.false_ne_true)
 have t1 := u8_eq (n := 39) 39 rfl hq
 have HQ := LH hq; clear hq
 have HB : Hid (tokL s.data.toList = quoT s.data.toList) := LH (by rw [HT.out, tokC, if_neg nl.out, if_neg nd.out, if_pos HQ.out])
 obtain ⟨⟨T, n⟩, hX⟩ : ∃ X, quoL [] 1 (s.data.toList.drop 1) = X := ⟨_, rfl⟩
 have HX : Hid (quoT s.data.toList = if n = 0 then noTok else if textB 40 (mkB T) = true then (⟨4, mkB T, 0⟩, n) else noTok) := LH (by unfold quoT; rw [hX])
 have hTs : Hid (T.length <= s.size) := LH (by
  have := quo_len _ (s.data.toList.drop 1) [] 1 (Nat.le_refl _)
  rw [hX, List.length_drop] at this
  simp at this
  have e : s.data.size = s.size := rfl
  omega)
 have C : Hid (∀ W, Calls Tryz.prog 90 #[.string s] W fun e w' => e = .returned (.tuple #[.string (mkB T), .int .i64 (n : Nat)]) /\ Ext W w') := LH fun W => by
  have := quoted_any s W hs
  rw [hX] at this
  exact this
 clear hX
 go_enter Tryz.func40, Tryz.ntmps40
 go_wp2_with fail
 generalize hW : World.alloc w _ = W1
 have x1 : Ext w W1 := by rw [<- hW]; exact (XR w).alloc _
 have R0 : W1.cell? ⟨w.heap.size, 0, none⟩ = some (.int .i64 0) := by rw [<- hW]; simp
 have R1 : W1.cell? ⟨w.heap.size, 1, none⟩ = some (.string ⟨#[]⟩) := by rw [<- hW]; simp
 have R2 : W1.cell? ⟨w.heap.size, 2, none⟩ = some (.int .i64 0) := by rw [<- hW]; simp
 have F0 : ∀ o, W1.frozen? ⟨w.heap.size, o, none⟩ = false := fun o => by rw [<- hW]; simp
 clear hW
 refine (isLetter_any _ _ hb0 hb1).mono ?_
 rw [HL.out]
 rintro e w' ⟨rfl, rfl⟩
 go_wp2_with fail
 refine (isDigit_any _ _ hb0 hb1).mono ?_
 rw [HD.out]
 rintro e w' ⟨rfl, rfl⟩
 go_wp2_with fail
 refine (C.out _).mono ?_
 rintro e w5 ⟨rfl, hx5⟩
 have zz := lt_of_cell R0
 replace R0 := Ext.cell hx5 R0
 replace R1 := Ext.cell hx5 R1
 replace R2 := Ext.cell hx5 R2
 replace F0 := fun o => ((bcell hx5).2 w.heap.size o zz).trans (F0 o)
 clear zz
 have hTz : (mkB T).size <= 1048576 := by rw [mkB_size]; have := hTs.out; omega
 generalize mkB T = U at *
 go_wp2_with fail
 refine (plainText_any U _ (by omega)).mono ?_
 cases hp : textB 40 U
 · have HP : Hid (¬ textB 40 U = true) := LH (by rw [hp]; exact Bool.false_ne_true)
   clear hp
   have hN : Hid (tokL s.data.toList = noTok) := LH (by
    rw [HB.out, HX.out]
    by_cases h : n = 0
    · rw [if_pos h]
    · rw [if_neg h, if_neg HP.out])
   rintro e w' ⟨rfl, rfl⟩
   go_wp2_with fail
   refine bodyPost_ret (v := .tuple #[.agg #[.int .i64 (0), .string (⟨#[]⟩), .int .i64 (0)], .int .i64 (0)]) (by simp [results, Tryz.results40, go_sem, R0, R1, R2, F0]) rfl ⟨⟨0, ⟨#[]⟩, 0⟩, ?_, ?_, ?_⟩
   · rw [hN.out]; rfl
   · exact fun _ => congrArg Prod.fst (hN.out).symm
   · (repeat refine Ext.setCell ?_ (by omega) _)
     exact x1.trans hx5
 · have HP := LH hp; clear hp
   have hN : Hid ((tokL s.data.toList).2 = n) := LH (by
    rw [HB.out, HX.out]
    by_cases h : n = 0
    · rw [if_pos h, h]; rfl
    · rw [if_neg h, if_pos HP.out])
   have hN1 : Hid ((tokL s.data.toList).2 ≠ 0 -> (⟨4, U, 0⟩ : MToken) = (tokL s.data.toList).1) := LH (by
    rw [hN.out, HB.out, HX.out]
    intro h
    rw [if_neg h, if_pos HP.out])
   rintro e w' ⟨rfl, rfl⟩
   go_wp2_with fail
   refine bodyPost_ret (v := .tuple #[.agg #[.int .i64 4, .string U, .int .i64 0], .int .i64 n]) (by simp [results, Tryz.results40, go_sem, R0, R1, R2, F0]) rfl ⟨⟨4, U, 0⟩, ?_, hN1.out, ?_⟩
   · rw [hN.out]; rfl
   · (repeat refine Ext.setCell ?_ (by omega) _)
     exact x1.trans hx5
theorem tokenAt_sym (s : ByteArray) (w : World) (hs : s.size <= 1048576) (h0 : 0 < s.size) (hl : ltrB (s[0].toNat : Int) = false) (hd : dgtB (s[0].toNat : Int) = false) (hq : ¬ s[0] = 39) (hp : s[0] = 35) (hM : MaxOk w) :
 Calls Tryz.prog 40 #[.string s] w fun e w' => ∃ x : MToken, e = .returned (.tuple #[tokVal x, .int .i64 ((tokL s.data.toList).2 : Nat)]) /\ ((tokL s.data.toList).2 ≠ 0 -> x = (tokL s.data.toList).1) /\ Ext w w' := by
 have L0 : (0 : Nat) < s.size := h0
 obtain ⟨hb0, hb1⟩ := byte_bd s[0]
 have HT : Hid (tokL s.data.toList = tokC s[0] s.data.toList) := LH (by
  have e := drop_cons (s := s) (k := 0) h0
  rw [List.drop_zero] at e
  unfold tokL; congr 1; rw [e]; rfl)
 have HL := LH hl; clear hl
 have HD := LH hd; clear hd
 have nl : Hid (¬ ltrB (s[0].toNat : Int) = true) := LH (by rw [HL.out]; exact Bool.false_ne_true)
 have nd : Hid (¬ dgtB (s[0].toNat : Int) = true) := LH (by rw [HD.out]; exact Bool.false_ne_true)
 have t1 := u8_ne (n := 39) 39 rfl hq
 have t2 := u8_eq (n := 35) 35 rfl hp
 have HB : Hid (tokL s.data.toList = symT (s.data.toList.drop 1)) := LH (by rw [HT.out, tokC, if_neg nl.out, if_neg nd.out, if_neg hq, if_pos hp])
 clear hq hp
 have HX : Hid (symT (s.data.toList.drop 1) = if selB (symB (s.data.toList.drop 1)) = true then (⟨5, symB (s.data.toList.drop 1), 0⟩, (symB (s.data.toList.drop 1)).size + 1) else noTok) := LH (by
  unfold symT
  rw [sel_sym]
  cases hq : selB (symB (s.data.toList.drop 1))
  · rw [if_neg Bool.false_ne_true, if_neg Bool.false_ne_true]; rfl
  · rw [if_pos rfl, if_pos rfl, if_neg]
    intro h
    have := sel_ne hq
    exact this (size_zero h))
 have hz : (symB (s.data.toList.drop 1)).size <= 1048576 := by
  have := symB_le (s.data.toList.drop 1)
  rw [List.length_drop, show s.data.toList.length = s.size from by simp] at this
  omega
 have C : Hid (∀ W, Calls Tryz.prog 92 #[.string (s.extract 1 s.size)] W fun e w' => e = .returned (.string (symB (s.data.toList.drop 1))) /\ Ext W w') := LH fun W => by
  have := symbolAt_any (suf s 1) W (by unfold suf; simp; omega)
  rw [suf_data] at this
  exact this
 generalize symB (s.data.toList.drop 1) = U at *
 have hM1 := hM
 go_enter Tryz.func40, Tryz.ntmps40
 go_wp2_with fail
 generalize hW : World.alloc w _ = W1
 have x1 : Ext w W1 := by rw [<- hW]; exact (XR w).alloc _
 have R0 : W1.cell? ⟨w.heap.size, 0, none⟩ = some (.int .i64 0) := by rw [<- hW]; simp
 have R1 : W1.cell? ⟨w.heap.size, 1, none⟩ = some (.string ⟨#[]⟩) := by rw [<- hW]; simp
 have R2 : W1.cell? ⟨w.heap.size, 2, none⟩ = some (.int .i64 0) := by rw [<- hW]; simp
 have F0 : ∀ o, W1.frozen? ⟨w.heap.size, o, none⟩ = false := fun o => by rw [<- hW]; simp
 clear hW
 refine (isLetter_any _ _ hb0 hb1).mono ?_
 rw [HL.out]
 rintro e w' ⟨rfl, rfl⟩
 go_wp2_with fail
 refine (isDigit_any _ _ hb0 hb1).mono ?_
 rw [HD.out]
 rintro e w' ⟨rfl, rfl⟩
 go_wp2_with fail
 refine (C.out _).mono ?_
 rintro e w5 ⟨rfl, hx5⟩
 have zz := lt_of_cell R0
 replace R0 := Ext.cell hx5 R0
 replace R1 := Ext.cell hx5 R1
 replace R2 := Ext.cell hx5 R2
 replace F0 := fun o => ((bcell hx5).2 w.heap.size o zz).trans (F0 o)
 clear zz
 go_wp2_with fail
 refine (impl_IsSelector_any U _ hz (hM.ext (x1.trans hx5))).mono ?_
 cases hp : selB U
 · have HP : Hid (¬ selB U = true) := LH (by rw [hp]; exact Bool.false_ne_true)
   clear hp
   have hN : Hid (tokL s.data.toList = noTok) := LH (by rw [HB.out, HX.out, if_neg HP.out])
   rintro e w6 ⟨rfl, hx6⟩
   have zz := lt_of_cell R0
   replace R0 := Ext.cell hx6 R0
   replace R1 := Ext.cell hx6 R1
   replace R2 := Ext.cell hx6 R2
   replace F0 := fun o => ((bcell hx6).2 w.heap.size o zz).trans (F0 o)
   clear zz
   go_wp2_with fail
   refine bodyPost_ret (v := .tuple #[.agg #[.int .i64 (0), .string (⟨#[]⟩), .int .i64 (0)], .int .i64 (0)]) (by simp [results, Tryz.results40, go_sem, R0, R1, R2, F0]) rfl ⟨⟨0, ⟨#[]⟩, 0⟩, ?_, ?_, ?_⟩
   · rw [hN.out]; rfl
   · exact fun _ => congrArg Prod.fst (hN.out).symm
   · (repeat refine Ext.setCell ?_ (by omega) _)
     exact x1.trans (hx5.trans hx6)
 · have HP := LH hp; clear hp
   have hN : Hid (tokL s.data.toList = (⟨5, U, 0⟩, U.size + 1)) := LH (by rw [HB.out, HX.out, if_pos HP.out])
   rintro e w6 ⟨rfl, hx6⟩
   have zz := lt_of_cell R0
   replace R0 := Ext.cell hx6 R0
   replace R1 := Ext.cell hx6 R1
   replace R2 := Ext.cell hx6 R2
   replace F0 := fun o => ((bcell hx6).2 w.heap.size o zz).trans (F0 o)
   clear zz
   go_wp2_with fail
   refine bodyPost_ret (v := .tuple #[.agg #[.int .i64 (5), .string (U), .int .i64 (0)], .int .i64 (((U.size : Int) + 1))]) (by simp [results, Tryz.results40, go_sem, R0, R1, R2, F0]) rfl ⟨⟨5, U, 0⟩, ?_, ?_, ?_⟩
   · rw [hN.out]; rfl
   · exact fun _ => congrArg Prod.fst (hN.out).symm
   · (repeat refine Ext.setCell ?_ (by omega) _)
     exact x1.trans (hx5.trans hx6)
theorem tokenAt_op (s : ByteArray) (w : World) (hs : s.size <= 1048576) (h0 : 0 < s.size) (hl : ltrB (s[0].toNat : Int) = false) (hd : dgtB (s[0].toNat : Int) = false) (hq : ¬ s[0] = 39) (hp : ¬ s[0] = 35) :
 Calls Tryz.prog 40 #[.string s] w fun e w' => ∃ x : MToken, e = .returned (.tuple #[tokVal x, .int .i64 ((tokL s.data.toList).2 : Nat)]) /\ ((tokL s.data.toList).2 ≠ 0 -> x = (tokL s.data.toList).1) /\ Ext w w' := by
 have L0 : (0 : Nat) < s.size := h0
 obtain ⟨hb0, hb1⟩ := byte_bd s[0]
 have HT : Hid (tokL s.data.toList = tokC s[0] s.data.toList) := LH (by
  have e := drop_cons (s := s) (k := 0) h0
  rw [List.drop_zero] at e
  unfold tokL; congr 1; rw [e]; rfl)
 have HL := LH hl; clear hl
 have HD := LH hd; clear hd
 have nl : Hid (¬ ltrB (s[0].toNat : Int) = true) := LH (by rw [HL.out]; exact Bool.false_ne_true)
 have nd : Hid (¬ dgtB (s[0].toNat : Int) = true) := LH (by rw [HD.out]; exact Bool.false_ne_true)
 have t1 := u8_ne (n := 39) 39 rfl hq
 have t2 := u8_ne (n := 35) 35 rfl hp
 have HB : Hid (tokL s.data.toList = opT s.data.toList) := LH (by rw [HT.out, tokC, if_neg nl.out, if_neg nd.out, if_neg hq, if_neg hp])
 clear hq hp
 have HX : Hid (opT s.data.toList = if firstP opsL s = ⟨#[]⟩ then (if firstP marksL s = ⟨#[]⟩ then noTok else (⟨7, firstP marksL s, 0⟩, (firstP marksL s).size)) else (⟨6, firstP opsL s, 0⟩, (firstP opsL s).size)) := LH (by rw [opT, mkB_data])
 go_enter Tryz.func40, Tryz.ntmps40
 go_wp2_with fail
 generalize hW : World.alloc w _ = W1
 have x1 : Ext w W1 := by rw [<- hW]; exact (XR w).alloc _
 have R0 : W1.cell? ⟨w.heap.size, 0, none⟩ = some (.int .i64 0) := by rw [<- hW]; simp
 have R1 : W1.cell? ⟨w.heap.size, 1, none⟩ = some (.string ⟨#[]⟩) := by rw [<- hW]; simp
 have R2 : W1.cell? ⟨w.heap.size, 2, none⟩ = some (.int .i64 0) := by rw [<- hW]; simp
 have F0 : ∀ o, W1.frozen? ⟨w.heap.size, o, none⟩ = false := fun o => by rw [<- hW]; simp
 clear hW
 refine (isLetter_any _ _ hb0 hb1).mono ?_
 rw [HL.out]
 rintro e w' ⟨rfl, rfl⟩
 go_wp2_with fail
 refine (isDigit_any _ _ hb0 hb1).mono ?_
 rw [HD.out]
 rintro e w' ⟨rfl, rfl⟩
 go_wp2_with fail
 refine (operators_any _).mono ?_
 rintro e w1 ⟨ao, n, cap, fp, rfl, hr, hf, hxa⟩
 go_wp2_with fail
 refine (firstOf_any opsL s _ _ hr.rep).mono ?_
 rintro e w' ⟨rfl, rfl⟩
 have zz := lt_of_cell R0
 replace R0 := Ext.cell hxa R0
 replace R1 := Ext.cell hxa R1
 replace R2 := Ext.cell hxa R2
 replace F0 := fun o => ((bcell hxa).2 w.heap.size o zz).trans (F0 o)
 clear zz
 clear hr hf
 have hoz : (firstP opsL s).size <= 1048576 := by
  rcases firstP_mem opsL s with h | h
  · rw [h]; decide
  · exact ops_small _ h
 generalize firstP opsL s = op at *
 by_cases ho : op = ⟨#[]⟩
 rotate_left
 · have t3 := txt_ne ho
   have hN : Hid (tokL s.data.toList = (⟨6, op, 0⟩, op.size)) := LH (by rw [HB.out, HX.out, if_neg ho])
   clear ho
   go_wp2_with fail
   refine bodyPost_ret (v := .tuple #[.agg #[.int .i64 (6), .string (op), .int .i64 (0)], .int .i64 ((op.size : Int))]) (by simp [results, Tryz.results40, go_sem, R0, R1, R2, F0]) rfl ⟨⟨6, op, 0⟩, ?_, ?_, ?_⟩
   · rw [hN.out]; rfl
   · exact fun _ => congrArg Prod.fst (hN.out).symm
   · (repeat refine Ext.setCell ?_ (by omega) _)
     exact x1.trans hxa
 subst ho
 have HX2 : Hid (tokL s.data.toList = if firstP marksL s = ⟨#[]⟩ then noTok else (⟨7, firstP marksL s, 0⟩, (firstP marksL s).size)) := LH (by rw [HB.out, HX.out, if_pos rfl])
 clear HX
 go_wp2_with fail
 refine (markList_any _).mono ?_
 rintro e w2 ⟨ao, n, cap, fp, rfl, hr, hf, hxb⟩
 go_wp2_with fail
 refine (firstOf_any marksL s _ _ hr.rep).mono ?_
 rintro e w' ⟨rfl, rfl⟩
 have zz := lt_of_cell R0
 replace R0 := Ext.cell hxb R0
 replace R1 := Ext.cell hxb R1
 replace R2 := Ext.cell hxb R2
 replace F0 := fun o => ((bcell hxb).2 w.heap.size o zz).trans (F0 o)
 clear zz
 clear hr hf
 have hmz : (firstP marksL s).size <= 1048576 := by
  rcases firstP_mem marksL s with h | h
  · rw [h]; decide
  · exact marks_small _ h
 generalize firstP marksL s = mk at *
 have hN2 : Hid ((tokL s.data.toList).2 = mk.size) := LH (by
  rw [HX2.out]
  by_cases h : mk = ⟨#[]⟩
  · rw [if_pos h, h]; rfl
  · rw [if_neg h])
 have hN1 : Hid ((tokL s.data.toList).2 ≠ 0 -> (⟨7, mk, 0⟩ : MToken) = (tokL s.data.toList).1) := LH (by
  rw [hN2.out, HX2.out]
  intro h
  rw [if_neg fun e => h (by rw [e]; rfl)])
 go_wp2_with fail
 refine bodyPost_ret (v := .tuple #[.agg #[.int .i64 7, .string mk, .int .i64 0], .int .i64 mk.size]) (by simp [results, Tryz.results40, go_sem, R0, R1, R2, F0]) rfl ⟨⟨7, mk, 0⟩, ?_, hN1.out, ?_⟩
 · rw [hN2.out]; rfl
 · (repeat refine Ext.setCell ?_ (by omega) _)
   exact x1.trans (hxa.trans hxb)
theorem tokenAt_any (s : ByteArray) (w : World) (hs : s.size <= 1048576) (h0 : 0 < s.size) (hM : MaxOk w) :
 Calls Tryz.prog 40 #[.string s] w fun e w' => ∃ x : MToken, e = .returned (.tuple #[tokVal x, .int .i64 ((tokL s.data.toList).2 : Nat)]) /\ ((tokL s.data.toList).2 ≠ 0 -> x = (tokL s.data.toList).1) /\ Ext w w' := by
 cases hl : ltrB (s[0].toNat : Int)
 · cases hd : dgtB (s[0].toNat : Int)
   · by_cases hq : s[0] = 39
     · exact tokenAt_quo s w hs h0 hl hd hq
     · by_cases hp : s[0] = 35
       · exact tokenAt_sym s w hs h0 hl hd hq hp hM
       · exact tokenAt_op s w hs h0 hl hd hq hp
   · exact tokenAt_dgt s w hs h0 hl hd
 · exact tokenAt_ltr s w hs h0 hl
def tcells : List MToken -> List Value
 | [] => []
 | x :: l => .int .i64 x.kind :: .string x.text :: .int .i64 x.number :: tcells l
theorem repR_toks (w : World) : ∀ l : List MToken, RepR w 3 (l.map MToken.d) (tcells l) []
 | [] => by simp [RepR, tcells]
 | x :: l => by
  simp only [List.map_cons, RepR]
  exact ⟨[.int .i64 x.kind, .string x.text, .int .i64 x.number], _, [], [], rfl, rfl, rfl, MToken.shut, repR_toks w l⟩
theorem tokInfo : (Tryz.prog.info? 64).map (fun i => (i.zero, i.size, i.bytes)) = some (some (.agg #[.int .i64 0, .string ByteArray.empty, .int .i64 0]), 3, 32) := by kernel_rfl
def AccK (B0 : Nat) (w : World) (v : Value) (l : List MToken) : Prop := Acc B0 w 64 3 v (l.map MToken.d) []
theorem AccK.ext {B0 : Nat} {w w' : World} {v : Value} {l : List MToken} (h : AccK B0 w v l) (hx : Ext w w') : AccK B0 w' v l := Acc.ext h hx
theorem AccK.rep {B0 : Nat} {w : World} {v : Value} {l : List MToken} (h : AccK B0 w v l) : ∃ ao cap gp, v = .slice ao l.length cap /\ RepF w (MTokens l) [.slice ao l.length cap] gp /\ Fresh w B0 gp := by
 obtain ⟨ao, cap, gp, h1, h2, h3⟩ := Acc.rep h
 simp only [List.length_map] at h1 h2
 exact ⟨ao, cap, gp, h1, h2, h3⟩
theorem AccK.below {B0 : Nat} {w0 w w' : World} {v : Value} {l : List MToken} (h : AccK B0 w v l) (hb : Below B0 w0 w) (hg : w.grownBy w' v.ownBlock) (hB : B0 <= w.heap.size) : Below B0 w0 w' := Acc.below h hb hg hB
theorem RepF.tok_row {w : World} {b : Nat} {x : MToken} (hb : b < w.heap.size) (h0 : w.cell? ⟨b, 0, none⟩ = some (.int .i64 x.kind)) (h1 : w.cell? ⟨b, 1, none⟩ = some (.string x.text)) (h2 : w.cell? ⟨b, 2, none⟩ = some (.int .i64 x.number)) :
 RepF w (MTokens [x]) [.slice (some ⟨b, 0, none⟩) 1 1] [b] := by
 refine RepF.sl_iff.2 ⟨_, 1, by simp, by simp, by unfold maxLen; omega, by simp, Or.inr ⟨b, 0, tcells [x], [], by simp, rfl, rfl, hb, fun j c hj => ?_, repR_toks w [x]⟩⟩
 rw [Nat.zero_add]
 match j with
 | 0 => simp [tcells] at hj; rw [h0, hj]
 | 1 => simp [tcells] at hj; rw [h1, hj]
 | 2 => simp [tcells] at hj; rw [h2, hj]
 | j + 3 => simp [tcells] at hj
theorem wpList_append_tok {w : World} {ops : Array Oper} {rest : List Oper} {o : Oper} {a : Act} {Q : Exit -> Act -> World -> Prop} (hgd : o.guard = none) (s y : Operand)
 (ho : o.op = .call { callee := .builtin .append, args := #[s, y], argTypes := #[34, 34] })
 (B0 : Nat) (v : Value) (l : List MToken) (hs : a.eval s = v) (hacc : AccK B0 w v l)
 (x : MToken) (b : Nat) (hx : a.eval y = .slice (some ⟨b, 0, none⟩) 1 1) (hr : RepF w (MTokens [x]) [.slice (some ⟨b, 0, none⟩) 1 1] [b])
 (hlen : l.length <= 1073741824) (hbase : B0 <= w.heap.size)
 (h : ∀ ao' cap' w', AccK B0 w' (.slice ao' (l.length + 1) cap') (l ++ [x]) -> w.grownBy w' v.ownBlock -> wpList Tryz.prog ops Q rest (a.put o.dst (.slice ao' (l.length + 1) cap')) w') : wpList Tryz.prog ops Q (o :: rest) a w := by
 obtain ⟨i0, hi, hz0, hz1, hz2⟩ := info_parts tokInfo
 refine wpList_append_acc hgd s y 34 ho B0 64 i0 _ 3 32 Tryz.underlying34 hi hz0 hz1 hz2 rfl (by decide) v (l.map MToken.d) [] hs hacc ([x].map MToken.d) _ 1 1 [b] hx hr (Fresh.nil _ _) (by simp) (by simp [maxLen]; omega) (by simp; omega) hbase ?_
 intro ao' cap' w' h2 h3
 simp only [List.length_map, List.append_nil, List.tail_cons, <- List.map_append] at h2 ⊢
 exact h ao' cap' w' h2 h3
def GivesT (w : World) (O : Option (List MToken)) (e : Ending) (w' : World) : Prop :=
 ∃ ao n cap fp, e = .returned (.tuple #[.slice ao n cap, .bool O.isSome]) /\ RepF w' (MTokens (O.getD [])) [.slice ao n cap] fp /\ Fresh w' w.heap.size fp /\ Ext w w'
theorem gives_none {w w' : World} {O : Option (List MToken)} (h : O = none) (hx : Ext w w') : GivesT w O (.returned (.tuple #[.slice none 0 0, .bool false])) w' := by
 subst h
 exact ⟨none, 0, 0, [], rfl, RepF.sl_iff.2 ⟨_, _, rfl, by simp, by simp, by simp, Or.inl ⟨rfl, rfl⟩⟩, Fresh.nil _ _, hx⟩
theorem gives_some {w w' : World} {O : Option (List MToken)} {l : List MToken} {ao : Option Addr} {cap : Nat} {gp : List Nat} (h : O = some l) (h1 : RepF w' (MTokens l) [.slice ao l.length cap] gp) (h2 : Fresh w' w.heap.size gp) (hx : Ext w w') :
 GivesT w O (.returned (.tuple #[.slice ao l.length cap, .bool true])) w' := by
 subst h
 exact ⟨ao, _, cap, gp, rfl, h1, h2, hx⟩
theorem suf_size (s : ByteArray) (k : Nat) : (suf s k).size = s.size - k := by unfold suf; simp
theorem spec_Tokens_any (s : ByteArray) (w : World) (hs : s.size <= 1048576) :
 Calls Tryz.prog 9 #[.string s] w (GivesT w (toksL s)) := by
 have hA : AccK w.heap.size (w.alloc (.cells #[] 64)) (.slice (some ⟨w.heap.size, 0, none⟩) 0 0) [] := Acc.empty _ _ (Nat.le_refl _)
 have HA := LH hA; clear hA
 go_enter Tryz.func9, Tryz.ntmps9
 go_wp2_with fail
 go_loopw [4, 5] (fun ov av wr => ∃ (k : Nat) (L : List MToken), k <= s.size /\ av = .int .i64 k /\ L.length <= 800 /\ AccK w.heap.size wr ov L /\ Ext w wr /\ Hid (scanL s.data.toList [] = scanL (s.data.toList.drop k) L) /\ Hid (4000 < s.size -> k = 0)) (fun _ av _ => s.size - (intOf av).toNat)
 case atStart => exact ⟨0, [], Nat.zero_le _, rfl, by simp, HA.out, (XR w).alloc _, LH rfl, LH fun _ => rfl⟩
 case round =>
  obtain ⟨k, L, hk, rfl, hL8, hacc, hx, hR, h4⟩ := hrel
  obtain ⟨ao, cap, gp, rfl, hr4, hf4⟩ := hacc.rep
  by_cases hlt : k < s.size
  rotate_left
  · have hs4 : Hid (toksL s = some L) := LH (by
     have h40 : ¬ 4000 < s.size := fun h => by have := h4.out h; omega
     rw [toksL, if_neg h40, hR.out, drop_nil hlt, scan_nil])
    go_wp2_with fail
    go_ret2
    exact gives_some hs4.out hr4 hf4 hx
  by_cases h40 : s.size <= 4000
  rotate_left
  · have q4 : (4000 : Int) < s.size := by omega
    have hN : Hid (toksL s = none) := LH (by rw [toksL, if_pos (by omega)])
    go_wp2_with fail
    go_ret2
    exact gives_none hN.out hx
  have q4 : ¬ (4000 : Int) < s.size := by omega
  have HS : Hid (toksL s = scanL (s.data.toList.drop k) L) := LH (by rw [toksL, if_neg (by omega), hR.out])
  clear h4 hr4 hf4
  obtain ⟨hb0, hb1⟩ := byte_bd s[k]
  have HD : Hid (s.data.toList.drop k = s[k] :: s.data.toList.drop (k + 1)) := LH (drop_cons hlt)
  by_cases h1 : s[k] = 32
  · have HB : Hid (s[k] = 32 ∨ s[k] = 10 ∨ s[k] = 9) := LH (Or.inl h1)
    have t1 := u8_eq (n := 32) 32 rfl h1
    clear h1
    go_wp2_with fail
    go_roundw
    case rel => exact ⟨k + 1, L, by omega, by go_num, hL8, hacc, hx, LH (by rw [hR.out, HD.out, scan_blank (HB.out)]), LH fun h => absurd h (by omega)⟩
    case measure => simp [intOf]; omega
  have t1 := u8_ne (n := 32) 32 rfl h1
  by_cases h2 : s[k] = 10
  · have HB : Hid (s[k] = 32 ∨ s[k] = 10 ∨ s[k] = 9) := LH (Or.inr (Or.inl h2))
    have t2 := u8_eq (n := 10) 10 rfl h2
    clear h1 h2
    go_wp2_with fail
    go_roundw
    case rel => exact ⟨k + 1, L, by omega, by go_num, hL8, hacc, hx, LH (by rw [hR.out, HD.out, scan_blank (HB.out)]), LH fun h => absurd h (by omega)⟩
    case measure => simp [intOf]; omega
  have t2 := u8_ne (n := 10) 10 rfl h2
  by_cases h3 : s[k] = 9
  · have HB : Hid (s[k] = 32 ∨ s[k] = 10 ∨ s[k] = 9) := LH (Or.inr (Or.inr h3))
    have t3 := u8_eq (n := 9) 9 rfl h3
    clear h1 h2 h3
    go_wp2_with fail
    go_roundw
    case rel => exact ⟨k + 1, L, by omega, by go_num, hL8, hacc, hx, LH (by rw [hR.out, HD.out, scan_blank (HB.out)]), LH fun h => absurd h (by omega)⟩
    case measure => simp [intOf]; omega
  have t3 := u8_ne (n := 9) 9 rfl h3
  have HB : Hid (¬ (s[k] = 32 ∨ s[k] = 10 ∨ s[k] = 9)) := LH (by rintro (h | h | h) <;> contradiction)
  clear h1 h2 h3
  by_cases hq : s[k] = 34
  · have t5 := u8_eq (n := 34) 34 rfl hq
    have HQ := LH hq; clear hq
    go_wp2_with fail
    go_loop [5] (fun av => ∃ j : Nat, k + 1 + j <= s.size /\ av = .int .i64 ((k + 1 + j : Nat) : Int) /\ Hid (quN (s.data.toList.drop (k + 1)) = j + quN (s.data.toList.drop (k + 1 + j)))) (fun av => s.size - (intOf av).toNat)
    case atStart => exact ⟨0, by omega, by go_num, LH (by simp)⟩
    case round =>
     obtain ⟨j, hj, rfl, hJ⟩ := hrel
     by_cases hl2 : k + 1 + j < s.size
     · obtain ⟨hb2, hb3⟩ := byte_bd s[k + 1 + j]
       have HD2 : Hid (s.data.toList.drop (k + 1 + j) = s[k + 1 + j] :: s.data.toList.drop (k + 1 + j + 1)) := LH (drop_cons hl2)
       by_cases hq2 : s[k + 1 + j] = 34
       · have t6 := u8_eqn (n := 34) 34 rfl hq2
         have HN : Hid (quN (s.data.toList.drop (k + 1)) = j) := LH (by rw [hJ.out, HD2.out, quN, if_pos hq2, Nat.add_zero])
         clear hq2
         have t7 : (((k + 1 + j : Nat) : Int) == (s.size : Int)) = false := int_ne (by omega)
         go_wp2_with fail
         go_roundw
         case rel => exact ⟨k + 1 + j + 1, L, by omega, by go_num, hL8, hacc, hx, LH (by
          have h : quN (s.data.toList.drop (k + 1)) < (s.data.toList.drop (k + 1)).length := by rw [HN.out, List.length_drop, show s.data.toList.length = s.size from by simp]; omega
          rw [hR.out, HD.out, HQ.out, scan_note h, HN.out, List.drop_drop, show k + 1 + (j + 1) = k + 1 + j + 1 from by omega]), LH fun h => absurd h (by omega)⟩
         case measure => simp [intOf]; omega
       · have t6 := u8_nen (n := 34) 34 rfl hq2
         have HN : Hid (quN (s.data.toList.drop (k + 1)) = (j + 1) + quN (s.data.toList.drop (k + 1 + (j + 1)))) := LH (by rw [hJ.out, HD2.out, quN, if_neg hq2, show k + 1 + (j + 1) = k + 1 + j + 1 from by omega]; omega)
         clear hq2
         go_wp2_with fail
         go_round
         case rel => exact ⟨j + 1, by omega, by go_num, HN⟩
         case measure => simp [intOf]; omega
     · obtain rfl : j = s.size - (k + 1) := by omega
       have hN : Hid (toksL s = none) := LH (by
        have h : ¬ quN (s.data.toList.drop (k + 1)) < (s.data.toList.drop (k + 1)).length := by rw [hJ.out, List.length_drop, show s.data.toList.length = s.size from by simp]; omega
        rw [HS.out, HD.out, HQ.out, scan_open h])
       have t7 : (((k + 1 + (s.size - (k + 1)) : Nat) : Int) == (s.size : Int)) = true := int_eq (by omega)
       go_wp2_with fail
       go_ret2
       exact gives_none hN.out hx
  have t5 := u8_ne (n := 34) 34 rfl hq
  have HQ := LH hq; clear hq
  have hle := tok_le (s.data.toList.drop k)
  have hkk := tok_k s[k] (s.data.toList.drop (k + 1))
  rw [<- HD.out] at hkk
  have hsc : Hid (∀ n, (tokL (s.data.toList.drop k)).2 = n -> (n = 0 ∨ 800 <= L.length -> toksL s = none) /\ (¬ (n = 0 ∨ 800 <= L.length) -> scanL s.data.toList [] = scanL (s.data.toList.drop (k + n)) (L ++ [(tokL (s.data.toList.drop k)).1]))) := LH (by
   rintro n rfl
   have e := HD.out
   refine ⟨fun h => ?_, fun h => ?_⟩
   · rw [HS.out]
     rw [e] at h ⊢
     exact scan_bad HB.out HQ.out h
   · rw [hR.out, <- List.drop_drop]
     rw [e] at h ⊢
     exact scan_tok HB.out HQ.out h)
  have C := LH (fun W => l2Next_any s k W hs hlt)
  obtain ⟨⟨⟨K, T, N⟩, n⟩, hX⟩ : ∃ X, tokL (s.data.toList.drop k) = X := ⟨_, rfl⟩
  rw [hX] at hle hkk hsc C
  have C2 : Hid (∀ W, Calls Tryz.prog 30 #[.string s, .int .i64 k] W fun e w' => e = .returned (.tuple #[.agg #[.int .i64 K, .string T, .int .i64 N], .int .i64 (endV k n)]) /\ Ext W w') := C
  clear hX C
  rw [List.length_drop] at hle
  simp only at hle hkk
  have HK := LH hkk; clear hkk
  have hle : k + n <= s.size := by simp at hle; have e : s.data.size = s.size := rfl; omega
  by_cases hn0 : n = 0
  · have hK0 : K = 0 := by have := HK.out.1 hn0; simpa [noTok] using congrArg MToken.kind this
    have hN : Hid (toksL s = none) := LH ((hsc.out n rfl).1 (Or.inl hn0))
    subst hK0
    clear hn0
    go_wp2_with fail
    refine (C2.out _).mono ?_
    rintro e w1 ⟨rfl, hx1⟩
    go_wp2_with fail
    go_ret2
    exact gives_none hN.out ((hx.trans hx1).alloc _)
  have hK0 : K ≠ 0 := by simpa using HK.out.2 hn0
  have tk : (K == 0) = false := int_ne hK0
  have HEN : Hid (endV k n = ((k + n : Nat) : Int)) := LH (by rw [endV, if_neg hn0])
  by_cases h800 : 800 <= L.length
  · have hN : Hid (toksL s = none) := LH ((hsc.out n rfl).1 (Or.inr h800))
    have q8 : (800 : Int) <= L.length := by omega
    clear hn0
    go_wp2_with fail
    refine (C2.out _).mono ?_
    rintro e w1 ⟨rfl, hx1⟩
    go_wp2_with fail
    go_ret2
    exact gives_none hN.out ((hx.trans hx1).alloc _)
  have q8 : ¬ (800 : Int) <= L.length := by omega
  have hN := LH ((hsc.out n rfl).2 (by rintro (h | h) <;> omega))
  have hpos : 0 < n := by omega
  clear hn0 hsc
  go_wp2_with fail
  refine (C2.out _).mono ?_
  rw [HEN.out]
  rintro e w1 ⟨rfl, hx1⟩
  go_wp2_with (at_builtin; refine wpList_append_tok rfl _ _ rfl w.heap.size _ L rfl ((hacc.ext hx1).ext (((XR _).alloc _).alloc _)) ⟨K, T, N⟩ _ rfl (RepF.tok_row (by simp) (by simp) (by simp) (by simp)) (by omega) (by have := hx.size; have := hx1.size; simp; omega) ?_)
  intro ao' cap' w' hacc2 hg
  have hx' : Ext w w' := AccK.below ((hacc.ext hx1).ext (((XR _).alloc (.cells #[.int .i64 K, .string T, .int .i64 N] 64)).alloc (.cells #[.int .i64 K, .string T, .int .i64 N] 64))) (((hx.trans hx1).alloc _).alloc _) hg (by have := hx.size; have := hx1.size; simp; omega)
  clear hg hacc
  go_wp2_with fail
  go_roundw
  case rel => exact ⟨k + n, L ++ [⟨K, T, N⟩], hle, by go_num, by rw [List.length_append, List.length_singleton]; omega, hacc2, hx', hN, LH fun h => absurd h (by omega)⟩
  case measure => simp [intOf]; omega
def szOf : Value -> Nat
 | .string s => s.size
 | _ => 0
theorem impl_Tokens_any (s : ByteArray) (w : World) (hs : s.size <= 1048576) (hM : MaxOk w) :
 Calls Tryz.prog 16 #[.string s] w (GivesT w (toksL s)) := by
 have hA : AccK w.heap.size (w.alloc (.cells #[] 64)) (.slice (some ⟨w.heap.size, 0, none⟩) 0 0) [] := Acc.empty _ _ (Nat.le_refl _)
 have HA := LH hA; clear hA
 by_cases h40 : s.size <= 4000
 rotate_left
 · have q4 : (4000 : Int) < s.size := by omega
   have hN : Hid (toksL s = none) := LH (by rw [toksL, if_pos (by omega)])
   go_enter Tryz.func16, Tryz.ntmps16
   go_wp2_with fail
   go_ret2
   exact gives_none hN.out (XR _)
 have q4 : ¬ (4000 : Int) < s.size := by omega
 have HS : Hid (toksL s = scanL s.data.toList []) := LH (by rw [toksL, if_neg (by omega)])
 go_enter Tryz.func16, Tryz.ntmps16
 go_wp2_with fail
 go_loopw [0, 4] (fun sv ov wr => ∃ (S : ByteArray) (L : List MToken), sv = .string S /\ S.size <= 4000 /\ L.length <= 800 /\ AccK w.heap.size wr ov L /\ Ext w wr /\ Hid (toksL s = scanL S.data.toList L)) (fun sv _ _ => szOf sv)
 case atStart => exact ⟨s, [], rfl, h40, by simp, HA.out, (XR w).alloc _, HS⟩
 case round =>
  clear q4 h40 hs
  obtain ⟨S, L, rfl, h40, hL8, hacc, hx, hR⟩ := hrel
  obtain ⟨ao, cap, gp, rfl, hr4, hf4⟩ := hacc.rep
  by_cases hS : S = ⟨#[]⟩
  · have hs4 : Hid (toksL s = some L) := LH (by
     rw [hR.out, hS, show (⟨#[]⟩ : ByteArray).data.toList = [] from rfl, scan_nil])
    subst hS
    go_wp2_with fail
    go_ret2
    exact gives_some hs4.out hr4 hf4 hx
  have t0 := txt_ne hS
  have hlt : 0 < S.size := by
   have h : S.size ≠ 0 := fun e => hS (size_zero e)
   omega
  clear hS hr4 hf4
  obtain ⟨hb0, hb1⟩ := byte_bd S[0]
  have HD : Hid (S.data.toList = S[0] :: S.data.toList.drop 1) := LH (by
   have e := drop_cons (s := S) (k := 0) hlt
   rwa [List.drop_zero] at e)
  have p1 : (1 : Int) <= S.size := by omega
  by_cases h1 : S[0] = 32
  · have HB : Hid (S[0] = 32 ∨ S[0] = 10 ∨ S[0] = 9) := LH (Or.inl h1)
    have t1 := u8_eq (n := 32) 32 rfl h1
    clear h1
    go_wp2_with fail
    go_roundw
    case rel => exact ⟨suf S 1, L, rfl, by rw [suf_size]; omega, hL8, hacc, hx, LH (by rw [hR.out, HD.out, scan_blank (HB.out), suf_data])⟩
    case measure => show (suf S 1).size < S.size; rw [suf_size]; omega
  have t1 := u8_ne (n := 32) 32 rfl h1
  by_cases h2 : S[0] = 10
  · have HB : Hid (S[0] = 32 ∨ S[0] = 10 ∨ S[0] = 9) := LH (Or.inr (Or.inl h2))
    have t2 := u8_eq (n := 10) 10 rfl h2
    clear h1 h2
    go_wp2_with fail
    go_roundw
    case rel => exact ⟨suf S 1, L, rfl, by rw [suf_size]; omega, hL8, hacc, hx, LH (by rw [hR.out, HD.out, scan_blank (HB.out), suf_data])⟩
    case measure => show (suf S 1).size < S.size; rw [suf_size]; omega
  have t2 := u8_ne (n := 10) 10 rfl h2
  by_cases h3 : S[0] = 9
  · have HB : Hid (S[0] = 32 ∨ S[0] = 10 ∨ S[0] = 9) := LH (Or.inr (Or.inr h3))
    have t3 := u8_eq (n := 9) 9 rfl h3
    clear h1 h2 h3
    go_wp2_with fail
    go_roundw
    case rel => exact ⟨suf S 1, L, rfl, by rw [suf_size]; omega, hL8, hacc, hx, LH (by rw [hR.out, HD.out, scan_blank (HB.out), suf_data])⟩
    case measure => show (suf S 1).size < S.size; rw [suf_size]; omega
  have t3 := u8_ne (n := 9) 9 rfl h3
  have HB : Hid (¬ (S[0] = 32 ∨ S[0] = 10 ∨ S[0] = 9)) := LH (by rintro (h | h | h) <;> contradiction)
  clear h1 h2 h3
  by_cases hq : S[0] = 34
  · have t5 := u8_eq (n := 34) 34 rfl hq
    have HQ := LH hq; clear hq
    have hqd : Hid (Lib.indexByte (S.extract 1 S.size).data.toList ((34 : Int).toNat.toUInt8) = if quN (S.data.toList.drop 1) < (S.data.toList.drop 1).length then ((quN (S.data.toList.drop 1) : Nat) : Int) else -1) := LH (by
     rw [show S.extract 1 S.size = suf S 1 from rfl, suf_data]
     exact indexByte_quN _)
    have hlen : Hid ((S.data.toList.drop 1).length = S.size - 1) := LH (by simp)
    obtain ⟨q, hqq⟩ : ∃ q, quN (S.data.toList.drop 1) = q := ⟨_, rfl⟩
    have HN := LH hqq
    rw [hqq, hlen.out] at hqd
    clear hqq
    go_wp2_with fail
    refine (Tryz.strings_IndexByte _ _ _).mono ?_
    rw [hqd.out]
    rintro e w' ⟨rfl, rfl⟩
    by_cases hl : q < S.size - 1
    · rw [if_pos hl]
      have p2 : ¬ (q : Int) < 0 := by omega
      have p3 : (0 : Int) <= (q : Int) + 2 := by omega
      have p4 : (q : Int) + 2 <= S.size := by omega
      go_wp2_with fail
      go_roundw
      case rel => exact ⟨suf S (q + 2), L, by first | rfl | (congr 1), by rw [suf_size]; omega, hL8, hacc, hx, LH (by
       have h : quN (S.data.toList.drop 1) < (S.data.toList.drop 1).length := by rw [HN.out, hlen.out]; exact hl
       rw [hR.out, HD.out, HQ.out, scan_note h, HN.out, List.drop_drop, suf_data, show 1 + (q + 1) = q + 2 from by omega])⟩
      case measure => show (suf S (q + 2)).size < S.size; rw [suf_size]; omega
    · rw [if_neg hl]
      have hN : Hid (toksL s = none) := LH (by
       have h : ¬ quN (S.data.toList.drop 1) < (S.data.toList.drop 1).length := by rw [HN.out, hlen.out]; exact hl
       rw [hR.out, HD.out, HQ.out, scan_open h])
      go_wp2_with fail
      go_ret2
      exact gives_none hN.out hx
  have t5 := u8_ne (n := 34) 34 rfl hq
  have HQ := LH hq; clear hq
  have hle := tok_le S.data.toList
  have hsc : Hid (∀ n, (tokL S.data.toList).2 = n -> (n = 0 ∨ 800 <= L.length -> toksL s = none) /\ (¬ (n = 0 ∨ 800 <= L.length) -> toksL s = scanL (S.data.toList.drop n) (L ++ [(tokL S.data.toList).1]))) := LH (by
   rintro n rfl
   have e := HD.out
   refine ⟨fun h => ?_, fun h => ?_⟩
   · rw [hR.out]
     rw [e] at h ⊢
     exact scan_bad HB.out HQ.out h
   · rw [hR.out]
     rw [e] at h ⊢
     exact scan_tok HB.out HQ.out h)
  have C := LH (fun W hm => tokenAt_any S W (by omega) hlt hm)
  obtain ⟨⟨X1, n⟩, hX⟩ : ∃ X, tokL S.data.toList = X := ⟨_, rfl⟩
  rw [hX] at hle hsc C
  have hle : n <= S.size := by simpa using hle
  have HCM : Hid (MaxOk wr) := LH (hM.ext hx)
  clear hX
  have n0 : (0 : Int) <= n := by omega
  have n1 : (n : Int) <= S.size := by omega
  go_wp2_with fail
  refine (C.out _ HCM.out).mono ?_
  rintro e w1 ⟨⟨K, T, N⟩, rfl, hxk, hx1⟩
  have HXK := LH hxk; clear hxk
  simp only [tokVal]
  by_cases hn0 : n = 0
  · have hN : Hid (toksL s = none) := LH ((hsc.out n rfl).1 (Or.inl hn0))
    have tn : ((n : Int) == 0) = true := int_eq (by omega)
    clear hn0
    go_wp2_with fail
    go_ret2
    exact gives_none hN.out ((hx.trans hx1).alloc _)
  have tn : ((n : Int) == 0) = false := int_ne (by omega)
  by_cases h800 : 800 <= L.length
  · have hN : Hid (toksL s = none) := LH ((hsc.out n rfl).1 (Or.inr h800))
    have q8 : ((L.length : Int) == 800) = true := int_eq (by omega)
    clear hn0
    go_wp2_with fail
    go_ret2
    exact gives_none hN.out ((hx.trans hx1).alloc _)
  have q8 : ((L.length : Int) == 800) = false := int_ne (by omega)
  have hN := LH ((hsc.out n rfl).2 (by rintro (h | h) <;> omega))
  have hpos : 0 < n := by omega
  have HX1 : Hid (X1 = ⟨K, T, N⟩) := LH (HXK.out hn0).symm
  clear hn0 hsc
  go_wp2_with (at_builtin; refine wpList_append_tok rfl _ _ rfl w.heap.size _ L rfl ((hacc.ext hx1).ext (((XR _).alloc _).alloc _)) ⟨K, T, N⟩ _ rfl (RepF.tok_row (by simp) (by simp) (by simp) (by simp)) (by omega) (by have := hx.size; have := hx1.size; simp; omega) ?_)
  intro ao' cap' w' hacc2 hg
  have hx' : Ext w w' := AccK.below ((hacc.ext hx1).ext (((XR _).alloc (.cells #[.int .i64 K, .string T, .int .i64 N] 64)).alloc (.cells #[.int .i64 K, .string T, .int .i64 N] 64))) (((hx.trans hx1).alloc _).alloc _) hg (by have := hx.size; have := hx1.size; simp; omega)
  clear hg hacc
  go_wp2_with fail
  go_roundw
  case rel => exact ⟨suf S n, L ++ [⟨K, T, N⟩], rfl, by rw [suf_size]; omega, by rw [List.length_append, List.length_singleton]; omega, hacc2, hx', LH (by rw [hN.out, HX1.out, suf_data])⟩
  case measure => show (suf S n).size < S.size; rw [suf_size]; omega
end Go.Proofs.YtlcebafhbceejaaGreatDoor
