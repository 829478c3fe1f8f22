/-
  SEVERAL TEXTS IN ONE: CONTRACTS: the program's parser: done; CONTRACTS: parts of Tokens: the next token, of the reference.
  Conditions: those that each lemma states.
-/
import Derived.Test.YtonmcoojgkgemaaGreatDoorRows
import Derived.Test.YtonmcoojgkgemaaGreatDoorP28
import Derived.Test.YtonmcoojgkgemaaGreatDoorP18
namespace Go.Proofs.YtonmcoojgkgemaaGreatDoor
open Go.RowKit
set_option linter.unusedSimpArgs false
set_option linter.unusedVariables false

set_option maxHeartbeats 2000000 in
set_option maxRecDepth 100000 in
theorem done_any {B tb to_ cap : Nat} {ao : Option Addr} {ts : List MToken} {a : Nat} {b : Bool} (w : World) (h : Prs 54 B tb to_ cap ao ts w (a) b) : Calls Tryz.prog 26 #[.pointer (some ⟨B, 0, none⟩)] w (fun e w' => e = .returned (.bool (!b && decide (a = ts.length))) ∧ Ext w w') := by
  obtain ⟨c0, c1, c2⟩ := h.cells
  have zB := lt_of_cell c0
  clear h
  obtain ⟨V, hV⟩ : ∃ V, (!b && decide (a = ts.length)) = V := ⟨_, rfl⟩
  rw [hV]
  cases b
  · by_cases hl : a = ts.length
    · subst hl
      have hv : V = true := by rw [← hV]; simp
      subst hv
      clear hV
      go_enter Tryz.func26, Tryz.ntmps26
      go_wp2_with fail
      have gc0 := reg (Ext.refl _) c0
      have gc1 := reg (Ext.refl _) c1
      have gc2 := reg (Ext.refl _) c2
      refine wp_region_quiet_below (by kernel_rfl) (by kernel_rfl) ?_
      repeat (go_big_quiet_step ((fail)))
      refine wpQuiet_nil ?_
      clear gc0 gc1 gc2
      intro _ hw'
      obtain ⟨pw, hw''⟩ := hw'
      subst hw''
      have xW2 := regx w pw
      generalize hWR : «Sort».grow (redrawn w pw.d) pw.os = W2 at *
      clear hWR
      replace c0 := xW2.cell c0
      replace c1 := xW2.cell c1
      replace c2 := xW2.cell c2
      go_wp2_with fail
      go_ret
      exact ⟨rfl, by first | exact xW2 | exact xW2.alloc _⟩
    have hn : decide ((a : Int) = (ts.length : Int)) = false := decide_eq_false (by omega)
    have hn2 : ((a : Int) == (ts.length : Int)) = false := by simp; omega
    have hv : V = false := by rw [← hV]; simp [hl]
    subst hv
    clear hV
    go_enter Tryz.func26, Tryz.ntmps26
    go_wp2_with fail
    have gc0 := reg (Ext.refl _) c0
    have gc1 := reg (Ext.refl _) c1
    have gc2 := reg (Ext.refl _) c2
    refine wp_region_quiet_below (by kernel_rfl) (by kernel_rfl) ?_
    repeat (go_big_quiet_step ((fail)))
    refine wpQuiet_nil ?_
    clear gc0 gc1 gc2
    intro _ hw'
    obtain ⟨pw, hw''⟩ := hw'
    subst hw''
    have xW2 := regx w pw
    generalize hWR : «Sort».grow (redrawn w pw.d) pw.os = W2 at *
    clear hWR
    replace c0 := xW2.cell c0
    replace c1 := xW2.cell c1
    replace c2 := xW2.cell c2
    go_wp2_with fail
    go_ret
    exact ⟨rfl, by first | exact xW2 | exact xW2.alloc _⟩
  have hv : V = false := by rw [← hV]; simp
  subst hv
  clear hV
  go_enter Tryz.func26, Tryz.ntmps26
  go_wp2_with fail
  have gc0 := reg (Ext.refl _) c0
  have gc1 := reg (Ext.refl _) c1
  have gc2 := reg (Ext.refl _) c2
  refine wp_region_quiet_below (by kernel_rfl) (by kernel_rfl) ?_
  repeat (go_big_quiet_step ((fail)))
  refine wpQuiet_nil ?_
  clear gc0 gc1 gc2
  intro _ hw'
  obtain ⟨pw, hw''⟩ := hw'
  subst hw''
  have xW2 := regx w pw
  generalize hWR : «Sort».grow (redrawn w pw.d) pw.os = W2 at *
  clear hWR
  replace c0 := xW2.cell c0
  replace c1 := xW2.cell c1
  replace c2 := xW2.cell c2
  go_wp2_with fail
  go_ret
  exact ⟨rfl, by first | exact xW2 | exact xW2.alloc _⟩

open Go.RowKit
set_option linter.unusedSimpArgs false
set_option linter.unusedVariables false

theorem txt_ne {f : ByteArray} (h : ¬ f = ⟨#[]⟩) : f.toList.isEmpty = false := by
  have : ¬ f.toList = [] := fun e => h (toList_inj (by rw [e]; simp))
  simpa using this

set_option maxHeartbeats 4000000 in
theorem l2Next_any (s : ByteArray) (k : Nat) (w : World) (hs : s.size ≤ 1048576) (hk : k < s.size) :
    Calls Tryz.prog 55 #[.string s, .int .i64 k] w fun e w' => e = .returned (.tuple #[tokVal (tokL (s.data.toList.drop k)).1, .int .i64 (endV k (tokL (s.data.toList.drop k)).2)]) ∧ Ext w w' := by
  have p0 : (0 : Int) ≤ k := by omega
  have pk : (k : Int) < s.size := by omega
  obtain ⟨hb0, hb1⟩ := byte_bd s[k]
  have HT : Hid (tokL (s.data.toList.drop k) = tokC s[k] (s.data.toList.drop k)) := Lib.hid (by unfold tokL; congr 1; rw [drop_cons hk]; rfl)
  have HH : Hid (headLtr (s.data.toList.drop k) = ltrB (s[k].toNat : Int)) := Lib.hid (by rw [drop_cons hk]; rfl)
  have HF : Hid (∀ l, firstP l (mkB (s.data.toList.drop k)) = firstP l (suf s k)) := Lib.hid fun l => by rw [suf_mk]
  go_enter Tryz.func55, Tryz.ntmps55
  go_wp2_with fail
  generalize hW : World.alloc w _ = W1
  have x1 : Ext w W1 := by rw [← hW]; exact (Ext.refl w).alloc _
  have R0 : W1.cell? ⟨w.heap.size, 0, none⟩ = some (.int .i64 0) := by rw [← hW]; simp
  have R1 : W1.cell? ⟨w.heap.size, 1, none⟩ = some (.string ⟨#[]⟩) := by rw [← hW]; simp
  have R2 : W1.cell? ⟨w.heap.size, 2, none⟩ = some (.int .i64 0) := by rw [← hW]; simp
  have F0 : ∀ o, W1.frozen? ⟨w.heap.size, o, none⟩ = false := fun o => by rw [← hW]; simp
  clear hW
  refine (l2Marks_any _).mono ?_
  rintro e w1 ⟨ao, n, cap, fp, rfl, hr, hf, hxa⟩
  go_wp2_with fail
  refine (l2Starts_any marksL s k _ _ hr.rep hs (by omega) marks_small).mono ?_
  rintro e w2 ⟨rfl, hxb⟩
  clear hr hf
  go_wp2_with fail
  refine (l2Binaries_any _).mono ?_
  rintro e w3 ⟨ao, n, cap, fp, rfl, hr, hf, hxc⟩
  go_wp2_with fail
  refine (l2Starts_any opsL s k _ _ hr.rep hs (by omega) ops_small).mono ?_
  rintro e w4 ⟨rfl, hxd⟩
  have hx := ((hxa.trans hxb).trans hxc).trans hxd
  have zz := lt_of_cell R0
  replace R0 := Ext.cell hx R0
  replace R1 := Ext.cell hx R1
  replace R2 := Ext.cell hx R2
  replace F0 := fun o => ((bcell hx).2 w.heap.size o zz).trans (F0 o)
  clear zz
  clear hr hf hxa hxb hxc hxd
  have HO := HF.out opsL
  have HM := HF.out marksL
  have hoz : (firstP opsL (suf s k)).size ≤ 1048576 := by
    rcases firstP_mem opsL (suf s k) with h | h
    · rw [h]; decide
    · exact ops_small _ h
  have hmz : (firstP marksL (suf s k)).size ≤ 1048576 := by
    rcases firstP_mem marksL (suf s k) with h | h
    · rw [h]; decide
    · exact marks_small _ h
  clear HF
  generalize firstP opsL (suf s k) = op at *
  generalize firstP marksL (suf s k) = mk at *
  have HO := Lib.hid HO
  have HM := Lib.hid HM
  cases hl : ltrB (s[k].toNat : Int)
  rotate_left
  · have HL := Lib.hid hl; clear hl
    have hr0 := run_ltr (HH.out.trans HL.out)
    have hr1 : Hid (0 < runL (s.data.toList.drop k)) := Lib.hid (by omega)
    clear hr0
    obtain ⟨⟨⟨K, T, N⟩, n⟩, hX⟩ : ∃ X, nameT (s.data.toList.drop k) = X := ⟨_, rfl⟩
    have C : Hid (∀ W, Calls Tryz.prog 97 #[.string s, .int .i64 ((k : Nat) : Int)] W fun e w' => e = .returned (.tuple #[.agg #[.int .i64 K, .string T, .int .i64 N], .int .i64 (endV (k) n)]) ∧ Ext W w') := Lib.hid fun W => by
      have := l2Name_any s k W hs (by omega) hr1.out
      rw [hX] at this
      exact this
    have HN : Hid (Ending.returned (.tuple #[.agg #[.int .i64 K, .string T, .int .i64 N], .int .i64 (endV k n)]) = Ending.returned (.tuple #[tokVal (tokL (s.data.toList.drop k)).1, .int .i64 (endV k (tokL (s.data.toList.drop k)).2)])) := Lib.hid (by rw [show tokL (s.data.toList.drop k) = (⟨K, T, N⟩, n) from by rw [HT.out, tokC, if_pos HL.out, hX]]; rfl)
    clear hX
    go_wp2_with fail
    refine (l2Letter_any _ _ hb0 hb1).mono ?_
    rw [HL.out]
    rintro e w' ⟨rfl, rfl⟩
    go_wp2_with fail
    refine (C.out _).mono ?_
    rintro e w5 ⟨rfl, hx5⟩
    have zz := lt_of_cell R0
    replace R0 := Ext.cell hx5 R0
    replace R1 := Ext.cell hx5 R1
    replace R2 := Ext.cell hx5 R2
    replace F0 := fun o => ((bcell hx5).2 w.heap.size o zz).trans (F0 o)
    clear zz
    go_wp2_with fail
    refine bodyPost_ret (v := .tuple #[.agg #[.int .i64 (K), .string (T), .int .i64 (N)], .int .i64 (endV (k) n)]) (by simp [results, Tryz.results55, go_sem, R0, R1, R2, F0]) rfl ⟨?_, ?_⟩
    · exact HN.out
    · (repeat refine Ext.setCell ?_ (by omega) _)
      exact x1.trans (hx.trans hx5)
  have HL := Lib.hid hl; clear hl
  have nl : Hid (¬ ltrB (s[k].toNat : Int) = true) := Lib.hid (by rw [HL.out]; exact Bool.false_ne_true)
  cases hd : dgtB (s[k].toNat : Int)
  rotate_left
  · have HD := Lib.hid hd; clear hd
    have hd0 : Hid (0 < digN (s.data.toList.drop k)) := Lib.hid (by rw [drop_cons hk, digN, if_pos HD.out]; omega)
    obtain ⟨⟨⟨K, T, N⟩, n⟩, hX⟩ : ∃ X, numT (s.data.toList.drop k) = X := ⟨_, rfl⟩
    have C : Hid (∀ W, Calls Tryz.prog 99 #[.string s, .int .i64 ((k : Nat) : Int)] W fun e w' => e = .returned (.tuple #[.agg #[.int .i64 K, .string T, .int .i64 N], .int .i64 (endV (k) n)]) ∧ Ext W w') := Lib.hid fun W => by
      have := l2Number_any s k W hs (by omega) hd0.out
      rw [hX] at this
      exact this
    have HN : Hid (Ending.returned (.tuple #[.agg #[.int .i64 K, .string T, .int .i64 N], .int .i64 (endV k n)]) = Ending.returned (.tuple #[tokVal (tokL (s.data.toList.drop k)).1, .int .i64 (endV k (tokL (s.data.toList.drop k)).2)])) := Lib.hid (by rw [show tokL (s.data.toList.drop k) = (⟨K, T, N⟩, n) from by rw [HT.out, tokC, if_neg nl.out, if_pos HD.out, hX]]; rfl)
    clear hX
    go_wp2_with fail
    refine (l2Letter_any _ _ hb0 hb1).mono ?_
    rw [HL.out]
    rintro e w' ⟨rfl, rfl⟩
    go_wp2_with fail
    refine (l2Digit_any _ _ hb0 hb1).mono ?_
    rw [HD.out]
    rintro e w' ⟨rfl, rfl⟩
    go_wp2_with fail
    refine (C.out _).mono ?_
    rintro e w5 ⟨rfl, hx5⟩
    have zz := lt_of_cell R0
    replace R0 := Ext.cell hx5 R0
    replace R1 := Ext.cell hx5 R1
    replace R2 := Ext.cell hx5 R2
    replace F0 := fun o => ((bcell hx5).2 w.heap.size o zz).trans (F0 o)
    clear zz
    go_wp2_with fail
    refine bodyPost_ret (v := .tuple #[.agg #[.int .i64 (K), .string (T), .int .i64 (N)], .int .i64 (endV (k) n)]) (by simp [results, Tryz.results55, go_sem, R0, R1, R2, F0]) rfl ⟨?_, ?_⟩
    · exact HN.out
    · (repeat refine Ext.setCell ?_ (by omega) _)
      exact x1.trans (hx.trans hx5)
  have HD := Lib.hid hd; clear hd
  have nd : Hid (¬ dgtB (s[k].toNat : Int) = true) := Lib.hid (by rw [HD.out]; exact Bool.false_ne_true)
  by_cases hq : s[k] = 39
  · have t1 := u8_eq (n := 39) 39 rfl hq
    have HQ := Lib.hid hq; clear hq
    obtain ⟨⟨⟨K, T, N⟩, n⟩, hX⟩ : ∃ X, quoT (s.data.toList.drop k) = X := ⟨_, rfl⟩
    have C : Hid (∀ W, Calls Tryz.prog 100 #[.string s, .int .i64 ((k : Nat) : Int)] W fun e w' => e = .returned (.tuple #[.agg #[.int .i64 K, .string T, .int .i64 N], .int .i64 (endV (k) n)]) ∧ Ext W w') := Lib.hid fun W => by
      have := l2Quoted_any s k W hs hk
      rw [hX] at this
      exact this
    have HN : Hid (Ending.returned (.tuple #[.agg #[.int .i64 K, .string T, .int .i64 N], .int .i64 (endV k n)]) = Ending.returned (.tuple #[tokVal (tokL (s.data.toList.drop k)).1, .int .i64 (endV k (tokL (s.data.toList.drop k)).2)])) := Lib.hid (by rw [show tokL (s.data.toList.drop k) = (⟨K, T, N⟩, n) from by rw [HT.out, tokC, if_neg nl.out, if_neg nd.out, if_pos HQ.out, hX]]; rfl)
    clear hX
    go_wp2_with fail
    refine (l2Letter_any _ _ hb0 hb1).mono ?_
    rw [HL.out]
    rintro e w' ⟨rfl, rfl⟩
    go_wp2_with fail
    refine (l2Digit_any _ _ hb0 hb1).mono ?_
    rw [HD.out]
    rintro e w' ⟨rfl, rfl⟩
    go_wp2_with fail
    refine (C.out _).mono ?_
    rintro e w5 ⟨rfl, hx5⟩
    have zz := lt_of_cell R0
    replace R0 := Ext.cell hx5 R0
    replace R1 := Ext.cell hx5 R1
    replace R2 := Ext.cell hx5 R2
    replace F0 := fun o => ((bcell hx5).2 w.heap.size o zz).trans (F0 o)
    clear zz
    go_wp2_with fail
    refine bodyPost_ret (v := .tuple #[.agg #[.int .i64 (K), .string (T), .int .i64 (N)], .int .i64 (endV (k) n)]) (by simp [results, Tryz.results55, go_sem, R0, R1, R2, F0]) rfl ⟨?_, ?_⟩
    · exact HN.out
    · (repeat refine Ext.setCell ?_ (by omega) _)
      exact x1.trans (hx.trans hx5)
  have t1 := u8_ne (n := 39) 39 rfl hq
  have HQ := Lib.hid hq; clear hq
  by_cases hp : s[k] = 35
  · have t2 := u8_eq (n := 35) 35 rfl hp
    have HP := Lib.hid hp; clear hp
    obtain ⟨⟨⟨K, T, N⟩, n⟩, hX⟩ : ∃ X, selT (s.data.toList.drop (k + 1)) = X := ⟨_, rfl⟩
    have C : Hid (∀ W, Calls Tryz.prog 101 #[.string s, .int .i64 ((k + 1 : Nat) : Int)] W fun e w' => e = .returned (.tuple #[.agg #[.int .i64 K, .string T, .int .i64 N], .int .i64 (endV (k + 1) n)]) ∧ Ext W w') := Lib.hid fun W => by
      have := l2Selector_any s (k + 1) W hs (by omega)
      rw [hX] at this
      exact this
    have HN : Hid (Ending.returned (.tuple #[.agg #[.int .i64 K, .string T, .int .i64 N], .int .i64 (endV (k + 1) n)]) = Ending.returned (.tuple #[tokVal (tokL (s.data.toList.drop k)).1, .int .i64 (endV k (tokL (s.data.toList.drop k)).2)])) := Lib.hid (by
      have e1 : tokL (s.data.toList.drop k) = symT (s.data.toList.drop (k + 1)) := by rw [HT.out, tokC, if_neg nl.out, if_neg nd.out, if_neg HQ.out, if_pos HP.out, List.drop_drop]
      have hk := sel_k (s.data.toList.drop (k + 1))
      rw [e1]
      unfold symT
      rw [hX] at hk ⊢
      by_cases h0 : n = 0
      · subst h0
        have e : (⟨K, T, N⟩ : MToken) = ⟨0, ⟨#[]⟩, 0⟩ := hk.1 rfl
        injection e with e1 e2 e3
        rw [if_pos rfl, e1, e2, e3]; rfl
      · rw [if_neg h0]
        simp only [tokVal, endV]
        rw [if_neg h0, if_neg (by omega), show k + 1 + n = k + (n + 1) from by omega])
    clear hX
    go_wp2_with fail
    refine (l2Letter_any _ _ hb0 hb1).mono ?_
    rw [HL.out]
    rintro e w' ⟨rfl, rfl⟩
    go_wp2_with fail
    refine (l2Digit_any _ _ hb0 hb1).mono ?_
    rw [HD.out]
    rintro e w' ⟨rfl, rfl⟩
    go_wp2_with fail
    refine (C.out _).mono ?_
    rintro e w5 ⟨rfl, hx5⟩
    have zz := lt_of_cell R0
    replace R0 := Ext.cell hx5 R0
    replace R1 := Ext.cell hx5 R1
    replace R2 := Ext.cell hx5 R2
    replace F0 := fun o => ((bcell hx5).2 w.heap.size o zz).trans (F0 o)
    clear zz
    go_wp2_with fail
    refine bodyPost_ret (v := .tuple #[.agg #[.int .i64 (K), .string (T), .int .i64 (N)], .int .i64 (endV (k + 1) n)]) (by simp [results, Tryz.results55, go_sem, R0, R1, R2, F0]) rfl ⟨?_, ?_⟩
    · exact HN.out
    · (repeat refine Ext.setCell ?_ (by omega) _)
      exact x1.trans (hx.trans hx5)
  have t2 := u8_ne (n := 35) 35 rfl hp
  have HP := Lib.hid hp; clear hp
  have HB : Hid (tokL (s.data.toList.drop k) = opT (s.data.toList.drop k)) := Lib.hid (by rw [HT.out, tokC, if_neg nl.out, if_neg nd.out, if_neg HQ.out, if_neg HP.out])
  by_cases ho : op = ⟨#[]⟩
  rotate_left
  · have t3 := txt_ne ho
    have hN : Hid (tokL (s.data.toList.drop k) = (⟨6, op, 0⟩, op.size)) := Lib.hid (by rw [HB.out, opT, HO.out, if_neg ho])
    have hnz : op.size ≠ 0 := fun e => ho (size_zero e)
    clear ho
    go_wp2_with fail
    refine (l2Letter_any _ _ hb0 hb1).mono ?_
    rw [HL.out]
    rintro e w' ⟨rfl, rfl⟩
    go_wp2_with fail
    refine (l2Digit_any _ _ hb0 hb1).mono ?_
    rw [HD.out]
    rintro e w' ⟨rfl, rfl⟩
    go_wp2_with fail
    refine bodyPost_ret (v := .tuple #[.agg #[.int .i64 (6), .string (op), .int .i64 (0)], .int .i64 (((k + op.size : Nat) : Int))]) (by simp [results, Tryz.results55, go_sem, R0, R1, R2, F0]) rfl ⟨?_, ?_⟩
    · rw [hN.out]; simp only [tokVal, endV]; rw [if_neg hnz]
    · (repeat refine Ext.setCell ?_ (by omega) _)
      exact x1.trans hx
  subst ho
  by_cases hm : mk = ⟨#[]⟩
  rotate_left
  · have t3 := txt_ne hm
    have hN : Hid (tokL (s.data.toList.drop k) = (⟨7, mk, 0⟩, mk.size)) := Lib.hid (by rw [HB.out, opT, HO.out, if_pos rfl, HM.out, if_neg hm])
    have hnz : mk.size ≠ 0 := fun e => hm (size_zero e)
    clear hm
    go_wp2_with fail
    refine (l2Letter_any _ _ hb0 hb1).mono ?_
    rw [HL.out]
    rintro e w' ⟨rfl, rfl⟩
    go_wp2_with fail
    refine (l2Digit_any _ _ hb0 hb1).mono ?_
    rw [HD.out]
    rintro e w' ⟨rfl, rfl⟩
    go_wp2_with fail
    refine bodyPost_ret (v := .tuple #[.agg #[.int .i64 (7), .string (mk), .int .i64 (0)], .int .i64 (((k + mk.size : Nat) : Int))]) (by simp [results, Tryz.results55, go_sem, R0, R1, R2, F0]) rfl ⟨?_, ?_⟩
    · rw [hN.out]; simp only [tokVal, endV]; rw [if_neg hnz]
    · (repeat refine Ext.setCell ?_ (by omega) _)
      exact x1.trans hx
  subst hm
  have hN : Hid (tokL (s.data.toList.drop k) = noTok) := Lib.hid (by rw [HB.out, opT, HO.out, if_pos rfl, HM.out, if_pos rfl])
  go_wp2_with fail
  refine (l2Letter_any _ _ hb0 hb1).mono ?_
  rw [HL.out]
  rintro e w' ⟨rfl, rfl⟩
  go_wp2_with fail
  refine (l2Digit_any _ _ hb0 hb1).mono ?_
  rw [HD.out]
  rintro e w' ⟨rfl, rfl⟩
  go_wp2_with fail
  refine bodyPost_ret (v := .tuple #[.agg #[.int .i64 (0), .string (⟨#[]⟩), .int .i64 (0)], .int .i64 (0)]) (by simp [results, Tryz.results55, go_sem, R0, R1, R2, F0]) rfl ⟨?_, ?_⟩
  · rw [hN.out]; rfl
  · (repeat refine Ext.setCell ?_ (by omega) _)
    exact x1.trans hx

end Go.Proofs.YtonmcoojgkgemaaGreatDoor
