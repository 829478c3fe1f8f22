/-
  CONTRACTS: parts of Tokens: a symbol, of the reference.
  Conditions: those that each lemma states.
-/
import Derived.Test.YtkajinmknhnpkaaDoorRows
import Derived.Test.YtkajinmknhnpkaaDoorFnTokS
import Derived.Test.YtkajinmknhnpkaaDoorFnTokD
namespace Go.Proofs.YtkajinmknhnpkaaDoor
open Go.RowKit
set_option linter.unusedSimpArgs false
set_option linter.unusedVariables false

/-- A symbol that stands at the head, as the reference reads it. -/
noncomputable def selT (l : List UInt8) : MToken × Nat :=
  if firstP opsL (mkB l) = ⟨#[]⟩ then
    if headLtr l = true then (if selB (mkB (l.take (symN l))) = true then (⟨5, mkB (l.take (symN l)), 0⟩, symN l) else noTok) else noTok
  else (⟨5, firstP opsL (mkB l), 0⟩, (firstP opsL (mkB l)).size)
theorem suf_mk (s : ByteArray) (k : Nat) : suf s k = mkB (s.data.toList.drop k) := by rw [← suf_data, mkB_data]
theorem run_ltr {l : List UInt8} (h : headLtr l = true) : runL l ≠ 0 := by
  cases l with
  | nil => cases h
  | cons c r =>
    have h1 : ltrB (c.toNat : Int) = true := h
    have h2 : alnB c = true := by simp [alnB, h1]
    rw [runL, if_pos h2]; omega
theorem ops_small : ∀ x, x ∈ opsL → x.size ≤ 1048576 := by
  intro x hx
  simp only [opsL, List.mem_cons, List.not_mem_nil, or_false] at hx
  rcases hx with rfl | rfl | rfl | rfl | rfl | rfl | rfl | rfl | rfl | rfl | rfl | rfl | rfl | rfl | rfl <;> decide

set_option maxHeartbeats 4000000 in
theorem l2Selector_any (s : ByteArray) (k : Nat) (w : World) (hs : s.size ≤ 1048576) (hk : k ≤ s.size) :
    Calls Tryd.prog 42 #[.string s, .int .i64 k] w fun e w' => e = .returned (.tuple #[tokVal (selT (s.data.toList.drop k)).1, .int .i64 (endV k (selT (s.data.toList.drop k)).2)]) ∧ Ext w w' := by
  have p0 : (0 : Int) ≤ k := by omega
  have pk : (k : Int) ≤ s.size := by omega
  go_enter Tryd.func42, Tryd.ntmps42
  go_wp2_with fail
  generalize hW : World.alloc w _ = W1
  have x1 : Ext w W1 := by rw [← hW]; exact (Ext.refl w).alloc _
  have R0 : W1.cell? ⟨w.heap.size, 0, none⟩ = some (.int .i64 0) := by rw [← hW]; simp
  have R1 : W1.cell? ⟨w.heap.size, 1, none⟩ = some (.string ⟨#[]⟩) := by rw [← hW]; simp
  have R2 : W1.cell? ⟨w.heap.size, 2, none⟩ = some (.int .i64 0) := by rw [← hW]; simp
  have F0 : ∀ o, W1.frozen? ⟨w.heap.size, o, none⟩ = false := fun o => by rw [← hW]; simp
  clear hW
  refine (l2Binaries_any _).mono ?_
  rintro e w1 ⟨ao, n, cap, fp, rfl, hr, hf, hxa⟩
  go_wp2_with fail
  refine (l2Starts_any opsL s k _ _ hr.rep hs hk ops_small).mono ?_
  rintro e w2 ⟨rfl, hxb⟩
  have hx := hxa.trans hxb
  have zz := lt_of_cell R0
  replace R0 := Ext.cell hx R0
  replace R1 := Ext.cell hx R1
  replace R2 := Ext.cell hx R2
  replace F0 := fun o => ((bcell hx).2 w.heap.size o zz).trans (F0 o)
  have R0' := R0
  clear hxa hxb hr hf zz
  have HF : Hid (firstP opsL (mkB (s.data.toList.drop k)) = firstP opsL (suf s k)) := Lib.hid (by rw [suf_mk])
  have hfs : (firstP opsL (suf s k)).size ≤ 1048576 := by
    rcases firstP_mem opsL (suf s k) with h | h
    · rw [h]; decide
    · exact ops_small _ h
  generalize firstP opsL (suf s k) = f at *
  by_cases h : f = ⟨#[]⟩
  rotate_left
  · have t0 : ¬ f.toList = [] := fun e => h (toList_inj (by rw [e]; simp))
    have t1 : f.toList.isEmpty = false := by simpa using t0
    have hN : Hid (selT (s.data.toList.drop k) = (⟨5, f, 0⟩, f.size)) := Lib.hid (by rw [selT, HF.out, if_neg h])
    have hnz : f.size ≠ 0 := fun e => h (ByteArray.ext (by apply Array.eq_empty_of_size_eq_zero; exact e))
    clear h t0
    go_wp2_with fail
    refine bodyPost_ret (v := .tuple #[.agg #[.int .i64 5, .string f, .int .i64 0], .int .i64 ((k + f.size : Nat) : Int)]) (by simp [results, Tryd.results42, go_sem, R0, R1, R2, F0]) rfl ⟨?_, ?_⟩
    · rw [hN.out]
      simp only [tokVal, endV]
      rw [if_neg hnz]
    · (repeat refine Ext.setCell ?_ (by omega) _)
      exact x1.trans hx
  subst h
  have HT0 : Hid (selT (s.data.toList.drop k) = if headLtr (s.data.toList.drop k) = true then (if selB (s.extract k (k + symN (s.data.toList.drop k))) = true then (⟨5, s.extract k (k + symN (s.data.toList.drop k)), 0⟩, symN (s.data.toList.drop k)) else noTok) else noTok) := Lib.hid (by
    rw [selT, if_pos HF.out, extract_mk, Nat.add_sub_cancel_left])
  clear HF hfs
  by_cases hlt : k < s.size
  rotate_left
  · have q1 : (s.size : Int) ≤ k := by omega
    have hN : Hid (selT (s.data.toList.drop k) = noTok) := Lib.hid (by rw [HT0.out, List.drop_eq_nil_of_le (by simp; have e : s.data.size = s.size := rfl; omega)]; rfl)
    go_wp2_with fail
    refine bodyPost_ret (v := .tuple #[.agg #[.int .i64 0, .string ⟨#[]⟩, .int .i64 0], .int .i64 0]) (by simp [results, Tryd.results42, go_sem, R0, R1, R2, F0]) rfl ⟨?_, ?_⟩
    · rw [hN.out]; rfl
    · (repeat refine Ext.setCell ?_ (by omega) _)
      exact x1.trans hx
  obtain ⟨hb0, hb1⟩ := byte_bd s[k]
  have q1 : ¬ (s.size : Int) ≤ k := by omega
  have HH : Hid (headLtr (s.data.toList.drop k) = ltrB (s[k].toNat : Int)) := Lib.hid (by rw [drop_cons hlt]; rfl)
  cases hl : ltrB (s[k].toNat : Int)
  · have HL := Lib.hid hl; clear hl
    have hN : Hid (selT (s.data.toList.drop k) = noTok) := Lib.hid (by rw [HT0.out, HH.out, HL.out]; rfl)
    go_wp2_with fail
    refine (l2Letter_any _ _ hb0 hb1).mono ?_
    rw [HL.out]
    rintro e w' ⟨rfl, rfl⟩
    go_wp2_with fail
    refine bodyPost_ret (v := .tuple #[.agg #[.int .i64 0, .string ⟨#[]⟩, .int .i64 0], .int .i64 0]) (by simp [results, Tryd.results42, go_sem, R0, R1, R2, F0]) rfl ⟨?_, ?_⟩
    · rw [hN.out]; rfl
    · (repeat refine Ext.setCell ?_ (by omega) _)
      exact x1.trans hx
  have HL := Lib.hid hl; clear hl
  have hr0 := run_ltr (HH.out.trans HL.out)
  have HT : Hid (selT (s.data.toList.drop k) = if selB (s.extract k (k + symN (s.data.toList.drop k))) = true then (⟨5, s.extract k (k + symN (s.data.toList.drop k)), 0⟩, symN (s.data.toList.drop k)) else noTok) := Lib.hid (by rw [HT0.out, HH.out, HL.out]; rfl)
  clear HT0
  have hrl : k + runL (s.data.toList.drop k) ≤ s.size := by have := runL_le (s.data.toList.drop k); simp at this; have e : s.data.size = s.size := rfl; omega
  obtain ⟨m, hm⟩ : ∃ m, runL (s.data.toList.drop k) = m := ⟨_, rfl⟩
  rw [hm] at hrl hr0
  have HM := Lib.hid hm; clear hm
  have g1 : (k : Int) ≤ (k : Int) + m := by omega
  have g2 : (k : Int) + m ≤ s.size := by omega
  go_wp2_with fail
  refine (l2Letter_any _ _ hb0 hb1).mono ?_
  rw [HL.out]
  rintro e w' ⟨rfl, rfl⟩
  go_wp2_with fail
  refine (l2Run_any s k _ (by omega) hk).mono ?_
  rw [show runAt s k = k + m from by rw [runAt, HM.out]]
  rintro e w' ⟨rfl, rfl⟩
  go_wp2_with fail
  refine (l2Colon_any s (k + m) _ hs hrl).mono ?_
  cases hc : colL (s.data.toList.drop (k + m))
  · have HY : Hid (symN (s.data.toList.drop k) = m) := Lib.hid (by rw [symN, HM.out, if_neg hr0, List.drop_drop, if_neg (by rw [hc]; exact Bool.false_ne_true)])
    have HC := Lib.hid hc; clear hc
    rintro e w' ⟨rfl, rfl⟩
    go_wp2_with fail
    refine (spec_IsSelector_any (s.extract k (k + m)) _ (by simp; omega)).mono ?_
    cases hq : selB (s.extract k (k + m))
    all_goals
      have HQ := Lib.hid hq; clear hq
      rintro e w3 ⟨rfl, hx3⟩
      have xx := hx.trans hx3
      replace R0 := Ext.cell hx3 R0
      replace R1 := Ext.cell hx3 R1
      replace R2 := Ext.cell hx3 R2
      replace F0 := fun o => ((bcell hx3).2 w.heap.size o (lt_of_cell R0')).trans (F0 o)
      clear R0' hx3 hx
    · have hN : Hid (selT (s.data.toList.drop k) = noTok) := Lib.hid (by rw [HT.out, HY.out, show k + m = k + m from by omega, if_neg (by rw [HQ.out]; exact Bool.false_ne_true)])
      go_wp2_with fail
      refine bodyPost_ret (v := .tuple #[.agg #[.int .i64 0, .string ⟨#[]⟩, .int .i64 0], .int .i64 0]) (by simp [results, Tryd.results42, go_sem, R0, R1, R2, F0]) rfl ⟨?_, ?_⟩
      · rw [hN.out]; rfl
      · (repeat refine Ext.setCell ?_ (by omega) _)
        exact x1.trans xx
    · have hN : Hid (selT (s.data.toList.drop k) = (⟨5, s.extract k (k + m), 0⟩, m)) := Lib.hid (by rw [HT.out, HY.out, show k + m = k + m from by omega, if_pos HQ.out])
      go_wp2_with fail
      refine bodyPost_ret (v := .tuple #[.agg #[.int .i64 5, .string (s.extract k (k + m)), .int .i64 0], .int .i64 ((k + m : Nat) : Int)]) (by simp [results, Tryd.results42, go_sem, R0, R1, R2, F0]) rfl ⟨?_, ?_⟩
      · rw [hN.out]
        simp only [tokVal, endV]
        rw [if_neg (by omega), show k + m = k + m from by omega]
      · (repeat refine Ext.setCell ?_ (by omega) _)
        exact x1.trans xx
  have hlt2 : k + m + 1 ≤ s.size := by have := colL_pos hc; simp at this; have e : s.data.size = s.size := rfl; omega
  have hy : Hid (symN (s.data.toList.drop k) = (m + 1) + kwL (s.data.toList.drop (k + (m + 1)))) := Lib.hid (by
    rw [symN, HM.out, if_neg hr0, List.drop_drop, if_pos hc, kw_yes (by rw [HM.out]; exact hr0) (by rw [HM.out, List.drop_drop]; exact hc), HM.out, List.drop_drop])
  have HC := Lib.hid hc; clear hc
  rintro e w' ⟨rfl, rfl⟩
  go_wp2_with fail
  refine (l2Run_any s (k + (m + 1)) _ (by omega) (by omega)).mono ?_
  rintro e w' ⟨rfl, rfl⟩
  go_wp2_with fail
  go_loop [7, 8] (fun ev nv => ∃ a b : Nat, k + a + b ≤ s.size ∧ 0 < a ∧ ev = .int .i64 ((k + a : Nat) : Int) ∧ nv = .int .i64 ((k + a + b : Nat) : Int) ∧ Hid (runL (s.data.toList.drop (k + a)) = b) ∧ Hid (symN (s.data.toList.drop k) = a + kwL (s.data.toList.drop (k + a)))) (fun ev _ => s.size - (intOf ev).toNat)
  case atStart => exact ⟨m + 1, runL (s.data.toList.drop (k + (m + 1))), by have := runAt_le (s := s) (k := k + (m + 1)) (by omega); unfold runAt at this; omega, by omega, by go_num, by rw [runAt], Lib.hid rfl, hy⟩
  case round =>
    clear g1 g2 hrl hlt2 hy HC HM hr0 HL HH
    obtain ⟨a, b, hab, ha0, rfl, rfl, HB, HR⟩ := hrel
    have g1 : (k : Int) ≤ (k : Int) + a := by omega
    have g2 : (k : Int) + a ≤ s.size := by omega
    by_cases hb : b = 0
    · subst hb
      have HY : Hid (symN (s.data.toList.drop k) = a) := Lib.hid (by rw [HR.out, kw_no0 HB.out, Nat.add_zero])
      go_wp2_with fail
      refine (spec_IsSelector_any (s.extract k (k + a)) _ (by simp; omega)).mono ?_
      cases hq : selB (s.extract k (k + a))
      all_goals
        have HQ := Lib.hid hq; clear hq
        rintro e w3 ⟨rfl, hx3⟩
        have xx := hx.trans hx3
        replace R0 := Ext.cell hx3 R0
        replace R1 := Ext.cell hx3 R1
        replace R2 := Ext.cell hx3 R2
        replace F0 := fun o => ((bcell hx3).2 w.heap.size o (lt_of_cell R0')).trans (F0 o)
        clear R0' hx3 hx
      · have hN : Hid (selT (s.data.toList.drop k) = noTok) := Lib.hid (by rw [HT.out, HY.out, show k + a = k + a from by omega, if_neg (by rw [HQ.out]; exact Bool.false_ne_true)])
        go_wp2_with fail
        refine bodyPost_ret (v := .tuple #[.agg #[.int .i64 0, .string ⟨#[]⟩, .int .i64 0], .int .i64 0]) (by simp [results, Tryd.results42, go_sem, R0, R1, R2, F0]) rfl ⟨?_, ?_⟩
        · rw [hN.out]; rfl
        · (repeat refine Ext.setCell ?_ (by omega) _)
          exact x1.trans xx
      · have hN : Hid (selT (s.data.toList.drop k) = (⟨5, s.extract k (k + a), 0⟩, a)) := Lib.hid (by rw [HT.out, HY.out, show k + a = k + a from by omega, if_pos HQ.out])
        go_wp2_with fail
        refine bodyPost_ret (v := .tuple #[.agg #[.int .i64 5, .string (s.extract k (k + a)), .int .i64 0], .int .i64 ((k + a : Nat) : Int)]) (by simp [results, Tryd.results42, go_sem, R0, R1, R2, F0]) rfl ⟨?_, ?_⟩
        · rw [hN.out]
          simp only [tokVal, endV]
          rw [if_neg (by omega), show k + a = k + a from by omega]
        · (repeat refine Ext.setCell ?_ (by omega) _)
          exact x1.trans xx
    have g3 : (k : Int) + a < (k : Int) + a + b := by omega
    cases hc : colL (s.data.toList.drop (k + a + b))
    · have HY : Hid (symN (s.data.toList.drop k) = a) := Lib.hid (by rw [HR.out, kw_noc (by rw [HB.out, List.drop_drop]; exact hc), Nat.add_zero])
      have HC := Lib.hid hc; clear hc
      go_wp2_with fail
      refine (l2Colon_any s (k + a + b) _ hs hab).mono ?_
      rw [HC.out]
      rintro e w' ⟨rfl, rfl⟩
      go_wp2_with fail
      refine (spec_IsSelector_any (s.extract k (k + a)) _ (by simp; omega)).mono ?_
      cases hq : selB (s.extract k (k + a))
      all_goals
        have HQ := Lib.hid hq; clear hq
        rintro e w3 ⟨rfl, hx3⟩
        have xx := hx.trans hx3
        replace R0 := Ext.cell hx3 R0
        replace R1 := Ext.cell hx3 R1
        replace R2 := Ext.cell hx3 R2
        replace F0 := fun o => ((bcell hx3).2 w.heap.size o (lt_of_cell R0')).trans (F0 o)
        clear R0' hx3 hx
      · have hN : Hid (selT (s.data.toList.drop k) = noTok) := Lib.hid (by rw [HT.out, HY.out, show k + a = k + a from by omega, if_neg (by rw [HQ.out]; exact Bool.false_ne_true)])
        go_wp2_with fail
        refine bodyPost_ret (v := .tuple #[.agg #[.int .i64 0, .string ⟨#[]⟩, .int .i64 0], .int .i64 0]) (by simp [results, Tryd.results42, go_sem, R0, R1, R2, F0]) rfl ⟨?_, ?_⟩
        · rw [hN.out]; rfl
        · (repeat refine Ext.setCell ?_ (by omega) _)
          exact x1.trans xx
      · have hN : Hid (selT (s.data.toList.drop k) = (⟨5, s.extract k (k + a), 0⟩, a)) := Lib.hid (by rw [HT.out, HY.out, show k + a = k + a from by omega, if_pos HQ.out])
        go_wp2_with fail
        refine bodyPost_ret (v := .tuple #[.agg #[.int .i64 5, .string (s.extract k (k + a)), .int .i64 0], .int .i64 ((k + a : Nat) : Int)]) (by simp [results, Tryd.results42, go_sem, R0, R1, R2, F0]) rfl ⟨?_, ?_⟩
        · rw [hN.out]
          simp only [tokVal, endV]
          rw [if_neg (by omega), show k + a = k + a from by omega]
        · (repeat refine Ext.setCell ?_ (by omega) _)
          exact x1.trans xx
    have hlt3 : k + a + b + 1 ≤ s.size := by have := colL_pos hc; simp at this; have e : s.data.size = s.size := rfl; omega
    have hy : Hid (symN (s.data.toList.drop k) = (a + b + 1) + kwL (s.data.toList.drop (k + (a + b + 1)))) := Lib.hid (by
      rw [HR.out, kw_yes (by rw [HB.out]; exact hb) (by rw [HB.out, List.drop_drop]; exact hc), HB.out, List.drop_drop, show k + a + (b + 1) = k + (a + b + 1) from by omega]; omega)
    have HC := Lib.hid hc; clear hc
    go_wp2_with fail
    refine (l2Colon_any s (k + a + b) _ hs hab).mono ?_
    rw [HC.out]
    rintro e w' ⟨rfl, rfl⟩
    go_wp2_with fail
    refine (l2Run_any s (k + a + b + 1) _ (by omega) (by omega)).mono ?_
    rw [show k + a + b + 1 = k + (a + b + 1) from by omega]
    rintro e w' ⟨rfl, rfl⟩
    go_wp2_with fail
    go_round
    case rel => exact ⟨a + b + 1, runL (s.data.toList.drop (k + (a + b + 1))), by have := runAt_le (s := s) (k := k + (a + b + 1)) (by omega); unfold runAt at this; omega, by omega, by go_num, by rw [runAt], Lib.hid rfl, hy⟩
    case measure => simp [intOf]; omega

end Go.Proofs.YtkajinmknhnpkaaDoor
