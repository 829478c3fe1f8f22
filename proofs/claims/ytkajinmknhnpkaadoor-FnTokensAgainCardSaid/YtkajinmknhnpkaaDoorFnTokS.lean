/-
  CONTRACTS: parts of Tokens: a symbol, of the program.
  Conditions: those that each lemma states.
-/
import Derived.Test.YtkajinmknhnpkaaDoorRows
import Derived.Test.YtkajinmknhnpkaaDoorFnTokN
namespace Go.Proofs.YtkajinmknhnpkaaDoor
open Go.RowKit
set_option linter.unusedSimpArgs false
set_option linter.unusedVariables false

theorem runB_size (l : List UInt8) : (runB l).size = runL l := by
  rw [runB, mkB_size, List.length_take]
  have := runL_le l
  omega

theorem runOf_suf (s : ByteArray) (k : Nat) (w : World) (hs : s.size ≤ 1048576) :
    Calls Tryd.prog 20 #[.string (s.extract k s.size)] w fun e w' => e = .returned (.string (runB (s.data.toList.drop k))) ∧ w' = w := by
  have h := runOf_any (suf s k) w (by unfold suf; simp; omega)
  have e1 : (suf s k).extract 0 (runAt (suf s k) 0) = runB (s.data.toList.drop k) := by
    rw [extract_mk, runAt, suf_data, runB]; simp
  rw [e1] at h
  exact h

theorem colon_suf (s : ByteArray) (k : Nat) (w : World) (hs : s.size ≤ 1048576) :
    Calls Tryd.prog 21 #[.string (s.extract k s.size)] w fun e w' => e = .returned (.bool (colL (s.data.toList.drop k))) ∧ w' = w := by
  have h := colon_any (suf s k) w (by unfold suf; simp; omega)
  rw [suf_data] at h
  exact h

/-- The bytes of the keywords at the head. -/
def kwL (l : List UInt8) : Nat :=
  if h : runL l = 0 then 0 else if colL (l.drop (runL l)) = true then runL l + 1 + kwL (l.drop (runL l + 1)) else 0
termination_by l.length
decreasing_by
  have := runL_le l
  rw [List.length_drop]; omega

def symN (l : List UInt8) : Nat := if runL l = 0 then 0 else if colL (l.drop (runL l)) = true then kwL l else runL l
noncomputable def symB (l : List UInt8) : ByteArray := if firstP opsL (mkB l) = ⟨#[]⟩ then mkB (l.take (symN l)) else firstP opsL (mkB l)
theorem colL_pos {l : List UInt8} (h : colL l = true) : 0 < l.length := by
  cases l with
  | nil => cases h
  | cons _ _ => simp
theorem kw_no0 {l : List UInt8} (h : runL l = 0) : kwL l = 0 := by rw [kwL]; simp [h]
theorem kw_noc {l : List UInt8} (h : colL (l.drop (runL l)) = false) : kwL l = 0 := by rw [kwL]; simp [h]
theorem kw_yes {l : List UInt8} (h0 : runL l ≠ 0) (h : colL (l.drop (runL l)) = true) : kwL l = runL l + 1 + kwL (l.drop (runL l + 1)) := by
  rw [kwL, dif_neg h0, if_pos h]

set_option maxHeartbeats 2000000 in
theorem symbolAt_any (s : ByteArray) (w : World) (hs : s.size ≤ 1048576) :
    Calls Tryd.prog 26 #[.string s] w fun e w' => e = .returned (.string (symB s.data.toList)) ∧ Ext w w' := by
  have hsb : Hid (∀ f, f = firstP opsL s → symB s.data.toList = if f = ⟨#[]⟩ then s.extract 0 (symN s.data.toList) else f) := Lib.hid (by
    rintro f rfl
    rw [symB, mkB_data, extract_mk]; simp)
  go_enter Tryd.func26, Tryd.ntmps26
  go_wp2_with fail
  refine (operators_any _).mono ?_
  rintro e w1 ⟨ao, n, cap, fp, rfl, hr, hf, hx⟩
  go_wp2_with fail
  refine (firstOf_any opsL s _ _ hr.rep).mono ?_
  rintro e w' ⟨rfl, rfl⟩
  have HS := Lib.hid (hsb.out _ rfl)
  clear hsb hr hf
  generalize firstP opsL s = f at *
  by_cases h : f = ⟨#[]⟩
  rotate_left
  · have t0 : ¬ f.toList = [] := fun e => h (toList_inj (by rw [e]; simp))
    have t1 : f.toList.isEmpty = false := by simpa using t0
    have hr : Hid (symB s.data.toList = f) := Lib.hid (by rw [HS.out, if_neg h])
    clear h HS
    go_wp2_with fail
    go_ret
    exact ⟨ret_str (by rw [hr.out]), hx⟩
  have hr : Hid (symB s.data.toList = s.extract 0 (symN s.data.toList)) := Lib.hid (by rw [HS.out, if_pos h])
  clear HS
  subst h
  have L0 : s.data.toList.drop 0 = s.data.toList := rfl
  have hrl : runL s.data.toList ≤ s.size := by have := runL_le s.data.toList; simpa using this
  have HD : ∀ k, s.data.toList.drop k = s.data.toList.drop k := fun _ => rfl
  clear HD
  go_wp2_with fail
  refine (runOf_any s _ (by omega)).mono ?_
  rw [show s.extract 0 (runAt s 0) = runB s.data.toList from by rw [extract_mk, runAt, runB]; simp]
  rintro e w' ⟨rfl, rfl⟩
  have hz := runB_size s.data.toList
  generalize runB s.data.toList = R at *
  obtain ⟨m, hm⟩ : ∃ m, runL s.data.toList = m := ⟨_, rfl⟩
  rw [hm] at hz hrl
  have HM := Lib.hid hm; clear hm
  have q1 : (0 : Int) ≤ m := by omega
  have q2 : (m : Int) ≤ s.size := by omega
  by_cases h0 : m = 0
  · have hy : Hid (symN s.data.toList = 0) := Lib.hid (by rw [symN, if_pos (by rw [HM.out, h0])])
    subst h0
    go_wp2_with fail
    go_ret
    exact ⟨ret_str (by rw [hr.out, hy.out]; apply ByteArray.ext; simp), hx⟩
  have q0 : ((m : Int) == 0) = false := int_ne (by omega)
  cases hc : colL (s.data.toList.drop m)
  · have hy : Hid (symN s.data.toList = m) := Lib.hid (by rw [symN, HM.out, if_neg h0, if_neg (by rw [hc]; exact Bool.false_ne_true)])
    have HC := Lib.hid hc; clear hc
    go_wp2_with fail
    refine (colon_suf s m _ hs).mono ?_
    rw [HC.out]
    rintro e w' ⟨rfl, rfl⟩
    go_wp2_with fail
    go_ret
    exact ⟨ret_str (by rw [hr.out, hy.out]), hx⟩
  have hy : Hid (symN s.data.toList = m + 1 + kwL (s.data.toList.drop (m + 1))) := Lib.hid (by rw [symN, HM.out, if_neg h0, if_pos hc, kw_yes (by rw [HM.out]; exact h0) (by rw [HM.out]; exact hc), HM.out])
  have hlt : m + 1 ≤ s.size := by have := colL_pos hc; simp at this; have e : s.data.size = s.size := rfl; omega
  have HC := Lib.hid hc; clear hc
  go_wp2_with fail
  refine (colon_suf s m _ hs).mono ?_
  rw [HC.out]
  rintro e w' ⟨rfl, rfl⟩
  go_wp2_with fail
  clear hz
  go_loop [4] (fun nv => ∃ n : Nat, n ≤ s.size ∧ nv = .int .i64 n ∧ Hid (symN s.data.toList = n + kwL (s.data.toList.drop n))) (fun nv => s.size - (intOf nv).toNat)
  case atStart => exact ⟨m + 1, hlt, by go_num, hy⟩
  case round =>
    clear q0 q1 q2 hrl hlt hy HC HM h0
    obtain ⟨n, hn, rfl, hR⟩ := hrel
    have p0 : (0 : Int) ≤ n := by omega
    have p1 : (n : Int) ≤ s.size := by omega
    have hrn : n + runL (s.data.toList.drop n) ≤ s.size := by have := runL_le (s.data.toList.drop n); simp at this; have e : s.data.size = s.size := rfl; omega
    have hzn := runB_size (s.data.toList.drop n)
    have HRN := Lib.hid hrn; clear hrn
    have HZN := Lib.hid hzn; clear hzn
    go_wp2_with fail
    refine (runOf_suf s n _ hs).mono ?_
    rintro e w' ⟨rfl, rfl⟩
    generalize runB (s.data.toList.drop n) = R2 at *
    obtain ⟨j, hj⟩ : ∃ j, runL (s.data.toList.drop n) = j := ⟨_, rfl⟩
    have hzn := HZN.out
    have hrn := HRN.out
    rw [hj] at hzn hrn
    have HJ := Lib.hid hj; clear hj HZN HRN
    have g1 : (0 : Int) ≤ (n : Int) + j := by omega
    have g2 : (n : Int) + j ≤ s.size := by omega
    by_cases h2 : j = 0
    · have hy2 : Hid (symN s.data.toList = n) := Lib.hid (by rw [hR.out, kw_no0 (by rw [HJ.out, h2]), Nat.add_zero])
      subst h2
      go_wp2_with fail
      go_ret
      exact ⟨ret_str (by rw [hr.out, hy2.out]), hx⟩
    have g0 : ((j : Int) == 0) = false := int_ne (by omega)
    cases hc2 : colL (s.data.toList.drop (n + j))
    · have hy2 : Hid (symN s.data.toList = n) := Lib.hid (by rw [hR.out, kw_noc (by rw [HJ.out, List.drop_drop]; exact hc2), Nat.add_zero])
      have HC2 := Lib.hid hc2; clear hc2
      go_wp2_with fail
      refine (colon_suf s (n + j) _ hs).mono ?_
      rw [HC2.out]
      rintro e w' ⟨rfl, rfl⟩
      go_wp2_with fail
      go_ret
      exact ⟨ret_str (by rw [hr.out, hy2.out]), hx⟩
    · have hy2 : Hid (symN s.data.toList = n + (j + 1) + kwL (s.data.toList.drop (n + (j + 1)))) := Lib.hid (by
        rw [hR.out, kw_yes (by rw [HJ.out]; exact h2) (by rw [HJ.out, List.drop_drop]; exact hc2), List.drop_drop, HJ.out]; omega)
      have hlt2 : n + (j + 1) ≤ s.size := by have := colL_pos hc2; simp at this; have e : s.data.size = s.size := rfl; omega
      have HC2 := Lib.hid hc2; clear hc2
      go_wp2_with fail
      refine (colon_suf s (n + j) _ hs).mono ?_
      rw [HC2.out]
      rintro e w' ⟨rfl, rfl⟩
      go_wp2_with fail
      go_round
      case rel => exact ⟨n + (j + 1), hlt2, by go_num, hy2⟩
      case measure => simp [intOf]; omega

end Go.Proofs.YtkajinmknhnpkaaDoor
