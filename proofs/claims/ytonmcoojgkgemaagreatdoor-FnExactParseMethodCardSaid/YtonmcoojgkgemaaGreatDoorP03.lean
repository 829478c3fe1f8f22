/-
  SEVERAL TEXTS IN ONE: CONTRACTS: letters, digits, names, of the program and of the reference; A TEXT CUT AT A BYTE: plain laws.
  Conditions: those that each lemma states.
-/
import Derived.Test.YtonmcoojgkgemaaGreatDoorRows
import Derived.Lib.SplitLaws
import Derived.Test.YtonmcoojgkgemaaGreatDoorP02
namespace Go.Proofs.YtonmcoojgkgemaaGreatDoor
open Go.RowKit
set_option linter.unusedSimpArgs false
set_option linter.unusedVariables false

def ltrB (n : Int) : Bool := decide (97 ≤ n ∧ n ≤ 122 ∨ 65 ≤ n ∧ n ≤ 90)
def dgtB (n : Int) : Bool := decide (48 ≤ n ∧ n ≤ 57)

set_option maxHeartbeats 400000 in
theorem l2Letter_any (n : Int) (w : World) (h0 : 0 ≤ n) (h1 : n ≤ 255) : Calls Tryz.prog 96 #[.int .u8 n] w fun e w' => e = .returned (.bool (ltrB n)) ∧ w' = w := by
  go_enter Tryz.func96, Tryz.ntmps96
  go_wp2
  all_goals go_ret
  all_goals exact ⟨ret_bool (by rw [Bool.eq_iff_iff]; simp [ltrB] <;> omega), rfl⟩
set_option maxHeartbeats 400000 in
theorem l2Digit_any (n : Int) (w : World) (h0 : 0 ≤ n) (h1 : n ≤ 255) : Calls Tryz.prog 98 #[.int .u8 n] w fun e w' => e = .returned (.bool (dgtB n)) ∧ w' = w := by
  go_enter Tryz.func98, Tryz.ntmps98
  go_wp2
  all_goals go_ret
  all_goals exact ⟨ret_bool (by rw [Bool.eq_iff_iff]; simp [dgtB] <;> omega), rfl⟩
set_option maxHeartbeats 400000 in
theorem isLetter_any (n : Int) (w : World) (h0 : 0 ≤ n) (h1 : n ≤ 255) : Calls Tryz.prog 106 #[.int .u8 n] w fun e w' => e = .returned (.bool (ltrB n)) ∧ w' = w := by
  go_enter Tryz.func106, Tryz.ntmps106
  go_wp2
  all_goals go_ret
  all_goals exact ⟨ret_bool (by rw [Bool.eq_iff_iff]; simp [ltrB] <;> omega), rfl⟩
set_option maxHeartbeats 400000 in
theorem isDigit_any (n : Int) (w : World) (h0 : 0 ≤ n) (h1 : n ≤ 255) : Calls Tryz.prog 110 #[.int .u8 n] w fun e w' => e = .returned (.bool (dgtB n)) ∧ w' = w := by
  go_enter Tryz.func110, Tryz.ntmps110
  go_wp2
  all_goals go_ret
  all_goals exact ⟨ret_bool (by rw [Bool.eq_iff_iff]; simp [dgtB] <;> omega), rfl⟩

def alnB (b : UInt8) : Bool := ltrB b.toNat || dgtB b.toNat
/-- How many letters and digits a text begins with. -/
def runL : List UInt8 → Nat
  | [] => 0
  | b :: l => if alnB b then runL l + 1 else 0
theorem runL_le : ∀ l, runL l ≤ l.length
  | [] => by simp [runL]
  | b :: l => by have := runL_le l; simp only [runL]; split <;> simp <;> omega
/-- The letters and digits from place k on, up to their end. -/
def runAt (s : ByteArray) (k : Nat) : Nat := k + runL (s.data.toList.drop k)
theorem runAt_le {s : ByteArray} {k : Nat} (h : k ≤ s.size) : runAt s k ≤ s.size := by
  have := runL_le (s.data.toList.drop k)
  have e : s.data.toList.length = s.size := by simp
  unfold runAt; simp at this ⊢; have : s.data.size = s.size := rfl; omega
theorem drop_get {s : ByteArray} {k : Nat} (h : k < s.size) : s.data.toList.drop k = s[k] :: s.data.toList.drop (k + 1) := by
  rw [List.drop_eq_getElem_cons (by simpa using h)]; rfl
theorem runAt_yes {s : ByteArray} {k : Nat} (h : k < s.size) (ha : alnB s[k] = true) : runAt s (k + 1) = runAt s k := by
  unfold runAt; rw [drop_get h, runL, if_pos ha]; omega
theorem runAt_no {s : ByteArray} {k : Nat} (h : k < s.size) (ha : alnB s[k] = false) : runAt s k = k := by
  unfold runAt; rw [drop_get h, runL, if_neg (by simp [ha])]; omega
theorem runAt_end {s : ByteArray} {k : Nat} (h : s.size ≤ k) : runAt s k = k := by
  unfold runAt; rw [List.drop_eq_nil_of_le (by simpa using h)]; simp [runL]

theorem byte_bd (b : UInt8) : (0 : Int) ≤ (b.toNat : Int) ∧ (b.toNat : Int) ≤ 255 := by have := b.toNat_lt; omega

set_option maxHeartbeats 1000000 in
theorem l2Run_any (s : ByteArray) (k0 : Nat) (w : World) (hs : s.size ≤ 9223372036854775806) (hk : k0 ≤ s.size) :
    Calls Tryz.prog 133 #[.string s, .int .i64 k0] w fun e w' => e = .returned (.int .i64 (runAt s k0)) ∧ w' = w := by
  go_enter Tryz.func133, Tryz.ntmps133
  go_wp2_with fail
  go_loop [1] (fun i => ∃ k : Nat, k ≤ s.size ∧ i = .int .i64 k ∧ Hid (runAt s k = runAt s k0)) (fun i => s.size - (intOf i).toNat)
  case atStart => exact ⟨k0, hk, rfl, Lib.hid rfl⟩
  case round =>
    obtain ⟨k, hk1, rfl, hR⟩ := hrel
    by_cases hlt : k < s.size
    · obtain ⟨hb0, hb1⟩ := byte_bd s[k]
      cases hl : ltrB (s[k].toNat : Int)
      · cases hd : dgtB (s[k].toNat : Int)
        · have ha : Hid (alnB s[k] = false) := Lib.hid (by simp [alnB, hl, hd])
          go_wp2_with (first | (go_at_call 96; refine (l2Letter_any _ _ hb0 hb1).mono ?_; rintro e w' ⟨rfl, rfl⟩) | (go_at_call 98; refine (l2Digit_any _ _ hb0 hb1).mono ?_; rintro e w' ⟨rfl, rfl⟩))
          go_ret
          exact ⟨ret_int (by rw [← hR.out, runAt_no hlt ha.out]), rfl⟩
        · have ha : Hid (alnB s[k] = true) := Lib.hid (by simp [alnB, hl, hd])
          go_wp2_with (first | (go_at_call 96; refine (l2Letter_any _ _ hb0 hb1).mono ?_; rintro e w' ⟨rfl, rfl⟩) | (go_at_call 98; refine (l2Digit_any _ _ hb0 hb1).mono ?_; rintro e w' ⟨rfl, rfl⟩))
          go_round
          case rel => exact ⟨k + 1, by omega, by go_num, Lib.hid (by rw [← hR.out, runAt_yes hlt ha.out])⟩
          case measure => simp [intOf]; omega
      · have ha : Hid (alnB s[k] = true) := Lib.hid (by simp [alnB, hl])
        go_wp2_with (first | (go_at_call 96; refine (l2Letter_any _ _ hb0 hb1).mono ?_; rintro e w' ⟨rfl, rfl⟩) | (go_at_call 98; refine (l2Digit_any _ _ hb0 hb1).mono ?_; rintro e w' ⟨rfl, rfl⟩))
        go_round
        case rel => exact ⟨k + 1, by omega, by go_num, Lib.hid (by rw [← hR.out, runAt_yes hlt ha.out])⟩
        case measure => simp [intOf]; omega
    · go_wp2_with fail
      go_ret
      exact ⟨ret_int (by rw [← hR.out, runAt_end (by omega)]), rfl⟩

set_option maxHeartbeats 1000000 in
theorem runOf_any (s : ByteArray) (w : World) (hs : s.size ≤ 9223372036854775806) :
    Calls Tryz.prog 107 #[.string s] w fun e w' => e = .returned (.string (s.extract 0 (runAt s 0))) ∧ w' = w := by
  go_enter Tryz.func107, Tryz.ntmps107
  go_wp2_with fail
  go_loop [3] (fun i => ∃ k : Nat, k ≤ s.size ∧ i = .int .i64 k ∧ Hid (runAt s k = runAt s 0)) (fun i => s.size - (intOf i).toNat)
  case atStart => exact ⟨0, Nat.zero_le _, rfl, Lib.hid rfl⟩
  case round =>
    obtain ⟨k, hk1, rfl, hR⟩ := hrel
    by_cases hlt : k < s.size
    · obtain ⟨hb0, hb1⟩ := byte_bd s[k]
      cases hl : ltrB (s[k].toNat : Int)
      · cases hd : dgtB (s[k].toNat : Int)
        · have ha : Hid (alnB s[k] = false) := Lib.hid (by simp [alnB, hl, hd])
          go_wp2_with (first | (go_at_call 106; refine (isLetter_any _ _ hb0 hb1).mono ?_; rintro e w' ⟨rfl, rfl⟩) | (go_at_call 110; refine (isDigit_any _ _ hb0 hb1).mono ?_; rintro e w' ⟨rfl, rfl⟩))
          go_ret
          exact ⟨ret_str (by rw [← hR.out, runAt_no hlt ha.out]), rfl⟩
        · have ha : Hid (alnB s[k] = true) := Lib.hid (by simp [alnB, hl, hd])
          go_wp2_with (first | (go_at_call 106; refine (isLetter_any _ _ hb0 hb1).mono ?_; rintro e w' ⟨rfl, rfl⟩) | (go_at_call 110; refine (isDigit_any _ _ hb0 hb1).mono ?_; rintro e w' ⟨rfl, rfl⟩))
          go_round
          case rel => exact ⟨k + 1, by omega, by go_num, Lib.hid (by rw [← hR.out, runAt_yes hlt ha.out])⟩
          case measure => simp [intOf]; omega
      · have ha : Hid (alnB s[k] = true) := Lib.hid (by simp [alnB, hl])
        go_wp2_with (first | (go_at_call 106; refine (isLetter_any _ _ hb0 hb1).mono ?_; rintro e w' ⟨rfl, rfl⟩) | (go_at_call 110; refine (isDigit_any _ _ hb0 hb1).mono ?_; rintro e w' ⟨rfl, rfl⟩))
        go_round
        case rel => exact ⟨k + 1, by omega, by go_num, Lib.hid (by rw [← hR.out, runAt_yes hlt ha.out])⟩
        case measure => simp [intOf]; omega
    · go_wp2_with fail
      go_ret
      exact ⟨ret_str (by rw [← hR.out, runAt_end (by omega)]), rfl⟩

/-- Letters and digits, the first one a letter, of the length of a name. -/
def partB (s : ByteArray) : Bool := decide (1 ≤ s.size ∧ s.size ≤ 20 ∧ ∃ h : 0 < s.size, ltrB (s[0].toNat : Int) = true ∧ runAt s 0 = s.size)
theorem partB_tt {s : ByteArray} (h1 : 0 < s.size) (h2 : s.size ≤ 20) (h3 : ltrB (s[0].toNat : Int) = true) (h4 : runAt s 0 = s.size) : partB s = true := by
  unfold partB; exact decide_eq_true ⟨by omega, h2, h1, h3, h4⟩
theorem partB_ff {s : ByteArray} (h : ¬ (1 ≤ s.size ∧ s.size ≤ 20 ∧ ∃ h : 0 < s.size, ltrB (s[0].toNat : Int) = true ∧ runAt s 0 = s.size)) : partB s = false := by
  unfold partB; exact decide_eq_false h

set_option maxHeartbeats 400000 in
theorem within_any (n a b : Int) (w : World) : Calls Tryz.prog 120 #[.int .i64 n, .int .i64 a, .int .i64 b] w fun e w' => e = .returned (.bool (decide (a ≤ n ∧ n ≤ b))) ∧ w' = w := by
  go_enter Tryz.func120, Tryz.ntmps120
  go_wp2
  all_goals go_ret
  all_goals exact ⟨ret_bool (by first | rfl | (apply Bool.eq_iff_iff.2; first | (simp; done) | (simp; omega))), rfl⟩

set_option maxHeartbeats 1000000 in
theorem l2IsName_any (s : ByteArray) (w : World) (hs : s.size ≤ 9223372036854775806) :
    Calls Tryz.prog 129 #[.string s] w fun e w' => e = .returned (.bool (partB s)) ∧ w' = w := by
  by_cases h1 : 0 < s.size
  rotate_left
  · have hp := Lib.hid (partB_ff (s := s) (by rintro ⟨a, b, c, d⟩; omega))
    go_enter Tryz.func129, Tryz.ntmps129
    go_wp2_with fail
    go_ret
    exact ⟨ret_bool (by rw [hp.out]), rfl⟩
  by_cases h2 : s.size ≤ 20
  rotate_left
  · have hp := Lib.hid (partB_ff (s := s) (by rintro ⟨a, b, c, d⟩; omega))
    go_enter Tryz.func129, Tryz.ntmps129
    go_wp2_with fail
    go_ret
    exact ⟨ret_bool (by rw [hp.out]), rfl⟩
  obtain ⟨hb0, hb1⟩ := byte_bd s[0]
  cases h3 : ltrB (s[0].toNat : Int)
  · have hp := Lib.hid (partB_ff (s := s) (by rintro ⟨a, b, c, d, e⟩; rw [d] at h3; cases h3))
    go_enter Tryz.func129, Tryz.ntmps129
    go_wp2_with (go_at_call 96; refine (l2Letter_any _ _ hb0 hb1).mono ?_; rintro e w' ⟨rfl, rfl⟩)
    go_ret
    exact ⟨ret_bool (by rw [hp.out]), rfl⟩
  have hr := runAt_le (s := s) (k := 0) (by omega)
  by_cases h4 : runAt s 0 = s.size
  · have hp := Lib.hid (partB_tt h1 h2 h3 h4)
    have ht : ((runAt s 0 : Int) == (s.size : Int)) = true := by simp [h4]
    clear h4
    go_enter Tryz.func129, Tryz.ntmps129
    go_wp2_with (first | (go_at_call 96; refine (l2Letter_any _ _ hb0 hb1).mono ?_; rintro e w' ⟨rfl, rfl⟩) | (go_at_call 133; refine (l2Run_any s 0 _ hs (by omega)).mono ?_; rintro e w' ⟨rfl, rfl⟩))
    go_ret
    exact ⟨ret_bool (by rw [hp.out]), rfl⟩
  · have hp := Lib.hid (partB_ff (s := s) (by rintro ⟨a, b, c, d, e⟩; exact h4 e))
    have ht : ((runAt s 0 : Int) == (s.size : Int)) = false := by simp; omega
    clear h4
    go_enter Tryz.func129, Tryz.ntmps129
    go_wp2_with (first | (go_at_call 96; refine (l2Letter_any _ _ hb0 hb1).mono ?_; rintro e w' ⟨rfl, rfl⟩) | (go_at_call 133; refine (l2Run_any s 0 _ hs (by omega)).mono ?_; rintro e w' ⟨rfl, rfl⟩))
    go_ret
    exact ⟨ret_bool (by rw [hp.out]), rfl⟩

theorem extract_all (s : ByteArray) (n : Nat) (h : n = s.size) : s.extract 0 n = s := by subst h; simp
theorem extract_ne {s : ByteArray} {n : Nat} (h : n ≤ s.size) (h' : n ≠ s.size) : ¬ s.extract 0 n = s := by
  intro e
  have := congrArg ByteArray.size e
  simp at this; omega

set_option maxHeartbeats 1000000 in
theorem isPart_any (s : ByteArray) (w : World) (hs : s.size ≤ 9223372036854775806) :
    Calls Tryz.prog 131 #[.string s] w fun e w' => e = .returned (.bool (partB s)) ∧ w' = w := by
  by_cases h1 : 0 < s.size
  rotate_left
  · have hp := Lib.hid (partB_ff (s := s) (by rintro ⟨a, b, c, d⟩; omega))
    have hw : decide ((1 : Int) ≤ (s.size : Int) ∧ (s.size : Int) ≤ 20) = false := decide_eq_false (by omega)
    go_enter Tryz.func131, Tryz.ntmps131
    go_wp2_with fail
    refine (within_any _ _ _ _).mono ?_
    rw [hw]
    rintro e w' ⟨rfl, rfl⟩
    go_wp2_with fail
    go_ret
    exact ⟨ret_bool (by rw [hp.out]), rfl⟩
  by_cases h2 : s.size ≤ 20
  rotate_left
  · have hp := Lib.hid (partB_ff (s := s) (by rintro ⟨a, b, c, d⟩; omega))
    have hw : decide ((1 : Int) ≤ (s.size : Int) ∧ (s.size : Int) ≤ 20) = false := decide_eq_false (by omega)
    go_enter Tryz.func131, Tryz.ntmps131
    go_wp2_with fail
    refine (within_any _ _ _ _).mono ?_
    rw [hw]
    rintro e w' ⟨rfl, rfl⟩
    go_wp2_with fail
    go_ret
    exact ⟨ret_bool (by rw [hp.out]), rfl⟩
  have hw : decide ((1 : Int) ≤ (s.size : Int) ∧ (s.size : Int) ≤ 20) = true := decide_eq_true (by omega)
  obtain ⟨hb0, hb1⟩ := byte_bd s[0]
  cases h3 : ltrB (s[0].toNat : Int)
  · have hp := Lib.hid (partB_ff (s := s) (by rintro ⟨a, b, c, d, e⟩; rw [d] at h3; cases h3))
    go_enter Tryz.func131, Tryz.ntmps131
    go_wp2_with fail
    refine (within_any _ _ _ _).mono ?_
    rw [hw]
    rintro e w' ⟨rfl, rfl⟩
    go_wp2_with (go_at_call 106; refine (isLetter_any _ _ hb0 hb1).mono ?_; rintro e w' ⟨rfl, rfl⟩)
    go_ret
    exact ⟨ret_bool (by rw [hp.out]), rfl⟩
  have hr := runAt_le (s := s) (k := 0) (by omega)
  by_cases h4 : runAt s 0 = s.size
  · have hp := Lib.hid (partB_tt h1 h2 h3 h4)
    have ht := str_eq (extract_all s _ h4)
    clear h4
    go_enter Tryz.func131, Tryz.ntmps131
    go_wp2_with fail
    refine (within_any _ _ _ _).mono ?_
    rw [hw]
    rintro e w' ⟨rfl, rfl⟩
    go_wp2_with (first | (go_at_call 106; refine (isLetter_any _ _ hb0 hb1).mono ?_; rintro e w' ⟨rfl, rfl⟩) | (go_at_call 107; refine (runOf_any s _ hs).mono ?_; rintro e w' ⟨rfl, rfl⟩))
    go_ret
    exact ⟨ret_bool (by rw [hp.out]), rfl⟩
  · have hp := Lib.hid (partB_ff (s := s) (by rintro ⟨a, b, c, d, e⟩; exact h4 e))
    have ht := str_ne (extract_ne hr h4)
    clear h4
    go_enter Tryz.func131, Tryz.ntmps131
    go_wp2_with fail
    refine (within_any _ _ _ _).mono ?_
    rw [hw]
    rintro e w' ⟨rfl, rfl⟩
    go_wp2_with (first | (go_at_call 106; refine (isLetter_any _ _ hb0 hb1).mono ?_; rintro e w' ⟨rfl, rfl⟩) | (go_at_call 107; refine (runOf_any s _ hs).mono ?_; rintro e w' ⟨rfl, rfl⟩))
    go_ret
    exact ⟨ret_bool (by rw [hp.out]), rfl⟩

/-- The words that are no names. -/
def wordsL : List ByteArray := [⟨#[99, 108, 97, 115, 115]⟩, ⟨#[101, 120, 116, 101, 110, 100, 115]⟩, ⟨#[102, 105, 101, 108, 100, 115]⟩, ⟨#[109, 101, 116, 104, 111, 100]⟩, ⟨#[99, 108, 97, 115, 115, 109, 101, 116, 104, 111, 100]⟩, ⟨#[101, 110, 100]⟩, ⟨#[109, 97, 105, 110]⟩]
noncomputable def hasB (l : List ByteArray) (s : ByteArray) : Bool := eqB (s ∈ l) True
theorem hasB_tt {l : List ByteArray} {s : ByteArray} (h : s ∈ l) : hasB l s = true := eqB_tt (by simp [h])
theorem hasB_ff {l : List ByteArray} {s : ByteArray} (h : ¬ s ∈ l) : hasB l s = false := eqB_ff (by simp [h])
theorem hasB_iff {l : List ByteArray} {s : ByteArray} : hasB l s = true ↔ s ∈ l := by simp [hasB, eqB_iff]

set_option maxHeartbeats 1000000 in
theorem isWord_any (s : ByteArray) (w : World) : Calls Tryz.prog 109 #[.string s] w fun e w' => e = .returned (.bool (hasB wordsL s)) ∧ w' = w := by
  by_cases h : s ∈ wordsL
  · have hp := Lib.hid (hasB_tt h)
    simp only [wordsL, List.mem_cons, List.not_mem_nil, or_false] at h
    rcases h with rfl | rfl | rfl | rfl | rfl | rfl | rfl
    all_goals
      go_enter Tryz.func109, Tryz.ntmps109
      go_wp2
      go_ret
      exact ⟨ret_bool (by rw [hp.out]), rfl⟩
  · have hp := Lib.hid (hasB_ff h)
    simp only [wordsL, List.mem_cons, List.not_mem_nil, or_false, not_or] at h
    obtain ⟨h0, h1, h2, h3, h4, h5, h6⟩ := h
    have k0 := str_ne' h0
    have k1 := str_ne' h1
    have k2 := str_ne' h2
    have k3 := str_ne' h3
    have k4 := str_ne' h4
    have k5 := str_ne' h5
    have k6 := str_ne' h6
    clear h0 h1 h2 h3 h4 h5 h6
    go_enter Tryz.func109, Tryz.ntmps109
    go_wp2
    go_ret
    exact ⟨ret_bool (by rw [hp.out]), rfl⟩

set_option maxHeartbeats 400000 in
theorem l2Words_any (w : World) : Calls Tryz.prog 74 #[] w (GivesV w (strs wordsL)) := by
  go_enter Tryz.func74, Tryz.ntmps74
  go_wp2
  go_ret
  exact gives_strs w wordsL 9 (by simp [wordsL, maxLen]) (by simp [wordsL])

set_option maxHeartbeats 1000000 in
theorem l1Has_any (l : List ByteArray) (s : ByteArray) (va : Value) (w : World) (ra : Rep w (strs l) [va]) :
    Calls Tryz.prog 73 #[va, .string s] w fun e w' => e = .returned (.bool (hasB l s)) ∧ w' = w := by
  obtain ⟨ao, ca, ba, oa, h1, hla, hma, pa, ha⟩ := ra.strs
  simp only [List.cons.injEq, and_true] at h1
  subst h1
  clear ra
  unfold maxLen at hma
  go_enter Tryz.func73, Tryz.ntmps73
  go_wp2_with fail
  go_loop [5] (fun i => ∃ k : Nat, k ≤ l.length ∧ i = .int .i64 k ∧ Hid (∀ j, j < k → l[j]? ≠ some s)) (fun i => l.length - (intOf i).toNat)
  case atStart => exact ⟨0, Nat.zero_le _, rfl, Lib.hid fun j hj => by omega⟩
  case round =>
    obtain ⟨k, hk, rfl, hR⟩ := hrel
    by_cases hlt : k < l.length
    · obtain rfl := pa (by omega)
      have a0 := ha k l[k] (by simp [hlt])
      clear ha pa
      by_cases hs : l[k] = s
      · have ht := str_eq hs
        have hp := Lib.hid (hasB_tt (show s ∈ l from hs ▸ List.getElem_mem hlt))
        clear hs
        go_wp2_with fail
        go_ret
        exact ⟨ret_bool (by rw [hp.out]), rfl⟩
      · have ht := str_ne hs
        have HS := Lib.hid hs; clear hs
        go_wp2_with fail
        go_round
        case rel => exact ⟨k + 1, by omega, by go_num, Lib.hid fun j hj => by
          by_cases h : j < k
          · exact hR.out j h
          · obtain rfl : j = k := by omega
            simpa [hlt] using HS.out⟩
        case measure => simp [intOf]; omega
    · go_wp2_with fail
      go_ret
      have hp : hasB l s = false := hasB_ff fun hm => by
        obtain ⟨j, hj, he⟩ := List.mem_iff_getElem.1 hm
        exact hR.out j (by omega) (by simp [hj, he])
      exact ⟨ret_bool (by rw [hp]), rfl⟩

noncomputable def nameB (s : ByteArray) : Bool := partB s && !hasB wordsL s

set_option maxHeartbeats 400000 in
theorem spec_IsName_any (s : ByteArray) (w : World) (hs : s.size ≤ 9223372036854775806) :
    Calls Tryz.prog 83 #[.string s] w fun e w' => e = .returned (.bool (nameB s)) ∧ Ext w w' := by
  have hn : Hid (nameB s = (partB s && !hasB wordsL s)) := Lib.hid rfl
  go_enter Tryz.func83, Tryz.ntmps83
  cases hp : partB s
  · go_wp2_with fail
    refine (l2IsName_any s _ hs).mono ?_
    rw [hp]
    rintro e w' ⟨rfl, rfl⟩
    go_wp2_with fail
    go_ret
    exact ⟨ret_bool (by rw [hn.out, hp]; rfl), Ext.refl _⟩
  · go_wp2_with fail
    refine (l2IsName_any s _ hs).mono ?_
    rw [hp]
    rintro e w' ⟨rfl, rfl⟩
    go_wp2_with fail
    refine (l2Words_any _).mono ?_
    rintro e w1 ⟨ao, n, cap, fp, rfl, hr, hf, hx⟩
    go_wp2_with fail
    refine (l1Has_any wordsL s _ _ hr.rep).mono ?_
    rintro e w' ⟨rfl, rfl⟩
    go_wp2_with fail
    go_ret
    exact ⟨ret_bool (by rw [hn.out, hp]; rfl), hx⟩

set_option maxHeartbeats 400000 in
theorem impl_IsName_any (s : ByteArray) (w : World) (hs : s.size ≤ 9223372036854775806) :
    Calls Tryz.prog 89 #[.string s] w fun e w' => e = .returned (.bool (nameB s)) ∧ Ext w w' := by
  have hn : Hid (nameB s = (partB s && !hasB wordsL s)) := Lib.hid rfl
  go_enter Tryz.func89, Tryz.ntmps89
  cases hp : partB s
  · go_wp2_with fail
    refine (isPart_any s _ hs).mono ?_
    rw [hp]
    rintro e w' ⟨rfl, rfl⟩
    go_wp2_with fail
    go_ret
    exact ⟨ret_bool (by rw [hn.out, hp]; rfl), Ext.refl _⟩
  · go_wp2_with fail
    refine (isPart_any s _ hs).mono ?_
    rw [hp]
    rintro e w' ⟨rfl, rfl⟩
    go_wp2_with fail
    refine (isWord_any s _).mono ?_
    rintro e w' ⟨rfl, rfl⟩
    go_wp2_with fail
    go_ret
    exact ⟨ret_bool (by rw [hn.out, hp]; rfl), Ext.refl _⟩

open Go.RowKit
set_option linter.unusedSimpArgs false
set_option linter.unusedVariables false

def cutGo (c : UInt8) : List UInt8 → List UInt8 → List (List UInt8)
  | cur, [] => [cur]
  | cur, b :: t => if b = c then cur :: cutGo c [] t else cutGo c (cur ++ [b]) t
def onto (cur : List UInt8) : List (List UInt8) → List (List UInt8)
  | [] => []
  | h :: t => (cur ++ h) :: t
theorem splitK_ne (c b : UInt8) (hb : b ≠ c) : ∀ (k : Nat) (t : List UInt8), Lib.splitK [c] 0 k (b :: t) = onto [b] (Lib.splitK [c] 0 k t)
  | 0, t => rfl
  | k + 1, t => by
    have hp : ([c] : List UInt8).isPrefixOf (b :: t) = false := by simp [List.isPrefixOf, Ne.symm hb]
    have hix : Lib.index (b :: t) [c] = if Lib.index t [c] == -1 then -1 else Lib.index t [c] + 1 := by rw [Lib.index, hp]; simp
    by_cases hm : Lib.index t [c] = -1
    · simp [Lib.splitK, hix, hm, onto]
    · have hge := Lib.index_ge t [c]
      obtain ⟨j, hj⟩ : ∃ j : Nat, Lib.index t [c] = j := ⟨(Lib.index t [c]).toNat, by omega⟩
      have h1 : ((j : Int) == -1) = false := by simp <;> omega
      have h2 : ((j : Int) + 1 == -1) = false := by simp <;> omega
      have h3 : ((j : Int) + 1).toNat = j + 1 := by omega
      simp [Lib.splitK, hix, hj, h1, h2, h3, onto]
theorem cutGo_split (c : UInt8) : ∀ (s : List UInt8) (cur : List UInt8), cutGo c cur s = onto cur (Lib.splitK [c] 0 (Lib.count s [c]) s)
  | [], cur => by rw [Lib.count_miss (by simp [Lib.index])]; simp [cutGo, Lib.splitK, onto]
  | b :: t, cur => by
    by_cases h : b = c
    · subst h
      rw [Lib.count_cons_eq, Nat.add_comm]
      have hix : Lib.index (b :: t) [b] = ((0 : Nat) : Int) := by rw [Lib.index]; simp [List.isPrefixOf]
      have e : Lib.splitK [b] 0 (Lib.count t [b] + 1) (b :: t) = [] :: Lib.splitK [b] 0 (Lib.count t [b]) t := by simp [Lib.splitK, hix]
      rw [cutGo, if_pos rfl, e, cutGo_split b t]
      cases hk : Lib.splitK [b] 0 (Lib.count t [b]) t <;> simp [onto]
    · rw [Lib.count_cons_ne b c t h, splitK_ne c b h, cutGo, if_neg h, cutGo_split c t]
      cases hk : Lib.splitK [c] 0 (Lib.count t [c]) t <;> simp [onto]
theorem cutGo_length (c : UInt8) : ∀ (s cur : List UInt8), (cutGo c cur s).length = s.count c + 1
  | [], cur => by simp [cutGo]
  | b :: t, cur => by
    by_cases h : b = c
    · subst h; simp [cutGo, cutGo_length b t]
    · rw [cutGo, if_neg h, cutGo_length c t, List.count_cons_of_ne (by simpa using h)]
theorem cutGo_last (c : UInt8) : ∀ (s cur : List UInt8), cutGo c cur (s ++ [c]) = cutGo c cur s ++ [[]]
  | [], cur => by simp [cutGo]
  | b :: t, cur => by
    by_cases h : b = c
    · subst h; simp [cutGo, cutGo_last b t]
    · simp [cutGo, h, cutGo_last c t]
theorem cutGo_snoc (c b : UInt8) (hb : b ≠ c) : ∀ (s cur : List UInt8), ∃ l m, cutGo c cur (s ++ [b]) = l ++ [m ++ [b]]
  | [], cur => ⟨[], cur, by simp [cutGo, hb]⟩
  | a :: t, cur => by
    by_cases h : a = c
    · subst h
      obtain ⟨l, m, e⟩ := cutGo_snoc a b hb t []
      exact ⟨cur :: l, m, by simp [cutGo, e]⟩
    · obtain ⟨l, m, e⟩ := cutGo_snoc c b hb t (cur ++ [a])
      exact ⟨l, m, by simp [cutGo, h, e]⟩
theorem cutGo_none (c : UInt8) : ∀ (s cur : List UInt8), c ∉ s → cutGo c cur s = [cur ++ s]
  | [], cur, _ => by simp [cutGo]
  | b :: t, cur, h => by
    have h1 : b ≠ c := fun e => h (by simp [e])
    rw [cutGo, if_neg h1, cutGo_none c t _ (fun m => h (by simp [m]))]
    simp
theorem cutGo_size (c : UInt8) : ∀ (s cur : List UInt8) (x : List UInt8), x ∈ cutGo c cur s → x.length ≤ cur.length + s.length
  | [], cur, x, h => by simp [cutGo] at h; subst h; simp
  | b :: t, cur, x, h => by
    by_cases e : b = c
    · subst e
      simp only [cutGo, if_pos, List.mem_cons] at h
      rcases h with rfl | h
      · simp
      · have := cutGo_size b t [] x h; simp at this ⊢; omega
    · rw [cutGo, if_neg e] at h
      have := cutGo_size c t _ x h
      simp at this ⊢; omega
def mkB (l : List UInt8) : ByteArray := ⟨l.toArray⟩
theorem mkB_data (s : ByteArray) : mkB s.data.toList = s := by apply ByteArray.ext; simp [mkB]
theorem data_mkB (l : List UInt8) : (mkB l).data.toList = l := by simp [mkB]
theorem mkB_size (l : List UInt8) : (mkB l).size = l.length := by simp [mkB, ByteArray.size]
theorem extract_mk (s : ByteArray) (a b : Nat) : s.extract a b = mkB ((s.data.toList.drop a).take (b - a)) := by
  rw [← mkB_data (s.extract a b)]
  simp [mkB, List.extract_eq_take_drop]
/-- A text cut at a byte. -/
def cutB (c : UInt8) (s : ByteArray) : List ByteArray := (cutGo c [] s.data.toList).map mkB
theorem splitB_cut (c : UInt8) (s : ByteArray) : Lib.splitB ⟨#[c]⟩ 0 (Lib.countB s ⟨#[c]⟩) s = cutB c s := by
  have h := Lib.splitB_data ⟨#[c]⟩ 0 (Lib.countB s ⟨#[c]⟩) s
  have h1 : Lib.splitK [c] 0 (Lib.count s.data.toList [c]) s.data.toList = cutGo c [] s.data.toList := by
    rw [cutGo_split]
    cases hk : Lib.splitK [c] 0 (Lib.count s.data.toList [c]) s.data.toList <;> simp [onto]
  have h2 : (Lib.splitB ⟨#[c]⟩ 0 (Lib.countB s ⟨#[c]⟩) s).map (fun x : ByteArray => x.data.toList) = cutGo c [] s.data.toList := by
    rw [← h1]; exact h
  unfold cutB
  rw [← h2, List.map_map]
  conv => lhs; rw [← List.map_id (Lib.splitB ⟨#[c]⟩ 0 (Lib.countB s ⟨#[c]⟩) s)]
  exact List.map_congr_left fun x _ => (mkB_data x).symm
theorem cutB_length (c : UInt8) (s : ByteArray) : (cutB c s).length = s.data.toList.count c + 1 := by simp only [cutB, List.length_map, cutGo_length]
theorem cutB_le (c : UInt8) (s : ByteArray) : (cutB c s).length ≤ s.size + 1 := by
  rw [cutB_length]
  have := List.count_le_length (a := c) (l := s.data.toList)
  have e : s.data.toList.length = s.size := by simp
  omega
theorem cutB_mem {c : UInt8} {s x : ByteArray} (h : x ∈ cutB c s) : x.size ≤ s.size := by
  simp only [cutB, List.mem_map] at h
  obtain ⟨l, hl, rfl⟩ := h
  have := cutGo_size c _ _ l hl
  have e : s.data.toList.length = s.size := by simp
  rw [mkB_size]; simp only [List.length_nil] at this; omega
theorem countB_cut (c : UInt8) (s : ByteArray) : Lib.countB s ⟨#[c]⟩ + 1 = (cutB c s).length := by
  rw [cutB_length, ← Lib.count_one]

/-- What is left to cut, from a place on. -/
def cutAt (c : UInt8) (s : ByteArray) (a i : Nat) : List ByteArray := (cutGo c ((s.data.toList.drop a).take (i - a)) (s.data.toList.drop i)).map mkB
theorem cutAt_zero (c : UInt8) (s : ByteArray) : cutAt c s 0 0 = cutB c s := by simp [cutAt, cutB]
theorem cutAt_yes {c : UInt8} {s : ByteArray} {a i : Nat} (h : i < s.size) (hc : s[i] = c) : cutAt c s a i = s.extract a i :: cutAt c s (i + 1) (i + 1) := by
  simp only [cutAt, drop_get h, cutGo, hc, if_pos]
  rw [extract_mk]; simp
theorem take_snoc {l : List UInt8} {n : Nat} {b : UInt8} (h : l[n]? = some b) : l.take (n + 1) = l.take n ++ [b] := by
  rw [List.take_add_one, h]; simp
theorem cutAt_no {c : UInt8} {s : ByteArray} {a i : Nat} (h : i < s.size) (ha : a ≤ i) (hc : ¬ s[i] = c) : cutAt c s a i = cutAt c s a (i + 1) := by
  simp only [cutAt, drop_get h, cutGo, if_neg hc]
  have e : (s.data.toList.drop a)[i - a]? = some s[i] := by
    rw [List.getElem?_drop, show a + (i - a) = i from by omega, List.getElem?_eq_getElem (by simpa using h)]
    rfl
  rw [← take_snoc e, show i - a + 1 = i + 1 - a from by omega]
theorem cutAt_end {c : UInt8} {s : ByteArray} {a i : Nat} (h : s.size = i) : cutAt c s a i = [s.extract a i] := by
  have e : s.data.toList.drop i = [] := List.drop_eq_nil_of_le (by simp; exact Nat.le_of_eq h)
  simp only [cutAt, e, cutGo]
  rw [extract_mk]; simp

/-- The binary messages. -/
def opsL : List ByteArray := [⟨#[47, 47]⟩, ⟨#[92, 92]⟩, ⟨#[60, 61]⟩, ⟨#[62, 61]⟩, ⟨#[61, 61]⟩, ⟨#[126, 61]⟩, ⟨#[126, 126]⟩, ⟨#[43]⟩, ⟨#[45]⟩, ⟨#[42]⟩, ⟨#[60]⟩, ⟨#[62]⟩, ⟨#[61]⟩, ⟨#[44]⟩, ⟨#[38]⟩]

theorem runL_all : ∀ l : List UInt8, runL l = l.length → ∀ b, b ∈ l → alnB b = true
  | [], _, b, h => by simp at h
  | a :: l, h, b, hb => by
    have hle := runL_le l
    by_cases ha : alnB a = true
    · rw [runL, if_pos ha] at h
      simp only [List.length_cons] at h
      rcases List.mem_cons.1 hb with rfl | hb
      · exact ha
      · exact runL_all l (by omega) b hb
    · rw [runL, if_neg ha] at h; simp at h
theorem part_bytes {s : ByteArray} (h : partB s = true) : ∀ b, b ∈ s.data.toList → alnB b = true := by
  unfold partB at h
  obtain ⟨h1, h2, h3, h4, h5⟩ := of_decide_eq_true h
  refine runL_all _ ?_
  unfold runAt at h5
  simp at h5 ⊢; have : s.data.size = s.size := rfl; omega
theorem part_no {s : ByteArray} (c : UInt8) (hc : alnB c = false) (h : partB s = true) : c ∉ s.data.toList := fun m => by
  have := part_bytes h c m; rw [hc] at this; cases this

noncomputable def allB (p : ByteArray → Bool) (l : List ByteArray) : Bool := eqB (∀ x, x ∈ l → p x = true) True
theorem allB_tt {p : ByteArray → Bool} {l : List ByteArray} (h : ∀ x, x ∈ l → p x = true) : allB p l = true := eqB_tt (by simpa using h)
theorem allB_ff {p : ByteArray → Bool} {l : List ByteArray} {x : ByteArray} (h : x ∈ l) (hp : p x = false) : allB p l = false := eqB_ff (by simp; exact ⟨x, h, hp⟩)
theorem allB_iff {p : ByteArray → Bool} {l : List ByteArray} : allB p l = true ↔ ∀ x, x ∈ l → p x = true := by simp [allB, eqB_iff]

/-- The parts of a keyword message, without their colons; none: it is none. -/
def colB (s : ByteArray) : Bool := Lib.hasSuffix s.data.toList [58]
def stem (s : ByteArray) : ByteArray := s.extract 0 (s.size - 1)
noncomputable def kwB (s : ByteArray) : Bool := colB s && (allB partB (cutB 58 (stem s)) && decide ((cutB 58 (stem s)).length ≤ 4))
noncomputable def selB (s : ByteArray) : Bool := hasB opsL s || (nameB s || kwB s)
noncomputable def argsB (s : ByteArray) : Int := if hasB opsL s then 1 else if nameB s then 0 else if kwB s then (cutB 58 (stem s)).length else -1

theorem colB_iff {s : ByteArray} : colB s = true ↔ ∃ l, s.data.toList = l ++ [58] := by
  simp only [colB, Lib.hasSuffix, List.isSuffixOf_iff_suffix]
  constructor
  · rintro ⟨l, h⟩; exact ⟨l, h.symm⟩
  · rintro ⟨l, h⟩; exact ⟨l, h.symm⟩
theorem stem_data {s : ByteArray} {l : List UInt8} (h : s.data.toList = l ++ [58]) : (stem s).data.toList = l := by
  have e : s.size = l.length + 1 := by have := congrArg List.length h; simpa using this
  rw [stem, extract_mk, data_mkB, h, e]; simp
theorem cut_col {s : ByteArray} (h : colB s = true) : cutB 58 s = cutB 58 (stem s) ++ [ByteArray.empty] := by
  obtain ⟨l, hl⟩ := colB_iff.1 h
  simp only [cutB, stem_data hl]
  rw [hl, cutGo_last]
  simp only [List.map_append, List.map_cons, List.map_nil]
  rfl
theorem cut_last {s : ByteArray} (h : colB s = false) (hn : (cutB 58 s).length ≠ 1) : ∃ l x, cutB 58 s = l ++ [x] ∧ x.size ≠ 0 := by
  rcases List.eq_nil_or_concat s.data.toList with h0 | ⟨l, b, hl⟩
  · exact absurd (by simp [cutB, h0, cutGo]) hn
  · have hb : b ≠ 58 := by
      rintro rfl
      have := colB_iff.2 ⟨l, by simpa using hl⟩
      rw [h] at this; cases this
    obtain ⟨a, m, e⟩ := cutGo_snoc 58 b hb l []
    refine ⟨a.map mkB, mkB (m ++ [b]), ?_, by rw [mkB_size]; simp⟩
    simp only [cutB]
    rw [show s.data.toList = l ++ [b] from by simpa using hl, e]
    simp
theorem cut_single {s : ByteArray} (h : (cutB 58 s).length = 1) : cutB 58 s = [s] := by
  have hc : (58 : UInt8) ∉ s.data.toList := by
    rw [cutB_length] at h
    exact List.count_eq_zero.1 (by omega)
  rw [cutB, cutGo_none 58 _ _ hc]
  simp [mkB_data]
theorem name_single {s : ByteArray} (h : (cutB 58 s).length ≠ 1) : nameB s = false := by
  unfold nameB
  cases hp : partB s
  · rfl
  · have := part_no 58 (by decide) hp
    rw [cutB_length] at h
    exact absurd (by rw [List.count_eq_zero.2 this]) h
theorem single_col {s : ByteArray} (h : (cutB 58 s).length = 1) : colB s = false := by
  cases hc : colB s
  · rfl
  · have := cutB_length 58 (stem s)
    rw [cut_col hc, List.length_append, this] at h; simp only [List.length_cons, List.length_nil] at h; omega

theorem sel_one {s : ByteArray} (ho : hasB opsL s = false) (h : (cutB 58 s).length = 1) : selB s = nameB s ∧ (nameB s = true → argsB s = 0) := by
  have hc := single_col h
  refine ⟨by simp [selB, ho, kwB, hc], fun hn => by simp [argsB, ho, hn]⟩
theorem sel_col {s : ByteArray} (ho : hasB opsL s = false) (h : colB s = true) : selB s = (allB partB (cutB 58 (stem s)) && decide ((cutB 58 (stem s)).length ≤ 4)) ∧ (selB s = true → argsB s = (cutB 58 (stem s)).length) := by
  have hn : nameB s = false := name_single fun e => by rw [single_col e] at h; cases h
  refine ⟨by simp [selB, ho, kwB, h, hn], fun hs => ?_⟩
  have : kwB s = true := by simpa [selB, ho, hn] using hs
  simp [argsB, ho, hn, this]
theorem sel_none {s : ByteArray} (ho : hasB opsL s = false) (h : colB s = false) (h1 : (cutB 58 s).length ≠ 1) : selB s = false := by
  simp [selB, ho, kwB, h, name_single h1]
theorem args_none {s : ByteArray} (h : selB s = false) : argsB s = -1 := by
  simp only [selB, Bool.or_eq_false_iff] at h
  obtain ⟨h1, h2, h3⟩ := h
  simp [argsB, h1, h2, h3]
theorem args_op {s : ByteArray} (h : hasB opsL s = true) : argsB s = 1 := by simp [argsB, h]

end Go.Proofs.YtonmcoojgkgemaaGreatDoor
