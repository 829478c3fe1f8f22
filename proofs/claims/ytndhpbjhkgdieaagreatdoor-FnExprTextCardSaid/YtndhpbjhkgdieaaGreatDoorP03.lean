/-
  CONTRACTS: letters, digits, names, of the program and of the reference.
  Conditions: those that each lemma states.
-/
import Derived.Test.YtndhpbjhkgdieaaGreatDoorRows
import Derived.Test.YtndhpbjhkgdieaaGreatDoorP02
namespace Go.Proofs.YtndhpbjhkgdieaaGreatDoor
open Go.RowKit
set_option maxHeartbeats 8000000
set_option maxRecDepth 100000
set_option linter.unusedSimpArgs false
set_option linter.unusedVariables false
def ltrB (n : Int) : Bool := decide (97 <= n /\ n <= 122 ∨ 65 <= n /\ n <= 90)
def dgtB (n : Int) : Bool := decide (48 <= n /\ n <= 57)
theorem l2Letter_any (n : Int) (w : World) (h0 : 0 <= n) (h1 : n <= 255) : Calls Tryz.prog 49 #[.int .u8 n] w fun e w' => e = .returned (.bool (ltrB n)) /\ w' = w := by
 go_enter Tryz.func49, Tryz.ntmps49
 go_wp2
 all_goals go_ret
 all_goals exact ⟨ret_bool (by rw [Bool.eq_iff_iff]; simp [ltrB] <;> omega), rfl⟩
theorem l2Digit_any (n : Int) (w : World) (h0 : 0 <= n) (h1 : n <= 255) : Calls Tryz.prog 51 #[.int .u8 n] w fun e w' => e = .returned (.bool (dgtB n)) /\ w' = w := by
 go_enter Tryz.func51, Tryz.ntmps51
 go_wp2
 all_goals go_ret
 all_goals exact ⟨ret_bool (by rw [Bool.eq_iff_iff]; simp [dgtB] <;> omega), rfl⟩
theorem isLetter_any (n : Int) (w : World) (h0 : 0 <= n) (h1 : n <= 255) : Calls Tryz.prog 85 #[.int .u8 n] w fun e w' => e = .returned (.bool (ltrB n)) /\ w' = w := by
 go_enter Tryz.func85, Tryz.ntmps85
 go_wp2
 all_goals go_ret
 all_goals exact ⟨ret_bool (by rw [Bool.eq_iff_iff]; simp [ltrB] <;> omega), rfl⟩
theorem isDigit_any (n : Int) (w : World) (h0 : 0 <= n) (h1 : n <= 255) : Calls Tryz.prog 88 #[.int .u8 n] w fun e w' => e = .returned (.bool (dgtB n)) /\ w' = w := by
 go_enter Tryz.func88, Tryz.ntmps88
 go_wp2
 all_goals go_ret
 all_goals exact ⟨ret_bool (by rw [Bool.eq_iff_iff]; simp [dgtB] <;> omega), rfl⟩
def alnB (b : UInt8) : Bool := ltrB b.toNat || dgtB b.toNat
def runL : List UInt8 -> Nat
 | [] => 0
 | b :: l => if alnB b then runL l + 1 else 0
theorem runL_le : ∀ l, runL l <= l.length
 | [] => by simp [runL]
 | b :: l => by have := runL_le l; simp only [runL]; split <;> simp <;> omega
def runAt (s : ByteArray) (k : Nat) : Nat := k + runL (s.data.toList.drop k)
theorem runAt_le {s : ByteArray} {k : Nat} (h : k <= s.size) : runAt s k <= s.size := by
 have := runL_le (s.data.toList.drop k)
 have e : s.data.toList.length = s.size := by simp
 unfold runAt; simp at this ⊢; have : s.data.size = s.size := rfl; omega
theorem drop_get {s : ByteArray} {k : Nat} (h : k < s.size) : s.data.toList.drop k = s[k] :: s.data.toList.drop (k + 1) := by
 rw [List.drop_eq_getElem_cons (by simpa using h)]; rfl
theorem runAt_yes {s : ByteArray} {k : Nat} (h : k < s.size) (ha : alnB s[k] = true) : runAt s (k + 1) = runAt s k := by
 unfold runAt; rw [drop_get h, runL, if_pos ha]; omega
theorem runAt_no {s : ByteArray} {k : Nat} (h : k < s.size) (ha : alnB s[k] = false) : runAt s k = k := by
 unfold runAt; rw [drop_get h, runL, if_neg (by simp [ha])]; omega
theorem runAt_end {s : ByteArray} {k : Nat} (h : s.size <= k) : runAt s k = k := by
 unfold runAt; rw [List.drop_eq_nil_of_le (by simpa using h)]; simp [runL]
theorem byte_bd (b : UInt8) : (0 : Int) <= (b.toNat : Int) /\ (b.toNat : Int) <= 255 := by have := b.toNat_lt; omega
theorem l2Run_any (s : ByteArray) (k0 : Nat) (w : World) (hs : s.size <= 9223372036854775806) (hk : k0 <= s.size) :
 Calls Tryz.prog 80 #[.string s, .int .i64 k0] w fun e w' => e = .returned (.int .i64 (runAt s k0)) /\ w' = w := by
 go_enter Tryz.func80, Tryz.ntmps80
 go_wp2_with fail
 go_loop [1] (fun i => ∃ k : Nat, k <= s.size /\ i = .int .i64 k /\ Hid (runAt s k = runAt s k0)) (fun i => s.size - (intOf i).toNat)
 case atStart => exact ⟨k0, hk, rfl, LH rfl⟩
 case round =>
  obtain ⟨k, hk1, rfl, hR⟩ := hrel
  by_cases hlt : k < s.size
  · obtain ⟨hb0, hb1⟩ := byte_bd s[k]
    cases hl : ltrB (s[k].toNat : Int)
    · cases hd : dgtB (s[k].toNat : Int)
      · have ha : Hid (alnB s[k] = false) := LH (by simp [alnB, hl, hd])
        go_wp2_with (first | (go_at_call 49; refine (l2Letter_any _ _ hb0 hb1).mono ?_; rintro e w' ⟨rfl, rfl⟩) | (go_at_call 51; refine (l2Digit_any _ _ hb0 hb1).mono ?_; rintro e w' ⟨rfl, rfl⟩))
        go_ret
        exact ⟨ret_int (by rw [<- hR.out, runAt_no hlt ha.out]), rfl⟩
      · have ha : Hid (alnB s[k] = true) := LH (by simp [alnB, hl, hd])
        go_wp2_with (first | (go_at_call 49; refine (l2Letter_any _ _ hb0 hb1).mono ?_; rintro e w' ⟨rfl, rfl⟩) | (go_at_call 51; refine (l2Digit_any _ _ hb0 hb1).mono ?_; rintro e w' ⟨rfl, rfl⟩))
        go_round
        case rel => exact ⟨k + 1, by omega, by go_num, LH (by rw [<- hR.out, runAt_yes hlt ha.out])⟩
        case measure => simp [intOf]; omega
    · have ha : Hid (alnB s[k] = true) := LH (by simp [alnB, hl])
      go_wp2_with (first | (go_at_call 49; refine (l2Letter_any _ _ hb0 hb1).mono ?_; rintro e w' ⟨rfl, rfl⟩) | (go_at_call 51; refine (l2Digit_any _ _ hb0 hb1).mono ?_; rintro e w' ⟨rfl, rfl⟩))
      go_round
      case rel => exact ⟨k + 1, by omega, by go_num, LH (by rw [<- hR.out, runAt_yes hlt ha.out])⟩
      case measure => simp [intOf]; omega
  · go_wp2_with fail
    go_ret
    exact ⟨ret_int (by rw [<- hR.out, runAt_end (by omega)]), rfl⟩
theorem runOf_any (s : ByteArray) (w : World) (hs : s.size <= 9223372036854775806) :
 Calls Tryz.prog 86 #[.string s] w fun e w' => e = .returned (.string (s.extract 0 (runAt s 0))) /\ w' = w := by
 go_enter Tryz.func86, Tryz.ntmps86
 go_wp2_with fail
 go_loop [3] (fun i => ∃ k : Nat, k <= s.size /\ i = .int .i64 k /\ Hid (runAt s k = runAt s 0)) (fun i => s.size - (intOf i).toNat)
 case atStart => exact ⟨0, Nat.zero_le _, rfl, LH rfl⟩
 case round =>
  obtain ⟨k, hk1, rfl, hR⟩ := hrel
  by_cases hlt : k < s.size
  · obtain ⟨hb0, hb1⟩ := byte_bd s[k]
    cases hl : ltrB (s[k].toNat : Int)
    · cases hd : dgtB (s[k].toNat : Int)
      · have ha : Hid (alnB s[k] = false) := LH (by simp [alnB, hl, hd])
        go_wp2_with (first | (go_at_call 85; refine (isLetter_any _ _ hb0 hb1).mono ?_; rintro e w' ⟨rfl, rfl⟩) | (go_at_call 88; refine (isDigit_any _ _ hb0 hb1).mono ?_; rintro e w' ⟨rfl, rfl⟩))
        go_ret
        exact ⟨ret_str (by rw [<- hR.out, runAt_no hlt ha.out]), rfl⟩
      · have ha : Hid (alnB s[k] = true) := LH (by simp [alnB, hl, hd])
        go_wp2_with (first | (go_at_call 85; refine (isLetter_any _ _ hb0 hb1).mono ?_; rintro e w' ⟨rfl, rfl⟩) | (go_at_call 88; refine (isDigit_any _ _ hb0 hb1).mono ?_; rintro e w' ⟨rfl, rfl⟩))
        go_round
        case rel => exact ⟨k + 1, by omega, by go_num, LH (by rw [<- hR.out, runAt_yes hlt ha.out])⟩
        case measure => simp [intOf]; omega
    · have ha : Hid (alnB s[k] = true) := LH (by simp [alnB, hl])
      go_wp2_with (first | (go_at_call 85; refine (isLetter_any _ _ hb0 hb1).mono ?_; rintro e w' ⟨rfl, rfl⟩) | (go_at_call 88; refine (isDigit_any _ _ hb0 hb1).mono ?_; rintro e w' ⟨rfl, rfl⟩))
      go_round
      case rel => exact ⟨k + 1, by omega, by go_num, LH (by rw [<- hR.out, runAt_yes hlt ha.out])⟩
      case measure => simp [intOf]; omega
  · go_wp2_with fail
    go_ret
    exact ⟨ret_str (by rw [<- hR.out, runAt_end (by omega)]), rfl⟩
def partB (s : ByteArray) : Bool := decide (1 <= s.size /\ s.size <= 20 /\ ∃ h : 0 < s.size, ltrB (s[0].toNat : Int) = true /\ runAt s 0 = s.size)
theorem partB_tt {s : ByteArray} (h1 : 0 < s.size) (h2 : s.size <= 20) (h3 : ltrB (s[0].toNat : Int) = true) (h4 : runAt s 0 = s.size) : partB s = true := by
 unfold partB; exact decide_eq_true ⟨by omega, h2, h1, h3, h4⟩
theorem partB_ff {s : ByteArray} (h : ¬ (1 <= s.size /\ s.size <= 20 /\ ∃ h : 0 < s.size, ltrB (s[0].toNat : Int) = true /\ runAt s 0 = s.size)) : partB s = false := by
 unfold partB; exact decide_eq_false h
theorem within_any (n a b : Int) (w : World) : Calls Tryz.prog 37 #[.int .i64 n, .int .i64 a, .int .i64 b] w fun e w' => e = .returned (.bool (decide (a <= n /\ n <= b))) /\ w' = w := by
 go_enter Tryz.func37, Tryz.ntmps37
 go_wp2
 all_goals go_ret
 all_goals exact ⟨ret_bool (by first | rfl | (apply Bool.eq_iff_iff.2; first | (simp; done) | (simp; omega))), rfl⟩
theorem l2IsName_any (s : ByteArray) (w : World) (hs : s.size <= 9223372036854775806) :
 Calls Tryz.prog 109 #[.string s] w fun e w' => e = .returned (.bool (partB s)) /\ w' = w := by
 by_cases h1 : 0 < s.size
 rotate_left
 · have hp := LH (partB_ff (s := s) (by rintro ⟨a, b, c, d⟩; omega))
   go_enter Tryz.func109, Tryz.ntmps109
   go_wp2_with fail
   go_ret
   exact ⟨ret_bool (by rw [hp.out]), rfl⟩
 by_cases h2 : s.size <= 20
 rotate_left
 · have hp := LH (partB_ff (s := s) (by rintro ⟨a, b, c, d⟩; omega))
   go_enter Tryz.func109, Tryz.ntmps109
   go_wp2_with fail
   go_ret
   exact ⟨ret_bool (by rw [hp.out]), rfl⟩
 obtain ⟨hb0, hb1⟩ := byte_bd s[0]
 cases h3 : ltrB (s[0].toNat : Int)
 · have hp := LH (partB_ff (s := s) (by rintro ⟨a, b, c, d, e⟩; rw [d] at h3; cases h3))
   go_enter Tryz.func109, Tryz.ntmps109
   go_wp2_with (go_at_call 49; refine (l2Letter_any _ _ hb0 hb1).mono ?_; rintro e w' ⟨rfl, rfl⟩)
   go_ret
   exact ⟨ret_bool (by rw [hp.out]), rfl⟩
 have hr := runAt_le (s := s) (k := 0) (by omega)
 by_cases h4 : runAt s 0 = s.size
 · have hp := LH (partB_tt h1 h2 h3 h4)
   have ht : ((runAt s 0 : Int) == (s.size : Int)) = true := by simp [h4]
   clear h4
   go_enter Tryz.func109, Tryz.ntmps109
   go_wp2_with (first | (go_at_call 49; refine (l2Letter_any _ _ hb0 hb1).mono ?_; rintro e w' ⟨rfl, rfl⟩) | (go_at_call 80; refine (l2Run_any s 0 _ hs (by omega)).mono ?_; rintro e w' ⟨rfl, rfl⟩))
   go_ret
   exact ⟨ret_bool (by rw [hp.out]), rfl⟩
 · have hp := LH (partB_ff (s := s) (by rintro ⟨a, b, c, d, e⟩; exact h4 e))
   have ht : ((runAt s 0 : Int) == (s.size : Int)) = false := by simp; omega
   clear h4
   go_enter Tryz.func109, Tryz.ntmps109
   go_wp2_with (first | (go_at_call 49; refine (l2Letter_any _ _ hb0 hb1).mono ?_; rintro e w' ⟨rfl, rfl⟩) | (go_at_call 80; refine (l2Run_any s 0 _ hs (by omega)).mono ?_; rintro e w' ⟨rfl, rfl⟩))
   go_ret
   exact ⟨ret_bool (by rw [hp.out]), rfl⟩
theorem extract_all (s : ByteArray) (n : Nat) (h : n = s.size) : s.extract 0 n = s := by subst h; simp
theorem extract_ne {s : ByteArray} {n : Nat} (h : n <= s.size) (h' : n ≠ s.size) : ¬ s.extract 0 n = s := by
 intro e
 have := congrArg ByteArray.size e
 simp at this; omega
theorem isPart_any (s : ByteArray) (w : World) (hs : s.size <= 9223372036854775806) :
 Calls Tryz.prog 72 #[.string s] w fun e w' => e = .returned (.bool (partB s)) /\ w' = w := by
 by_cases h1 : 0 < s.size
 rotate_left
 · have hp := LH (partB_ff (s := s) (by rintro ⟨a, b, c, d⟩; omega))
   have hw : decide ((1 : Int) <= (s.size : Int) /\ (s.size : Int) <= 20) = false := decide_eq_false (by omega)
   go_enter Tryz.func72, Tryz.ntmps72
   go_wp2_with fail
   refine (within_any _ _ _ _).mono ?_
   rw [hw]
   rintro e w' ⟨rfl, rfl⟩
   go_wp2_with fail
   go_ret
   exact ⟨ret_bool (by rw [hp.out]), rfl⟩
 by_cases h2 : s.size <= 20
 rotate_left
 · have hp := LH (partB_ff (s := s) (by rintro ⟨a, b, c, d⟩; omega))
   have hw : decide ((1 : Int) <= (s.size : Int) /\ (s.size : Int) <= 20) = false := decide_eq_false (by omega)
   go_enter Tryz.func72, Tryz.ntmps72
   go_wp2_with fail
   refine (within_any _ _ _ _).mono ?_
   rw [hw]
   rintro e w' ⟨rfl, rfl⟩
   go_wp2_with fail
   go_ret
   exact ⟨ret_bool (by rw [hp.out]), rfl⟩
 have hw : decide ((1 : Int) <= (s.size : Int) /\ (s.size : Int) <= 20) = true := decide_eq_true (by omega)
 obtain ⟨hb0, hb1⟩ := byte_bd s[0]
 cases h3 : ltrB (s[0].toNat : Int)
 · have hp := LH (partB_ff (s := s) (by rintro ⟨a, b, c, d, e⟩; rw [d] at h3; cases h3))
   go_enter Tryz.func72, Tryz.ntmps72
   go_wp2_with fail
   refine (within_any _ _ _ _).mono ?_
   rw [hw]
   rintro e w' ⟨rfl, rfl⟩
   go_wp2_with (go_at_call 85; refine (isLetter_any _ _ hb0 hb1).mono ?_; rintro e w' ⟨rfl, rfl⟩)
   go_ret
   exact ⟨ret_bool (by rw [hp.out]), rfl⟩
 have hr := runAt_le (s := s) (k := 0) (by omega)
 by_cases h4 : runAt s 0 = s.size
 · have hp := LH (partB_tt h1 h2 h3 h4)
   have ht := str_eq (extract_all s _ h4)
   clear h4
   go_enter Tryz.func72, Tryz.ntmps72
   go_wp2_with fail
   refine (within_any _ _ _ _).mono ?_
   rw [hw]
   rintro e w' ⟨rfl, rfl⟩
   go_wp2_with (first | (go_at_call 85; refine (isLetter_any _ _ hb0 hb1).mono ?_; rintro e w' ⟨rfl, rfl⟩) | (go_at_call 86; refine (runOf_any s _ hs).mono ?_; rintro e w' ⟨rfl, rfl⟩))
   go_ret
   exact ⟨ret_bool (by rw [hp.out]), rfl⟩
 · have hp := LH (partB_ff (s := s) (by rintro ⟨a, b, c, d, e⟩; exact h4 e))
   have ht := str_ne (extract_ne hr h4)
   clear h4
   go_enter Tryz.func72, Tryz.ntmps72
   go_wp2_with fail
   refine (within_any _ _ _ _).mono ?_
   rw [hw]
   rintro e w' ⟨rfl, rfl⟩
   go_wp2_with (first | (go_at_call 85; refine (isLetter_any _ _ hb0 hb1).mono ?_; rintro e w' ⟨rfl, rfl⟩) | (go_at_call 86; refine (runOf_any s _ hs).mono ?_; rintro e w' ⟨rfl, rfl⟩))
   go_ret
   exact ⟨ret_bool (by rw [hp.out]), rfl⟩
def wordsL : List ByteArray := [⟨#[99, 108, 97, 115, 115]⟩, ⟨#[101, 120, 116, 101, 110, 100, 115]⟩, ⟨#[102, 105, 101, 108, 100, 115]⟩, ⟨#[109, 101, 116, 104, 111, 100]⟩, ⟨#[99, 108, 97, 115, 115, 109, 101, 116, 104, 111, 100]⟩, ⟨#[101, 110, 100]⟩, ⟨#[109, 97, 105, 110]⟩]
noncomputable def hasB (l : List ByteArray) (s : ByteArray) : Bool := eqB (s ∈ l) True
theorem hasB_tt {l : List ByteArray} {s : ByteArray} (h : s ∈ l) : hasB l s = true := eqB_tt (by simp [h])
theorem hasB_ff {l : List ByteArray} {s : ByteArray} (h : ¬ s ∈ l) : hasB l s = false := eqB_ff (by simp [h])
theorem hasB_iff {l : List ByteArray} {s : ByteArray} : hasB l s = true ↔ s ∈ l := by simp [hasB, eqB_iff]
theorem isWord_any (s : ByteArray) (w : World) : Calls Tryz.prog 73 #[.string s] w fun e w' => e = .returned (.bool (hasB wordsL s)) /\ w' = w := by
 by_cases h : s ∈ wordsL
 · have hp := LH (hasB_tt h)
   simp only [wordsL, List.mem_cons, List.not_mem_nil, or_false] at h
   rcases h with rfl | rfl | rfl | rfl | rfl | rfl | rfl
   all_goals
    go_enter Tryz.func73, Tryz.ntmps73
    go_wp2
    go_ret
    exact ⟨ret_bool (by rw [hp.out]), rfl⟩
 · have hp := LH (hasB_ff h)
   simp only [wordsL, List.mem_cons, List.not_mem_nil, or_false, not_or] at h
   obtain ⟨h0, h1, h2, h3, h4, h5, h6⟩ := h
   have k0 := str_ne' h0
   have k1 := str_ne' h1
   have k2 := str_ne' h2
   have k3 := str_ne' h3
   have k4 := str_ne' h4
   have k5 := str_ne' h5
   have k6 := str_ne' h6
   clear h0 h1 h2 h3 h4 h5 h6
   go_enter Tryz.func73, Tryz.ntmps73
   go_wp2
   go_ret
   exact ⟨ret_bool (by rw [hp.out]), rfl⟩
theorem l2Words_any (w : World) : Calls Tryz.prog 83 #[] w (GivesV w (strs wordsL)) := by
 go_enter Tryz.func83, Tryz.ntmps83
 go_wp2
 go_ret
 exact gives_strs w wordsL 9 (by simp [wordsL, maxLen]) (by simp [wordsL])
theorem l1Has_any (l : List ByteArray) (s : ByteArray) (va : Value) (w : World) (ra : Rep w (strs l) [va]) :
 Calls Tryz.prog 82 #[va, .string s] w fun e w' => e = .returned (.bool (hasB l s)) /\ w' = w := by
 obtain ⟨ao, ca, ba, oa, h1, hla, hma, pa, ha⟩ := ra.strs
 simp only [List.cons.injEq, and_true] at h1
 subst h1
 clear ra
 unfold maxLen at hma
 go_enter Tryz.func82, Tryz.ntmps82
 go_wp2_with fail
 go_loop [5] (fun i => ∃ k : Nat, k <= l.length /\ i = .int .i64 k /\ Hid (∀ j, j < k -> l[j]? ≠ some s)) (fun i => l.length - (intOf i).toNat)
 case atStart => exact ⟨0, Nat.zero_le _, rfl, LH fun j hj => by omega⟩
 case round =>
  obtain ⟨k, hk, rfl, hR⟩ := hrel
  by_cases hlt : k < l.length
  · obtain rfl := pa (by omega)
    have a0 := ha k l[k] (by simp [hlt])
    clear ha pa
    by_cases hs : l[k] = s
    · have ht := str_eq hs
      have hp := LH (hasB_tt (show s ∈ l from hs ▸ List.getElem_mem hlt))
      clear hs
      go_wp2_with fail
      go_ret
      exact ⟨ret_bool (by rw [hp.out]), rfl⟩
    · have ht := str_ne hs
      have HS := LH hs; clear hs
      go_wp2_with fail
      go_round
      case rel => exact ⟨k + 1, by omega, by go_num, LH fun j hj => by
       by_cases h : j < k
       · exact hR.out j h
       · obtain rfl : j = k := by omega
         simpa [hlt] using HS.out⟩
      case measure => simp [intOf]; omega
  · go_wp2_with fail
    go_ret
    have hp : hasB l s = false := hasB_ff fun hm => by
     obtain ⟨j, hj, he⟩ := List.mem_iff_getElem.1 hm
     exact hR.out j (by omega) (by simp [hj, he])
    exact ⟨ret_bool (by rw [hp]), rfl⟩
noncomputable def nameB (s : ByteArray) : Bool := partB s && !hasB wordsL s
theorem spec_IsName_any (s : ByteArray) (w : World) (hs : s.size <= 9223372036854775806) :
 Calls Tryz.prog 77 #[.string s] w fun e w' => e = .returned (.bool (nameB s)) /\ Ext w w' := by
 have hn : Hid (nameB s = (partB s && !hasB wordsL s)) := LH rfl
 go_enter Tryz.func77, Tryz.ntmps77
 cases hp : partB s
 · go_wp2_with fail
   refine (l2IsName_any s _ hs).mono ?_
   rw [hp]
   rintro e w' ⟨rfl, rfl⟩
   go_wp2_with fail
   go_ret
   exact ⟨ret_bool (by rw [hn.out, hp]; rfl), XR _⟩
 · go_wp2_with fail
   refine (l2IsName_any s _ hs).mono ?_
   rw [hp]
   rintro e w' ⟨rfl, rfl⟩
   go_wp2_with fail
   refine (l2Words_any _).mono ?_
   rintro e w1 ⟨ao, n, cap, fp, rfl, hr, hf, hx⟩
   go_wp2_with fail
   refine (l1Has_any wordsL s _ _ hr.rep).mono ?_
   rintro e w' ⟨rfl, rfl⟩
   go_wp2_with fail
   go_ret
   exact ⟨ret_bool (by rw [hn.out, hp]; rfl), hx⟩
theorem impl_IsName_any (s : ByteArray) (w : World) (hs : s.size <= 9223372036854775806) :
 Calls Tryz.prog 40 #[.string s] w fun e w' => e = .returned (.bool (nameB s)) /\ Ext w w' := by
 have hn : Hid (nameB s = (partB s && !hasB wordsL s)) := LH rfl
 go_enter Tryz.func40, Tryz.ntmps40
 cases hp : partB s
 · go_wp2_with fail
   refine (isPart_any s _ hs).mono ?_
   rw [hp]
   rintro e w' ⟨rfl, rfl⟩
   go_wp2_with fail
   go_ret
   exact ⟨ret_bool (by rw [hn.out, hp]; rfl), XR _⟩
 · go_wp2_with fail
   refine (isPart_any s _ hs).mono ?_
   rw [hp]
   rintro e w' ⟨rfl, rfl⟩
   go_wp2_with fail
   refine (isWord_any s _).mono ?_
   rintro e w' ⟨rfl, rfl⟩
   go_wp2_with fail
   go_ret
   exact ⟨ret_bool (by rw [hn.out, hp]; rfl), XR _⟩
end Go.Proofs.YtndhpbjhkgdieaaGreatDoor
