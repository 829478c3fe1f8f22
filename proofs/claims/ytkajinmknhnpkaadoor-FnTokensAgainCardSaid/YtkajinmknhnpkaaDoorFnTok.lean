/-
  CONTRACTS: parts of Tokens: what stands at a place.
  Conditions: those that each lemma states.
-/
import Derived.Test.YtkajinmknhnpkaaDoorRows
import Derived.Test.YtkajinmknhnpkaaDoorFnSel
import Derived.Lib.QuietBelow
import Derived.BigQuiet
namespace Go.Proofs.YtkajinmknhnpkaaDoor
open Go.RowKit
set_option linter.unusedSimpArgs false
set_option linter.unusedVariables false

/-- What is left from a place on. -/
def suf (s : ByteArray) (k : Nat) : ByteArray := s.extract k s.size
theorem suf_data (s : ByteArray) (k : Nat) : (suf s k).data.toList = s.data.toList.drop k := by
  unfold suf
  rw [extract_mk, data_mkB, List.take_of_length_le (by simp)]
theorem pre_iff {s x : ByteArray} {k : Nat} (hk : k ≤ s.size) : Lib.hasPrefix (suf s k).data.toList x.data.toList = true ↔ k + x.size ≤ s.size ∧ s.extract k (k + x.size) = x := by
  have ex : x.data.toList.length = x.size := by simp
  have es : s.data.toList.length = s.size := by simp
  rw [suf_data, Lib.hasPrefix, List.isPrefixOf_iff_prefix, List.prefix_iff_eq_take, ex]
  constructor
  · intro h
    have hl := congrArg List.length h
    rw [List.length_take, List.length_drop, ex, es] at hl
    refine ⟨by omega, ?_⟩
    rw [extract_mk, show k + x.size - k = x.size from by omega, ← h, mkB_data]
  · rintro ⟨h1, h2⟩
    have h3 := congrArg (fun b : ByteArray => b.data.toList) h2
    simp only [extract_mk, data_mkB, show k + x.size - k = x.size from by omega] at h3
    exact h3.symm
theorem pre_no {s x : ByteArray} {k : Nat} (hk : k ≤ s.size) (h : ¬ (k + x.size ≤ s.size ∧ s.extract k (k + x.size) = x)) : Lib.hasPrefix (suf s k).data.toList x.data.toList = false := by
  cases hp : Lib.hasPrefix (suf s k).data.toList x.data.toList
  · rfl
  · exact absurd ((pre_iff hk).1 hp) h

set_option maxHeartbeats 1000000 in
theorem l2Starts_any (l : List ByteArray) (s : ByteArray) (at' : Nat) (va : Value) (w : World) (ra : Rep w (strs l) [va]) (hs : s.size ≤ 1048576) (hat : at' ≤ s.size) (hl : ∀ x, x ∈ l → x.size ≤ 1048576) :
    Calls Tryd.prog 34 #[.string s, .int .i64 at', va] w fun e w' => e = .returned (.string (firstP l (suf s at'))) ∧ Ext w w' := by
  obtain ⟨ao, ca, ba, oa, h1, hla, hma, pa, ha⟩ := ra.strs
  simp only [List.cons.injEq, and_true] at h1
  subst h1
  clear ra
  unfold maxLen at hma
  have HL := Lib.hid hl; clear hl
  go_enter Tryd.func34, Tryd.ntmps34
  go_wp2_with fail
  go_loopw [7, 8] (fun iv _ wr => ∃ k : Nat, k ≤ l.length ∧ iv = .int .i64 k ∧ Ext w wr ∧ Hid (∀ j (hj : j < k) (hl : j < l.length), Lib.hasPrefix (suf s at').data.toList l[j].data.toList = false)) (fun iv _ _ => l.length - (intOf iv).toNat)
  case atStart => exact ⟨0, Nat.zero_le _, rfl, Ext.refl _, Lib.hid fun j hj => by omega⟩
  case round =>
    obtain ⟨k, hk, rfl, hx, hR⟩ := hrel
    by_cases hlt : k < l.length
    rotate_left
    · go_wp2_with fail
      go_ret
      exact ⟨ret_str (by rw [firstP_none fun j hj => hR.out j (by omega) hj]), hx⟩
    obtain rfl := pa (by omega)
    have a0 := hx.cell (ha k l[k] (by simp [hlt]))
    have hxs := HL.out _ (List.getElem_mem hlt)
    have h30 : (0 : Int) ≤ k := by omega
    have h31 : (k : Int) < (l.length : Int) := by omega
    have HY : Hid (Lib.hasPrefix (suf s at').data.toList l[k].data.toList = true → firstP l (suf s at') = l[k]) := Lib.hid fun h => firstP_yes hlt (fun j hj => hR.out j hj (by omega)) h
    have HK : Hid (∀ j (h1 : j < l.length), j = k → l[j] = l[k]) := Lib.hid fun j h1 h => by subst h; rfl
    clear ha pa
    generalize l[k] = x at *
    go_wp2_with fail
    have g0 := reg (Ext.refl _) a0
    have s1 : IntKind.i64.wrap ((at' : Int) + x.size) = (at' : Int) + x.size := IntWalk.i64_in _ (by omega)
    have p0 : (0 : Int) ≤ at' := by omega
    have p1 : (at' : Int) ≤ (at' : Int) + x.size := by omega
    by_cases hle : at' + x.size ≤ s.size
    · have q1 : (at' : Int) + x.size ≤ s.size := by omega
      by_cases he : s.extract at' (at' + x.size) = x
      · have t1 := str_eq he
        have HP : Hid (Lib.hasPrefix (suf s at').data.toList x.data.toList = true) := Lib.hid ((pre_iff hat).2 ⟨hle, he⟩)
        have HE := Lib.hid he; clear he
        refine wp_region_quiet_below (by kernel_rfl) (by kernel_rfl) ?_
        repeat (go_big_quiet_step (fail))
        refine wpQuiet_nil ?_
        clear g0 s1
        intro _ hw'
        obtain ⟨pw, hw''⟩ := hw'
        subst hw''
        have X1 := regx wr pw
        generalize hW2 : «Sort».grow (redrawn wr pw.d) pw.os = W2 at *
        clear hW2
        have a1 := X1.cell a0
        go_wp2_with fail
        go_ret
        exact ⟨ret_str (by rw [HY.out HP.out]), hx.trans X1⟩
      · have t1 := str_ne he
        have HP : Hid (Lib.hasPrefix (suf s at').data.toList x.data.toList = false) := Lib.hid (pre_no hat fun h => he h.2)
        have HE := Lib.hid he; clear he
        refine wp_region_quiet_below (by kernel_rfl) (by kernel_rfl) ?_
        repeat (go_big_quiet_step (fail))
        refine wpQuiet_nil ?_
        clear g0 s1
        intro _ hw'
        obtain ⟨pw, hw''⟩ := hw'
        subst hw''
        have X1 := regx wr pw
        generalize hW2 : «Sort».grow (redrawn wr pw.d) pw.os = W2 at *
        clear hW2
        go_wp2_with fail
        go_roundw
        case rel => exact ⟨k + 1, by omega, by go_num, hx.trans X1, Lib.hid fun j hj hl => by
          by_cases h : j < k
          · exact hR.out j h hl
          · rw [HK.out j hl (by omega)]; exact HP.out⟩
        case measure => simp [intOf]; omega
    · have q1 : ¬ (at' : Int) + x.size ≤ s.size := by omega
      have HP : Hid (Lib.hasPrefix (suf s at').data.toList x.data.toList = false) := Lib.hid (pre_no hat fun h => hle h.1)
      refine wp_region_quiet_below (by kernel_rfl) (by kernel_rfl) ?_
      repeat (go_big_quiet_step (fail))
      refine wpQuiet_nil ?_
      clear g0 s1
      intro _ hw'
      obtain ⟨pw, hw''⟩ := hw'
      subst hw''
      have X1 := regx wr pw
      generalize hW2 : «Sort».grow (redrawn wr pw.d) pw.os = W2 at *
      clear hW2
      go_wp2_with fail
      go_roundw
      case rel => exact ⟨k + 1, by omega, by go_num, hx.trans X1, Lib.hid fun j hj hl => by
        by_cases h : j < k
        · exact hR.out j h hl
        · rw [HK.out j hl (by omega)]; exact HP.out⟩
      case measure => simp [intOf]; omega

/-- A colon that is not that of ':='. -/
def colL : List UInt8 → Bool
  | c :: d :: _ => decide (c = 58) && decide (d ≠ 61)
  | [c] => decide (c = 58)
  | [] => false

set_option maxHeartbeats 1000000 in
theorem colon_any (s : ByteArray) (w : World) (hs : s.size ≤ 1048576) :
    Calls Tryd.prog 21 #[.string s] w fun e w' => e = .returned (.bool (colL s.data.toList)) ∧ w' = w := by
  have hA : Hid (colL s.data.toList = (Lib.hasPrefix s.data.toList [58] && !Lib.hasPrefix s.data.toList [58, 61])) := Lib.hid (by
    rcases s.data.toList with _ | ⟨c, _ | ⟨d, r⟩⟩
    · rfl
    · by_cases h1 : c = 58
      · subst h1; rfl
      · have h1' : ((58 : UInt8) == c) = false := by simpa using fun e : 58 = c => h1 e.symm
        simp [colL, Lib.hasPrefix, List.isPrefixOf, h1, h1']
    · by_cases h1 : c = 58
      · subst h1
        by_cases h2 : d = 61
        · subst h2; rfl
        · have h2' : ((61 : UInt8) == d) = false := by simpa using fun e : 61 = d => h2 e.symm
          simp [colL, Lib.hasPrefix, List.isPrefixOf, h2, h2']
      · have h1' : ((58 : UInt8) == c) = false := by simpa using fun e : 58 = c => h1 e.symm
        simp [colL, Lib.hasPrefix, List.isPrefixOf, h1, h1'])
  cases h1 : Lib.hasPrefix s.data.toList [58]
  · have H1 := Lib.hid h1; clear h1
    go_enter Tryd.func21, Tryd.ntmps21
    go_wp2_with fail
    refine (Tryd.strings_HasPrefix _ _ _).mono ?_
    rw [show (⟨#[58]⟩ : ByteArray).data.toList = [58] from rfl, H1.out]
    rintro e w' ⟨rfl, rfl⟩
    go_wp2_with fail
    go_ret
    exact ⟨ret_bool (by rw [hA.out, H1.out]; rfl), rfl⟩
  cases h2 : Lib.hasPrefix s.data.toList [58, 61]
  all_goals
    have H1 := Lib.hid h1; clear h1
    have H2 := Lib.hid h2; clear h2
    go_enter Tryd.func21, Tryd.ntmps21
    go_wp2_with fail
    refine (Tryd.strings_HasPrefix _ _ _).mono ?_
    rw [show (⟨#[58]⟩ : ByteArray).data.toList = [58] from rfl, H1.out]
    rintro e w' ⟨rfl, rfl⟩
    go_wp2_with fail
    refine (Tryd.strings_HasPrefix _ _ _).mono ?_
    rw [show (⟨#[58, 61]⟩ : ByteArray).data.toList = [58, 61] from rfl, H2.out]
    rintro e w' ⟨rfl, rfl⟩
    go_wp2_with fail
    go_ret
    exact ⟨ret_bool (by rw [hA.out, H1.out, H2.out]; rfl), rfl⟩

theorem drop_cons {s : ByteArray} {k : Nat} (h : k < s.size) : s.data.toList.drop k = s[k] :: s.data.toList.drop (k + 1) := by
  rw [List.drop_eq_getElem_cons (by simpa using h)]; rfl
theorem u8_eq {a : UInt8} {n : Int} (b : UInt8) (hb : (b.toNat : Int) = n) (h : a = b) : ((a.toNat : Int) == n) = true := int_eq (by rw [h, hb])
theorem u8_ne {a : UInt8} {n : Int} (b : UInt8) (hb : (b.toNat : Int) = n) (h : ¬ a = b) : ((a.toNat : Int) == n) = false := int_ne fun e => h (UInt8.toNat_inj.1 (by omega))
theorem u8_eqn {a : UInt8} {n : Int} (b : UInt8) (hb : (b.toNat : Int) = n) (h : a = b) : ((a.toNat : Int) != n) = false := int_eqn (by rw [h, hb])
theorem u8_nen {a : UInt8} {n : Int} (b : UInt8) (hb : (b.toNat : Int) = n) (h : ¬ a = b) : ((a.toNat : Int) != n) = true := int_nen fun e => h (UInt8.toNat_inj.1 (by omega))

set_option maxHeartbeats 1000000 in
theorem l2Colon_any (s : ByteArray) (k : Nat) (w : World) (hs : s.size ≤ 1048576) (hk : k ≤ s.size) :
    Calls Tryd.prog 56 #[.string s, .int .i64 k] w fun e w' => e = .returned (.bool (colL (s.data.toList.drop k))) ∧ w' = w := by
  have p0 : (0 : Int) ≤ k := by omega
  by_cases h : k < s.size
  rotate_left
  · have hA : Hid (colL (s.data.toList.drop k) = false) := Lib.hid (by rw [List.drop_eq_nil_of_le (by simp; omega)]; rfl)
    have q1 : ¬ (k : Int) < (s.size : Int) := by omega
    go_enter Tryd.func56, Tryd.ntmps56
    go_wp2_with fail
    go_ret
    exact ⟨ret_bool (by rw [hA.out]), rfl⟩
  have q1 : (k : Int) < (s.size : Int) := by omega
  by_cases h1 : s[k] = 58
  rotate_left
  · have hA : Hid (colL (s.data.toList.drop k) = false) := Lib.hid (by
      rw [drop_cons h]
      rcases s.data.toList.drop (k + 1) with _ | ⟨d, r⟩ <;> simp [colL, h1])
    have t1 := u8_ne (n := 58) 58 rfl h1
    have H1 := Lib.hid h1; clear h1
    go_enter Tryd.func56, Tryd.ntmps56
    go_wp2_with fail
    go_ret
    exact ⟨ret_bool (by rw [hA.out]), rfl⟩
  have t1 := u8_eq (n := 58) 58 rfl h1
  by_cases h2 : k + 1 < s.size
  rotate_left
  · have hA : Hid (colL (s.data.toList.drop k) = true) := Lib.hid (by
      rw [drop_cons h, List.drop_eq_nil_of_le (by simp; omega)]; simp [colL, h1])
    have H1 := Lib.hid h1; clear h1
    have q2 : (s.size : Int) ≤ (k : Int) + 1 := by omega
    go_enter Tryd.func56, Tryd.ntmps56
    go_wp2_with fail
    go_ret
    exact ⟨ret_bool (by rw [hA.out]), rfl⟩
  have q2 : ¬ (s.size : Int) ≤ (k : Int) + 1 := by omega
  have q3 : (k : Int) + 1 < (s.size : Int) := by omega
  by_cases h3 : s[k + 1] = 61
  · have hA : Hid (colL (s.data.toList.drop k) = false) := Lib.hid (by
      rw [drop_cons h, drop_cons h2]; simp [colL, h3])
    have t3 := u8_eqn (n := 61) 61 rfl h3
    have H1 := Lib.hid h1; clear h1
    have H3 := Lib.hid h3; clear h3
    go_enter Tryd.func56, Tryd.ntmps56
    go_wp2_with fail
    go_ret
    exact ⟨ret_bool (by rw [hA.out]), rfl⟩
  · have hA : Hid (colL (s.data.toList.drop k) = true) := Lib.hid (by
      rw [drop_cons h, drop_cons h2]; simp [colL, h1, h3])
    have t3 := u8_nen (n := 61) 61 rfl h3
    have H1 := Lib.hid h1; clear h1
    have H3 := Lib.hid h3; clear h3
    go_enter Tryd.func56, Tryd.ntmps56
    go_wp2_with fail
    go_ret
    exact ⟨ret_bool (by rw [hA.out]), rfl⟩

end Go.Proofs.YtkajinmknhnpkaaDoor
