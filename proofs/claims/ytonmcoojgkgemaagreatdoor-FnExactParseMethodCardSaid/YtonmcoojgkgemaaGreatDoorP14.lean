/-
  SEVERAL TEXTS IN ONE: CONTRACTS: IsSelector and CountArgs, of the program and of the reference; CONTRACTS: parts of Tokens: what stands at a place.
  Conditions: those that each lemma states.
-/
import Derived.Test.YtonmcoojgkgemaaGreatDoorRows
import Derived.Lib.QuietBelow
import Derived.BigQuiet
import Derived.Test.YtonmcoojgkgemaaGreatDoorFnSplit
namespace Go.Proofs.YtonmcoojgkgemaaGreatDoor
open Go.RowKit
set_option linter.unusedSimpArgs false
set_option linter.unusedVariables false

set_option maxHeartbeats 400000 in
theorem l2Binaries_any (w : World) : Calls Tryz.prog 95 #[] w (GivesV w (strs opsL)) := by
  go_enter Tryz.func95, Tryz.ntmps95
  go_wp2
  go_ret
  exact gives_strs w opsL 9 (by simp [opsL, maxLen]) (by simp [opsL])
set_option maxHeartbeats 400000 in
theorem operators_any (w : World) : Calls Tryz.prog 115 #[] w (GivesV w (strs opsL)) := by
  go_enter Tryz.func115, Tryz.ntmps115
  go_wp2
  go_ret
  exact gives_strs w opsL 9 (by simp [opsL, maxLen]) (by simp [opsL])

/-- The first text of a list with which s begins. -/
def firstP : List ByteArray → ByteArray → ByteArray
  | [], _ => ⟨#[]⟩
  | x :: l, s => if Lib.hasPrefix s.data.toList x.data.toList then x else firstP l s
theorem firstP_yes : ∀ {l : List ByteArray} {s : ByteArray} {k : Nat} (hk : k < l.length), (∀ j (hj : j < k), Lib.hasPrefix s.data.toList (l[j]'(by omega)).data.toList = false) → Lib.hasPrefix s.data.toList l[k].data.toList = true → firstP l s = l[k]
  | x :: l, s, 0, hk, _, h => by simp only [List.getElem_cons_zero] at h ⊢; rw [firstP, if_pos h]
  | x :: l, s, k + 1, hk, h0, h => by
    have hx := h0 0 (by omega)
    simp only [List.getElem_cons_zero] at hx
    rw [firstP, if_neg (by rw [hx]; exact Bool.false_ne_true)]
    simp only [List.getElem_cons_succ] at h ⊢
    exact firstP_yes (by simpa using hk) (fun j hj => by have := h0 (j + 1) (by omega); simpa using this) h
theorem firstP_none : ∀ {l : List ByteArray} {s : ByteArray}, (∀ j (hj : j < l.length), Lib.hasPrefix s.data.toList (l[j]'hj).data.toList = false) → firstP l s = ⟨#[]⟩
  | [], s, _ => rfl
  | x :: l, s, h0 => by
    have hx := h0 0 (by simp)
    simp only [List.getElem_cons_zero] at hx
    rw [firstP, if_neg (by rw [hx]; exact Bool.false_ne_true)]
    exact firstP_none fun j hj => by have := h0 (j + 1) (by simpa using hj); simpa using this
theorem firstP_mem : ∀ (l : List ByteArray) (s : ByteArray), firstP l s = ⟨#[]⟩ ∨ firstP l s ∈ l
  | [], s => Or.inl rfl
  | x :: l, s => by
    rw [firstP]
    split
    · exact Or.inr List.mem_cons_self
    · rcases firstP_mem l s with h | h
      · exact Or.inl h
      · exact Or.inr (List.mem_cons_of_mem _ h)

set_option maxHeartbeats 1000000 in
theorem firstOf_any (l : List ByteArray) (s : ByteArray) (va : Value) (w : World) (ra : Rep w (strs l) [va]) :
    Calls Tryz.prog 114 #[.string s, va] w fun e w' => e = .returned (.string (firstP l s)) ∧ w' = w := by
  obtain ⟨ao, ca, ba, oa, h1, hla, hma, pa, ha⟩ := ra.strs
  simp only [List.cons.injEq, and_true] at h1
  subst h1
  clear ra
  unfold maxLen at hma
  go_enter Tryz.func114, Tryz.ntmps114
  go_wp2_with fail
  go_loop [6, 9] (fun xv i => ∃ k : Nat, k ≤ l.length ∧ i = .int .i64 k ∧ Hid (∀ j (hj : j < k) (hl : j < l.length), Lib.hasPrefix s.data.toList l[j].data.toList = false)) (fun _ i => l.length - (intOf i).toNat)
  case atStart => exact ⟨0, Nat.zero_le _, rfl, Lib.hid fun j hj => by omega⟩
  case round =>
    obtain ⟨k, hk, rfl, hR⟩ := hrel
    by_cases hlt : k < l.length
    · obtain rfl := pa (by omega)
      have a0 := ha k l[k] (by simp [hlt])
      clear ha pa
      cases hp : Lib.hasPrefix s.data.toList l[k].data.toList
      · have HP := Lib.hid hp; clear hp
        go_wp2_with fail
        refine (Tryz.strings_HasPrefix _ _ _).mono ?_
        rw [HP.out]
        rintro e w' ⟨rfl, rfl⟩
        go_wp2_with fail
        go_round
        case rel => exact ⟨k + 1, by omega, by go_num, Lib.hid fun j hj hl => by
          by_cases h : j < k
          · exact hR.out j h hl
          · obtain rfl : j = k := by omega
            exact HP.out⟩
        case measure => simp [intOf]; omega
      · have HP := Lib.hid hp; clear hp
        go_wp2_with fail
        refine (Tryz.strings_HasPrefix _ _ _).mono ?_
        rw [HP.out]
        rintro e w' ⟨rfl, rfl⟩
        go_wp2_with fail
        go_ret
        exact ⟨ret_str (by rw [firstP_yes hlt (fun j hj => hR.out j hj (by omega)) HP.out]), rfl⟩
    · go_wp2_with fail
      go_ret
      exact ⟨ret_str (by rw [firstP_none fun j hj => hR.out j (by omega) hj]), rfl⟩

theorem ops_first {s : ByteArray} (h : s ∈ opsL) : firstP opsL s = s := by
  simp only [opsL, List.mem_cons, List.not_mem_nil, or_false] at h
  rcases h with rfl | rfl | rfl | rfl | rfl | rfl | rfl | rfl | rfl | rfl | rfl | rfl | rfl | rfl | rfl <;> rfl
theorem ops_ne {s : ByteArray} (h : s ∈ opsL) : s ≠ ⟨#[]⟩ := by
  simp only [opsL, List.mem_cons, List.not_mem_nil, or_false] at h
  rcases h with rfl | rfl | rfl | rfl | rfl | rfl | rfl | rfl | rfl | rfl | rfl | rfl | rfl | rfl | rfl <;> simp
theorem ops_iff {s : ByteArray} (hs : s ≠ ⟨#[]⟩) : firstP opsL s = s ↔ s ∈ opsL := by
  refine ⟨fun h => ?_, ops_first⟩
  rcases firstP_mem opsL s with h1 | h1
  · exact absurd (h.symm.trans h1) hs
  · rwa [h] at h1

set_option maxHeartbeats 1000000 in
theorem isOperator_any (s : ByteArray) (w : World) : Calls Tryz.prog 125 #[.string s] w fun e w' => e = .returned (.bool (hasB opsL s)) ∧ Ext w w' := by
  by_cases hs : s = ⟨#[]⟩
  · subst hs
    have hp := Lib.hid (hasB_ff (l := opsL) (s := ⟨#[]⟩) (fun h => ops_ne h rfl))
    go_enter Tryz.func125, Tryz.ntmps125
    go_wp2_with fail
    go_ret
    exact ⟨ret_bool (by rw [hp.out]), Ext.refl _⟩
  have t0 : ¬ s.toList = [] := fun h => hs (toList_inj (by simp [h]))
  have t0' : s.toList.isEmpty = false := by simpa using t0
  by_cases h : firstP opsL s = s
  · have t1 := str_eq h
    have hp := Lib.hid (hasB_tt ((ops_iff hs).1 h))
    clear h hs
    go_enter Tryz.func125, Tryz.ntmps125
    go_wp2_with fail
    refine (operators_any _).mono ?_
    rintro e w1 ⟨ao, n, cap, fp, rfl, hr, hf, hx⟩
    go_wp2_with fail
    refine (firstOf_any opsL s _ _ hr.rep).mono ?_
    rintro e w' ⟨rfl, rfl⟩
    go_wp2_with fail
    go_ret
    exact ⟨ret_bool (by rw [hp.out]), hx⟩
  · have t1 := str_ne h
    have hp := Lib.hid (hasB_ff fun hm => h ((ops_iff hs).2 hm))
    clear h hs
    go_enter Tryz.func125, Tryz.ntmps125
    go_wp2_with fail
    refine (operators_any _).mono ?_
    rintro e w1 ⟨ao, n, cap, fp, rfl, hr, hf, hx⟩
    go_wp2_with fail
    refine (firstOf_any opsL s _ _ hr.rep).mono ?_
    rintro e w' ⟨rfl, rfl⟩
    go_wp2_with fail
    go_ret
    exact ⟨ret_bool (by rw [hp.out]), hx⟩

set_option maxHeartbeats 1000000 in
theorem partsOf_any (s : ByteArray) (w : World) (hs : s.size ≤ 1048576) (hm : MaxOk w) :
    Calls Tryz.prog 126 #[.string s] w fun e w' => ∃ v, e = .returned v ∧ Ext w w' ∧ ((kwB s = false ∧ v = .slice none 0 0) ∨ (kwB s = true ∧ ∃ ad, v = .slice (some ad) (cutB 58 (stem s)).length (cutB 58 (stem s)).length)) := by
  go_enter Tryz.func126, Tryz.ntmps126
  go_wp2_with fail
  refine (Tryz.strings_HasSuffix _ _ _ (by omega)).mono ?_
  cases hc : colB s
  · have e1 : Lib.hasSuffix s.data.toList (⟨#[58]⟩ : ByteArray).data.toList = false := hc
    rw [e1]
    clear e1
    rintro e w' ⟨rfl, rfl⟩
    go_wp2_with fail
    go_ret
    exact ⟨_, rfl, Ext.refl _, Or.inl ⟨by simp [kwB, hc], rfl⟩⟩
  · have e1 : Lib.hasSuffix s.data.toList (⟨#[58]⟩ : ByteArray).data.toList = true := hc
    rw [e1]
    clear e1
    rintro e w' ⟨rfl, rfl⟩
    have HC := Lib.hid hc; clear hc
    have h0 : 1 ≤ s.size := by
      obtain ⟨l, hl⟩ := colB_iff.1 HC.out
      have := congrArg List.length hl
      simp at this; have e : s.data.size = s.size := rfl; omega
    have f1 : (0 : Int) ≤ (s.size : Int) - 1 := by omega
    go_wp2_with fail
    refine (strings_Split_one (stem s) 58 _ (by have : (stem s).size ≤ s.size := by (unfold stem; simp)
                                                omega) hm).mono ?_
    rintro e w1 ⟨rfl, hw1⟩
    have hlen : (cutB 58 (stem s)).length ≤ 1048577 := by
      have h1 := cutB_le 58 (stem s)
      have : (stem s).size ≤ s.size := by unfold stem; simp
      omega
    have hne : cutB 58 (stem s) ≠ [] := fun h => by have := cutB_length 58 (stem s); rw [h] at this; simp at this
    obtain ⟨ao, n, cap, fp, e1, hr, hf, hx⟩ := gives_strs w' (cutB 58 (stem s)) 9 (by simp only [maxLen]; omega) hne
    rw [← hw1] at hr hf hx
    simp only [Ending.returned.injEq, Value.slice.injEq] at e1
    obtain ⟨rfl, rfl, rfl⟩ := e1
    obtain ⟨ao, ca, ba, oa, h1, hla, hma, pa, ha⟩ := hr.rep.strs
    simp only [List.cons.injEq, and_true, true_and, Value.slice.injEq] at h1
    obtain ⟨rfl, rfl⟩ := h1
    have HK : Hid (kwB s = (allB partB (cutB 58 (stem s)) && decide ((cutB 58 (stem s)).length ≤ 4))) := Lib.hid (by simp [kwB, HC.out])
    have HS : Hid (∀ x, x ∈ cutB 58 (stem s) → x.size ≤ 9223372036854775806) := Lib.hid fun x h => by
      have := cutB_mem h
      have : (stem s).size ≤ s.size := by unfold stem; simp
      omega
    generalize hL : cutB 58 (stem s) = L at *
    have HL := Lib.hid hL
    clear hL hr hf hw1
    unfold maxLen at hma
    go_wp2_with fail
    go_loop [5, 17] (fun xv i => ∃ k : Nat, k ≤ L.length ∧ i = .int .i64 k ∧ Hid (∀ j (hj : j < k) (hl : j < L.length), partB L[j] = true)) (fun _ i => L.length - (intOf i).toNat)
    case atStart => exact ⟨0, Nat.zero_le _, rfl, Lib.hid fun j hj => by omega⟩
    case round =>
      obtain ⟨k, hk, rfl, hR⟩ := hrel
      by_cases hlt : k < L.length
      · have hp1 := pa (by omega)
        simp only [Option.some.injEq, Addr.mk.injEq, and_true] at hp1
        obtain ⟨rfl, rfl⟩ := hp1
        have a0 := ha k L[k] (by simp [hlt])
        simp only [Nat.zero_add] at a0
        have hsz := HS.out _ (List.getElem_mem hlt)
        clear ha pa
        cases hp : partB L[k]
        · have HP := Lib.hid hp; clear hp
          go_wp2_with fail
          refine (isPart_any _ _ hsz).mono ?_
          rw [HP.out]
          rintro e w' ⟨rfl, rfl⟩
          go_wp2_with fail
          go_ret
          exact ⟨_, rfl, hx, Or.inl ⟨by rw [HK.out, allB_ff (List.getElem_mem hlt) HP.out]; rfl, rfl⟩⟩
        · have HP := Lib.hid hp; clear hp
          go_wp2_with fail
          refine (isPart_any _ _ hsz).mono ?_
          rw [HP.out]
          rintro e w' ⟨rfl, rfl⟩
          go_wp2_with fail
          go_round
          case rel => exact ⟨k + 1, by omega, by go_num, Lib.hid fun j hj hl => by
            by_cases h : j < k
            · exact hR.out j h hl
            · obtain rfl : j = k := by omega
              exact HP.out⟩
          case measure => simp [intOf]; omega
      · have hall : Hid (allB partB L = true) := Lib.hid (allB_tt fun x h => by
          obtain ⟨j, hj, rfl⟩ := List.mem_iff_getElem.1 h
          exact hR.out j (by omega) hj)
        by_cases h4 : L.length ≤ 4
        · have t4 : ((4 : Int) < (L.length : Int)) = False := by simp; omega
          have t5 : (L.length : Int) ≤ 4 := by omega
          go_wp2_with fail
          go_ret
          exact ⟨_, rfl, hx, Or.inr ⟨by rw [HK.out, hall.out]; simpa using h4, _, by rw [HL.out]; rfl⟩⟩
        · have t5 : (4 : Int) < (L.length : Int) := by omega
          go_wp2_with fail
          go_ret
          exact ⟨_, rfl, hx, Or.inl ⟨by rw [HK.out, hall.out]; simpa using h4, rfl⟩⟩

set_option maxHeartbeats 1000000 in
theorem impl_IsSelector_any (s : ByteArray) (w : World) (hs : s.size ≤ 1048576) (hm : MaxOk w) :
    Calls Tryz.prog 77 #[.string s] w fun e w' => e = .returned (.bool (selB s)) ∧ Ext w w' := by
  go_enter Tryz.func77, Tryz.ntmps77
  go_wp2_with fail
  refine (isOperator_any s _).mono ?_
  cases ho : hasB opsL s
  · rintro e w1 ⟨rfl, hx1⟩
    have HO := Lib.hid ho; clear ho
    go_wp2_with fail
    refine (impl_IsName_any s _ (by omega)).mono ?_
    cases hn : nameB s
    · rintro e w2 ⟨rfl, hx2⟩
      have HN := Lib.hid hn; clear hn
      go_wp2_with fail
      refine (partsOf_any s _ hs ((hm.ext hx1).ext hx2)).mono ?_
      rintro e w3 ⟨v, rfl, hx3, h3⟩
      rcases h3 with ⟨hk, rfl⟩ | ⟨hk, ad, rfl⟩
      · go_wp2_with fail
        go_ret
        exact ⟨ret_bool (by simp [selB, HO.out, HN.out, hk]), (hx1.trans hx2).trans hx3⟩
      · go_wp2_with fail
        go_ret
        exact ⟨ret_bool (by simp [selB, HO.out, HN.out, hk]), (hx1.trans hx2).trans hx3⟩
    · rintro e w2 ⟨rfl, hx2⟩
      have HN := Lib.hid hn; clear hn
      go_wp2_with fail
      go_ret
      exact ⟨ret_bool (by simp [selB, HO.out, HN.out]), hx1.trans hx2⟩
  · rintro e w1 ⟨rfl, hx1⟩
    have HO := Lib.hid ho; clear ho
    go_wp2_with fail
    go_ret
    exact ⟨ret_bool (by simp [selB, HO.out]), hx1⟩

set_option maxHeartbeats 1000000 in
theorem impl_CountArgs_any (s : ByteArray) (w : World) (hs : s.size ≤ 1048576) (hm : MaxOk w) :
    Calls Tryz.prog 78 #[.string s] w fun e w' => e = .returned (.int .i64 (argsB s)) ∧ Ext w w' := by
  go_enter Tryz.func78, Tryz.ntmps78
  go_wp2_with fail
  refine (isOperator_any s _).mono ?_
  cases ho : hasB opsL s
  · rintro e w1 ⟨rfl, hx1⟩
    have HO := Lib.hid ho; clear ho
    go_wp2_with fail
    refine (impl_IsName_any s _ (by omega)).mono ?_
    cases hn : nameB s
    · rintro e w2 ⟨rfl, hx2⟩
      have HN := Lib.hid hn; clear hn
      go_wp2_with fail
      refine (partsOf_any s _ hs ((hm.ext hx1).ext hx2)).mono ?_
      rintro e w3 ⟨v, rfl, hx3, h3⟩
      rcases h3 with ⟨hk, rfl⟩ | ⟨hk, ad, rfl⟩
      · go_wp2_with fail
        go_ret
        exact ⟨ret_int (by simp [argsB, HO.out, HN.out, hk]), (hx1.trans hx2).trans hx3⟩
      · have HK := Lib.hid hk; clear hk
        go_wp2_with fail
        refine (partsOf_any s _ hs (((hm.ext hx1).ext hx2).ext hx3)).mono ?_
        rintro e w4 ⟨v, rfl, hx4, h4⟩
        rcases h4 with ⟨hk, rfl⟩ | ⟨hk, ad, rfl⟩
        · exact absurd HK.out (by rw [hk]; exact Bool.false_ne_true)
        · go_wp2_with fail
          go_ret
          exact ⟨ret_int (by simp [argsB, HO.out, HN.out, HK.out]), ((hx1.trans hx2).trans hx3).trans hx4⟩
    · rintro e w2 ⟨rfl, hx2⟩
      have HN := Lib.hid hn; clear hn
      go_wp2_with fail
      go_ret
      exact ⟨ret_int (by simp [argsB, HO.out, HN.out]), hx1.trans hx2⟩
  · rintro e w1 ⟨rfl, hx1⟩
    have HO := Lib.hid ho; clear ho
    go_wp2_with fail
    go_ret
    exact ⟨ret_int (by simp [argsB, HO.out]), hx1⟩

theorem spec_SplitByte_col (s : ByteArray) (w : World) (hs : s.size ≤ 1048576) : Calls Tryz.prog 141 #[.string s, .int .u8 58] w (GivesV w (strs (cutB 58 s))) := spec_SplitByte_any s 58 w hs

set_option maxHeartbeats 1000000 in
theorem spec_IsSelector_any (s : ByteArray) (w : World) (hs : s.size ≤ 1048576) :
    Calls Tryz.prog 123 #[.string s] w fun e w' => e = .returned (.bool (selB s)) ∧ Ext w w' := by
  go_enter Tryz.func123, Tryz.ntmps123
  go_wp2_with fail
  refine (l2Binaries_any _).mono ?_
  rintro e w1 ⟨ao, n, cap, fp, rfl, hr, hf, hx1⟩
  go_wp2_with fail
  refine (l1Has_any opsL s _ _ hr.rep).mono ?_
  clear hr hf
  cases ho : hasB opsL s
  rotate_left
  · rintro e w1 ⟨rfl, rfl⟩
    have HO := Lib.hid ho; clear ho
    go_wp2_with fail
    go_ret
    exact ⟨ret_bool (by simp [selB, HO.out]), hx1⟩
  rintro e w1 ⟨rfl, rfl⟩
  have HO := Lib.hid ho; clear ho
  go_wp2_with fail
  refine (spec_SplitByte_col s _ hs).mono ?_
  rintro e w2 ⟨ao, n, cap, fp, rfl, hr, hf, hx2⟩
  have hx := hx1.trans hx2
  clear hx1 hx2 hf
  by_cases h1 : (cutB 58 s).length = 1
  · have HS := Lib.hid (sel_one HO.out h1)
    rw [cut_single h1] at hr
    clear h1
    obtain ⟨ao, ca, ba, oa, h1, hla, hma, pa, ha⟩ := hr.rep.strs
    simp only [List.cons.injEq, and_true, Value.slice.injEq, List.length_cons, List.length_nil, Nat.zero_add] at h1
    obtain ⟨rfl, rfl, rfl⟩ := h1
    obtain rfl := pa (by simp)
    have a0 := ha 0 s (by simp)
    simp only [Nat.add_zero] at a0
    clear ha pa hr
    simp only [List.length_cons, List.length_nil, Nat.zero_add] at hla
    unfold maxLen at hma
    go_wp2_with fail
    go_loopw [5] (fun iv wr => ∃ k : Nat, k ≤ 1 ∧ iv = .int .i64 k ∧ Ext w2 wr ∧ Hid (0 < k → nameB s = true)) (fun iv _ => 1 - (intOf iv).toNat)
    case atStart => exact ⟨0, by omega, rfl, Ext.refl _, Lib.hid (fun h => by omega)⟩
    case round =>
      obtain ⟨k, hk, rfl, hxr, hR⟩ := hrel
      have b0 := Ext.cell hxr a0
      clear a0
      by_cases hlt : k = 0
      · subst hlt
        clear hR
        cases hp : partB s
        · have HP := Lib.hid hp; clear hp
          go_wp2_with fail
          refine (l2IsName_any s _ (by omega)).mono ?_
          rw [HP.out]
          rintro e w' ⟨rfl, rfl⟩
          go_wp2_with fail
          go_ret
          exact ⟨ret_bool (by rw [HS.out.1]; simp [nameB, HP.out]), hx.trans hxr⟩
        · have HP := Lib.hid hp; clear hp
          go_wp2_with fail
          refine (l2IsName_any s _ (by omega)).mono ?_
          rw [HP.out]
          rintro e w' ⟨rfl, rfl⟩
          go_wp2_with fail
          refine (l2Words_any _).mono ?_
          rintro e w3 ⟨ao, n, cap, fp, rfl, hr, hf, hx3⟩
          go_wp2_with fail
          refine (l1Has_any wordsL s _ _ hr.rep).mono ?_
          cases hw : hasB wordsL s
          · have HW := Lib.hid hw; clear hw
            rintro e w' ⟨rfl, rfl⟩
            go_wp2_with fail
            go_roundw
            case rel => exact ⟨1, by omega, rfl, hxr.trans hx3, Lib.hid fun _ => by simp [nameB, HP.out, HW.out]⟩
            case measure => simp [intOf]
          · have HW := Lib.hid hw; clear hw
            rintro e w' ⟨rfl, rfl⟩
            go_wp2_with fail
            go_ret
            exact ⟨ret_bool (by rw [HS.out.1]; simp [nameB, HP.out, HW.out]), (hx.trans hxr).trans hx3⟩
      · obtain rfl : k = 1 := by omega
        go_wp2_with fail
        go_ret
        exact ⟨ret_bool (by rw [HS.out.1, hR.out (by omega)]), hx.trans hxr⟩
  · cases hc : colB s
    · have HS := Lib.hid (sel_none HO.out hc h1)
      obtain ⟨L, x, hL, hx0⟩ := cut_last hc h1
      have h2 : L ≠ [] := fun h => h1 (by rw [hL, h]; rfl)
      have h3 : 0 < L.length := List.length_pos_iff.2 h2
      rw [hL] at hr
      clear h1 hL h2 hc
      obtain ⟨ao, ca, ba, oa, h1, hla, hma, pa, ha⟩ := hr.rep.strs
      simp only [List.cons.injEq, and_true, Value.slice.injEq, List.length_append, List.length_cons, List.length_nil, Nat.zero_add] at h1
      obtain ⟨rfl, rfl, rfl⟩ := h1
      obtain rfl := pa (by simp)
      have a0 := ha L.length x (by simp)
      have t0 : ¬ x.toList = [] := fun h => hx0 (by rw [show x = (⟨#[]⟩ : ByteArray) from toList_inj (by simp [h])]; rfl)
      have t0' : x.toList.isEmpty = false := by simpa using t0
      clear ha pa hr hx0
      simp only [List.length_append, List.length_cons, List.length_nil, Nat.zero_add] at hla
      unfold maxLen at hma
      have f1 : (1 : Int) < (L.length : Int) + 1 := by omega
      go_wp2_with fail
      go_ret
      exact ⟨ret_bool (by rw [HS.out]), hx⟩
    · have HS := Lib.hid (sel_col HO.out hc)
      have hL := cut_col hc
      have hne : (cutB 58 (stem s)).length ≠ 0 := by rw [cutB_length]; omega
      have HSZ : Hid (∀ x, x ∈ cutB 58 (stem s) → x.size ≤ 9223372036854775806) := Lib.hid fun x h => by
        have := cutB_mem h
        have : (stem s).size ≤ s.size := by unfold stem; simp
        omega
      rw [hL] at hr
      clear h1 hL hc
      generalize hG : cutB 58 (stem s) = L at *
      have HG := Lib.hid hG; clear hG
      have h3 : 0 < L.length := by omega
      obtain ⟨ao, ca, ba, oa, h1, hla, hma, pa, ha⟩ := hr.rep.strs
      simp only [List.cons.injEq, and_true, Value.slice.injEq, List.length_append, List.length_cons, List.length_nil, Nat.zero_add] at h1
      obtain ⟨rfl, rfl, rfl⟩ := h1
      obtain rfl := pa (by simp)
      have a0 := ha L.length ByteArray.empty (by simp)
      have HA : Hid (∀ k (hk : k < L.length), w2.cell? ⟨ba, oa + k, none⟩ = some (.string L[k])) := Lib.hid fun k hk => ha k L[k] (by rw [List.getElem?_append_left hk, List.getElem?_eq_getElem hk])
      clear ha pa hr
      simp only [List.length_append, List.length_cons, List.length_nil, Nat.zero_add] at hla
      unfold maxLen at hma
      have f1 : (1 : Int) < (L.length : Int) + 1 := by omega
      have f2 : (L.length : Int) ≤ cap := by omega
      go_wp2_with fail
      go_loopw [5] (fun iv wr => ∃ k : Nat, k ≤ L.length ∧ iv = .int .i64 k ∧ Ext w2 wr ∧ Hid (∀ j (hj : j < k) (hl : j < L.length), partB L[j] = true)) (fun iv _ => L.length - (intOf iv).toNat)
      case atStart => exact ⟨0, by omega, rfl, Ext.refl _, Lib.hid (fun j h => by omega)⟩
      case round =>
        obtain ⟨k, hk, rfl, hxr, hR⟩ := hrel
        by_cases hlt : k < L.length
        · have b0 := Ext.cell hxr (HA.out k hlt)
          have hsz := HSZ.out _ (List.getElem_mem hlt)
          clear a0
          have t1 : ((L.length : Int) + 1 == 1) = false := int_ne (by omega)
          cases hp : partB L[k]
          · have HP := Lib.hid hp; clear hp
            go_wp2_with fail
            refine (l2IsName_any _ _ hsz).mono ?_
            rw [HP.out]
            rintro e w' ⟨rfl, rfl⟩
            go_wp2_with fail
            go_ret
            exact ⟨ret_bool (by rw [HS.out.1, allB_ff (List.getElem_mem hlt) HP.out]; rfl), hx.trans hxr⟩
          · have HP := Lib.hid hp; clear hp
            go_wp2_with fail
            refine (l2IsName_any _ _ hsz).mono ?_
            rw [HP.out]
            rintro e w' ⟨rfl, rfl⟩
            go_wp2_with fail
            go_roundw
            case rel => exact ⟨k + 1, by omega, by go_num, hxr, Lib.hid fun j hj hl => by
              by_cases h : j < k
              · exact hR.out j h hl
              · obtain rfl : j = k := by omega
                exact HP.out⟩
            case measure => simp [intOf]; omega
        · have hall : Hid (allB partB L = true) := Lib.hid (allB_tt fun x h => by
            obtain ⟨j, hj, rfl⟩ := List.mem_iff_getElem.1 h
            exact hR.out j (by omega) hj)
          clear a0
          go_wp2_with fail
          go_ret
          exact ⟨ret_bool (by rw [HS.out.1, hall.out, Bool.true_and]; first | rfl | (apply Bool.eq_iff_iff.2; simp only [decide_eq_true_eq]; omega)), hx.trans hxr⟩

set_option maxHeartbeats 1000000 in
theorem spec_CountArgs_any (s : ByteArray) (w : World) (hs : s.size ≤ 1048576) :
    Calls Tryz.prog 124 #[.string s] w fun e w' => e = .returned (.int .i64 (argsB s)) ∧ Ext w w' := by
  go_enter Tryz.func124, Tryz.ntmps124
  go_wp2_with fail
  refine (spec_IsSelector_any s _ hs).mono ?_
  cases hq : selB s
  · have HQ := Lib.hid hq; clear hq
    rintro e w1 ⟨rfl, hx1⟩
    go_wp2_with fail
    go_ret
    exact ⟨ret_int (by rw [args_none HQ.out]), hx1⟩
  have HQ := Lib.hid hq; clear hq
  rintro e w0 ⟨rfl, hx0⟩
  go_wp2_with fail
  refine (l2Binaries_any _).mono ?_
  rintro e w1 ⟨ao, n, cap, fp, rfl, hr, hf, hx1⟩
  go_wp2_with fail
  refine (l1Has_any opsL s _ _ hr.rep).mono ?_
  clear hr hf
  cases ho : hasB opsL s
  rotate_left
  · rintro e w1 ⟨rfl, rfl⟩
    have HO := Lib.hid ho; clear ho
    go_wp2_with fail
    go_ret
    exact ⟨ret_int (by rw [args_op HO.out]), hx0.trans hx1⟩
  rintro e w1 ⟨rfl, rfl⟩
  have HO := Lib.hid ho; clear ho
  go_wp2_with fail
  refine (spec_SplitByte_col s _ hs).mono ?_
  rintro e w2 ⟨ao, n, cap, fp, rfl, hr, hf, hx2⟩
  obtain ⟨ao, ca, ba, oa, h1, hla, hma, pa, ha⟩ := hr.rep.strs
  simp only [List.cons.injEq, and_true, Value.slice.injEq] at h1
  obtain ⟨rfl, rfl, rfl⟩ := h1
  clear ha pa hr hf
  have HL : Hid (argsB s = ((cutB 58 s).length : Int) - 1) := Lib.hid (by
    by_cases h1 : (cutB 58 s).length = 1
    · have := sel_one HO.out h1
      rw [this.2 (by rw [← this.1, HQ.out]), h1]; rfl
    · cases hc : colB s
      · have := sel_none HO.out hc h1
        rw [HQ.out] at this; cases this
      · rw [(sel_col HO.out hc).2 HQ.out, cut_col hc, List.length_append]; simp only [List.length_cons, List.length_nil]; omega)
  have hb := cutB_le 58 s
  have hb' : 1 ≤ (cutB 58 s).length := by rw [cutB_length]; omega
  generalize (cutB 58 s).length = n at *
  go_wp2_with fail
  go_ret
  exact ⟨ret_int (by rw [HL.out]), (hx0.trans hx1).trans hx2⟩

open Go.RowKit
set_option linter.unusedSimpArgs false
set_option linter.unusedVariables false

/-- What is left from a place on. -/
def suf (s : ByteArray) (k : Nat) : ByteArray := s.extract k s.size
theorem suf_data (s : ByteArray) (k : Nat) : (suf s k).data.toList = s.data.toList.drop k := by
  unfold suf
  rw [extract_mk, data_mkB, List.take_of_length_le (by simp)]
theorem pre_iff {s x : ByteArray} {k : Nat} (hk : k ≤ s.size) : Lib.hasPrefix (suf s k).data.toList x.data.toList = true ↔ k + x.size ≤ s.size ∧ s.extract k (k + x.size) = x := by
  have ex : x.data.toList.length = x.size := by simp
  have es : s.data.toList.length = s.size := by simp
  rw [suf_data, Lib.hasPrefix, List.isPrefixOf_iff_prefix, List.prefix_iff_eq_take, ex]
  constructor
  · intro h
    have hl := congrArg List.length h
    rw [List.length_take, List.length_drop, ex, es] at hl
    refine ⟨by omega, ?_⟩
    rw [extract_mk, show k + x.size - k = x.size from by omega, ← h, mkB_data]
  · rintro ⟨h1, h2⟩
    have h3 := congrArg (fun b : ByteArray => b.data.toList) h2
    simp only [extract_mk, data_mkB, show k + x.size - k = x.size from by omega] at h3
    exact h3.symm
theorem pre_no {s x : ByteArray} {k : Nat} (hk : k ≤ s.size) (h : ¬ (k + x.size ≤ s.size ∧ s.extract k (k + x.size) = x)) : Lib.hasPrefix (suf s k).data.toList x.data.toList = false := by
  cases hp : Lib.hasPrefix (suf s k).data.toList x.data.toList
  · rfl
  · exact absurd ((pre_iff hk).1 hp) h

set_option maxHeartbeats 1000000 in
theorem l2Starts_any (l : List ByteArray) (s : ByteArray) (at' : Nat) (va : Value) (w : World) (ra : Rep w (strs l) [va]) (hs : s.size ≤ 1048576) (hat : at' ≤ s.size) (hl : ∀ x, x ∈ l → x.size ≤ 1048576) :
    Calls Tryz.prog 93 #[.string s, .int .i64 at', va] w fun e w' => e = .returned (.string (firstP l (suf s at'))) ∧ Ext w w' := by
  obtain ⟨ao, ca, ba, oa, h1, hla, hma, pa, ha⟩ := ra.strs
  simp only [List.cons.injEq, and_true] at h1
  subst h1
  clear ra
  unfold maxLen at hma
  have HL := Lib.hid hl; clear hl
  go_enter Tryz.func93, Tryz.ntmps93
  go_wp2_with fail
  go_loopw [7, 8] (fun iv _ wr => ∃ k : Nat, k ≤ l.length ∧ iv = .int .i64 k ∧ Ext w wr ∧ Hid (∀ j (hj : j < k) (hl : j < l.length), Lib.hasPrefix (suf s at').data.toList l[j].data.toList = false)) (fun iv _ _ => l.length - (intOf iv).toNat)
  case atStart => exact ⟨0, Nat.zero_le _, rfl, Ext.refl _, Lib.hid fun j hj => by omega⟩
  case round =>
    obtain ⟨k, hk, rfl, hx, hR⟩ := hrel
    by_cases hlt : k < l.length
    rotate_left
    · go_wp2_with fail
      go_ret
      exact ⟨ret_str (by rw [firstP_none fun j hj => hR.out j (by omega) hj]), hx⟩
    obtain rfl := pa (by omega)
    have a0 := hx.cell (ha k l[k] (by simp [hlt]))
    have hxs := HL.out _ (List.getElem_mem hlt)
    have h30 : (0 : Int) ≤ k := by omega
    have h31 : (k : Int) < (l.length : Int) := by omega
    have HY : Hid (Lib.hasPrefix (suf s at').data.toList l[k].data.toList = true → firstP l (suf s at') = l[k]) := Lib.hid fun h => firstP_yes hlt (fun j hj => hR.out j hj (by omega)) h
    have HK : Hid (∀ j (h1 : j < l.length), j = k → l[j] = l[k]) := Lib.hid fun j h1 h => by subst h; rfl
    clear ha pa
    generalize l[k] = x at *
    go_wp2_with fail
    have g0 := reg (Ext.refl _) a0
    have s1 : IntKind.i64.wrap ((at' : Int) + x.size) = (at' : Int) + x.size := IntWalk.i64_in _ (by omega)
    have p0 : (0 : Int) ≤ at' := by omega
    have p1 : (at' : Int) ≤ (at' : Int) + x.size := by omega
    by_cases hle : at' + x.size ≤ s.size
    · have q1 : (at' : Int) + x.size ≤ s.size := by omega
      by_cases he : s.extract at' (at' + x.size) = x
      · have t1 := str_eq he
        have HP : Hid (Lib.hasPrefix (suf s at').data.toList x.data.toList = true) := Lib.hid ((pre_iff hat).2 ⟨hle, he⟩)
        have HE := Lib.hid he; clear he
        refine wp_region_quiet_below (by kernel_rfl) (by kernel_rfl) ?_
        repeat (go_big_quiet_step (fail))
        refine wpQuiet_nil ?_
        clear g0 s1
        intro _ hw'
        obtain ⟨pw, hw''⟩ := hw'
        subst hw''
        have X1 := regx wr pw
        generalize hW2 : «Sort».grow (redrawn wr pw.d) pw.os = W2 at *
        clear hW2
        have a1 := X1.cell a0
        go_wp2_with fail
        go_ret
        exact ⟨ret_str (by rw [HY.out HP.out]), hx.trans X1⟩
      · have t1 := str_ne he
        have HP : Hid (Lib.hasPrefix (suf s at').data.toList x.data.toList = false) := Lib.hid (pre_no hat fun h => he h.2)
        have HE := Lib.hid he; clear he
        refine wp_region_quiet_below (by kernel_rfl) (by kernel_rfl) ?_
        repeat (go_big_quiet_step (fail))
        refine wpQuiet_nil ?_
        clear g0 s1
        intro _ hw'
        obtain ⟨pw, hw''⟩ := hw'
        subst hw''
        have X1 := regx wr pw
        generalize hW2 : «Sort».grow (redrawn wr pw.d) pw.os = W2 at *
        clear hW2
        go_wp2_with fail
        go_roundw
        case rel => exact ⟨k + 1, by omega, by go_num, hx.trans X1, Lib.hid fun j hj hl => by
          by_cases h : j < k
          · exact hR.out j h hl
          · rw [HK.out j hl (by omega)]; exact HP.out⟩
        case measure => simp [intOf]; omega
    · have q1 : ¬ (at' : Int) + x.size ≤ s.size := by omega
      have HP : Hid (Lib.hasPrefix (suf s at').data.toList x.data.toList = false) := Lib.hid (pre_no hat fun h => hle h.1)
      refine wp_region_quiet_below (by kernel_rfl) (by kernel_rfl) ?_
      repeat (go_big_quiet_step (fail))
      refine wpQuiet_nil ?_
      clear g0 s1
      intro _ hw'
      obtain ⟨pw, hw''⟩ := hw'
      subst hw''
      have X1 := regx wr pw
      generalize hW2 : «Sort».grow (redrawn wr pw.d) pw.os = W2 at *
      clear hW2
      go_wp2_with fail
      go_roundw
      case rel => exact ⟨k + 1, by omega, by go_num, hx.trans X1, Lib.hid fun j hj hl => by
        by_cases h : j < k
        · exact hR.out j h hl
        · rw [HK.out j hl (by omega)]; exact HP.out⟩
      case measure => simp [intOf]; omega

/-- A colon that is not that of ':='. -/
def colL : List UInt8 → Bool
  | c :: d :: _ => decide (c = 58) && decide (d ≠ 61)
  | [c] => decide (c = 58)
  | [] => false

set_option maxHeartbeats 1000000 in
theorem colon_any (s : ByteArray) (w : World) (hs : s.size ≤ 1048576) :
    Calls Tryz.prog 108 #[.string s] w fun e w' => e = .returned (.bool (colL s.data.toList)) ∧ w' = w := by
  have hA : Hid (colL s.data.toList = (Lib.hasPrefix s.data.toList [58] && !Lib.hasPrefix s.data.toList [58, 61])) := Lib.hid (by
    rcases s.data.toList with _ | ⟨c, _ | ⟨d, r⟩⟩
    · rfl
    · by_cases h1 : c = 58
      · subst h1; rfl
      · have h1' : ((58 : UInt8) == c) = false := by simpa using fun e : 58 = c => h1 e.symm
        simp [colL, Lib.hasPrefix, List.isPrefixOf, h1, h1']
    · by_cases h1 : c = 58
      · subst h1
        by_cases h2 : d = 61
        · subst h2; rfl
        · have h2' : ((61 : UInt8) == d) = false := by simpa using fun e : 61 = d => h2 e.symm
          simp [colL, Lib.hasPrefix, List.isPrefixOf, h2, h2']
      · have h1' : ((58 : UInt8) == c) = false := by simpa using fun e : 58 = c => h1 e.symm
        simp [colL, Lib.hasPrefix, List.isPrefixOf, h1, h1'])
  cases h1 : Lib.hasPrefix s.data.toList [58]
  · have H1 := Lib.hid h1; clear h1
    go_enter Tryz.func108, Tryz.ntmps108
    go_wp2_with fail
    refine (Tryz.strings_HasPrefix _ _ _).mono ?_
    rw [show (⟨#[58]⟩ : ByteArray).data.toList = [58] from rfl, H1.out]
    rintro e w' ⟨rfl, rfl⟩
    go_wp2_with fail
    go_ret
    exact ⟨ret_bool (by rw [hA.out, H1.out]; rfl), rfl⟩
  cases h2 : Lib.hasPrefix s.data.toList [58, 61]
  all_goals
    have H1 := Lib.hid h1; clear h1
    have H2 := Lib.hid h2; clear h2
    go_enter Tryz.func108, Tryz.ntmps108
    go_wp2_with fail
    refine (Tryz.strings_HasPrefix _ _ _).mono ?_
    rw [show (⟨#[58]⟩ : ByteArray).data.toList = [58] from rfl, H1.out]
    rintro e w' ⟨rfl, rfl⟩
    go_wp2_with fail
    refine (Tryz.strings_HasPrefix _ _ _).mono ?_
    rw [show (⟨#[58, 61]⟩ : ByteArray).data.toList = [58, 61] from rfl, H2.out]
    rintro e w' ⟨rfl, rfl⟩
    go_wp2_with fail
    go_ret
    exact ⟨ret_bool (by rw [hA.out, H1.out, H2.out]; rfl), rfl⟩

theorem drop_cons {s : ByteArray} {k : Nat} (h : k < s.size) : s.data.toList.drop k = s[k] :: s.data.toList.drop (k + 1) := by
  rw [List.drop_eq_getElem_cons (by simpa using h)]; rfl
theorem u8_eq {a : UInt8} {n : Int} (b : UInt8) (hb : (b.toNat : Int) = n) (h : a = b) : ((a.toNat : Int) == n) = true := int_eq (by rw [h, hb])
theorem u8_ne {a : UInt8} {n : Int} (b : UInt8) (hb : (b.toNat : Int) = n) (h : ¬ a = b) : ((a.toNat : Int) == n) = false := int_ne fun e => h (UInt8.toNat_inj.1 (by omega))
theorem u8_eqn {a : UInt8} {n : Int} (b : UInt8) (hb : (b.toNat : Int) = n) (h : a = b) : ((a.toNat : Int) != n) = false := int_eqn (by rw [h, hb])
theorem u8_nen {a : UInt8} {n : Int} (b : UInt8) (hb : (b.toNat : Int) = n) (h : ¬ a = b) : ((a.toNat : Int) != n) = true := int_nen fun e => h (UInt8.toNat_inj.1 (by omega))

set_option maxHeartbeats 1000000 in
theorem l2Colon_any (s : ByteArray) (k : Nat) (w : World) (hs : s.size ≤ 1048576) (hk : k ≤ s.size) :
    Calls Tryz.prog 134 #[.string s, .int .i64 k] w fun e w' => e = .returned (.bool (colL (s.data.toList.drop k))) ∧ w' = w := by
  have p0 : (0 : Int) ≤ k := by omega
  by_cases h : k < s.size
  rotate_left
  · have hA : Hid (colL (s.data.toList.drop k) = false) := Lib.hid (by rw [List.drop_eq_nil_of_le (by simp; omega)]; rfl)
    have q1 : ¬ (k : Int) < (s.size : Int) := by omega
    go_enter Tryz.func134, Tryz.ntmps134
    go_wp2_with fail
    go_ret
    exact ⟨ret_bool (by rw [hA.out]), rfl⟩
  have q1 : (k : Int) < (s.size : Int) := by omega
  by_cases h1 : s[k] = 58
  rotate_left
  · have hA : Hid (colL (s.data.toList.drop k) = false) := Lib.hid (by
      rw [drop_cons h]
      rcases s.data.toList.drop (k + 1) with _ | ⟨d, r⟩ <;> simp [colL, h1])
    have t1 := u8_ne (n := 58) 58 rfl h1
    have H1 := Lib.hid h1; clear h1
    go_enter Tryz.func134, Tryz.ntmps134
    go_wp2_with fail
    go_ret
    exact ⟨ret_bool (by rw [hA.out]), rfl⟩
  have t1 := u8_eq (n := 58) 58 rfl h1
  by_cases h2 : k + 1 < s.size
  rotate_left
  · have hA : Hid (colL (s.data.toList.drop k) = true) := Lib.hid (by
      rw [drop_cons h, List.drop_eq_nil_of_le (by simp; omega)]; simp [colL, h1])
    have H1 := Lib.hid h1; clear h1
    have q2 : (s.size : Int) ≤ (k : Int) + 1 := by omega
    go_enter Tryz.func134, Tryz.ntmps134
    go_wp2_with fail
    go_ret
    exact ⟨ret_bool (by rw [hA.out]), rfl⟩
  have q2 : ¬ (s.size : Int) ≤ (k : Int) + 1 := by omega
  have q3 : (k : Int) + 1 < (s.size : Int) := by omega
  by_cases h3 : s[k + 1] = 61
  · have hA : Hid (colL (s.data.toList.drop k) = false) := Lib.hid (by
      rw [drop_cons h, drop_cons h2]; simp [colL, h3])
    have t3 := u8_eqn (n := 61) 61 rfl h3
    have H1 := Lib.hid h1; clear h1
    have H3 := Lib.hid h3; clear h3
    go_enter Tryz.func134, Tryz.ntmps134
    go_wp2_with fail
    go_ret
    exact ⟨ret_bool (by rw [hA.out]), rfl⟩
  · have hA : Hid (colL (s.data.toList.drop k) = true) := Lib.hid (by
      rw [drop_cons h, drop_cons h2]; simp [colL, h1, h3])
    have t3 := u8_nen (n := 61) 61 rfl h3
    have H1 := Lib.hid h1; clear h1
    have H3 := Lib.hid h3; clear h3
    go_enter Tryz.func134, Tryz.ntmps134
    go_wp2_with fail
    go_ret
    exact ⟨ret_bool (by rw [hA.out]), rfl⟩

end Go.Proofs.YtonmcoojgkgemaaGreatDoor
