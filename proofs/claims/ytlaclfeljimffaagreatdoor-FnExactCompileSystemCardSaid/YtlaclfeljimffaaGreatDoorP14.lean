/-
  SEVERAL TEXTS IN ONE: CONTRACTS: IsSelector and CountArgs, of the program and of the reference; CONTRACTS: plain texts, IsValue, of the program and of the reference; CONTRACTS: SizeOfExpr, DepthOfExpr, of the program and of the reference; RIGHT EXPRESSIONS: plain laws; parts of a slice; CONTRACTS: sizes and limits of core trees, of the program and of the reference.
  Conditions: those that each lemma states.
-/
import Derived.Test.YtlaclfeljimffaaGreatDoorRows
import Derived.Test.YtlaclfeljimffaaGreatDoorP05
import Derived.Test.YtlaclfeljimffaaGreatDoorP02
namespace Go.Proofs.YtlaclfeljimffaaGreatDoor
open Go.RowKit
set_option maxHeartbeats 8000000
set_option maxRecDepth 100000
set_option linter.unusedSimpArgs false
set_option linter.unusedVariables false
theorem l2Binaries_any (w : World) : Calls Tryz.prog 74 #[] w (GivesV w (strs opsL)) := by
 go_enter Tryz.func74, Tryz.ntmps74
 go_wp2
 go_ret
 exact gives_strs w opsL 9 (by simp [opsL, maxLen]) (by simp [opsL])
theorem operators_any (w : World) : Calls Tryz.prog 123 #[] w (GivesV w (strs opsL)) := by
 go_enter Tryz.func123, Tryz.ntmps123
 go_wp2
 go_ret
 exact gives_strs w opsL 9 (by simp [opsL, maxLen]) (by simp [opsL])
def firstP : List ByteArray -> ByteArray -> ByteArray
 | [], _ => ⟨#[]⟩
 | x :: l, s => if Lib.hasPrefix s.data.toList x.data.toList then x else firstP l s
theorem firstP_yes : ∀ {l : List ByteArray} {s : ByteArray} {k : Nat} (hk : k < l.length), (∀ j (hj : j < k), Lib.hasPrefix s.data.toList (l[j]'(by omega)).data.toList = false) -> Lib.hasPrefix s.data.toList l[k].data.toList = true -> firstP l s = l[k]
 | x :: l, s, 0, hk, _, h => by simp only [List.getElem_cons_zero] at h ⊢; rw [firstP, if_pos h]
 | x :: l, s, k + 1, hk, h0, h => by
  have hx := h0 0 (by omega)
  simp only [List.getElem_cons_zero] at hx
  rw [firstP, if_neg (by rw [hx]; exact Bool.false_ne_true)]
  simp only [List.getElem_cons_succ] at h ⊢
  exact firstP_yes (by simpa using hk) (fun j hj => by have := h0 (j + 1) (by omega); simpa using this) h
theorem firstP_none : ∀ {l : List ByteArray} {s : ByteArray}, (∀ j (hj : j < l.length), Lib.hasPrefix s.data.toList (l[j]'hj).data.toList = false) -> firstP l s = ⟨#[]⟩
 | [], s, _ => rfl
 | x :: l, s, h0 => by
  have hx := h0 0 (by simp)
  simp only [List.getElem_cons_zero] at hx
  rw [firstP, if_neg (by rw [hx]; exact Bool.false_ne_true)]
  exact firstP_none fun j hj => by have := h0 (j + 1) (by simpa using hj); simpa using this
theorem firstP_mem : ∀ (l : List ByteArray) (s : ByteArray), firstP l s = ⟨#[]⟩ ∨ firstP l s ∈ l
 | [], s => Or.inl rfl
 | x :: l, s => by
  rw [firstP]
  split
  · exact Or.inr List.mem_cons_self
  · rcases firstP_mem l s with h | h
    · exact Or.inl h
    · exact Or.inr (List.mem_cons_of_mem _ h)
theorem firstOf_any (l : List ByteArray) (s : ByteArray) (va : Value) (w : World) (ra : Rep w (strs l) [va]) :
 Calls Tryz.prog 122 #[.string s, va] w fun e w' => e = .returned (.string (firstP l s)) /\ w' = w := by
 obtain ⟨ao, ca, ba, oa, h1, hla, hma, pa, ha⟩ := ra.strs
 simp only [List.cons.injEq, and_true] at h1
 subst h1
 clear ra
 unfold maxLen at hma
 go_enter Tryz.func122, Tryz.ntmps122
 go_wp2_with fail
 go_loop [6, 9] (fun xv i => ∃ k : Nat, k <= l.length /\ i = .int .i64 k /\ Hid (∀ j (hj : j < k) (hl : j < l.length), Lib.hasPrefix s.data.toList l[j].data.toList = false)) (fun _ i => l.length - (intOf i).toNat)
 case atStart => exact ⟨0, Nat.zero_le _, rfl, LH fun j hj => by omega⟩
 case round =>
  obtain ⟨k, hk, rfl, hR⟩ := hrel
  by_cases hlt : k < l.length
  · obtain rfl := pa (by omega)
    have a0 := ha k l[k] (by simp [hlt])
    clear ha pa
    cases hp : Lib.hasPrefix s.data.toList l[k].data.toList
    · have HP := LH hp; clear hp
      go_wp2_with fail
      refine (Tryz.strings_HasPrefix _ _ _).mono ?_
      rw [HP.out]
      rintro e w' ⟨rfl, rfl⟩
      go_wp2_with fail
      go_round
      case rel => exact ⟨k + 1, by omega, by go_num, LH fun j hj hl => by
       by_cases h : j < k
       · exact hR.out j h hl
       · obtain rfl : j = k := by omega
         exact HP.out⟩
      case measure => simp [intOf]; omega
    · have HP := LH hp; clear hp
      go_wp2_with fail
      refine (Tryz.strings_HasPrefix _ _ _).mono ?_
      rw [HP.out]
      rintro e w' ⟨rfl, rfl⟩
      go_wp2_with fail
      go_ret
      exact ⟨ret_str (by rw [firstP_yes hlt (fun j hj => hR.out j hj (by omega)) HP.out]), rfl⟩
  · go_wp2_with fail
    go_ret
    exact ⟨ret_str (by rw [firstP_none fun j hj => hR.out j (by omega) hj]), rfl⟩
theorem ops_first {s : ByteArray} (h : s ∈ opsL) : firstP opsL s = s := by
 simp only [opsL, List.mem_cons, List.not_mem_nil, or_false] at h
 rcases h with rfl | rfl | rfl | rfl | rfl | rfl | rfl | rfl | rfl | rfl | rfl | rfl | rfl | rfl | rfl <;> rfl
theorem ops_ne {s : ByteArray} (h : s ∈ opsL) : s ≠ ⟨#[]⟩ := by
 simp only [opsL, List.mem_cons, List.not_mem_nil, or_false] at h
 rcases h with rfl | rfl | rfl | rfl | rfl | rfl | rfl | rfl | rfl | rfl | rfl | rfl | rfl | rfl | rfl <;> simp
theorem ops_iff {s : ByteArray} (hs : s ≠ ⟨#[]⟩) : firstP opsL s = s ↔ s ∈ opsL := by
 refine ⟨fun h => ?_, ops_first⟩
 rcases firstP_mem opsL s with h1 | h1
 · exact absurd (h.symm.trans h1) hs
 · rwa [h] at h1
theorem isOperator_any (s : ByteArray) (w : World) : Calls Tryz.prog 88 #[.string s] w fun e w' => e = .returned (.bool (hasB opsL s)) /\ Ext w w' := by
 by_cases hs : s = ⟨#[]⟩
 · subst hs
   have hp := LH (hasB_ff (l := opsL) (s := ⟨#[]⟩) (fun h => ops_ne h rfl))
   go_enter Tryz.func88, Tryz.ntmps88
   go_wp2_with fail
   go_ret
   exact ⟨ret_bool (by rw [hp.out]), XR _⟩
 have t0 : ¬ s.toList = [] := fun h => hs (toList_inj (by simp [h]))
 have t0' : s.toList.isEmpty = false := by simpa using t0
 by_cases h : firstP opsL s = s
 · have t1 := str_eq h
   have hp := LH (hasB_tt ((ops_iff hs).1 h))
   clear h hs
   go_enter Tryz.func88, Tryz.ntmps88
   go_wp2_with fail
   refine (operators_any _).mono ?_
   rintro e w1 ⟨ao, n, cap, fp, rfl, hr, hf, hx⟩
   go_wp2_with fail
   refine (firstOf_any opsL s _ _ hr.rep).mono ?_
   rintro e w' ⟨rfl, rfl⟩
   go_wp2_with fail
   go_ret
   exact ⟨ret_bool (by rw [hp.out]), hx⟩
 · have t1 := str_ne h
   have hp := LH (hasB_ff fun hm => h ((ops_iff hs).2 hm))
   clear h hs
   go_enter Tryz.func88, Tryz.ntmps88
   go_wp2_with fail
   refine (operators_any _).mono ?_
   rintro e w1 ⟨ao, n, cap, fp, rfl, hr, hf, hx⟩
   go_wp2_with fail
   refine (firstOf_any opsL s _ _ hr.rep).mono ?_
   rintro e w' ⟨rfl, rfl⟩
   go_wp2_with fail
   go_ret
   exact ⟨ret_bool (by rw [hp.out]), hx⟩
theorem partsOf_any (s : ByteArray) (w : World) (hs : s.size <= 1048576) (hm : MaxOk w) :
 Calls Tryz.prog 89 #[.string s] w fun e w' => ∃ v, e = .returned v /\ Ext w w' /\ ((kwB s = false /\ v = .slice none 0 0) ∨ (kwB s = true /\ ∃ ad, v = .slice (some ad) (cutB 58 (stem s)).length (cutB 58 (stem s)).length)) := by
 go_enter Tryz.func89, Tryz.ntmps89
 go_wp2_with fail
 refine (Tryz.strings_HasSuffix _ _ _ (by omega)).mono ?_
 cases hc : colB s
 · have e1 : Lib.hasSuffix s.data.toList (⟨#[58]⟩ : ByteArray).data.toList = false := hc
   rw [e1]
   clear e1
   rintro e w' ⟨rfl, rfl⟩
   go_wp2_with fail
   go_ret
   exact ⟨_, rfl, XR _, Or.inl ⟨by simp [kwB, hc], rfl⟩⟩
 · have e1 : Lib.hasSuffix s.data.toList (⟨#[58]⟩ : ByteArray).data.toList = true := hc
   rw [e1]
   clear e1
   rintro e w' ⟨rfl, rfl⟩
   have HC := LH hc; clear hc
   have h0 : 1 <= s.size := by
    obtain ⟨l, hl⟩ := colB_iff.1 HC.out
    have := congrArg List.length hl
    simp at this; have e : s.data.size = s.size := rfl; omega
   have f1 : (0 : Int) <= (s.size : Int) - 1 := by omega
   go_wp2_with fail
   refine (strings_Split_one (stem s) 58 _ (by have : (stem s).size <= s.size := by (unfold stem; simp)
                                               omega) hm).mono ?_
   rintro e w1 ⟨rfl, hw1⟩
   have hlen : (cutB 58 (stem s)).length <= 1048577 := by
    have h1 := cutB_le 58 (stem s)
    have : (stem s).size <= s.size := by unfold stem; simp
    omega
   have hne : cutB 58 (stem s) ≠ [] := fun h => by have := cutB_length 58 (stem s); rw [h] at this; simp at this
   obtain ⟨ao, n, cap, fp, e1, hr, hf, hx⟩ := gives_strs w' (cutB 58 (stem s)) 9 (by simp only [maxLen]; omega) hne
   rw [<- hw1] at hr hf hx
   simp only [Ending.returned.injEq, Value.slice.injEq] at e1
   obtain ⟨rfl, rfl, rfl⟩ := e1
   obtain ⟨ao, ca, ba, oa, h1, hla, hma, pa, ha⟩ := hr.rep.strs
   simp only [List.cons.injEq, and_true, true_and, Value.slice.injEq] at h1
   obtain ⟨rfl, rfl⟩ := h1
   have HK : Hid (kwB s = (allB partB (cutB 58 (stem s)) && decide ((cutB 58 (stem s)).length <= 4))) := LH (by simp [kwB, HC.out])
   have HS : Hid (∀ x, x ∈ cutB 58 (stem s) -> x.size <= 9223372036854775806) := LH fun x h => by
    have := cutB_mem h
    have : (stem s).size <= s.size := by unfold stem; simp
    omega
   generalize hL : cutB 58 (stem s) = L at *
   have HL := LH hL
   clear hL hr hf hw1
   unfold maxLen at hma
   go_wp2_with fail
   go_loop [5, 17] (fun xv i => ∃ k : Nat, k <= L.length /\ i = .int .i64 k /\ Hid (∀ j (hj : j < k) (hl : j < L.length), partB L[j] = true)) (fun _ i => L.length - (intOf i).toNat)
   case atStart => exact ⟨0, Nat.zero_le _, rfl, LH fun j hj => by omega⟩
   case round =>
    obtain ⟨k, hk, rfl, hR⟩ := hrel
    by_cases hlt : k < L.length
    · have hp1 := pa (by omega)
      simp only [Option.some.injEq, Addr.mk.injEq, and_true] at hp1
      obtain ⟨rfl, rfl⟩ := hp1
      have a0 := ha k L[k] (by simp [hlt])
      simp only [Nat.zero_add] at a0
      have hsz := HS.out _ (List.getElem_mem hlt)
      clear ha pa
      cases hp : partB L[k]
      · have HP := LH hp; clear hp
        go_wp2_with fail
        refine (isPart_any _ _ hsz).mono ?_
        rw [HP.out]
        rintro e w' ⟨rfl, rfl⟩
        go_wp2_with fail
        go_ret
        exact ⟨_, rfl, hx, Or.inl ⟨by rw [HK.out, allB_ff (List.getElem_mem hlt) HP.out]; rfl, rfl⟩⟩
      · have HP := LH hp; clear hp
        go_wp2_with fail
        refine (isPart_any _ _ hsz).mono ?_
        rw [HP.out]
        rintro e w' ⟨rfl, rfl⟩
        go_wp2_with fail
        go_round
        case rel => exact ⟨k + 1, by omega, by go_num, LH fun j hj hl => by
         by_cases h : j < k
         · exact hR.out j h hl
         · obtain rfl : j = k := by omega
           exact HP.out⟩
        case measure => simp [intOf]; omega
    · have hall : Hid (allB partB L = true) := LH (allB_tt fun x h => by
       obtain ⟨j, hj, rfl⟩ := List.mem_iff_getElem.1 h
       exact hR.out j (by omega) hj)
      by_cases h4 : L.length <= 4
      · have t4 : ((4 : Int) < (L.length : Int)) = False := by simp; omega
        have t5 : (L.length : Int) <= 4 := by omega
        go_wp2_with fail
        go_ret
        exact ⟨_, rfl, hx, Or.inr ⟨by rw [HK.out, hall.out]; simpa using h4, _, by rw [HL.out]; rfl⟩⟩
      · have t5 : (4 : Int) < (L.length : Int) := by omega
        go_wp2_with fail
        go_ret
        exact ⟨_, rfl, hx, Or.inl ⟨by rw [HK.out, hall.out]; simpa using h4, rfl⟩⟩
theorem impl_IsSelector_any (s : ByteArray) (w : World) (hs : s.size <= 1048576) (hm : MaxOk w) :
 Calls Tryz.prog 117 #[.string s] w fun e w' => e = .returned (.bool (selB s)) /\ Ext w w' := by
 go_enter Tryz.func117, Tryz.ntmps117
 go_wp2_with fail
 refine (isOperator_any s _).mono ?_
 cases ho : hasB opsL s
 · rintro e w1 ⟨rfl, hx1⟩
   have HO := LH ho; clear ho
   go_wp2_with fail
   refine (impl_IsName_any s _ (by omega)).mono ?_
   cases hn : nameB s
   · rintro e w2 ⟨rfl, hx2⟩
     have HN := LH hn; clear hn
     go_wp2_with fail
     refine (partsOf_any s _ hs ((hm.ext hx1).ext hx2)).mono ?_
     rintro e w3 ⟨v, rfl, hx3, h3⟩
     rcases h3 with ⟨hk, rfl⟩ | ⟨hk, ad, rfl⟩
     · go_wp2_with fail
       go_ret
       exact ⟨ret_bool (by simp [selB, HO.out, HN.out, hk]), (hx1.trans hx2).trans hx3⟩
     · go_wp2_with fail
       go_ret
       exact ⟨ret_bool (by simp [selB, HO.out, HN.out, hk]), (hx1.trans hx2).trans hx3⟩
   · rintro e w2 ⟨rfl, hx2⟩
     have HN := LH hn; clear hn
     go_wp2_with fail
     go_ret
     exact ⟨ret_bool (by simp [selB, HO.out, HN.out]), hx1.trans hx2⟩
 · rintro e w1 ⟨rfl, hx1⟩
   have HO := LH ho; clear ho
   go_wp2_with fail
   go_ret
   exact ⟨ret_bool (by simp [selB, HO.out]), hx1⟩
theorem impl_CountArgs_any (s : ByteArray) (w : World) (hs : s.size <= 1048576) (hm : MaxOk w) :
 Calls Tryz.prog 51 #[.string s] w fun e w' => e = .returned (.int .i64 (argsB s)) /\ Ext w w' := by
 go_enter Tryz.func51, Tryz.ntmps51
 go_wp2_with fail
 refine (isOperator_any s _).mono ?_
 cases ho : hasB opsL s
 · rintro e w1 ⟨rfl, hx1⟩
   have HO := LH ho; clear ho
   go_wp2_with fail
   refine (impl_IsName_any s _ (by omega)).mono ?_
   cases hn : nameB s
   · rintro e w2 ⟨rfl, hx2⟩
     have HN := LH hn; clear hn
     go_wp2_with fail
     refine (partsOf_any s _ hs ((hm.ext hx1).ext hx2)).mono ?_
     rintro e w3 ⟨v, rfl, hx3, h3⟩
     rcases h3 with ⟨hk, rfl⟩ | ⟨hk, ad, rfl⟩
     · go_wp2_with fail
       go_ret
       exact ⟨ret_int (by simp [argsB, HO.out, HN.out, hk]), (hx1.trans hx2).trans hx3⟩
     · have HK := LH hk; clear hk
       go_wp2_with fail
       refine (partsOf_any s _ hs (((hm.ext hx1).ext hx2).ext hx3)).mono ?_
       rintro e w4 ⟨v, rfl, hx4, h4⟩
       rcases h4 with ⟨hk, rfl⟩ | ⟨hk, ad, rfl⟩
       · exact absurd HK.out (by rw [hk]; exact Bool.false_ne_true)
       · go_wp2_with fail
         go_ret
         exact ⟨ret_int (by simp [argsB, HO.out, HN.out, HK.out]), ((hx1.trans hx2).trans hx3).trans hx4⟩
   · rintro e w2 ⟨rfl, hx2⟩
     have HN := LH hn; clear hn
     go_wp2_with fail
     go_ret
     exact ⟨ret_int (by simp [argsB, HO.out, HN.out]), hx1.trans hx2⟩
 · rintro e w1 ⟨rfl, hx1⟩
   have HO := LH ho; clear ho
   go_wp2_with fail
   go_ret
   exact ⟨ret_int (by simp [argsB, HO.out]), hx1⟩
theorem spec_SplitByte_col (s : ByteArray) (w : World) (hs : s.size <= 1048576) : Calls Tryz.prog 75 #[.string s, .int .u8 58] w (GivesV w (strs (cutB 58 s))) := spec_SplitByte_any s 58 w hs
theorem spec_IsSelector_any (s : ByteArray) (w : World) (hs : s.size <= 1048576) :
 Calls Tryz.prog 42 #[.string s] w fun e w' => e = .returned (.bool (selB s)) /\ Ext w w' := by
 go_enter Tryz.func42, Tryz.ntmps42
 go_wp2_with fail
 refine (l2Binaries_any _).mono ?_
 rintro e w1 ⟨ao, n, cap, fp, rfl, hr, hf, hx1⟩
 go_wp2_with fail
 refine (l1Has_any opsL s _ _ hr.rep).mono ?_
 clear hr hf
 cases ho : hasB opsL s
 rotate_left
 · rintro e w1 ⟨rfl, rfl⟩
   have HO := LH ho; clear ho
   go_wp2_with fail
   go_ret
   exact ⟨ret_bool (by simp [selB, HO.out]), hx1⟩
 rintro e w1 ⟨rfl, rfl⟩
 have HO := LH ho; clear ho
 go_wp2_with fail
 refine (spec_SplitByte_col s _ hs).mono ?_
 rintro e w2 ⟨ao, n, cap, fp, rfl, hr, hf, hx2⟩
 have hx := hx1.trans hx2
 clear hx1 hx2 hf
 by_cases h1 : (cutB 58 s).length = 1
 · have HS := LH (sel_one HO.out h1)
   rw [cut_single h1] at hr
   clear h1
   obtain ⟨ao, ca, ba, oa, h1, hla, hma, pa, ha⟩ := hr.rep.strs
   simp only [List.cons.injEq, and_true, Value.slice.injEq, List.length_cons, List.length_nil, Nat.zero_add] at h1
   obtain ⟨rfl, rfl, rfl⟩ := h1
   obtain rfl := pa (by simp)
   have a0 := ha 0 s (by simp)
   simp only [Nat.add_zero] at a0
   clear ha pa hr
   simp only [List.length_cons, List.length_nil, Nat.zero_add] at hla
   unfold maxLen at hma
   go_wp2_with fail
   go_loopw [5] (fun iv wr => ∃ k : Nat, k <= 1 /\ iv = .int .i64 k /\ Ext w2 wr /\ Hid (0 < k -> nameB s = true)) (fun iv _ => 1 - (intOf iv).toNat)
   case atStart => exact ⟨0, by omega, rfl, XR _, LH (fun h => by omega)⟩
   case round =>
    obtain ⟨k, hk, rfl, hxr, hR⟩ := hrel
    have b0 := Ext.cell hxr a0
    clear a0
    by_cases hlt : k = 0
    · subst hlt
      clear hR
      cases hp : partB s
      · have HP := LH hp; clear hp
        go_wp2_with fail
        refine (l2IsName_any s _ (by omega)).mono ?_
        rw [HP.out]
        rintro e w' ⟨rfl, rfl⟩
        go_wp2_with fail
        go_ret
        exact ⟨ret_bool (by rw [HS.out.1]; simp [nameB, HP.out]), hx.trans hxr⟩
      · have HP := LH hp; clear hp
        go_wp2_with fail
        refine (l2IsName_any s _ (by omega)).mono ?_
        rw [HP.out]
        rintro e w' ⟨rfl, rfl⟩
        go_wp2_with fail
        refine (l2Words_any _).mono ?_
        rintro e w3 ⟨ao, n, cap, fp, rfl, hr, hf, hx3⟩
        go_wp2_with fail
        refine (l1Has_any wordsL s _ _ hr.rep).mono ?_
        cases hw : hasB wordsL s
        · have HW := LH hw; clear hw
          rintro e w' ⟨rfl, rfl⟩
          go_wp2_with fail
          go_roundw
          case rel => exact ⟨1, by omega, rfl, hxr.trans hx3, LH fun _ => by simp [nameB, HP.out, HW.out]⟩
          case measure => simp [intOf]
        · have HW := LH hw; clear hw
          rintro e w' ⟨rfl, rfl⟩
          go_wp2_with fail
          go_ret
          exact ⟨ret_bool (by rw [HS.out.1]; simp [nameB, HP.out, HW.out]), (hx.trans hxr).trans hx3⟩
    · obtain rfl : k = 1 := by omega
      go_wp2_with fail
      go_ret
      exact ⟨ret_bool (by rw [HS.out.1, hR.out (by omega)]), hx.trans hxr⟩
 · cases hc : colB s
   · have HS := LH (sel_none HO.out hc h1)
     obtain ⟨L, x, hL, hx0⟩ := cut_last hc h1
     have h2 : L ≠ [] := fun h => h1 (by rw [hL, h]; rfl)
     have h3 : 0 < L.length := List.length_pos_iff.2 h2
     rw [hL] at hr
     clear h1 hL h2 hc
     obtain ⟨ao, ca, ba, oa, h1, hla, hma, pa, ha⟩ := hr.rep.strs
     simp only [List.cons.injEq, and_true, Value.slice.injEq, List.length_append, List.length_cons, List.length_nil, Nat.zero_add] at h1
     obtain ⟨rfl, rfl, rfl⟩ := h1
     obtain rfl := pa (by simp)
     have a0 := ha L.length x (by simp)
     have t0 : ¬ x.toList = [] := fun h => hx0 (by rw [show x = (⟨#[]⟩ : ByteArray) from toList_inj (by simp [h])]; rfl)
     have t0' : x.toList.isEmpty = false := by simpa using t0
     clear ha pa hr hx0
     simp only [List.length_append, List.length_cons, List.length_nil, Nat.zero_add] at hla
     unfold maxLen at hma
     have f1 : (1 : Int) < (L.length : Int) + 1 := by omega
     go_wp2_with fail
     go_ret
     exact ⟨ret_bool (by rw [HS.out]), hx⟩
   · have HS := LH (sel_col HO.out hc)
     have hL := cut_col hc
     have hne : (cutB 58 (stem s)).length ≠ 0 := by rw [cutB_length]; omega
     have HSZ : Hid (∀ x, x ∈ cutB 58 (stem s) -> x.size <= 9223372036854775806) := LH fun x h => by
      have := cutB_mem h
      have : (stem s).size <= s.size := by unfold stem; simp
      omega
     rw [hL] at hr
     clear h1 hL hc
     generalize hG : cutB 58 (stem s) = L at *
     have HG := LH hG; clear hG
     have h3 : 0 < L.length := by omega
     obtain ⟨ao, ca, ba, oa, h1, hla, hma, pa, ha⟩ := hr.rep.strs
     simp only [List.cons.injEq, and_true, Value.slice.injEq, List.length_append, List.length_cons, List.length_nil, Nat.zero_add] at h1
     obtain ⟨rfl, rfl, rfl⟩ := h1
     obtain rfl := pa (by simp)
     have a0 := ha L.length ByteArray.empty (by simp)
     have HA : Hid (∀ k (hk : k < L.length), w2.cell? ⟨ba, oa + k, none⟩ = some (.string L[k])) := LH fun k hk => ha k L[k] (by rw [List.getElem?_append_left hk, List.getElem?_eq_getElem hk])
     clear ha pa hr
     simp only [List.length_append, List.length_cons, List.length_nil, Nat.zero_add] at hla
     unfold maxLen at hma
     have f1 : (1 : Int) < (L.length : Int) + 1 := by omega
     have f2 : (L.length : Int) <= cap := by omega
     go_wp2_with fail
     go_loopw [5] (fun iv wr => ∃ k : Nat, k <= L.length /\ iv = .int .i64 k /\ Ext w2 wr /\ Hid (∀ j (hj : j < k) (hl : j < L.length), partB L[j] = true)) (fun iv _ => L.length - (intOf iv).toNat)
     case atStart => exact ⟨0, by omega, rfl, XR _, LH (fun j h => by omega)⟩
     case round =>
      obtain ⟨k, hk, rfl, hxr, hR⟩ := hrel
      by_cases hlt : k < L.length
      · have b0 := Ext.cell hxr (HA.out k hlt)
        have hsz := HSZ.out _ (List.getElem_mem hlt)
        clear a0
        have t1 : ((L.length : Int) + 1 == 1) = false := int_ne (by omega)
        cases hp : partB L[k]
        · have HP := LH hp; clear hp
          go_wp2_with fail
          refine (l2IsName_any _ _ hsz).mono ?_
          rw [HP.out]
          rintro e w' ⟨rfl, rfl⟩
          go_wp2_with fail
          go_ret
          exact ⟨ret_bool (by rw [HS.out.1, allB_ff (List.getElem_mem hlt) HP.out]; rfl), hx.trans hxr⟩
        · have HP := LH hp; clear hp
          go_wp2_with fail
          refine (l2IsName_any _ _ hsz).mono ?_
          rw [HP.out]
          rintro e w' ⟨rfl, rfl⟩
          go_wp2_with fail
          go_roundw
          case rel => exact ⟨k + 1, by omega, by go_num, hxr, LH fun j hj hl => by
           by_cases h : j < k
           · exact hR.out j h hl
           · obtain rfl : j = k := by omega
             exact HP.out⟩
          case measure => simp [intOf]; omega
      · have hall : Hid (allB partB L = true) := LH (allB_tt fun x h => by
         obtain ⟨j, hj, rfl⟩ := List.mem_iff_getElem.1 h
         exact hR.out j (by omega) hj)
        clear a0
        go_wp2_with fail
        go_ret
        exact ⟨ret_bool (by rw [HS.out.1, hall.out, Bool.true_and]; first | rfl | (apply Bool.eq_iff_iff.2; simp only [decide_eq_true_eq]; omega)), hx.trans hxr⟩
theorem spec_CountArgs_any (s : ByteArray) (w : World) (hs : s.size <= 1048576) :
 Calls Tryz.prog 43 #[.string s] w fun e w' => e = .returned (.int .i64 (argsB s)) /\ Ext w w' := by
 go_enter Tryz.func43, Tryz.ntmps43
 go_wp2_with fail
 refine (spec_IsSelector_any s _ hs).mono ?_
 cases hq : selB s
 · have HQ := LH hq; clear hq
   rintro e w1 ⟨rfl, hx1⟩
   go_wp2_with fail
   go_ret
   exact ⟨ret_int (by rw [args_none HQ.out]), hx1⟩
 have HQ := LH hq; clear hq
 rintro e w0 ⟨rfl, hx0⟩
 go_wp2_with fail
 refine (l2Binaries_any _).mono ?_
 rintro e w1 ⟨ao, n, cap, fp, rfl, hr, hf, hx1⟩
 go_wp2_with fail
 refine (l1Has_any opsL s _ _ hr.rep).mono ?_
 clear hr hf
 cases ho : hasB opsL s
 rotate_left
 · rintro e w1 ⟨rfl, rfl⟩
   have HO := LH ho; clear ho
   go_wp2_with fail
   go_ret
   exact ⟨ret_int (by rw [args_op HO.out]), hx0.trans hx1⟩
 rintro e w1 ⟨rfl, rfl⟩
 have HO := LH ho; clear ho
 go_wp2_with fail
 refine (spec_SplitByte_col s _ hs).mono ?_
 rintro e w2 ⟨ao, n, cap, fp, rfl, hr, hf, hx2⟩
 obtain ⟨ao, ca, ba, oa, h1, hla, hma, pa, ha⟩ := hr.rep.strs
 simp only [List.cons.injEq, and_true, Value.slice.injEq] at h1
 obtain ⟨rfl, rfl, rfl⟩ := h1
 clear ha pa hr hf
 have HL : Hid (argsB s = ((cutB 58 s).length : Int) - 1) := LH (by
  by_cases h1 : (cutB 58 s).length = 1
  · have := sel_one HO.out h1
    rw [this.2 (by rw [<- this.1, HQ.out]), h1]; rfl
  · cases hc : colB s
    · have := sel_none HO.out hc h1
      rw [HQ.out] at this; cases this
    · rw [(sel_col HO.out hc).2 HQ.out, cut_col hc, List.length_append]; simp only [List.length_cons, List.length_nil]; omega)
 have hb := cutB_le 58 s
 have hb' : 1 <= (cutB 58 s).length := by rw [cutB_length]; omega
 generalize (cutB 58 s).length = n at *
 go_wp2_with fail
 go_ret
 exact ⟨ret_int (by rw [HL.out]), (hx0.trans hx1).trans hx2⟩
def TextOk (m : Nat) (s : ByteArray) : Prop := (∀ b, b ∈ s.data.toList -> 32 <= b.toNat /\ b.toNat <= 126) /\ s.size <= m
noncomputable def textB (m : Nat) (s : ByteArray) : Bool := eqB (TextOk m s) True
theorem textB_ff {m : Nat} {s : ByteArray} (h : ¬ TextOk m s) : textB m s = false := eqB_ff (by simp [h])
theorem textB_iff {m : Nat} {s : ByteArray} : textB m s = true ↔ TextOk m s := by simp [textB, eqB_iff]
theorem byte_mem {s : ByteArray} {k : Nat} (h : k < s.size) : s[k] ∈ s.data.toList := by
 have : s.data.toList[k]'(by simpa using h) = s[k] := rfl
 rw [<- this]; exact List.getElem_mem _
theorem bytes_all {s : ByteArray} {p : UInt8 -> Prop} (h : ∀ k (hk : k < s.size), p s[k]) : ∀ b, b ∈ s.data.toList -> p b := fun b hb => by
 obtain ⟨k, hk, rfl⟩ := List.mem_iff_getElem.1 hb
 exact h k (by simpa using hk)
theorem l1In_any (n a b : Int) (w : World) : Calls Tryz.prog 44 #[.int .i64 n, .int .i64 a, .int .i64 b] w fun e w' => e = .returned (.bool (decide (a <= n /\ n <= b))) /\ w' = w := by
 go_enter Tryz.func44, Tryz.ntmps44
 go_wp2
 all_goals go_ret
 all_goals exact ⟨ret_bool (by first | rfl | (apply Bool.eq_iff_iff.2; first | (simp; done) | (simp; omega))), rfl⟩
theorem l3IsText_any (s : ByteArray) (w : World) (hs : s.size <= 9223372036854775806) :
 Calls Tryz.prog 100 #[.string s] w fun e w' => e = .returned (.bool (textB 40 s)) /\ w' = w := by
 go_enter Tryz.func100, Tryz.ntmps100
 go_wp2_with fail
 go_loop [3] (fun i => ∃ k : Nat, k <= s.size /\ i = .int .i64 k /\ Hid (∀ j (hj : j < k) (hl : j < s.size), 32 <= s[j].toNat /\ s[j].toNat <= 126)) (fun i => s.size - (intOf i).toNat)
 case atStart => exact ⟨0, Nat.zero_le _, rfl, LH fun j hj => by omega⟩
 case round =>
  obtain ⟨k, hk, rfl, hR⟩ := hrel
  by_cases hlt : k < s.size
  · obtain ⟨hb0, hb1⟩ := byte_bd s[k]
    by_cases hw : (32 : Int) <= (s[k].toNat : Int)
    rotate_left
    · have HW := LH hw
      have hw' : (s[k].toNat : Int) < 32 := by omega
      clear hw
      go_wp2_with fail
      go_ret
      exact ⟨ret_bool (by rw [textB_ff fun h => by have := h.1 _ (byte_mem hlt); have := HW.out; omega]), rfl⟩
    by_cases hv : (s[k].toNat : Int) <= 126
    rotate_left
    · have HV := LH hv
      have hv' : (126 : Int) < (s[k].toNat : Int) := by omega
      clear hv
      go_wp2_with fail
      go_ret
      exact ⟨ret_bool (by rw [textB_ff fun h => by have := h.1 _ (byte_mem hlt); have := HV.out; omega]), rfl⟩
    · have HW := LH hw
      have HV := LH hv
      go_wp2_with fail
      go_round
      case rel => exact ⟨k + 1, by omega, by go_num, LH fun j hj hl => by
       by_cases h : j < k
       · exact hR.out j h hl
       · obtain rfl : j = k := by omega
         have := HW.out; have := HV.out; omega⟩
      case measure => simp [intOf]; omega
  · have hall : Hid (textB 40 s = decide (s.size <= 40)) := LH (by
     have hA : ∀ b, b ∈ s.data.toList -> 32 <= b.toNat /\ b.toNat <= 126 := bytes_all fun j hj => hR.out j (by omega) hj
     rw [Bool.eq_iff_iff, textB_iff]; simp only [TextOk, decide_eq_true_eq]
     exact ⟨fun h => h.2, fun h => ⟨hA, h⟩⟩)
    go_wp2_with fail
    go_ret
    exact ⟨ret_bool (by rw [hall.out]; first | rfl | (apply Bool.eq_iff_iff.2; simp only [decide_eq_true_eq]; omega)), rfl⟩
theorem plainText_any (s : ByteArray) (w : World) (hs : s.size <= 9223372036854775806) :
 Calls Tryz.prog 116 #[.string s] w fun e w' => e = .returned (.bool (textB 40 s)) /\ w' = w := by
 go_enter Tryz.func116, Tryz.ntmps116
 go_wp2_with fail
 go_loop [3] (fun i => ∃ k : Nat, k <= s.size /\ i = .int .i64 k /\ Hid (∀ j (hj : j < k) (hl : j < s.size), 32 <= s[j].toNat /\ s[j].toNat <= 126)) (fun i => s.size - (intOf i).toNat)
 case atStart => exact ⟨0, Nat.zero_le _, rfl, LH fun j hj => by omega⟩
 case round =>
  obtain ⟨k, hk, rfl, hR⟩ := hrel
  by_cases hlt : k < s.size
  · obtain ⟨hb0, hb1⟩ := byte_bd s[k]
    cases hw : decide ((32 : Int) <= (s[k].toNat : Int) /\ (s[k].toNat : Int) <= 126)
    · have HW := LH hw; clear hw
      go_wp2_with fail
      refine (within_any _ _ _ _).mono ?_
      rw [HW.out]
      rintro e w' ⟨rfl, rfl⟩
      go_wp2_with fail
      go_ret
      exact ⟨ret_bool (by rw [textB_ff fun h => by have := h.1 _ (byte_mem hlt); have := of_decide_eq_false HW.out; omega]), rfl⟩
    · have HW := LH hw; clear hw
      go_wp2_with fail
      refine (within_any _ _ _ _).mono ?_
      rw [HW.out]
      rintro e w' ⟨rfl, rfl⟩
      go_wp2_with fail
      go_round
      case rel => exact ⟨k + 1, by omega, by go_num, LH fun j hj hl => by
       by_cases h : j < k
       · exact hR.out j h hl
       · obtain rfl : j = k := by omega
         have := of_decide_eq_true HW.out; omega⟩
      case measure => simp [intOf]; omega
  · have hall : Hid (textB 40 s = decide (s.size <= 40)) := LH (by
     have hA : ∀ b, b ∈ s.data.toList -> 32 <= b.toNat /\ b.toNat <= 126 := bytes_all fun j hj => hR.out j (by omega) hj
     rw [Bool.eq_iff_iff, textB_iff]; simp only [TextOk, decide_eq_true_eq]
     exact ⟨fun h => h.2, fun h => ⟨hA, h⟩⟩)
    go_wp2_with fail
    go_ret
    exact ⟨ret_bool (by rw [hall.out]; first | rfl | (apply Bool.eq_iff_iff.2; simp only [decide_eq_true_eq]; omega)), rfl⟩
theorem l1Max_any (a b : Int) (w : World) : Calls Tryz.prog 131 #[.int .i64 a, .int .i64 b] w fun e w' => e = .returned (.int .i64 (max a b)) /\ w' = w := by
 by_cases h : b < a
 · go_enter Tryz.func131, Tryz.ntmps131
   go_wp2
   go_ret
   exact ⟨ret_int (by omega), rfl⟩
 · go_enter Tryz.func131, Tryz.ntmps131
   go_wp2
   go_ret
   exact ⟨ret_int (by omega), rfl⟩
noncomputable def prB (p : Prop) : Bool := eqB p True
theorem prB_tt {p : Prop} (h : p) : prB p = true := eqB_tt (by simp [h])
theorem prB_ff {p : Prop} (h : ¬ p) : prB p = false := eqB_ff (by simp [h])
theorem prB_iff {p : Prop} : prB p = true ↔ p := by simp [prB, eqB_iff]
theorem argsB_bd (s : ByteArray) : -1 <= argsB s /\ argsB s <= 4 := by
 unfold argsB
 split
 · omega
 · split
   · omega
   · split
     · rename_i h
       simp only [kwB, Bool.and_eq_true, decide_eq_true_eq] at h
       omega
     · omega
theorem Rep.sl_take {w : World} {sz : Nat} {xs : List D} {ao : Option Addr} {n cap k : Nat} (h : Rep w (.sl sz xs) [.slice ao n cap]) (hk : k <= n) : Rep w (.sl sz (xs.take k)) [.slice ao k cap] := by
 obtain ⟨fp, h⟩ := h
 obtain ⟨ao', cap', hv, hl, hm, hn, hh⟩ := RepF.sl_iff.1 h
 simp only [List.cons.injEq, and_true, Value.slice.injEq] at hv
 obtain ⟨rfl, rfl, rfl⟩ := hv
 have hlen : (xs.take k).length = k := by rw [List.length_take]; omega
 rcases hh with ⟨rfl, -⟩ | ⟨b, o, cells, fp', h1, rfl, rfl, hb, h4, h5⟩
 · refine ⟨[], RepF.sl_iff.2 ⟨ao, cap, by simp at hk ⊢; exact hk, by simp, hm, hn, Or.inl ⟨by simp, rfl⟩⟩⟩
 · by_cases h0 : k = 0
   · subst h0
     exact ⟨[], RepF.sl_iff.2 ⟨some ⟨b, o, none⟩, cap, by simp, by simp, hm, by simp, Or.inl ⟨by simp, rfl⟩⟩⟩
   · obtain ⟨g1, g2, hg, r1⟩ : ∃ g1 g2, fp' = g1 ++ g2 /\ RepR w sz (xs.take k) (cells.take (k * sz)) g1 := by
      clear h h1 hm hl hn hk hlen hb h4 h0
      induction xs generalizing k cells fp' with
      | nil =>
       simp only [RepR] at h5
       obtain ⟨rfl, rfl⟩ := h5
       exact ⟨[], [], rfl, by simp [RepR]⟩
      | cons d ds ih =>
       simp only [RepR] at h5
       obtain ⟨c1, c2, f1, f2, rfl, rfl, hc, q1, q2⟩ := h5
       cases k with
       | zero => exact ⟨[], f1 ++ f2, rfl, by simp [RepR]⟩
       | succ k =>
        obtain ⟨g1, g2, rfl, r⟩ := ih (k := k) c2 f2 q2
        refine ⟨f1 ++ g1, g2, by simp, ?_⟩
        simp only [List.take_succ_cons, RepR]
        refine ⟨c1, c2.take (k * sz), f1, g1, ?_, rfl, hc, q1, r⟩
        rw [Nat.succ_mul, Nat.add_comm, List.take_append, List.take_of_length_le (by omega), show sz + k * sz - c1.length = k * sz from by omega]
     refine ⟨b :: g1, RepF.sl_iff.2 ⟨some ⟨b, o, none⟩, cap, by rw [hlen], by rw [hlen]; omega, hm, by simp, Or.inr ⟨b, o, cells.take (k * sz), g1, fun e => h0 (by rw [e] at hlen; simpa using hlen.symm), rfl, rfl, hb, fun j c hj => ?_, r1⟩⟩⟩
     rw [List.getElem?_take] at hj
     split at hj
     · exact h4 j c hj
     · cases hj
theorem Rep.sl_tail {w : World} {sz : Nat} {x : D} {xs : List D} {b o n cap : Nat} (h : Rep w (.sl sz (x :: xs)) [.slice (some ⟨b, o, none⟩) n cap]) : Rep w (.sl sz xs) [.slice (some ⟨b, o + sz, none⟩) (n - 1) (cap - 1)] := by
 obtain ⟨fp, h⟩ := h
 obtain ⟨ao', cap', hv, hl, hm, hn, hh⟩ := RepF.sl_iff.1 h
 simp only [List.cons.injEq, and_true, Value.slice.injEq] at hv
 obtain ⟨rfl, rfl, rfl⟩ := hv
 rcases hh with ⟨h0, -⟩ | ⟨b', o', cells, fp', h1, h2, rfl, hb, h4, h5⟩
 · cases h0
 · simp only [Option.some.injEq, Addr.mk.injEq, and_true] at h2
   obtain ⟨rfl, rfl⟩ := h2
   simp only [RepR] at h5
   obtain ⟨c1, c2, f1, f2, rfl, rfl, hc, q1, q2⟩ := h5
   simp only [List.length_cons] at hl
   by_cases h0 : xs = []
   · subst h0
     exact ⟨[], RepF.sl_iff.2 ⟨some ⟨b, o + sz, none⟩, cap - 1, by simp, by simp, by omega, by simp, Or.inl ⟨rfl, rfl⟩⟩⟩
   · refine ⟨b :: f2, RepF.sl_iff.2 ⟨some ⟨b, o + sz, none⟩, cap - 1, by simp, by omega, by omega, by simp, Or.inr ⟨b, o + sz, c2, f2, h0, rfl, rfl, hb, fun j c hj => ?_, q2⟩⟩⟩
     have := h4 (sz + j) c (by rw [List.getElem?_append_right (by omega), show sz + j - c1.length = j from by omega]; exact hj)
     rwa [<- Nat.add_assoc] at this
mutual
def MCore.nodes : MCore -> Nat
 | ⟨_, _, _, _, ks⟩ => 1 + MCore.nodesL ks
def MCore.nodesL : List MCore -> Nat
 | [] => 0
 | k :: ks => k.nodes + MCore.nodesL ks
end
mutual
def MCore.deep : MCore -> Nat
 | ⟨_, _, _, _, ks⟩ => 1 + MCore.deepL ks
def MCore.deepL : List MCore -> Nat
 | [] => 0
 | k :: ks => max k.deep (MCore.deepL ks)
end
theorem MCore.nodes_eq (x : MCore) : x.nodes = 1 + MCore.nodesL x.kids := by cases x; simp only [MCore.nodes]
theorem MCore.deep_eq (x : MCore) : x.deep = 1 + MCore.deepL x.kids := by cases x; simp only [MCore.deep]
theorem MCore.nodesL_append : ∀ (xs ys : List MCore), MCore.nodesL (xs ++ ys) = MCore.nodesL xs + MCore.nodesL ys
 | [], ys => by simp [MCore.nodesL]
 | x :: xs, ys => by simp [MCore.nodesL, MCore.nodesL_append xs ys]; omega
theorem MCore.deepL_append : ∀ (xs ys : List MCore), MCore.deepL (xs ++ ys) = max (MCore.deepL xs) (MCore.deepL ys)
 | [], ys => by simp [MCore.deepL]
 | x :: xs, ys => by simp only [List.cons_append, MCore.deepL, MCore.deepL_append xs ys]; omega
theorem MCore.nodesL_succ {a : List MCore} {k : Nat} (h : k < a.length) : MCore.nodesL (a.take (k + 1)) = MCore.nodesL (a.take k) + a[k].nodes := by
 rw [List.take_succ_eq_append_getElem h, MCore.nodesL_append]; simp [MCore.nodesL]
theorem MCore.deepL_succ {a : List MCore} {k : Nat} (h : k < a.length) : MCore.deepL (a.take (k + 1)) = max (MCore.deepL (a.take k)) a[k].deep := by
 rw [List.take_succ_eq_append_getElem h, MCore.deepL_append]; simp [MCore.deepL]
mutual
theorem MCore.nodes_le : ∀ (x : MCore), x.nodes <= 1 + x.d.bulk
 | ⟨k, t, n, ns, ks⟩ => by
  have := MCore.nodesL_le ks
  rw [MCore.d_eq]
  simp only [MCore.nodes, D.bulk, D.bulkL, MCores]
  simp only [List.length_map]
  omega
theorem MCore.nodesL_le : ∀ (l : List MCore), MCore.nodesL l <= l.length + D.bulkL (l.map MCore.d)
 | [] => by simp [MCore.nodesL]
 | x :: xs => by
  have := MCore.nodes_le x
  have := MCore.nodesL_le xs
  simp only [MCore.nodesL, List.map_cons, D.bulkL, List.length_cons]
  omega
end
mutual
theorem MCore.deep_le : ∀ (x : MCore), x.deep <= x.nodes
 | ⟨k, t, n, ns, ks⟩ => by
  have := MCore.deepL_le ks
  simp only [MCore.nodes, MCore.deep]; omega
theorem MCore.deepL_le : ∀ (l : List MCore), MCore.deepL l <= MCore.nodesL l
 | [] => by simp [MCore.nodesL, MCore.deepL]
 | x :: xs => by
  have := MCore.deep_le x
  have := MCore.deepL_le xs
  simp only [MCore.nodesL, MCore.deepL]; omega
end
theorem MCore.nodesL_take (a : List MCore) (k : Nat) : MCore.nodesL (a.take k) <= MCore.nodesL a := by
 have := MCore.nodesL_append (a.take k) (a.drop k)
 rw [List.take_append_drop] at this; omega
theorem MCore.nodes_mem {a : List MCore} {x : MCore} (h : x ∈ a) : x.nodes <= MCore.nodesL a := by
 induction a with
 | nil => simp at h
 | cons y ys ih =>
  simp only [MCore.nodesL]
  rcases List.mem_cons.1 h with rfl | h
  · omega
  · have := ih h; omega
mutual
def MCore.slim : MCore -> Prop
 | ⟨k, _, _, d, ks⟩ => (k = 16 -> d <= 30) /\ MCore.slimL ks
def MCore.slimL : List MCore -> Prop
 | [] => True
 | k :: ks => k.slim /\ MCore.slimL ks
end
mutual
def MCore.deepV : MCore -> Nat
 | ⟨k, _, _, d, ks⟩ => if k = 16 /\ 30 < d then 1000 else 1 + MCore.deepVL ks
def MCore.deepVL : List MCore -> Nat
 | [] => 0
 | k :: ks => max k.deepV (MCore.deepVL ks)
end
theorem MCore.slim_eq (x : MCore) : x.slim ↔ (x.kind = 16 -> x.depth <= 30) /\ MCore.slimL x.kids := by cases x; simp only [MCore.slim]
theorem MCore.slimL_iff : ∀ l : List MCore, MCore.slimL l ↔ ∀ z, z ∈ l -> z.slim
 | [] => by simp [MCore.slimL]
 | x :: xs => by simp [MCore.slimL, MCore.slimL_iff xs]
theorem MCore.deepV_eq (x : MCore) : x.deepV = if x.kind = 16 /\ 30 < x.depth then 1000 else 1 + MCore.deepVL x.kids := by cases x; simp only [MCore.deepV]
theorem MCore.deepVL_append : ∀ (xs ys : List MCore), MCore.deepVL (xs ++ ys) = max (MCore.deepVL xs) (MCore.deepVL ys)
 | [], ys => by simp [MCore.deepVL]
 | x :: xs, ys => by simp only [List.cons_append, MCore.deepVL, MCore.deepVL_append xs ys]; omega
theorem MCore.deepVL_succ {a : List MCore} {k : Nat} (h : k < a.length) : MCore.deepVL (a.take (k + 1)) = max (MCore.deepVL (a.take k)) a[k].deepV := by
 rw [List.take_succ_eq_append_getElem h, MCore.deepVL_append]; simp [MCore.deepVL]
mutual
theorem MCore.deepV_le : ∀ (x : MCore), x.deepV <= x.nodes + 1000
 | ⟨k, t, n, ns, ks⟩ => by
  have := MCore.deepVL_le ks
  simp only [MCore.nodes, MCore.deepV]; split <;> omega
theorem MCore.deepVL_le : ∀ (l : List MCore), MCore.deepVL l <= MCore.nodesL l + 1000
 | [] => by simp [MCore.nodesL, MCore.deepVL]
 | x :: xs => by
  have := MCore.deepV_le x
  have := MCore.deepVL_le xs
  simp only [MCore.nodesL, MCore.deepVL]; omega
end
mutual
theorem MCore.deepV_iff : ∀ (x : MCore) (m : Nat), m < 1000 -> (x.deepV <= m ↔ x.slim /\ x.deep <= m)
 | ⟨k, t, n, d, ks⟩, m, h => by
  simp only [MCore.deepV, MCore.slim, MCore.deep]
  by_cases hw : k = 16 /\ 30 < d
  · rw [if_pos hw]
    constructor
    · intro h; omega
    · rintro ⟨⟨h1, -⟩, -⟩; have := h1 hw.1; omega
  · rw [if_neg hw]
    cases m with
    | zero => constructor
              · intro h; omega
              · rintro ⟨-, h⟩; omega
    | succ m =>
     have := MCore.deepVL_iff ks m (by omega)
     constructor
     · intro h1
       have h2 := this.1 (by omega)
       exact ⟨⟨fun e => by
        by_cases h3 : 30 < d
        · exact absurd ⟨e, h3⟩ hw
        · omega, h2.1⟩, by omega⟩
     · rintro ⟨⟨h1, h2⟩, h3⟩
       have := this.2 ⟨h2, by omega⟩
       omega
theorem MCore.deepVL_iff : ∀ (l : List MCore) (m : Nat), m < 1000 -> (MCore.deepVL l <= m ↔ MCore.slimL l /\ MCore.deepL l <= m)
 | [], m, h => by simp [MCore.slimL, MCore.deepL, MCore.deepVL]
 | x :: xs, m, h => by
  have h1 := MCore.deepV_iff x m h
  have h2 := MCore.deepVL_iff xs m h
  simp only [MCore.slimL, MCore.deepL, MCore.deepVL]
  constructor
  · intro h3
    have a := h1.1 (by omega)
    have b := h2.1 (by omega)
    exact ⟨⟨a.1, b.1⟩, by omega⟩
  · rintro ⟨⟨a, b⟩, c⟩
    have := h1.2 ⟨a, by omega⟩
    have := h2.2 ⟨b, by omega⟩
    omega
end
theorem MCore.deep_kid {x z : MCore} (h : z ∈ x.kids) : z.deep < x.deep := by
 rw [MCore.deep_eq x]
 have : ∀ l : List MCore, z ∈ l -> z.deep <= MCore.deepL l := by
  intro l
  induction l with
  | nil => simp
  | cons y ys ih =>
   intro h
   simp only [MCore.deepL]
   rcases List.mem_cons.1 h with rfl | h
   · omega
   · have := ih h; omega
 have := this x.kids h
 omega
theorem core_size {x : MCore} (h : x.d.bulk <= 1048576) : x.nodes <= 1048577 := by have := MCore.nodes_le x; omega
theorem MCore.bulk_eq (x : MCore) : x.d.bulk = x.text.size + (x.kids.length + D.bulkL (x.kids.map MCore.d)) := by
 rw [MCore.d_eq]
 simp only [D.bulk, D.bulkL, MCores, List.length_map]
 omega
theorem MCore.bulk_kid {x z : MCore} (h : z ∈ x.kids) : z.d.bulk <= x.d.bulk := by
 rw [MCore.bulk_eq x]
 have := D.bulkL_mem (List.mem_map_of_mem (f := MCore.d) h)
 omega
theorem MCore.bulk_text (x : MCore) : x.text.size <= x.d.bulk := by rw [MCore.bulk_eq x]; omega
theorem MCore.bulk_kids (x : MCore) : x.kids.length <= x.d.bulk := by rw [MCore.bulk_eq x]; omega
theorem l8Left_lt : ∀ (n : Nat) (x : MCore) (l : Int) (cx : List Value) (w : World), SizeOf.sizeOf x < n -> x.nodes <= 1048577 -> 0 <= l -> l <= 500 -> Rep w x.d cx ->
 Calls Tryz.prog 98 #[.agg cx.toArray, .int .i64 l] w fun e w' => (∃ r : Int, e = .returned (.int .i64 r) /\ -1 <= r /\ r <= 500 /\ ((x.nodes : Int) <= l -> r = l - x.nodes) /\ (l < x.nodes -> r = -1)) /\ Ext w w' := by
 intro n
 induction n with
 | zero => intro x l cx w h; omega
 | succ n ih =>
  intro x l cx w hn hsz hl0 hl1 rx
  obtain ⟨ak, ck, rfl, sx⟩ := MCore.op_en rx
  have hk : Hid (∀ z, z ∈ x.kids -> SizeOf.sizeOf z < n) := LH fun z hz => by have := MCore.kid_lt hz; omega
  clear rx hn
  have IH := LH ih; clear ih
  obtain ⟨ao, ca, ba, oa, h1, hla, hma, pa, ha⟩ := Rep.slmap sx
  simp only [List.cons.injEq, and_true, Value.slice.injEq] at h1
  obtain ⟨rfl, -, rfl⟩ := h1
  clear sx
  unfold maxLen at hma
  rw [MCore.nodes_eq] at hsz ⊢
  have Hsz := LH hsz; clear hsz
  go_enter Tryz.func98, Tryz.ntmps98
  go_wp2_with fail
  go_loopw [1, 5] (fun v i wr => ∃ (k : Nat) (q : Int), k <= x.kids.length /\ i = .int .i64 k /\ v = .int .i64 q /\ -1 <= q /\ q <= 500 /\ Ext w wr /\ wr.cell? ⟨w.heap.size, 4, none⟩ = some (.slice ak x.kids.length ck) /\ Hid ((((1 + MCore.nodesL (x.kids.take k) : Nat) : Int) <= l -> q = l - (1 + MCore.nodesL (x.kids.take k) : Nat)) /\ (l < (1 + MCore.nodesL (x.kids.take k) : Nat) -> q = -1))) (fun _ i _ => x.kids.length - (intOf i).toNat)
  case atStart => exact ⟨0, l - 1, Nat.zero_le _, rfl, rfl, by omega, by omega, (XR w).alloc _, by simp, LH (by simp [MCore.nodesL]; omega)⟩
  case round =>
   obtain ⟨k, q, hk', rfl, rfl, hq0, hq1, hx, m0, hq'⟩ := hrel
   by_cases hlt : k < x.kids.length
   · by_cases hq2 : 0 <= q
     · obtain rfl := pa (by omega)
       obtain ⟨ea, la, c1, ra⟩ := ha k x.kids[k] (by simp [hlt])
       obtain ⟨aa0, cc0, rfl, -⟩ := MCore.op_en ra
       have a0 := hx.cell (show w.cell? ⟨ba, oa + k * 5, none⟩ = some _ from c1 0 (by omega))
       have a1 := hx.cell (show w.cell? ⟨ba, oa + k * 5 + 1, none⟩ = some _ from c1 1 (by omega))
       have a2 := hx.cell (show w.cell? ⟨ba, oa + k * 5 + 2, none⟩ = some _ from c1 2 (by omega))
       have a3 := hx.cell (show w.cell? ⟨ba, oa + k * 5 + 3, none⟩ = some _ from c1 3 (by omega))
       have a4 := hx.cell (show w.cell? ⟨ba, oa + k * 5 + 4, none⟩ = some _ from c1 4 (by omega))
       clear c1 la ha pa
       have hs3 : x.kids[k].nodes <= 1048577 := by have := MCore.nodes_mem (List.getElem_mem hlt); have := Hsz.out; omega
       have HS := LH (MCore.nodesL_succ hlt)
       go_wp2_with fail
       refine (IH.out x.kids[k] q _ wr (hk.out _ (List.getElem_mem hlt)) hs3 hq2 hq1 (Rep.ext hx ra)).mono ?_
       clear a0 a1 a2 a3 a4
       rintro e w2 ⟨⟨r, rfl, hr0, hr1, hr2, hr3⟩, hx2⟩
       have HR := LH (And.intro hr2 hr3); clear hr2 hr3
       go_wp2_with fail
       go_roundw
       case rel => exact ⟨k + 1, r, by omega, by go_num, rfl, hr0, hr1, hx.trans hx2, Ext.cell hx2 m0, LH (by
        have h1 := HS.out; have h2 := HR.out; have h3 := hq'.out
        rw [h1]
        generalize MCore.nodesL (x.kids.take k) = A at *
        generalize x.kids[k].nodes = B at *
        constructor
        · intro h
          have := h3.1 (by omega); have := h2.1 (by omega); omega
        · intro h
          by_cases h5 : ((1 + A : Nat) : Int) <= l
          · have := h3.1 h5; exact h2.2 (by omega)
          · have := h3.2 (by omega); omega)⟩
       case measure => simp [intOf]; omega
     · have f0 : q < 0 := by omega
       go_wp2_with fail
       go_ret
       have hsz2 := MCore.nodesL_take x.kids k
       have h3 := hq'.out
       exact ⟨⟨q, rfl, hq0, hq1, fun h => by have := h3.1 (by omega); omega, fun h => by omega⟩, hx⟩
   · go_wp2_with fail
     go_ret
     obtain rfl : k = x.kids.length := by omega
     have h3 := hq'.out
     rw [List.take_length] at h3
     exact ⟨⟨q, rfl, hq0, hq1, h3.1, h3.2⟩, hx⟩
theorem l8Deep_lt : ∀ (n : Nat) (x : MCore) (cx : List Value) (w : World), SizeOf.sizeOf x < n -> x.nodes <= 1048577 -> Rep w x.d cx ->
 Calls Tryz.prog 99 #[.agg cx.toArray] w fun e w' => e = .returned (.int .i64 x.deepV) /\ Ext w w' := by
 intro n
 induction n with
 | zero => intro x cx w h; omega
 | succ n ih =>
  intro x cx w hn hsz rx
  obtain ⟨ak, ck, rfl, sx⟩ := MCore.op_en rx
  have hk : Hid (∀ z, z ∈ x.kids -> SizeOf.sizeOf z < n) := LH fun z hz => by have := MCore.kid_lt hz; omega
  clear rx hn
  have IH := LH ih; clear ih
  obtain ⟨ao, ca, ba, oa, h1, hla, hma, pa, ha⟩ := Rep.slmap sx
  simp only [List.cons.injEq, and_true, Value.slice.injEq] at h1
  obtain ⟨rfl, -, rfl⟩ := h1
  clear sx
  unfold maxLen at hma
  rw [MCore.nodes_eq] at hsz
  have Hsz := LH hsz; clear hsz
  by_cases h16 : x.kind = 16
  · have q16 := int_eq h16
    by_cases h30 : 30 < x.depth
    · have HV : Hid (x.deepV = 1000) := LH (by rw [MCore.deepV_eq, if_pos ⟨h16, h30⟩])
      clear h16 ha pa
      go_enter Tryz.func99, Tryz.ntmps99
      go_wp2_with fail
      go_ret
      exact ⟨ret_int (by rw [HV.out]; rfl), (XR w).alloc _⟩
    have HV : Hid (x.deepV = 1 + MCore.deepVL x.kids) := LH (by rw [MCore.deepV_eq, if_neg (fun h => h30 h.2)])
    clear h16
    go_enter Tryz.func99, Tryz.ntmps99
    go_wp2_with fail
    go_loopw [3, 4] (fun v i wr => ∃ (k : Nat) (q : Nat), k <= x.kids.length /\ i = .int .i64 k /\ v = .int .i64 q /\ q <= 1049577 /\ Ext w wr /\ wr.cell? ⟨w.heap.size, 4, none⟩ = some (.slice ak x.kids.length ck) /\ Hid (q = MCore.deepVL (x.kids.take k))) (fun _ i _ => x.kids.length - (intOf i).toNat)
    case atStart => exact ⟨0, 0, Nat.zero_le _, rfl, rfl, by omega, (XR w).alloc _, by simp, LH (by simp [MCore.deepVL])⟩
    case round =>
     obtain ⟨k, q, hk', rfl, rfl, hq, hx, m0, hq'⟩ := hrel
     by_cases hlt : k < x.kids.length
     · obtain rfl := pa (by omega)
       obtain ⟨ea, la, c1, ra⟩ := ha k x.kids[k] (by simp [hlt])
       obtain ⟨aa0, cc0, rfl, -⟩ := MCore.op_en ra
       have a0 := hx.cell (show w.cell? ⟨ba, oa + k * 5, none⟩ = some _ from c1 0 (by omega))
       have a1 := hx.cell (show w.cell? ⟨ba, oa + k * 5 + 1, none⟩ = some _ from c1 1 (by omega))
       have a2 := hx.cell (show w.cell? ⟨ba, oa + k * 5 + 2, none⟩ = some _ from c1 2 (by omega))
       have a3 := hx.cell (show w.cell? ⟨ba, oa + k * 5 + 3, none⟩ = some _ from c1 3 (by omega))
       have a4 := hx.cell (show w.cell? ⟨ba, oa + k * 5 + 4, none⟩ = some _ from c1 4 (by omega))
       clear c1 la ha pa
       have hs3 : x.kids[k].nodes <= 1048577 := by have := MCore.nodes_mem (List.getElem_mem hlt); have := Hsz.out; omega
       have hs4 : max (q : Int) x.kids[k].deepV <= 1049577 /\ 0 <= max (q : Int) x.kids[k].deepV := by have := MCore.deepV_le x.kids[k]; omega
       obtain ⟨hs4, hs5⟩ := hs4
       have HS := LH (MCore.deepVL_succ hlt)
       go_wp2_with fail
       refine (IH.out x.kids[k] _ wr (hk.out _ (List.getElem_mem hlt)) hs3 (Rep.ext hx ra)).mono ?_
       clear a0 a1 a2 a3 a4
       rintro e w2 ⟨rfl, hx2⟩
       go_wp2_with fail
       refine (l1Max_any _ _ _).mono ?_
       rintro e w3 ⟨rfl, rfl⟩
       go_wp2_with fail
       go_roundw
       case rel => exact ⟨k + 1, max q x.kids[k].deepV, by omega, by go_num, by rw [show ((max q x.kids[k].deepV : Nat) : Int) = max (q : Int) x.kids[k].deepV from by omega], by omega, hx.trans hx2, Ext.cell hx2 m0, LH (by rw [HS.out, hq'.out])⟩
       case measure => simp [intOf]; omega
     · go_wp2_with fail
       go_ret
       obtain rfl : k = x.kids.length := by omega
       exact ⟨ret_int (by have := hq'.out; rw [List.take_length] at this; rw [HV.out, this]; omega), hx⟩
  have q16 := int_ne h16
  have HV : Hid (x.deepV = 1 + MCore.deepVL x.kids) := LH (by rw [MCore.deepV_eq, if_neg (fun h => h16 h.1)])
  clear h16
  go_enter Tryz.func99, Tryz.ntmps99
  go_wp2_with fail
  go_loopw [3, 4] (fun v i wr => ∃ (k : Nat) (q : Nat), k <= x.kids.length /\ i = .int .i64 k /\ v = .int .i64 q /\ q <= 1049577 /\ Ext w wr /\ wr.cell? ⟨w.heap.size, 4, none⟩ = some (.slice ak x.kids.length ck) /\ Hid (q = MCore.deepVL (x.kids.take k))) (fun _ i _ => x.kids.length - (intOf i).toNat)
  case atStart => exact ⟨0, 0, Nat.zero_le _, rfl, rfl, by omega, (XR w).alloc _, by simp, LH (by simp [MCore.deepVL])⟩
  case round =>
   obtain ⟨k, q, hk', rfl, rfl, hq, hx, m0, hq'⟩ := hrel
   by_cases hlt : k < x.kids.length
   · obtain rfl := pa (by omega)
     obtain ⟨ea, la, c1, ra⟩ := ha k x.kids[k] (by simp [hlt])
     obtain ⟨aa0, cc0, rfl, -⟩ := MCore.op_en ra
     have a0 := hx.cell (show w.cell? ⟨ba, oa + k * 5, none⟩ = some _ from c1 0 (by omega))
     have a1 := hx.cell (show w.cell? ⟨ba, oa + k * 5 + 1, none⟩ = some _ from c1 1 (by omega))
     have a2 := hx.cell (show w.cell? ⟨ba, oa + k * 5 + 2, none⟩ = some _ from c1 2 (by omega))
     have a3 := hx.cell (show w.cell? ⟨ba, oa + k * 5 + 3, none⟩ = some _ from c1 3 (by omega))
     have a4 := hx.cell (show w.cell? ⟨ba, oa + k * 5 + 4, none⟩ = some _ from c1 4 (by omega))
     clear c1 la ha pa
     have hs3 : x.kids[k].nodes <= 1048577 := by have := MCore.nodes_mem (List.getElem_mem hlt); have := Hsz.out; omega
     have hs4 : max (q : Int) x.kids[k].deepV <= 1049577 /\ 0 <= max (q : Int) x.kids[k].deepV := by have := MCore.deepV_le x.kids[k]; omega
     obtain ⟨hs4, hs5⟩ := hs4
     have HS := LH (MCore.deepVL_succ hlt)
     go_wp2_with fail
     refine (IH.out x.kids[k] _ wr (hk.out _ (List.getElem_mem hlt)) hs3 (Rep.ext hx ra)).mono ?_
     clear a0 a1 a2 a3 a4
     rintro e w2 ⟨rfl, hx2⟩
     go_wp2_with fail
     refine (l1Max_any _ _ _).mono ?_
     rintro e w3 ⟨rfl, rfl⟩
     go_wp2_with fail
     go_roundw
     case rel => exact ⟨k + 1, max q x.kids[k].deepV, by omega, by go_num, by rw [show ((max q x.kids[k].deepV : Nat) : Int) = max (q : Int) x.kids[k].deepV from by omega], by omega, hx.trans hx2, Ext.cell hx2 m0, LH (by rw [HS.out, hq'.out])⟩
     case measure => simp [intOf]; omega
   · go_wp2_with fail
     go_ret
     obtain rfl : k = x.kids.length := by omega
     exact ⟨ret_int (by have := hq'.out; rw [List.take_length] at this; rw [HV.out, this]; omega), hx⟩
theorem countCore_lt : ∀ (n : Nat) (x : MCore) (cx : List Value) (w : World), SizeOf.sizeOf x < n -> x.nodes <= 1048577 -> Rep w x.d cx ->
 Calls Tryz.prog 114 #[.agg cx.toArray] w fun e w' => e = .returned (.tuple #[.int .i64 x.nodes, .int .i64 x.deep]) /\ Ext w w' := by
 intro n
 induction n with
 | zero => intro x cx w h; omega
 | succ n ih =>
  intro x cx w hn hsz rx
  obtain ⟨ak, ck, rfl, sx⟩ := MCore.op_en rx
  have hk : Hid (∀ z, z ∈ x.kids -> SizeOf.sizeOf z < n) := LH fun z hz => by have := MCore.kid_lt hz; omega
  clear rx hn
  have IH := LH ih; clear ih
  obtain ⟨ao, ca, ba, oa, h1, hla, hma, pa, ha⟩ := Rep.slmap sx
  simp only [List.cons.injEq, and_true, Value.slice.injEq] at h1
  obtain ⟨rfl, -, rfl⟩ := h1
  clear sx
  unfold maxLen at hma
  rw [MCore.nodes_eq] at hsz
  have Hsz := LH hsz; clear hsz
  go_enter Tryz.func114, Tryz.ntmps114
  go_wp2_with fail
  go_loopw [4, 5, 13] (fun nv dv i wr => ∃ (k q r : Nat), k <= x.kids.length /\ i = .int .i64 k /\ nv = .int .i64 q /\ dv = .int .i64 r /\ q <= 1048577 /\ r <= 1048577 /\ Ext w wr /\ Hid (q = 1 + MCore.nodesL (x.kids.take k)) /\ Hid (r = MCore.deepL (x.kids.take k))) (fun _ _ i _ => x.kids.length - (intOf i).toNat)
  case atStart => exact ⟨0, 1, 0, Nat.zero_le _, rfl, rfl, rfl, by omega, by omega, (XR w).alloc _, LH (by simp [MCore.nodesL]), LH (by simp [MCore.deepL])⟩
  case round =>
   obtain ⟨k, q, r, hk', rfl, rfl, rfl, hq, hr, hx, hq', hr'⟩ := hrel
   by_cases hlt : k < x.kids.length
   · skip
     obtain rfl := pa (by omega)
     obtain ⟨ea, la, c1, ra⟩ := ha k x.kids[k] (by simp [hlt])
     obtain ⟨aa0, cc0, rfl, -⟩ := MCore.op_en ra
     have a0 := hx.cell (show w.cell? ⟨ba, oa + k * 5, none⟩ = some _ from c1 0 (by omega))
     have a1 := hx.cell (show w.cell? ⟨ba, oa + k * 5 + 1, none⟩ = some _ from c1 1 (by omega))
     have a2 := hx.cell (show w.cell? ⟨ba, oa + k * 5 + 2, none⟩ = some _ from c1 2 (by omega))
     have a3 := hx.cell (show w.cell? ⟨ba, oa + k * 5 + 3, none⟩ = some _ from c1 3 (by omega))
     have a4 := hx.cell (show w.cell? ⟨ba, oa + k * 5 + 4, none⟩ = some _ from c1 4 (by omega))
     clear c1 la ha pa
     have hs3 : x.kids[k].nodes <= 1048577 := by have := MCore.nodes_mem (List.getElem_mem hlt); have := Hsz.out; omega
     have hs1 := MCore.nodesL_succ hlt
     have hs2 := MCore.nodesL_take x.kids (k + 1)
     have hs4 : q + x.kids[k].nodes <= 1048577 := by have := Hsz.out; have := hq'.out; omega
     have hs5 : x.kids[k].deep <= 1048577 := by have := MCore.deep_le x.kids[k]; omega
     have HS := LH hs1; clear hs1 hs2
     have HD := LH (MCore.deepL_succ hlt)
     by_cases hm : (r : Int) < x.kids[k].deep
     all_goals
      go_wp2_with fail
      refine (IH.out x.kids[k] _ _ (hk.out _ (List.getElem_mem hlt)) hs3 (Rep.ext (hx.alloc _) ra)).mono ?_
      clear a0 a1 a2 a3 a4
      rintro e w2 ⟨rfl, hx2⟩
      go_wp2_with fail
      go_roundw
      case rel => exact ⟨k + 1, q + x.kids[k].nodes, max r x.kids[k].deep, by omega, by go_num, by go_num, by go_num, hs4, by omega, (hx.alloc _).trans hx2, LH (by rw [HS.out, hq'.out]; omega), LH (by rw [HD.out, hr'.out])⟩
      case measure => simp [intOf]; omega
   · go_wp2_with fail
     go_ret2
     obtain rfl : k = x.kids.length := by omega
     refine ⟨?_, hx⟩
     have h1 := hq'.out; have h2 := hr'.out
     rw [List.take_length] at h1 h2
     have e1 : (x.nodes : Int) = q := by rw [MCore.nodes_eq, h1]
     have e2 : (x.deep : Int) = r + 1 := by rw [MCore.deep_eq, h2]; omega
     rw [e1, e2]
     rfl
theorem slotsOk_lt : ∀ (n : Nat) (x : MCore) (cx : List Value) (w : World), SizeOf.sizeOf x < n -> x.nodes <= 1048577 -> Rep w x.d cx ->
 Calls Tryz.prog 115 #[.agg cx.toArray] w fun e w' => e = .returned (.bool (prB x.slim)) /\ Ext w w' := by
 intro n
 induction n with
 | zero => intro x cx w h; omega
 | succ n ih =>
  intro x cx w hn hsz rx
  obtain ⟨ak, ck, rfl, sx⟩ := MCore.op_en rx
  have hk : Hid (∀ z, z ∈ x.kids -> SizeOf.sizeOf z < n) := LH fun z hz => by have := MCore.kid_lt hz; omega
  clear rx hn
  have IH := LH ih; clear ih
  obtain ⟨ao, ca, ba, oa, h1, hla, hma, pa, ha⟩ := Rep.slmap sx
  simp only [List.cons.injEq, and_true, Value.slice.injEq] at h1
  obtain ⟨rfl, -, rfl⟩ := h1
  clear sx
  unfold maxLen at hma
  rw [MCore.nodes_eq] at hsz
  have Hsz := LH hsz; clear hsz
  go_enter Tryz.func115, Tryz.ntmps115
  go_wp2_with fail
  go_loopw [8] (fun i wr => ∃ (k : Nat), k <= x.kids.length /\ i = .int .i64 k /\ Ext w wr /\ wr.cell? ⟨w.heap.size, 0, none⟩ = some (.int .i64 x.kind) /\ wr.cell? ⟨w.heap.size, 3, none⟩ = some (.int .i64 x.depth) /\ Hid (∀ z, z ∈ x.kids.take k -> z.slim)) (fun i _ => x.kids.length - (intOf i).toNat)
  case atStart => exact ⟨0, Nat.zero_le _, rfl, (XR w).alloc _, by simp, by simp, LH (by simp)⟩
  case round =>
   obtain ⟨k, hk', rfl, hx, m0, m3, hR⟩ := hrel
   by_cases hlt : k < x.kids.length
   · skip
     obtain rfl := pa (by omega)
     obtain ⟨ea, la, c1, ra⟩ := ha k x.kids[k] (by simp [hlt])
     obtain ⟨aa0, cc0, rfl, -⟩ := MCore.op_en ra
     have a0 := hx.cell (show w.cell? ⟨ba, oa + k * 5, none⟩ = some _ from c1 0 (by omega))
     have a1 := hx.cell (show w.cell? ⟨ba, oa + k * 5 + 1, none⟩ = some _ from c1 1 (by omega))
     have a2 := hx.cell (show w.cell? ⟨ba, oa + k * 5 + 2, none⟩ = some _ from c1 2 (by omega))
     have a3 := hx.cell (show w.cell? ⟨ba, oa + k * 5 + 3, none⟩ = some _ from c1 3 (by omega))
     have a4 := hx.cell (show w.cell? ⟨ba, oa + k * 5 + 4, none⟩ = some _ from c1 4 (by omega))
     clear c1 la ha pa
     have hs3 : x.kids[k].nodes <= 1048577 := by have := MCore.nodes_mem (List.getElem_mem hlt); have := Hsz.out; omega
     cases hg : prB x.kids[k].slim
     · have HF : Hid (¬ x.slim) := LH (fun h => by
        rw [MCore.slim_eq, MCore.slimL_iff] at h
        have := prB_tt (h.2 _ (List.getElem_mem hlt))
        rw [hg] at this; cases this)
       have HG := LH hg; clear hg
       go_wp2_with fail
       refine (IH.out x.kids[k] _ _ (hk.out _ (List.getElem_mem hlt)) hs3 (Rep.ext (hx.alloc _) ra)).mono ?_
       rw [HG.out]
       clear a0 a1 a2 a3 a4
       rintro e w2 ⟨rfl, hx2⟩
       go_wp2_with fail
       go_ret
       exact ⟨ret_bool (prB_ff HF.out).symm, (hx.alloc _).trans hx2⟩
     · have HT : Hid (∀ z, z ∈ x.kids.take (k + 1) -> z.slim) := LH (fun z hz => by
        rw [List.take_succ_eq_append_getElem hlt] at hz
        rcases List.mem_append.1 hz with hz | hz
        · exact hR.out z hz
        · rw [List.mem_singleton.1 hz]; exact prB_iff.1 hg)
       have HG := LH hg; clear hg
       go_wp2_with fail
       refine (IH.out x.kids[k] _ _ (hk.out _ (List.getElem_mem hlt)) hs3 (Rep.ext (hx.alloc _) ra)).mono ?_
       rw [HG.out]
       clear a0 a1 a2 a3 a4
       rintro e w2 ⟨rfl, hx2⟩
       have hz := (hx.alloc (.cells #[.int .i64 x.kids[k].kind, .string x.kids[k].text, .int .i64 x.kids[k].number, .int .i64 x.kids[k].depth, .slice aa0 x.kids[k].kids.length cc0] 42)).trans hx2
       have m0' := Ext.cell (((XR wr).alloc _).trans hx2) m0
       have m3' := Ext.cell (((XR wr).alloc _).trans hx2) m3
       clear m0 m3
       go_wp2_with fail
       go_roundw
       case rel => exact ⟨k + 1, by omega, by go_num, hz, m0', m3', HT⟩
       case measure => simp [intOf]; omega
   · have HA : Hid (x.slim ↔ (x.kind = 16 -> x.depth <= 30)) := LH (by
      rw [MCore.slim_eq, MCore.slimL_iff]
      have h := hR.out
      rw [List.take_of_length_le (by omega)] at h
      exact ⟨fun g => g.1, fun g => ⟨g, h⟩⟩)
     by_cases h16 : x.kind = 16
     · have q16 := int_eqn h16
       by_cases h30 : x.depth <= 30
       · have HV : Hid (prB x.slim = true) := LH (prB_tt (HA.out.2 fun _ => h30))
         clear h16
         go_wp2_with fail
         go_ret
         exact ⟨ret_bool (by simp [HV.out, h30]), hx⟩
       · have HV : Hid (prB x.slim = false) := LH (prB_ff (fun h => h30 (HA.out.1 h h16)))
         clear h16
         go_wp2_with fail
         go_ret
         exact ⟨ret_bool (by simp [HV.out, h30]), hx⟩
     · have q16 := int_nen h16
       have HV : Hid (prB x.slim = true) := LH (prB_tt (HA.out.2 fun h => absurd h h16))
       clear h16
       go_wp2_with fail
       go_ret
       exact ⟨ret_bool (by rw [HV.out]), hx⟩
end Go.Proofs.YtlaclfeljimffaaGreatDoor
