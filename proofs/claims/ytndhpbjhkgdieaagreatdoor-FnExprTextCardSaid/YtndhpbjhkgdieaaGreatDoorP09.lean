/-
  SEVERAL TEXTS IN ONE: CONTRACTS: IsSelector and CountArgs, of the program and of the reference; CONTRACTS: parts of Tokens: what stands at a place; CONTRACTS: parts of Tokens: names and keywords, of the reference; CONTRACTS: parts of Tokens: a symbol, of the program; NUMERALS: plain laws.
  Conditions: those that each lemma states.
-/
import Derived.Test.YtndhpbjhkgdieaaGreatDoorRows
import Derived.Lib.QuietBelow
import Derived.BigQuiet
import Derived.Deep.RegionHeld3
import Derived.Deep.DeepCutAuto
import Derived.Lib.AtoiAll
import Derived.Test.YtndhpbjhkgdieaaGreatDoorP06
import Derived.Test.YtndhpbjhkgdieaaGreatDoorP07
namespace Go.Proofs.YtndhpbjhkgdieaaGreatDoor
open Go.RowKit
set_option maxHeartbeats 8000000
set_option maxRecDepth 100000
set_option linter.unusedSimpArgs false
set_option linter.unusedVariables false
theorem l2Binaries_any (w : World) : Calls Tryz.prog 48 #[] w (GivesV w (strs opsL)) := by
 go_enter Tryz.func48, Tryz.ntmps48
 go_wp2
 go_ret
 exact gives_strs w opsL 9 (by simp [opsL, maxLen]) (by simp [opsL])
theorem operators_any (w : World) : Calls Tryz.prog 92 #[] w (GivesV w (strs opsL)) := by
 go_enter Tryz.func92, Tryz.ntmps92
 go_wp2
 go_ret
 exact gives_strs w opsL 9 (by simp [opsL, maxLen]) (by simp [opsL])
def firstP : List ByteArray -> ByteArray -> ByteArray
 | [], _ => ⟨#[]⟩
 | x :: l, s => if Lib.hasPrefix s.data.toList x.data.toList then x else firstP l s
theorem firstP_yes : ∀ {l : List ByteArray} {s : ByteArray} {k : Nat} (hk : k < l.length), (∀ j (hj : j < k), Lib.hasPrefix s.data.toList (l[j]'(by omega)).data.toList = false) -> Lib.hasPrefix s.data.toList l[k].data.toList = true -> firstP l s = l[k]
 | x :: l, s, 0, hk, _, h => by simp only [List.getElem_cons_zero] at h ⊢; rw [firstP, if_pos h]
 | x :: l, s, k + 1, hk, h0, h => by
  have hx := h0 0 (by omega)
  simp only [List.getElem_cons_zero] at hx
  rw [firstP, if_neg (by rw [hx]; exact Bool.false_ne_true)]
  simp only [List.getElem_cons_succ] at h ⊢
  exact firstP_yes (by simpa using hk) (fun j hj => by have := h0 (j + 1) (by omega); simpa using this) h
theorem firstP_none : ∀ {l : List ByteArray} {s : ByteArray}, (∀ j (hj : j < l.length), Lib.hasPrefix s.data.toList (l[j]'hj).data.toList = false) -> firstP l s = ⟨#[]⟩
 | [], s, _ => rfl
 | x :: l, s, h0 => by
  have hx := h0 0 (by simp)
  simp only [List.getElem_cons_zero] at hx
  rw [firstP, if_neg (by rw [hx]; exact Bool.false_ne_true)]
  exact firstP_none fun j hj => by have := h0 (j + 1) (by simpa using hj); simpa using this
theorem firstP_mem : ∀ (l : List ByteArray) (s : ByteArray), firstP l s = ⟨#[]⟩ ∨ firstP l s ∈ l
 | [], s => Or.inl rfl
 | x :: l, s => by
  rw [firstP]
  split
  · exact Or.inr List.mem_cons_self
  · rcases firstP_mem l s with h | h
    · exact Or.inl h
    · exact Or.inr (List.mem_cons_of_mem _ h)
theorem firstOf_any (l : List ByteArray) (s : ByteArray) (va : Value) (w : World) (ra : Rep w (strs l) [va]) :
 Calls Tryz.prog 91 #[.string s, va] w fun e w' => e = .returned (.string (firstP l s)) /\ w' = w := by
 obtain ⟨ao, ca, ba, oa, h1, hla, hma, pa, ha⟩ := ra.strs
 simp only [List.cons.injEq, and_true] at h1
 subst h1
 clear ra
 unfold maxLen at hma
 go_enter Tryz.func91, Tryz.ntmps91
 go_wp2_with fail
 go_loop [6, 9] (fun xv i => ∃ k : Nat, k <= l.length /\ i = .int .i64 k /\ Hid (∀ j (hj : j < k) (hl : j < l.length), Lib.hasPrefix s.data.toList l[j].data.toList = false)) (fun _ i => l.length - (intOf i).toNat)
 case atStart => exact ⟨0, Nat.zero_le _, rfl, LH fun j hj => by omega⟩
 case round =>
  obtain ⟨k, hk, rfl, hR⟩ := hrel
  by_cases hlt : k < l.length
  · obtain rfl := pa (by omega)
    have a0 := ha k l[k] (by simp [hlt])
    clear ha pa
    cases hp : Lib.hasPrefix s.data.toList l[k].data.toList
    · have HP := LH hp; clear hp
      go_wp2_with fail
      refine (Tryz.strings_HasPrefix _ _ _).mono ?_
      rw [HP.out]
      rintro e w' ⟨rfl, rfl⟩
      go_wp2_with fail
      go_round
      case rel => exact ⟨k + 1, by omega, by go_num, LH fun j hj hl => by
       by_cases h : j < k
       · exact hR.out j h hl
       · obtain rfl : j = k := by omega
         exact HP.out⟩
      case measure => simp [intOf]; omega
    · have HP := LH hp; clear hp
      go_wp2_with fail
      refine (Tryz.strings_HasPrefix _ _ _).mono ?_
      rw [HP.out]
      rintro e w' ⟨rfl, rfl⟩
      go_wp2_with fail
      go_ret
      exact ⟨ret_str (by rw [firstP_yes hlt (fun j hj => hR.out j hj (by omega)) HP.out]), rfl⟩
  · go_wp2_with fail
    go_ret
    exact ⟨ret_str (by rw [firstP_none fun j hj => hR.out j (by omega) hj]), rfl⟩
theorem ops_first {s : ByteArray} (h : s ∈ opsL) : firstP opsL s = s := by
 simp only [opsL, List.mem_cons, List.not_mem_nil, or_false] at h
 rcases h with rfl | rfl | rfl | rfl | rfl | rfl | rfl | rfl | rfl | rfl | rfl | rfl | rfl | rfl | rfl <;> rfl
theorem ops_ne {s : ByteArray} (h : s ∈ opsL) : s ≠ ⟨#[]⟩ := by
 simp only [opsL, List.mem_cons, List.not_mem_nil, or_false] at h
 rcases h with rfl | rfl | rfl | rfl | rfl | rfl | rfl | rfl | rfl | rfl | rfl | rfl | rfl | rfl | rfl <;> simp
theorem ops_iff {s : ByteArray} (hs : s ≠ ⟨#[]⟩) : firstP opsL s = s ↔ s ∈ opsL := by
 refine ⟨fun h => ?_, ops_first⟩
 rcases firstP_mem opsL s with h1 | h1
 · exact absurd (h.symm.trans h1) hs
 · rwa [h] at h1
theorem isOperator_any (s : ByteArray) (w : World) : Calls Tryz.prog 71 #[.string s] w fun e w' => e = .returned (.bool (hasB opsL s)) /\ Ext w w' := by
 by_cases hs : s = ⟨#[]⟩
 · subst hs
   have hp := LH (hasB_ff (l := opsL) (s := ⟨#[]⟩) (fun h => ops_ne h rfl))
   go_enter Tryz.func71, Tryz.ntmps71
   go_wp2_with fail
   go_ret
   exact ⟨ret_bool (by rw [hp.out]), XR _⟩
 have t0 : ¬ s.toList = [] := fun h => hs (toList_inj (by simp [h]))
 have t0' : s.toList.isEmpty = false := by simpa using t0
 by_cases h : firstP opsL s = s
 · have t1 := str_eq h
   have hp := LH (hasB_tt ((ops_iff hs).1 h))
   clear h hs
   go_enter Tryz.func71, Tryz.ntmps71
   go_wp2_with fail
   refine (operators_any _).mono ?_
   rintro e w1 ⟨ao, n, cap, fp, rfl, hr, hf, hx⟩
   go_wp2_with fail
   refine (firstOf_any opsL s _ _ hr.rep).mono ?_
   rintro e w' ⟨rfl, rfl⟩
   go_wp2_with fail
   go_ret
   exact ⟨ret_bool (by rw [hp.out]), hx⟩
 · have t1 := str_ne h
   have hp := LH (hasB_ff fun hm => h ((ops_iff hs).2 hm))
   clear h hs
   go_enter Tryz.func71, Tryz.ntmps71
   go_wp2_with fail
   refine (operators_any _).mono ?_
   rintro e w1 ⟨ao, n, cap, fp, rfl, hr, hf, hx⟩
   go_wp2_with fail
   refine (firstOf_any opsL s _ _ hr.rep).mono ?_
   rintro e w' ⟨rfl, rfl⟩
   go_wp2_with fail
   go_ret
   exact ⟨ret_bool (by rw [hp.out]), hx⟩
theorem partsOf_any (s : ByteArray) (w : World) (hs : s.size <= 1048576) (hm : MaxOk w) :
 Calls Tryz.prog 67 #[.string s] w fun e w' => ∃ v, e = .returned v /\ Ext w w' /\ ((kwB s = false /\ v = .slice none 0 0) ∨ (kwB s = true /\ ∃ ad, v = .slice (some ad) (cutB 58 (stem s)).length (cutB 58 (stem s)).length)) := by
 go_enter Tryz.func67, Tryz.ntmps67
 go_wp2_with fail
 refine (Tryz.strings_HasSuffix _ _ _ (by omega)).mono ?_
 cases hc : colB s
 · have e1 : Lib.hasSuffix s.data.toList (⟨#[58]⟩ : ByteArray).data.toList = false := hc
   rw [e1]
   clear e1
   rintro e w' ⟨rfl, rfl⟩
   go_wp2_with fail
   go_ret
   exact ⟨_, rfl, XR _, Or.inl ⟨by simp [kwB, hc], rfl⟩⟩
 · have e1 : Lib.hasSuffix s.data.toList (⟨#[58]⟩ : ByteArray).data.toList = true := hc
   rw [e1]
   clear e1
   rintro e w' ⟨rfl, rfl⟩
   have HC := LH hc; clear hc
   have h0 : 1 <= s.size := by
    obtain ⟨l, hl⟩ := colB_iff.1 HC.out
    have := congrArg List.length hl
    simp at this; have e : s.data.size = s.size := rfl; omega
   have f1 : (0 : Int) <= (s.size : Int) - 1 := by omega
   go_wp2_with fail
   refine (strings_Split_one (stem s) 58 _ (by have : (stem s).size <= s.size := by (unfold stem; simp)
                                               omega) hm).mono ?_
   rintro e w1 ⟨rfl, hw1⟩
   have hlen : (cutB 58 (stem s)).length <= 1048577 := by
    have h1 := cutB_le 58 (stem s)
    have : (stem s).size <= s.size := by unfold stem; simp
    omega
   have hne : cutB 58 (stem s) ≠ [] := fun h => by have := cutB_length 58 (stem s); rw [h] at this; simp at this
   obtain ⟨ao, n, cap, fp, e1, hr, hf, hx⟩ := gives_strs w' (cutB 58 (stem s)) 9 (by simp only [maxLen]; omega) hne
   rw [<- hw1] at hr hf hx
   simp only [Ending.returned.injEq, Value.slice.injEq] at e1
   obtain ⟨rfl, rfl, rfl⟩ := e1
   obtain ⟨ao, ca, ba, oa, h1, hla, hma, pa, ha⟩ := hr.rep.strs
   simp only [List.cons.injEq, and_true, true_and, Value.slice.injEq] at h1
   obtain ⟨rfl, rfl⟩ := h1
   have HK : Hid (kwB s = (allB partB (cutB 58 (stem s)) && decide ((cutB 58 (stem s)).length <= 4))) := LH (by simp [kwB, HC.out])
   have HS : Hid (∀ x, x ∈ cutB 58 (stem s) -> x.size <= 9223372036854775806) := LH fun x h => by
    have := cutB_mem h
    have : (stem s).size <= s.size := by unfold stem; simp
    omega
   generalize hL : cutB 58 (stem s) = L at *
   have HL := LH hL
   clear hL hr hf hw1
   unfold maxLen at hma
   go_wp2_with fail
   go_loop [5, 17] (fun xv i => ∃ k : Nat, k <= L.length /\ i = .int .i64 k /\ Hid (∀ j (hj : j < k) (hl : j < L.length), partB L[j] = true)) (fun _ i => L.length - (intOf i).toNat)
   case atStart => exact ⟨0, Nat.zero_le _, rfl, LH fun j hj => by omega⟩
   case round =>
    obtain ⟨k, hk, rfl, hR⟩ := hrel
    by_cases hlt : k < L.length
    · have hp1 := pa (by omega)
      simp only [Option.some.injEq, Addr.mk.injEq, and_true] at hp1
      obtain ⟨rfl, rfl⟩ := hp1
      have a0 := ha k L[k] (by simp [hlt])
      simp only [Nat.zero_add] at a0
      have hsz := HS.out _ (List.getElem_mem hlt)
      clear ha pa
      cases hp : partB L[k]
      · have HP := LH hp; clear hp
        go_wp2_with fail
        refine (isPart_any _ _ hsz).mono ?_
        rw [HP.out]
        rintro e w' ⟨rfl, rfl⟩
        go_wp2_with fail
        go_ret
        exact ⟨_, rfl, hx, Or.inl ⟨by rw [HK.out, allB_ff (List.getElem_mem hlt) HP.out]; rfl, rfl⟩⟩
      · have HP := LH hp; clear hp
        go_wp2_with fail
        refine (isPart_any _ _ hsz).mono ?_
        rw [HP.out]
        rintro e w' ⟨rfl, rfl⟩
        go_wp2_with fail
        go_round
        case rel => exact ⟨k + 1, by omega, by go_num, LH fun j hj hl => by
         by_cases h : j < k
         · exact hR.out j h hl
         · obtain rfl : j = k := by omega
           exact HP.out⟩
        case measure => simp [intOf]; omega
    · have hall : Hid (allB partB L = true) := LH (allB_tt fun x h => by
       obtain ⟨j, hj, rfl⟩ := List.mem_iff_getElem.1 h
       exact hR.out j (by omega) hj)
      by_cases h4 : L.length <= 4
      · have t4 : ((4 : Int) < (L.length : Int)) = False := by simp; omega
        have t5 : (L.length : Int) <= 4 := by omega
        go_wp2_with fail
        go_ret
        exact ⟨_, rfl, hx, Or.inr ⟨by rw [HK.out, hall.out]; simpa using h4, _, by rw [HL.out]; rfl⟩⟩
      · have t5 : (4 : Int) < (L.length : Int) := by omega
        go_wp2_with fail
        go_ret
        exact ⟨_, rfl, hx, Or.inl ⟨by rw [HK.out, hall.out]; simpa using h4, rfl⟩⟩
theorem impl_IsSelector_any (s : ByteArray) (w : World) (hs : s.size <= 1048576) (hm : MaxOk w) :
 Calls Tryz.prog 39 #[.string s] w fun e w' => e = .returned (.bool (selB s)) /\ Ext w w' := by
 go_enter Tryz.func39, Tryz.ntmps39
 go_wp2_with fail
 refine (isOperator_any s _).mono ?_
 cases ho : hasB opsL s
 · rintro e w1 ⟨rfl, hx1⟩
   have HO := LH ho; clear ho
   go_wp2_with fail
   refine (impl_IsName_any s _ (by omega)).mono ?_
   cases hn : nameB s
   · rintro e w2 ⟨rfl, hx2⟩
     have HN := LH hn; clear hn
     go_wp2_with fail
     refine (partsOf_any s _ hs ((hm.ext hx1).ext hx2)).mono ?_
     rintro e w3 ⟨v, rfl, hx3, h3⟩
     rcases h3 with ⟨hk, rfl⟩ | ⟨hk, ad, rfl⟩
     · go_wp2_with fail
       go_ret
       exact ⟨ret_bool (by simp [selB, HO.out, HN.out, hk]), (hx1.trans hx2).trans hx3⟩
     · go_wp2_with fail
       go_ret
       exact ⟨ret_bool (by simp [selB, HO.out, HN.out, hk]), (hx1.trans hx2).trans hx3⟩
   · rintro e w2 ⟨rfl, hx2⟩
     have HN := LH hn; clear hn
     go_wp2_with fail
     go_ret
     exact ⟨ret_bool (by simp [selB, HO.out, HN.out]), hx1.trans hx2⟩
 · rintro e w1 ⟨rfl, hx1⟩
   have HO := LH ho; clear ho
   go_wp2_with fail
   go_ret
   exact ⟨ret_bool (by simp [selB, HO.out]), hx1⟩
theorem impl_CountArgs_any (s : ByteArray) (w : World) (hs : s.size <= 1048576) (hm : MaxOk w) :
 Calls Tryz.prog 42 #[.string s] w fun e w' => e = .returned (.int .i64 (argsB s)) /\ Ext w w' := by
 go_enter Tryz.func42, Tryz.ntmps42
 go_wp2_with fail
 refine (isOperator_any s _).mono ?_
 cases ho : hasB opsL s
 · rintro e w1 ⟨rfl, hx1⟩
   have HO := LH ho; clear ho
   go_wp2_with fail
   refine (impl_IsName_any s _ (by omega)).mono ?_
   cases hn : nameB s
   · rintro e w2 ⟨rfl, hx2⟩
     have HN := LH hn; clear hn
     go_wp2_with fail
     refine (partsOf_any s _ hs ((hm.ext hx1).ext hx2)).mono ?_
     rintro e w3 ⟨v, rfl, hx3, h3⟩
     rcases h3 with ⟨hk, rfl⟩ | ⟨hk, ad, rfl⟩
     · go_wp2_with fail
       go_ret
       exact ⟨ret_int (by simp [argsB, HO.out, HN.out, hk]), (hx1.trans hx2).trans hx3⟩
     · have HK := LH hk; clear hk
       go_wp2_with fail
       refine (partsOf_any s _ hs (((hm.ext hx1).ext hx2).ext hx3)).mono ?_
       rintro e w4 ⟨v, rfl, hx4, h4⟩
       rcases h4 with ⟨hk, rfl⟩ | ⟨hk, ad, rfl⟩
       · exact absurd HK.out (by rw [hk]; exact Bool.false_ne_true)
       · go_wp2_with fail
         go_ret
         exact ⟨ret_int (by simp [argsB, HO.out, HN.out, HK.out]), ((hx1.trans hx2).trans hx3).trans hx4⟩
   · rintro e w2 ⟨rfl, hx2⟩
     have HN := LH hn; clear hn
     go_wp2_with fail
     go_ret
     exact ⟨ret_int (by simp [argsB, HO.out, HN.out]), hx1.trans hx2⟩
 · rintro e w1 ⟨rfl, hx1⟩
   have HO := LH ho; clear ho
   go_wp2_with fail
   go_ret
   exact ⟨ret_int (by simp [argsB, HO.out]), hx1⟩
theorem spec_SplitByte_col (s : ByteArray) (w : World) (hs : s.size <= 1048576) : Calls Tryz.prog 108 #[.string s, .int .u8 58] w (GivesV w (strs (cutB 58 s))) := spec_SplitByte_any s 58 w hs
theorem spec_IsSelector_any (s : ByteArray) (w : World) (hs : s.size <= 1048576) :
 Calls Tryz.prog 76 #[.string s] w fun e w' => e = .returned (.bool (selB s)) /\ Ext w w' := by
 go_enter Tryz.func76, Tryz.ntmps76
 go_wp2_with fail
 refine (l2Binaries_any _).mono ?_
 rintro e w1 ⟨ao, n, cap, fp, rfl, hr, hf, hx1⟩
 go_wp2_with fail
 refine (l1Has_any opsL s _ _ hr.rep).mono ?_
 clear hr hf
 cases ho : hasB opsL s
 rotate_left
 · rintro e w1 ⟨rfl, rfl⟩
   have HO := LH ho; clear ho
   go_wp2_with fail
   go_ret
   exact ⟨ret_bool (by simp [selB, HO.out]), hx1⟩
 rintro e w1 ⟨rfl, rfl⟩
 have HO := LH ho; clear ho
 go_wp2_with fail
 refine (spec_SplitByte_col s _ hs).mono ?_
 rintro e w2 ⟨ao, n, cap, fp, rfl, hr, hf, hx2⟩
 have hx := hx1.trans hx2
 clear hx1 hx2 hf
 by_cases h1 : (cutB 58 s).length = 1
 · have HS := LH (sel_one HO.out h1)
   rw [cut_single h1] at hr
   clear h1
   obtain ⟨ao, ca, ba, oa, h1, hla, hma, pa, ha⟩ := hr.rep.strs
   simp only [List.cons.injEq, and_true, Value.slice.injEq, List.length_cons, List.length_nil, Nat.zero_add] at h1
   obtain ⟨rfl, rfl, rfl⟩ := h1
   obtain rfl := pa (by simp)
   have a0 := ha 0 s (by simp)
   simp only [Nat.add_zero] at a0
   clear ha pa hr
   simp only [List.length_cons, List.length_nil, Nat.zero_add] at hla
   unfold maxLen at hma
   go_wp2_with fail
   go_loopw [5] (fun iv wr => ∃ k : Nat, k <= 1 /\ iv = .int .i64 k /\ Ext w2 wr /\ Hid (0 < k -> nameB s = true)) (fun iv _ => 1 - (intOf iv).toNat)
   case atStart => exact ⟨0, by omega, rfl, XR _, LH (fun h => by omega)⟩
   case round =>
    obtain ⟨k, hk, rfl, hxr, hR⟩ := hrel
    have b0 := Ext.cell hxr a0
    clear a0
    by_cases hlt : k = 0
    · subst hlt
      clear hR
      cases hp : partB s
      · have HP := LH hp; clear hp
        go_wp2_with fail
        refine (l2IsName_any s _ (by omega)).mono ?_
        rw [HP.out]
        rintro e w' ⟨rfl, rfl⟩
        go_wp2_with fail
        go_ret
        exact ⟨ret_bool (by rw [HS.out.1]; simp [nameB, HP.out]), hx.trans hxr⟩
      · have HP := LH hp; clear hp
        go_wp2_with fail
        refine (l2IsName_any s _ (by omega)).mono ?_
        rw [HP.out]
        rintro e w' ⟨rfl, rfl⟩
        go_wp2_with fail
        refine (l2Words_any _).mono ?_
        rintro e w3 ⟨ao, n, cap, fp, rfl, hr, hf, hx3⟩
        go_wp2_with fail
        refine (l1Has_any wordsL s _ _ hr.rep).mono ?_
        cases hw : hasB wordsL s
        · have HW := LH hw; clear hw
          rintro e w' ⟨rfl, rfl⟩
          go_wp2_with fail
          go_roundw
          case rel => exact ⟨1, by omega, rfl, hxr.trans hx3, LH fun _ => by simp [nameB, HP.out, HW.out]⟩
          case measure => simp [intOf]
        · have HW := LH hw; clear hw
          rintro e w' ⟨rfl, rfl⟩
          go_wp2_with fail
          go_ret
          exact ⟨ret_bool (by rw [HS.out.1]; simp [nameB, HP.out, HW.out]), (hx.trans hxr).trans hx3⟩
    · obtain rfl : k = 1 := by omega
      go_wp2_with fail
      go_ret
      exact ⟨ret_bool (by rw [HS.out.1, hR.out (by omega)]), hx.trans hxr⟩
 · cases hc : colB s
   · have HS := LH (sel_none HO.out hc h1)
     obtain ⟨L, x, hL, hx0⟩ := cut_last hc h1
     have h2 : L ≠ [] := fun h => h1 (by rw [hL, h]; rfl)
     have h3 : 0 < L.length := List.length_pos_iff.2 h2
     rw [hL] at hr
     clear h1 hL h2 hc
     obtain ⟨ao, ca, ba, oa, h1, hla, hma, pa, ha⟩ := hr.rep.strs
     simp only [List.cons.injEq, and_true, Value.slice.injEq, List.length_append, List.length_cons, List.length_nil, Nat.zero_add] at h1
     obtain ⟨rfl, rfl, rfl⟩ := h1
     obtain rfl := pa (by simp)
     have a0 := ha L.length x (by simp)
     have t0 : ¬ x.toList = [] := fun h => hx0 (by rw [show x = (⟨#[]⟩ : ByteArray) from toList_inj (by simp [h])]; rfl)
     have t0' : x.toList.isEmpty = false := by simpa using t0
     clear ha pa hr hx0
     simp only [List.length_append, List.length_cons, List.length_nil, Nat.zero_add] at hla
     unfold maxLen at hma
     have f1 : (1 : Int) < (L.length : Int) + 1 := by omega
     go_wp2_with fail
     go_ret
     exact ⟨ret_bool (by rw [HS.out]), hx⟩
   · have HS := LH (sel_col HO.out hc)
     have hL := cut_col hc
     have hne : (cutB 58 (stem s)).length ≠ 0 := by rw [cutB_length]; omega
     have HSZ : Hid (∀ x, x ∈ cutB 58 (stem s) -> x.size <= 9223372036854775806) := LH fun x h => by
      have := cutB_mem h
      have : (stem s).size <= s.size := by unfold stem; simp
      omega
     rw [hL] at hr
     clear h1 hL hc
     generalize hG : cutB 58 (stem s) = L at *
     have HG := LH hG; clear hG
     have h3 : 0 < L.length := by omega
     obtain ⟨ao, ca, ba, oa, h1, hla, hma, pa, ha⟩ := hr.rep.strs
     simp only [List.cons.injEq, and_true, Value.slice.injEq, List.length_append, List.length_cons, List.length_nil, Nat.zero_add] at h1
     obtain ⟨rfl, rfl, rfl⟩ := h1
     obtain rfl := pa (by simp)
     have a0 := ha L.length ByteArray.empty (by simp)
     have HA : Hid (∀ k (hk : k < L.length), w2.cell? ⟨ba, oa + k, none⟩ = some (.string L[k])) := LH fun k hk => ha k L[k] (by rw [List.getElem?_append_left hk, List.getElem?_eq_getElem hk])
     clear ha pa hr
     simp only [List.length_append, List.length_cons, List.length_nil, Nat.zero_add] at hla
     unfold maxLen at hma
     have f1 : (1 : Int) < (L.length : Int) + 1 := by omega
     have f2 : (L.length : Int) <= cap := by omega
     go_wp2_with fail
     go_loopw [5] (fun iv wr => ∃ k : Nat, k <= L.length /\ iv = .int .i64 k /\ Ext w2 wr /\ Hid (∀ j (hj : j < k) (hl : j < L.length), partB L[j] = true)) (fun iv _ => L.length - (intOf iv).toNat)
     case atStart => exact ⟨0, by omega, rfl, XR _, LH (fun j h => by omega)⟩
     case round =>
      obtain ⟨k, hk, rfl, hxr, hR⟩ := hrel
      by_cases hlt : k < L.length
      · have b0 := Ext.cell hxr (HA.out k hlt)
        have hsz := HSZ.out _ (List.getElem_mem hlt)
        clear a0
        have t1 : ((L.length : Int) + 1 == 1) = false := int_ne (by omega)
        cases hp : partB L[k]
        · have HP := LH hp; clear hp
          go_wp2_with fail
          refine (l2IsName_any _ _ hsz).mono ?_
          rw [HP.out]
          rintro e w' ⟨rfl, rfl⟩
          go_wp2_with fail
          go_ret
          exact ⟨ret_bool (by rw [HS.out.1, allB_ff (List.getElem_mem hlt) HP.out]; rfl), hx.trans hxr⟩
        · have HP := LH hp; clear hp
          go_wp2_with fail
          refine (l2IsName_any _ _ hsz).mono ?_
          rw [HP.out]
          rintro e w' ⟨rfl, rfl⟩
          go_wp2_with fail
          go_roundw
          case rel => exact ⟨k + 1, by omega, by go_num, hxr, LH fun j hj hl => by
           by_cases h : j < k
           · exact hR.out j h hl
           · obtain rfl : j = k := by omega
             exact HP.out⟩
          case measure => simp [intOf]; omega
      · have hall : Hid (allB partB L = true) := LH (allB_tt fun x h => by
         obtain ⟨j, hj, rfl⟩ := List.mem_iff_getElem.1 h
         exact hR.out j (by omega) hj)
        clear a0
        go_wp2_with fail
        go_ret
        exact ⟨ret_bool (by rw [HS.out.1, hall.out, Bool.true_and]; first | rfl | (apply Bool.eq_iff_iff.2; simp only [decide_eq_true_eq]; omega)), hx.trans hxr⟩
theorem spec_CountArgs_any (s : ByteArray) (w : World) (hs : s.size <= 1048576) :
 Calls Tryz.prog 78 #[.string s] w fun e w' => e = .returned (.int .i64 (argsB s)) /\ Ext w w' := by
 go_enter Tryz.func78, Tryz.ntmps78
 go_wp2_with fail
 refine (spec_IsSelector_any s _ hs).mono ?_
 cases hq : selB s
 · have HQ := LH hq; clear hq
   rintro e w1 ⟨rfl, hx1⟩
   go_wp2_with fail
   go_ret
   exact ⟨ret_int (by rw [args_none HQ.out]), hx1⟩
 have HQ := LH hq; clear hq
 rintro e w0 ⟨rfl, hx0⟩
 go_wp2_with fail
 refine (l2Binaries_any _).mono ?_
 rintro e w1 ⟨ao, n, cap, fp, rfl, hr, hf, hx1⟩
 go_wp2_with fail
 refine (l1Has_any opsL s _ _ hr.rep).mono ?_
 clear hr hf
 cases ho : hasB opsL s
 rotate_left
 · rintro e w1 ⟨rfl, rfl⟩
   have HO := LH ho; clear ho
   go_wp2_with fail
   go_ret
   exact ⟨ret_int (by rw [args_op HO.out]), hx0.trans hx1⟩
 rintro e w1 ⟨rfl, rfl⟩
 have HO := LH ho; clear ho
 go_wp2_with fail
 refine (spec_SplitByte_col s _ hs).mono ?_
 rintro e w2 ⟨ao, n, cap, fp, rfl, hr, hf, hx2⟩
 obtain ⟨ao, ca, ba, oa, h1, hla, hma, pa, ha⟩ := hr.rep.strs
 simp only [List.cons.injEq, and_true, Value.slice.injEq] at h1
 obtain ⟨rfl, rfl, rfl⟩ := h1
 clear ha pa hr hf
 have HL : Hid (argsB s = ((cutB 58 s).length : Int) - 1) := LH (by
  by_cases h1 : (cutB 58 s).length = 1
  · have := sel_one HO.out h1
    rw [this.2 (by rw [<- this.1, HQ.out]), h1]; rfl
  · cases hc : colB s
    · have := sel_none HO.out hc h1
      rw [HQ.out] at this; cases this
    · rw [(sel_col HO.out hc).2 HQ.out, cut_col hc, List.length_append]; simp only [List.length_cons, List.length_nil]; omega)
 have hb := cutB_le 58 s
 have hb' : 1 <= (cutB 58 s).length := by rw [cutB_length]; omega
 generalize (cutB 58 s).length = n at *
 go_wp2_with fail
 go_ret
 exact ⟨ret_int (by rw [HL.out]), (hx0.trans hx1).trans hx2⟩
def suf (s : ByteArray) (k : Nat) : ByteArray := s.extract k s.size
theorem suf_data (s : ByteArray) (k : Nat) : (suf s k).data.toList = s.data.toList.drop k := by
 unfold suf
 rw [extract_mk, data_mkB, List.take_of_length_le (by simp)]
theorem pre_iff {s x : ByteArray} {k : Nat} (hk : k <= s.size) : Lib.hasPrefix (suf s k).data.toList x.data.toList = true ↔ k + x.size <= s.size /\ s.extract k (k + x.size) = x := by
 have ex : x.data.toList.length = x.size := by simp
 have es : s.data.toList.length = s.size := by simp
 rw [suf_data, Lib.hasPrefix, List.isPrefixOf_iff_prefix, List.prefix_iff_eq_take, ex]
 constructor
 · intro h
   have hl := congrArg List.length h
   rw [List.length_take, List.length_drop, ex, es] at hl
   refine ⟨by omega, ?_⟩
   rw [extract_mk, show k + x.size - k = x.size from by omega, <- h, mkB_data]
 · rintro ⟨h1, h2⟩
   have h3 := congrArg (fun b : ByteArray => b.data.toList) h2
   simp only [extract_mk, data_mkB, show k + x.size - k = x.size from by omega] at h3
   exact h3.symm
theorem pre_no {s x : ByteArray} {k : Nat} (hk : k <= s.size) (h : ¬ (k + x.size <= s.size /\ s.extract k (k + x.size) = x)) : Lib.hasPrefix (suf s k).data.toList x.data.toList = false := by
 cases hp : Lib.hasPrefix (suf s k).data.toList x.data.toList
 · rfl
 · exact absurd ((pre_iff hk).1 hp) h
theorem l2Starts_any (l : List ByteArray) (s : ByteArray) (at' : Nat) (va : Value) (w : World) (ra : Rep w (strs l) [va]) (hs : s.size <= 1048576) (hat : at' <= s.size) (hl : ∀ x, x ∈ l -> x.size <= 1048576) :
 Calls Tryz.prog 46 #[.string s, .int .i64 at', va] w fun e w' => e = .returned (.string (firstP l (suf s at'))) /\ Ext w w' := by
 obtain ⟨ao, ca, ba, oa, h1, hla, hma, pa, ha⟩ := ra.strs
 simp only [List.cons.injEq, and_true] at h1
 subst h1
 clear ra
 unfold maxLen at hma
 have HL := LH hl; clear hl
 go_enter Tryz.func46, Tryz.ntmps46
 go_wp2_with fail
 go_loopw [7, 8] (fun iv _ wr => ∃ k : Nat, k <= l.length /\ iv = .int .i64 k /\ Ext w wr /\ Hid (∀ j (hj : j < k) (hl : j < l.length), Lib.hasPrefix (suf s at').data.toList l[j].data.toList = false)) (fun iv _ _ => l.length - (intOf iv).toNat)
 case atStart => exact ⟨0, Nat.zero_le _, rfl, XR _, LH fun j hj => by omega⟩
 case round =>
  obtain ⟨k, hk, rfl, hx, hR⟩ := hrel
  by_cases hlt : k < l.length
  rotate_left
  · go_wp2_with fail
    go_ret
    exact ⟨ret_str (by rw [firstP_none fun j hj => hR.out j (by omega) hj]), hx⟩
  obtain rfl := pa (by omega)
  have a0 := hx.cell (ha k l[k] (by simp [hlt]))
  have hxs := HL.out _ (List.getElem_mem hlt)
  have h30 : (0 : Int) <= k := by omega
  have h31 : (k : Int) < (l.length : Int) := by omega
  have HY : Hid (Lib.hasPrefix (suf s at').data.toList l[k].data.toList = true -> firstP l (suf s at') = l[k]) := LH fun h => firstP_yes hlt (fun j hj => hR.out j hj (by omega)) h
  have HK : Hid (∀ j (h1 : j < l.length), j = k -> l[j] = l[k]) := LH fun j h1 h => by subst h; rfl
  clear ha pa
  generalize l[k] = x at *
  go_wp2_with fail
  have g0 := reg (XR _) a0
  have s1 : IntKind.i64.wrap ((at' : Int) + x.size) = (at' : Int) + x.size := IntWalk.i64_in _ (by omega)
  have p0 : (0 : Int) <= at' := by omega
  have p1 : (at' : Int) <= (at' : Int) + x.size := by omega
  by_cases hle : at' + x.size <= s.size
  · have q1 : (at' : Int) + x.size <= s.size := by omega
    by_cases he : s.extract at' (at' + x.size) = x
    · have t1 := str_eq he
      have HP : Hid (Lib.hasPrefix (suf s at').data.toList x.data.toList = true) := LH ((pre_iff hat).2 ⟨hle, he⟩)
      have HE := LH he; clear he
      refine wp_region_quiet_below (by kernel_rfl) (by kernel_rfl) ?_
      repeat (go_big_quiet_step (fail))
      refine wpQuiet_nil ?_
      clear g0 s1
      intro _ hw'
      obtain ⟨pw, hw''⟩ := hw'
      subst hw''
      have X1 := regx wr pw
      generalize hW2 : «Sort».grow (redrawn wr pw.d) pw.os = W2 at *
      clear hW2
      have a1 := X1.cell a0
      go_wp2_with fail
      go_ret
      exact ⟨ret_str (by rw [HY.out HP.out]), hx.trans X1⟩
    · have t1 := str_ne he
      have HP : Hid (Lib.hasPrefix (suf s at').data.toList x.data.toList = false) := LH (pre_no hat fun h => he h.2)
      have HE := LH he; clear he
      refine wp_region_quiet_below (by kernel_rfl) (by kernel_rfl) ?_
      repeat (go_big_quiet_step (fail))
      refine wpQuiet_nil ?_
      clear g0 s1
      intro _ hw'
      obtain ⟨pw, hw''⟩ := hw'
      subst hw''
      have X1 := regx wr pw
      generalize hW2 : «Sort».grow (redrawn wr pw.d) pw.os = W2 at *
      clear hW2
      go_wp2_with fail
      go_roundw
      case rel => exact ⟨k + 1, by omega, by go_num, hx.trans X1, LH fun j hj hl => by
       by_cases h : j < k
       · exact hR.out j h hl
       · rw [HK.out j hl (by omega)]; exact HP.out⟩
      case measure => simp [intOf]; omega
  · have q1 : ¬ (at' : Int) + x.size <= s.size := by omega
    have HP : Hid (Lib.hasPrefix (suf s at').data.toList x.data.toList = false) := LH (pre_no hat fun h => hle h.1)
    refine wp_region_quiet_below (by kernel_rfl) (by kernel_rfl) ?_
    repeat (go_big_quiet_step (fail))
    refine wpQuiet_nil ?_
    clear g0 s1
    intro _ hw'
    obtain ⟨pw, hw''⟩ := hw'
    subst hw''
    have X1 := regx wr pw
    generalize hW2 : «Sort».grow (redrawn wr pw.d) pw.os = W2 at *
    clear hW2
    go_wp2_with fail
    go_roundw
    case rel => exact ⟨k + 1, by omega, by go_num, hx.trans X1, LH fun j hj hl => by
     by_cases h : j < k
     · exact hR.out j h hl
     · rw [HK.out j hl (by omega)]; exact HP.out⟩
    case measure => simp [intOf]; omega
def colL : List UInt8 -> Bool
 | c :: d :: _ => decide (c = 58) && decide (d ≠ 61)
 | [c] => decide (c = 58)
 | [] => false
theorem colon_any (s : ByteArray) (w : World) (hs : s.size <= 1048576) :
 Calls Tryz.prog 87 #[.string s] w fun e w' => e = .returned (.bool (colL s.data.toList)) /\ w' = w := by
 have hA : Hid (colL s.data.toList = (Lib.hasPrefix s.data.toList [58] && !Lib.hasPrefix s.data.toList [58, 61])) := LH (by
  rcases s.data.toList with _ | ⟨c, _ | ⟨d, r⟩⟩
  · rfl
  · by_cases h1 : c = 58
    · subst h1; rfl
    · have h1' : ((58 : UInt8) == c) = false := by simpa using fun e : 58 = c => h1 e.symm
      simp [colL, Lib.hasPrefix, List.isPrefixOf, h1, h1']
  · by_cases h1 : c = 58
    · subst h1
      by_cases h2 : d = 61
      · subst h2; rfl
      · have h2' : ((61 : UInt8) == d) = false := by simpa using fun e : 61 = d => h2 e.symm
        simp [colL, Lib.hasPrefix, List.isPrefixOf, h2, h2']
    · have h1' : ((58 : UInt8) == c) = false := by simpa using fun e : 58 = c => h1 e.symm
      simp [colL, Lib.hasPrefix, List.isPrefixOf, h1, h1'])
 cases h1 : Lib.hasPrefix s.data.toList [58]
 · have H1 := LH h1; clear h1
   go_enter Tryz.func87, Tryz.ntmps87
   go_wp2_with fail
   refine (Tryz.strings_HasPrefix _ _ _).mono ?_
   rw [show (⟨#[58]⟩ : ByteArray).data.toList = [58] from rfl, H1.out]
   rintro e w' ⟨rfl, rfl⟩
   go_wp2_with fail
   go_ret
   exact ⟨ret_bool (by rw [hA.out, H1.out]; rfl), rfl⟩
 cases h2 : Lib.hasPrefix s.data.toList [58, 61]
 all_goals
  have H1 := LH h1; clear h1
  have H2 := LH h2; clear h2
  go_enter Tryz.func87, Tryz.ntmps87
  go_wp2_with fail
  refine (Tryz.strings_HasPrefix _ _ _).mono ?_
  rw [show (⟨#[58]⟩ : ByteArray).data.toList = [58] from rfl, H1.out]
  rintro e w' ⟨rfl, rfl⟩
  go_wp2_with fail
  refine (Tryz.strings_HasPrefix _ _ _).mono ?_
  rw [show (⟨#[58, 61]⟩ : ByteArray).data.toList = [58, 61] from rfl, H2.out]
  rintro e w' ⟨rfl, rfl⟩
  go_wp2_with fail
  go_ret
  exact ⟨ret_bool (by rw [hA.out, H1.out, H2.out]; rfl), rfl⟩
theorem drop_cons {s : ByteArray} {k : Nat} (h : k < s.size) : s.data.toList.drop k = s[k] :: s.data.toList.drop (k + 1) := by
 rw [List.drop_eq_getElem_cons (by simpa using h)]; rfl
theorem u8_eq {a : UInt8} {n : Int} (b : UInt8) (hb : (b.toNat : Int) = n) (h : a = b) : ((a.toNat : Int) == n) = true := int_eq (by rw [h, hb])
theorem u8_ne {a : UInt8} {n : Int} (b : UInt8) (hb : (b.toNat : Int) = n) (h : ¬ a = b) : ((a.toNat : Int) == n) = false := int_ne fun e => h (UInt8.toNat_inj.1 (by omega))
theorem u8_eqn {a : UInt8} {n : Int} (b : UInt8) (hb : (b.toNat : Int) = n) (h : a = b) : ((a.toNat : Int) != n) = false := int_eqn (by rw [h, hb])
theorem u8_nen {a : UInt8} {n : Int} (b : UInt8) (hb : (b.toNat : Int) = n) (h : ¬ a = b) : ((a.toNat : Int) != n) = true := int_nen fun e => h (UInt8.toNat_inj.1 (by omega))
theorem l2Colon_any (s : ByteArray) (k : Nat) (w : World) (hs : s.size <= 1048576) (hk : k <= s.size) :
 Calls Tryz.prog 81 #[.string s, .int .i64 k] w fun e w' => e = .returned (.bool (colL (s.data.toList.drop k))) /\ w' = w := by
 have p0 : (0 : Int) <= k := by omega
 by_cases h : k < s.size
 rotate_left
 · have hA : Hid (colL (s.data.toList.drop k) = false) := LH (by rw [List.drop_eq_nil_of_le (by simp; omega)]; rfl)
   have q1 : ¬ (k : Int) < (s.size : Int) := by omega
   go_enter Tryz.func81, Tryz.ntmps81
   go_wp2_with fail
   go_ret
   exact ⟨ret_bool (by rw [hA.out]), rfl⟩
 have q1 : (k : Int) < (s.size : Int) := by omega
 by_cases h1 : s[k] = 58
 rotate_left
 · have hA : Hid (colL (s.data.toList.drop k) = false) := LH (by
    rw [drop_cons h]
    rcases s.data.toList.drop (k + 1) with _ | ⟨d, r⟩ <;> simp [colL, h1])
   have t1 := u8_ne (n := 58) 58 rfl h1
   have H1 := LH h1; clear h1
   go_enter Tryz.func81, Tryz.ntmps81
   go_wp2_with fail
   go_ret
   exact ⟨ret_bool (by rw [hA.out]), rfl⟩
 have t1 := u8_eq (n := 58) 58 rfl h1
 by_cases h2 : k + 1 < s.size
 rotate_left
 · have hA : Hid (colL (s.data.toList.drop k) = true) := LH (by
    rw [drop_cons h, List.drop_eq_nil_of_le (by simp; omega)]; simp [colL, h1])
   have H1 := LH h1; clear h1
   have q2 : (s.size : Int) <= (k : Int) + 1 := by omega
   go_enter Tryz.func81, Tryz.ntmps81
   go_wp2_with fail
   go_ret
   exact ⟨ret_bool (by rw [hA.out]), rfl⟩
 have q2 : ¬ (s.size : Int) <= (k : Int) + 1 := by omega
 have q3 : (k : Int) + 1 < (s.size : Int) := by omega
 by_cases h3 : s[k + 1] = 61
 · have hA : Hid (colL (s.data.toList.drop k) = false) := LH (by
    rw [drop_cons h, drop_cons h2]; simp [colL, h3])
   have t3 := u8_eqn (n := 61) 61 rfl h3
   have H1 := LH h1; clear h1
   have H3 := LH h3; clear h3
   go_enter Tryz.func81, Tryz.ntmps81
   go_wp2_with fail
   go_ret
   exact ⟨ret_bool (by rw [hA.out]), rfl⟩
 · have hA : Hid (colL (s.data.toList.drop k) = true) := LH (by
    rw [drop_cons h, drop_cons h2]; simp [colL, h1, h3])
   have t3 := u8_nen (n := 61) 61 rfl h3
   have H1 := LH h1; clear h1
   have H3 := LH h3; clear h3
   go_enter Tryz.func81, Tryz.ntmps81
   go_wp2_with fail
   go_ret
   exact ⟨ret_bool (by rw [hA.out]), rfl⟩
def tokVal (t : MToken) : Value := .agg #[.int .i64 t.kind, .string t.text, .int .i64 t.number]
def endV (k n : Nat) : Int := if n = 0 then 0 else ((k + n : Nat) : Int)
def noTok : MToken × Nat := (⟨0, ⟨#[]⟩, 0⟩, 0)
def runB (l : List UInt8) : ByteArray := mkB (l.take (runL l))
noncomputable def nameT (l : List UInt8) : MToken × Nat :=
 if colL (l.drop (runL l)) then (if runL l <= 20 then (⟨2, runB l ++ ⟨#[58]⟩, 0⟩, runL l + 1) else noTok)
 else if hasB wordsL (runB l) then (⟨8, runB l, 0⟩, runL l) else if runL l <= 20 then (⟨1, runB l, 0⟩, runL l) else noTok
theorem word_len {s : ByteArray} (h : hasB wordsL s = true) : s.size <= 11 := by
 have h := hasB_iff.1 h
 simp only [wordsL, List.mem_cons, List.not_mem_nil, or_false] at h
 rcases h with rfl | rfl | rfl | rfl | rfl | rfl | rfl <;> decide
theorem l2Name_any (s : ByteArray) (k : Nat) (w : World) (hs : s.size <= 1048576) (hk : k <= s.size) (hr0 : 0 < runL (s.data.toList.drop k)) :
 Calls Tryz.prog 50 #[.string s, .int .i64 k] w fun e w' => e = .returned (.tuple #[tokVal (nameT (s.data.toList.drop k)).1, .int .i64 (endV k (nameT (s.data.toList.drop k)).2)]) /\ Ext w w' := by
 have hE0 : runAt s k = k + runL (s.data.toList.drop k) := rfl
 have hle := runAt_le hk
 have hT : Hid (s.extract k (runAt s k) = runB (s.data.toList.drop k)) := LH (by rw [extract_mk, hE0, runB]; congr 2; omega)
 have hC : Hid (colL (s.data.toList.drop (runAt s k)) = colL ((s.data.toList.drop k).drop (runL (s.data.toList.drop k)))) := LH (by rw [List.drop_drop, hE0])
 have hRB : (runB (s.data.toList.drop k)).size = runL (s.data.toList.drop k) := by
  rw [runB, mkB_size, List.length_take]
  have := runL_le (s.data.toList.drop k)
  omega
 have HRB := LH hRB; clear hRB
 obtain ⟨E, hE⟩ : ∃ E, E = runAt s k := ⟨_, rfl⟩
 rw [<- hE] at hE0 hle hT hC
 have l2r := LH (fun w => l2Run_any s k w (by omega) hk)
 have L2 : Hid (∀ w, Calls Tryz.prog 80 #[.string s, .int .i64 k] w fun e w' => e = .returned (.int .i64 E) /\ w' = w) := LH (by rw [hE]; exact l2r.out)
 clear l2r hE
 have kE : k < E := by omega
 have HE0 := LH hE0; clear hE0
 have p0 : (0 : Int) <= k := by omega
 have p1 : (k : Int) <= E := by omega
 have p2 : (E : Int) <= s.size := by omega
 go_enter Tryz.func50, Tryz.ntmps50
 go_wp2_with fail
 refine (L2.out _).mono ?_
 rintro e w' ⟨rfl, rfl⟩
 go_wp2_with fail
 refine (l2Colon_any s E _ hs hle).mono ?_
 rintro e w' ⟨rfl, rfl⟩
 have EX : ∀ W, W = w ∨ True -> True := fun _ _ => trivial
 clear EX
 cases hc : colL (s.data.toList.drop E)
 rotate_left
 · have hE1 : E < s.size := by
    by_cases h : E < s.size
    · exact h
    · rw [List.drop_eq_nil_of_le (by simp; omega)] at hc; cases hc
   have q3 : (E : Int) + 1 <= s.size := by omega
   have q4 : (k : Int) <= (E : Int) + 1 := by omega
   have HC2 : Hid (colL ((s.data.toList.drop k).drop (runL (s.data.toList.drop k))) = true) := LH (by rw [<- hC.out]; exact hc)
   have HC := LH hc; clear hc
   by_cases h20 : E - k <= 20
   · have t1 : ¬ (21 : Int) < ((min (E + 1) s.size - k : Nat) : Int) := by omega
     have hN : Hid (nameT (s.data.toList.drop k) = (⟨2, runB (s.data.toList.drop k) ++ ⟨#[58]⟩, 0⟩, runL (s.data.toList.drop k) + 1)) := LH (by
      rw [nameT, if_pos HC2.out, if_pos (by have := HE0.out; omega)])
     go_wp2_with fail
     refine bodyPost_ret (v := .tuple #[.agg #[.int .i64 2, .string (s.extract k E ++ ⟨#[58]⟩), .int .i64 0], .int .i64 (E + 1)]) (by simp [results, Tryz.results50, go_sem]) rfl ⟨?_, ?_⟩
     · rw [hN.out, hT.out]
       simp only [tokVal, endV, Nat.add_eq_zero_iff, Nat.succ_ne_self, and_false, if_false, Nat.one_ne_zero]
       rw [show ((k + (runL (s.data.toList.drop k) + 1) : Nat) : Int) = (E : Int) + 1 from by have := HE0.out; omega]
     · (repeat (first | exact XR _ | refine Ext.alloc ?_ _ | refine Ext.setCell ?_ (by first | exact Nat.le_refl _ | (simp; done) | (simp; omega)) _))
   · have t1 : (21 : Int) < ((min (E + 1) s.size - k : Nat) : Int) := by omega
     have hN : Hid (nameT (s.data.toList.drop k) = noTok) := LH (by
      rw [nameT, if_pos HC2.out, if_neg (by have := HE0.out; omega)])
     go_wp2_with fail
     refine bodyPost_ret (v := .tuple #[.agg #[.int .i64 0, .string ⟨#[]⟩, .int .i64 0], .int .i64 0]) (by simp [results, Tryz.results50, go_sem]) rfl ⟨?_, ?_⟩
     · rw [hN.out]; rfl
     · (repeat (first | exact XR _ | refine Ext.alloc ?_ _ | refine Ext.setCell ?_ (by first | exact Nat.le_refl _ | (simp; done) | (simp; omega)) _))
 · have HC2 : Hid (colL ((s.data.toList.drop k).drop (runL (s.data.toList.drop k))) = false) := LH (by rw [<- hC.out]; exact hc)
   have HC := LH hc; clear hc
   go_wp2_with fail
   generalize hW : World.alloc (World.alloc w _) _ = W1
   have x1 : Ext w W1 := by rw [<- hW]; exact ((XR w).alloc _).alloc _
   have A0 : W1.cell? ⟨w.heap.size + 1, 0, none⟩ = some (.int .i64 1) := by rw [<- hW]; simp
   have A1 : W1.cell? ⟨w.heap.size + 1, 1, none⟩ = some (.string (s.extract k E)) := by rw [<- hW]; simp
   have A2 : W1.cell? ⟨w.heap.size + 1, 2, none⟩ = some (.int .i64 0) := by rw [<- hW]; simp
   have R0 : W1.cell? ⟨w.heap.size, 0, none⟩ = some (.int .i64 0) := by rw [<- hW]; simp
   have R1 : W1.cell? ⟨w.heap.size, 1, none⟩ = some (.string ⟨#[]⟩) := by rw [<- hW]; simp
   have R2 : W1.cell? ⟨w.heap.size, 2, none⟩ = some (.int .i64 0) := by rw [<- hW]; simp
   have F0 : ∀ o, W1.frozen? ⟨w.heap.size, o, none⟩ = false := fun o => by rw [<- hW]; simp
   have F1 : ∀ o, W1.frozen? ⟨w.heap.size + 1, o, none⟩ = false := fun o => by rw [<- hW]; simp
   have z1 : w.heap.size + 1 < W1.heap.size := lt_of_cell A0
   clear hW
   have KS : Hid (∀ w'', Ext W1 w'' -> w''.cell? ⟨w.heap.size + 1, 1, none⟩ = some (.string (s.extract k E)) /\ Ext W1 w'') := LH fun w'' h => ⟨Ext.cell h A1, h⟩
   have hword : Hid (hasB wordsL (s.extract k E) = true -> E - k <= 11) := LH fun h => by
    have h1 := word_len h
    rw [hT.out, HRB.out] at h1
    have := HE0.out; omega
   have RG := LH (And.intro A0 (And.intro A1 (And.intro A2 (And.intro R0 (And.intro R1 R2)))))
   have FG := LH (And.intro F0 F1)
   clear A0 A2 R0 R1 R2 F0 F1
   cases hw : hasB wordsL (s.extract k E)
   all_goals
    have HW := LH hw; clear hw
    go_region_held3 (fun w'' => w''.cell? ⟨w.heap.size + 1, 1, none⟩ = some (.string (s.extract k E)) /\ Ext W1 w'')
     (first | exact KS.out _ (Ext.drew (XR _)) | exact KS.out _ (Ext.trans (Ext.drew (XR _)) hx2))
     (first
      | (go_at_call 82; have hq := hx2; refine (l1Has_any wordsL _ _ _ hr2.rep).mono ?_; rw [HW.out]; rintro e w3 ⟨rfl, rfl⟩)
      | (go_at_call 83; refine (l2Words_any _).mono ?_; rintro e w2 ⟨ao, n, cap, fp, rfl, hr2, hf2, hx2⟩))
    have x12 := Ext.trans (Ext.drew (XR W1)) hx2
    obtain ⟨A0, A1', A2, R0, R1, R2⟩ := RG.out
    replace A0 := Ext.cell x12 A0
    replace A1 := Ext.cell x12 A1
    replace A2 := Ext.cell x12 A2
    replace R0 := Ext.cell x12 R0
    replace R1 := Ext.cell x12 R1
    replace R2 := Ext.cell x12 R2
    have F0 := fun o => ((bcell x12).2 w.heap.size o (by omega)).trans (FG.out.1 o)
    have F1 := fun o => ((bcell x12).2 (w.heap.size + 1) o (by omega)).trans (FG.out.2 o)
    clear A1' hr2 hf2 hx2 KS
   · by_cases h20 : E - k <= 20
     · have t1 : ¬ (21 : Int) < ((min E s.size - k : Nat) : Int) := by omega
       have t2 : ¬ (20 : Int) < ((min E s.size - k : Nat) : Int) := by omega
       have hN : Hid (nameT (s.data.toList.drop k) = (⟨1, runB (s.data.toList.drop k), 0⟩, runL (s.data.toList.drop k))) := LH (by
        rw [nameT, if_neg (by rw [HC2.out]; exact Bool.false_ne_true), if_neg (by rw [<- hT.out, HW.out]; exact Bool.false_ne_true), if_pos (by have := HE0.out; omega)])
       go_wp2_with fail
       refine bodyPost_ret (v := .tuple #[.agg #[.int .i64 1, .string (s.extract k E), .int .i64 0], .int .i64 E]) (by simp [results, Tryz.results50, go_sem, A0, A1, A2, R0, R1, R2, F0, F1]) rfl ⟨?_, ?_⟩
       · rw [hN.out, hT.out]
         simp only [tokVal, endV]
         rw [if_neg (by omega), show ((k + runL (s.data.toList.drop k) : Nat) : Int) = (E : Int) from by have := HE0.out; omega]
       · (repeat refine Ext.setCell ?_ (by omega) _)
         exact x1.trans x12
     · have hN : Hid (nameT (s.data.toList.drop k) = noTok) := LH (by
        rw [nameT, if_neg (by rw [HC2.out]; exact Bool.false_ne_true), if_neg (by rw [<- hT.out, HW.out]; exact Bool.false_ne_true), if_neg (by have := HE0.out; omega)])
       by_cases h21 : 21 < E - k
       · have t1 : (21 : Int) < ((min E s.size - k : Nat) : Int) := by omega
         go_wp2_with fail
         refine bodyPost_ret (v := .tuple #[.agg #[.int .i64 0, .string ⟨#[]⟩, .int .i64 0], .int .i64 0]) (by simp [results, Tryz.results50, go_sem, A0, A1, A2, R0, R1, R2, F0, F1]) rfl ⟨?_, ?_⟩
         · rw [hN.out]; rfl
         · (repeat refine Ext.setCell ?_ (by omega) _)
           exact x1.trans x12
       · have t1 : ¬ (21 : Int) < ((min E s.size - k : Nat) : Int) := by omega
         have t2 : (20 : Int) < ((min E s.size - k : Nat) : Int) := by omega
         go_wp2_with fail
         refine bodyPost_ret (v := .tuple #[.agg #[.int .i64 0, .string ⟨#[]⟩, .int .i64 0], .int .i64 0]) (by simp [results, Tryz.results50, go_sem, A0, A1, A2, R0, R1, R2, F0, F1]) rfl ⟨?_, ?_⟩
         · rw [hN.out]; rfl
         · (repeat refine Ext.setCell ?_ (by omega) _)
           exact x1.trans x12
   · have h11 := hword.out HW.out
     have t1 : ¬ (21 : Int) < ((min E s.size - k : Nat) : Int) := by omega
     have t2 : ¬ (20 : Int) < ((min E s.size - k : Nat) : Int) := by omega
     have hN : Hid (nameT (s.data.toList.drop k) = (⟨8, runB (s.data.toList.drop k), 0⟩, runL (s.data.toList.drop k))) := LH (by
      rw [nameT, if_neg (by rw [HC2.out]; exact Bool.false_ne_true), if_pos (by rw [<- hT.out, HW.out])])
     go_wp2_with fail
     refine bodyPost_ret (v := .tuple #[.agg #[.int .i64 8, .string (s.extract k E), .int .i64 0], .int .i64 E]) (by simp [results, Tryz.results50, go_sem, A0, A1, A2, R0, R1, R2, F0, F1]) rfl ⟨?_, ?_⟩
     · rw [hN.out, hT.out]
       simp only [tokVal, endV]
       rw [if_neg (by omega), show ((k + runL (s.data.toList.drop k) : Nat) : Int) = (E : Int) from by have := HE0.out; omega]
     · (repeat refine Ext.setCell ?_ (by omega) _)
       exact x1.trans x12
theorem runB_size (l : List UInt8) : (runB l).size = runL l := by
 rw [runB, mkB_size, List.length_take]
 have := runL_le l
 omega
theorem runOf_suf (s : ByteArray) (k : Nat) (w : World) (hs : s.size <= 1048576) :
 Calls Tryz.prog 86 #[.string (s.extract k s.size)] w fun e w' => e = .returned (.string (runB (s.data.toList.drop k))) /\ w' = w := by
 have h := runOf_any (suf s k) w (by unfold suf; simp; omega)
 have e1 : (suf s k).extract 0 (runAt (suf s k) 0) = runB (s.data.toList.drop k) := by
  rw [extract_mk, runAt, suf_data, runB]; simp
 rw [e1] at h
 exact h
theorem colon_suf (s : ByteArray) (k : Nat) (w : World) (hs : s.size <= 1048576) :
 Calls Tryz.prog 87 #[.string (s.extract k s.size)] w fun e w' => e = .returned (.bool (colL (s.data.toList.drop k))) /\ w' = w := by
 have h := colon_any (suf s k) w (by unfold suf; simp; omega)
 rw [suf_data] at h
 exact h
def kwL (l : List UInt8) : Nat :=
 if h : runL l = 0 then 0 else if colL (l.drop (runL l)) = true then runL l + 1 + kwL (l.drop (runL l + 1)) else 0
termination_by l.length
decreasing_by
 have := runL_le l
 rw [List.length_drop]; omega
def symN (l : List UInt8) : Nat := if runL l = 0 then 0 else if colL (l.drop (runL l)) = true then kwL l else runL l
noncomputable def symB (l : List UInt8) : ByteArray := if firstP opsL (mkB l) = ⟨#[]⟩ then mkB (l.take (symN l)) else firstP opsL (mkB l)
theorem colL_pos {l : List UInt8} (h : colL l = true) : 0 < l.length := by
 cases l with
 | nil => cases h
 | cons _ _ => simp
theorem kw_no0 {l : List UInt8} (h : runL l = 0) : kwL l = 0 := by rw [kwL]; simp [h]
theorem kw_noc {l : List UInt8} (h : colL (l.drop (runL l)) = false) : kwL l = 0 := by rw [kwL]; simp [h]
theorem kw_yes {l : List UInt8} (h0 : runL l ≠ 0) (h : colL (l.drop (runL l)) = true) : kwL l = runL l + 1 + kwL (l.drop (runL l + 1)) := by
 rw [kwL, dif_neg h0, if_pos h]
theorem symbolAt_any (s : ByteArray) (w : World) (hs : s.size <= 1048576) :
 Calls Tryz.prog 90 #[.string s] w fun e w' => e = .returned (.string (symB s.data.toList)) /\ Ext w w' := by
 have hsb : Hid (∀ f, f = firstP opsL s -> symB s.data.toList = if f = ⟨#[]⟩ then s.extract 0 (symN s.data.toList) else f) := LH (by
  rintro f rfl
  rw [symB, mkB_data, extract_mk]; simp)
 go_enter Tryz.func90, Tryz.ntmps90
 go_wp2_with fail
 refine (operators_any _).mono ?_
 rintro e w1 ⟨ao, n, cap, fp, rfl, hr, hf, hx⟩
 go_wp2_with fail
 refine (firstOf_any opsL s _ _ hr.rep).mono ?_
 rintro e w' ⟨rfl, rfl⟩
 have HS := LH (hsb.out _ rfl)
 clear hsb hr hf
 generalize firstP opsL s = f at *
 by_cases h : f = ⟨#[]⟩
 rotate_left
 · have t0 : ¬ f.toList = [] := fun e => h (toList_inj (by rw [e]; simp))
   have t1 : f.toList.isEmpty = false := by simpa using t0
   have hr : Hid (symB s.data.toList = f) := LH (by rw [HS.out, if_neg h])
   clear h HS
   go_wp2_with fail
   go_ret
   exact ⟨ret_str (by rw [hr.out]), hx⟩
 have hr : Hid (symB s.data.toList = s.extract 0 (symN s.data.toList)) := LH (by rw [HS.out, if_pos h])
 clear HS
 subst h
 have L0 : s.data.toList.drop 0 = s.data.toList := rfl
 have hrl : runL s.data.toList <= s.size := by have := runL_le s.data.toList; simpa using this
 have HD : ∀ k, s.data.toList.drop k = s.data.toList.drop k := fun _ => rfl
 clear HD
 go_wp2_with fail
 refine (runOf_any s _ (by omega)).mono ?_
 rw [show s.extract 0 (runAt s 0) = runB s.data.toList from by rw [extract_mk, runAt, runB]; simp]
 rintro e w' ⟨rfl, rfl⟩
 have hz := runB_size s.data.toList
 generalize runB s.data.toList = R at *
 obtain ⟨m, hm⟩ : ∃ m, runL s.data.toList = m := ⟨_, rfl⟩
 rw [hm] at hz hrl
 have HM := LH hm; clear hm
 have q1 : (0 : Int) <= m := by omega
 have q2 : (m : Int) <= s.size := by omega
 by_cases h0 : m = 0
 · have hy : Hid (symN s.data.toList = 0) := LH (by rw [symN, if_pos (by rw [HM.out, h0])])
   subst h0
   go_wp2_with fail
   go_ret
   exact ⟨ret_str (by rw [hr.out, hy.out]; apply ByteArray.ext; simp), hx⟩
 have q0 : ((m : Int) == 0) = false := int_ne (by omega)
 cases hc : colL (s.data.toList.drop m)
 · have hy : Hid (symN s.data.toList = m) := LH (by rw [symN, HM.out, if_neg h0, if_neg (by rw [hc]; exact Bool.false_ne_true)])
   have HC := LH hc; clear hc
   go_wp2_with fail
   refine (colon_suf s m _ hs).mono ?_
   rw [HC.out]
   rintro e w' ⟨rfl, rfl⟩
   go_wp2_with fail
   go_ret
   exact ⟨ret_str (by rw [hr.out, hy.out]), hx⟩
 have hy : Hid (symN s.data.toList = m + 1 + kwL (s.data.toList.drop (m + 1))) := LH (by rw [symN, HM.out, if_neg h0, if_pos hc, kw_yes (by rw [HM.out]; exact h0) (by rw [HM.out]; exact hc), HM.out])
 have hlt : m + 1 <= s.size := by have := colL_pos hc; simp at this; have e : s.data.size = s.size := rfl; omega
 have HC := LH hc; clear hc
 go_wp2_with fail
 refine (colon_suf s m _ hs).mono ?_
 rw [HC.out]
 rintro e w' ⟨rfl, rfl⟩
 go_wp2_with fail
 clear hz
 go_loop [4] (fun nv => ∃ n : Nat, n <= s.size /\ nv = .int .i64 n /\ Hid (symN s.data.toList = n + kwL (s.data.toList.drop n))) (fun nv => s.size - (intOf nv).toNat)
 case atStart => exact ⟨m + 1, hlt, by go_num, hy⟩
 case round =>
  clear q0 q1 q2 hrl hlt hy HC HM h0
  obtain ⟨n, hn, rfl, hR⟩ := hrel
  have p0 : (0 : Int) <= n := by omega
  have p1 : (n : Int) <= s.size := by omega
  have hrn : n + runL (s.data.toList.drop n) <= s.size := by have := runL_le (s.data.toList.drop n); simp at this; have e : s.data.size = s.size := rfl; omega
  have hzn := runB_size (s.data.toList.drop n)
  have HRN := LH hrn; clear hrn
  have HZN := LH hzn; clear hzn
  go_wp2_with fail
  refine (runOf_suf s n _ hs).mono ?_
  rintro e w' ⟨rfl, rfl⟩
  generalize runB (s.data.toList.drop n) = R2 at *
  obtain ⟨j, hj⟩ : ∃ j, runL (s.data.toList.drop n) = j := ⟨_, rfl⟩
  have hzn := HZN.out
  have hrn := HRN.out
  rw [hj] at hzn hrn
  have HJ := LH hj; clear hj HZN HRN
  have g1 : (0 : Int) <= (n : Int) + j := by omega
  have g2 : (n : Int) + j <= s.size := by omega
  by_cases h2 : j = 0
  · have hy2 : Hid (symN s.data.toList = n) := LH (by rw [hR.out, kw_no0 (by rw [HJ.out, h2]), Nat.add_zero])
    subst h2
    go_wp2_with fail
    go_ret
    exact ⟨ret_str (by rw [hr.out, hy2.out]), hx⟩
  have g0 : ((j : Int) == 0) = false := int_ne (by omega)
  cases hc2 : colL (s.data.toList.drop (n + j))
  · have hy2 : Hid (symN s.data.toList = n) := LH (by rw [hR.out, kw_noc (by rw [HJ.out, List.drop_drop]; exact hc2), Nat.add_zero])
    have HC2 := LH hc2; clear hc2
    go_wp2_with fail
    refine (colon_suf s (n + j) _ hs).mono ?_
    rw [HC2.out]
    rintro e w' ⟨rfl, rfl⟩
    go_wp2_with fail
    go_ret
    exact ⟨ret_str (by rw [hr.out, hy2.out]), hx⟩
  · have hy2 : Hid (symN s.data.toList = n + (j + 1) + kwL (s.data.toList.drop (n + (j + 1)))) := LH (by
     rw [hR.out, kw_yes (by rw [HJ.out]; exact h2) (by rw [HJ.out, List.drop_drop]; exact hc2), List.drop_drop, HJ.out]; omega)
    have hlt2 : n + (j + 1) <= s.size := by have := colL_pos hc2; simp at this; have e : s.data.size = s.size := rfl; omega
    have HC2 := LH hc2; clear hc2
    go_wp2_with fail
    refine (colon_suf s (n + j) _ hs).mono ?_
    rw [HC2.out]
    rintro e w' ⟨rfl, rfl⟩
    go_wp2_with fail
    go_round
    case rel => exact ⟨n + (j + 1), hlt2, by go_num, hy2⟩
    case measure => simp [intOf]; omega
def valF (acc : Nat) (l : List UInt8) : Nat := l.foldl (fun a c => a * 10 + (c.toNat - 48)) acc
theorem valF_nil (a : Nat) : valF a [] = a := by unfold valF; rw [List.foldl_nil]
theorem valF_cons (a : Nat) (c : UInt8) (r : List UInt8) : valF a (c :: r) = valF (a * 10 + (c.toNat - 48)) r := by unfold valF; rw [List.foldl_cons]
def digL (l : List UInt8) : Prop := ∀ c, c ∈ l -> 48 <= c.toNat /\ c.toNat <= 57
theorem valF_append (l m : List UInt8) (a : Nat) : valF a (l ++ m) = valF (valF a l) m := by unfold valF; rw [List.foldl_append]
theorem valF_lt : ∀ (l : List UInt8) (a : Nat), digL l -> valF a l + 1 <= (a + 1) * 10 ^ l.length
 | [], a, _ => by simp [valF_nil]
 | c :: r, a, h => by
  rw [valF_cons, List.length_cons, Nat.pow_succ]
  have h1 := h c (by simp)
  have h2 := valF_lt r (a * 10 + (c.toNat - 48)) (fun x hx => h x (by simp [hx]))
  have h3 : (a * 10 + (c.toNat - 48) + 1) * 10 ^ r.length <= ((a + 1) * 10) * 10 ^ r.length := Nat.mul_le_mul_right _ (by omega)
  have h4 : (a + 1) * (10 ^ r.length * 10) = ((a + 1) * 10) * 10 ^ r.length := by rw [Nat.mul_comm (10 ^ r.length) 10, Nat.mul_assoc]
  omega
theorem val_bd {l : List UInt8} (h : digL l) (hl : l.length <= 12) : valF 0 l <= 999999999999 := by
 have h1 := valF_lt l 0 h
 have h2 : 10 ^ l.length <= 10 ^ 12 := Nat.pow_le_pow_right (by omega) hl
 have h3 : (10 : Nat) ^ 12 = 1000000000000 := by decide
 omega
theorem dec_val : ∀ (k u : Nat), u <= k -> digL (Lib.decDigits u) /\ valF 0 (Lib.decDigits u) = u /\ Lib.decDigits u ≠ []
 | 0, u, h => by
  obtain rfl : u = 0 := by omega
  rw [Lib.decDigits, dif_pos (by omega)]
  exact ⟨by intro c hc; have hc := List.mem_singleton.1 hc; subst hc; decide, by decide, by simp⟩
 | k + 1, u, h => by
  by_cases hu : u < 10
  · rw [Lib.decDigits, dif_pos hu]
    have e : (UInt8.ofNat (48 + u)).toNat = 48 + u := by simp; omega
    exact ⟨by intro c hc; have hc := List.mem_singleton.1 hc; rw [hc, e]; omega, by rw [valF_cons, valF_nil, e]; omega, by simp⟩
  · rw [Lib.decDigits, dif_neg hu]
    obtain ⟨h1, h2, h3⟩ := dec_val k (u / 10) (by omega)
    have e : (UInt8.ofNat (48 + u % 10)).toNat = 48 + u % 10 := by simp; omega
    refine ⟨?_, ?_, by simp⟩
    · intro c hc
      rcases List.mem_append.1 hc with hc | hc
      · exact h1 c hc
      · have hc := List.mem_singleton.1 hc; rw [hc, e]; omega
    · rw [valF_append, h2, valF_cons, valF_nil, e]; omega
theorem dec_head (u : Nat) : ∃ c r, Lib.decDigits u = c :: r /\ 48 <= c.toNat /\ c.toNat <= 57 := by
 obtain ⟨h1, -, h3⟩ := dec_val u u (Nat.le_refl _)
 cases hd : Lib.decDigits u with
 | nil => exact absurd hd h3
 | cons c r => exact ⟨c, r, rfl, h1 c (by rw [hd]; simp)⟩
theorem dec_len' : ∀ (k u : Nat), u < 10 ^ (k + 1) -> (Lib.decDigits u).length <= k + 1
 | 0, u, h => by rw [Lib.decDigits, dif_pos (by simpa using h)]; simp
 | k + 1, u, h => by
  rw [Lib.decDigits]
  split
  · simp
  · have := dec_len' k (u / 10) (Nat.div_lt_of_lt_mul (by rw [Nat.pow_succ] at h; omega))
    simp; omega
end Go.Proofs.YtndhpbjhkgdieaaGreatDoor
