/-
  CONTRACTS: slices.Equal, EqualOutcomes, EqualCodes, of the program and of the reference.
  Conditions: those that each lemma states.
-/
import Derived.Test.YticdmbmjlaomiaaGreatDoorRows
import Derived.Test.YticdmbmjlaomiaaGreatDoorTypes
namespace Go.Proofs.YticdmbmjlaomiaaGreatDoor
open Go.RowKit
set_option linter.unusedSimpArgs false
set_option linter.unusedVariables false


set_option maxHeartbeats 400000 in
theorem l3Texts_any (a b : List ByteArray) (va vb : Value) (w : World) (ra : Rep w (strs a) [va]) (rb : Rep w (strs b) [vb]) :
    Calls Tryz.prog 221 #[va, vb] w fun e w' => e = .returned (.bool (eqB a b)) ∧ Ext w w' := by
  obtain ⟨ao, ca, ba, oa, h1, hla, hma, pa, ha⟩ := Rep.strs ra
  obtain ⟨bo, cb, bb, ob, h2, hlb, hmb, pb, hb⟩ := Rep.strs rb
  simp only [List.cons.injEq, and_true] at h1 h2
  subst h1 h2
  clear ra rb
  unfold maxLen at hma hmb
  go_enter Tryz.func221, Tryz.ntmps221
  by_cases hlen : a.length = b.length
  · have hne : ((a.length : Int) != (b.length : Int)) = false := by simp [hlen]
    have HL := Lib.hid hlen; clear hlen
    go_wp2
    go_loopw [5] (fun i wr => ∃ k : Nat, k ≤ a.length ∧ i = .int .i64 k ∧ Ext w wr ∧ Hid (∀ j, j < k → a[j]? = b[j]?)) (fun i _ => a.length - (intOf i).toNat)
    case atStart => exact ⟨0, Nat.zero_le _, rfl, Ext.refl _, fun j hj => by omega⟩
    case round =>
      obtain ⟨k, hk, rfl, hx, heq⟩ := hrel
      by_cases hlt : k < a.length
      · have hltb : k < b.length := by have := HL.out; omega
        obtain rfl := pa (by omega)
        obtain rfl := pb (by omega)
        have a0 := reg hx (ha k a[k] (by simp [hlt]))
        have b0 := reg hx (hb k b[k] (by simp [hltb]))
        clear ha hb pa pb
        by_cases hs : a[k] = b[k]
        · have ht := str_eqn hs
          have HS := Lib.hid hs; clear hs
          go_wp2_with fail
          refine wp_region_quiet_below (by kernel_rfl) (by kernel_rfl) ?_
          repeat (quiet_step (fail))
          refine wpQuiet_nil ?_
          clear a0 b0
          intro _ hw'
          obtain ⟨pw, hw''⟩ := hw'
          subst hw''
          go_wp2
          go_roundw
          case rel => exact ⟨k + 1, by omega, by go_num, hx.trans (regx _ _), fun j hj => by
            by_cases h : j < k
            · exact heq.out j h
            · obtain rfl : j = k := by omega
              simp [hlt, hltb, HS.out]⟩
          case measure => simp [intOf]; omega
        · have ht := str_nen hs
          have HS := Lib.hid hs; clear hs
          go_wp2_with fail
          refine wp_region_quiet_below (by kernel_rfl) (by kernel_rfl) ?_
          repeat (quiet_step (fail))
          refine wpQuiet_nil ?_
          clear a0 b0
          intro _ hw'
          obtain ⟨pw, hw''⟩ := hw'
          subst hw''
          go_wp2
          go_ret
          exact ⟨ret_ff fun h => HS.out (by subst h; rfl), hx.trans (regx _ _)⟩
      · go_wp2
        go_ret
        have hl := HL.out
        obtain rfl : k = a.length := by omega
        refine ⟨ret_tt ?_, hx⟩
        exact List.ext_getElem? fun j => by
          by_cases hj : j < a.length
          · exact heq.out j hj
          · simp [List.getElem?_eq_none_iff.2 (show a.length ≤ j by omega), List.getElem?_eq_none_iff.2 (show b.length ≤ j by omega)]
  · have hne : ((a.length : Int) != (b.length : Int)) = true := by simp; omega
    have HL := Lib.hid hlen; clear hlen
    go_wp2
    go_ret
    exact ⟨ret_ff fun h => HL.out (by rw [h]), Ext.refl _⟩

set_option maxHeartbeats 400000 in
theorem slEqStr_any (a b : List ByteArray) (va vb : Value) (w : World) (ra : Rep w (strs a) [va]) (rb : Rep w (strs b) [vb]) :
    Calls Tryz.prog 226 #[va, vb] w fun e w' => e = .returned (.bool (eqB a b)) ∧ Ext w w' := by
  obtain ⟨ao, ca, ba, oa, h1, hla, hma, pa, ha⟩ := Rep.strs ra
  obtain ⟨bo, cb, bb, ob, h2, hlb, hmb, pb, hb⟩ := Rep.strs rb
  simp only [List.cons.injEq, and_true] at h1 h2
  subst h1 h2
  clear ra rb
  unfold maxLen at hma hmb
  go_enter Tryz.func226, Tryz.ntmps226
  by_cases hlen : a.length = b.length
  · have hne : ((a.length : Int) != (b.length : Int)) = false := by simp [hlen]
    have HL := Lib.hid hlen; clear hlen
    go_wp2
    go_loopw [13] (fun i wr => ∃ k : Nat, k ≤ a.length ∧ i = .int .i64 k ∧ Ext w wr ∧ Hid (∀ j, j < k → a[j]? = b[j]?)) (fun i _ => a.length - (intOf i).toNat)
    case atStart => exact ⟨0, Nat.zero_le _, rfl, Ext.refl _, fun j hj => by omega⟩
    case round =>
      obtain ⟨k, hk, rfl, hx, heq⟩ := hrel
      by_cases hlt : k < a.length
      · have hltb : k < b.length := by have := HL.out; omega
        obtain rfl := pa (by omega)
        obtain rfl := pb (by omega)
        have a0 := reg hx (ha k a[k] (by simp [hlt]))
        have b0 := reg hx (hb k b[k] (by simp [hltb]))
        clear ha hb pa pb
        by_cases hs : a[k] = b[k]
        · have ht := str_eqn hs
          have HS := Lib.hid hs; clear hs
          go_wp2_with fail
          refine wp_region_quiet_below (by kernel_rfl) (by kernel_rfl) ?_
          repeat (quiet_step (fail))
          refine wpQuiet_nil ?_
          clear a0 b0
          intro _ hw'
          obtain ⟨pw, hw''⟩ := hw'
          subst hw''
          go_wp2
          go_roundw
          case rel => exact ⟨k + 1, by omega, by go_num, hx.trans (regx _ _), fun j hj => by
            by_cases h : j < k
            · exact heq.out j h
            · obtain rfl : j = k := by omega
              simp [hlt, hltb, HS.out]⟩
          case measure => simp [intOf]; omega
        · have ht := str_nen hs
          have HS := Lib.hid hs; clear hs
          go_wp2_with fail
          refine wp_region_quiet_below (by kernel_rfl) (by kernel_rfl) ?_
          repeat (quiet_step (fail))
          refine wpQuiet_nil ?_
          clear a0 b0
          intro _ hw'
          obtain ⟨pw, hw''⟩ := hw'
          subst hw''
          go_wp2
          go_ret
          exact ⟨ret_ff fun h => HS.out (by subst h; rfl), hx.trans (regx _ _)⟩
      · go_wp2
        go_ret
        have hl := HL.out
        obtain rfl : k = a.length := by omega
        refine ⟨ret_tt ?_, hx⟩
        exact List.ext_getElem? fun j => by
          by_cases hj : j < a.length
          · exact heq.out j hj
          · simp [List.getElem?_eq_none_iff.2 (show a.length ≤ j by omega), List.getElem?_eq_none_iff.2 (show b.length ≤ j by omega)]
  · have hne : ((a.length : Int) != (b.length : Int)) = true := by simp; omega
    have HL := Lib.hid hlen; clear hlen
    go_wp2
    go_ret
    exact ⟨ret_ff fun h => HL.out (by rw [h]), Ext.refl _⟩


end Go.Proofs.YticdmbmjlaomiaaGreatDoor
