/-
  CONTRACT: the reference's EqualCodes.
  Conditions: those that each lemma states.
-/
import Derived.Test.YtmclpkihiomlmaaRows
import Derived.Test.YtmclpkihiomlmaaFnEq
namespace Go.Proofs.Ytmclpkihiomlmaa
open Go.RowKit
set_option linter.unusedSimpArgs false
set_option linter.unusedVariables false

set_option maxHeartbeats 1000000 in
theorem spec_EqualCodes_any (x y : MCode) (cx cy : List Value) (w : World) (rx : Rep w x.d cx) (ry : Rep w y.d cy) :
    Calls Try.prog 31 #[.agg cx.toArray, .agg cy.toArray] w fun e w' => e = .returned (.bool (eqB x y)) ∧ Ext w w' := by
  obtain ⟨ax, cpx, rfl, sx⟩ := MCode.op_en rx
  obtain ⟨ay, cpy, rfl, sy⟩ := MCode.op_en ry
  clear rx ry
  obtain ⟨x1, x2, x3, a⟩ := x
  obtain ⟨y1, y2, y3, b⟩ := y
  dsimp only at sx sy
  obtain ⟨ao, ca, ba, oa, h1, hla, hma, pa, ha⟩ := Rep.slmap sx
  obtain ⟨bo, cb, bb, ob, h2, hlb, hmb, pb, hb⟩ := Rep.slmap sy
  simp only [List.cons.injEq, and_true, Value.slice.injEq] at h1 h2
  obtain ⟨rfl, -, rfl⟩ := h1
  obtain ⟨rfl, -, rfl⟩ := h2
  clear sx sy
  unfold maxLen at hma hmb
  go_enter Try.func31, Try.ntmps31
  by_cases h : x1 = y1
  rotate_left
  · have t := bool_nen h
    have H := Lib.hid h; clear h
    go_wp2_with fail
    go_ret
    exact ⟨ret_ff fun e => H.out (by injection e), ((Ext.refl w).alloc _).alloc _⟩
  have t1 := bool_eqn h
  have H1 := Lib.hid h; clear h
  by_cases h : x2 = y2
  rotate_left
  · have t := int_nen h
    have H := Lib.hid h; clear h
    go_wp2_with fail
    go_ret
    exact ⟨ret_ff fun e => H.out (by injection e), ((Ext.refl w).alloc _).alloc _⟩
  have t2 := int_eqn h
  have H2 := Lib.hid h; clear h
  by_cases h : x3 = y3
  rotate_left
  · have t := int_nen h
    have H := Lib.hid h; clear h
    go_wp2_with fail
    go_ret
    exact ⟨ret_ff fun e => H.out (by injection e), ((Ext.refl w).alloc _).alloc _⟩
  have t3 := int_eqn h
  have H3 := Lib.hid h; clear h
  by_cases h : a.length = b.length
  rotate_left
  · have t : ((a.length : Int) != (b.length : Int)) = true := by simp; omega
    have H := Lib.hid h; clear h
    go_wp2_with fail
    go_ret
    exact ⟨ret_ff fun e => H.out (by injection e with _ _ _ e; rw [e]), ((Ext.refl w).alloc _).alloc _⟩
  have t4 : ((a.length : Int) != (b.length : Int)) = false := by simp [h]
  have HL := Lib.hid h; clear h
  go_wp2_with fail
  go_loopw [5] (fun i wr => ∃ k : Nat, k ≤ a.length ∧ i = .int .i64 k ∧ Ext w wr ∧ wr.cell? ⟨w.heap.size, 3, none⟩ = some (.slice ax a.length cpx) ∧ wr.cell? ⟨w.heap.size + 1, 3, none⟩ = some (.slice ay b.length cpy) ∧ Hid (∀ j, j < k → a[j]? = b[j]?)) (fun i _ => a.length - (intOf i).toNat)
  case atStart => exact ⟨0, Nat.zero_le _, rfl, ((Ext.refl w).alloc _).alloc _, by simp, by simp, fun j hj => by omega⟩
  case round =>
    obtain ⟨k, hk, rfl, hx, m0, m1, heq⟩ := hrel
    by_cases hlt : k < a.length
    · have hltb : k < b.length := by have := HL.out; omega
      obtain rfl := pa (by omega)
      obtain rfl := pb (by omega)
      obtain ⟨ea, la, c1, ra⟩ := ha k a[k] (by simp [hlt])
      obtain rfl := MInstr.op_en ra
      obtain ⟨eb, lb, c2, rb⟩ := hb k b[k] (by simp [hltb])
      obtain rfl := MInstr.op_en rb
      have a0 := reg hx (show w.cell? ⟨ba, oa + k * 4, none⟩ = some _ from c1 0 (by omega))
      have a1 := reg hx (show w.cell? ⟨ba, oa + k * 4 + 1, none⟩ = some _ from c1 1 (by omega))
      have a2 := reg hx (show w.cell? ⟨ba, oa + k * 4 + 2, none⟩ = some _ from c1 2 (by omega))
      have a3 := reg hx (show w.cell? ⟨ba, oa + k * 4 + 3, none⟩ = some _ from c1 3 (by omega))
      have b0 := reg hx (show w.cell? ⟨bb, ob + k * 4, none⟩ = some _ from c2 0 (by omega))
      have b1 := reg hx (show w.cell? ⟨bb, ob + k * 4 + 1, none⟩ = some _ from c2 1 (by omega))
      have b2 := reg hx (show w.cell? ⟨bb, ob + k * 4 + 2, none⟩ = some _ from c2 2 (by omega))
      have b3 := reg hx (show w.cell? ⟨bb, ob + k * 4 + 3, none⟩ = some _ from c2 3 (by omega))
      have g0 := reg (Ext.refl _) m0
      have g1 := reg (Ext.refl _) m1
      clear c1 la c2 lb ha hb pa pb ra rb
      have hneq := neq_Instr a[k] b[k]
      by_cases hs : a[k] = b[k]
      · have ht := eqB_tt hs
        have HS := Lib.hid hs; clear hs
        go_wp2_with fail
        refine wp_region_quiet_below (by kernel_rfl) (by kernel_rfl) ?_
        repeat (quiet_step (fail))
        refine wpQuiet_nil ?_
        clear a0 a1 a2 a3 b0 b1 b2 b3 hneq
        intro _ hw'
        obtain ⟨pw, hw''⟩ := hw'
        subst hw''
        go_wp2
        go_roundw
        case rel => exact ⟨k + 1, by omega, by go_num, hx.trans (regx _ _), g0 _ _, g1 _ _, fun j hj => by
          by_cases h : j < k
          · exact heq.out j h
          · obtain rfl : j = k := by omega
            simp [hlt, hltb, HS.out]⟩
        case measure => simp [intOf]; omega
      · have ht := eqB_ff hs
        have HS := Lib.hid hs; clear hs
        go_wp2_with fail
        refine wp_region_quiet_below (by kernel_rfl) (by kernel_rfl) ?_
        repeat (quiet_step (fail))
        refine wpQuiet_nil ?_
        clear a0 a1 a2 a3 b0 b1 b2 b3 hneq
        intro _ hw'
        obtain ⟨pw, hw''⟩ := hw'
        subst hw''
        go_wp2
        go_ret
        exact ⟨ret_ff fun h => HS.out (by injection h with _ _ _ h; subst h; rfl), hx.trans (regx _ _)⟩
    · go_wp2
      go_ret
      have hl := HL.out
      obtain rfl : k = a.length := by omega
      refine ⟨ret_tt ?_, hx⟩
      have : a = b := List.ext_getElem? fun j => by
        by_cases hj : j < a.length
        · exact heq.out j hj
        · simp [List.getElem?_eq_none_iff.2 (show a.length ≤ j by omega), List.getElem?_eq_none_iff.2 (show b.length ≤ j by omega)]
      rw [H1.out, H2.out, H3.out, this]

end Go.Proofs.Ytmclpkihiomlmaa
