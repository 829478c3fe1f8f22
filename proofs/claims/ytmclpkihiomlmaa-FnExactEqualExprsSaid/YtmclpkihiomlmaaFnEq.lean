/-
  CONTRACTS: slices.Equal, EqualOutcomes, EqualCodes, of the program and of the reference.
  Conditions: those that each lemma states.
-/
import Derived.Test.YtmclpkihiomlmaaRows
import Derived.Test.YtmclpkihiomlmaaTypes
namespace Go.Proofs.Ytmclpkihiomlmaa
open Go.RowKit
set_option linter.unusedSimpArgs false
set_option linter.unusedVariables false


set_option maxHeartbeats 400000 in
theorem l3Texts_any (a b : List ByteArray) (va vb : Value) (w : World) (ra : Rep w (strs a) [va]) (rb : Rep w (strs b) [vb]) :
    Calls Try.prog 59 #[va, vb] w fun e w' => e = .returned (.bool (eqB a b)) ∧ Ext w w' := by
  obtain ⟨ao, ca, ba, oa, h1, hla, hma, pa, ha⟩ := Rep.strs ra
  obtain ⟨bo, cb, bb, ob, h2, hlb, hmb, pb, hb⟩ := Rep.strs rb
  simp only [List.cons.injEq, and_true] at h1 h2
  subst h1 h2
  clear ra rb
  unfold maxLen at hma hmb
  go_enter Try.func59, Try.ntmps59
  by_cases hlen : a.length = b.length
  · have hne : ((a.length : Int) != (b.length : Int)) = false := by simp [hlen]
    have HL := Lib.hid hlen; clear hlen
    go_wp2
    go_loopw [5] (fun i wr => ∃ k : Nat, k ≤ a.length ∧ i = .int .i64 k ∧ Ext w wr ∧ Hid (∀ j, j < k → a[j]? = b[j]?)) (fun i _ => a.length - (intOf i).toNat)
    case atStart => exact ⟨0, Nat.zero_le _, rfl, Ext.refl _, fun j hj => by omega⟩
    case round =>
      obtain ⟨k, hk, rfl, hx, heq⟩ := hrel
      by_cases hlt : k < a.length
      · have hltb : k < b.length := by have := HL.out; omega
        obtain rfl := pa (by omega)
        obtain rfl := pb (by omega)
        have a0 := reg hx (ha k a[k] (by simp [hlt]))
        have b0 := reg hx (hb k b[k] (by simp [hltb]))
        clear ha hb pa pb
        by_cases hs : a[k] = b[k]
        · have ht := str_eqn hs
          have HS := Lib.hid hs; clear hs
          go_wp2_with fail
          refine wp_region_quiet_below (by kernel_rfl) (by kernel_rfl) ?_
          repeat (quiet_step (fail))
          refine wpQuiet_nil ?_
          clear a0 b0
          intro _ hw'
          obtain ⟨pw, hw''⟩ := hw'
          subst hw''
          go_wp2
          go_roundw
          case rel => exact ⟨k + 1, by omega, by go_num, hx.trans (regx _ _), fun j hj => by
            by_cases h : j < k
            · exact heq.out j h
            · obtain rfl : j = k := by omega
              simp [hlt, hltb, HS.out]⟩
          case measure => simp [intOf]; omega
        · have ht := str_nen hs
          have HS := Lib.hid hs; clear hs
          go_wp2_with fail
          refine wp_region_quiet_below (by kernel_rfl) (by kernel_rfl) ?_
          repeat (quiet_step (fail))
          refine wpQuiet_nil ?_
          clear a0 b0
          intro _ hw'
          obtain ⟨pw, hw''⟩ := hw'
          subst hw''
          go_wp2
          go_ret
          exact ⟨ret_ff fun h => HS.out (by subst h; rfl), hx.trans (regx _ _)⟩
      · go_wp2
        go_ret
        have hl := HL.out
        obtain rfl : k = a.length := by omega
        refine ⟨ret_tt ?_, hx⟩
        exact List.ext_getElem? fun j => by
          by_cases hj : j < a.length
          · exact heq.out j hj
          · simp [List.getElem?_eq_none_iff.2 (show a.length ≤ j by omega), List.getElem?_eq_none_iff.2 (show b.length ≤ j by omega)]
  · have hne : ((a.length : Int) != (b.length : Int)) = true := by simp; omega
    have HL := Lib.hid hlen; clear hlen
    go_wp2
    go_ret
    exact ⟨ret_ff fun h => HL.out (by rw [h]), Ext.refl _⟩

set_option maxHeartbeats 400000 in
theorem slEqStr_any (a b : List ByteArray) (va vb : Value) (w : World) (ra : Rep w (strs a) [va]) (rb : Rep w (strs b) [vb]) :
    Calls Try.prog 60 #[va, vb] w fun e w' => e = .returned (.bool (eqB a b)) ∧ Ext w w' := by
  obtain ⟨ao, ca, ba, oa, h1, hla, hma, pa, ha⟩ := Rep.strs ra
  obtain ⟨bo, cb, bb, ob, h2, hlb, hmb, pb, hb⟩ := Rep.strs rb
  simp only [List.cons.injEq, and_true] at h1 h2
  subst h1 h2
  clear ra rb
  unfold maxLen at hma hmb
  go_enter Try.func60, Try.ntmps60
  by_cases hlen : a.length = b.length
  · have hne : ((a.length : Int) != (b.length : Int)) = false := by simp [hlen]
    have HL := Lib.hid hlen; clear hlen
    go_wp2
    go_loopw [13] (fun i wr => ∃ k : Nat, k ≤ a.length ∧ i = .int .i64 k ∧ Ext w wr ∧ Hid (∀ j, j < k → a[j]? = b[j]?)) (fun i _ => a.length - (intOf i).toNat)
    case atStart => exact ⟨0, Nat.zero_le _, rfl, Ext.refl _, fun j hj => by omega⟩
    case round =>
      obtain ⟨k, hk, rfl, hx, heq⟩ := hrel
      by_cases hlt : k < a.length
      · have hltb : k < b.length := by have := HL.out; omega
        obtain rfl := pa (by omega)
        obtain rfl := pb (by omega)
        have a0 := reg hx (ha k a[k] (by simp [hlt]))
        have b0 := reg hx (hb k b[k] (by simp [hltb]))
        clear ha hb pa pb
        by_cases hs : a[k] = b[k]
        · have ht := str_eqn hs
          have HS := Lib.hid hs; clear hs
          go_wp2_with fail
          refine wp_region_quiet_below (by kernel_rfl) (by kernel_rfl) ?_
          repeat (quiet_step (fail))
          refine wpQuiet_nil ?_
          clear a0 b0
          intro _ hw'
          obtain ⟨pw, hw''⟩ := hw'
          subst hw''
          go_wp2
          go_roundw
          case rel => exact ⟨k + 1, by omega, by go_num, hx.trans (regx _ _), fun j hj => by
            by_cases h : j < k
            · exact heq.out j h
            · obtain rfl : j = k := by omega
              simp [hlt, hltb, HS.out]⟩
          case measure => simp [intOf]; omega
        · have ht := str_nen hs
          have HS := Lib.hid hs; clear hs
          go_wp2_with fail
          refine wp_region_quiet_below (by kernel_rfl) (by kernel_rfl) ?_
          repeat (quiet_step (fail))
          refine wpQuiet_nil ?_
          clear a0 b0
          intro _ hw'
          obtain ⟨pw, hw''⟩ := hw'
          subst hw''
          go_wp2
          go_ret
          exact ⟨ret_ff fun h => HS.out (by subst h; rfl), hx.trans (regx _ _)⟩
      · go_wp2
        go_ret
        have hl := HL.out
        obtain rfl : k = a.length := by omega
        refine ⟨ret_tt ?_, hx⟩
        exact List.ext_getElem? fun j => by
          by_cases hj : j < a.length
          · exact heq.out j hj
          · simp [List.getElem?_eq_none_iff.2 (show a.length ≤ j by omega), List.getElem?_eq_none_iff.2 (show b.length ≤ j by omega)]
  · have hne : ((a.length : Int) != (b.length : Int)) = true := by simp; omega
    have HL := Lib.hid hlen; clear hlen
    go_wp2
    go_ret
    exact ⟨ret_ff fun h => HL.out (by rw [h]), Ext.refl _⟩

theorem neq_Instr (x y : MInstr) (w : World) : (binOp .neq 78 (.agg #[.int .i64 x.op, .int .i64 x.a, .int .i64 x.b, .string x.text]) (.agg #[.int .i64 y.op, .int .i64 y.a, .int .i64 y.b, .string y.text])).run Try.prog w = .ok (.bool (!eqB x y)) w := by
  obtain ⟨x0, x1, x2, x3⟩ := x
  obtain ⟨y0, y1, y2, y3⟩ := y
  have e : eqB (MInstr.mk x0 x1 x2 x3) (MInstr.mk y0 y1 y2 y3) = ((x0 == y0) && ((x1 == y1) && ((x2 == y2) && (x3.toList == y3.toList)))) := by
    rw [Bool.eq_iff_iff, eqB_iff]
    simp only [MInstr.mk.injEq, Bool.and_eq_true, beq_iff_eq]
    constructor
    · rintro ⟨rfl, rfl, rfl, rfl⟩; simp
    · rintro ⟨h0, h1, h2, h3⟩; exact ⟨h0, h1, h2, toList_inj h3⟩
  rw [e]
  go_simp
  by_cases h0 : x0 = y0 <;> by_cases h1 : x1 = y1 <;> by_cases h2 : x2 = y2 <;> by_cases h3 : x3.toList = y3.toList <;> simp [*]

set_option maxHeartbeats 400000 in
theorem slEqInstr_any (a b : List MInstr) (va vb : Value) (w : World) (ra : Rep w (MInstrs a) [va]) (rb : Rep w (MInstrs b) [vb]) :
    Calls Try.prog 63 #[va, vb] w fun e w' => e = .returned (.bool (eqB a b)) ∧ Ext w w' := by
  obtain ⟨ao, ca, ba, oa, h1, hla, hma, pa, ha⟩ := Rep.slmap ra
  obtain ⟨bo, cb, bb, ob, h2, hlb, hmb, pb, hb⟩ := Rep.slmap rb
  simp only [List.cons.injEq, and_true] at h1 h2
  subst h1 h2
  clear ra rb
  unfold maxLen at hma hmb
  go_enter Try.func63, Try.ntmps63
  by_cases hlen : a.length = b.length
  · have hne : ((a.length : Int) != (b.length : Int)) = false := by simp [hlen]
    have HL := Lib.hid hlen; clear hlen
    go_wp2
    go_loopw [13] (fun i wr => ∃ k : Nat, k ≤ a.length ∧ i = .int .i64 k ∧ Ext w wr ∧ Hid (∀ j, j < k → a[j]? = b[j]?)) (fun i _ => a.length - (intOf i).toNat)
    case atStart => exact ⟨0, Nat.zero_le _, rfl, Ext.refl _, fun j hj => by omega⟩
    case round =>
      obtain ⟨k, hk, rfl, hx, heq⟩ := hrel
      by_cases hlt : k < a.length
      · have hltb : k < b.length := by have := HL.out; omega
        obtain rfl := pa (by omega)
        obtain rfl := pb (by omega)
        obtain ⟨ea, la, ca, ra⟩ := ha k a[k] (by simp [hlt])
        obtain rfl := MInstr.op_en ra
        have a0 := reg hx (show w.cell? ⟨ba, oa + k * 4, none⟩ = some _ from ca 0 (by omega))
        have a1 := reg hx (show w.cell? ⟨ba, oa + k * 4 + 1, none⟩ = some _ from ca 1 (by omega))
        have a2 := reg hx (show w.cell? ⟨ba, oa + k * 4 + 2, none⟩ = some _ from ca 2 (by omega))
        have a3 := reg hx (show w.cell? ⟨ba, oa + k * 4 + 3, none⟩ = some _ from ca 3 (by omega))
        clear ca la
        obtain ⟨eb, lb, cb, rb⟩ := hb k b[k] (by simp [hltb])
        obtain rfl := MInstr.op_en rb
        have b0 := reg hx (show w.cell? ⟨bb, ob + k * 4, none⟩ = some _ from cb 0 (by omega))
        have b1 := reg hx (show w.cell? ⟨bb, ob + k * 4 + 1, none⟩ = some _ from cb 1 (by omega))
        have b2 := reg hx (show w.cell? ⟨bb, ob + k * 4 + 2, none⟩ = some _ from cb 2 (by omega))
        have b3 := reg hx (show w.cell? ⟨bb, ob + k * 4 + 3, none⟩ = some _ from cb 3 (by omega))
        clear cb lb
        clear ha hb pa pb
        have hneq := neq_Instr a[k] b[k]
        by_cases hs : a[k] = b[k]
        · have ht := eqB_tt hs
          have HS := Lib.hid hs; clear hs
          go_wp2_with fail
          refine wp_region_quiet_below (by kernel_rfl) (by kernel_rfl) ?_
          repeat (quiet_step (fail))
          refine wpQuiet_nil ?_
          clear a0 a1 a2 a3 b0 b1 b2 b3 hneq
          intro _ hw'
          obtain ⟨pw, hw''⟩ := hw'
          subst hw''
          go_wp2
          go_roundw
          case rel => exact ⟨k + 1, by omega, by go_num, hx.trans (regx _ _), fun j hj => by
            by_cases h : j < k
            · exact heq.out j h
            · obtain rfl : j = k := by omega
              simp [hlt, hltb, HS.out]⟩
          case measure => simp [intOf]; omega
        · have ht := eqB_ff hs
          have HS := Lib.hid hs; clear hs
          go_wp2_with fail
          refine wp_region_quiet_below (by kernel_rfl) (by kernel_rfl) ?_
          repeat (quiet_step (fail))
          refine wpQuiet_nil ?_
          clear a0 a1 a2 a3 b0 b1 b2 b3 hneq
          intro _ hw'
          obtain ⟨pw, hw''⟩ := hw'
          subst hw''
          go_wp2
          go_ret
          exact ⟨ret_ff fun h => HS.out (by subst h; rfl), hx.trans (regx _ _)⟩
      · go_wp2
        go_ret
        have hl := HL.out
        obtain rfl : k = a.length := by omega
        refine ⟨ret_tt ?_, hx⟩
        exact List.ext_getElem? fun j => by
          by_cases hj : j < a.length
          · exact heq.out j hj
          · simp [List.getElem?_eq_none_iff.2 (show a.length ≤ j by omega), List.getElem?_eq_none_iff.2 (show b.length ≤ j by omega)]
  · have hne : ((a.length : Int) != (b.length : Int)) = true := by simp; omega
    have HL := Lib.hid hlen; clear hlen
    go_wp2
    go_ret
    exact ⟨ret_ff fun h => HL.out (by rw [h]), Ext.refl _⟩

set_option maxHeartbeats 400000 in
theorem spec_EqualOutcomes_any (x y : MOutcome) (cx cy : List Value) (w : World) (rx : Rep w x.d cx) (ry : Rep w y.d cy) :
    Calls Try.prog 26 #[.agg cx.toArray, .agg cy.toArray] w fun e w' => e = .returned (.bool (eqB x y)) ∧ Ext w w' := by
  obtain ⟨a_x_output, c_x_output, rfl, r_x_output⟩ := MOutcome.op_en rx
  obtain ⟨a_y_output, c_y_output, rfl, r_y_output⟩ := MOutcome.op_en ry
  clear rx ry
  go_enter Try.func26, Try.ntmps26
  by_cases h : x.status = y.status
  rotate_left
  · have t_status := int_ne h
    have H := Lib.hid h; clear h
    go_wp2_with fail
    go_ret
    exact ⟨ret_ff fun e => H.out (by rw [e]), ((Ext.refl w).alloc _).alloc _⟩
  have t_status := int_eq h
  have H_status := Lib.hid h; clear h
  by_cases h : x.value = y.value
  rotate_left
  · have t_value := str_ne h
    have H := Lib.hid h; clear h
    go_wp2_with fail
    go_ret
    exact ⟨ret_ff fun e => H.out (by rw [e]), ((Ext.refl w).alloc _).alloc _⟩
  have t_value := str_eq h
  have H_value := Lib.hid h; clear h
  by_cases h : x.fault = y.fault
  rotate_left
  · have t_fault := str_ne h
    have H := Lib.hid h; clear h
    go_wp2_with fail
    go_ret
    exact ⟨ret_ff fun e => H.out (by rw [e]), ((Ext.refl w).alloc _).alloc _⟩
  have t_fault := str_eq h
  have H_fault := Lib.hid h; clear h
  by_cases h : x.ticks = y.ticks
  rotate_left
  · have t_ticks := int_ne h
    have H := Lib.hid h; clear h
    go_wp2_with fail
    go_ret
    exact ⟨ret_ff fun e => H.out (by rw [e]), ((Ext.refl w).alloc _).alloc _⟩
  have t_ticks := int_eq h
  have H_ticks := Lib.hid h; clear h
  by_cases h : x.output = y.output
  rotate_left
  · have t_output := eqB_ff h
    have H := Lib.hid h; clear h
    go_wp2_with fail
    refine (l3Texts_any _ _ _ _ _ (Rep.ext (((Ext.refl w).alloc _).alloc _) r_x_output) (Rep.ext (((Ext.refl w).alloc _).alloc _) r_y_output)).mono ?_
    rintro e w1 ⟨rfl, hx1⟩
    obtain ⟨hc1, hf1⟩ := bcell hx1
    have hz1 : w.heap.size < w1.heap.size ∧ w.heap.size + 1 < w1.heap.size := by have := hx1.size; simp only [World.size_alloc] at this; omega
    obtain ⟨hy1, hz1⟩ := hz1
    go_wp2_with fail
    go_ret
    exact ⟨ret_ff fun e => H.out (by rw [e]), (((Ext.refl w).alloc _).alloc _).trans hx1⟩
  have t_output := eqB_tt h
  have H_output := Lib.hid h; clear h
  go_wp2_with fail
  refine (l3Texts_any _ _ _ _ _ (Rep.ext (((Ext.refl w).alloc _).alloc _) r_x_output) (Rep.ext (((Ext.refl w).alloc _).alloc _) r_y_output)).mono ?_
  rintro e w1 ⟨rfl, hx1⟩
  obtain ⟨hc1, hf1⟩ := bcell hx1
  have hz1 : w.heap.size < w1.heap.size ∧ w.heap.size + 1 < w1.heap.size := by have := hx1.size; simp only [World.size_alloc] at this; omega
  obtain ⟨hy1, hz1⟩ := hz1
  go_wp2_with fail
  go_ret
  refine ⟨ret_tt ?_, (((Ext.refl w).alloc _).alloc _).trans hx1⟩
  cases x; cases y
  simp only [MOutcome.mk.injEq]
  exact ⟨H_status.out, H_value.out, H_fault.out, H_output.out, H_ticks.out⟩

set_option maxHeartbeats 400000 in
theorem impl_EqualOutcomes_any (x y : MOutcome) (cx cy : List Value) (w : World) (rx : Rep w x.d cx) (ry : Rep w y.d cy) :
    Calls Try.prog 28 #[.agg cx.toArray, .agg cy.toArray] w fun e w' => e = .returned (.bool (eqB x y)) ∧ Ext w w' := by
  obtain ⟨a_x_output, c_x_output, rfl, r_x_output⟩ := MOutcome.op_en rx
  obtain ⟨a_y_output, c_y_output, rfl, r_y_output⟩ := MOutcome.op_en ry
  clear rx ry
  go_enter Try.func28, Try.ntmps28
  by_cases h : x.status = y.status
  rotate_left
  · have t_status := int_ne h
    have H := Lib.hid h; clear h
    go_wp2_with fail
    go_ret
    exact ⟨ret_ff fun e => H.out (by rw [e]), ((Ext.refl w).alloc _).alloc _⟩
  have t_status := int_eq h
  have H_status := Lib.hid h; clear h
  by_cases h : x.value = y.value
  rotate_left
  · have t_value := str_ne h
    have H := Lib.hid h; clear h
    go_wp2_with fail
    go_ret
    exact ⟨ret_ff fun e => H.out (by rw [e]), ((Ext.refl w).alloc _).alloc _⟩
  have t_value := str_eq h
  have H_value := Lib.hid h; clear h
  by_cases h : x.fault = y.fault
  rotate_left
  · have t_fault := str_ne h
    have H := Lib.hid h; clear h
    go_wp2_with fail
    go_ret
    exact ⟨ret_ff fun e => H.out (by rw [e]), ((Ext.refl w).alloc _).alloc _⟩
  have t_fault := str_eq h
  have H_fault := Lib.hid h; clear h
  by_cases h : x.output = y.output
  rotate_left
  · have t_output := eqB_ff h
    have H := Lib.hid h; clear h
    go_wp2_with fail
    refine (slEqStr_any _ _ _ _ _ (Rep.ext (((Ext.refl w).alloc _).alloc _) r_x_output) (Rep.ext (((Ext.refl w).alloc _).alloc _) r_y_output)).mono ?_
    rintro e w1 ⟨rfl, hx1⟩
    obtain ⟨hc1, hf1⟩ := bcell hx1
    have hz1 : w.heap.size < w1.heap.size ∧ w.heap.size + 1 < w1.heap.size := by have := hx1.size; simp only [World.size_alloc] at this; omega
    obtain ⟨hy1, hz1⟩ := hz1
    go_wp2_with fail
    go_ret
    exact ⟨ret_ff fun e => H.out (by rw [e]), (((Ext.refl w).alloc _).alloc _).trans hx1⟩
  have t_output := eqB_tt h
  have H_output := Lib.hid h; clear h
  by_cases h : x.ticks = y.ticks
  rotate_left
  · have t_ticks := int_ne h
    have H := Lib.hid h; clear h
    go_wp2_with fail
    refine (slEqStr_any _ _ _ _ _ (Rep.ext (((Ext.refl w).alloc _).alloc _) r_x_output) (Rep.ext (((Ext.refl w).alloc _).alloc _) r_y_output)).mono ?_
    rintro e w1 ⟨rfl, hx1⟩
    obtain ⟨hc1, hf1⟩ := bcell hx1
    have hz1 : w.heap.size < w1.heap.size ∧ w.heap.size + 1 < w1.heap.size := by have := hx1.size; simp only [World.size_alloc] at this; omega
    obtain ⟨hy1, hz1⟩ := hz1
    go_wp2_with fail
    go_ret
    exact ⟨ret_ff fun e => H.out (by rw [e]), (((Ext.refl w).alloc _).alloc _).trans hx1⟩
  have t_ticks := int_eq h
  have H_ticks := Lib.hid h; clear h
  go_wp2_with fail
  refine (slEqStr_any _ _ _ _ _ (Rep.ext (((Ext.refl w).alloc _).alloc _) r_x_output) (Rep.ext (((Ext.refl w).alloc _).alloc _) r_y_output)).mono ?_
  rintro e w1 ⟨rfl, hx1⟩
  obtain ⟨hc1, hf1⟩ := bcell hx1
  have hz1 : w.heap.size < w1.heap.size ∧ w.heap.size + 1 < w1.heap.size := by have := hx1.size; simp only [World.size_alloc] at this; omega
  obtain ⟨hy1, hz1⟩ := hz1
  go_wp2_with fail
  go_ret
  refine ⟨ret_tt ?_, (((Ext.refl w).alloc _).alloc _).trans hx1⟩
  cases x; cases y
  simp only [MOutcome.mk.injEq]
  exact ⟨H_status.out, H_value.out, H_fault.out, H_output.out, H_ticks.out⟩

set_option maxHeartbeats 400000 in
theorem impl_EqualCodes_any (x y : MCode) (cx cy : List Value) (w : World) (rx : Rep w x.d cx) (ry : Rep w y.d cy) :
    Calls Try.prog 33 #[.agg cx.toArray, .agg cy.toArray] w fun e w' => e = .returned (.bool (eqB x y)) ∧ Ext w w' := by
  obtain ⟨a_x_instrs, c_x_instrs, rfl, r_x_instrs⟩ := MCode.op_en rx
  obtain ⟨a_y_instrs, c_y_instrs, rfl, r_y_instrs⟩ := MCode.op_en ry
  clear rx ry
  go_enter Try.func33, Try.ntmps33
  by_cases h : x.block = y.block
  rotate_left
  · have t_block := bool_ne h
    have H := Lib.hid h; clear h
    go_wp2_with fail
    go_ret
    exact ⟨ret_ff fun e => H.out (by rw [e]), ((Ext.refl w).alloc _).alloc _⟩
  have t_block := bool_eq h
  have H_block := Lib.hid h; clear h
  by_cases h : x.params = y.params
  rotate_left
  · have t_params := int_ne h
    have H := Lib.hid h; clear h
    go_wp2_with fail
    go_ret
    exact ⟨ret_ff fun e => H.out (by rw [e]), ((Ext.refl w).alloc _).alloc _⟩
  have t_params := int_eq h
  have H_params := Lib.hid h; clear h
  by_cases h : x.slots = y.slots
  rotate_left
  · have t_slots := int_ne h
    have H := Lib.hid h; clear h
    go_wp2_with fail
    go_ret
    exact ⟨ret_ff fun e => H.out (by rw [e]), ((Ext.refl w).alloc _).alloc _⟩
  have t_slots := int_eq h
  have H_slots := Lib.hid h; clear h
  by_cases h : x.instrs = y.instrs
  rotate_left
  · have t_instrs := eqB_ff h
    have H := Lib.hid h; clear h
    go_wp2_with fail
    refine (slEqInstr_any _ _ _ _ _ (Rep.ext (((Ext.refl w).alloc _).alloc _) r_x_instrs) (Rep.ext (((Ext.refl w).alloc _).alloc _) r_y_instrs)).mono ?_
    rintro e w1 ⟨rfl, hx1⟩
    obtain ⟨hc1, hf1⟩ := bcell hx1
    have hz1 : w.heap.size < w1.heap.size ∧ w.heap.size + 1 < w1.heap.size := by have := hx1.size; simp only [World.size_alloc] at this; omega
    obtain ⟨hy1, hz1⟩ := hz1
    go_wp2_with fail
    go_ret
    exact ⟨ret_ff fun e => H.out (by rw [e]), (((Ext.refl w).alloc _).alloc _).trans hx1⟩
  have t_instrs := eqB_tt h
  have H_instrs := Lib.hid h; clear h
  go_wp2_with fail
  refine (slEqInstr_any _ _ _ _ _ (Rep.ext (((Ext.refl w).alloc _).alloc _) r_x_instrs) (Rep.ext (((Ext.refl w).alloc _).alloc _) r_y_instrs)).mono ?_
  rintro e w1 ⟨rfl, hx1⟩
  obtain ⟨hc1, hf1⟩ := bcell hx1
  have hz1 : w.heap.size < w1.heap.size ∧ w.heap.size + 1 < w1.heap.size := by have := hx1.size; simp only [World.size_alloc] at this; omega
  obtain ⟨hy1, hz1⟩ := hz1
  go_wp2_with fail
  go_ret
  refine ⟨ret_tt ?_, (((Ext.refl w).alloc _).alloc _).trans hx1⟩
  cases x; cases y
  simp only [MCode.mk.injEq]
  exact ⟨H_block.out, H_params.out, H_slots.out, H_instrs.out⟩


end Go.Proofs.Ytmclpkihiomlmaa
