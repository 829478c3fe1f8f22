/-
  THE LAWS' EQUALITIES.
  Conditions: those that each lemma states.
-/
import Derived.Test.YticdmbmjlaomiaaGreatDoorRows
import Derived.Test.YticdmbmjlaomiaaGreatDoorTypes
namespace Go.Proofs.YticdmbmjlaomiaaGreatDoor
open Go.RowKit
set_option linter.unusedSimpArgs false
set_option linter.unusedVariables false


set_option maxHeartbeats 400000 in
theorem eqStringS_any (a b : List ByteArray) (va vb : Value) (w : World) (ra : Rep w (strs a) [va]) (rb : Rep w (strs b) [vb]) :
    Calls Tryz.prog 58 #[va, vb] w fun e w' => e = .returned (.bool (eqB a b)) ∧ Ext w w' := by
  obtain ⟨ao, ca, ba, oa, h1, hla, hma, pa, ha⟩ := Rep.strs ra
  obtain ⟨bo, cb, bb, ob, h2, hlb, hmb, pb, hb⟩ := Rep.strs rb
  simp only [List.cons.injEq, and_true] at h1 h2
  subst h1 h2
  clear ra rb
  unfold maxLen at hma hmb
  go_enter Tryz.func58, Tryz.ntmps58
  by_cases hlen : a.length = b.length
  · have hne : ((a.length : Int) != (b.length : Int)) = false := by simp [hlen]
    have HL := Lib.hid hlen; clear hlen
    go_wp2
    go_loopw [5] (fun i wr => ∃ k : Nat, k ≤ a.length ∧ i = .int .i64 k ∧ Ext w wr ∧ Hid (∀ j, j < k → a[j]? = b[j]?)) (fun i _ => a.length - (intOf i).toNat)
    case atStart => exact ⟨0, Nat.zero_le _, rfl, Ext.refl _, fun j hj => by omega⟩
    case round =>
      obtain ⟨k, hk, rfl, hx, heq⟩ := hrel
      by_cases hlt : k < a.length
      · have hltb : k < b.length := by have := HL.out; omega
        obtain rfl := pa (by omega)
        obtain rfl := pb (by omega)
        have a0 := reg hx (ha k a[k] (by simp [hlt]))
        have b0 := reg hx (hb k b[k] (by simp [hltb]))
        clear ha hb pa pb
        by_cases hs : a[k] = b[k]
        · have ht := str_eqn hs
          have HS := Lib.hid hs; clear hs
          go_wp2_with fail
          refine wp_region_quiet_below (by kernel_rfl) (by kernel_rfl) ?_
          repeat (quiet_step (fail))
          refine wpQuiet_nil ?_
          clear a0 b0
          intro _ hw'
          obtain ⟨pw, hw''⟩ := hw'
          subst hw''
          go_wp2
          go_roundw
          case rel => exact ⟨k + 1, by omega, by go_num, hx.trans (regx _ _), fun j hj => by
            by_cases h : j < k
            · exact heq.out j h
            · obtain rfl : j = k := by omega
              simp [hlt, hltb, HS.out]⟩
          case measure => simp [intOf]; omega
        · have ht := str_nen hs
          have HS := Lib.hid hs; clear hs
          go_wp2_with fail
          refine wp_region_quiet_below (by kernel_rfl) (by kernel_rfl) ?_
          repeat (quiet_step (fail))
          refine wpQuiet_nil ?_
          clear a0 b0
          intro _ hw'
          obtain ⟨pw, hw''⟩ := hw'
          subst hw''
          go_wp2
          go_ret
          exact ⟨ret_ff fun h => HS.out (by subst h; rfl), hx.trans (regx _ _)⟩
      · go_wp2
        go_ret
        have hl := HL.out
        obtain rfl : k = a.length := by omega
        refine ⟨ret_tt ?_, hx⟩
        exact List.ext_getElem? fun j => by
          by_cases hj : j < a.length
          · exact heq.out j hj
          · simp [List.getElem?_eq_none_iff.2 (show a.length ≤ j by omega), List.getElem?_eq_none_iff.2 (show b.length ≤ j by omega)]
  · have hne : ((a.length : Int) != (b.length : Int)) = true := by simp; omega
    have HL := Lib.hid hlen; clear hlen
    go_wp2
    go_ret
    exact ⟨ret_ff fun h => HL.out (by rw [h]), Ext.refl _⟩

set_option maxHeartbeats 400000 in
theorem eqIntS_any (a b : List Int) (va vb : Value) (w : World) (ra : Rep w (ints a) [va]) (rb : Rep w (ints b) [vb]) :
    Calls Tryz.prog 236 #[va, vb] w fun e w' => e = .returned (.bool (eqB a b)) ∧ Ext w w' := by
  obtain ⟨ao, ca, ba, oa, h1, hla, hma, pa, ha⟩ := Rep.ints ra
  obtain ⟨bo, cb, bb, ob, h2, hlb, hmb, pb, hb⟩ := Rep.ints rb
  simp only [List.cons.injEq, and_true] at h1 h2
  subst h1 h2
  clear ra rb
  unfold maxLen at hma hmb
  go_enter Tryz.func236, Tryz.ntmps236
  by_cases hlen : a.length = b.length
  · have hne : ((a.length : Int) != (b.length : Int)) = false := by simp [hlen]
    have HL := Lib.hid hlen; clear hlen
    go_wp2
    go_loopw [5] (fun i wr => ∃ k : Nat, k ≤ a.length ∧ i = .int .i64 k ∧ Ext w wr ∧ Hid (∀ j, j < k → a[j]? = b[j]?)) (fun i _ => a.length - (intOf i).toNat)
    case atStart => exact ⟨0, Nat.zero_le _, rfl, Ext.refl _, fun j hj => by omega⟩
    case round =>
      obtain ⟨k, hk, rfl, hx, heq⟩ := hrel
      by_cases hlt : k < a.length
      · have hltb : k < b.length := by have := HL.out; omega
        obtain rfl := pa (by omega)
        obtain rfl := pb (by omega)
        have a0 := reg hx (ha k a[k] (by simp [hlt]))
        have b0 := reg hx (hb k b[k] (by simp [hltb]))
        clear ha hb pa pb
        by_cases hs : a[k] = b[k]
        · have ht := int_eqn hs
          have HS := Lib.hid hs; clear hs
          go_wp2_with fail
          refine wp_region_quiet_below (by kernel_rfl) (by kernel_rfl) ?_
          repeat (quiet_step (fail))
          refine wpQuiet_nil ?_
          clear a0 b0
          intro _ hw'
          obtain ⟨pw, hw''⟩ := hw'
          subst hw''
          go_wp2
          go_roundw
          case rel => exact ⟨k + 1, by omega, by go_num, hx.trans (regx _ _), fun j hj => by
            by_cases h : j < k
            · exact heq.out j h
            · obtain rfl : j = k := by omega
              simp [hlt, hltb, HS.out]⟩
          case measure => simp [intOf]; omega
        · have ht := int_nen hs
          have HS := Lib.hid hs; clear hs
          go_wp2_with fail
          refine wp_region_quiet_below (by kernel_rfl) (by kernel_rfl) ?_
          repeat (quiet_step (fail))
          refine wpQuiet_nil ?_
          clear a0 b0
          intro _ hw'
          obtain ⟨pw, hw''⟩ := hw'
          subst hw''
          go_wp2
          go_ret
          exact ⟨ret_ff fun h => HS.out (by subst h; rfl), hx.trans (regx _ _)⟩
      · go_wp2
        go_ret
        have hl := HL.out
        obtain rfl : k = a.length := by omega
        refine ⟨ret_tt ?_, hx⟩
        exact List.ext_getElem? fun j => by
          by_cases hj : j < a.length
          · exact heq.out j hj
          · simp [List.getElem?_eq_none_iff.2 (show a.length ≤ j by omega), List.getElem?_eq_none_iff.2 (show b.length ≤ j by omega)]
  · have hne : ((a.length : Int) != (b.length : Int)) = true := by simp; omega
    have HL := Lib.hid hlen; clear hlen
    go_wp2
    go_ret
    exact ⟨ret_ff fun h => HL.out (by rw [h]), Ext.refl _⟩

set_option maxHeartbeats 400000 in
theorem eqExprS_of (n : Nat) (ih : Hid (∀ (x y : MExpr) (cx cy : List Value) (w : World), SizeOf.sizeOf x < n → Rep w x.d cx → Rep w y.d cy → Calls Tryz.prog 32 #[.agg cx.toArray, .agg cy.toArray] w fun e w' => e = .returned (.bool (eqB x y)) ∧ Ext w w')) (a b : List MExpr) (va vb : Value) (w : World) (hn : Hid (∀ x, x ∈ a → SizeOf.sizeOf x < n)) (ra : Rep w (MExprs a) [va]) (rb : Rep w (MExprs b) [vb]) :
    Calls Tryz.prog 102 #[va, vb] w fun e w' => e = .returned (.bool (eqB a b)) ∧ Ext w w' := by
  obtain ⟨ao, ca, ba, oa, h1, hla, hma, pa, ha⟩ := Rep.slmap ra
  obtain ⟨bo, cb, bb, ob, h2, hlb, hmb, pb, hb⟩ := Rep.slmap rb
  simp only [List.cons.injEq, and_true] at h1 h2
  subst h1 h2
  clear ra rb
  unfold maxLen at hma hmb
  go_enter Tryz.func102, Tryz.ntmps102
  by_cases hlen : a.length = b.length
  · have hne : ((a.length : Int) != (b.length : Int)) = false := by simp [hlen]
    have HL := Lib.hid hlen; clear hlen
    go_wp2
    go_loopw [5] (fun i wr => ∃ k : Nat, k ≤ a.length ∧ i = .int .i64 k ∧ Ext w wr ∧ Hid (∀ j, j < k → a[j]? = b[j]?)) (fun i _ => a.length - (intOf i).toNat)
    case atStart => exact ⟨0, Nat.zero_le _, rfl, Ext.refl _, fun j hj => by omega⟩
    case round =>
      obtain ⟨k, hk, rfl, hx, heq⟩ := hrel
      by_cases hlt : k < a.length
      · have hltb : k < b.length := by have := HL.out; omega
        obtain rfl := pa (by omega)
        obtain rfl := pb (by omega)
        obtain ⟨ea, la, ca, ra⟩ := ha k a[k] (by simp [hlt])
        obtain ⟨aa0, ca0, aa1, ca1, rfl, _, _⟩ := MExpr.op_en ra
        have a0 := reg hx (show w.cell? ⟨ba, oa + k * 5, none⟩ = some _ from ca 0 (by omega))
        have a1 := reg hx (show w.cell? ⟨ba, oa + k * 5 + 1, none⟩ = some _ from ca 1 (by omega))
        have a2 := reg hx (show w.cell? ⟨ba, oa + k * 5 + 2, none⟩ = some _ from ca 2 (by omega))
        have a3 := reg hx (show w.cell? ⟨ba, oa + k * 5 + 3, none⟩ = some _ from ca 3 (by omega))
        have a4 := reg hx (show w.cell? ⟨ba, oa + k * 5 + 4, none⟩ = some _ from ca 4 (by omega))
        clear ca la
        obtain ⟨eb, lb, cb, rb⟩ := hb k b[k] (by simp [hltb])
        obtain ⟨ab0, cb0, ab1, cb1, rfl, _, _⟩ := MExpr.op_en rb
        have b0 := reg hx (show w.cell? ⟨bb, ob + k * 5, none⟩ = some _ from cb 0 (by omega))
        have b1 := reg hx (show w.cell? ⟨bb, ob + k * 5 + 1, none⟩ = some _ from cb 1 (by omega))
        have b2 := reg hx (show w.cell? ⟨bb, ob + k * 5 + 2, none⟩ = some _ from cb 2 (by omega))
        have b3 := reg hx (show w.cell? ⟨bb, ob + k * 5 + 3, none⟩ = some _ from cb 3 (by omega))
        have b4 := reg hx (show w.cell? ⟨bb, ob + k * 5 + 4, none⟩ = some _ from cb 4 (by omega))
        clear cb lb
        clear ha hb pa pb
        by_cases hs : a[k] = b[k]
        · have ht := eqB_tt hs
          have HS := Lib.hid hs; clear hs
          go_wp2_with fail
          refine wp_region_quiet_below (by kernel_rfl) (by kernel_rfl) ?_
          repeat (quiet_step (exact Calls.regrown_of (ih.out _ _ _ _ _ (hn.out _ (List.getElem_mem hlt)) (Rep.ext (hx.trans (below_regrown _ _ _)) ra) (Rep.ext (hx.trans (below_regrown _ _ _)) rb))))
          refine wpQuiet_nil ?_
          clear a0 a1 a2 a3 a4 b0 b1 b2 b3 b4
          intro _ hw'
          obtain ⟨pw, hw''⟩ := hw'
          subst hw''
          go_wp2
          go_roundw
          case rel => exact ⟨k + 1, by omega, by go_num, hx.trans (regx _ _), fun j hj => by
            by_cases h : j < k
            · exact heq.out j h
            · obtain rfl : j = k := by omega
              simp [hlt, hltb, HS.out]⟩
          case measure => simp [intOf]; omega
        · have ht := eqB_ff hs
          have HS := Lib.hid hs; clear hs
          go_wp2_with fail
          refine wp_region_quiet_below (by kernel_rfl) (by kernel_rfl) ?_
          repeat (quiet_step (exact Calls.regrown_of (ih.out _ _ _ _ _ (hn.out _ (List.getElem_mem hlt)) (Rep.ext (hx.trans (below_regrown _ _ _)) ra) (Rep.ext (hx.trans (below_regrown _ _ _)) rb))))
          refine wpQuiet_nil ?_
          clear a0 a1 a2 a3 a4 b0 b1 b2 b3 b4
          intro _ hw'
          obtain ⟨pw, hw''⟩ := hw'
          subst hw''
          go_wp2
          go_ret
          exact ⟨ret_ff fun h => HS.out (by subst h; rfl), hx.trans (regx _ _)⟩
      · go_wp2
        go_ret
        have hl := HL.out
        obtain rfl : k = a.length := by omega
        refine ⟨ret_tt ?_, hx⟩
        exact List.ext_getElem? fun j => by
          by_cases hj : j < a.length
          · exact heq.out j hj
          · simp [List.getElem?_eq_none_iff.2 (show a.length ≤ j by omega), List.getElem?_eq_none_iff.2 (show b.length ≤ j by omega)]
  · have hne : ((a.length : Int) != (b.length : Int)) = true := by simp; omega
    have HL := Lib.hid hlen; clear hlen
    go_wp2
    go_ret
    exact ⟨ret_ff fun h => HL.out (by rw [h]), Ext.refl _⟩

set_option maxHeartbeats 400000 in
theorem eqExpr_of (n : Nat) (ih : Hid (∀ (a b : List MExpr) (va vb : Value) (w : World), (∀ x, x ∈ a → SizeOf.sizeOf x < n) → Rep w (MExprs a) [va] → Rep w (MExprs b) [vb] → Calls Tryz.prog 102 #[va, vb] w fun e w' => e = .returned (.bool (eqB a b)) ∧ Ext w w')) (x y : MExpr) (cx cy : List Value) (w : World) (hn : Hid (SizeOf.sizeOf x < n + 1)) (rx : Rep w x.d cx) (ry : Rep w y.d cy) :
    Calls Tryz.prog 32 #[.agg cx.toArray, .agg cy.toArray] w fun e w' => e = .returned (.bool (eqB x y)) ∧ Ext w w' := by
  have hk : Hid (∀ z, z ∈ x.kids → SizeOf.sizeOf z < n) := Lib.hid fun z hz => by have := MExpr.kid_lt hz; have := hn.out; omega
  obtain ⟨a_x_names, c_x_names, a_x_kids, c_x_kids, rfl, r_x_names, r_x_kids⟩ := MExpr.op_en rx
  obtain ⟨a_y_names, c_y_names, a_y_kids, c_y_kids, rfl, r_y_names, r_y_kids⟩ := MExpr.op_en ry
  clear rx ry
  go_enter Tryz.func32, Tryz.ntmps32
  by_cases h : x.kind = y.kind
  rotate_left
  · have t_kind := int_nen h
    have H := Lib.hid h; clear h
    go_wp2_with fail
    go_ret
    exact ⟨ret_ff fun e => H.out (by rw [e]), ((Ext.refl w).alloc _).alloc _⟩
  have t_kind := int_eqn h
  have H_kind := Lib.hid h; clear h
  by_cases h : x.text = y.text
  rotate_left
  · have t_text := str_nen h
    have H := Lib.hid h; clear h
    go_wp2_with fail
    go_ret
    exact ⟨ret_ff fun e => H.out (by rw [e]), ((Ext.refl w).alloc _).alloc _⟩
  have t_text := str_eqn h
  have H_text := Lib.hid h; clear h
  by_cases h : x.number = y.number
  rotate_left
  · have t_number := int_nen h
    have H := Lib.hid h; clear h
    go_wp2_with fail
    go_ret
    exact ⟨ret_ff fun e => H.out (by rw [e]), ((Ext.refl w).alloc _).alloc _⟩
  have t_number := int_eqn h
  have H_number := Lib.hid h; clear h
  by_cases h : x.names = y.names
  rotate_left
  · have t_names := eqB_ff h
    have H := Lib.hid h; clear h
    go_wp2_with fail
    refine (eqStringS_any _ _ _ _ _ (Rep.ext (((Ext.refl w).alloc _).alloc _) r_x_names) (Rep.ext (((Ext.refl w).alloc _).alloc _) r_y_names)).mono ?_
    rintro e w1 ⟨rfl, hx1⟩
    obtain ⟨hc1, hf1⟩ := bcell hx1
    have hz1 : w.heap.size < w1.heap.size ∧ w.heap.size + 1 < w1.heap.size := by have := hx1.size; simp only [World.size_alloc] at this; omega
    obtain ⟨hy1, hz1⟩ := hz1
    go_wp2_with fail
    go_ret
    exact ⟨ret_ff fun e => H.out (by rw [e]), (((Ext.refl w).alloc _).alloc _).trans hx1⟩
  have t_names := eqB_tt h
  have H_names := Lib.hid h; clear h
  by_cases h : x.kids = y.kids
  rotate_left
  · have t_kids := eqB_ff h
    have H := Lib.hid h; clear h
    go_wp2_with fail
    refine (eqStringS_any _ _ _ _ _ (Rep.ext (((Ext.refl w).alloc _).alloc _) r_x_names) (Rep.ext (((Ext.refl w).alloc _).alloc _) r_y_names)).mono ?_
    rintro e w1 ⟨rfl, hx1⟩
    obtain ⟨hc1, hf1⟩ := bcell hx1
    have hz1 : w.heap.size < w1.heap.size ∧ w.heap.size + 1 < w1.heap.size := by have := hx1.size; simp only [World.size_alloc] at this; omega
    obtain ⟨hy1, hz1⟩ := hz1
    go_wp2_with fail
    refine (ih.out _ _ _ _ _ hk.out (Rep.ext ((((Ext.refl w).alloc _).alloc _).trans hx1) r_x_kids) (Rep.ext ((((Ext.refl w).alloc _).alloc _).trans hx1) r_y_kids)).mono ?_
    rintro e w2 ⟨rfl, hx2⟩
    obtain ⟨hc2, hf2⟩ := bcell hx2
    have hz2 : w.heap.size < w2.heap.size ∧ w.heap.size + 1 < w2.heap.size := by have := hx2.size; omega
    obtain ⟨hy2, hz2⟩ := hz2
    go_wp2_with fail
    go_ret
    exact ⟨ret_ff fun e => H.out (by rw [e]), ((((Ext.refl w).alloc _).alloc _).trans hx1).trans hx2⟩
  have t_kids := eqB_tt h
  have H_kids := Lib.hid h; clear h
  go_wp2_with fail
  refine (eqStringS_any _ _ _ _ _ (Rep.ext (((Ext.refl w).alloc _).alloc _) r_x_names) (Rep.ext (((Ext.refl w).alloc _).alloc _) r_y_names)).mono ?_
  rintro e w1 ⟨rfl, hx1⟩
  obtain ⟨hc1, hf1⟩ := bcell hx1
  have hz1 : w.heap.size < w1.heap.size ∧ w.heap.size + 1 < w1.heap.size := by have := hx1.size; simp only [World.size_alloc] at this; omega
  obtain ⟨hy1, hz1⟩ := hz1
  go_wp2_with fail
  refine (ih.out _ _ _ _ _ hk.out (Rep.ext ((((Ext.refl w).alloc _).alloc _).trans hx1) r_x_kids) (Rep.ext ((((Ext.refl w).alloc _).alloc _).trans hx1) r_y_kids)).mono ?_
  rintro e w2 ⟨rfl, hx2⟩
  obtain ⟨hc2, hf2⟩ := bcell hx2
  have hz2 : w.heap.size < w2.heap.size ∧ w.heap.size + 1 < w2.heap.size := by have := hx2.size; omega
  obtain ⟨hy2, hz2⟩ := hz2
  go_wp2_with fail
  go_ret
  refine ⟨ret_tt ?_, ((((Ext.refl w).alloc _).alloc _).trans hx1).trans hx2⟩
  cases x; cases y
  simp only [MExpr.mk.injEq]
  exact ⟨H_kind.out, H_text.out, H_number.out, H_names.out, H_kids.out⟩

theorem eqExpr_lt : ∀ (n : Nat) (x y : MExpr) (cx cy : List Value) (w : World), SizeOf.sizeOf x < n → Rep w x.d cx → Rep w y.d cy →
    Calls Tryz.prog 32 #[.agg cx.toArray, .agg cy.toArray] w fun e w' => e = .returned (.bool (eqB x y)) ∧ Ext w w' := by
  intro n
  induction n with
  | zero => intro x y cx cy w h; omega
  | succ n ih => exact fun x y cx cy w h rx ry => eqExpr_of n (Lib.hid fun a b va vb w hn ra rb => eqExprS_of n (Lib.hid ih) a b va vb w (Lib.hid hn) ra rb) x y cx cy w (Lib.hid h) rx ry
theorem eqExpr_any (x y : MExpr) (cx cy : List Value) (w : World) (rx : Rep w x.d cx) (ry : Rep w y.d cy) :
    Calls Tryz.prog 32 #[.agg cx.toArray, .agg cy.toArray] w fun e w' => e = .returned (.bool (eqB x y)) ∧ Ext w w' := eqExpr_lt _ x y cx cy w (Nat.lt_succ_self _) rx ry
theorem eqExprS_any (a b : List MExpr) (va vb : Value) (w : World) (ra : Rep w (MExprs a) [va]) (rb : Rep w (MExprs b) [vb]) :
    Calls Tryz.prog 102 #[va, vb] w fun e w' => e = .returned (.bool (eqB a b)) ∧ Ext w w' :=
  eqExprS_of (SizeOf.sizeOf a) (Lib.hid fun x y cx cy w _ rx ry => eqExpr_any x y cx cy w rx ry) a b va vb w (Lib.hid fun _ hx => List.sizeOf_lt_of_mem hx) ra rb

set_option maxHeartbeats 400000 in
theorem eqMethod_any (x y : MMethod) (cx cy : List Value) (w : World) (rx : Rep w x.d cx) (ry : Rep w y.d cy) :
    Calls Tryz.prog 37 #[.agg cx.toArray, .agg cy.toArray] w fun e w' => e = .returned (.bool (eqB x y)) ∧ Ext w w' := by
  obtain ⟨a_x_params, c_x_params, a_x_temps, c_x_temps, a_x_body, c_x_body, rfl, r_x_params, r_x_temps, r_x_body⟩ := MMethod.op_en rx
  obtain ⟨a_y_params, c_y_params, a_y_temps, c_y_temps, a_y_body, c_y_body, rfl, r_y_params, r_y_temps, r_y_body⟩ := MMethod.op_en ry
  clear rx ry
  go_enter Tryz.func37, Tryz.ntmps37
  by_cases h : x.selector = y.selector
  rotate_left
  · have t_selector := str_nen h
    have H := Lib.hid h; clear h
    go_wp2_with fail
    go_ret
    exact ⟨ret_ff fun e => H.out (by rw [e]), ((Ext.refl w).alloc _).alloc _⟩
  have t_selector := str_eqn h
  have H_selector := Lib.hid h; clear h
  by_cases h : x.cls = y.cls
  rotate_left
  · have t_cls := bool_nen h
    have H := Lib.hid h; clear h
    go_wp2_with fail
    go_ret
    exact ⟨ret_ff fun e => H.out (by rw [e]), ((Ext.refl w).alloc _).alloc _⟩
  have t_cls := bool_eqn h
  have H_cls := Lib.hid h; clear h
  by_cases h : x.params = y.params
  rotate_left
  · have t_params := eqB_ff h
    have H := Lib.hid h; clear h
    go_wp2_with fail
    refine (eqStringS_any _ _ _ _ _ (Rep.ext (((Ext.refl w).alloc _).alloc _) r_x_params) (Rep.ext (((Ext.refl w).alloc _).alloc _) r_y_params)).mono ?_
    rintro e w1 ⟨rfl, hx1⟩
    obtain ⟨hc1, hf1⟩ := bcell hx1
    have hz1 : w.heap.size < w1.heap.size ∧ w.heap.size + 1 < w1.heap.size := by have := hx1.size; simp only [World.size_alloc] at this; omega
    obtain ⟨hy1, hz1⟩ := hz1
    go_wp2_with fail
    go_ret
    exact ⟨ret_ff fun e => H.out (by rw [e]), (((Ext.refl w).alloc _).alloc _).trans hx1⟩
  have t_params := eqB_tt h
  have H_params := Lib.hid h; clear h
  by_cases h : x.temps = y.temps
  rotate_left
  · have t_temps := eqB_ff h
    have H := Lib.hid h; clear h
    go_wp2_with fail
    refine (eqStringS_any _ _ _ _ _ (Rep.ext (((Ext.refl w).alloc _).alloc _) r_x_params) (Rep.ext (((Ext.refl w).alloc _).alloc _) r_y_params)).mono ?_
    rintro e w1 ⟨rfl, hx1⟩
    obtain ⟨hc1, hf1⟩ := bcell hx1
    have hz1 : w.heap.size < w1.heap.size ∧ w.heap.size + 1 < w1.heap.size := by have := hx1.size; simp only [World.size_alloc] at this; omega
    obtain ⟨hy1, hz1⟩ := hz1
    go_wp2_with fail
    refine (eqStringS_any _ _ _ _ _ (Rep.ext ((((Ext.refl w).alloc _).alloc _).trans hx1) r_x_temps) (Rep.ext ((((Ext.refl w).alloc _).alloc _).trans hx1) r_y_temps)).mono ?_
    rintro e w2 ⟨rfl, hx2⟩
    obtain ⟨hc2, hf2⟩ := bcell hx2
    have hz2 : w.heap.size < w2.heap.size ∧ w.heap.size + 1 < w2.heap.size := by have := hx2.size; omega
    obtain ⟨hy2, hz2⟩ := hz2
    go_wp2_with fail
    go_ret
    exact ⟨ret_ff fun e => H.out (by rw [e]), ((((Ext.refl w).alloc _).alloc _).trans hx1).trans hx2⟩
  have t_temps := eqB_tt h
  have H_temps := Lib.hid h; clear h
  by_cases h : x.body = y.body
  rotate_left
  · have t_body := eqB_ff h
    have H := Lib.hid h; clear h
    go_wp2_with fail
    refine (eqStringS_any _ _ _ _ _ (Rep.ext (((Ext.refl w).alloc _).alloc _) r_x_params) (Rep.ext (((Ext.refl w).alloc _).alloc _) r_y_params)).mono ?_
    rintro e w1 ⟨rfl, hx1⟩
    obtain ⟨hc1, hf1⟩ := bcell hx1
    have hz1 : w.heap.size < w1.heap.size ∧ w.heap.size + 1 < w1.heap.size := by have := hx1.size; simp only [World.size_alloc] at this; omega
    obtain ⟨hy1, hz1⟩ := hz1
    go_wp2_with fail
    refine (eqStringS_any _ _ _ _ _ (Rep.ext ((((Ext.refl w).alloc _).alloc _).trans hx1) r_x_temps) (Rep.ext ((((Ext.refl w).alloc _).alloc _).trans hx1) r_y_temps)).mono ?_
    rintro e w2 ⟨rfl, hx2⟩
    obtain ⟨hc2, hf2⟩ := bcell hx2
    have hz2 : w.heap.size < w2.heap.size ∧ w.heap.size + 1 < w2.heap.size := by have := hx2.size; omega
    obtain ⟨hy2, hz2⟩ := hz2
    go_wp2_with fail
    refine (eqExprS_any _ _ _ _ _ (Rep.ext (((((Ext.refl w).alloc _).alloc _).trans hx1).trans hx2) r_x_body) (Rep.ext (((((Ext.refl w).alloc _).alloc _).trans hx1).trans hx2) r_y_body)).mono ?_
    rintro e w3 ⟨rfl, hx3⟩
    obtain ⟨hc3, hf3⟩ := bcell hx3
    have hz3 : w.heap.size < w3.heap.size ∧ w.heap.size + 1 < w3.heap.size := by have := hx3.size; omega
    obtain ⟨hy3, hz3⟩ := hz3
    go_wp2_with fail
    go_ret
    exact ⟨ret_ff fun e => H.out (by rw [e]), (((((Ext.refl w).alloc _).alloc _).trans hx1).trans hx2).trans hx3⟩
  have t_body := eqB_tt h
  have H_body := Lib.hid h; clear h
  go_wp2_with fail
  refine (eqStringS_any _ _ _ _ _ (Rep.ext (((Ext.refl w).alloc _).alloc _) r_x_params) (Rep.ext (((Ext.refl w).alloc _).alloc _) r_y_params)).mono ?_
  rintro e w1 ⟨rfl, hx1⟩
  obtain ⟨hc1, hf1⟩ := bcell hx1
  have hz1 : w.heap.size < w1.heap.size ∧ w.heap.size + 1 < w1.heap.size := by have := hx1.size; simp only [World.size_alloc] at this; omega
  obtain ⟨hy1, hz1⟩ := hz1
  go_wp2_with fail
  refine (eqStringS_any _ _ _ _ _ (Rep.ext ((((Ext.refl w).alloc _).alloc _).trans hx1) r_x_temps) (Rep.ext ((((Ext.refl w).alloc _).alloc _).trans hx1) r_y_temps)).mono ?_
  rintro e w2 ⟨rfl, hx2⟩
  obtain ⟨hc2, hf2⟩ := bcell hx2
  have hz2 : w.heap.size < w2.heap.size ∧ w.heap.size + 1 < w2.heap.size := by have := hx2.size; omega
  obtain ⟨hy2, hz2⟩ := hz2
  go_wp2_with fail
  refine (eqExprS_any _ _ _ _ _ (Rep.ext (((((Ext.refl w).alloc _).alloc _).trans hx1).trans hx2) r_x_body) (Rep.ext (((((Ext.refl w).alloc _).alloc _).trans hx1).trans hx2) r_y_body)).mono ?_
  rintro e w3 ⟨rfl, hx3⟩
  obtain ⟨hc3, hf3⟩ := bcell hx3
  have hz3 : w.heap.size < w3.heap.size ∧ w.heap.size + 1 < w3.heap.size := by have := hx3.size; omega
  obtain ⟨hy3, hz3⟩ := hz3
  go_wp2_with fail
  go_ret
  refine ⟨ret_tt ?_, (((((Ext.refl w).alloc _).alloc _).trans hx1).trans hx2).trans hx3⟩
  cases x; cases y
  simp only [MMethod.mk.injEq]
  exact ⟨H_selector.out, H_cls.out, H_params.out, H_temps.out, H_body.out⟩

set_option maxHeartbeats 400000 in
theorem eqMethodS_any (a b : List MMethod) (va vb : Value) (w : World) (ra : Rep w (MMethods a) [va]) (rb : Rep w (MMethods b) [vb]) :
    Calls Tryz.prog 249 #[va, vb] w fun e w' => e = .returned (.bool (eqB a b)) ∧ Ext w w' := by
  obtain ⟨ao, ca, ba, oa, h1, hla, hma, pa, ha⟩ := Rep.slmap ra
  obtain ⟨bo, cb, bb, ob, h2, hlb, hmb, pb, hb⟩ := Rep.slmap rb
  simp only [List.cons.injEq, and_true] at h1 h2
  subst h1 h2
  clear ra rb
  unfold maxLen at hma hmb
  go_enter Tryz.func249, Tryz.ntmps249
  by_cases hlen : a.length = b.length
  · have hne : ((a.length : Int) != (b.length : Int)) = false := by simp [hlen]
    have HL := Lib.hid hlen; clear hlen
    go_wp2
    go_loopw [5] (fun i wr => ∃ k : Nat, k ≤ a.length ∧ i = .int .i64 k ∧ Ext w wr ∧ Hid (∀ j, j < k → a[j]? = b[j]?)) (fun i _ => a.length - (intOf i).toNat)
    case atStart => exact ⟨0, Nat.zero_le _, rfl, Ext.refl _, fun j hj => by omega⟩
    case round =>
      obtain ⟨k, hk, rfl, hx, heq⟩ := hrel
      by_cases hlt : k < a.length
      · have hltb : k < b.length := by have := HL.out; omega
        obtain rfl := pa (by omega)
        obtain rfl := pb (by omega)
        obtain ⟨ea, la, ca, ra⟩ := ha k a[k] (by simp [hlt])
        obtain ⟨aa0, ca0, aa1, ca1, aa2, ca2, rfl, _, _, _⟩ := MMethod.op_en ra
        have a0 := reg hx (show w.cell? ⟨ba, oa + k * 5, none⟩ = some _ from ca 0 (by omega))
        have a1 := reg hx (show w.cell? ⟨ba, oa + k * 5 + 1, none⟩ = some _ from ca 1 (by omega))
        have a2 := reg hx (show w.cell? ⟨ba, oa + k * 5 + 2, none⟩ = some _ from ca 2 (by omega))
        have a3 := reg hx (show w.cell? ⟨ba, oa + k * 5 + 3, none⟩ = some _ from ca 3 (by omega))
        have a4 := reg hx (show w.cell? ⟨ba, oa + k * 5 + 4, none⟩ = some _ from ca 4 (by omega))
        clear ca la
        obtain ⟨eb, lb, cb, rb⟩ := hb k b[k] (by simp [hltb])
        obtain ⟨ab0, cb0, ab1, cb1, ab2, cb2, rfl, _, _, _⟩ := MMethod.op_en rb
        have b0 := reg hx (show w.cell? ⟨bb, ob + k * 5, none⟩ = some _ from cb 0 (by omega))
        have b1 := reg hx (show w.cell? ⟨bb, ob + k * 5 + 1, none⟩ = some _ from cb 1 (by omega))
        have b2 := reg hx (show w.cell? ⟨bb, ob + k * 5 + 2, none⟩ = some _ from cb 2 (by omega))
        have b3 := reg hx (show w.cell? ⟨bb, ob + k * 5 + 3, none⟩ = some _ from cb 3 (by omega))
        have b4 := reg hx (show w.cell? ⟨bb, ob + k * 5 + 4, none⟩ = some _ from cb 4 (by omega))
        clear cb lb
        clear ha hb pa pb
        by_cases hs : a[k] = b[k]
        · have ht := eqB_tt hs
          have HS := Lib.hid hs; clear hs
          go_wp2_with fail
          refine wp_region_quiet_below (by kernel_rfl) (by kernel_rfl) ?_
          repeat (quiet_step (exact Calls.regrown_of (eqMethod_any _ _ _ _ _ (Rep.ext (hx.trans (below_regrown _ _ _)) ra) (Rep.ext (hx.trans (below_regrown _ _ _)) rb))))
          refine wpQuiet_nil ?_
          clear a0 a1 a2 a3 a4 b0 b1 b2 b3 b4
          intro _ hw'
          obtain ⟨pw, hw''⟩ := hw'
          subst hw''
          go_wp2
          go_roundw
          case rel => exact ⟨k + 1, by omega, by go_num, hx.trans (regx _ _), fun j hj => by
            by_cases h : j < k
            · exact heq.out j h
            · obtain rfl : j = k := by omega
              simp [hlt, hltb, HS.out]⟩
          case measure => simp [intOf]; omega
        · have ht := eqB_ff hs
          have HS := Lib.hid hs; clear hs
          go_wp2_with fail
          refine wp_region_quiet_below (by kernel_rfl) (by kernel_rfl) ?_
          repeat (quiet_step (exact Calls.regrown_of (eqMethod_any _ _ _ _ _ (Rep.ext (hx.trans (below_regrown _ _ _)) ra) (Rep.ext (hx.trans (below_regrown _ _ _)) rb))))
          refine wpQuiet_nil ?_
          clear a0 a1 a2 a3 a4 b0 b1 b2 b3 b4
          intro _ hw'
          obtain ⟨pw, hw''⟩ := hw'
          subst hw''
          go_wp2
          go_ret
          exact ⟨ret_ff fun h => HS.out (by subst h; rfl), hx.trans (regx _ _)⟩
      · go_wp2
        go_ret
        have hl := HL.out
        obtain rfl : k = a.length := by omega
        refine ⟨ret_tt ?_, hx⟩
        exact List.ext_getElem? fun j => by
          by_cases hj : j < a.length
          · exact heq.out j hj
          · simp [List.getElem?_eq_none_iff.2 (show a.length ≤ j by omega), List.getElem?_eq_none_iff.2 (show b.length ≤ j by omega)]
  · have hne : ((a.length : Int) != (b.length : Int)) = true := by simp; omega
    have HL := Lib.hid hlen; clear hlen
    go_wp2
    go_ret
    exact ⟨ret_ff fun h => HL.out (by rw [h]), Ext.refl _⟩

set_option maxHeartbeats 400000 in
theorem eqClassDef_any (x y : MClassDef) (cx cy : List Value) (w : World) (rx : Rep w x.d cx) (ry : Rep w y.d cy) :
    Calls Tryz.prog 169 #[.agg cx.toArray, .agg cy.toArray] w fun e w' => e = .returned (.bool (eqB x y)) ∧ Ext w w' := by
  obtain ⟨a_x_fields, c_x_fields, a_x_methods, c_x_methods, rfl, r_x_fields, r_x_methods⟩ := MClassDef.op_en rx
  obtain ⟨a_y_fields, c_y_fields, a_y_methods, c_y_methods, rfl, r_y_fields, r_y_methods⟩ := MClassDef.op_en ry
  clear rx ry
  go_enter Tryz.func169, Tryz.ntmps169
  by_cases h : x.name = y.name
  rotate_left
  · have t_name := str_nen h
    have H := Lib.hid h; clear h
    go_wp2_with fail
    go_ret
    exact ⟨ret_ff fun e => H.out (by rw [e]), ((Ext.refl w).alloc _).alloc _⟩
  have t_name := str_eqn h
  have H_name := Lib.hid h; clear h
  by_cases h : x.parent = y.parent
  rotate_left
  · have t_parent := str_nen h
    have H := Lib.hid h; clear h
    go_wp2_with fail
    go_ret
    exact ⟨ret_ff fun e => H.out (by rw [e]), ((Ext.refl w).alloc _).alloc _⟩
  have t_parent := str_eqn h
  have H_parent := Lib.hid h; clear h
  by_cases h : x.fields = y.fields
  rotate_left
  · have t_fields := eqB_ff h
    have H := Lib.hid h; clear h
    go_wp2_with fail
    refine (eqStringS_any _ _ _ _ _ (Rep.ext (((Ext.refl w).alloc _).alloc _) r_x_fields) (Rep.ext (((Ext.refl w).alloc _).alloc _) r_y_fields)).mono ?_
    rintro e w1 ⟨rfl, hx1⟩
    obtain ⟨hc1, hf1⟩ := bcell hx1
    have hz1 : w.heap.size < w1.heap.size ∧ w.heap.size + 1 < w1.heap.size := by have := hx1.size; simp only [World.size_alloc] at this; omega
    obtain ⟨hy1, hz1⟩ := hz1
    go_wp2_with fail
    go_ret
    exact ⟨ret_ff fun e => H.out (by rw [e]), (((Ext.refl w).alloc _).alloc _).trans hx1⟩
  have t_fields := eqB_tt h
  have H_fields := Lib.hid h; clear h
  by_cases h : x.methods = y.methods
  rotate_left
  · have t_methods := eqB_ff h
    have H := Lib.hid h; clear h
    go_wp2_with fail
    refine (eqStringS_any _ _ _ _ _ (Rep.ext (((Ext.refl w).alloc _).alloc _) r_x_fields) (Rep.ext (((Ext.refl w).alloc _).alloc _) r_y_fields)).mono ?_
    rintro e w1 ⟨rfl, hx1⟩
    obtain ⟨hc1, hf1⟩ := bcell hx1
    have hz1 : w.heap.size < w1.heap.size ∧ w.heap.size + 1 < w1.heap.size := by have := hx1.size; simp only [World.size_alloc] at this; omega
    obtain ⟨hy1, hz1⟩ := hz1
    go_wp2_with fail
    refine (eqMethodS_any _ _ _ _ _ (Rep.ext ((((Ext.refl w).alloc _).alloc _).trans hx1) r_x_methods) (Rep.ext ((((Ext.refl w).alloc _).alloc _).trans hx1) r_y_methods)).mono ?_
    rintro e w2 ⟨rfl, hx2⟩
    obtain ⟨hc2, hf2⟩ := bcell hx2
    have hz2 : w.heap.size < w2.heap.size ∧ w.heap.size + 1 < w2.heap.size := by have := hx2.size; omega
    obtain ⟨hy2, hz2⟩ := hz2
    go_wp2_with fail
    go_ret
    exact ⟨ret_ff fun e => H.out (by rw [e]), ((((Ext.refl w).alloc _).alloc _).trans hx1).trans hx2⟩
  have t_methods := eqB_tt h
  have H_methods := Lib.hid h; clear h
  go_wp2_with fail
  refine (eqStringS_any _ _ _ _ _ (Rep.ext (((Ext.refl w).alloc _).alloc _) r_x_fields) (Rep.ext (((Ext.refl w).alloc _).alloc _) r_y_fields)).mono ?_
  rintro e w1 ⟨rfl, hx1⟩
  obtain ⟨hc1, hf1⟩ := bcell hx1
  have hz1 : w.heap.size < w1.heap.size ∧ w.heap.size + 1 < w1.heap.size := by have := hx1.size; simp only [World.size_alloc] at this; omega
  obtain ⟨hy1, hz1⟩ := hz1
  go_wp2_with fail
  refine (eqMethodS_any _ _ _ _ _ (Rep.ext ((((Ext.refl w).alloc _).alloc _).trans hx1) r_x_methods) (Rep.ext ((((Ext.refl w).alloc _).alloc _).trans hx1) r_y_methods)).mono ?_
  rintro e w2 ⟨rfl, hx2⟩
  obtain ⟨hc2, hf2⟩ := bcell hx2
  have hz2 : w.heap.size < w2.heap.size ∧ w.heap.size + 1 < w2.heap.size := by have := hx2.size; omega
  obtain ⟨hy2, hz2⟩ := hz2
  go_wp2_with fail
  go_ret
  refine ⟨ret_tt ?_, ((((Ext.refl w).alloc _).alloc _).trans hx1).trans hx2⟩
  cases x; cases y
  simp only [MClassDef.mk.injEq]
  exact ⟨H_name.out, H_parent.out, H_fields.out, H_methods.out⟩

set_option maxHeartbeats 400000 in
theorem eqClassDefS_any (a b : List MClassDef) (va vb : Value) (w : World) (ra : Rep w (MClassDefs a) [va]) (rb : Rep w (MClassDefs b) [vb]) :
    Calls Tryz.prog 71 #[va, vb] w fun e w' => e = .returned (.bool (eqB a b)) ∧ Ext w w' := by
  obtain ⟨ao, ca, ba, oa, h1, hla, hma, pa, ha⟩ := Rep.slmap ra
  obtain ⟨bo, cb, bb, ob, h2, hlb, hmb, pb, hb⟩ := Rep.slmap rb
  simp only [List.cons.injEq, and_true] at h1 h2
  subst h1 h2
  clear ra rb
  unfold maxLen at hma hmb
  go_enter Tryz.func71, Tryz.ntmps71
  by_cases hlen : a.length = b.length
  · have hne : ((a.length : Int) != (b.length : Int)) = false := by simp [hlen]
    have HL := Lib.hid hlen; clear hlen
    go_wp2
    go_loopw [5] (fun i wr => ∃ k : Nat, k ≤ a.length ∧ i = .int .i64 k ∧ Ext w wr ∧ Hid (∀ j, j < k → a[j]? = b[j]?)) (fun i _ => a.length - (intOf i).toNat)
    case atStart => exact ⟨0, Nat.zero_le _, rfl, Ext.refl _, fun j hj => by omega⟩
    case round =>
      obtain ⟨k, hk, rfl, hx, heq⟩ := hrel
      by_cases hlt : k < a.length
      · have hltb : k < b.length := by have := HL.out; omega
        obtain rfl := pa (by omega)
        obtain rfl := pb (by omega)
        obtain ⟨ea, la, ca, ra⟩ := ha k a[k] (by simp [hlt])
        obtain ⟨aa0, ca0, aa1, ca1, rfl, _, _⟩ := MClassDef.op_en ra
        have a0 := reg hx (show w.cell? ⟨ba, oa + k * 4, none⟩ = some _ from ca 0 (by omega))
        have a1 := reg hx (show w.cell? ⟨ba, oa + k * 4 + 1, none⟩ = some _ from ca 1 (by omega))
        have a2 := reg hx (show w.cell? ⟨ba, oa + k * 4 + 2, none⟩ = some _ from ca 2 (by omega))
        have a3 := reg hx (show w.cell? ⟨ba, oa + k * 4 + 3, none⟩ = some _ from ca 3 (by omega))
        clear ca la
        obtain ⟨eb, lb, cb, rb⟩ := hb k b[k] (by simp [hltb])
        obtain ⟨ab0, cb0, ab1, cb1, rfl, _, _⟩ := MClassDef.op_en rb
        have b0 := reg hx (show w.cell? ⟨bb, ob + k * 4, none⟩ = some _ from cb 0 (by omega))
        have b1 := reg hx (show w.cell? ⟨bb, ob + k * 4 + 1, none⟩ = some _ from cb 1 (by omega))
        have b2 := reg hx (show w.cell? ⟨bb, ob + k * 4 + 2, none⟩ = some _ from cb 2 (by omega))
        have b3 := reg hx (show w.cell? ⟨bb, ob + k * 4 + 3, none⟩ = some _ from cb 3 (by omega))
        clear cb lb
        clear ha hb pa pb
        by_cases hs : a[k] = b[k]
        · have ht := eqB_tt hs
          have HS := Lib.hid hs; clear hs
          go_wp2_with fail
          refine wp_region_quiet_below (by kernel_rfl) (by kernel_rfl) ?_
          repeat (quiet_step (exact Calls.regrown_of (eqClassDef_any _ _ _ _ _ (Rep.ext (hx.trans (below_regrown _ _ _)) ra) (Rep.ext (hx.trans (below_regrown _ _ _)) rb))))
          refine wpQuiet_nil ?_
          clear a0 a1 a2 a3 b0 b1 b2 b3
          intro _ hw'
          obtain ⟨pw, hw''⟩ := hw'
          subst hw''
          go_wp2
          go_roundw
          case rel => exact ⟨k + 1, by omega, by go_num, hx.trans (regx _ _), fun j hj => by
            by_cases h : j < k
            · exact heq.out j h
            · obtain rfl : j = k := by omega
              simp [hlt, hltb, HS.out]⟩
          case measure => simp [intOf]; omega
        · have ht := eqB_ff hs
          have HS := Lib.hid hs; clear hs
          go_wp2_with fail
          refine wp_region_quiet_below (by kernel_rfl) (by kernel_rfl) ?_
          repeat (quiet_step (exact Calls.regrown_of (eqClassDef_any _ _ _ _ _ (Rep.ext (hx.trans (below_regrown _ _ _)) ra) (Rep.ext (hx.trans (below_regrown _ _ _)) rb))))
          refine wpQuiet_nil ?_
          clear a0 a1 a2 a3 b0 b1 b2 b3
          intro _ hw'
          obtain ⟨pw, hw''⟩ := hw'
          subst hw''
          go_wp2
          go_ret
          exact ⟨ret_ff fun h => HS.out (by subst h; rfl), hx.trans (regx _ _)⟩
      · go_wp2
        go_ret
        have hl := HL.out
        obtain rfl : k = a.length := by omega
        refine ⟨ret_tt ?_, hx⟩
        exact List.ext_getElem? fun j => by
          by_cases hj : j < a.length
          · exact heq.out j hj
          · simp [List.getElem?_eq_none_iff.2 (show a.length ≤ j by omega), List.getElem?_eq_none_iff.2 (show b.length ≤ j by omega)]
  · have hne : ((a.length : Int) != (b.length : Int)) = true := by simp; omega
    have HL := Lib.hid hlen; clear hlen
    go_wp2
    go_ret
    exact ⟨ret_ff fun h => HL.out (by rw [h]), Ext.refl _⟩

set_option maxHeartbeats 400000 in
theorem eqUnit_any (x y : MUnit) (cx cy : List Value) (w : World) (rx : Rep w x.d cx) (ry : Rep w y.d cy) :
    Calls Tryz.prog 20 #[.agg cx.toArray, .agg cy.toArray] w fun e w' => e = .returned (.bool (eqB x y)) ∧ Ext w w' := by
  obtain ⟨a_x_classes, c_x_classes, a_x_main_params, c_x_main_params, a_x_main_temps, c_x_main_temps, a_x_main_body, c_x_main_body, rfl, r_x_classes, r_x_main_params, r_x_main_temps, r_x_main_body, r_x_main⟩ := MUnit.op_en rx
  obtain ⟨a_y_classes, c_y_classes, a_y_main_params, c_y_main_params, a_y_main_temps, c_y_main_temps, a_y_main_body, c_y_main_body, rfl, r_y_classes, r_y_main_params, r_y_main_temps, r_y_main_body, r_y_main⟩ := MUnit.op_en ry
  clear rx ry
  go_enter Tryz.func20, Tryz.ntmps20
  by_cases h : x.classes = y.classes
  rotate_left
  · have t_classes := eqB_ff h
    have H := Lib.hid h; clear h
    go_wp2_with fail
    refine (eqClassDefS_any _ _ _ _ _ (Rep.ext (((Ext.refl w).alloc _).alloc _) r_x_classes) (Rep.ext (((Ext.refl w).alloc _).alloc _) r_y_classes)).mono ?_
    rintro e w1 ⟨rfl, hx1⟩
    obtain ⟨hc1, hf1⟩ := bcell hx1
    have hz1 : w.heap.size < w1.heap.size ∧ w.heap.size + 1 < w1.heap.size := by have := hx1.size; simp only [World.size_alloc] at this; omega
    obtain ⟨hy1, hz1⟩ := hz1
    go_wp2_with fail
    go_ret
    exact ⟨ret_ff fun e => H.out (by rw [e]), (((Ext.refl w).alloc _).alloc _).trans hx1⟩
  have t_classes := eqB_tt h
  have H_classes := Lib.hid h; clear h
  by_cases h : x.main = y.main
  rotate_left
  · have t_main := eqB_ff h
    have H := Lib.hid h; clear h
    go_wp2_with fail
    refine (eqClassDefS_any _ _ _ _ _ (Rep.ext (((Ext.refl w).alloc _).alloc _) r_x_classes) (Rep.ext (((Ext.refl w).alloc _).alloc _) r_y_classes)).mono ?_
    rintro e w1 ⟨rfl, hx1⟩
    obtain ⟨hc1, hf1⟩ := bcell hx1
    have hz1 : w.heap.size < w1.heap.size ∧ w.heap.size + 1 < w1.heap.size := by have := hx1.size; simp only [World.size_alloc] at this; omega
    obtain ⟨hy1, hz1⟩ := hz1
    go_wp2_with fail
    refine (eqMethod_any _ _ _ _ _ (Rep.ext ((((Ext.refl w).alloc _).alloc _).trans hx1) r_x_main) (Rep.ext ((((Ext.refl w).alloc _).alloc _).trans hx1) r_y_main)).mono ?_
    rintro e w2 ⟨rfl, hx2⟩
    obtain ⟨hc2, hf2⟩ := bcell hx2
    have hz2 : w.heap.size < w2.heap.size ∧ w.heap.size + 1 < w2.heap.size := by have := hx2.size; omega
    obtain ⟨hy2, hz2⟩ := hz2
    go_wp2_with fail
    go_ret
    exact ⟨ret_ff fun e => H.out (by rw [e]), ((((Ext.refl w).alloc _).alloc _).trans hx1).trans hx2⟩
  have t_main := eqB_tt h
  have H_main := Lib.hid h; clear h
  go_wp2_with fail
  refine (eqClassDefS_any _ _ _ _ _ (Rep.ext (((Ext.refl w).alloc _).alloc _) r_x_classes) (Rep.ext (((Ext.refl w).alloc _).alloc _) r_y_classes)).mono ?_
  rintro e w1 ⟨rfl, hx1⟩
  obtain ⟨hc1, hf1⟩ := bcell hx1
  have hz1 : w.heap.size < w1.heap.size ∧ w.heap.size + 1 < w1.heap.size := by have := hx1.size; simp only [World.size_alloc] at this; omega
  obtain ⟨hy1, hz1⟩ := hz1
  go_wp2_with fail
  refine (eqMethod_any _ _ _ _ _ (Rep.ext ((((Ext.refl w).alloc _).alloc _).trans hx1) r_x_main) (Rep.ext ((((Ext.refl w).alloc _).alloc _).trans hx1) r_y_main)).mono ?_
  rintro e w2 ⟨rfl, hx2⟩
  obtain ⟨hc2, hf2⟩ := bcell hx2
  have hz2 : w.heap.size < w2.heap.size ∧ w.heap.size + 1 < w2.heap.size := by have := hx2.size; omega
  obtain ⟨hy2, hz2⟩ := hz2
  go_wp2_with fail
  go_ret
  refine ⟨ret_tt ?_, ((((Ext.refl w).alloc _).alloc _).trans hx1).trans hx2⟩
  cases x; cases y
  simp only [MUnit.mk.injEq]
  exact ⟨H_classes.out, H_main.out⟩

set_option maxHeartbeats 400000 in
theorem eqClassInfo_any (x y : MClassInfo) (cx cy : List Value) (w : World) (rx : Rep w x.d cx) (ry : Rep w y.d cy) :
    Calls Tryz.prog 148 #[.agg cx.toArray, .agg cy.toArray] w fun e w' => e = .returned (.bool (eqB x y)) ∧ Ext w w' := by
  obtain ⟨a_x_fields, c_x_fields, rfl, r_x_fields⟩ := MClassInfo.op_en rx
  obtain ⟨a_y_fields, c_y_fields, rfl, r_y_fields⟩ := MClassInfo.op_en ry
  clear rx ry
  go_enter Tryz.func148, Tryz.ntmps148
  by_cases h : x.name = y.name
  rotate_left
  · have t_name := str_nen h
    have H := Lib.hid h; clear h
    go_wp2_with fail
    go_ret
    exact ⟨ret_ff fun e => H.out (by rw [e]), ((Ext.refl w).alloc _).alloc _⟩
  have t_name := str_eqn h
  have H_name := Lib.hid h; clear h
  by_cases h : x.parent = y.parent
  rotate_left
  · have t_parent := int_nen h
    have H := Lib.hid h; clear h
    go_wp2_with fail
    go_ret
    exact ⟨ret_ff fun e => H.out (by rw [e]), ((Ext.refl w).alloc _).alloc _⟩
  have t_parent := int_eqn h
  have H_parent := Lib.hid h; clear h
  by_cases h : x.fields = y.fields
  rotate_left
  · have t_fields := eqB_ff h
    have H := Lib.hid h; clear h
    go_wp2_with fail
    refine (eqStringS_any _ _ _ _ _ (Rep.ext (((Ext.refl w).alloc _).alloc _) r_x_fields) (Rep.ext (((Ext.refl w).alloc _).alloc _) r_y_fields)).mono ?_
    rintro e w1 ⟨rfl, hx1⟩
    obtain ⟨hc1, hf1⟩ := bcell hx1
    have hz1 : w.heap.size < w1.heap.size ∧ w.heap.size + 1 < w1.heap.size := by have := hx1.size; simp only [World.size_alloc] at this; omega
    obtain ⟨hy1, hz1⟩ := hz1
    go_wp2_with fail
    go_ret
    exact ⟨ret_ff fun e => H.out (by rw [e]), (((Ext.refl w).alloc _).alloc _).trans hx1⟩
  have t_fields := eqB_tt h
  have H_fields := Lib.hid h; clear h
  go_wp2_with fail
  refine (eqStringS_any _ _ _ _ _ (Rep.ext (((Ext.refl w).alloc _).alloc _) r_x_fields) (Rep.ext (((Ext.refl w).alloc _).alloc _) r_y_fields)).mono ?_
  rintro e w1 ⟨rfl, hx1⟩
  obtain ⟨hc1, hf1⟩ := bcell hx1
  have hz1 : w.heap.size < w1.heap.size ∧ w.heap.size + 1 < w1.heap.size := by have := hx1.size; simp only [World.size_alloc] at this; omega
  obtain ⟨hy1, hz1⟩ := hz1
  go_wp2_with fail
  go_ret
  refine ⟨ret_tt ?_, (((Ext.refl w).alloc _).alloc _).trans hx1⟩
  cases x; cases y
  simp only [MClassInfo.mk.injEq]
  exact ⟨H_name.out, H_parent.out, H_fields.out⟩

set_option maxHeartbeats 400000 in
theorem eqClassInfoS_any (a b : List MClassInfo) (va vb : Value) (w : World) (ra : Rep w (MClassInfos a) [va]) (rb : Rep w (MClassInfos b) [vb]) :
    Calls Tryz.prog 56 #[va, vb] w fun e w' => e = .returned (.bool (eqB a b)) ∧ Ext w w' := by
  obtain ⟨ao, ca, ba, oa, h1, hla, hma, pa, ha⟩ := Rep.slmap ra
  obtain ⟨bo, cb, bb, ob, h2, hlb, hmb, pb, hb⟩ := Rep.slmap rb
  simp only [List.cons.injEq, and_true] at h1 h2
  subst h1 h2
  clear ra rb
  unfold maxLen at hma hmb
  go_enter Tryz.func56, Tryz.ntmps56
  by_cases hlen : a.length = b.length
  · have hne : ((a.length : Int) != (b.length : Int)) = false := by simp [hlen]
    have HL := Lib.hid hlen; clear hlen
    go_wp2
    go_loopw [5] (fun i wr => ∃ k : Nat, k ≤ a.length ∧ i = .int .i64 k ∧ Ext w wr ∧ Hid (∀ j, j < k → a[j]? = b[j]?)) (fun i _ => a.length - (intOf i).toNat)
    case atStart => exact ⟨0, Nat.zero_le _, rfl, Ext.refl _, fun j hj => by omega⟩
    case round =>
      obtain ⟨k, hk, rfl, hx, heq⟩ := hrel
      by_cases hlt : k < a.length
      · have hltb : k < b.length := by have := HL.out; omega
        obtain rfl := pa (by omega)
        obtain rfl := pb (by omega)
        obtain ⟨ea, la, ca, ra⟩ := ha k a[k] (by simp [hlt])
        obtain ⟨aa0, ca0, rfl, _⟩ := MClassInfo.op_en ra
        have a0 := reg hx (show w.cell? ⟨ba, oa + k * 3, none⟩ = some _ from ca 0 (by omega))
        have a1 := reg hx (show w.cell? ⟨ba, oa + k * 3 + 1, none⟩ = some _ from ca 1 (by omega))
        have a2 := reg hx (show w.cell? ⟨ba, oa + k * 3 + 2, none⟩ = some _ from ca 2 (by omega))
        clear ca la
        obtain ⟨eb, lb, cb, rb⟩ := hb k b[k] (by simp [hltb])
        obtain ⟨ab0, cb0, rfl, _⟩ := MClassInfo.op_en rb
        have b0 := reg hx (show w.cell? ⟨bb, ob + k * 3, none⟩ = some _ from cb 0 (by omega))
        have b1 := reg hx (show w.cell? ⟨bb, ob + k * 3 + 1, none⟩ = some _ from cb 1 (by omega))
        have b2 := reg hx (show w.cell? ⟨bb, ob + k * 3 + 2, none⟩ = some _ from cb 2 (by omega))
        clear cb lb
        clear ha hb pa pb
        by_cases hs : a[k] = b[k]
        · have ht := eqB_tt hs
          have HS := Lib.hid hs; clear hs
          go_wp2_with fail
          refine wp_region_quiet_below (by kernel_rfl) (by kernel_rfl) ?_
          repeat (quiet_step (exact Calls.regrown_of (eqClassInfo_any _ _ _ _ _ (Rep.ext (hx.trans (below_regrown _ _ _)) ra) (Rep.ext (hx.trans (below_regrown _ _ _)) rb))))
          refine wpQuiet_nil ?_
          clear a0 a1 a2 b0 b1 b2
          intro _ hw'
          obtain ⟨pw, hw''⟩ := hw'
          subst hw''
          go_wp2
          go_roundw
          case rel => exact ⟨k + 1, by omega, by go_num, hx.trans (regx _ _), fun j hj => by
            by_cases h : j < k
            · exact heq.out j h
            · obtain rfl : j = k := by omega
              simp [hlt, hltb, HS.out]⟩
          case measure => simp [intOf]; omega
        · have ht := eqB_ff hs
          have HS := Lib.hid hs; clear hs
          go_wp2_with fail
          refine wp_region_quiet_below (by kernel_rfl) (by kernel_rfl) ?_
          repeat (quiet_step (exact Calls.regrown_of (eqClassInfo_any _ _ _ _ _ (Rep.ext (hx.trans (below_regrown _ _ _)) ra) (Rep.ext (hx.trans (below_regrown _ _ _)) rb))))
          refine wpQuiet_nil ?_
          clear a0 a1 a2 b0 b1 b2
          intro _ hw'
          obtain ⟨pw, hw''⟩ := hw'
          subst hw''
          go_wp2
          go_ret
          exact ⟨ret_ff fun h => HS.out (by subst h; rfl), hx.trans (regx _ _)⟩
      · go_wp2
        go_ret
        have hl := HL.out
        obtain rfl : k = a.length := by omega
        refine ⟨ret_tt ?_, hx⟩
        exact List.ext_getElem? fun j => by
          by_cases hj : j < a.length
          · exact heq.out j hj
          · simp [List.getElem?_eq_none_iff.2 (show a.length ≤ j by omega), List.getElem?_eq_none_iff.2 (show b.length ≤ j by omega)]
  · have hne : ((a.length : Int) != (b.length : Int)) = true := by simp; omega
    have HL := Lib.hid hlen; clear hlen
    go_wp2
    go_ret
    exact ⟨ret_ff fun h => HL.out (by rw [h]), Ext.refl _⟩

set_option maxHeartbeats 400000 in
theorem eqCoreS_of (n : Nat) (ih : Hid (∀ (x y : MCore) (cx cy : List Value) (w : World), SizeOf.sizeOf x < n → Rep w x.d cx → Rep w y.d cy → Calls Tryz.prog 183 #[.agg cx.toArray, .agg cy.toArray] w fun e w' => e = .returned (.bool (eqB x y)) ∧ Ext w w')) (a b : List MCore) (va vb : Value) (w : World) (hn : Hid (∀ x, x ∈ a → SizeOf.sizeOf x < n)) (ra : Rep w (MCores a) [va]) (rb : Rep w (MCores b) [vb]) :
    Calls Tryz.prog 265 #[va, vb] w fun e w' => e = .returned (.bool (eqB a b)) ∧ Ext w w' := by
  obtain ⟨ao, ca, ba, oa, h1, hla, hma, pa, ha⟩ := Rep.slmap ra
  obtain ⟨bo, cb, bb, ob, h2, hlb, hmb, pb, hb⟩ := Rep.slmap rb
  simp only [List.cons.injEq, and_true] at h1 h2
  subst h1 h2
  clear ra rb
  unfold maxLen at hma hmb
  go_enter Tryz.func265, Tryz.ntmps265
  by_cases hlen : a.length = b.length
  · have hne : ((a.length : Int) != (b.length : Int)) = false := by simp [hlen]
    have HL := Lib.hid hlen; clear hlen
    go_wp2
    go_loopw [5] (fun i wr => ∃ k : Nat, k ≤ a.length ∧ i = .int .i64 k ∧ Ext w wr ∧ Hid (∀ j, j < k → a[j]? = b[j]?)) (fun i _ => a.length - (intOf i).toNat)
    case atStart => exact ⟨0, Nat.zero_le _, rfl, Ext.refl _, fun j hj => by omega⟩
    case round =>
      obtain ⟨k, hk, rfl, hx, heq⟩ := hrel
      by_cases hlt : k < a.length
      · have hltb : k < b.length := by have := HL.out; omega
        obtain rfl := pa (by omega)
        obtain rfl := pb (by omega)
        obtain ⟨ea, la, ca, ra⟩ := ha k a[k] (by simp [hlt])
        obtain ⟨aa0, ca0, rfl, _⟩ := MCore.op_en ra
        have a0 := reg hx (show w.cell? ⟨ba, oa + k * 5, none⟩ = some _ from ca 0 (by omega))
        have a1 := reg hx (show w.cell? ⟨ba, oa + k * 5 + 1, none⟩ = some _ from ca 1 (by omega))
        have a2 := reg hx (show w.cell? ⟨ba, oa + k * 5 + 2, none⟩ = some _ from ca 2 (by omega))
        have a3 := reg hx (show w.cell? ⟨ba, oa + k * 5 + 3, none⟩ = some _ from ca 3 (by omega))
        have a4 := reg hx (show w.cell? ⟨ba, oa + k * 5 + 4, none⟩ = some _ from ca 4 (by omega))
        clear ca la
        obtain ⟨eb, lb, cb, rb⟩ := hb k b[k] (by simp [hltb])
        obtain ⟨ab0, cb0, rfl, _⟩ := MCore.op_en rb
        have b0 := reg hx (show w.cell? ⟨bb, ob + k * 5, none⟩ = some _ from cb 0 (by omega))
        have b1 := reg hx (show w.cell? ⟨bb, ob + k * 5 + 1, none⟩ = some _ from cb 1 (by omega))
        have b2 := reg hx (show w.cell? ⟨bb, ob + k * 5 + 2, none⟩ = some _ from cb 2 (by omega))
        have b3 := reg hx (show w.cell? ⟨bb, ob + k * 5 + 3, none⟩ = some _ from cb 3 (by omega))
        have b4 := reg hx (show w.cell? ⟨bb, ob + k * 5 + 4, none⟩ = some _ from cb 4 (by omega))
        clear cb lb
        clear ha hb pa pb
        by_cases hs : a[k] = b[k]
        · have ht := eqB_tt hs
          have HS := Lib.hid hs; clear hs
          go_wp2_with fail
          refine wp_region_quiet_below (by kernel_rfl) (by kernel_rfl) ?_
          repeat (quiet_step (exact Calls.regrown_of (ih.out _ _ _ _ _ (hn.out _ (List.getElem_mem hlt)) (Rep.ext (hx.trans (below_regrown _ _ _)) ra) (Rep.ext (hx.trans (below_regrown _ _ _)) rb))))
          refine wpQuiet_nil ?_
          clear a0 a1 a2 a3 a4 b0 b1 b2 b3 b4
          intro _ hw'
          obtain ⟨pw, hw''⟩ := hw'
          subst hw''
          go_wp2
          go_roundw
          case rel => exact ⟨k + 1, by omega, by go_num, hx.trans (regx _ _), fun j hj => by
            by_cases h : j < k
            · exact heq.out j h
            · obtain rfl : j = k := by omega
              simp [hlt, hltb, HS.out]⟩
          case measure => simp [intOf]; omega
        · have ht := eqB_ff hs
          have HS := Lib.hid hs; clear hs
          go_wp2_with fail
          refine wp_region_quiet_below (by kernel_rfl) (by kernel_rfl) ?_
          repeat (quiet_step (exact Calls.regrown_of (ih.out _ _ _ _ _ (hn.out _ (List.getElem_mem hlt)) (Rep.ext (hx.trans (below_regrown _ _ _)) ra) (Rep.ext (hx.trans (below_regrown _ _ _)) rb))))
          refine wpQuiet_nil ?_
          clear a0 a1 a2 a3 a4 b0 b1 b2 b3 b4
          intro _ hw'
          obtain ⟨pw, hw''⟩ := hw'
          subst hw''
          go_wp2
          go_ret
          exact ⟨ret_ff fun h => HS.out (by subst h; rfl), hx.trans (regx _ _)⟩
      · go_wp2
        go_ret
        have hl := HL.out
        obtain rfl : k = a.length := by omega
        refine ⟨ret_tt ?_, hx⟩
        exact List.ext_getElem? fun j => by
          by_cases hj : j < a.length
          · exact heq.out j hj
          · simp [List.getElem?_eq_none_iff.2 (show a.length ≤ j by omega), List.getElem?_eq_none_iff.2 (show b.length ≤ j by omega)]
  · have hne : ((a.length : Int) != (b.length : Int)) = true := by simp; omega
    have HL := Lib.hid hlen; clear hlen
    go_wp2
    go_ret
    exact ⟨ret_ff fun h => HL.out (by rw [h]), Ext.refl _⟩

set_option maxHeartbeats 400000 in
theorem eqCore_of (n : Nat) (ih : Hid (∀ (a b : List MCore) (va vb : Value) (w : World), (∀ x, x ∈ a → SizeOf.sizeOf x < n) → Rep w (MCores a) [va] → Rep w (MCores b) [vb] → Calls Tryz.prog 265 #[va, vb] w fun e w' => e = .returned (.bool (eqB a b)) ∧ Ext w w')) (x y : MCore) (cx cy : List Value) (w : World) (hn : Hid (SizeOf.sizeOf x < n + 1)) (rx : Rep w x.d cx) (ry : Rep w y.d cy) :
    Calls Tryz.prog 183 #[.agg cx.toArray, .agg cy.toArray] w fun e w' => e = .returned (.bool (eqB x y)) ∧ Ext w w' := by
  have hk : Hid (∀ z, z ∈ x.kids → SizeOf.sizeOf z < n) := Lib.hid fun z hz => by have := MCore.kid_lt hz; have := hn.out; omega
  obtain ⟨a_x_kids, c_x_kids, rfl, r_x_kids⟩ := MCore.op_en rx
  obtain ⟨a_y_kids, c_y_kids, rfl, r_y_kids⟩ := MCore.op_en ry
  clear rx ry
  go_enter Tryz.func183, Tryz.ntmps183
  by_cases h : x.kind = y.kind
  rotate_left
  · have t_kind := int_nen h
    have H := Lib.hid h; clear h
    go_wp2_with fail
    go_ret
    exact ⟨ret_ff fun e => H.out (by rw [e]), ((Ext.refl w).alloc _).alloc _⟩
  have t_kind := int_eqn h
  have H_kind := Lib.hid h; clear h
  by_cases h : x.text = y.text
  rotate_left
  · have t_text := str_nen h
    have H := Lib.hid h; clear h
    go_wp2_with fail
    go_ret
    exact ⟨ret_ff fun e => H.out (by rw [e]), ((Ext.refl w).alloc _).alloc _⟩
  have t_text := str_eqn h
  have H_text := Lib.hid h; clear h
  by_cases h : x.number = y.number
  rotate_left
  · have t_number := int_nen h
    have H := Lib.hid h; clear h
    go_wp2_with fail
    go_ret
    exact ⟨ret_ff fun e => H.out (by rw [e]), ((Ext.refl w).alloc _).alloc _⟩
  have t_number := int_eqn h
  have H_number := Lib.hid h; clear h
  by_cases h : x.depth = y.depth
  rotate_left
  · have t_depth := int_nen h
    have H := Lib.hid h; clear h
    go_wp2_with fail
    go_ret
    exact ⟨ret_ff fun e => H.out (by rw [e]), ((Ext.refl w).alloc _).alloc _⟩
  have t_depth := int_eqn h
  have H_depth := Lib.hid h; clear h
  by_cases h : x.kids = y.kids
  rotate_left
  · have t_kids := eqB_ff h
    have H := Lib.hid h; clear h
    go_wp2_with fail
    refine (ih.out _ _ _ _ _ hk.out (Rep.ext (((Ext.refl w).alloc _).alloc _) r_x_kids) (Rep.ext (((Ext.refl w).alloc _).alloc _) r_y_kids)).mono ?_
    rintro e w1 ⟨rfl, hx1⟩
    obtain ⟨hc1, hf1⟩ := bcell hx1
    have hz1 : w.heap.size < w1.heap.size ∧ w.heap.size + 1 < w1.heap.size := by have := hx1.size; simp only [World.size_alloc] at this; omega
    obtain ⟨hy1, hz1⟩ := hz1
    go_wp2_with fail
    go_ret
    exact ⟨ret_ff fun e => H.out (by rw [e]), (((Ext.refl w).alloc _).alloc _).trans hx1⟩
  have t_kids := eqB_tt h
  have H_kids := Lib.hid h; clear h
  go_wp2_with fail
  refine (ih.out _ _ _ _ _ hk.out (Rep.ext (((Ext.refl w).alloc _).alloc _) r_x_kids) (Rep.ext (((Ext.refl w).alloc _).alloc _) r_y_kids)).mono ?_
  rintro e w1 ⟨rfl, hx1⟩
  obtain ⟨hc1, hf1⟩ := bcell hx1
  have hz1 : w.heap.size < w1.heap.size ∧ w.heap.size + 1 < w1.heap.size := by have := hx1.size; simp only [World.size_alloc] at this; omega
  obtain ⟨hy1, hz1⟩ := hz1
  go_wp2_with fail
  go_ret
  refine ⟨ret_tt ?_, (((Ext.refl w).alloc _).alloc _).trans hx1⟩
  cases x; cases y
  simp only [MCore.mk.injEq]
  exact ⟨H_kind.out, H_text.out, H_number.out, H_depth.out, H_kids.out⟩

theorem eqCore_lt : ∀ (n : Nat) (x y : MCore) (cx cy : List Value) (w : World), SizeOf.sizeOf x < n → Rep w x.d cx → Rep w y.d cy →
    Calls Tryz.prog 183 #[.agg cx.toArray, .agg cy.toArray] w fun e w' => e = .returned (.bool (eqB x y)) ∧ Ext w w' := by
  intro n
  induction n with
  | zero => intro x y cx cy w h; omega
  | succ n ih => exact fun x y cx cy w h rx ry => eqCore_of n (Lib.hid fun a b va vb w hn ra rb => eqCoreS_of n (Lib.hid ih) a b va vb w (Lib.hid hn) ra rb) x y cx cy w (Lib.hid h) rx ry
theorem eqCore_any (x y : MCore) (cx cy : List Value) (w : World) (rx : Rep w x.d cx) (ry : Rep w y.d cy) :
    Calls Tryz.prog 183 #[.agg cx.toArray, .agg cy.toArray] w fun e w' => e = .returned (.bool (eqB x y)) ∧ Ext w w' := eqCore_lt _ x y cx cy w (Nat.lt_succ_self _) rx ry
theorem eqCoreS_any (a b : List MCore) (va vb : Value) (w : World) (ra : Rep w (MCores a) [va]) (rb : Rep w (MCores b) [vb]) :
    Calls Tryz.prog 265 #[va, vb] w fun e w' => e = .returned (.bool (eqB a b)) ∧ Ext w w' :=
  eqCoreS_of (SizeOf.sizeOf a) (Lib.hid fun x y cx cy w _ rx ry => eqCore_any x y cx cy w rx ry) a b va vb w (Lib.hid fun _ hx => List.sizeOf_lt_of_mem hx) ra rb

set_option maxHeartbeats 400000 in
theorem eqRoutine_any (x y : MRoutine) (cx cy : List Value) (w : World) (rx : Rep w x.d cx) (ry : Rep w y.d cy) :
    Calls Tryz.prog 85 #[.agg cx.toArray, .agg cy.toArray] w fun e w' => e = .returned (.bool (eqB x y)) ∧ Ext w w' := by
  obtain ⟨a_x_body_kids, c_x_body_kids, rfl, r_x_body_kids, r_x_body⟩ := MRoutine.op_en rx
  obtain ⟨a_y_body_kids, c_y_body_kids, rfl, r_y_body_kids, r_y_body⟩ := MRoutine.op_en ry
  clear rx ry
  go_enter Tryz.func85, Tryz.ntmps85
  by_cases h : x.selector = y.selector
  rotate_left
  · have t_selector := str_nen h
    have H := Lib.hid h; clear h
    go_wp2_with fail
    go_ret
    exact ⟨ret_ff fun e => H.out (by rw [e]), ((Ext.refl w).alloc _).alloc _⟩
  have t_selector := str_eqn h
  have H_selector := Lib.hid h; clear h
  by_cases h : x.owner = y.owner
  rotate_left
  · have t_owner := int_nen h
    have H := Lib.hid h; clear h
    go_wp2_with fail
    go_ret
    exact ⟨ret_ff fun e => H.out (by rw [e]), ((Ext.refl w).alloc _).alloc _⟩
  have t_owner := int_eqn h
  have H_owner := Lib.hid h; clear h
  by_cases h : x.cls = y.cls
  rotate_left
  · have t_cls := bool_nen h
    have H := Lib.hid h; clear h
    go_wp2_with fail
    go_ret
    exact ⟨ret_ff fun e => H.out (by rw [e]), ((Ext.refl w).alloc _).alloc _⟩
  have t_cls := bool_eqn h
  have H_cls := Lib.hid h; clear h
  by_cases h : x.params = y.params
  rotate_left
  · have t_params := int_nen h
    have H := Lib.hid h; clear h
    go_wp2_with fail
    go_ret
    exact ⟨ret_ff fun e => H.out (by rw [e]), ((Ext.refl w).alloc _).alloc _⟩
  have t_params := int_eqn h
  have H_params := Lib.hid h; clear h
  by_cases h : x.slots = y.slots
  rotate_left
  · have t_slots := int_nen h
    have H := Lib.hid h; clear h
    go_wp2_with fail
    go_ret
    exact ⟨ret_ff fun e => H.out (by rw [e]), ((Ext.refl w).alloc _).alloc _⟩
  have t_slots := int_eqn h
  have H_slots := Lib.hid h; clear h
  by_cases h : x.body = y.body
  rotate_left
  · have t_body := eqB_ff h
    have H := Lib.hid h; clear h
    go_wp2_with fail
    refine (eqCore_any _ _ _ _ _ (Rep.ext (((Ext.refl w).alloc _).alloc _) r_x_body) (Rep.ext (((Ext.refl w).alloc _).alloc _) r_y_body)).mono ?_
    rintro e w1 ⟨rfl, hx1⟩
    obtain ⟨hc1, hf1⟩ := bcell hx1
    have hz1 : w.heap.size < w1.heap.size ∧ w.heap.size + 1 < w1.heap.size := by have := hx1.size; simp only [World.size_alloc] at this; omega
    obtain ⟨hy1, hz1⟩ := hz1
    go_wp2_with fail
    go_ret
    exact ⟨ret_ff fun e => H.out (by rw [e]), (((Ext.refl w).alloc _).alloc _).trans hx1⟩
  have t_body := eqB_tt h
  have H_body := Lib.hid h; clear h
  go_wp2_with fail
  refine (eqCore_any _ _ _ _ _ (Rep.ext (((Ext.refl w).alloc _).alloc _) r_x_body) (Rep.ext (((Ext.refl w).alloc _).alloc _) r_y_body)).mono ?_
  rintro e w1 ⟨rfl, hx1⟩
  obtain ⟨hc1, hf1⟩ := bcell hx1
  have hz1 : w.heap.size < w1.heap.size ∧ w.heap.size + 1 < w1.heap.size := by have := hx1.size; simp only [World.size_alloc] at this; omega
  obtain ⟨hy1, hz1⟩ := hz1
  go_wp2_with fail
  go_ret
  refine ⟨ret_tt ?_, (((Ext.refl w).alloc _).alloc _).trans hx1⟩
  cases x; cases y
  simp only [MRoutine.mk.injEq]
  exact ⟨H_selector.out, H_owner.out, H_cls.out, H_params.out, H_slots.out, H_body.out⟩

set_option maxHeartbeats 400000 in
theorem eqRoutineS_any (a b : List MRoutine) (va vb : Value) (w : World) (ra : Rep w (MRoutines a) [va]) (rb : Rep w (MRoutines b) [vb]) :
    Calls Tryz.prog 84 #[va, vb] w fun e w' => e = .returned (.bool (eqB a b)) ∧ Ext w w' := by
  obtain ⟨ao, ca, ba, oa, h1, hla, hma, pa, ha⟩ := Rep.slmap ra
  obtain ⟨bo, cb, bb, ob, h2, hlb, hmb, pb, hb⟩ := Rep.slmap rb
  simp only [List.cons.injEq, and_true] at h1 h2
  subst h1 h2
  clear ra rb
  unfold maxLen at hma hmb
  go_enter Tryz.func84, Tryz.ntmps84
  by_cases hlen : a.length = b.length
  · have hne : ((a.length : Int) != (b.length : Int)) = false := by simp [hlen]
    have HL := Lib.hid hlen; clear hlen
    go_wp2
    go_loopw [5] (fun i wr => ∃ k : Nat, k ≤ a.length ∧ i = .int .i64 k ∧ Ext w wr ∧ Hid (∀ j, j < k → a[j]? = b[j]?)) (fun i _ => a.length - (intOf i).toNat)
    case atStart => exact ⟨0, Nat.zero_le _, rfl, Ext.refl _, fun j hj => by omega⟩
    case round =>
      obtain ⟨k, hk, rfl, hx, heq⟩ := hrel
      by_cases hlt : k < a.length
      · have hltb : k < b.length := by have := HL.out; omega
        obtain rfl := pa (by omega)
        obtain rfl := pb (by omega)
        obtain ⟨ea, la, ca, ra⟩ := ha k a[k] (by simp [hlt])
        obtain ⟨aa0, ca0, rfl, _, _⟩ := MRoutine.op_en ra
        have a0 := reg hx (show w.cell? ⟨ba, oa + k * 10, none⟩ = some _ from ca 0 (by omega))
        have a1 := reg hx (show w.cell? ⟨ba, oa + k * 10 + 1, none⟩ = some _ from ca 1 (by omega))
        have a2 := reg hx (show w.cell? ⟨ba, oa + k * 10 + 2, none⟩ = some _ from ca 2 (by omega))
        have a3 := reg hx (show w.cell? ⟨ba, oa + k * 10 + 3, none⟩ = some _ from ca 3 (by omega))
        have a4 := reg hx (show w.cell? ⟨ba, oa + k * 10 + 4, none⟩ = some _ from ca 4 (by omega))
        have a5 := reg hx (show w.cell? ⟨ba, oa + k * 10 + 5, none⟩ = some _ from ca 5 (by omega))
        have a6 := reg hx (show w.cell? ⟨ba, oa + k * 10 + 6, none⟩ = some _ from ca 6 (by omega))
        have a7 := reg hx (show w.cell? ⟨ba, oa + k * 10 + 7, none⟩ = some _ from ca 7 (by omega))
        have a8 := reg hx (show w.cell? ⟨ba, oa + k * 10 + 8, none⟩ = some _ from ca 8 (by omega))
        have a9 := reg hx (show w.cell? ⟨ba, oa + k * 10 + 9, none⟩ = some _ from ca 9 (by omega))
        clear ca la
        obtain ⟨eb, lb, cb, rb⟩ := hb k b[k] (by simp [hltb])
        obtain ⟨ab0, cb0, rfl, _, _⟩ := MRoutine.op_en rb
        have b0 := reg hx (show w.cell? ⟨bb, ob + k * 10, none⟩ = some _ from cb 0 (by omega))
        have b1 := reg hx (show w.cell? ⟨bb, ob + k * 10 + 1, none⟩ = some _ from cb 1 (by omega))
        have b2 := reg hx (show w.cell? ⟨bb, ob + k * 10 + 2, none⟩ = some _ from cb 2 (by omega))
        have b3 := reg hx (show w.cell? ⟨bb, ob + k * 10 + 3, none⟩ = some _ from cb 3 (by omega))
        have b4 := reg hx (show w.cell? ⟨bb, ob + k * 10 + 4, none⟩ = some _ from cb 4 (by omega))
        have b5 := reg hx (show w.cell? ⟨bb, ob + k * 10 + 5, none⟩ = some _ from cb 5 (by omega))
        have b6 := reg hx (show w.cell? ⟨bb, ob + k * 10 + 6, none⟩ = some _ from cb 6 (by omega))
        have b7 := reg hx (show w.cell? ⟨bb, ob + k * 10 + 7, none⟩ = some _ from cb 7 (by omega))
        have b8 := reg hx (show w.cell? ⟨bb, ob + k * 10 + 8, none⟩ = some _ from cb 8 (by omega))
        have b9 := reg hx (show w.cell? ⟨bb, ob + k * 10 + 9, none⟩ = some _ from cb 9 (by omega))
        clear cb lb
        clear ha hb pa pb
        by_cases hs : a[k] = b[k]
        · have ht := eqB_tt hs
          have HS := Lib.hid hs; clear hs
          go_wp2_with fail
          refine wp_region_quiet_below (by kernel_rfl) (by kernel_rfl) ?_
          repeat (quiet_step (exact Calls.regrown_of (eqRoutine_any _ _ _ _ _ (Rep.ext (hx.trans (below_regrown _ _ _)) ra) (Rep.ext (hx.trans (below_regrown _ _ _)) rb))))
          refine wpQuiet_nil ?_
          clear a0 a1 a2 a3 a4 a5 a6 a7 a8 a9 b0 b1 b2 b3 b4 b5 b6 b7 b8 b9
          intro _ hw'
          obtain ⟨pw, hw''⟩ := hw'
          subst hw''
          go_wp2
          go_roundw
          case rel => exact ⟨k + 1, by omega, by go_num, hx.trans (regx _ _), fun j hj => by
            by_cases h : j < k
            · exact heq.out j h
            · obtain rfl : j = k := by omega
              simp [hlt, hltb, HS.out]⟩
          case measure => simp [intOf]; omega
        · have ht := eqB_ff hs
          have HS := Lib.hid hs; clear hs
          go_wp2_with fail
          refine wp_region_quiet_below (by kernel_rfl) (by kernel_rfl) ?_
          repeat (quiet_step (exact Calls.regrown_of (eqRoutine_any _ _ _ _ _ (Rep.ext (hx.trans (below_regrown _ _ _)) ra) (Rep.ext (hx.trans (below_regrown _ _ _)) rb))))
          refine wpQuiet_nil ?_
          clear a0 a1 a2 a3 a4 a5 a6 a7 a8 a9 b0 b1 b2 b3 b4 b5 b6 b7 b8 b9
          intro _ hw'
          obtain ⟨pw, hw''⟩ := hw'
          subst hw''
          go_wp2
          go_ret
          exact ⟨ret_ff fun h => HS.out (by subst h; rfl), hx.trans (regx _ _)⟩
      · go_wp2
        go_ret
        have hl := HL.out
        obtain rfl : k = a.length := by omega
        refine ⟨ret_tt ?_, hx⟩
        exact List.ext_getElem? fun j => by
          by_cases hj : j < a.length
          · exact heq.out j hj
          · simp [List.getElem?_eq_none_iff.2 (show a.length ≤ j by omega), List.getElem?_eq_none_iff.2 (show b.length ≤ j by omega)]
  · have hne : ((a.length : Int) != (b.length : Int)) = true := by simp; omega
    have HL := Lib.hid hlen; clear hlen
    go_wp2
    go_ret
    exact ⟨ret_ff fun h => HL.out (by rw [h]), Ext.refl _⟩

set_option maxHeartbeats 400000 in
theorem eqSystem_any (x y : MSystem) (cx cy : List Value) (w : World) (rx : Rep w x.d cx) (ry : Rep w y.d cy) :
    Calls Tryz.prog 26 #[.agg cx.toArray, .agg cy.toArray] w fun e w' => e = .returned (.bool (eqB x y)) ∧ Ext w w' := by
  obtain ⟨a_x_classes, c_x_classes, a_x_routines, c_x_routines, a_x_main_body_kids, c_x_main_body_kids, rfl, r_x_classes, r_x_routines, r_x_main_body_kids, r_x_main⟩ := MSystem.op_en rx
  obtain ⟨a_y_classes, c_y_classes, a_y_routines, c_y_routines, a_y_main_body_kids, c_y_main_body_kids, rfl, r_y_classes, r_y_routines, r_y_main_body_kids, r_y_main⟩ := MSystem.op_en ry
  clear rx ry
  go_enter Tryz.func26, Tryz.ntmps26
  by_cases h : x.classes = y.classes
  rotate_left
  · have t_classes := eqB_ff h
    have H := Lib.hid h; clear h
    go_wp2_with fail
    refine (eqClassInfoS_any _ _ _ _ _ (Rep.ext (((Ext.refl w).alloc _).alloc _) r_x_classes) (Rep.ext (((Ext.refl w).alloc _).alloc _) r_y_classes)).mono ?_
    rintro e w1 ⟨rfl, hx1⟩
    obtain ⟨hc1, hf1⟩ := bcell hx1
    have hz1 : w.heap.size < w1.heap.size ∧ w.heap.size + 1 < w1.heap.size := by have := hx1.size; simp only [World.size_alloc] at this; omega
    obtain ⟨hy1, hz1⟩ := hz1
    go_wp2_with fail
    go_ret
    exact ⟨ret_ff fun e => H.out (by rw [e]), (((Ext.refl w).alloc _).alloc _).trans hx1⟩
  have t_classes := eqB_tt h
  have H_classes := Lib.hid h; clear h
  by_cases h : x.routines = y.routines
  rotate_left
  · have t_routines := eqB_ff h
    have H := Lib.hid h; clear h
    go_wp2_with fail
    refine (eqClassInfoS_any _ _ _ _ _ (Rep.ext (((Ext.refl w).alloc _).alloc _) r_x_classes) (Rep.ext (((Ext.refl w).alloc _).alloc _) r_y_classes)).mono ?_
    rintro e w1 ⟨rfl, hx1⟩
    obtain ⟨hc1, hf1⟩ := bcell hx1
    have hz1 : w.heap.size < w1.heap.size ∧ w.heap.size + 1 < w1.heap.size := by have := hx1.size; simp only [World.size_alloc] at this; omega
    obtain ⟨hy1, hz1⟩ := hz1
    go_wp2_with fail
    refine (eqRoutineS_any _ _ _ _ _ (Rep.ext ((((Ext.refl w).alloc _).alloc _).trans hx1) r_x_routines) (Rep.ext ((((Ext.refl w).alloc _).alloc _).trans hx1) r_y_routines)).mono ?_
    rintro e w2 ⟨rfl, hx2⟩
    obtain ⟨hc2, hf2⟩ := bcell hx2
    have hz2 : w.heap.size < w2.heap.size ∧ w.heap.size + 1 < w2.heap.size := by have := hx2.size; omega
    obtain ⟨hy2, hz2⟩ := hz2
    go_wp2_with fail
    go_ret
    exact ⟨ret_ff fun e => H.out (by rw [e]), ((((Ext.refl w).alloc _).alloc _).trans hx1).trans hx2⟩
  have t_routines := eqB_tt h
  have H_routines := Lib.hid h; clear h
  by_cases h : x.main = y.main
  rotate_left
  · have t_main := eqB_ff h
    have H := Lib.hid h; clear h
    go_wp2_with fail
    refine (eqClassInfoS_any _ _ _ _ _ (Rep.ext (((Ext.refl w).alloc _).alloc _) r_x_classes) (Rep.ext (((Ext.refl w).alloc _).alloc _) r_y_classes)).mono ?_
    rintro e w1 ⟨rfl, hx1⟩
    obtain ⟨hc1, hf1⟩ := bcell hx1
    have hz1 : w.heap.size < w1.heap.size ∧ w.heap.size + 1 < w1.heap.size := by have := hx1.size; simp only [World.size_alloc] at this; omega
    obtain ⟨hy1, hz1⟩ := hz1
    go_wp2_with fail
    refine (eqRoutineS_any _ _ _ _ _ (Rep.ext ((((Ext.refl w).alloc _).alloc _).trans hx1) r_x_routines) (Rep.ext ((((Ext.refl w).alloc _).alloc _).trans hx1) r_y_routines)).mono ?_
    rintro e w2 ⟨rfl, hx2⟩
    obtain ⟨hc2, hf2⟩ := bcell hx2
    have hz2 : w.heap.size < w2.heap.size ∧ w.heap.size + 1 < w2.heap.size := by have := hx2.size; omega
    obtain ⟨hy2, hz2⟩ := hz2
    go_wp2_with fail
    refine (eqRoutine_any _ _ _ _ _ (Rep.ext (((((Ext.refl w).alloc _).alloc _).trans hx1).trans hx2) r_x_main) (Rep.ext (((((Ext.refl w).alloc _).alloc _).trans hx1).trans hx2) r_y_main)).mono ?_
    rintro e w3 ⟨rfl, hx3⟩
    obtain ⟨hc3, hf3⟩ := bcell hx3
    have hz3 : w.heap.size < w3.heap.size ∧ w.heap.size + 1 < w3.heap.size := by have := hx3.size; omega
    obtain ⟨hy3, hz3⟩ := hz3
    go_wp2_with fail
    go_ret
    exact ⟨ret_ff fun e => H.out (by rw [e]), (((((Ext.refl w).alloc _).alloc _).trans hx1).trans hx2).trans hx3⟩
  have t_main := eqB_tt h
  have H_main := Lib.hid h; clear h
  go_wp2_with fail
  refine (eqClassInfoS_any _ _ _ _ _ (Rep.ext (((Ext.refl w).alloc _).alloc _) r_x_classes) (Rep.ext (((Ext.refl w).alloc _).alloc _) r_y_classes)).mono ?_
  rintro e w1 ⟨rfl, hx1⟩
  obtain ⟨hc1, hf1⟩ := bcell hx1
  have hz1 : w.heap.size < w1.heap.size ∧ w.heap.size + 1 < w1.heap.size := by have := hx1.size; simp only [World.size_alloc] at this; omega
  obtain ⟨hy1, hz1⟩ := hz1
  go_wp2_with fail
  refine (eqRoutineS_any _ _ _ _ _ (Rep.ext ((((Ext.refl w).alloc _).alloc _).trans hx1) r_x_routines) (Rep.ext ((((Ext.refl w).alloc _).alloc _).trans hx1) r_y_routines)).mono ?_
  rintro e w2 ⟨rfl, hx2⟩
  obtain ⟨hc2, hf2⟩ := bcell hx2
  have hz2 : w.heap.size < w2.heap.size ∧ w.heap.size + 1 < w2.heap.size := by have := hx2.size; omega
  obtain ⟨hy2, hz2⟩ := hz2
  go_wp2_with fail
  refine (eqRoutine_any _ _ _ _ _ (Rep.ext (((((Ext.refl w).alloc _).alloc _).trans hx1).trans hx2) r_x_main) (Rep.ext (((((Ext.refl w).alloc _).alloc _).trans hx1).trans hx2) r_y_main)).mono ?_
  rintro e w3 ⟨rfl, hx3⟩
  obtain ⟨hc3, hf3⟩ := bcell hx3
  have hz3 : w.heap.size < w3.heap.size ∧ w.heap.size + 1 < w3.heap.size := by have := hx3.size; omega
  obtain ⟨hy3, hz3⟩ := hz3
  go_wp2_with fail
  go_ret
  refine ⟨ret_tt ?_, (((((Ext.refl w).alloc _).alloc _).trans hx1).trans hx2).trans hx3⟩
  cases x; cases y
  simp only [MSystem.mk.injEq]
  exact ⟨H_classes.out, H_routines.out, H_main.out⟩

set_option maxHeartbeats 400000 in
theorem eqValue_any (x y : MValue) (cx cy : List Value) (w : World) (rx : Rep w x.d cx) (ry : Rep w y.d cy) :
    Calls Tryz.prog 301 #[.agg cx.toArray, .agg cy.toArray] w fun e w' => e = .returned (.bool (eqB x y)) ∧ Ext w w' := by
  obtain rfl := MValue.op_en rx
  obtain rfl := MValue.op_en ry
  clear rx ry
  go_enter Tryz.func301, Tryz.ntmps301
  by_cases h : x.kind = y.kind
  rotate_left
  · have t_kind := int_nen h
    have H := Lib.hid h; clear h
    go_wp2_with fail
    go_ret
    exact ⟨ret_ff fun e => H.out (by rw [e]), ((Ext.refl w).alloc _).alloc _⟩
  have t_kind := int_eqn h
  have H_kind := Lib.hid h; clear h
  by_cases h : x.number = y.number
  rotate_left
  · have t_number := int_nen h
    have H := Lib.hid h; clear h
    go_wp2_with fail
    go_ret
    exact ⟨ret_ff fun e => H.out (by rw [e]), ((Ext.refl w).alloc _).alloc _⟩
  have t_number := int_eqn h
  have H_number := Lib.hid h; clear h
  by_cases h : x.text = y.text
  rotate_left
  · have t_text := str_nen h
    have H := Lib.hid h; clear h
    go_wp2_with fail
    go_ret
    exact ⟨ret_ff fun e => H.out (by rw [e]), ((Ext.refl w).alloc _).alloc _⟩
  have t_text := str_eqn h
  have H_text := Lib.hid h; clear h
  go_wp2_with fail
  go_ret
  refine ⟨ret_tt ?_, ((Ext.refl w).alloc _).alloc _⟩
  cases x; cases y
  simp only [MValue.mk.injEq]
  exact ⟨H_kind.out, H_number.out, H_text.out⟩

set_option maxHeartbeats 400000 in
theorem eqValueS_any (a b : List MValue) (va vb : Value) (w : World) (ra : Rep w (MValues a) [va]) (rb : Rep w (MValues b) [vb]) :
    Calls Tryz.prog 235 #[va, vb] w fun e w' => e = .returned (.bool (eqB a b)) ∧ Ext w w' := by
  obtain ⟨ao, ca, ba, oa, h1, hla, hma, pa, ha⟩ := Rep.slmap ra
  obtain ⟨bo, cb, bb, ob, h2, hlb, hmb, pb, hb⟩ := Rep.slmap rb
  simp only [List.cons.injEq, and_true] at h1 h2
  subst h1 h2
  clear ra rb
  unfold maxLen at hma hmb
  go_enter Tryz.func235, Tryz.ntmps235
  by_cases hlen : a.length = b.length
  · have hne : ((a.length : Int) != (b.length : Int)) = false := by simp [hlen]
    have HL := Lib.hid hlen; clear hlen
    go_wp2
    go_loopw [5] (fun i wr => ∃ k : Nat, k ≤ a.length ∧ i = .int .i64 k ∧ Ext w wr ∧ Hid (∀ j, j < k → a[j]? = b[j]?)) (fun i _ => a.length - (intOf i).toNat)
    case atStart => exact ⟨0, Nat.zero_le _, rfl, Ext.refl _, fun j hj => by omega⟩
    case round =>
      obtain ⟨k, hk, rfl, hx, heq⟩ := hrel
      by_cases hlt : k < a.length
      · have hltb : k < b.length := by have := HL.out; omega
        obtain rfl := pa (by omega)
        obtain rfl := pb (by omega)
        obtain ⟨ea, la, ca, ra⟩ := ha k a[k] (by simp [hlt])
        obtain rfl := MValue.op_en ra
        have a0 := reg hx (show w.cell? ⟨ba, oa + k * 3, none⟩ = some _ from ca 0 (by omega))
        have a1 := reg hx (show w.cell? ⟨ba, oa + k * 3 + 1, none⟩ = some _ from ca 1 (by omega))
        have a2 := reg hx (show w.cell? ⟨ba, oa + k * 3 + 2, none⟩ = some _ from ca 2 (by omega))
        clear ca la
        obtain ⟨eb, lb, cb, rb⟩ := hb k b[k] (by simp [hltb])
        obtain rfl := MValue.op_en rb
        have b0 := reg hx (show w.cell? ⟨bb, ob + k * 3, none⟩ = some _ from cb 0 (by omega))
        have b1 := reg hx (show w.cell? ⟨bb, ob + k * 3 + 1, none⟩ = some _ from cb 1 (by omega))
        have b2 := reg hx (show w.cell? ⟨bb, ob + k * 3 + 2, none⟩ = some _ from cb 2 (by omega))
        clear cb lb
        clear ha hb pa pb
        by_cases hs : a[k] = b[k]
        · have ht := eqB_tt hs
          have HS := Lib.hid hs; clear hs
          go_wp2_with fail
          refine wp_region_quiet_below (by kernel_rfl) (by kernel_rfl) ?_
          repeat (quiet_step (exact Calls.regrown_of (eqValue_any _ _ _ _ _ (Rep.ext (hx.trans (below_regrown _ _ _)) ra) (Rep.ext (hx.trans (below_regrown _ _ _)) rb))))
          refine wpQuiet_nil ?_
          clear a0 a1 a2 b0 b1 b2
          intro _ hw'
          obtain ⟨pw, hw''⟩ := hw'
          subst hw''
          go_wp2
          go_roundw
          case rel => exact ⟨k + 1, by omega, by go_num, hx.trans (regx _ _), fun j hj => by
            by_cases h : j < k
            · exact heq.out j h
            · obtain rfl : j = k := by omega
              simp [hlt, hltb, HS.out]⟩
          case measure => simp [intOf]; omega
        · have ht := eqB_ff hs
          have HS := Lib.hid hs; clear hs
          go_wp2_with fail
          refine wp_region_quiet_below (by kernel_rfl) (by kernel_rfl) ?_
          repeat (quiet_step (exact Calls.regrown_of (eqValue_any _ _ _ _ _ (Rep.ext (hx.trans (below_regrown _ _ _)) ra) (Rep.ext (hx.trans (below_regrown _ _ _)) rb))))
          refine wpQuiet_nil ?_
          clear a0 a1 a2 b0 b1 b2
          intro _ hw'
          obtain ⟨pw, hw''⟩ := hw'
          subst hw''
          go_wp2
          go_ret
          exact ⟨ret_ff fun h => HS.out (by subst h; rfl), hx.trans (regx _ _)⟩
      · go_wp2
        go_ret
        have hl := HL.out
        obtain rfl : k = a.length := by omega
        refine ⟨ret_tt ?_, hx⟩
        exact List.ext_getElem? fun j => by
          by_cases hj : j < a.length
          · exact heq.out j hj
          · simp [List.getElem?_eq_none_iff.2 (show a.length ≤ j by omega), List.getElem?_eq_none_iff.2 (show b.length ≤ j by omega)]
  · have hne : ((a.length : Int) != (b.length : Int)) = true := by simp; omega
    have HL := Lib.hid hlen; clear hlen
    go_wp2
    go_ret
    exact ⟨ret_ff fun h => HL.out (by rw [h]), Ext.refl _⟩

set_option maxHeartbeats 400000 in
theorem eqObject_any (x y : MObject) (cx cy : List Value) (w : World) (rx : Rep w x.d cx) (ry : Rep w y.d cy) :
    Calls Tryz.prog 149 #[.agg cx.toArray, .agg cy.toArray] w fun e w' => e = .returned (.bool (eqB x y)) ∧ Ext w w' := by
  obtain ⟨a_x_fields, c_x_fields, a_x_numbers, c_x_numbers, rfl, r_x_fields, r_x_numbers⟩ := MObject.op_en rx
  obtain ⟨a_y_fields, c_y_fields, a_y_numbers, c_y_numbers, rfl, r_y_fields, r_y_numbers⟩ := MObject.op_en ry
  clear rx ry
  go_enter Tryz.func149, Tryz.ntmps149
  by_cases h : x.kind = y.kind
  rotate_left
  · have t_kind := int_nen h
    have H := Lib.hid h; clear h
    go_wp2_with fail
    go_ret
    exact ⟨ret_ff fun e => H.out (by rw [e]), ((Ext.refl w).alloc _).alloc _⟩
  have t_kind := int_eqn h
  have H_kind := Lib.hid h; clear h
  by_cases h : x.cls = y.cls
  rotate_left
  · have t_cls := int_nen h
    have H := Lib.hid h; clear h
    go_wp2_with fail
    go_ret
    exact ⟨ret_ff fun e => H.out (by rw [e]), ((Ext.refl w).alloc _).alloc _⟩
  have t_cls := int_eqn h
  have H_cls := Lib.hid h; clear h
  by_cases h : x.fields = y.fields
  rotate_left
  · have t_fields := eqB_ff h
    have H := Lib.hid h; clear h
    go_wp2_with fail
    refine (eqValueS_any _ _ _ _ _ (Rep.ext (((Ext.refl w).alloc _).alloc _) r_x_fields) (Rep.ext (((Ext.refl w).alloc _).alloc _) r_y_fields)).mono ?_
    rintro e w1 ⟨rfl, hx1⟩
    obtain ⟨hc1, hf1⟩ := bcell hx1
    have hz1 : w.heap.size < w1.heap.size ∧ w.heap.size + 1 < w1.heap.size := by have := hx1.size; simp only [World.size_alloc] at this; omega
    obtain ⟨hy1, hz1⟩ := hz1
    go_wp2_with fail
    go_ret
    exact ⟨ret_ff fun e => H.out (by rw [e]), (((Ext.refl w).alloc _).alloc _).trans hx1⟩
  have t_fields := eqB_tt h
  have H_fields := Lib.hid h; clear h
  by_cases h : x.numbers = y.numbers
  rotate_left
  · have t_numbers := eqB_ff h
    have H := Lib.hid h; clear h
    go_wp2_with fail
    refine (eqValueS_any _ _ _ _ _ (Rep.ext (((Ext.refl w).alloc _).alloc _) r_x_fields) (Rep.ext (((Ext.refl w).alloc _).alloc _) r_y_fields)).mono ?_
    rintro e w1 ⟨rfl, hx1⟩
    obtain ⟨hc1, hf1⟩ := bcell hx1
    have hz1 : w.heap.size < w1.heap.size ∧ w.heap.size + 1 < w1.heap.size := by have := hx1.size; simp only [World.size_alloc] at this; omega
    obtain ⟨hy1, hz1⟩ := hz1
    go_wp2_with fail
    refine (eqIntS_any _ _ _ _ _ (Rep.ext ((((Ext.refl w).alloc _).alloc _).trans hx1) r_x_numbers) (Rep.ext ((((Ext.refl w).alloc _).alloc _).trans hx1) r_y_numbers)).mono ?_
    rintro e w2 ⟨rfl, hx2⟩
    obtain ⟨hc2, hf2⟩ := bcell hx2
    have hz2 : w.heap.size < w2.heap.size ∧ w.heap.size + 1 < w2.heap.size := by have := hx2.size; omega
    obtain ⟨hy2, hz2⟩ := hz2
    go_wp2_with fail
    go_ret
    exact ⟨ret_ff fun e => H.out (by rw [e]), ((((Ext.refl w).alloc _).alloc _).trans hx1).trans hx2⟩
  have t_numbers := eqB_tt h
  have H_numbers := Lib.hid h; clear h
  go_wp2_with fail
  refine (eqValueS_any _ _ _ _ _ (Rep.ext (((Ext.refl w).alloc _).alloc _) r_x_fields) (Rep.ext (((Ext.refl w).alloc _).alloc _) r_y_fields)).mono ?_
  rintro e w1 ⟨rfl, hx1⟩
  obtain ⟨hc1, hf1⟩ := bcell hx1
  have hz1 : w.heap.size < w1.heap.size ∧ w.heap.size + 1 < w1.heap.size := by have := hx1.size; simp only [World.size_alloc] at this; omega
  obtain ⟨hy1, hz1⟩ := hz1
  go_wp2_with fail
  refine (eqIntS_any _ _ _ _ _ (Rep.ext ((((Ext.refl w).alloc _).alloc _).trans hx1) r_x_numbers) (Rep.ext ((((Ext.refl w).alloc _).alloc _).trans hx1) r_y_numbers)).mono ?_
  rintro e w2 ⟨rfl, hx2⟩
  obtain ⟨hc2, hf2⟩ := bcell hx2
  have hz2 : w.heap.size < w2.heap.size ∧ w.heap.size + 1 < w2.heap.size := by have := hx2.size; omega
  obtain ⟨hy2, hz2⟩ := hz2
  go_wp2_with fail
  go_ret
  refine ⟨ret_tt ?_, ((((Ext.refl w).alloc _).alloc _).trans hx1).trans hx2⟩
  cases x; cases y
  simp only [MObject.mk.injEq]
  exact ⟨H_kind.out, H_cls.out, H_fields.out, H_numbers.out⟩

set_option maxHeartbeats 400000 in
theorem eqObjectS_any (a b : List MObject) (va vb : Value) (w : World) (ra : Rep w (MObjects a) [va]) (rb : Rep w (MObjects b) [vb]) :
    Calls Tryz.prog 57 #[va, vb] w fun e w' => e = .returned (.bool (eqB a b)) ∧ Ext w w' := by
  obtain ⟨ao, ca, ba, oa, h1, hla, hma, pa, ha⟩ := Rep.slmap ra
  obtain ⟨bo, cb, bb, ob, h2, hlb, hmb, pb, hb⟩ := Rep.slmap rb
  simp only [List.cons.injEq, and_true] at h1 h2
  subst h1 h2
  clear ra rb
  unfold maxLen at hma hmb
  go_enter Tryz.func57, Tryz.ntmps57
  by_cases hlen : a.length = b.length
  · have hne : ((a.length : Int) != (b.length : Int)) = false := by simp [hlen]
    have HL := Lib.hid hlen; clear hlen
    go_wp2
    go_loopw [5] (fun i wr => ∃ k : Nat, k ≤ a.length ∧ i = .int .i64 k ∧ Ext w wr ∧ Hid (∀ j, j < k → a[j]? = b[j]?)) (fun i _ => a.length - (intOf i).toNat)
    case atStart => exact ⟨0, Nat.zero_le _, rfl, Ext.refl _, fun j hj => by omega⟩
    case round =>
      obtain ⟨k, hk, rfl, hx, heq⟩ := hrel
      by_cases hlt : k < a.length
      · have hltb : k < b.length := by have := HL.out; omega
        obtain rfl := pa (by omega)
        obtain rfl := pb (by omega)
        obtain ⟨ea, la, ca, ra⟩ := ha k a[k] (by simp [hlt])
        obtain ⟨aa0, ca0, aa1, ca1, rfl, _, _⟩ := MObject.op_en ra
        have a0 := reg hx (show w.cell? ⟨ba, oa + k * 4, none⟩ = some _ from ca 0 (by omega))
        have a1 := reg hx (show w.cell? ⟨ba, oa + k * 4 + 1, none⟩ = some _ from ca 1 (by omega))
        have a2 := reg hx (show w.cell? ⟨ba, oa + k * 4 + 2, none⟩ = some _ from ca 2 (by omega))
        have a3 := reg hx (show w.cell? ⟨ba, oa + k * 4 + 3, none⟩ = some _ from ca 3 (by omega))
        clear ca la
        obtain ⟨eb, lb, cb, rb⟩ := hb k b[k] (by simp [hltb])
        obtain ⟨ab0, cb0, ab1, cb1, rfl, _, _⟩ := MObject.op_en rb
        have b0 := reg hx (show w.cell? ⟨bb, ob + k * 4, none⟩ = some _ from cb 0 (by omega))
        have b1 := reg hx (show w.cell? ⟨bb, ob + k * 4 + 1, none⟩ = some _ from cb 1 (by omega))
        have b2 := reg hx (show w.cell? ⟨bb, ob + k * 4 + 2, none⟩ = some _ from cb 2 (by omega))
        have b3 := reg hx (show w.cell? ⟨bb, ob + k * 4 + 3, none⟩ = some _ from cb 3 (by omega))
        clear cb lb
        clear ha hb pa pb
        by_cases hs : a[k] = b[k]
        · have ht := eqB_tt hs
          have HS := Lib.hid hs; clear hs
          go_wp2_with fail
          refine wp_region_quiet_below (by kernel_rfl) (by kernel_rfl) ?_
          repeat (quiet_step (exact Calls.regrown_of (eqObject_any _ _ _ _ _ (Rep.ext (hx.trans (below_regrown _ _ _)) ra) (Rep.ext (hx.trans (below_regrown _ _ _)) rb))))
          refine wpQuiet_nil ?_
          clear a0 a1 a2 a3 b0 b1 b2 b3
          intro _ hw'
          obtain ⟨pw, hw''⟩ := hw'
          subst hw''
          go_wp2
          go_roundw
          case rel => exact ⟨k + 1, by omega, by go_num, hx.trans (regx _ _), fun j hj => by
            by_cases h : j < k
            · exact heq.out j h
            · obtain rfl : j = k := by omega
              simp [hlt, hltb, HS.out]⟩
          case measure => simp [intOf]; omega
        · have ht := eqB_ff hs
          have HS := Lib.hid hs; clear hs
          go_wp2_with fail
          refine wp_region_quiet_below (by kernel_rfl) (by kernel_rfl) ?_
          repeat (quiet_step (exact Calls.regrown_of (eqObject_any _ _ _ _ _ (Rep.ext (hx.trans (below_regrown _ _ _)) ra) (Rep.ext (hx.trans (below_regrown _ _ _)) rb))))
          refine wpQuiet_nil ?_
          clear a0 a1 a2 a3 b0 b1 b2 b3
          intro _ hw'
          obtain ⟨pw, hw''⟩ := hw'
          subst hw''
          go_wp2
          go_ret
          exact ⟨ret_ff fun h => HS.out (by subst h; rfl), hx.trans (regx _ _)⟩
      · go_wp2
        go_ret
        have hl := HL.out
        obtain rfl : k = a.length := by omega
        refine ⟨ret_tt ?_, hx⟩
        exact List.ext_getElem? fun j => by
          by_cases hj : j < a.length
          · exact heq.out j hj
          · simp [List.getElem?_eq_none_iff.2 (show a.length ≤ j by omega), List.getElem?_eq_none_iff.2 (show b.length ≤ j by omega)]
  · have hne : ((a.length : Int) != (b.length : Int)) = true := by simp; omega
    have HL := Lib.hid hlen; clear hlen
    go_wp2
    go_ret
    exact ⟨ret_ff fun h => HL.out (by rw [h]), Ext.refl _⟩

set_option maxHeartbeats 400000 in
theorem eqStore_any (x y : MStore) (cx cy : List Value) (w : World) (rx : Rep w x.d cx) (ry : Rep w y.d cy) :
    Calls Tryz.prog 15 #[.agg cx.toArray, .agg cy.toArray] w fun e w' => e = .returned (.bool (eqB x y)) ∧ Ext w w' := by
  obtain ⟨a_x_classes, c_x_classes, a_x_objects, c_x_objects, a_x_output, c_x_output, rfl, r_x_classes, r_x_objects, r_x_output⟩ := MStore.op_en rx
  obtain ⟨a_y_classes, c_y_classes, a_y_objects, c_y_objects, a_y_output, c_y_output, rfl, r_y_classes, r_y_objects, r_y_output⟩ := MStore.op_en ry
  clear rx ry
  go_enter Tryz.func15, Tryz.ntmps15
  by_cases h : x.classes = y.classes
  rotate_left
  · have t_classes := eqB_ff h
    have H := Lib.hid h; clear h
    go_wp2_with fail
    refine (eqClassInfoS_any _ _ _ _ _ (Rep.ext (((Ext.refl w).alloc _).alloc _) r_x_classes) (Rep.ext (((Ext.refl w).alloc _).alloc _) r_y_classes)).mono ?_
    rintro e w1 ⟨rfl, hx1⟩
    obtain ⟨hc1, hf1⟩ := bcell hx1
    have hz1 : w.heap.size < w1.heap.size ∧ w.heap.size + 1 < w1.heap.size := by have := hx1.size; simp only [World.size_alloc] at this; omega
    obtain ⟨hy1, hz1⟩ := hz1
    go_wp2_with fail
    go_ret
    exact ⟨ret_ff fun e => H.out (by rw [e]), (((Ext.refl w).alloc _).alloc _).trans hx1⟩
  have t_classes := eqB_tt h
  have H_classes := Lib.hid h; clear h
  by_cases h : x.objects = y.objects
  rotate_left
  · have t_objects := eqB_ff h
    have H := Lib.hid h; clear h
    go_wp2_with fail
    refine (eqClassInfoS_any _ _ _ _ _ (Rep.ext (((Ext.refl w).alloc _).alloc _) r_x_classes) (Rep.ext (((Ext.refl w).alloc _).alloc _) r_y_classes)).mono ?_
    rintro e w1 ⟨rfl, hx1⟩
    obtain ⟨hc1, hf1⟩ := bcell hx1
    have hz1 : w.heap.size < w1.heap.size ∧ w.heap.size + 1 < w1.heap.size := by have := hx1.size; simp only [World.size_alloc] at this; omega
    obtain ⟨hy1, hz1⟩ := hz1
    go_wp2_with fail
    refine (eqObjectS_any _ _ _ _ _ (Rep.ext ((((Ext.refl w).alloc _).alloc _).trans hx1) r_x_objects) (Rep.ext ((((Ext.refl w).alloc _).alloc _).trans hx1) r_y_objects)).mono ?_
    rintro e w2 ⟨rfl, hx2⟩
    obtain ⟨hc2, hf2⟩ := bcell hx2
    have hz2 : w.heap.size < w2.heap.size ∧ w.heap.size + 1 < w2.heap.size := by have := hx2.size; omega
    obtain ⟨hy2, hz2⟩ := hz2
    go_wp2_with fail
    go_ret
    exact ⟨ret_ff fun e => H.out (by rw [e]), ((((Ext.refl w).alloc _).alloc _).trans hx1).trans hx2⟩
  have t_objects := eqB_tt h
  have H_objects := Lib.hid h; clear h
  by_cases h : x.output = y.output
  rotate_left
  · have t_output := eqB_ff h
    have H := Lib.hid h; clear h
    go_wp2_with fail
    refine (eqClassInfoS_any _ _ _ _ _ (Rep.ext (((Ext.refl w).alloc _).alloc _) r_x_classes) (Rep.ext (((Ext.refl w).alloc _).alloc _) r_y_classes)).mono ?_
    rintro e w1 ⟨rfl, hx1⟩
    obtain ⟨hc1, hf1⟩ := bcell hx1
    have hz1 : w.heap.size < w1.heap.size ∧ w.heap.size + 1 < w1.heap.size := by have := hx1.size; simp only [World.size_alloc] at this; omega
    obtain ⟨hy1, hz1⟩ := hz1
    go_wp2_with fail
    refine (eqObjectS_any _ _ _ _ _ (Rep.ext ((((Ext.refl w).alloc _).alloc _).trans hx1) r_x_objects) (Rep.ext ((((Ext.refl w).alloc _).alloc _).trans hx1) r_y_objects)).mono ?_
    rintro e w2 ⟨rfl, hx2⟩
    obtain ⟨hc2, hf2⟩ := bcell hx2
    have hz2 : w.heap.size < w2.heap.size ∧ w.heap.size + 1 < w2.heap.size := by have := hx2.size; omega
    obtain ⟨hy2, hz2⟩ := hz2
    go_wp2_with fail
    refine (eqStringS_any _ _ _ _ _ (Rep.ext (((((Ext.refl w).alloc _).alloc _).trans hx1).trans hx2) r_x_output) (Rep.ext (((((Ext.refl w).alloc _).alloc _).trans hx1).trans hx2) r_y_output)).mono ?_
    rintro e w3 ⟨rfl, hx3⟩
    obtain ⟨hc3, hf3⟩ := bcell hx3
    have hz3 : w.heap.size < w3.heap.size ∧ w.heap.size + 1 < w3.heap.size := by have := hx3.size; omega
    obtain ⟨hy3, hz3⟩ := hz3
    go_wp2_with fail
    go_ret
    exact ⟨ret_ff fun e => H.out (by rw [e]), (((((Ext.refl w).alloc _).alloc _).trans hx1).trans hx2).trans hx3⟩
  have t_output := eqB_tt h
  have H_output := Lib.hid h; clear h
  by_cases h : x.ticks = y.ticks
  rotate_left
  · have t_ticks := int_nen h
    have H := Lib.hid h; clear h
    go_wp2_with fail
    refine (eqClassInfoS_any _ _ _ _ _ (Rep.ext (((Ext.refl w).alloc _).alloc _) r_x_classes) (Rep.ext (((Ext.refl w).alloc _).alloc _) r_y_classes)).mono ?_
    rintro e w1 ⟨rfl, hx1⟩
    obtain ⟨hc1, hf1⟩ := bcell hx1
    have hz1 : w.heap.size < w1.heap.size ∧ w.heap.size + 1 < w1.heap.size := by have := hx1.size; simp only [World.size_alloc] at this; omega
    obtain ⟨hy1, hz1⟩ := hz1
    go_wp2_with fail
    refine (eqObjectS_any _ _ _ _ _ (Rep.ext ((((Ext.refl w).alloc _).alloc _).trans hx1) r_x_objects) (Rep.ext ((((Ext.refl w).alloc _).alloc _).trans hx1) r_y_objects)).mono ?_
    rintro e w2 ⟨rfl, hx2⟩
    obtain ⟨hc2, hf2⟩ := bcell hx2
    have hz2 : w.heap.size < w2.heap.size ∧ w.heap.size + 1 < w2.heap.size := by have := hx2.size; omega
    obtain ⟨hy2, hz2⟩ := hz2
    go_wp2_with fail
    refine (eqStringS_any _ _ _ _ _ (Rep.ext (((((Ext.refl w).alloc _).alloc _).trans hx1).trans hx2) r_x_output) (Rep.ext (((((Ext.refl w).alloc _).alloc _).trans hx1).trans hx2) r_y_output)).mono ?_
    rintro e w3 ⟨rfl, hx3⟩
    obtain ⟨hc3, hf3⟩ := bcell hx3
    have hz3 : w.heap.size < w3.heap.size ∧ w.heap.size + 1 < w3.heap.size := by have := hx3.size; omega
    obtain ⟨hy3, hz3⟩ := hz3
    go_wp2_with fail
    go_ret
    exact ⟨ret_ff fun e => H.out (by rw [e]), (((((Ext.refl w).alloc _).alloc _).trans hx1).trans hx2).trans hx3⟩
  have t_ticks := int_eqn h
  have H_ticks := Lib.hid h; clear h
  by_cases h : x.budget = y.budget
  rotate_left
  · have t_budget := int_nen h
    have H := Lib.hid h; clear h
    go_wp2_with fail
    refine (eqClassInfoS_any _ _ _ _ _ (Rep.ext (((Ext.refl w).alloc _).alloc _) r_x_classes) (Rep.ext (((Ext.refl w).alloc _).alloc _) r_y_classes)).mono ?_
    rintro e w1 ⟨rfl, hx1⟩
    obtain ⟨hc1, hf1⟩ := bcell hx1
    have hz1 : w.heap.size < w1.heap.size ∧ w.heap.size + 1 < w1.heap.size := by have := hx1.size; simp only [World.size_alloc] at this; omega
    obtain ⟨hy1, hz1⟩ := hz1
    go_wp2_with fail
    refine (eqObjectS_any _ _ _ _ _ (Rep.ext ((((Ext.refl w).alloc _).alloc _).trans hx1) r_x_objects) (Rep.ext ((((Ext.refl w).alloc _).alloc _).trans hx1) r_y_objects)).mono ?_
    rintro e w2 ⟨rfl, hx2⟩
    obtain ⟨hc2, hf2⟩ := bcell hx2
    have hz2 : w.heap.size < w2.heap.size ∧ w.heap.size + 1 < w2.heap.size := by have := hx2.size; omega
    obtain ⟨hy2, hz2⟩ := hz2
    go_wp2_with fail
    refine (eqStringS_any _ _ _ _ _ (Rep.ext (((((Ext.refl w).alloc _).alloc _).trans hx1).trans hx2) r_x_output) (Rep.ext (((((Ext.refl w).alloc _).alloc _).trans hx1).trans hx2) r_y_output)).mono ?_
    rintro e w3 ⟨rfl, hx3⟩
    obtain ⟨hc3, hf3⟩ := bcell hx3
    have hz3 : w.heap.size < w3.heap.size ∧ w.heap.size + 1 < w3.heap.size := by have := hx3.size; omega
    obtain ⟨hy3, hz3⟩ := hz3
    go_wp2_with fail
    go_ret
    exact ⟨ret_ff fun e => H.out (by rw [e]), (((((Ext.refl w).alloc _).alloc _).trans hx1).trans hx2).trans hx3⟩
  have t_budget := int_eqn h
  have H_budget := Lib.hid h; clear h
  by_cases h : x.made = y.made
  rotate_left
  · have t_made := int_nen h
    have H := Lib.hid h; clear h
    go_wp2_with fail
    refine (eqClassInfoS_any _ _ _ _ _ (Rep.ext (((Ext.refl w).alloc _).alloc _) r_x_classes) (Rep.ext (((Ext.refl w).alloc _).alloc _) r_y_classes)).mono ?_
    rintro e w1 ⟨rfl, hx1⟩
    obtain ⟨hc1, hf1⟩ := bcell hx1
    have hz1 : w.heap.size < w1.heap.size ∧ w.heap.size + 1 < w1.heap.size := by have := hx1.size; simp only [World.size_alloc] at this; omega
    obtain ⟨hy1, hz1⟩ := hz1
    go_wp2_with fail
    refine (eqObjectS_any _ _ _ _ _ (Rep.ext ((((Ext.refl w).alloc _).alloc _).trans hx1) r_x_objects) (Rep.ext ((((Ext.refl w).alloc _).alloc _).trans hx1) r_y_objects)).mono ?_
    rintro e w2 ⟨rfl, hx2⟩
    obtain ⟨hc2, hf2⟩ := bcell hx2
    have hz2 : w.heap.size < w2.heap.size ∧ w.heap.size + 1 < w2.heap.size := by have := hx2.size; omega
    obtain ⟨hy2, hz2⟩ := hz2
    go_wp2_with fail
    refine (eqStringS_any _ _ _ _ _ (Rep.ext (((((Ext.refl w).alloc _).alloc _).trans hx1).trans hx2) r_x_output) (Rep.ext (((((Ext.refl w).alloc _).alloc _).trans hx1).trans hx2) r_y_output)).mono ?_
    rintro e w3 ⟨rfl, hx3⟩
    obtain ⟨hc3, hf3⟩ := bcell hx3
    have hz3 : w.heap.size < w3.heap.size ∧ w.heap.size + 1 < w3.heap.size := by have := hx3.size; omega
    obtain ⟨hy3, hz3⟩ := hz3
    go_wp2_with fail
    go_ret
    exact ⟨ret_ff fun e => H.out (by rw [e]), (((((Ext.refl w).alloc _).alloc _).trans hx1).trans hx2).trans hx3⟩
  have t_made := int_eqn h
  have H_made := Lib.hid h; clear h
  go_wp2_with fail
  refine (eqClassInfoS_any _ _ _ _ _ (Rep.ext (((Ext.refl w).alloc _).alloc _) r_x_classes) (Rep.ext (((Ext.refl w).alloc _).alloc _) r_y_classes)).mono ?_
  rintro e w1 ⟨rfl, hx1⟩
  obtain ⟨hc1, hf1⟩ := bcell hx1
  have hz1 : w.heap.size < w1.heap.size ∧ w.heap.size + 1 < w1.heap.size := by have := hx1.size; simp only [World.size_alloc] at this; omega
  obtain ⟨hy1, hz1⟩ := hz1
  go_wp2_with fail
  refine (eqObjectS_any _ _ _ _ _ (Rep.ext ((((Ext.refl w).alloc _).alloc _).trans hx1) r_x_objects) (Rep.ext ((((Ext.refl w).alloc _).alloc _).trans hx1) r_y_objects)).mono ?_
  rintro e w2 ⟨rfl, hx2⟩
  obtain ⟨hc2, hf2⟩ := bcell hx2
  have hz2 : w.heap.size < w2.heap.size ∧ w.heap.size + 1 < w2.heap.size := by have := hx2.size; omega
  obtain ⟨hy2, hz2⟩ := hz2
  go_wp2_with fail
  refine (eqStringS_any _ _ _ _ _ (Rep.ext (((((Ext.refl w).alloc _).alloc _).trans hx1).trans hx2) r_x_output) (Rep.ext (((((Ext.refl w).alloc _).alloc _).trans hx1).trans hx2) r_y_output)).mono ?_
  rintro e w3 ⟨rfl, hx3⟩
  obtain ⟨hc3, hf3⟩ := bcell hx3
  have hz3 : w.heap.size < w3.heap.size ∧ w.heap.size + 1 < w3.heap.size := by have := hx3.size; omega
  obtain ⟨hy3, hz3⟩ := hz3
  go_wp2_with fail
  go_ret
  refine ⟨ret_tt ?_, (((((Ext.refl w).alloc _).alloc _).trans hx1).trans hx2).trans hx3⟩
  cases x; cases y
  simp only [MStore.mk.injEq]
  exact ⟨H_classes.out, H_objects.out, H_output.out, H_ticks.out, H_budget.out, H_made.out⟩

set_option maxHeartbeats 400000 in
theorem eqInstr_any (x y : MInstr) (cx cy : List Value) (w : World) (rx : Rep w x.d cx) (ry : Rep w y.d cy) :
    Calls Tryz.prog 324 #[.agg cx.toArray, .agg cy.toArray] w fun e w' => e = .returned (.bool (eqB x y)) ∧ Ext w w' := by
  obtain rfl := MInstr.op_en rx
  obtain rfl := MInstr.op_en ry
  clear rx ry
  go_enter Tryz.func324, Tryz.ntmps324
  by_cases h : x.op = y.op
  rotate_left
  · have t_op := int_nen h
    have H := Lib.hid h; clear h
    go_wp2_with fail
    go_ret
    exact ⟨ret_ff fun e => H.out (by rw [e]), ((Ext.refl w).alloc _).alloc _⟩
  have t_op := int_eqn h
  have H_op := Lib.hid h; clear h
  by_cases h : x.a = y.a
  rotate_left
  · have t_a := int_nen h
    have H := Lib.hid h; clear h
    go_wp2_with fail
    go_ret
    exact ⟨ret_ff fun e => H.out (by rw [e]), ((Ext.refl w).alloc _).alloc _⟩
  have t_a := int_eqn h
  have H_a := Lib.hid h; clear h
  by_cases h : x.b = y.b
  rotate_left
  · have t_b := int_nen h
    have H := Lib.hid h; clear h
    go_wp2_with fail
    go_ret
    exact ⟨ret_ff fun e => H.out (by rw [e]), ((Ext.refl w).alloc _).alloc _⟩
  have t_b := int_eqn h
  have H_b := Lib.hid h; clear h
  by_cases h : x.text = y.text
  rotate_left
  · have t_text := str_nen h
    have H := Lib.hid h; clear h
    go_wp2_with fail
    go_ret
    exact ⟨ret_ff fun e => H.out (by rw [e]), ((Ext.refl w).alloc _).alloc _⟩
  have t_text := str_eqn h
  have H_text := Lib.hid h; clear h
  go_wp2_with fail
  go_ret
  refine ⟨ret_tt ?_, ((Ext.refl w).alloc _).alloc _⟩
  cases x; cases y
  simp only [MInstr.mk.injEq]
  exact ⟨H_op.out, H_a.out, H_b.out, H_text.out⟩

set_option maxHeartbeats 400000 in
theorem eqInstrS_any (a b : List MInstr) (va vb : Value) (w : World) (ra : Rep w (MInstrs a) [va]) (rb : Rep w (MInstrs b) [vb]) :
    Calls Tryz.prog 264 #[va, vb] w fun e w' => e = .returned (.bool (eqB a b)) ∧ Ext w w' := by
  obtain ⟨ao, ca, ba, oa, h1, hla, hma, pa, ha⟩ := Rep.slmap ra
  obtain ⟨bo, cb, bb, ob, h2, hlb, hmb, pb, hb⟩ := Rep.slmap rb
  simp only [List.cons.injEq, and_true] at h1 h2
  subst h1 h2
  clear ra rb
  unfold maxLen at hma hmb
  go_enter Tryz.func264, Tryz.ntmps264
  by_cases hlen : a.length = b.length
  · have hne : ((a.length : Int) != (b.length : Int)) = false := by simp [hlen]
    have HL := Lib.hid hlen; clear hlen
    go_wp2
    go_loopw [5] (fun i wr => ∃ k : Nat, k ≤ a.length ∧ i = .int .i64 k ∧ Ext w wr ∧ Hid (∀ j, j < k → a[j]? = b[j]?)) (fun i _ => a.length - (intOf i).toNat)
    case atStart => exact ⟨0, Nat.zero_le _, rfl, Ext.refl _, fun j hj => by omega⟩
    case round =>
      obtain ⟨k, hk, rfl, hx, heq⟩ := hrel
      by_cases hlt : k < a.length
      · have hltb : k < b.length := by have := HL.out; omega
        obtain rfl := pa (by omega)
        obtain rfl := pb (by omega)
        obtain ⟨ea, la, ca, ra⟩ := ha k a[k] (by simp [hlt])
        obtain rfl := MInstr.op_en ra
        have a0 := reg hx (show w.cell? ⟨ba, oa + k * 4, none⟩ = some _ from ca 0 (by omega))
        have a1 := reg hx (show w.cell? ⟨ba, oa + k * 4 + 1, none⟩ = some _ from ca 1 (by omega))
        have a2 := reg hx (show w.cell? ⟨ba, oa + k * 4 + 2, none⟩ = some _ from ca 2 (by omega))
        have a3 := reg hx (show w.cell? ⟨ba, oa + k * 4 + 3, none⟩ = some _ from ca 3 (by omega))
        clear ca la
        obtain ⟨eb, lb, cb, rb⟩ := hb k b[k] (by simp [hltb])
        obtain rfl := MInstr.op_en rb
        have b0 := reg hx (show w.cell? ⟨bb, ob + k * 4, none⟩ = some _ from cb 0 (by omega))
        have b1 := reg hx (show w.cell? ⟨bb, ob + k * 4 + 1, none⟩ = some _ from cb 1 (by omega))
        have b2 := reg hx (show w.cell? ⟨bb, ob + k * 4 + 2, none⟩ = some _ from cb 2 (by omega))
        have b3 := reg hx (show w.cell? ⟨bb, ob + k * 4 + 3, none⟩ = some _ from cb 3 (by omega))
        clear cb lb
        clear ha hb pa pb
        by_cases hs : a[k] = b[k]
        · have ht := eqB_tt hs
          have HS := Lib.hid hs; clear hs
          go_wp2_with fail
          refine wp_region_quiet_below (by kernel_rfl) (by kernel_rfl) ?_
          repeat (quiet_step (exact Calls.regrown_of (eqInstr_any _ _ _ _ _ (Rep.ext (hx.trans (below_regrown _ _ _)) ra) (Rep.ext (hx.trans (below_regrown _ _ _)) rb))))
          refine wpQuiet_nil ?_
          clear a0 a1 a2 a3 b0 b1 b2 b3
          intro _ hw'
          obtain ⟨pw, hw''⟩ := hw'
          subst hw''
          go_wp2
          go_roundw
          case rel => exact ⟨k + 1, by omega, by go_num, hx.trans (regx _ _), fun j hj => by
            by_cases h : j < k
            · exact heq.out j h
            · obtain rfl : j = k := by omega
              simp [hlt, hltb, HS.out]⟩
          case measure => simp [intOf]; omega
        · have ht := eqB_ff hs
          have HS := Lib.hid hs; clear hs
          go_wp2_with fail
          refine wp_region_quiet_below (by kernel_rfl) (by kernel_rfl) ?_
          repeat (quiet_step (exact Calls.regrown_of (eqInstr_any _ _ _ _ _ (Rep.ext (hx.trans (below_regrown _ _ _)) ra) (Rep.ext (hx.trans (below_regrown _ _ _)) rb))))
          refine wpQuiet_nil ?_
          clear a0 a1 a2 a3 b0 b1 b2 b3
          intro _ hw'
          obtain ⟨pw, hw''⟩ := hw'
          subst hw''
          go_wp2
          go_ret
          exact ⟨ret_ff fun h => HS.out (by subst h; rfl), hx.trans (regx _ _)⟩
      · go_wp2
        go_ret
        have hl := HL.out
        obtain rfl : k = a.length := by omega
        refine ⟨ret_tt ?_, hx⟩
        exact List.ext_getElem? fun j => by
          by_cases hj : j < a.length
          · exact heq.out j hj
          · simp [List.getElem?_eq_none_iff.2 (show a.length ≤ j by omega), List.getElem?_eq_none_iff.2 (show b.length ≤ j by omega)]
  · have hne : ((a.length : Int) != (b.length : Int)) = true := by simp; omega
    have HL := Lib.hid hlen; clear hlen
    go_wp2
    go_ret
    exact ⟨ret_ff fun h => HL.out (by rw [h]), Ext.refl _⟩

set_option maxHeartbeats 400000 in
theorem eqCode_any (x y : MCode) (cx cy : List Value) (w : World) (rx : Rep w x.d cx) (ry : Rep w y.d cy) :
    Calls Tryz.prog 181 #[.agg cx.toArray, .agg cy.toArray] w fun e w' => e = .returned (.bool (eqB x y)) ∧ Ext w w' := by
  obtain ⟨a_x_instrs, c_x_instrs, rfl, r_x_instrs⟩ := MCode.op_en rx
  obtain ⟨a_y_instrs, c_y_instrs, rfl, r_y_instrs⟩ := MCode.op_en ry
  clear rx ry
  go_enter Tryz.func181, Tryz.ntmps181
  by_cases h : x.block = y.block
  rotate_left
  · have t_block := bool_nen h
    have H := Lib.hid h; clear h
    go_wp2_with fail
    go_ret
    exact ⟨ret_ff fun e => H.out (by rw [e]), ((Ext.refl w).alloc _).alloc _⟩
  have t_block := bool_eqn h
  have H_block := Lib.hid h; clear h
  by_cases h : x.params = y.params
  rotate_left
  · have t_params := int_nen h
    have H := Lib.hid h; clear h
    go_wp2_with fail
    go_ret
    exact ⟨ret_ff fun e => H.out (by rw [e]), ((Ext.refl w).alloc _).alloc _⟩
  have t_params := int_eqn h
  have H_params := Lib.hid h; clear h
  by_cases h : x.slots = y.slots
  rotate_left
  · have t_slots := int_nen h
    have H := Lib.hid h; clear h
    go_wp2_with fail
    go_ret
    exact ⟨ret_ff fun e => H.out (by rw [e]), ((Ext.refl w).alloc _).alloc _⟩
  have t_slots := int_eqn h
  have H_slots := Lib.hid h; clear h
  by_cases h : x.instrs = y.instrs
  rotate_left
  · have t_instrs := eqB_ff h
    have H := Lib.hid h; clear h
    go_wp2_with fail
    refine (eqInstrS_any _ _ _ _ _ (Rep.ext (((Ext.refl w).alloc _).alloc _) r_x_instrs) (Rep.ext (((Ext.refl w).alloc _).alloc _) r_y_instrs)).mono ?_
    rintro e w1 ⟨rfl, hx1⟩
    obtain ⟨hc1, hf1⟩ := bcell hx1
    have hz1 : w.heap.size < w1.heap.size ∧ w.heap.size + 1 < w1.heap.size := by have := hx1.size; simp only [World.size_alloc] at this; omega
    obtain ⟨hy1, hz1⟩ := hz1
    go_wp2_with fail
    go_ret
    exact ⟨ret_ff fun e => H.out (by rw [e]), (((Ext.refl w).alloc _).alloc _).trans hx1⟩
  have t_instrs := eqB_tt h
  have H_instrs := Lib.hid h; clear h
  go_wp2_with fail
  refine (eqInstrS_any _ _ _ _ _ (Rep.ext (((Ext.refl w).alloc _).alloc _) r_x_instrs) (Rep.ext (((Ext.refl w).alloc _).alloc _) r_y_instrs)).mono ?_
  rintro e w1 ⟨rfl, hx1⟩
  obtain ⟨hc1, hf1⟩ := bcell hx1
  have hz1 : w.heap.size < w1.heap.size ∧ w.heap.size + 1 < w1.heap.size := by have := hx1.size; simp only [World.size_alloc] at this; omega
  obtain ⟨hy1, hz1⟩ := hz1
  go_wp2_with fail
  go_ret
  refine ⟨ret_tt ?_, (((Ext.refl w).alloc _).alloc _).trans hx1⟩
  cases x; cases y
  simp only [MCode.mk.injEq]
  exact ⟨H_block.out, H_params.out, H_slots.out, H_instrs.out⟩

set_option maxHeartbeats 400000 in
theorem eqCodeS_any (a b : List MCode) (va vb : Value) (w : World) (ra : Rep w (MCodes a) [va]) (rb : Rep w (MCodes b) [vb]) :
    Calls Tryz.prog 82 #[va, vb] w fun e w' => e = .returned (.bool (eqB a b)) ∧ Ext w w' := by
  obtain ⟨ao, ca, ba, oa, h1, hla, hma, pa, ha⟩ := Rep.slmap ra
  obtain ⟨bo, cb, bb, ob, h2, hlb, hmb, pb, hb⟩ := Rep.slmap rb
  simp only [List.cons.injEq, and_true] at h1 h2
  subst h1 h2
  clear ra rb
  unfold maxLen at hma hmb
  go_enter Tryz.func82, Tryz.ntmps82
  by_cases hlen : a.length = b.length
  · have hne : ((a.length : Int) != (b.length : Int)) = false := by simp [hlen]
    have HL := Lib.hid hlen; clear hlen
    go_wp2
    go_loopw [5] (fun i wr => ∃ k : Nat, k ≤ a.length ∧ i = .int .i64 k ∧ Ext w wr ∧ Hid (∀ j, j < k → a[j]? = b[j]?)) (fun i _ => a.length - (intOf i).toNat)
    case atStart => exact ⟨0, Nat.zero_le _, rfl, Ext.refl _, fun j hj => by omega⟩
    case round =>
      obtain ⟨k, hk, rfl, hx, heq⟩ := hrel
      by_cases hlt : k < a.length
      · have hltb : k < b.length := by have := HL.out; omega
        obtain rfl := pa (by omega)
        obtain rfl := pb (by omega)
        obtain ⟨ea, la, ca, ra⟩ := ha k a[k] (by simp [hlt])
        obtain ⟨aa0, ca0, rfl, _⟩ := MCode.op_en ra
        have a0 := reg hx (show w.cell? ⟨ba, oa + k * 4, none⟩ = some _ from ca 0 (by omega))
        have a1 := reg hx (show w.cell? ⟨ba, oa + k * 4 + 1, none⟩ = some _ from ca 1 (by omega))
        have a2 := reg hx (show w.cell? ⟨ba, oa + k * 4 + 2, none⟩ = some _ from ca 2 (by omega))
        have a3 := reg hx (show w.cell? ⟨ba, oa + k * 4 + 3, none⟩ = some _ from ca 3 (by omega))
        clear ca la
        obtain ⟨eb, lb, cb, rb⟩ := hb k b[k] (by simp [hltb])
        obtain ⟨ab0, cb0, rfl, _⟩ := MCode.op_en rb
        have b0 := reg hx (show w.cell? ⟨bb, ob + k * 4, none⟩ = some _ from cb 0 (by omega))
        have b1 := reg hx (show w.cell? ⟨bb, ob + k * 4 + 1, none⟩ = some _ from cb 1 (by omega))
        have b2 := reg hx (show w.cell? ⟨bb, ob + k * 4 + 2, none⟩ = some _ from cb 2 (by omega))
        have b3 := reg hx (show w.cell? ⟨bb, ob + k * 4 + 3, none⟩ = some _ from cb 3 (by omega))
        clear cb lb
        clear ha hb pa pb
        by_cases hs : a[k] = b[k]
        · have ht := eqB_tt hs
          have HS := Lib.hid hs; clear hs
          go_wp2_with fail
          refine wp_region_quiet_below (by kernel_rfl) (by kernel_rfl) ?_
          repeat (quiet_step (exact Calls.regrown_of (eqCode_any _ _ _ _ _ (Rep.ext (hx.trans (below_regrown _ _ _)) ra) (Rep.ext (hx.trans (below_regrown _ _ _)) rb))))
          refine wpQuiet_nil ?_
          clear a0 a1 a2 a3 b0 b1 b2 b3
          intro _ hw'
          obtain ⟨pw, hw''⟩ := hw'
          subst hw''
          go_wp2
          go_roundw
          case rel => exact ⟨k + 1, by omega, by go_num, hx.trans (regx _ _), fun j hj => by
            by_cases h : j < k
            · exact heq.out j h
            · obtain rfl : j = k := by omega
              simp [hlt, hltb, HS.out]⟩
          case measure => simp [intOf]; omega
        · have ht := eqB_ff hs
          have HS := Lib.hid hs; clear hs
          go_wp2_with fail
          refine wp_region_quiet_below (by kernel_rfl) (by kernel_rfl) ?_
          repeat (quiet_step (exact Calls.regrown_of (eqCode_any _ _ _ _ _ (Rep.ext (hx.trans (below_regrown _ _ _)) ra) (Rep.ext (hx.trans (below_regrown _ _ _)) rb))))
          refine wpQuiet_nil ?_
          clear a0 a1 a2 a3 b0 b1 b2 b3
          intro _ hw'
          obtain ⟨pw, hw''⟩ := hw'
          subst hw''
          go_wp2
          go_ret
          exact ⟨ret_ff fun h => HS.out (by subst h; rfl), hx.trans (regx _ _)⟩
      · go_wp2
        go_ret
        have hl := HL.out
        obtain rfl : k = a.length := by omega
        refine ⟨ret_tt ?_, hx⟩
        exact List.ext_getElem? fun j => by
          by_cases hj : j < a.length
          · exact heq.out j hj
          · simp [List.getElem?_eq_none_iff.2 (show a.length ≤ j by omega), List.getElem?_eq_none_iff.2 (show b.length ≤ j by omega)]
  · have hne : ((a.length : Int) != (b.length : Int)) = true := by simp; omega
    have HL := Lib.hid hlen; clear hlen
    go_wp2
    go_ret
    exact ⟨ret_ff fun h => HL.out (by rw [h]), Ext.refl _⟩

set_option maxHeartbeats 400000 in
theorem eqEntry_any (x y : MEntry) (cx cy : List Value) (w : World) (rx : Rep w x.d cx) (ry : Rep w y.d cy) :
    Calls Tryz.prog 182 #[.agg cx.toArray, .agg cy.toArray] w fun e w' => e = .returned (.bool (eqB x y)) ∧ Ext w w' := by
  obtain rfl := MEntry.op_en rx
  obtain rfl := MEntry.op_en ry
  clear rx ry
  go_enter Tryz.func182, Tryz.ntmps182
  by_cases h : x.owner = y.owner
  rotate_left
  · have t_owner := int_nen h
    have H := Lib.hid h; clear h
    go_wp2_with fail
    go_ret
    exact ⟨ret_ff fun e => H.out (by rw [e]), ((Ext.refl w).alloc _).alloc _⟩
  have t_owner := int_eqn h
  have H_owner := Lib.hid h; clear h
  by_cases h : x.cls = y.cls
  rotate_left
  · have t_cls := bool_nen h
    have H := Lib.hid h; clear h
    go_wp2_with fail
    go_ret
    exact ⟨ret_ff fun e => H.out (by rw [e]), ((Ext.refl w).alloc _).alloc _⟩
  have t_cls := bool_eqn h
  have H_cls := Lib.hid h; clear h
  by_cases h : x.selector = y.selector
  rotate_left
  · have t_selector := str_nen h
    have H := Lib.hid h; clear h
    go_wp2_with fail
    go_ret
    exact ⟨ret_ff fun e => H.out (by rw [e]), ((Ext.refl w).alloc _).alloc _⟩
  have t_selector := str_eqn h
  have H_selector := Lib.hid h; clear h
  by_cases h : x.code = y.code
  rotate_left
  · have t_code := int_nen h
    have H := Lib.hid h; clear h
    go_wp2_with fail
    go_ret
    exact ⟨ret_ff fun e => H.out (by rw [e]), ((Ext.refl w).alloc _).alloc _⟩
  have t_code := int_eqn h
  have H_code := Lib.hid h; clear h
  go_wp2_with fail
  go_ret
  refine ⟨ret_tt ?_, ((Ext.refl w).alloc _).alloc _⟩
  cases x; cases y
  simp only [MEntry.mk.injEq]
  exact ⟨H_owner.out, H_cls.out, H_selector.out, H_code.out⟩

set_option maxHeartbeats 400000 in
theorem eqEntryS_any (a b : List MEntry) (va vb : Value) (w : World) (ra : Rep w (MEntrys a) [va]) (rb : Rep w (MEntrys b) [vb]) :
    Calls Tryz.prog 83 #[va, vb] w fun e w' => e = .returned (.bool (eqB a b)) ∧ Ext w w' := by
  obtain ⟨ao, ca, ba, oa, h1, hla, hma, pa, ha⟩ := Rep.slmap ra
  obtain ⟨bo, cb, bb, ob, h2, hlb, hmb, pb, hb⟩ := Rep.slmap rb
  simp only [List.cons.injEq, and_true] at h1 h2
  subst h1 h2
  clear ra rb
  unfold maxLen at hma hmb
  go_enter Tryz.func83, Tryz.ntmps83
  by_cases hlen : a.length = b.length
  · have hne : ((a.length : Int) != (b.length : Int)) = false := by simp [hlen]
    have HL := Lib.hid hlen; clear hlen
    go_wp2
    go_loopw [5] (fun i wr => ∃ k : Nat, k ≤ a.length ∧ i = .int .i64 k ∧ Ext w wr ∧ Hid (∀ j, j < k → a[j]? = b[j]?)) (fun i _ => a.length - (intOf i).toNat)
    case atStart => exact ⟨0, Nat.zero_le _, rfl, Ext.refl _, fun j hj => by omega⟩
    case round =>
      obtain ⟨k, hk, rfl, hx, heq⟩ := hrel
      by_cases hlt : k < a.length
      · have hltb : k < b.length := by have := HL.out; omega
        obtain rfl := pa (by omega)
        obtain rfl := pb (by omega)
        obtain ⟨ea, la, ca, ra⟩ := ha k a[k] (by simp [hlt])
        obtain rfl := MEntry.op_en ra
        have a0 := reg hx (show w.cell? ⟨ba, oa + k * 4, none⟩ = some _ from ca 0 (by omega))
        have a1 := reg hx (show w.cell? ⟨ba, oa + k * 4 + 1, none⟩ = some _ from ca 1 (by omega))
        have a2 := reg hx (show w.cell? ⟨ba, oa + k * 4 + 2, none⟩ = some _ from ca 2 (by omega))
        have a3 := reg hx (show w.cell? ⟨ba, oa + k * 4 + 3, none⟩ = some _ from ca 3 (by omega))
        clear ca la
        obtain ⟨eb, lb, cb, rb⟩ := hb k b[k] (by simp [hltb])
        obtain rfl := MEntry.op_en rb
        have b0 := reg hx (show w.cell? ⟨bb, ob + k * 4, none⟩ = some _ from cb 0 (by omega))
        have b1 := reg hx (show w.cell? ⟨bb, ob + k * 4 + 1, none⟩ = some _ from cb 1 (by omega))
        have b2 := reg hx (show w.cell? ⟨bb, ob + k * 4 + 2, none⟩ = some _ from cb 2 (by omega))
        have b3 := reg hx (show w.cell? ⟨bb, ob + k * 4 + 3, none⟩ = some _ from cb 3 (by omega))
        clear cb lb
        clear ha hb pa pb
        by_cases hs : a[k] = b[k]
        · have ht := eqB_tt hs
          have HS := Lib.hid hs; clear hs
          go_wp2_with fail
          refine wp_region_quiet_below (by kernel_rfl) (by kernel_rfl) ?_
          repeat (quiet_step (exact Calls.regrown_of (eqEntry_any _ _ _ _ _ (Rep.ext (hx.trans (below_regrown _ _ _)) ra) (Rep.ext (hx.trans (below_regrown _ _ _)) rb))))
          refine wpQuiet_nil ?_
          clear a0 a1 a2 a3 b0 b1 b2 b3
          intro _ hw'
          obtain ⟨pw, hw''⟩ := hw'
          subst hw''
          go_wp2
          go_roundw
          case rel => exact ⟨k + 1, by omega, by go_num, hx.trans (regx _ _), fun j hj => by
            by_cases h : j < k
            · exact heq.out j h
            · obtain rfl : j = k := by omega
              simp [hlt, hltb, HS.out]⟩
          case measure => simp [intOf]; omega
        · have ht := eqB_ff hs
          have HS := Lib.hid hs; clear hs
          go_wp2_with fail
          refine wp_region_quiet_below (by kernel_rfl) (by kernel_rfl) ?_
          repeat (quiet_step (exact Calls.regrown_of (eqEntry_any _ _ _ _ _ (Rep.ext (hx.trans (below_regrown _ _ _)) ra) (Rep.ext (hx.trans (below_regrown _ _ _)) rb))))
          refine wpQuiet_nil ?_
          clear a0 a1 a2 a3 b0 b1 b2 b3
          intro _ hw'
          obtain ⟨pw, hw''⟩ := hw'
          subst hw''
          go_wp2
          go_ret
          exact ⟨ret_ff fun h => HS.out (by subst h; rfl), hx.trans (regx _ _)⟩
      · go_wp2
        go_ret
        have hl := HL.out
        obtain rfl : k = a.length := by omega
        refine ⟨ret_tt ?_, hx⟩
        exact List.ext_getElem? fun j => by
          by_cases hj : j < a.length
          · exact heq.out j hj
          · simp [List.getElem?_eq_none_iff.2 (show a.length ≤ j by omega), List.getElem?_eq_none_iff.2 (show b.length ≤ j by omega)]
  · have hne : ((a.length : Int) != (b.length : Int)) = true := by simp; omega
    have HL := Lib.hid hlen; clear hlen
    go_wp2
    go_ret
    exact ⟨ret_ff fun h => HL.out (by rw [h]), Ext.refl _⟩

set_option maxHeartbeats 400000 in
theorem eqCodeBase_any (x y : MCodeBase) (cx cy : List Value) (w : World) (rx : Rep w x.d cx) (ry : Rep w y.d cy) :
    Calls Tryz.prog 25 #[.agg cx.toArray, .agg cy.toArray] w fun e w' => e = .returned (.bool (eqB x y)) ∧ Ext w w' := by
  obtain ⟨a_x_classes, c_x_classes, a_x_codes, c_x_codes, a_x_entries, c_x_entries, rfl, r_x_classes, r_x_codes, r_x_entries⟩ := MCodeBase.op_en rx
  obtain ⟨a_y_classes, c_y_classes, a_y_codes, c_y_codes, a_y_entries, c_y_entries, rfl, r_y_classes, r_y_codes, r_y_entries⟩ := MCodeBase.op_en ry
  clear rx ry
  go_enter Tryz.func25, Tryz.ntmps25
  by_cases h : x.classes = y.classes
  rotate_left
  · have t_classes := eqB_ff h
    have H := Lib.hid h; clear h
    go_wp2_with fail
    refine (eqClassInfoS_any _ _ _ _ _ (Rep.ext (((Ext.refl w).alloc _).alloc _) r_x_classes) (Rep.ext (((Ext.refl w).alloc _).alloc _) r_y_classes)).mono ?_
    rintro e w1 ⟨rfl, hx1⟩
    obtain ⟨hc1, hf1⟩ := bcell hx1
    have hz1 : w.heap.size < w1.heap.size ∧ w.heap.size + 1 < w1.heap.size := by have := hx1.size; simp only [World.size_alloc] at this; omega
    obtain ⟨hy1, hz1⟩ := hz1
    go_wp2_with fail
    go_ret
    exact ⟨ret_ff fun e => H.out (by rw [e]), (((Ext.refl w).alloc _).alloc _).trans hx1⟩
  have t_classes := eqB_tt h
  have H_classes := Lib.hid h; clear h
  by_cases h : x.codes = y.codes
  rotate_left
  · have t_codes := eqB_ff h
    have H := Lib.hid h; clear h
    go_wp2_with fail
    refine (eqClassInfoS_any _ _ _ _ _ (Rep.ext (((Ext.refl w).alloc _).alloc _) r_x_classes) (Rep.ext (((Ext.refl w).alloc _).alloc _) r_y_classes)).mono ?_
    rintro e w1 ⟨rfl, hx1⟩
    obtain ⟨hc1, hf1⟩ := bcell hx1
    have hz1 : w.heap.size < w1.heap.size ∧ w.heap.size + 1 < w1.heap.size := by have := hx1.size; simp only [World.size_alloc] at this; omega
    obtain ⟨hy1, hz1⟩ := hz1
    go_wp2_with fail
    refine (eqCodeS_any _ _ _ _ _ (Rep.ext ((((Ext.refl w).alloc _).alloc _).trans hx1) r_x_codes) (Rep.ext ((((Ext.refl w).alloc _).alloc _).trans hx1) r_y_codes)).mono ?_
    rintro e w2 ⟨rfl, hx2⟩
    obtain ⟨hc2, hf2⟩ := bcell hx2
    have hz2 : w.heap.size < w2.heap.size ∧ w.heap.size + 1 < w2.heap.size := by have := hx2.size; omega
    obtain ⟨hy2, hz2⟩ := hz2
    go_wp2_with fail
    go_ret
    exact ⟨ret_ff fun e => H.out (by rw [e]), ((((Ext.refl w).alloc _).alloc _).trans hx1).trans hx2⟩
  have t_codes := eqB_tt h
  have H_codes := Lib.hid h; clear h
  by_cases h : x.entries = y.entries
  rotate_left
  · have t_entries := eqB_ff h
    have H := Lib.hid h; clear h
    go_wp2_with fail
    refine (eqClassInfoS_any _ _ _ _ _ (Rep.ext (((Ext.refl w).alloc _).alloc _) r_x_classes) (Rep.ext (((Ext.refl w).alloc _).alloc _) r_y_classes)).mono ?_
    rintro e w1 ⟨rfl, hx1⟩
    obtain ⟨hc1, hf1⟩ := bcell hx1
    have hz1 : w.heap.size < w1.heap.size ∧ w.heap.size + 1 < w1.heap.size := by have := hx1.size; simp only [World.size_alloc] at this; omega
    obtain ⟨hy1, hz1⟩ := hz1
    go_wp2_with fail
    refine (eqCodeS_any _ _ _ _ _ (Rep.ext ((((Ext.refl w).alloc _).alloc _).trans hx1) r_x_codes) (Rep.ext ((((Ext.refl w).alloc _).alloc _).trans hx1) r_y_codes)).mono ?_
    rintro e w2 ⟨rfl, hx2⟩
    obtain ⟨hc2, hf2⟩ := bcell hx2
    have hz2 : w.heap.size < w2.heap.size ∧ w.heap.size + 1 < w2.heap.size := by have := hx2.size; omega
    obtain ⟨hy2, hz2⟩ := hz2
    go_wp2_with fail
    refine (eqEntryS_any _ _ _ _ _ (Rep.ext (((((Ext.refl w).alloc _).alloc _).trans hx1).trans hx2) r_x_entries) (Rep.ext (((((Ext.refl w).alloc _).alloc _).trans hx1).trans hx2) r_y_entries)).mono ?_
    rintro e w3 ⟨rfl, hx3⟩
    obtain ⟨hc3, hf3⟩ := bcell hx3
    have hz3 : w.heap.size < w3.heap.size ∧ w.heap.size + 1 < w3.heap.size := by have := hx3.size; omega
    obtain ⟨hy3, hz3⟩ := hz3
    go_wp2_with fail
    go_ret
    exact ⟨ret_ff fun e => H.out (by rw [e]), (((((Ext.refl w).alloc _).alloc _).trans hx1).trans hx2).trans hx3⟩
  have t_entries := eqB_tt h
  have H_entries := Lib.hid h; clear h
  by_cases h : x.main = y.main
  rotate_left
  · have t_main := int_nen h
    have H := Lib.hid h; clear h
    go_wp2_with fail
    refine (eqClassInfoS_any _ _ _ _ _ (Rep.ext (((Ext.refl w).alloc _).alloc _) r_x_classes) (Rep.ext (((Ext.refl w).alloc _).alloc _) r_y_classes)).mono ?_
    rintro e w1 ⟨rfl, hx1⟩
    obtain ⟨hc1, hf1⟩ := bcell hx1
    have hz1 : w.heap.size < w1.heap.size ∧ w.heap.size + 1 < w1.heap.size := by have := hx1.size; simp only [World.size_alloc] at this; omega
    obtain ⟨hy1, hz1⟩ := hz1
    go_wp2_with fail
    refine (eqCodeS_any _ _ _ _ _ (Rep.ext ((((Ext.refl w).alloc _).alloc _).trans hx1) r_x_codes) (Rep.ext ((((Ext.refl w).alloc _).alloc _).trans hx1) r_y_codes)).mono ?_
    rintro e w2 ⟨rfl, hx2⟩
    obtain ⟨hc2, hf2⟩ := bcell hx2
    have hz2 : w.heap.size < w2.heap.size ∧ w.heap.size + 1 < w2.heap.size := by have := hx2.size; omega
    obtain ⟨hy2, hz2⟩ := hz2
    go_wp2_with fail
    refine (eqEntryS_any _ _ _ _ _ (Rep.ext (((((Ext.refl w).alloc _).alloc _).trans hx1).trans hx2) r_x_entries) (Rep.ext (((((Ext.refl w).alloc _).alloc _).trans hx1).trans hx2) r_y_entries)).mono ?_
    rintro e w3 ⟨rfl, hx3⟩
    obtain ⟨hc3, hf3⟩ := bcell hx3
    have hz3 : w.heap.size < w3.heap.size ∧ w.heap.size + 1 < w3.heap.size := by have := hx3.size; omega
    obtain ⟨hy3, hz3⟩ := hz3
    go_wp2_with fail
    go_ret
    exact ⟨ret_ff fun e => H.out (by rw [e]), (((((Ext.refl w).alloc _).alloc _).trans hx1).trans hx2).trans hx3⟩
  have t_main := int_eqn h
  have H_main := Lib.hid h; clear h
  go_wp2_with fail
  refine (eqClassInfoS_any _ _ _ _ _ (Rep.ext (((Ext.refl w).alloc _).alloc _) r_x_classes) (Rep.ext (((Ext.refl w).alloc _).alloc _) r_y_classes)).mono ?_
  rintro e w1 ⟨rfl, hx1⟩
  obtain ⟨hc1, hf1⟩ := bcell hx1
  have hz1 : w.heap.size < w1.heap.size ∧ w.heap.size + 1 < w1.heap.size := by have := hx1.size; simp only [World.size_alloc] at this; omega
  obtain ⟨hy1, hz1⟩ := hz1
  go_wp2_with fail
  refine (eqCodeS_any _ _ _ _ _ (Rep.ext ((((Ext.refl w).alloc _).alloc _).trans hx1) r_x_codes) (Rep.ext ((((Ext.refl w).alloc _).alloc _).trans hx1) r_y_codes)).mono ?_
  rintro e w2 ⟨rfl, hx2⟩
  obtain ⟨hc2, hf2⟩ := bcell hx2
  have hz2 : w.heap.size < w2.heap.size ∧ w.heap.size + 1 < w2.heap.size := by have := hx2.size; omega
  obtain ⟨hy2, hz2⟩ := hz2
  go_wp2_with fail
  refine (eqEntryS_any _ _ _ _ _ (Rep.ext (((((Ext.refl w).alloc _).alloc _).trans hx1).trans hx2) r_x_entries) (Rep.ext (((((Ext.refl w).alloc _).alloc _).trans hx1).trans hx2) r_y_entries)).mono ?_
  rintro e w3 ⟨rfl, hx3⟩
  obtain ⟨hc3, hf3⟩ := bcell hx3
  have hz3 : w.heap.size < w3.heap.size ∧ w.heap.size + 1 < w3.heap.size := by have := hx3.size; omega
  obtain ⟨hy3, hz3⟩ := hz3
  go_wp2_with fail
  go_ret
  refine ⟨ret_tt ?_, (((((Ext.refl w).alloc _).alloc _).trans hx1).trans hx2).trans hx3⟩
  cases x; cases y
  simp only [MCodeBase.mk.injEq]
  exact ⟨H_classes.out, H_codes.out, H_entries.out, H_main.out⟩


end Go.Proofs.YticdmbmjlaomiaaGreatDoor
