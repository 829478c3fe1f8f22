/-
  THE LAWS' EQUALITIES.
  Conditions: those that each lemma states.
-/
import Derived.Test.YtonmcoojgkgemaaGreatDoorRows
import Derived.Test.YtonmcoojgkgemaaGreatDoorP02
namespace Go.Proofs.YtonmcoojgkgemaaGreatDoor
open Go.RowKit
set_option linter.unusedSimpArgs false
set_option linter.unusedVariables false


set_option maxHeartbeats 400000 in
theorem eqStringS_any (a b : List ByteArray) (va vb : Value) (w : World) (ra : Rep w (strs a) [va]) (rb : Rep w (strs b) [vb]) :
    Calls Tryz.prog 29 #[va, vb] w fun e w' => e = .returned (.bool (eqB a b)) ∧ Ext w w' := by
  obtain ⟨ao, ca, ba, oa, h1, hla, hma, pa, ha⟩ := Rep.strs ra
  obtain ⟨bo, cb, bb, ob, h2, hlb, hmb, pb, hb⟩ := Rep.strs rb
  simp only [List.cons.injEq, and_true] at h1 h2
  subst h1 h2
  clear ra rb
  unfold maxLen at hma hmb
  go_enter Tryz.func29, Tryz.ntmps29
  by_cases hlen : a.length = b.length
  · have hne : ((a.length : Int) != (b.length : Int)) = false := by simp [hlen]
    have HL := Lib.hid hlen; clear hlen
    go_wp2
    go_loopw [5] (fun i wr => ∃ k : Nat, k ≤ a.length ∧ i = .int .i64 k ∧ Ext w wr ∧ Hid (∀ j, j < k → a[j]? = b[j]?)) (fun i _ => a.length - (intOf i).toNat)
    case atStart => exact ⟨0, Nat.zero_le _, rfl, Ext.refl _, fun j hj => by omega⟩
    case round =>
      obtain ⟨k, hk, rfl, hx, heq⟩ := hrel
      by_cases hlt : k < a.length
      · have hltb : k < b.length := by have := HL.out; omega
        obtain rfl := pa (by omega)
        obtain rfl := pb (by omega)
        have a0 := reg hx (ha k a[k] (by simp [hlt]))
        have b0 := reg hx (hb k b[k] (by simp [hltb]))
        clear ha hb pa pb
        by_cases hs : a[k] = b[k]
        · have ht := str_eqn hs
          have HS := Lib.hid hs; clear hs
          go_wp2_with fail
          refine wp_region_quiet_below (by kernel_rfl) (by kernel_rfl) ?_
          repeat (quiet_step (fail))
          refine wpQuiet_nil ?_
          clear a0 b0
          intro _ hw'
          obtain ⟨pw, hw''⟩ := hw'
          subst hw''
          go_wp2
          go_roundw
          case rel => exact ⟨k + 1, by omega, by go_num, hx.trans (regx _ _), fun j hj => by
            by_cases h : j < k
            · exact heq.out j h
            · obtain rfl : j = k := by omega
              simp [hlt, hltb, HS.out]⟩
          case measure => simp [intOf]; omega
        · have ht := str_nen hs
          have HS := Lib.hid hs; clear hs
          go_wp2_with fail
          refine wp_region_quiet_below (by kernel_rfl) (by kernel_rfl) ?_
          repeat (quiet_step (fail))
          refine wpQuiet_nil ?_
          clear a0 b0
          intro _ hw'
          obtain ⟨pw, hw''⟩ := hw'
          subst hw''
          go_wp2
          go_ret
          exact ⟨ret_ff fun h => HS.out (by subst h; rfl), hx.trans (regx _ _)⟩
      · go_wp2
        go_ret
        have hl := HL.out
        obtain rfl : k = a.length := by omega
        refine ⟨ret_tt ?_, hx⟩
        exact List.ext_getElem? fun j => by
          by_cases hj : j < a.length
          · exact heq.out j hj
          · simp [List.getElem?_eq_none_iff.2 (show a.length ≤ j by omega), List.getElem?_eq_none_iff.2 (show b.length ≤ j by omega)]
  · have hne : ((a.length : Int) != (b.length : Int)) = true := by simp; omega
    have HL := Lib.hid hlen; clear hlen
    go_wp2
    go_ret
    exact ⟨ret_ff fun h => HL.out (by rw [h]), Ext.refl _⟩

set_option maxHeartbeats 400000 in
theorem eqExprS_of (n : Nat) (ih : Hid (∀ (x y : MExpr) (cx cy : List Value) (w : World), SizeOf.sizeOf x < n → Rep w x.d cx → Rep w y.d cy → Calls Tryz.prog 8 #[.agg cx.toArray, .agg cy.toArray] w fun e w' => e = .returned (.bool (eqB x y)) ∧ Ext w w')) (a b : List MExpr) (va vb : Value) (w : World) (hn : Hid (∀ x, x ∈ a → SizeOf.sizeOf x < n)) (ra : Rep w (MExprs a) [va]) (rb : Rep w (MExprs b) [vb]) :
    Calls Tryz.prog 30 #[va, vb] w fun e w' => e = .returned (.bool (eqB a b)) ∧ Ext w w' := by
  obtain ⟨ao, ca, ba, oa, h1, hla, hma, pa, ha⟩ := Rep.slmap ra
  obtain ⟨bo, cb, bb, ob, h2, hlb, hmb, pb, hb⟩ := Rep.slmap rb
  simp only [List.cons.injEq, and_true] at h1 h2
  subst h1 h2
  clear ra rb
  unfold maxLen at hma hmb
  go_enter Tryz.func30, Tryz.ntmps30
  by_cases hlen : a.length = b.length
  · have hne : ((a.length : Int) != (b.length : Int)) = false := by simp [hlen]
    have HL := Lib.hid hlen; clear hlen
    go_wp2
    go_loopw [5] (fun i wr => ∃ k : Nat, k ≤ a.length ∧ i = .int .i64 k ∧ Ext w wr ∧ Hid (∀ j, j < k → a[j]? = b[j]?)) (fun i _ => a.length - (intOf i).toNat)
    case atStart => exact ⟨0, Nat.zero_le _, rfl, Ext.refl _, fun j hj => by omega⟩
    case round =>
      obtain ⟨k, hk, rfl, hx, heq⟩ := hrel
      by_cases hlt : k < a.length
      · have hltb : k < b.length := by have := HL.out; omega
        obtain rfl := pa (by omega)
        obtain rfl := pb (by omega)
        obtain ⟨ea, la, ca, ra⟩ := ha k a[k] (by simp [hlt])
        obtain ⟨aa0, ca0, aa1, ca1, rfl, _, _⟩ := MExpr.op_en ra
        have a0 := reg hx (show w.cell? ⟨ba, oa + k * 5, none⟩ = some _ from ca 0 (by omega))
        have a1 := reg hx (show w.cell? ⟨ba, oa + k * 5 + 1, none⟩ = some _ from ca 1 (by omega))
        have a2 := reg hx (show w.cell? ⟨ba, oa + k * 5 + 2, none⟩ = some _ from ca 2 (by omega))
        have a3 := reg hx (show w.cell? ⟨ba, oa + k * 5 + 3, none⟩ = some _ from ca 3 (by omega))
        have a4 := reg hx (show w.cell? ⟨ba, oa + k * 5 + 4, none⟩ = some _ from ca 4 (by omega))
        clear ca la
        obtain ⟨eb, lb, cb, rb⟩ := hb k b[k] (by simp [hltb])
        obtain ⟨ab0, cb0, ab1, cb1, rfl, _, _⟩ := MExpr.op_en rb
        have b0 := reg hx (show w.cell? ⟨bb, ob + k * 5, none⟩ = some _ from cb 0 (by omega))
        have b1 := reg hx (show w.cell? ⟨bb, ob + k * 5 + 1, none⟩ = some _ from cb 1 (by omega))
        have b2 := reg hx (show w.cell? ⟨bb, ob + k * 5 + 2, none⟩ = some _ from cb 2 (by omega))
        have b3 := reg hx (show w.cell? ⟨bb, ob + k * 5 + 3, none⟩ = some _ from cb 3 (by omega))
        have b4 := reg hx (show w.cell? ⟨bb, ob + k * 5 + 4, none⟩ = some _ from cb 4 (by omega))
        clear cb lb
        clear ha hb pa pb
        by_cases hs : a[k] = b[k]
        · have ht := eqB_tt hs
          have HS := Lib.hid hs; clear hs
          go_wp2_with fail
          refine wp_region_quiet_below (by kernel_rfl) (by kernel_rfl) ?_
          repeat (quiet_step (exact Calls.regrown_of (ih.out _ _ _ _ _ (hn.out _ (List.getElem_mem hlt)) (Rep.ext (hx.trans (below_regrown _ _ _)) ra) (Rep.ext (hx.trans (below_regrown _ _ _)) rb))))
          refine wpQuiet_nil ?_
          clear a0 a1 a2 a3 a4 b0 b1 b2 b3 b4
          intro _ hw'
          obtain ⟨pw, hw''⟩ := hw'
          subst hw''
          go_wp2
          go_roundw
          case rel => exact ⟨k + 1, by omega, by go_num, hx.trans (regx _ _), fun j hj => by
            by_cases h : j < k
            · exact heq.out j h
            · obtain rfl : j = k := by omega
              simp [hlt, hltb, HS.out]⟩
          case measure => simp [intOf]; omega
        · have ht := eqB_ff hs
          have HS := Lib.hid hs; clear hs
          go_wp2_with fail
          refine wp_region_quiet_below (by kernel_rfl) (by kernel_rfl) ?_
          repeat (quiet_step (exact Calls.regrown_of (ih.out _ _ _ _ _ (hn.out _ (List.getElem_mem hlt)) (Rep.ext (hx.trans (below_regrown _ _ _)) ra) (Rep.ext (hx.trans (below_regrown _ _ _)) rb))))
          refine wpQuiet_nil ?_
          clear a0 a1 a2 a3 a4 b0 b1 b2 b3 b4
          intro _ hw'
          obtain ⟨pw, hw''⟩ := hw'
          subst hw''
          go_wp2
          go_ret
          exact ⟨ret_ff fun h => HS.out (by subst h; rfl), hx.trans (regx _ _)⟩
      · go_wp2
        go_ret
        have hl := HL.out
        obtain rfl : k = a.length := by omega
        refine ⟨ret_tt ?_, hx⟩
        exact List.ext_getElem? fun j => by
          by_cases hj : j < a.length
          · exact heq.out j hj
          · simp [List.getElem?_eq_none_iff.2 (show a.length ≤ j by omega), List.getElem?_eq_none_iff.2 (show b.length ≤ j by omega)]
  · have hne : ((a.length : Int) != (b.length : Int)) = true := by simp; omega
    have HL := Lib.hid hlen; clear hlen
    go_wp2
    go_ret
    exact ⟨ret_ff fun h => HL.out (by rw [h]), Ext.refl _⟩

set_option maxHeartbeats 400000 in
theorem eqExpr_of (n : Nat) (ih : Hid (∀ (a b : List MExpr) (va vb : Value) (w : World), (∀ x, x ∈ a → SizeOf.sizeOf x < n) → Rep w (MExprs a) [va] → Rep w (MExprs b) [vb] → Calls Tryz.prog 30 #[va, vb] w fun e w' => e = .returned (.bool (eqB a b)) ∧ Ext w w')) (x y : MExpr) (cx cy : List Value) (w : World) (hn : Hid (SizeOf.sizeOf x < n + 1)) (rx : Rep w x.d cx) (ry : Rep w y.d cy) :
    Calls Tryz.prog 8 #[.agg cx.toArray, .agg cy.toArray] w fun e w' => e = .returned (.bool (eqB x y)) ∧ Ext w w' := by
  have hk : Hid (∀ z, z ∈ x.kids → SizeOf.sizeOf z < n) := Lib.hid fun z hz => by have := MExpr.kid_lt hz; have := hn.out; omega
  obtain ⟨a_x_names, c_x_names, a_x_kids, c_x_kids, rfl, r_x_names, r_x_kids⟩ := MExpr.op_en rx
  obtain ⟨a_y_names, c_y_names, a_y_kids, c_y_kids, rfl, r_y_names, r_y_kids⟩ := MExpr.op_en ry
  clear rx ry
  go_enter Tryz.func8, Tryz.ntmps8
  by_cases h : x.kind = y.kind
  rotate_left
  · have t_kind := int_nen h
    have H := Lib.hid h; clear h
    go_wp2_with fail
    go_ret
    exact ⟨ret_ff fun e => H.out (by rw [e]), ((Ext.refl w).alloc _).alloc _⟩
  have t_kind := int_eqn h
  have H_kind := Lib.hid h; clear h
  by_cases h : x.text = y.text
  rotate_left
  · have t_text := str_nen h
    have H := Lib.hid h; clear h
    go_wp2_with fail
    go_ret
    exact ⟨ret_ff fun e => H.out (by rw [e]), ((Ext.refl w).alloc _).alloc _⟩
  have t_text := str_eqn h
  have H_text := Lib.hid h; clear h
  by_cases h : x.number = y.number
  rotate_left
  · have t_number := int_nen h
    have H := Lib.hid h; clear h
    go_wp2_with fail
    go_ret
    exact ⟨ret_ff fun e => H.out (by rw [e]), ((Ext.refl w).alloc _).alloc _⟩
  have t_number := int_eqn h
  have H_number := Lib.hid h; clear h
  by_cases h : x.names = y.names
  rotate_left
  · have t_names := eqB_ff h
    have H := Lib.hid h; clear h
    go_wp2_with fail
    refine (eqStringS_any _ _ _ _ _ (Rep.ext (((Ext.refl w).alloc _).alloc _) r_x_names) (Rep.ext (((Ext.refl w).alloc _).alloc _) r_y_names)).mono ?_
    rintro e w1 ⟨rfl, hx1⟩
    obtain ⟨hc1, hf1⟩ := bcell hx1
    have hz1 : w.heap.size < w1.heap.size ∧ w.heap.size + 1 < w1.heap.size := by have := hx1.size; simp only [World.size_alloc] at this; omega
    obtain ⟨hy1, hz1⟩ := hz1
    go_wp2_with fail
    go_ret
    exact ⟨ret_ff fun e => H.out (by rw [e]), (((Ext.refl w).alloc _).alloc _).trans hx1⟩
  have t_names := eqB_tt h
  have H_names := Lib.hid h; clear h
  by_cases h : x.kids = y.kids
  rotate_left
  · have t_kids := eqB_ff h
    have H := Lib.hid h; clear h
    go_wp2_with fail
    refine (eqStringS_any _ _ _ _ _ (Rep.ext (((Ext.refl w).alloc _).alloc _) r_x_names) (Rep.ext (((Ext.refl w).alloc _).alloc _) r_y_names)).mono ?_
    rintro e w1 ⟨rfl, hx1⟩
    obtain ⟨hc1, hf1⟩ := bcell hx1
    have hz1 : w.heap.size < w1.heap.size ∧ w.heap.size + 1 < w1.heap.size := by have := hx1.size; simp only [World.size_alloc] at this; omega
    obtain ⟨hy1, hz1⟩ := hz1
    go_wp2_with fail
    refine (ih.out _ _ _ _ _ hk.out (Rep.ext ((((Ext.refl w).alloc _).alloc _).trans hx1) r_x_kids) (Rep.ext ((((Ext.refl w).alloc _).alloc _).trans hx1) r_y_kids)).mono ?_
    rintro e w2 ⟨rfl, hx2⟩
    obtain ⟨hc2, hf2⟩ := bcell hx2
    have hz2 : w.heap.size < w2.heap.size ∧ w.heap.size + 1 < w2.heap.size := by have := hx2.size; omega
    obtain ⟨hy2, hz2⟩ := hz2
    go_wp2_with fail
    go_ret
    exact ⟨ret_ff fun e => H.out (by rw [e]), ((((Ext.refl w).alloc _).alloc _).trans hx1).trans hx2⟩
  have t_kids := eqB_tt h
  have H_kids := Lib.hid h; clear h
  go_wp2_with fail
  refine (eqStringS_any _ _ _ _ _ (Rep.ext (((Ext.refl w).alloc _).alloc _) r_x_names) (Rep.ext (((Ext.refl w).alloc _).alloc _) r_y_names)).mono ?_
  rintro e w1 ⟨rfl, hx1⟩
  obtain ⟨hc1, hf1⟩ := bcell hx1
  have hz1 : w.heap.size < w1.heap.size ∧ w.heap.size + 1 < w1.heap.size := by have := hx1.size; simp only [World.size_alloc] at this; omega
  obtain ⟨hy1, hz1⟩ := hz1
  go_wp2_with fail
  refine (ih.out _ _ _ _ _ hk.out (Rep.ext ((((Ext.refl w).alloc _).alloc _).trans hx1) r_x_kids) (Rep.ext ((((Ext.refl w).alloc _).alloc _).trans hx1) r_y_kids)).mono ?_
  rintro e w2 ⟨rfl, hx2⟩
  obtain ⟨hc2, hf2⟩ := bcell hx2
  have hz2 : w.heap.size < w2.heap.size ∧ w.heap.size + 1 < w2.heap.size := by have := hx2.size; omega
  obtain ⟨hy2, hz2⟩ := hz2
  go_wp2_with fail
  go_ret
  refine ⟨ret_tt ?_, ((((Ext.refl w).alloc _).alloc _).trans hx1).trans hx2⟩
  cases x; cases y
  simp only [MExpr.mk.injEq]
  exact ⟨H_kind.out, H_text.out, H_number.out, H_names.out, H_kids.out⟩

theorem eqExpr_lt : ∀ (n : Nat) (x y : MExpr) (cx cy : List Value) (w : World), SizeOf.sizeOf x < n → Rep w x.d cx → Rep w y.d cy →
    Calls Tryz.prog 8 #[.agg cx.toArray, .agg cy.toArray] w fun e w' => e = .returned (.bool (eqB x y)) ∧ Ext w w' := by
  intro n
  induction n with
  | zero => intro x y cx cy w h; omega
  | succ n ih => exact fun x y cx cy w h rx ry => eqExpr_of n (Lib.hid fun a b va vb w hn ra rb => eqExprS_of n (Lib.hid ih) a b va vb w (Lib.hid hn) ra rb) x y cx cy w (Lib.hid h) rx ry
theorem eqExpr_any (x y : MExpr) (cx cy : List Value) (w : World) (rx : Rep w x.d cx) (ry : Rep w y.d cy) :
    Calls Tryz.prog 8 #[.agg cx.toArray, .agg cy.toArray] w fun e w' => e = .returned (.bool (eqB x y)) ∧ Ext w w' := eqExpr_lt _ x y cx cy w (Nat.lt_succ_self _) rx ry
theorem eqExprS_any (a b : List MExpr) (va vb : Value) (w : World) (ra : Rep w (MExprs a) [va]) (rb : Rep w (MExprs b) [vb]) :
    Calls Tryz.prog 30 #[va, vb] w fun e w' => e = .returned (.bool (eqB a b)) ∧ Ext w w' :=
  eqExprS_of (SizeOf.sizeOf a) (Lib.hid fun x y cx cy w _ rx ry => eqExpr_any x y cx cy w rx ry) a b va vb w (Lib.hid fun _ hx => List.sizeOf_lt_of_mem hx) ra rb

set_option maxHeartbeats 400000 in
theorem eqMethod_any (x y : MMethod) (cx cy : List Value) (w : World) (rx : Rep w x.d cx) (ry : Rep w y.d cy) :
    Calls Tryz.prog 13 #[.agg cx.toArray, .agg cy.toArray] w fun e w' => e = .returned (.bool (eqB x y)) ∧ Ext w w' := by
  obtain ⟨a_x_params, c_x_params, a_x_temps, c_x_temps, a_x_body, c_x_body, rfl, r_x_params, r_x_temps, r_x_body⟩ := MMethod.op_en rx
  obtain ⟨a_y_params, c_y_params, a_y_temps, c_y_temps, a_y_body, c_y_body, rfl, r_y_params, r_y_temps, r_y_body⟩ := MMethod.op_en ry
  clear rx ry
  go_enter Tryz.func13, Tryz.ntmps13
  by_cases h : x.selector = y.selector
  rotate_left
  · have t_selector := str_nen h
    have H := Lib.hid h; clear h
    go_wp2_with fail
    go_ret
    exact ⟨ret_ff fun e => H.out (by rw [e]), ((Ext.refl w).alloc _).alloc _⟩
  have t_selector := str_eqn h
  have H_selector := Lib.hid h; clear h
  by_cases h : x.cls = y.cls
  rotate_left
  · have t_cls := bool_nen h
    have H := Lib.hid h; clear h
    go_wp2_with fail
    go_ret
    exact ⟨ret_ff fun e => H.out (by rw [e]), ((Ext.refl w).alloc _).alloc _⟩
  have t_cls := bool_eqn h
  have H_cls := Lib.hid h; clear h
  by_cases h : x.params = y.params
  rotate_left
  · have t_params := eqB_ff h
    have H := Lib.hid h; clear h
    go_wp2_with fail
    refine (eqStringS_any _ _ _ _ _ (Rep.ext (((Ext.refl w).alloc _).alloc _) r_x_params) (Rep.ext (((Ext.refl w).alloc _).alloc _) r_y_params)).mono ?_
    rintro e w1 ⟨rfl, hx1⟩
    obtain ⟨hc1, hf1⟩ := bcell hx1
    have hz1 : w.heap.size < w1.heap.size ∧ w.heap.size + 1 < w1.heap.size := by have := hx1.size; simp only [World.size_alloc] at this; omega
    obtain ⟨hy1, hz1⟩ := hz1
    go_wp2_with fail
    go_ret
    exact ⟨ret_ff fun e => H.out (by rw [e]), (((Ext.refl w).alloc _).alloc _).trans hx1⟩
  have t_params := eqB_tt h
  have H_params := Lib.hid h; clear h
  by_cases h : x.temps = y.temps
  rotate_left
  · have t_temps := eqB_ff h
    have H := Lib.hid h; clear h
    go_wp2_with fail
    refine (eqStringS_any _ _ _ _ _ (Rep.ext (((Ext.refl w).alloc _).alloc _) r_x_params) (Rep.ext (((Ext.refl w).alloc _).alloc _) r_y_params)).mono ?_
    rintro e w1 ⟨rfl, hx1⟩
    obtain ⟨hc1, hf1⟩ := bcell hx1
    have hz1 : w.heap.size < w1.heap.size ∧ w.heap.size + 1 < w1.heap.size := by have := hx1.size; simp only [World.size_alloc] at this; omega
    obtain ⟨hy1, hz1⟩ := hz1
    go_wp2_with fail
    refine (eqStringS_any _ _ _ _ _ (Rep.ext ((((Ext.refl w).alloc _).alloc _).trans hx1) r_x_temps) (Rep.ext ((((Ext.refl w).alloc _).alloc _).trans hx1) r_y_temps)).mono ?_
    rintro e w2 ⟨rfl, hx2⟩
    obtain ⟨hc2, hf2⟩ := bcell hx2
    have hz2 : w.heap.size < w2.heap.size ∧ w.heap.size + 1 < w2.heap.size := by have := hx2.size; omega
    obtain ⟨hy2, hz2⟩ := hz2
    go_wp2_with fail
    go_ret
    exact ⟨ret_ff fun e => H.out (by rw [e]), ((((Ext.refl w).alloc _).alloc _).trans hx1).trans hx2⟩
  have t_temps := eqB_tt h
  have H_temps := Lib.hid h; clear h
  by_cases h : x.body = y.body
  rotate_left
  · have t_body := eqB_ff h
    have H := Lib.hid h; clear h
    go_wp2_with fail
    refine (eqStringS_any _ _ _ _ _ (Rep.ext (((Ext.refl w).alloc _).alloc _) r_x_params) (Rep.ext (((Ext.refl w).alloc _).alloc _) r_y_params)).mono ?_
    rintro e w1 ⟨rfl, hx1⟩
    obtain ⟨hc1, hf1⟩ := bcell hx1
    have hz1 : w.heap.size < w1.heap.size ∧ w.heap.size + 1 < w1.heap.size := by have := hx1.size; simp only [World.size_alloc] at this; omega
    obtain ⟨hy1, hz1⟩ := hz1
    go_wp2_with fail
    refine (eqStringS_any _ _ _ _ _ (Rep.ext ((((Ext.refl w).alloc _).alloc _).trans hx1) r_x_temps) (Rep.ext ((((Ext.refl w).alloc _).alloc _).trans hx1) r_y_temps)).mono ?_
    rintro e w2 ⟨rfl, hx2⟩
    obtain ⟨hc2, hf2⟩ := bcell hx2
    have hz2 : w.heap.size < w2.heap.size ∧ w.heap.size + 1 < w2.heap.size := by have := hx2.size; omega
    obtain ⟨hy2, hz2⟩ := hz2
    go_wp2_with fail
    refine (eqExprS_any _ _ _ _ _ (Rep.ext (((((Ext.refl w).alloc _).alloc _).trans hx1).trans hx2) r_x_body) (Rep.ext (((((Ext.refl w).alloc _).alloc _).trans hx1).trans hx2) r_y_body)).mono ?_
    rintro e w3 ⟨rfl, hx3⟩
    obtain ⟨hc3, hf3⟩ := bcell hx3
    have hz3 : w.heap.size < w3.heap.size ∧ w.heap.size + 1 < w3.heap.size := by have := hx3.size; omega
    obtain ⟨hy3, hz3⟩ := hz3
    go_wp2_with fail
    go_ret
    exact ⟨ret_ff fun e => H.out (by rw [e]), (((((Ext.refl w).alloc _).alloc _).trans hx1).trans hx2).trans hx3⟩
  have t_body := eqB_tt h
  have H_body := Lib.hid h; clear h
  go_wp2_with fail
  refine (eqStringS_any _ _ _ _ _ (Rep.ext (((Ext.refl w).alloc _).alloc _) r_x_params) (Rep.ext (((Ext.refl w).alloc _).alloc _) r_y_params)).mono ?_
  rintro e w1 ⟨rfl, hx1⟩
  obtain ⟨hc1, hf1⟩ := bcell hx1
  have hz1 : w.heap.size < w1.heap.size ∧ w.heap.size + 1 < w1.heap.size := by have := hx1.size; simp only [World.size_alloc] at this; omega
  obtain ⟨hy1, hz1⟩ := hz1
  go_wp2_with fail
  refine (eqStringS_any _ _ _ _ _ (Rep.ext ((((Ext.refl w).alloc _).alloc _).trans hx1) r_x_temps) (Rep.ext ((((Ext.refl w).alloc _).alloc _).trans hx1) r_y_temps)).mono ?_
  rintro e w2 ⟨rfl, hx2⟩
  obtain ⟨hc2, hf2⟩ := bcell hx2
  have hz2 : w.heap.size < w2.heap.size ∧ w.heap.size + 1 < w2.heap.size := by have := hx2.size; omega
  obtain ⟨hy2, hz2⟩ := hz2
  go_wp2_with fail
  refine (eqExprS_any _ _ _ _ _ (Rep.ext (((((Ext.refl w).alloc _).alloc _).trans hx1).trans hx2) r_x_body) (Rep.ext (((((Ext.refl w).alloc _).alloc _).trans hx1).trans hx2) r_y_body)).mono ?_
  rintro e w3 ⟨rfl, hx3⟩
  obtain ⟨hc3, hf3⟩ := bcell hx3
  have hz3 : w.heap.size < w3.heap.size ∧ w.heap.size + 1 < w3.heap.size := by have := hx3.size; omega
  obtain ⟨hy3, hz3⟩ := hz3
  go_wp2_with fail
  go_ret
  refine ⟨ret_tt ?_, (((((Ext.refl w).alloc _).alloc _).trans hx1).trans hx2).trans hx3⟩
  cases x; cases y
  simp only [MMethod.mk.injEq]
  exact ⟨H_selector.out, H_cls.out, H_params.out, H_temps.out, H_body.out⟩

set_option maxHeartbeats 400000 in
theorem eqMethodS_any (a b : List MMethod) (va vb : Value) (w : World) (ra : Rep w (MMethods a) [va]) (rb : Rep w (MMethods b) [vb]) :
    Calls Tryz.prog 132 #[va, vb] w fun e w' => e = .returned (.bool (eqB a b)) ∧ Ext w w' := by
  obtain ⟨ao, ca, ba, oa, h1, hla, hma, pa, ha⟩ := Rep.slmap ra
  obtain ⟨bo, cb, bb, ob, h2, hlb, hmb, pb, hb⟩ := Rep.slmap rb
  simp only [List.cons.injEq, and_true] at h1 h2
  subst h1 h2
  clear ra rb
  unfold maxLen at hma hmb
  go_enter Tryz.func132, Tryz.ntmps132
  by_cases hlen : a.length = b.length
  · have hne : ((a.length : Int) != (b.length : Int)) = false := by simp [hlen]
    have HL := Lib.hid hlen; clear hlen
    go_wp2
    go_loopw [5] (fun i wr => ∃ k : Nat, k ≤ a.length ∧ i = .int .i64 k ∧ Ext w wr ∧ Hid (∀ j, j < k → a[j]? = b[j]?)) (fun i _ => a.length - (intOf i).toNat)
    case atStart => exact ⟨0, Nat.zero_le _, rfl, Ext.refl _, fun j hj => by omega⟩
    case round =>
      obtain ⟨k, hk, rfl, hx, heq⟩ := hrel
      by_cases hlt : k < a.length
      · have hltb : k < b.length := by have := HL.out; omega
        obtain rfl := pa (by omega)
        obtain rfl := pb (by omega)
        obtain ⟨ea, la, ca, ra⟩ := ha k a[k] (by simp [hlt])
        obtain ⟨aa0, ca0, aa1, ca1, aa2, ca2, rfl, _, _, _⟩ := MMethod.op_en ra
        have a0 := reg hx (show w.cell? ⟨ba, oa + k * 5, none⟩ = some _ from ca 0 (by omega))
        have a1 := reg hx (show w.cell? ⟨ba, oa + k * 5 + 1, none⟩ = some _ from ca 1 (by omega))
        have a2 := reg hx (show w.cell? ⟨ba, oa + k * 5 + 2, none⟩ = some _ from ca 2 (by omega))
        have a3 := reg hx (show w.cell? ⟨ba, oa + k * 5 + 3, none⟩ = some _ from ca 3 (by omega))
        have a4 := reg hx (show w.cell? ⟨ba, oa + k * 5 + 4, none⟩ = some _ from ca 4 (by omega))
        clear ca la
        obtain ⟨eb, lb, cb, rb⟩ := hb k b[k] (by simp [hltb])
        obtain ⟨ab0, cb0, ab1, cb1, ab2, cb2, rfl, _, _, _⟩ := MMethod.op_en rb
        have b0 := reg hx (show w.cell? ⟨bb, ob + k * 5, none⟩ = some _ from cb 0 (by omega))
        have b1 := reg hx (show w.cell? ⟨bb, ob + k * 5 + 1, none⟩ = some _ from cb 1 (by omega))
        have b2 := reg hx (show w.cell? ⟨bb, ob + k * 5 + 2, none⟩ = some _ from cb 2 (by omega))
        have b3 := reg hx (show w.cell? ⟨bb, ob + k * 5 + 3, none⟩ = some _ from cb 3 (by omega))
        have b4 := reg hx (show w.cell? ⟨bb, ob + k * 5 + 4, none⟩ = some _ from cb 4 (by omega))
        clear cb lb
        clear ha hb pa pb
        by_cases hs : a[k] = b[k]
        · have ht := eqB_tt hs
          have HS := Lib.hid hs; clear hs
          go_wp2_with fail
          refine wp_region_quiet_below (by kernel_rfl) (by kernel_rfl) ?_
          repeat (quiet_step (exact Calls.regrown_of (eqMethod_any _ _ _ _ _ (Rep.ext (hx.trans (below_regrown _ _ _)) ra) (Rep.ext (hx.trans (below_regrown _ _ _)) rb))))
          refine wpQuiet_nil ?_
          clear a0 a1 a2 a3 a4 b0 b1 b2 b3 b4
          intro _ hw'
          obtain ⟨pw, hw''⟩ := hw'
          subst hw''
          go_wp2
          go_roundw
          case rel => exact ⟨k + 1, by omega, by go_num, hx.trans (regx _ _), fun j hj => by
            by_cases h : j < k
            · exact heq.out j h
            · obtain rfl : j = k := by omega
              simp [hlt, hltb, HS.out]⟩
          case measure => simp [intOf]; omega
        · have ht := eqB_ff hs
          have HS := Lib.hid hs; clear hs
          go_wp2_with fail
          refine wp_region_quiet_below (by kernel_rfl) (by kernel_rfl) ?_
          repeat (quiet_step (exact Calls.regrown_of (eqMethod_any _ _ _ _ _ (Rep.ext (hx.trans (below_regrown _ _ _)) ra) (Rep.ext (hx.trans (below_regrown _ _ _)) rb))))
          refine wpQuiet_nil ?_
          clear a0 a1 a2 a3 a4 b0 b1 b2 b3 b4
          intro _ hw'
          obtain ⟨pw, hw''⟩ := hw'
          subst hw''
          go_wp2
          go_ret
          exact ⟨ret_ff fun h => HS.out (by subst h; rfl), hx.trans (regx _ _)⟩
      · go_wp2
        go_ret
        have hl := HL.out
        obtain rfl : k = a.length := by omega
        refine ⟨ret_tt ?_, hx⟩
        exact List.ext_getElem? fun j => by
          by_cases hj : j < a.length
          · exact heq.out j hj
          · simp [List.getElem?_eq_none_iff.2 (show a.length ≤ j by omega), List.getElem?_eq_none_iff.2 (show b.length ≤ j by omega)]
  · have hne : ((a.length : Int) != (b.length : Int)) = true := by simp; omega
    have HL := Lib.hid hlen; clear hlen
    go_wp2
    go_ret
    exact ⟨ret_ff fun h => HL.out (by rw [h]), Ext.refl _⟩

set_option maxHeartbeats 400000 in
theorem eqClassDef_any (x y : MClassDef) (cx cy : List Value) (w : World) (rx : Rep w x.d cx) (ry : Rep w y.d cy) :
    Calls Tryz.prog 90 #[.agg cx.toArray, .agg cy.toArray] w fun e w' => e = .returned (.bool (eqB x y)) ∧ Ext w w' := by
  obtain ⟨a_x_fields, c_x_fields, a_x_methods, c_x_methods, rfl, r_x_fields, r_x_methods⟩ := MClassDef.op_en rx
  obtain ⟨a_y_fields, c_y_fields, a_y_methods, c_y_methods, rfl, r_y_fields, r_y_methods⟩ := MClassDef.op_en ry
  clear rx ry
  go_enter Tryz.func90, Tryz.ntmps90
  by_cases h : x.name = y.name
  rotate_left
  · have t_name := str_nen h
    have H := Lib.hid h; clear h
    go_wp2_with fail
    go_ret
    exact ⟨ret_ff fun e => H.out (by rw [e]), ((Ext.refl w).alloc _).alloc _⟩
  have t_name := str_eqn h
  have H_name := Lib.hid h; clear h
  by_cases h : x.parent = y.parent
  rotate_left
  · have t_parent := str_nen h
    have H := Lib.hid h; clear h
    go_wp2_with fail
    go_ret
    exact ⟨ret_ff fun e => H.out (by rw [e]), ((Ext.refl w).alloc _).alloc _⟩
  have t_parent := str_eqn h
  have H_parent := Lib.hid h; clear h
  by_cases h : x.fields = y.fields
  rotate_left
  · have t_fields := eqB_ff h
    have H := Lib.hid h; clear h
    go_wp2_with fail
    refine (eqStringS_any _ _ _ _ _ (Rep.ext (((Ext.refl w).alloc _).alloc _) r_x_fields) (Rep.ext (((Ext.refl w).alloc _).alloc _) r_y_fields)).mono ?_
    rintro e w1 ⟨rfl, hx1⟩
    obtain ⟨hc1, hf1⟩ := bcell hx1
    have hz1 : w.heap.size < w1.heap.size ∧ w.heap.size + 1 < w1.heap.size := by have := hx1.size; simp only [World.size_alloc] at this; omega
    obtain ⟨hy1, hz1⟩ := hz1
    go_wp2_with fail
    go_ret
    exact ⟨ret_ff fun e => H.out (by rw [e]), (((Ext.refl w).alloc _).alloc _).trans hx1⟩
  have t_fields := eqB_tt h
  have H_fields := Lib.hid h; clear h
  by_cases h : x.methods = y.methods
  rotate_left
  · have t_methods := eqB_ff h
    have H := Lib.hid h; clear h
    go_wp2_with fail
    refine (eqStringS_any _ _ _ _ _ (Rep.ext (((Ext.refl w).alloc _).alloc _) r_x_fields) (Rep.ext (((Ext.refl w).alloc _).alloc _) r_y_fields)).mono ?_
    rintro e w1 ⟨rfl, hx1⟩
    obtain ⟨hc1, hf1⟩ := bcell hx1
    have hz1 : w.heap.size < w1.heap.size ∧ w.heap.size + 1 < w1.heap.size := by have := hx1.size; simp only [World.size_alloc] at this; omega
    obtain ⟨hy1, hz1⟩ := hz1
    go_wp2_with fail
    refine (eqMethodS_any _ _ _ _ _ (Rep.ext ((((Ext.refl w).alloc _).alloc _).trans hx1) r_x_methods) (Rep.ext ((((Ext.refl w).alloc _).alloc _).trans hx1) r_y_methods)).mono ?_
    rintro e w2 ⟨rfl, hx2⟩
    obtain ⟨hc2, hf2⟩ := bcell hx2
    have hz2 : w.heap.size < w2.heap.size ∧ w.heap.size + 1 < w2.heap.size := by have := hx2.size; omega
    obtain ⟨hy2, hz2⟩ := hz2
    go_wp2_with fail
    go_ret
    exact ⟨ret_ff fun e => H.out (by rw [e]), ((((Ext.refl w).alloc _).alloc _).trans hx1).trans hx2⟩
  have t_methods := eqB_tt h
  have H_methods := Lib.hid h; clear h
  go_wp2_with fail
  refine (eqStringS_any _ _ _ _ _ (Rep.ext (((Ext.refl w).alloc _).alloc _) r_x_fields) (Rep.ext (((Ext.refl w).alloc _).alloc _) r_y_fields)).mono ?_
  rintro e w1 ⟨rfl, hx1⟩
  obtain ⟨hc1, hf1⟩ := bcell hx1
  have hz1 : w.heap.size < w1.heap.size ∧ w.heap.size + 1 < w1.heap.size := by have := hx1.size; simp only [World.size_alloc] at this; omega
  obtain ⟨hy1, hz1⟩ := hz1
  go_wp2_with fail
  refine (eqMethodS_any _ _ _ _ _ (Rep.ext ((((Ext.refl w).alloc _).alloc _).trans hx1) r_x_methods) (Rep.ext ((((Ext.refl w).alloc _).alloc _).trans hx1) r_y_methods)).mono ?_
  rintro e w2 ⟨rfl, hx2⟩
  obtain ⟨hc2, hf2⟩ := bcell hx2
  have hz2 : w.heap.size < w2.heap.size ∧ w.heap.size + 1 < w2.heap.size := by have := hx2.size; omega
  obtain ⟨hy2, hz2⟩ := hz2
  go_wp2_with fail
  go_ret
  refine ⟨ret_tt ?_, ((((Ext.refl w).alloc _).alloc _).trans hx1).trans hx2⟩
  cases x; cases y
  simp only [MClassDef.mk.injEq]
  exact ⟨H_name.out, H_parent.out, H_fields.out, H_methods.out⟩

set_option maxHeartbeats 400000 in
theorem eqClassDefS_any (a b : List MClassDef) (va vb : Value) (w : World) (ra : Rep w (MClassDefs a) [va]) (rb : Rep w (MClassDefs b) [vb]) :
    Calls Tryz.prog 52 #[va, vb] w fun e w' => e = .returned (.bool (eqB a b)) ∧ Ext w w' := by
  obtain ⟨ao, ca, ba, oa, h1, hla, hma, pa, ha⟩ := Rep.slmap ra
  obtain ⟨bo, cb, bb, ob, h2, hlb, hmb, pb, hb⟩ := Rep.slmap rb
  simp only [List.cons.injEq, and_true] at h1 h2
  subst h1 h2
  clear ra rb
  unfold maxLen at hma hmb
  go_enter Tryz.func52, Tryz.ntmps52
  by_cases hlen : a.length = b.length
  · have hne : ((a.length : Int) != (b.length : Int)) = false := by simp [hlen]
    have HL := Lib.hid hlen; clear hlen
    go_wp2
    go_loopw [5] (fun i wr => ∃ k : Nat, k ≤ a.length ∧ i = .int .i64 k ∧ Ext w wr ∧ Hid (∀ j, j < k → a[j]? = b[j]?)) (fun i _ => a.length - (intOf i).toNat)
    case atStart => exact ⟨0, Nat.zero_le _, rfl, Ext.refl _, fun j hj => by omega⟩
    case round =>
      obtain ⟨k, hk, rfl, hx, heq⟩ := hrel
      by_cases hlt : k < a.length
      · have hltb : k < b.length := by have := HL.out; omega
        obtain rfl := pa (by omega)
        obtain rfl := pb (by omega)
        obtain ⟨ea, la, ca, ra⟩ := ha k a[k] (by simp [hlt])
        obtain ⟨aa0, ca0, aa1, ca1, rfl, _, _⟩ := MClassDef.op_en ra
        have a0 := reg hx (show w.cell? ⟨ba, oa + k * 4, none⟩ = some _ from ca 0 (by omega))
        have a1 := reg hx (show w.cell? ⟨ba, oa + k * 4 + 1, none⟩ = some _ from ca 1 (by omega))
        have a2 := reg hx (show w.cell? ⟨ba, oa + k * 4 + 2, none⟩ = some _ from ca 2 (by omega))
        have a3 := reg hx (show w.cell? ⟨ba, oa + k * 4 + 3, none⟩ = some _ from ca 3 (by omega))
        clear ca la
        obtain ⟨eb, lb, cb, rb⟩ := hb k b[k] (by simp [hltb])
        obtain ⟨ab0, cb0, ab1, cb1, rfl, _, _⟩ := MClassDef.op_en rb
        have b0 := reg hx (show w.cell? ⟨bb, ob + k * 4, none⟩ = some _ from cb 0 (by omega))
        have b1 := reg hx (show w.cell? ⟨bb, ob + k * 4 + 1, none⟩ = some _ from cb 1 (by omega))
        have b2 := reg hx (show w.cell? ⟨bb, ob + k * 4 + 2, none⟩ = some _ from cb 2 (by omega))
        have b3 := reg hx (show w.cell? ⟨bb, ob + k * 4 + 3, none⟩ = some _ from cb 3 (by omega))
        clear cb lb
        clear ha hb pa pb
        by_cases hs : a[k] = b[k]
        · have ht := eqB_tt hs
          have HS := Lib.hid hs; clear hs
          go_wp2_with fail
          refine wp_region_quiet_below (by kernel_rfl) (by kernel_rfl) ?_
          repeat (quiet_step (exact Calls.regrown_of (eqClassDef_any _ _ _ _ _ (Rep.ext (hx.trans (below_regrown _ _ _)) ra) (Rep.ext (hx.trans (below_regrown _ _ _)) rb))))
          refine wpQuiet_nil ?_
          clear a0 a1 a2 a3 b0 b1 b2 b3
          intro _ hw'
          obtain ⟨pw, hw''⟩ := hw'
          subst hw''
          go_wp2
          go_roundw
          case rel => exact ⟨k + 1, by omega, by go_num, hx.trans (regx _ _), fun j hj => by
            by_cases h : j < k
            · exact heq.out j h
            · obtain rfl : j = k := by omega
              simp [hlt, hltb, HS.out]⟩
          case measure => simp [intOf]; omega
        · have ht := eqB_ff hs
          have HS := Lib.hid hs; clear hs
          go_wp2_with fail
          refine wp_region_quiet_below (by kernel_rfl) (by kernel_rfl) ?_
          repeat (quiet_step (exact Calls.regrown_of (eqClassDef_any _ _ _ _ _ (Rep.ext (hx.trans (below_regrown _ _ _)) ra) (Rep.ext (hx.trans (below_regrown _ _ _)) rb))))
          refine wpQuiet_nil ?_
          clear a0 a1 a2 a3 b0 b1 b2 b3
          intro _ hw'
          obtain ⟨pw, hw''⟩ := hw'
          subst hw''
          go_wp2
          go_ret
          exact ⟨ret_ff fun h => HS.out (by subst h; rfl), hx.trans (regx _ _)⟩
      · go_wp2
        go_ret
        have hl := HL.out
        obtain rfl : k = a.length := by omega
        refine ⟨ret_tt ?_, hx⟩
        exact List.ext_getElem? fun j => by
          by_cases hj : j < a.length
          · exact heq.out j hj
          · simp [List.getElem?_eq_none_iff.2 (show a.length ≤ j by omega), List.getElem?_eq_none_iff.2 (show b.length ≤ j by omega)]
  · have hne : ((a.length : Int) != (b.length : Int)) = true := by simp; omega
    have HL := Lib.hid hlen; clear hlen
    go_wp2
    go_ret
    exact ⟨ret_ff fun h => HL.out (by rw [h]), Ext.refl _⟩

set_option maxHeartbeats 400000 in
theorem eqUnit_any (x y : MUnit) (cx cy : List Value) (w : World) (rx : Rep w x.d cx) (ry : Rep w y.d cy) :
    Calls Tryz.prog 18 #[.agg cx.toArray, .agg cy.toArray] w fun e w' => e = .returned (.bool (eqB x y)) ∧ Ext w w' := by
  obtain ⟨a_x_classes, c_x_classes, a_x_main_params, c_x_main_params, a_x_main_temps, c_x_main_temps, a_x_main_body, c_x_main_body, rfl, r_x_classes, r_x_main_params, r_x_main_temps, r_x_main_body, r_x_main⟩ := MUnit.op_en rx
  obtain ⟨a_y_classes, c_y_classes, a_y_main_params, c_y_main_params, a_y_main_temps, c_y_main_temps, a_y_main_body, c_y_main_body, rfl, r_y_classes, r_y_main_params, r_y_main_temps, r_y_main_body, r_y_main⟩ := MUnit.op_en ry
  clear rx ry
  go_enter Tryz.func18, Tryz.ntmps18
  by_cases h : x.classes = y.classes
  rotate_left
  · have t_classes := eqB_ff h
    have H := Lib.hid h; clear h
    go_wp2_with fail
    refine (eqClassDefS_any _ _ _ _ _ (Rep.ext (((Ext.refl w).alloc _).alloc _) r_x_classes) (Rep.ext (((Ext.refl w).alloc _).alloc _) r_y_classes)).mono ?_
    rintro e w1 ⟨rfl, hx1⟩
    obtain ⟨hc1, hf1⟩ := bcell hx1
    have hz1 : w.heap.size < w1.heap.size ∧ w.heap.size + 1 < w1.heap.size := by have := hx1.size; simp only [World.size_alloc] at this; omega
    obtain ⟨hy1, hz1⟩ := hz1
    go_wp2_with fail
    go_ret
    exact ⟨ret_ff fun e => H.out (by rw [e]), (((Ext.refl w).alloc _).alloc _).trans hx1⟩
  have t_classes := eqB_tt h
  have H_classes := Lib.hid h; clear h
  by_cases h : x.main = y.main
  rotate_left
  · have t_main := eqB_ff h
    have H := Lib.hid h; clear h
    go_wp2_with fail
    refine (eqClassDefS_any _ _ _ _ _ (Rep.ext (((Ext.refl w).alloc _).alloc _) r_x_classes) (Rep.ext (((Ext.refl w).alloc _).alloc _) r_y_classes)).mono ?_
    rintro e w1 ⟨rfl, hx1⟩
    obtain ⟨hc1, hf1⟩ := bcell hx1
    have hz1 : w.heap.size < w1.heap.size ∧ w.heap.size + 1 < w1.heap.size := by have := hx1.size; simp only [World.size_alloc] at this; omega
    obtain ⟨hy1, hz1⟩ := hz1
    go_wp2_with fail
    refine (eqMethod_any _ _ _ _ _ (Rep.ext ((((Ext.refl w).alloc _).alloc _).trans hx1) r_x_main) (Rep.ext ((((Ext.refl w).alloc _).alloc _).trans hx1) r_y_main)).mono ?_
    rintro e w2 ⟨rfl, hx2⟩
    obtain ⟨hc2, hf2⟩ := bcell hx2
    have hz2 : w.heap.size < w2.heap.size ∧ w.heap.size + 1 < w2.heap.size := by have := hx2.size; omega
    obtain ⟨hy2, hz2⟩ := hz2
    go_wp2_with fail
    go_ret
    exact ⟨ret_ff fun e => H.out (by rw [e]), ((((Ext.refl w).alloc _).alloc _).trans hx1).trans hx2⟩
  have t_main := eqB_tt h
  have H_main := Lib.hid h; clear h
  go_wp2_with fail
  refine (eqClassDefS_any _ _ _ _ _ (Rep.ext (((Ext.refl w).alloc _).alloc _) r_x_classes) (Rep.ext (((Ext.refl w).alloc _).alloc _) r_y_classes)).mono ?_
  rintro e w1 ⟨rfl, hx1⟩
  obtain ⟨hc1, hf1⟩ := bcell hx1
  have hz1 : w.heap.size < w1.heap.size ∧ w.heap.size + 1 < w1.heap.size := by have := hx1.size; simp only [World.size_alloc] at this; omega
  obtain ⟨hy1, hz1⟩ := hz1
  go_wp2_with fail
  refine (eqMethod_any _ _ _ _ _ (Rep.ext ((((Ext.refl w).alloc _).alloc _).trans hx1) r_x_main) (Rep.ext ((((Ext.refl w).alloc _).alloc _).trans hx1) r_y_main)).mono ?_
  rintro e w2 ⟨rfl, hx2⟩
  obtain ⟨hc2, hf2⟩ := bcell hx2
  have hz2 : w.heap.size < w2.heap.size ∧ w.heap.size + 1 < w2.heap.size := by have := hx2.size; omega
  obtain ⟨hy2, hz2⟩ := hz2
  go_wp2_with fail
  go_ret
  refine ⟨ret_tt ?_, ((((Ext.refl w).alloc _).alloc _).trans hx1).trans hx2⟩
  cases x; cases y
  simp only [MUnit.mk.injEq]
  exact ⟨H_classes.out, H_main.out⟩


end Go.Proofs.YtonmcoojgkgemaaGreatDoor
