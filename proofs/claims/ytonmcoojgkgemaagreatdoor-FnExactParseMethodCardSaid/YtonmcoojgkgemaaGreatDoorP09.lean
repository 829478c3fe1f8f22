/-
  SEVERAL TEXTS IN ONE: THE LAWS' EQUALITIES; THE LAWS' MARKS: a result's memory is written over and read again.
  Conditions: those that each lemma states.
-/
import Derived.Test.YtonmcoojgkgemaaGreatDoorRows
import Derived.Test.YtonmcoojgkgemaaGreatDoorP02
namespace Go.Proofs.YtonmcoojgkgemaaGreatDoor
open Go.RowKit
set_option linter.unusedSimpArgs false
set_option linter.unusedVariables false


set_option maxHeartbeats 400000 in
theorem eqStringS_any (a b : List ByteArray) (va vb : Value) (w : World) (ra : Rep w (strs a) [va]) (rb : Rep w (strs b) [vb]) :
    Calls Tryz.prog 29 #[va, vb] w fun e w' => e = .returned (.bool (eqB a b)) ∧ Ext w w' := by
  obtain ⟨ao, ca, ba, oa, h1, hla, hma, pa, ha⟩ := Rep.strs ra
  obtain ⟨bo, cb, bb, ob, h2, hlb, hmb, pb, hb⟩ := Rep.strs rb
  simp only [List.cons.injEq, and_true] at h1 h2
  subst h1 h2
  clear ra rb
  unfold maxLen at hma hmb
  go_enter Tryz.func29, Tryz.ntmps29
  by_cases hlen : a.length = b.length
  · have hne : ((a.length : Int) != (b.length : Int)) = false := by simp [hlen]
    have HL := Lib.hid hlen; clear hlen
    go_wp2
    go_loopw [5] (fun i wr => ∃ k : Nat, k ≤ a.length ∧ i = .int .i64 k ∧ Ext w wr ∧ Hid (∀ j, j < k → a[j]? = b[j]?)) (fun i _ => a.length - (intOf i).toNat)
    case atStart => exact ⟨0, Nat.zero_le _, rfl, Ext.refl _, fun j hj => by omega⟩
    case round =>
      obtain ⟨k, hk, rfl, hx, heq⟩ := hrel
      by_cases hlt : k < a.length
      · have hltb : k < b.length := by have := HL.out; omega
        obtain rfl := pa (by omega)
        obtain rfl := pb (by omega)
        have a0 := reg hx (ha k a[k] (by simp [hlt]))
        have b0 := reg hx (hb k b[k] (by simp [hltb]))
        clear ha hb pa pb
        by_cases hs : a[k] = b[k]
        · have ht := str_eqn hs
          have HS := Lib.hid hs; clear hs
          go_wp2_with fail
          refine wp_region_quiet_below (by kernel_rfl) (by kernel_rfl) ?_
          repeat (quiet_step (fail))
          refine wpQuiet_nil ?_
          clear a0 b0
          intro _ hw'
          obtain ⟨pw, hw''⟩ := hw'
          subst hw''
          go_wp2
          go_roundw
          case rel => exact ⟨k + 1, by omega, by go_num, hx.trans (regx _ _), fun j hj => by
            by_cases h : j < k
            · exact heq.out j h
            · obtain rfl : j = k := by omega
              simp [hlt, hltb, HS.out]⟩
          case measure => simp [intOf]; omega
        · have ht := str_nen hs
          have HS := Lib.hid hs; clear hs
          go_wp2_with fail
          refine wp_region_quiet_below (by kernel_rfl) (by kernel_rfl) ?_
          repeat (quiet_step (fail))
          refine wpQuiet_nil ?_
          clear a0 b0
          intro _ hw'
          obtain ⟨pw, hw''⟩ := hw'
          subst hw''
          go_wp2
          go_ret
          exact ⟨ret_ff fun h => HS.out (by subst h; rfl), hx.trans (regx _ _)⟩
      · go_wp2
        go_ret
        have hl := HL.out
        obtain rfl : k = a.length := by omega
        refine ⟨ret_tt ?_, hx⟩
        exact List.ext_getElem? fun j => by
          by_cases hj : j < a.length
          · exact heq.out j hj
          · simp [List.getElem?_eq_none_iff.2 (show a.length ≤ j by omega), List.getElem?_eq_none_iff.2 (show b.length ≤ j by omega)]
  · have hne : ((a.length : Int) != (b.length : Int)) = true := by simp; omega
    have HL := Lib.hid hlen; clear hlen
    go_wp2
    go_ret
    exact ⟨ret_ff fun h => HL.out (by rw [h]), Ext.refl _⟩

set_option maxHeartbeats 400000 in
theorem eqExprS_of (n : Nat) (ih : Hid (∀ (x y : MExpr) (cx cy : List Value) (w : World), SizeOf.sizeOf x < n → Rep w x.d cx → Rep w y.d cy → Calls Tryz.prog 8 #[.agg cx.toArray, .agg cy.toArray] w fun e w' => e = .returned (.bool (eqB x y)) ∧ Ext w w')) (a b : List MExpr) (va vb : Value) (w : World) (hn : Hid (∀ x, x ∈ a → SizeOf.sizeOf x < n)) (ra : Rep w (MExprs a) [va]) (rb : Rep w (MExprs b) [vb]) :
    Calls Tryz.prog 30 #[va, vb] w fun e w' => e = .returned (.bool (eqB a b)) ∧ Ext w w' := by
  obtain ⟨ao, ca, ba, oa, h1, hla, hma, pa, ha⟩ := Rep.slmap ra
  obtain ⟨bo, cb, bb, ob, h2, hlb, hmb, pb, hb⟩ := Rep.slmap rb
  simp only [List.cons.injEq, and_true] at h1 h2
  subst h1 h2
  clear ra rb
  unfold maxLen at hma hmb
  go_enter Tryz.func30, Tryz.ntmps30
  by_cases hlen : a.length = b.length
  · have hne : ((a.length : Int) != (b.length : Int)) = false := by simp [hlen]
    have HL := Lib.hid hlen; clear hlen
    go_wp2
    go_loopw [5] (fun i wr => ∃ k : Nat, k ≤ a.length ∧ i = .int .i64 k ∧ Ext w wr ∧ Hid (∀ j, j < k → a[j]? = b[j]?)) (fun i _ => a.length - (intOf i).toNat)
    case atStart => exact ⟨0, Nat.zero_le _, rfl, Ext.refl _, fun j hj => by omega⟩
    case round =>
      obtain ⟨k, hk, rfl, hx, heq⟩ := hrel
      by_cases hlt : k < a.length
      · have hltb : k < b.length := by have := HL.out; omega
        obtain rfl := pa (by omega)
        obtain rfl := pb (by omega)
        obtain ⟨ea, la, ca, ra⟩ := ha k a[k] (by simp [hlt])
        obtain ⟨aa0, ca0, aa1, ca1, rfl, _, _⟩ := MExpr.op_en ra
        have a0 := reg hx (show w.cell? ⟨ba, oa + k * 5, none⟩ = some _ from ca 0 (by omega))
        have a1 := reg hx (show w.cell? ⟨ba, oa + k * 5 + 1, none⟩ = some _ from ca 1 (by omega))
        have a2 := reg hx (show w.cell? ⟨ba, oa + k * 5 + 2, none⟩ = some _ from ca 2 (by omega))
        have a3 := reg hx (show w.cell? ⟨ba, oa + k * 5 + 3, none⟩ = some _ from ca 3 (by omega))
        have a4 := reg hx (show w.cell? ⟨ba, oa + k * 5 + 4, none⟩ = some _ from ca 4 (by omega))
        clear ca la
        obtain ⟨eb, lb, cb, rb⟩ := hb k b[k] (by simp [hltb])
        obtain ⟨ab0, cb0, ab1, cb1, rfl, _, _⟩ := MExpr.op_en rb
        have b0 := reg hx (show w.cell? ⟨bb, ob + k * 5, none⟩ = some _ from cb 0 (by omega))
        have b1 := reg hx (show w.cell? ⟨bb, ob + k * 5 + 1, none⟩ = some _ from cb 1 (by omega))
        have b2 := reg hx (show w.cell? ⟨bb, ob + k * 5 + 2, none⟩ = some _ from cb 2 (by omega))
        have b3 := reg hx (show w.cell? ⟨bb, ob + k * 5 + 3, none⟩ = some _ from cb 3 (by omega))
        have b4 := reg hx (show w.cell? ⟨bb, ob + k * 5 + 4, none⟩ = some _ from cb 4 (by omega))
        clear cb lb
        clear ha hb pa pb
        by_cases hs : a[k] = b[k]
        · have ht := eqB_tt hs
          have HS := Lib.hid hs; clear hs
          go_wp2_with fail
          refine wp_region_quiet_below (by kernel_rfl) (by kernel_rfl) ?_
          repeat (quiet_step (exact Calls.regrown_of (ih.out _ _ _ _ _ (hn.out _ (List.getElem_mem hlt)) (Rep.ext (hx.trans (below_regrown _ _ _)) ra) (Rep.ext (hx.trans (below_regrown _ _ _)) rb))))
          refine wpQuiet_nil ?_
          clear a0 a1 a2 a3 a4 b0 b1 b2 b3 b4
          intro _ hw'
          obtain ⟨pw, hw''⟩ := hw'
          subst hw''
          go_wp2
          go_roundw
          case rel => exact ⟨k + 1, by omega, by go_num, hx.trans (regx _ _), fun j hj => by
            by_cases h : j < k
            · exact heq.out j h
            · obtain rfl : j = k := by omega
              simp [hlt, hltb, HS.out]⟩
          case measure => simp [intOf]; omega
        · have ht := eqB_ff hs
          have HS := Lib.hid hs; clear hs
          go_wp2_with fail
          refine wp_region_quiet_below (by kernel_rfl) (by kernel_rfl) ?_
          repeat (quiet_step (exact Calls.regrown_of (ih.out _ _ _ _ _ (hn.out _ (List.getElem_mem hlt)) (Rep.ext (hx.trans (below_regrown _ _ _)) ra) (Rep.ext (hx.trans (below_regrown _ _ _)) rb))))
          refine wpQuiet_nil ?_
          clear a0 a1 a2 a3 a4 b0 b1 b2 b3 b4
          intro _ hw'
          obtain ⟨pw, hw''⟩ := hw'
          subst hw''
          go_wp2
          go_ret
          exact ⟨ret_ff fun h => HS.out (by subst h; rfl), hx.trans (regx _ _)⟩
      · go_wp2
        go_ret
        have hl := HL.out
        obtain rfl : k = a.length := by omega
        refine ⟨ret_tt ?_, hx⟩
        exact List.ext_getElem? fun j => by
          by_cases hj : j < a.length
          · exact heq.out j hj
          · simp [List.getElem?_eq_none_iff.2 (show a.length ≤ j by omega), List.getElem?_eq_none_iff.2 (show b.length ≤ j by omega)]
  · have hne : ((a.length : Int) != (b.length : Int)) = true := by simp; omega
    have HL := Lib.hid hlen; clear hlen
    go_wp2
    go_ret
    exact ⟨ret_ff fun h => HL.out (by rw [h]), Ext.refl _⟩

set_option maxHeartbeats 400000 in
theorem eqExpr_of (n : Nat) (ih : Hid (∀ (a b : List MExpr) (va vb : Value) (w : World), (∀ x, x ∈ a → SizeOf.sizeOf x < n) → Rep w (MExprs a) [va] → Rep w (MExprs b) [vb] → Calls Tryz.prog 30 #[va, vb] w fun e w' => e = .returned (.bool (eqB a b)) ∧ Ext w w')) (x y : MExpr) (cx cy : List Value) (w : World) (hn : Hid (SizeOf.sizeOf x < n + 1)) (rx : Rep w x.d cx) (ry : Rep w y.d cy) :
    Calls Tryz.prog 8 #[.agg cx.toArray, .agg cy.toArray] w fun e w' => e = .returned (.bool (eqB x y)) ∧ Ext w w' := by
  have hk : Hid (∀ z, z ∈ x.kids → SizeOf.sizeOf z < n) := Lib.hid fun z hz => by have := MExpr.kid_lt hz; have := hn.out; omega
  obtain ⟨a_x_names, c_x_names, a_x_kids, c_x_kids, rfl, r_x_names, r_x_kids⟩ := MExpr.op_en rx
  obtain ⟨a_y_names, c_y_names, a_y_kids, c_y_kids, rfl, r_y_names, r_y_kids⟩ := MExpr.op_en ry
  clear rx ry
  go_enter Tryz.func8, Tryz.ntmps8
  by_cases h : x.kind = y.kind
  rotate_left
  · have t_kind := int_nen h
    have H := Lib.hid h; clear h
    go_wp2_with fail
    go_ret
    exact ⟨ret_ff fun e => H.out (by rw [e]), ((Ext.refl w).alloc _).alloc _⟩
  have t_kind := int_eqn h
  have H_kind := Lib.hid h; clear h
  by_cases h : x.text = y.text
  rotate_left
  · have t_text := str_nen h
    have H := Lib.hid h; clear h
    go_wp2_with fail
    go_ret
    exact ⟨ret_ff fun e => H.out (by rw [e]), ((Ext.refl w).alloc _).alloc _⟩
  have t_text := str_eqn h
  have H_text := Lib.hid h; clear h
  by_cases h : x.number = y.number
  rotate_left
  · have t_number := int_nen h
    have H := Lib.hid h; clear h
    go_wp2_with fail
    go_ret
    exact ⟨ret_ff fun e => H.out (by rw [e]), ((Ext.refl w).alloc _).alloc _⟩
  have t_number := int_eqn h
  have H_number := Lib.hid h; clear h
  by_cases h : x.names = y.names
  rotate_left
  · have t_names := eqB_ff h
    have H := Lib.hid h; clear h
    go_wp2_with fail
    refine (eqStringS_any _ _ _ _ _ (Rep.ext (((Ext.refl w).alloc _).alloc _) r_x_names) (Rep.ext (((Ext.refl w).alloc _).alloc _) r_y_names)).mono ?_
    rintro e w1 ⟨rfl, hx1⟩
    obtain ⟨hc1, hf1⟩ := bcell hx1
    have hz1 : w.heap.size < w1.heap.size ∧ w.heap.size + 1 < w1.heap.size := by have := hx1.size; simp only [World.size_alloc] at this; omega
    obtain ⟨hy1, hz1⟩ := hz1
    go_wp2_with fail
    go_ret
    exact ⟨ret_ff fun e => H.out (by rw [e]), (((Ext.refl w).alloc _).alloc _).trans hx1⟩
  have t_names := eqB_tt h
  have H_names := Lib.hid h; clear h
  by_cases h : x.kids = y.kids
  rotate_left
  · have t_kids := eqB_ff h
    have H := Lib.hid h; clear h
    go_wp2_with fail
    refine (eqStringS_any _ _ _ _ _ (Rep.ext (((Ext.refl w).alloc _).alloc _) r_x_names) (Rep.ext (((Ext.refl w).alloc _).alloc _) r_y_names)).mono ?_
    rintro e w1 ⟨rfl, hx1⟩
    obtain ⟨hc1, hf1⟩ := bcell hx1
    have hz1 : w.heap.size < w1.heap.size ∧ w.heap.size + 1 < w1.heap.size := by have := hx1.size; simp only [World.size_alloc] at this; omega
    obtain ⟨hy1, hz1⟩ := hz1
    go_wp2_with fail
    refine (ih.out _ _ _ _ _ hk.out (Rep.ext ((((Ext.refl w).alloc _).alloc _).trans hx1) r_x_kids) (Rep.ext ((((Ext.refl w).alloc _).alloc _).trans hx1) r_y_kids)).mono ?_
    rintro e w2 ⟨rfl, hx2⟩
    obtain ⟨hc2, hf2⟩ := bcell hx2
    have hz2 : w.heap.size < w2.heap.size ∧ w.heap.size + 1 < w2.heap.size := by have := hx2.size; omega
    obtain ⟨hy2, hz2⟩ := hz2
    go_wp2_with fail
    go_ret
    exact ⟨ret_ff fun e => H.out (by rw [e]), ((((Ext.refl w).alloc _).alloc _).trans hx1).trans hx2⟩
  have t_kids := eqB_tt h
  have H_kids := Lib.hid h; clear h
  go_wp2_with fail
  refine (eqStringS_any _ _ _ _ _ (Rep.ext (((Ext.refl w).alloc _).alloc _) r_x_names) (Rep.ext (((Ext.refl w).alloc _).alloc _) r_y_names)).mono ?_
  rintro e w1 ⟨rfl, hx1⟩
  obtain ⟨hc1, hf1⟩ := bcell hx1
  have hz1 : w.heap.size < w1.heap.size ∧ w.heap.size + 1 < w1.heap.size := by have := hx1.size; simp only [World.size_alloc] at this; omega
  obtain ⟨hy1, hz1⟩ := hz1
  go_wp2_with fail
  refine (ih.out _ _ _ _ _ hk.out (Rep.ext ((((Ext.refl w).alloc _).alloc _).trans hx1) r_x_kids) (Rep.ext ((((Ext.refl w).alloc _).alloc _).trans hx1) r_y_kids)).mono ?_
  rintro e w2 ⟨rfl, hx2⟩
  obtain ⟨hc2, hf2⟩ := bcell hx2
  have hz2 : w.heap.size < w2.heap.size ∧ w.heap.size + 1 < w2.heap.size := by have := hx2.size; omega
  obtain ⟨hy2, hz2⟩ := hz2
  go_wp2_with fail
  go_ret
  refine ⟨ret_tt ?_, ((((Ext.refl w).alloc _).alloc _).trans hx1).trans hx2⟩
  cases x; cases y
  simp only [MExpr.mk.injEq]
  exact ⟨H_kind.out, H_text.out, H_number.out, H_names.out, H_kids.out⟩

theorem eqExpr_lt : ∀ (n : Nat) (x y : MExpr) (cx cy : List Value) (w : World), SizeOf.sizeOf x < n → Rep w x.d cx → Rep w y.d cy →
    Calls Tryz.prog 8 #[.agg cx.toArray, .agg cy.toArray] w fun e w' => e = .returned (.bool (eqB x y)) ∧ Ext w w' := by
  intro n
  induction n with
  | zero => intro x y cx cy w h; omega
  | succ n ih => exact fun x y cx cy w h rx ry => eqExpr_of n (Lib.hid fun a b va vb w hn ra rb => eqExprS_of n (Lib.hid ih) a b va vb w (Lib.hid hn) ra rb) x y cx cy w (Lib.hid h) rx ry
theorem eqExpr_any (x y : MExpr) (cx cy : List Value) (w : World) (rx : Rep w x.d cx) (ry : Rep w y.d cy) :
    Calls Tryz.prog 8 #[.agg cx.toArray, .agg cy.toArray] w fun e w' => e = .returned (.bool (eqB x y)) ∧ Ext w w' := eqExpr_lt _ x y cx cy w (Nat.lt_succ_self _) rx ry
theorem eqExprS_any (a b : List MExpr) (va vb : Value) (w : World) (ra : Rep w (MExprs a) [va]) (rb : Rep w (MExprs b) [vb]) :
    Calls Tryz.prog 30 #[va, vb] w fun e w' => e = .returned (.bool (eqB a b)) ∧ Ext w w' :=
  eqExprS_of (SizeOf.sizeOf a) (Lib.hid fun x y cx cy w _ rx ry => eqExpr_any x y cx cy w rx ry) a b va vb w (Lib.hid fun _ hx => List.sizeOf_lt_of_mem hx) ra rb

set_option maxHeartbeats 400000 in
theorem eqMethod_any (x y : MMethod) (cx cy : List Value) (w : World) (rx : Rep w x.d cx) (ry : Rep w y.d cy) :
    Calls Tryz.prog 13 #[.agg cx.toArray, .agg cy.toArray] w fun e w' => e = .returned (.bool (eqB x y)) ∧ Ext w w' := by
  obtain ⟨a_x_params, c_x_params, a_x_temps, c_x_temps, a_x_body, c_x_body, rfl, r_x_params, r_x_temps, r_x_body⟩ := MMethod.op_en rx
  obtain ⟨a_y_params, c_y_params, a_y_temps, c_y_temps, a_y_body, c_y_body, rfl, r_y_params, r_y_temps, r_y_body⟩ := MMethod.op_en ry
  clear rx ry
  go_enter Tryz.func13, Tryz.ntmps13
  by_cases h : x.selector = y.selector
  rotate_left
  · have t_selector := str_nen h
    have H := Lib.hid h; clear h
    go_wp2_with fail
    go_ret
    exact ⟨ret_ff fun e => H.out (by rw [e]), ((Ext.refl w).alloc _).alloc _⟩
  have t_selector := str_eqn h
  have H_selector := Lib.hid h; clear h
  by_cases h : x.cls = y.cls
  rotate_left
  · have t_cls := bool_nen h
    have H := Lib.hid h; clear h
    go_wp2_with fail
    go_ret
    exact ⟨ret_ff fun e => H.out (by rw [e]), ((Ext.refl w).alloc _).alloc _⟩
  have t_cls := bool_eqn h
  have H_cls := Lib.hid h; clear h
  by_cases h : x.params = y.params
  rotate_left
  · have t_params := eqB_ff h
    have H := Lib.hid h; clear h
    go_wp2_with fail
    refine (eqStringS_any _ _ _ _ _ (Rep.ext (((Ext.refl w).alloc _).alloc _) r_x_params) (Rep.ext (((Ext.refl w).alloc _).alloc _) r_y_params)).mono ?_
    rintro e w1 ⟨rfl, hx1⟩
    obtain ⟨hc1, hf1⟩ := bcell hx1
    have hz1 : w.heap.size < w1.heap.size ∧ w.heap.size + 1 < w1.heap.size := by have := hx1.size; simp only [World.size_alloc] at this; omega
    obtain ⟨hy1, hz1⟩ := hz1
    go_wp2_with fail
    go_ret
    exact ⟨ret_ff fun e => H.out (by rw [e]), (((Ext.refl w).alloc _).alloc _).trans hx1⟩
  have t_params := eqB_tt h
  have H_params := Lib.hid h; clear h
  by_cases h : x.temps = y.temps
  rotate_left
  · have t_temps := eqB_ff h
    have H := Lib.hid h; clear h
    go_wp2_with fail
    refine (eqStringS_any _ _ _ _ _ (Rep.ext (((Ext.refl w).alloc _).alloc _) r_x_params) (Rep.ext (((Ext.refl w).alloc _).alloc _) r_y_params)).mono ?_
    rintro e w1 ⟨rfl, hx1⟩
    obtain ⟨hc1, hf1⟩ := bcell hx1
    have hz1 : w.heap.size < w1.heap.size ∧ w.heap.size + 1 < w1.heap.size := by have := hx1.size; simp only [World.size_alloc] at this; omega
    obtain ⟨hy1, hz1⟩ := hz1
    go_wp2_with fail
    refine (eqStringS_any _ _ _ _ _ (Rep.ext ((((Ext.refl w).alloc _).alloc _).trans hx1) r_x_temps) (Rep.ext ((((Ext.refl w).alloc _).alloc _).trans hx1) r_y_temps)).mono ?_
    rintro e w2 ⟨rfl, hx2⟩
    obtain ⟨hc2, hf2⟩ := bcell hx2
    have hz2 : w.heap.size < w2.heap.size ∧ w.heap.size + 1 < w2.heap.size := by have := hx2.size; omega
    obtain ⟨hy2, hz2⟩ := hz2
    go_wp2_with fail
    go_ret
    exact ⟨ret_ff fun e => H.out (by rw [e]), ((((Ext.refl w).alloc _).alloc _).trans hx1).trans hx2⟩
  have t_temps := eqB_tt h
  have H_temps := Lib.hid h; clear h
  by_cases h : x.body = y.body
  rotate_left
  · have t_body := eqB_ff h
    have H := Lib.hid h; clear h
    go_wp2_with fail
    refine (eqStringS_any _ _ _ _ _ (Rep.ext (((Ext.refl w).alloc _).alloc _) r_x_params) (Rep.ext (((Ext.refl w).alloc _).alloc _) r_y_params)).mono ?_
    rintro e w1 ⟨rfl, hx1⟩
    obtain ⟨hc1, hf1⟩ := bcell hx1
    have hz1 : w.heap.size < w1.heap.size ∧ w.heap.size + 1 < w1.heap.size := by have := hx1.size; simp only [World.size_alloc] at this; omega
    obtain ⟨hy1, hz1⟩ := hz1
    go_wp2_with fail
    refine (eqStringS_any _ _ _ _ _ (Rep.ext ((((Ext.refl w).alloc _).alloc _).trans hx1) r_x_temps) (Rep.ext ((((Ext.refl w).alloc _).alloc _).trans hx1) r_y_temps)).mono ?_
    rintro e w2 ⟨rfl, hx2⟩
    obtain ⟨hc2, hf2⟩ := bcell hx2
    have hz2 : w.heap.size < w2.heap.size ∧ w.heap.size + 1 < w2.heap.size := by have := hx2.size; omega
    obtain ⟨hy2, hz2⟩ := hz2
    go_wp2_with fail
    refine (eqExprS_any _ _ _ _ _ (Rep.ext (((((Ext.refl w).alloc _).alloc _).trans hx1).trans hx2) r_x_body) (Rep.ext (((((Ext.refl w).alloc _).alloc _).trans hx1).trans hx2) r_y_body)).mono ?_
    rintro e w3 ⟨rfl, hx3⟩
    obtain ⟨hc3, hf3⟩ := bcell hx3
    have hz3 : w.heap.size < w3.heap.size ∧ w.heap.size + 1 < w3.heap.size := by have := hx3.size; omega
    obtain ⟨hy3, hz3⟩ := hz3
    go_wp2_with fail
    go_ret
    exact ⟨ret_ff fun e => H.out (by rw [e]), (((((Ext.refl w).alloc _).alloc _).trans hx1).trans hx2).trans hx3⟩
  have t_body := eqB_tt h
  have H_body := Lib.hid h; clear h
  go_wp2_with fail
  refine (eqStringS_any _ _ _ _ _ (Rep.ext (((Ext.refl w).alloc _).alloc _) r_x_params) (Rep.ext (((Ext.refl w).alloc _).alloc _) r_y_params)).mono ?_
  rintro e w1 ⟨rfl, hx1⟩
  obtain ⟨hc1, hf1⟩ := bcell hx1
  have hz1 : w.heap.size < w1.heap.size ∧ w.heap.size + 1 < w1.heap.size := by have := hx1.size; simp only [World.size_alloc] at this; omega
  obtain ⟨hy1, hz1⟩ := hz1
  go_wp2_with fail
  refine (eqStringS_any _ _ _ _ _ (Rep.ext ((((Ext.refl w).alloc _).alloc _).trans hx1) r_x_temps) (Rep.ext ((((Ext.refl w).alloc _).alloc _).trans hx1) r_y_temps)).mono ?_
  rintro e w2 ⟨rfl, hx2⟩
  obtain ⟨hc2, hf2⟩ := bcell hx2
  have hz2 : w.heap.size < w2.heap.size ∧ w.heap.size + 1 < w2.heap.size := by have := hx2.size; omega
  obtain ⟨hy2, hz2⟩ := hz2
  go_wp2_with fail
  refine (eqExprS_any _ _ _ _ _ (Rep.ext (((((Ext.refl w).alloc _).alloc _).trans hx1).trans hx2) r_x_body) (Rep.ext (((((Ext.refl w).alloc _).alloc _).trans hx1).trans hx2) r_y_body)).mono ?_
  rintro e w3 ⟨rfl, hx3⟩
  obtain ⟨hc3, hf3⟩ := bcell hx3
  have hz3 : w.heap.size < w3.heap.size ∧ w.heap.size + 1 < w3.heap.size := by have := hx3.size; omega
  obtain ⟨hy3, hz3⟩ := hz3
  go_wp2_with fail
  go_ret
  refine ⟨ret_tt ?_, (((((Ext.refl w).alloc _).alloc _).trans hx1).trans hx2).trans hx3⟩
  cases x; cases y
  simp only [MMethod.mk.injEq]
  exact ⟨H_selector.out, H_cls.out, H_params.out, H_temps.out, H_body.out⟩

open Go.RowKit
set_option linter.unusedSimpArgs false
set_option linter.unusedVariables false

/-- Blocks of fp alone have been written. -/
structure Touch (w w' : World) (fp : List Nat) : Prop where
  os : w'.os = w.os
  tape : w'.tape = w.tape
  output : w'.output = w.output
  size : w.heap.size ≤ w'.heap.size
  block : ∀ k, k < w.heap.size → k ∉ fp → w'.heap[k]? = w.heap[k]?
theorem Touch.of_ext {w w' : World} (h : Ext w w') (fp : List Nat) : Touch w w' fp := ⟨h.os, h.tape, h.output, h.size, fun k hk _ => h.block k hk⟩
theorem Touch.trans {a b c : World} {fp : List Nat} (h : Touch a b fp) (k : Touch b c fp) : Touch a c fp :=
  ⟨k.os.trans h.os, k.tape.trans h.tape, k.output.trans h.output, Nat.le_trans h.size k.size, fun i hi hn => (k.block i (Nat.lt_of_lt_of_le hi h.size) hn).trans (h.block i hi hn)⟩
theorem Touch.setCell {a w : World} {fp : List Nat} (h : Touch a w fp) {b o : Nat} (hb : b ∈ fp) (v : Value) : Touch a (w.setCell ⟨b, o, none⟩ v) fp :=
  h.trans ⟨rfl, rfl, rfl, by simp [World.setCell], fun k hk hn => heap_setCell_other w ⟨b, o, none⟩ k v (show k ≠ b from fun e => hn (e ▸ hb))⟩
theorem Touch.ext {w w1 w2 : World} {fp : List Nat} (h : Ext w w1) (k : Touch w1 w2 fp) (hf : ∀ b, b ∈ fp → w.heap.size ≤ b) : Ext w w2 :=
  ⟨k.os.trans h.os, k.tape.trans h.tape, k.output.trans h.output, Nat.le_trans h.size k.size, fun i hi => (k.block i (Nat.lt_of_lt_of_le hi h.size) fun hm => by have := hf i hm; omega).trans (h.block i hi)⟩
theorem RepF.touch {w w' : World} {d : D} {cs : List Value} {fp gp : List Nat} (h : RepF w d cs gp) (k : Touch w w' fp) (hd : ∀ b, b ∈ gp → b ∉ fp) : RepF w' d cs gp :=
  h.keep d fun b hb => k.block b (h.lt d b hb) (hd b hb)

/-- What markText writes. -/
def mdig : Nat → Nat → List UInt8 → List UInt8
  | 0, _, acc => acc
  | f + 1, k, acc => if k = 0 then acc else mdig f (k / 10) (UInt8.ofNat (48 + k % 10) :: acc)
def mtext (k : Int) : ByteArray := if k ≤ 0 then ⟨#[109, 48]⟩ else ⟨(109 :: mdig (k.toNat + 1) k.toNat []).toArray⟩
theorem mdig_fuel : ∀ (f k : Nat) (acc : List UInt8), k < f → mdig f k acc = mdig (k + 1) k acc
  | 0, k, acc, h => by omega
  | f + 1, k, acc, h => by
    by_cases h0 : k = 0
    · subst h0; simp [mdig]
    · rw [mdig, if_neg h0, mdig, if_neg h0, mdig_fuel f (k / 10) _ (by omega), mdig_fuel k (k / 10) _ (by omega)]

set_option maxHeartbeats 400000 in
theorem markText_any (k0 : Int) (w : World) (h0 : 0 ≤ k0) (h1 : k0 ≤ 4611686018427387904) : Calls Tryz.prog 70 #[.int .i64 k0] w fun e w' => e = .returned (.string (mtext k0)) ∧ Ext w w' := by
  go_enter Tryz.func70, Tryz.ntmps70
  by_cases hk : k0 ≤ 0
  · go_wp2_with fail
    go_ret
    exact ⟨ret_str (by rw [mtext, if_pos hk]), Ext.refl _⟩
  go_wp2_with fail
  go_loopw [0, 3] (fun kv ov wr => ∃ (k : Nat) (acc : List UInt8), kv = .int .i64 k ∧ acc.length + k ≤ 4611686018427387904 ∧ ov = .string ⟨acc.toArray⟩ ∧ Ext w wr ∧ Hid (mdig (k + 1) k acc = mdig (k0.toNat + 1) k0.toNat [])) (fun kv _ _ => (intOf kv).toNat)
  case atStart => exact ⟨k0.toNat, [], by rw [Int.toNat_of_nonneg h0], by simp only [List.length_nil]; omega, rfl, Ext.refl _, Lib.hid rfl⟩
  case round =>
    obtain ⟨k, acc, rfl, hk1, rfl, hx, hR⟩ := hrel
    by_cases hz : (0 : Int) < k
    · have hcv : ∀ W : World, W.cell? ⟨wr.heap.size, 0, none⟩ = some (.int .u8 (48 + (k : Int) % 10)) → (convert 118 9 (.slice (some ⟨wr.heap.size, 0, none⟩) 1 1)).run Tryz.prog W = .ok (.string (strOfNums [48 + (k : Int) % 10])) W := fun W h =>
        run_convert_bytes_arg (P := Tryz.prog) W 118 5 Tryz.underlying118 Tryz.underlying5 wr.heap.size 0 1 1 [48 + (k : Int) % 10] rfl (fun i hi => by
          obtain rfl : i = 0 := by omega
          exact h) 9 Tryz.underlying9
      have hcv := hcv (wr.alloc (.cells #[.int .u8 (48 + (k : Int) % 10)] 5)) (by simp)
      have hsz : ¬ 9223372036854775807 < (strOfNums [48 + (k : Int) % 10]).size + (⟨acc.toArray⟩ : ByteArray).size := by
        have e1 : (⟨acc.toArray⟩ : ByteArray).size = acc.length := by simp [ByteArray.size]
        rw [strOfNums_size, e1]; simp; omega
      set_option maxRecDepth 100000 in
      go_wp2_with fail
      clear hcv hsz
      go_roundw
      case rel =>
        refine ⟨k / 10, UInt8.ofNat (48 + k % 10) :: acc, by go_num, by simp; omega, ?_, hx.alloc _, Lib.hid ?_⟩
        · have : strOfNums [48 + (k : Int) % 10] ++ (⟨acc.toArray⟩ : ByteArray) = ⟨(UInt8.ofNat (48 + k % 10) :: acc).toArray⟩ := by
            simp only [strOfNums, List.map_cons, List.map_nil]
            rw [show (48 + (k : Int) % 10).toNat = 48 + k % 10 from by omega]
            apply ByteArray.ext
            simp
          rw [this]
        · have : mdig (k + 1) k acc = mdig (k / 10 + 1) (k / 10) (UInt8.ofNat (48 + k % 10) :: acc) := by
            rw [mdig, if_neg (by omega), mdig_fuel k (k / 10) _ (by omega)]
          rw [← hR.out, this]
      case measure => simp [intOf]; omega
    · have hsz : ¬ 9223372036854775807 < 1 + (⟨acc.toArray⟩ : ByteArray).size := by
        have e1 : (⟨acc.toArray⟩ : ByteArray).size = acc.length := by simp [ByteArray.size]
        rw [e1]; omega
      go_wp2_with fail
      go_ret
      obtain rfl : k = 0 := by omega
      have hr := hR.out
      rw [show mdig (0 + 1) 0 acc = acc from by simp [mdig]] at hr
      refine ⟨ret_str ?_, hx⟩
      rw [mtext, if_neg (by omega), ← hr]
      apply ByteArray.ext
      simp

/-- The marks of n texts. -/
def markL (k : Int) : Nat → List ByteArray
  | 0 => []
  | n + 1 => markL k n ++ [mtext (k + n)]
theorem markL_length (k : Int) : ∀ n, (markL k n).length = n
  | 0 => rfl
  | n + 1 => by simp [markL, markL_length k n]
theorem markL_get (k : Int) : ∀ n i, i < n → (markL k n)[i]? = some (mtext (k + i))
  | 0, i, h => by omega
  | n + 1, i, h => by
    rw [markL]
    by_cases hi : i < n
    · rw [List.getElem?_append_left (by rw [markL_length]; exact hi), markL_get k n i hi]
    · obtain rfl : i = n := by omega
      rw [List.getElem?_append_right (by rw [markL_length]; omega), markL_length]; simp

theorem repR_strs_inv {w : World} : ∀ {l : List ByteArray} {cells : List Value} {fp : List Nat}, RepR w 1 (l.map D.str) cells fp → cells = l.map Value.string ∧ fp = []
  | [], cells, fp, h => by simpa [RepR] using h
  | s :: l, cells, fp, h => by
    simp only [List.map_cons, RepR, RepF] at h
    obtain ⟨c1, c2, f1, f2, rfl, rfl, -, ⟨rfl, rfl⟩, h⟩ := h
    obtain ⟨rfl, rfl⟩ := repR_strs_inv h
    exact ⟨rfl, rfl⟩

/-- A slice of texts, opened with its footprint. -/
theorem RepF.strs_own {w : World} {l : List ByteArray} {v : Value} {fp : List Nat} (h : RepF w (strs l) [v] fp) (ho : ∀ b, b ∈ fp → ∃ C e, Own w b e C) :
    ∃ ao cap, v = .slice ao l.length cap ∧ l.length ≤ cap ∧ cap ≤ maxLen ∧ ((l = [] ∧ fp = []) ∨ ∃ b o C e, l ≠ [] ∧ ao = some ⟨b, o, none⟩ ∧ fp = [b] ∧ Own w b e C ∧ o + l.length ≤ C.size) := by
  obtain ⟨ao, cap, hv, hl, hm, -, h⟩ := RepF.sl_iff.1 h
  simp only [List.length_map, List.cons.injEq, and_true] at hv hl
  refine ⟨ao, cap, hv, hl, hm, ?_⟩
  rcases h with ⟨h1, h2⟩ | ⟨b, o, cells, fp', h1, h2, rfl, hb, h4, h5⟩
  · exact Or.inl ⟨by simpa using h1, h2⟩
  · obtain ⟨rfl, rfl⟩ := repR_strs_inv h5
    obtain ⟨C, e, hO⟩ := ho b List.mem_cons_self
    have hne : l ≠ [] := by simpa using h1
    refine Or.inr ⟨b, o, C, e, hne, h2, rfl, hO, ?_⟩
    have hpos : 0 < l.length := by cases l with | nil => exact absurd rfl hne | cons _ _ => simp
    have := h4 (l.length - 1) (.string (l[l.length - 1]'(by omega))) (by simp [hpos])
    rw [hO.cell] at this
    have := (Array.getElem?_eq_some_iff.1 this).1
    omega

/-- .. and shut again. -/
theorem RepF.strs_mk {w : World} {l : List ByteArray} {b o cap : Nat} (hl : l.length ≤ cap) (hm : cap ≤ maxLen) (h0 : l ≠ []) (hb : b < w.heap.size) (hc : ∀ i s, l[i]? = some s → w.cell? ⟨b, o + i, none⟩ = some (.string s)) :
    RepF w (strs l) [.slice (some ⟨b, o, none⟩) l.length cap] [b] := by
  refine RepF.sl_iff.2 ⟨_, cap, by simp, by simpa using hl, hm, by simp, Or.inr ⟨b, o, l.map Value.string, [], by simpa using h0, rfl, rfl, hb, fun j c hj => ?_, repR_strs w l⟩⟩
  rw [List.getElem?_map, Option.map_eq_some_iff] at hj
  obtain ⟨s, hs, rfl⟩ := hj
  exact hc j s hs

def MarkPost (w : World) (d' : D) (v : Value) (fp : List Nat) (k' : Int) (e : Ending) (w' : World) : Prop :=
  e = .returned (.int .i64 k') ∧ RepF w' d' [v] fp ∧ (∀ b, b ∈ fp → ∃ C e, Own w' b e C) ∧ Touch w w' fp

set_option maxHeartbeats 1000000 in
theorem markStringS_any (l : List ByteArray) (v : Value) (fp : List Nat) (k0 : Int) (w : World) (hr : RepF w (strs l) [v] fp) (ho : ∀ b, b ∈ fp → ∃ C e, Own w b e C) (h0 : 0 ≤ k0) (h1 : k0 + l.length ≤ 1099511627776) :
    Calls Tryz.prog 31 #[v, .int .i64 k0] w (MarkPost w (strs (markL k0 l.length)) v fp (k0 + l.length)) := by
  obtain ⟨ao, cap, rfl, hl, hm, h⟩ := hr.strs_own ho
  rcases h with ⟨rfl, rfl⟩ | ⟨b, o, C, e, hne, rfl, rfl, hO, hsz⟩
  · go_enter Tryz.func31, Tryz.ntmps31
    go_wp2_with fail
    refine wp_loop_rounds 1 ?_
    rw [rounds_succ]
    go_wp2_with fail
    go_ret
    exact ⟨ret_int (by simp), hr, ho, Touch.of_ext (Ext.refl _) _⟩
  · have hpos : 0 < l.length := by cases l with | nil => exact absurd rfl hne | cons _ _ => simp
    clear hr ho
    unfold maxLen at hm
    go_enter Tryz.func31, Tryz.ntmps31
    go_wp2_with fail
    go_loopw [1, 5] (fun kv iv wr => ∃ (i : Nat) (C' : Array Value), i ≤ l.length ∧ iv = .int .i64 i ∧ kv = .int .i64 (k0 + i) ∧ Own wr b e C' ∧ Touch w wr [b] ∧ Hid (C'.size = C.size ∧ ∀ j, j < i → C'[o + j]? = some (.string (mtext (k0 + j))))) (fun _ iv _ => l.length - (intOf iv).toNat)
    case atStart => exact ⟨0, C, Nat.zero_le _, rfl, by go_num, hO, Touch.of_ext (Ext.refl _) _, Lib.hid ⟨rfl, fun j hj => by omega⟩⟩
    case round =>
      obtain ⟨i, C', hi, rfl, rfl, hO', hT, hR⟩ := hrel
      by_cases hlt : i < l.length
      · go_wp2_with fail
        refine (markText_any (k0 + i) _ (by omega) (by omega)).mono ?_
        rintro e2 w2 ⟨rfl, hx2⟩
        have hO2 := hO'.ext hx2
        obtain ⟨v0, c0⟩ := hO2.some (o + i) (by have := hR.out.1; omega)
        have f0 := hO2.frozen (o + i)
        go_wp2_with fail
        clear c0 f0
        go_roundw
        case rel =>
          refine ⟨i + 1, C'.setIfInBounds (o + i) (.string (mtext (k0 + i))), by omega, by go_num, by go_num, hO2.set _ _, (hT.trans (Touch.of_ext hx2 _)).setCell (by simp) _, Lib.hid ⟨by simp [hR.out.1], fun j hj => ?_⟩⟩
          by_cases hj2 : j < i
          · rw [Array.getElem?_setIfInBounds, if_neg (by omega)]; exact hR.out.2 j hj2
          · obtain rfl : j = i := by omega
            rw [Array.getElem?_setIfInBounds, if_pos rfl, if_pos (by have := hR.out.1; omega)]
        case measure => simp [intOf]; omega
      · go_wp2_with fail
        go_ret
        obtain rfl : i = l.length := by omega
        refine ⟨rfl, ?_, fun b' hb' => by simp at hb'; subst hb'; exact ⟨_, _, hO'⟩, hT⟩
        have hL := markL_length k0 l.length
        have hk := RepF.strs_mk (w := wr) (l := markL k0 l.length) (b := b) (o := o) (cap := cap) (by omega) (by unfold maxLen; omega) (by intro h; rw [h] at hL; simp at hL; omega) hO'.lt (fun j s hs => by
          have hj : j < l.length := by have := (List.getElem?_eq_some_iff.1 hs).1; omega
          rw [markL_get k0 _ j hj] at hs
          injection hs with hs
          subst hs
          rw [hO'.cell]; exact hR.out.2 j hj)
        rwa [hL] at hk

set_option maxHeartbeats 1000000 in
theorem heldStringS_any (n : Nat) (v : Value) (k0 : Int) (w : World) (hr : Rep w (strs (markL k0 n)) [v]) (h0 : 0 ≤ k0) (h1 : k0 + n ≤ 1099511627776) :
    Calls Tryz.prog 33 #[v, .int .i64 k0] w fun e w' => e = .returned (.int .i64 (k0 + n)) ∧ Ext w w' := by
  obtain ⟨ao, ca, ba, oa, e1, hla, hma, pa, ha⟩ := hr.strs
  simp only [List.cons.injEq, and_true] at e1
  subst e1
  clear hr
  rw [markL_length] at hla pa ⊢
  unfold maxLen at hma
  go_enter Tryz.func33, Tryz.ntmps33
  go_wp2_with fail
  go_loopw [1, 5] (fun kv iv wr => ∃ i : Nat, i ≤ n ∧ iv = .int .i64 i ∧ kv = .int .i64 (k0 + i) ∧ Ext w wr) (fun _ iv _ => n - (intOf iv).toNat)
  case atStart => exact ⟨0, Nat.zero_le _, rfl, by go_num, Ext.refl _⟩
  case round =>
    obtain ⟨i, hi, rfl, rfl, hx⟩ := hrel
    by_cases hlt : i < n
    · obtain rfl := pa (by omega)
      have a0 := reg hx (ha i _ (markL_get k0 n i hlt))
      have ht := str_eqn (rfl : mtext (k0 + i) = mtext (k0 + i))
      clear ha pa
      go_wp2_with fail
      refine wp_region_quiet_below (by kernel_rfl) (by kernel_rfl) ?_
      repeat (quiet_step (exact Calls.regrown_of (markText_any _ _ (by omega) (by omega))))
      refine wpQuiet_nil ?_
      clear a0
      intro _ hw'
      obtain ⟨pw, hw''⟩ := hw'
      subst hw''
      go_wp2_with fail
      go_roundw
      case rel => exact ⟨i + 1, by omega, by go_num, by go_num, hx.trans (regx _ _)⟩
      case measure => simp [intOf]; omega
    · go_wp2_with fail
      go_ret
      obtain rfl : i = n := by omega
      exact ⟨rfl, hx⟩

end Go.Proofs.YtonmcoojgkgemaaGreatDoor
