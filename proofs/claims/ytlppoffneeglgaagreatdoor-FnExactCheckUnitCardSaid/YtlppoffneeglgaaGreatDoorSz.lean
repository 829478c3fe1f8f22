/-
  THE LAWS' SIZES.
  Conditions: those that each lemma states.
-/
import Derived.Test.YtlppoffneeglgaaGreatDoorRows
import Derived.Test.YtlppoffneeglgaaGreatDoorTypes
namespace Go.Proofs.YtlppoffneeglgaaGreatDoor
open Go.RowKit
set_option linter.unusedSimpArgs false
set_option linter.unusedVariables false


theorem bulk_ints : ∀ (l : List Int), 0 + D.bulkL (l.map D.int) = 0
  | [] => by simp [D.bulkL]
  | x :: xs => by have := bulk_ints xs; simp only [List.map_cons, D.bulkL, D.bulk]; omega

set_option maxHeartbeats 400000 in
theorem szStringS_any (a : List ByteArray) (va : Value) (l : Int) (w : World) (h0 : 0 ≤ l) (h1 : l ≤ 1048576) (ra : Rep w (strs a) [va]) (ok : (strs a).ok) :
    Calls Tryz.prog 24 #[va, .int .i64 l] w (SzPost l (strs a).bulk w) := by
  obtain ⟨ao, ca, ba, oa, e1, hla, hma, pa, ha⟩ := Rep.strs ra
  simp only [List.cons.injEq, and_true] at e1
  subst e1
  clear ra
  unfold maxLen at hma
  have Hb : Hid ((strs a).bulk = a.length + D.bulkL (a.map D.str)) := Lib.hid (by simp [strs, D.bulk])
  have Hok : Hid (D.okL (a.map D.str)) := Lib.hid (by simpa [strs, D.ok] using ok)
  clear ok
  go_enter Tryz.func24, Tryz.ntmps24
  by_cases hlen : (a.length : Int) ≤ l
  · go_wp2_with fail
    go_loopw [1, 5] (fun lv i wr => ∃ (k : Nat) (r : Int), k ≤ a.length ∧ i = .int .i64 k ∧ lv = .int .i64 r ∧ 0 ≤ r ∧ r ≤ 1048576 ∧ Ext w wr ∧ Hid (r + a.length + D.bulkL ((a.take k).map D.str) = l)) (fun _ i _ => a.length - (intOf i).toNat)
    case atStart => exact ⟨0, l - a.length, Nat.zero_le _, rfl, rfl, by omega, by omega, Ext.refl _, Lib.hid (by simp [D.bulkL])⟩
    case round =>
      obtain ⟨k, r, hk, rfl, rfl, hr0, hr1, hx, hR⟩ := hrel
      by_cases hlt : k < a.length
      · obtain rfl := pa (by omega)
        have hok : (D.str a[k]).ok := D.okL_mem Hok.out _ (List.mem_map.2 ⟨a[k], List.getElem_mem hlt, rfl⟩)
        have hbk : Hid (D.bulkL ((a.take (k + 1)).map D.str) = D.bulkL ((a.take k).map D.str) + (D.str a[k]).bulk) := Lib.hid (by rw [List.take_succ_eq_append_getElem hlt, List.map_append, D.bulkL_append]; simp [D.bulkL])
        have a0 := hx.cell (ha k a[k] (by simp [hlt]))
        have hsz : a[k].size ≤ 9223372036854775807 := by simpa [D.ok] using hok
        clear ha pa hok
        by_cases hs : (a[k].size : Int) ≤ r
        · go_wp2_with fail
          go_roundw
          case rel => exact ⟨k + 1, r - a[k].size, by omega, by go_num, rfl, by omega, by omega, hx, Lib.hid (by rw [hbk.out]; have := hR.out; simp only [D.bulk]; omega)⟩
          case measure => simp [intOf]; omega
        · go_wp2_with fail
          go_ret
          exact ⟨-1, rfl, Or.inl rfl, hx⟩
      · go_wp2_with fail
        go_ret
        obtain rfl : k = a.length := by omega
        refine ⟨r, rfl, Or.inr ⟨hr0, ?_⟩, hx⟩
        have := hR.out
        rw [List.take_length] at this
        rw [Hb.out]; omega
  · go_wp2_with fail
    go_ret
    exact ⟨-1, rfl, Or.inl rfl, Ext.refl _⟩

set_option maxHeartbeats 400000 in
theorem szExprS_of (n : Nat) (ih : Hid (∀ (x : MExpr) (cx : List Value) (l : Int) (w : World), SizeOf.sizeOf x < n → 0 ≤ l → l ≤ 1048576 → Rep w x.d cx → x.d.ok → Calls Tryz.prog 51 #[.agg cx.toArray, .int .i64 l] w (SzPost l x.d.bulk w))) (a : List MExpr) (va : Value) (l : Int) (w : World) (hn : Hid (∀ x, x ∈ a → SizeOf.sizeOf x < n)) (h0 : 0 ≤ l) (h1 : l ≤ 1048576) (ra : Rep w (MExprs a) [va]) (ok : (MExprs a).ok) :
    Calls Tryz.prog 25 #[va, .int .i64 l] w (SzPost l (MExprs a).bulk w) := by
  obtain ⟨ao, ca, ba, oa, e1, hla, hma, pa, ha⟩ := Rep.slmap ra
  simp only [List.cons.injEq, and_true] at e1
  subst e1
  clear ra
  unfold maxLen at hma
  have Hb : Hid ((MExprs a).bulk = a.length + D.bulkL (a.map MExpr.d)) := Lib.hid (by simp [MExprs, D.bulk])
  have Hok : Hid (D.okL (a.map MExpr.d)) := Lib.hid (by simpa [MExprs, D.ok] using ok)
  clear ok
  go_enter Tryz.func25, Tryz.ntmps25
  by_cases hlen : (a.length : Int) ≤ l
  · go_wp2_with fail
    go_loopw [1, 5] (fun lv i wr => ∃ (k : Nat) (r : Int), k ≤ a.length ∧ i = .int .i64 k ∧ lv = .int .i64 r ∧ 0 ≤ r ∧ r ≤ 1048576 ∧ Ext w wr ∧ Hid (r + a.length + D.bulkL ((a.take k).map MExpr.d) = l)) (fun _ i _ => a.length - (intOf i).toNat)
    case atStart => exact ⟨0, l - a.length, Nat.zero_le _, rfl, rfl, by omega, by omega, Ext.refl _, Lib.hid (by simp [D.bulkL])⟩
    case round =>
      obtain ⟨k, r, hk, rfl, rfl, hr0, hr1, hx, hR⟩ := hrel
      by_cases hlt : k < a.length
      · obtain rfl := pa (by omega)
        have hok : (MExpr.d a[k]).ok := D.okL_mem Hok.out _ (List.mem_map.2 ⟨a[k], List.getElem_mem hlt, rfl⟩)
        have hbk : Hid (D.bulkL ((a.take (k + 1)).map MExpr.d) = D.bulkL ((a.take k).map MExpr.d) + (MExpr.d a[k]).bulk) := Lib.hid (by rw [List.take_succ_eq_append_getElem hlt, List.map_append, D.bulkL_append]; simp [D.bulkL])
        obtain ⟨ea, la, cx, ra⟩ := ha k a[k] (by simp [hlt])
        obtain ⟨aa0, cc0, aa1, cc1, rfl, _, _⟩ := MExpr.op_en ra
        have a0 := hx.cell (show w.cell? ⟨ba, oa + k * 5, none⟩ = some _ from cx 0 (by omega))
        have a1 := hx.cell (show w.cell? ⟨ba, oa + k * 5 + 1, none⟩ = some _ from cx 1 (by omega))
        have a2 := hx.cell (show w.cell? ⟨ba, oa + k * 5 + 2, none⟩ = some _ from cx 2 (by omega))
        have a3 := hx.cell (show w.cell? ⟨ba, oa + k * 5 + 3, none⟩ = some _ from cx 3 (by omega))
        have a4 := hx.cell (show w.cell? ⟨ba, oa + k * 5 + 4, none⟩ = some _ from cx 4 (by omega))
        clear cx la ha pa
        go_wp2_with fail
        refine (ih.out a[k] _ r wr (hn.out _ (List.getElem_mem hlt)) hr0 hr1 (Rep.ext hx ra) hok).mono ?_
        clear a0 a1 a2 a3 a4 hok
        rintro e w2 ⟨q, rfl, hq, hx2⟩
        rcases hq with rfl | ⟨hq0, hqe⟩
        · go_wp2_with fail
          go_ret
          exact ⟨-1, rfl, Or.inl rfl, hx.trans hx2⟩
        · have hq1 : q ≤ 1048576 := by omega
          have HQ := Lib.hid hqe; clear hqe
          go_wp2_with fail
          go_roundw
          case rel => exact ⟨k + 1, q, by omega, by go_num, rfl, hq0, hq1, hx.trans hx2, Lib.hid (by rw [hbk.out]; have := hR.out; have := HQ.out; omega)⟩
          case measure => simp [intOf]; omega
      · go_wp2_with fail
        go_ret
        obtain rfl : k = a.length := by omega
        refine ⟨r, rfl, Or.inr ⟨hr0, ?_⟩, hx⟩
        have := hR.out
        rw [List.take_length] at this
        rw [Hb.out]; omega
  · go_wp2_with fail
    go_ret
    exact ⟨-1, rfl, Or.inl rfl, Ext.refl _⟩

set_option maxHeartbeats 400000 in
theorem szExpr_of (n : Nat) (ih : Hid (∀ (a : List MExpr) (va : Value) (l : Int) (w : World), (∀ x, x ∈ a → SizeOf.sizeOf x < n) → 0 ≤ l → l ≤ 1048576 → Rep w (MExprs a) [va] → (MExprs a).ok → Calls Tryz.prog 25 #[va, .int .i64 l] w (SzPost l (MExprs a).bulk w))) (x : MExpr) (cx : List Value) (l : Int) (w : World) (hn : Hid (SizeOf.sizeOf x < n + 1)) (h0 : 0 ≤ l) (h1 : l ≤ 1048576) (rx : Rep w x.d cx) (ok : x.d.ok) :
    Calls Tryz.prog 51 #[.agg cx.toArray, .int .i64 l] w (SzPost l x.d.bulk w) := by
  have hk : Hid (∀ z, z ∈ x.kids → SizeOf.sizeOf z < n) := Lib.hid fun z hz => by have := MExpr.kid_lt hz; have := hn.out; omega
  obtain ⟨a_x_names, c_x_names, a_x_kids, c_x_kids, rfl, r_x_names, r_x_kids⟩ := MExpr.op_en rx
  clear rx
  have Hb : Hid (x.d.bulk = 0 + x.text.size + (strs x.names).bulk + (MExprs x.kids).bulk) := Lib.hid (by rw [MExpr.d_eq]; simp only [D.bulk, D.bulkL]; omega)
  rw [MExpr.d_eq] at ok
  simp only [D.ok, D.okL] at ok
  obtain ⟨-, o_text, -, o_names, o_kids, -⟩ := ok
  have o_names := Lib.hid o_names
  have o_kids := Lib.hid o_kids
  go_enter Tryz.func51, Tryz.ntmps51
  by_cases hs_text : (x.text.size : Int) ≤ l
  rotate_left
  · go_wp2_with fail
    go_ret
    exact ⟨-1, rfl, Or.inl rfl, (Ext.refl w).alloc _⟩
  go_wp2_with fail
  refine (szStringS_any x.names _ (l - x.text.size) _ (by omega) (by omega) (Rep.ext ((Ext.refl w).alloc _) r_x_names) o_names.out).mono ?_
  rintro e w1 ⟨q1, rfl, hq, hx1⟩
  obtain ⟨hc1, hf1⟩ := bcell hx1
  have hy1 : w.heap.size < w1.heap.size := by have := hx1.size; simp only [World.size_alloc] at this; omega
  rcases hq with rfl | ⟨hq1, hqe⟩
  · go_wp2_with fail
    go_ret
    exact ⟨-1, rfl, Or.inl rfl, ((Ext.refl w).alloc _).trans hx1⟩
  have hl1 : q1 ≤ 1048576 := by omega
  have HQ1 := Lib.hid hqe; clear hqe
  go_wp2_with fail
  refine (ih.out x.kids _ (q1) _ hk.out (by omega) (by omega) (Rep.ext (((Ext.refl w).alloc _).trans hx1) r_x_kids) o_kids.out).mono ?_
  rintro e w2 ⟨q2, rfl, hq, hx2⟩
  obtain ⟨hc2, hf2⟩ := bcell hx2
  have hy2 : w.heap.size < w2.heap.size := by have := hx2.size; omega
  rcases hq with rfl | ⟨hq2, hqe⟩
  · go_wp2_with fail
    go_ret
    exact ⟨-1, rfl, Or.inl rfl, (((Ext.refl w).alloc _).trans hx1).trans hx2⟩
  have hl2 : q2 ≤ 1048576 := by omega
  have HQ2 := Lib.hid hqe; clear hqe
  go_wp2_with fail
  go_ret
  exact ⟨q2, rfl, Or.inr ⟨by omega, by rw [Hb.out]; have := HQ1.out; have := HQ2.out; omega⟩, (((Ext.refl w).alloc _).trans hx1).trans hx2⟩

theorem szExpr_lt : ∀ (n : Nat) (x : MExpr) (cx : List Value) (l : Int) (w : World), SizeOf.sizeOf x < n → 0 ≤ l → l ≤ 1048576 → Rep w x.d cx → x.d.ok →
    Calls Tryz.prog 51 #[.agg cx.toArray, .int .i64 l] w (SzPost l x.d.bulk w) := by
  intro n
  induction n with
  | zero => intro x cx l w h; omega
  | succ n ih => exact fun x cx l w h h0 h1 rx ok => szExpr_of n (Lib.hid fun a va l w hn h0 h1 ra ok => szExprS_of n (Lib.hid ih) a va l w (Lib.hid hn) h0 h1 ra ok) x cx l w (Lib.hid h) h0 h1 rx ok
theorem szExpr_any (x : MExpr) (cx : List Value) (l : Int) (w : World) (h0 : 0 ≤ l) (h1 : l ≤ 1048576) (rx : Rep w x.d cx) (ok : x.d.ok) :
    Calls Tryz.prog 51 #[.agg cx.toArray, .int .i64 l] w (SzPost l x.d.bulk w) := szExpr_lt _ x cx l w (Nat.lt_succ_self _) h0 h1 rx ok
theorem szExprS_any (a : List MExpr) (va : Value) (l : Int) (w : World) (h0 : 0 ≤ l) (h1 : l ≤ 1048576) (ra : Rep w (MExprs a) [va]) (ok : (MExprs a).ok) :
    Calls Tryz.prog 25 #[va, .int .i64 l] w (SzPost l (MExprs a).bulk w) :=
  szExprS_of (SizeOf.sizeOf a) (Lib.hid fun x cx l w _ h0 h1 rx ok => szExpr_any x cx l w h0 h1 rx ok) a va l w (Lib.hid fun _ hx => List.sizeOf_lt_of_mem hx) h0 h1 ra ok

set_option maxHeartbeats 400000 in
theorem szMethod_any (x : MMethod) (cx : List Value) (l : Int) (w : World) (h0 : 0 ≤ l) (h1 : l ≤ 1048576) (rx : Rep w x.d cx) (ok : x.d.ok) :
    Calls Tryz.prog 10 #[.agg cx.toArray, .int .i64 l] w (SzPost l x.d.bulk w) := by
  obtain ⟨a_x_params, c_x_params, a_x_temps, c_x_temps, a_x_body, c_x_body, rfl, r_x_params, r_x_temps, r_x_body⟩ := MMethod.op_en rx
  clear rx
  have Hb : Hid (x.d.bulk = 0 + x.selector.size + (strs x.params).bulk + (strs x.temps).bulk + (MExprs x.body).bulk) := Lib.hid (by rw [MMethod.d_eq]; simp only [D.bulk, D.bulkL]; omega)
  rw [MMethod.d_eq] at ok
  simp only [D.ok, D.okL] at ok
  obtain ⟨o_selector, -, o_params, o_temps, o_body, -⟩ := ok
  have o_params := Lib.hid o_params
  have o_temps := Lib.hid o_temps
  have o_body := Lib.hid o_body
  go_enter Tryz.func10, Tryz.ntmps10
  by_cases hs_selector : (x.selector.size : Int) ≤ l
  rotate_left
  · go_wp2_with fail
    go_ret
    exact ⟨-1, rfl, Or.inl rfl, (Ext.refl w).alloc _⟩
  go_wp2_with fail
  refine (szStringS_any x.params _ (l - x.selector.size) _ (by omega) (by omega) (Rep.ext ((Ext.refl w).alloc _) r_x_params) o_params.out).mono ?_
  rintro e w1 ⟨q1, rfl, hq, hx1⟩
  obtain ⟨hc1, hf1⟩ := bcell hx1
  have hy1 : w.heap.size < w1.heap.size := by have := hx1.size; simp only [World.size_alloc] at this; omega
  rcases hq with rfl | ⟨hq1, hqe⟩
  · go_wp2_with fail
    go_ret
    exact ⟨-1, rfl, Or.inl rfl, ((Ext.refl w).alloc _).trans hx1⟩
  have hl1 : q1 ≤ 1048576 := by omega
  have HQ1 := Lib.hid hqe; clear hqe
  go_wp2_with fail
  refine (szStringS_any x.temps _ (q1) _ (by omega) (by omega) (Rep.ext (((Ext.refl w).alloc _).trans hx1) r_x_temps) o_temps.out).mono ?_
  rintro e w2 ⟨q2, rfl, hq, hx2⟩
  obtain ⟨hc2, hf2⟩ := bcell hx2
  have hy2 : w.heap.size < w2.heap.size := by have := hx2.size; omega
  rcases hq with rfl | ⟨hq2, hqe⟩
  · go_wp2_with fail
    go_ret
    exact ⟨-1, rfl, Or.inl rfl, (((Ext.refl w).alloc _).trans hx1).trans hx2⟩
  have hl2 : q2 ≤ 1048576 := by omega
  have HQ2 := Lib.hid hqe; clear hqe
  go_wp2_with fail
  refine (szExprS_any x.body _ (q2) _ (by omega) (by omega) (Rep.ext ((((Ext.refl w).alloc _).trans hx1).trans hx2) r_x_body) o_body.out).mono ?_
  rintro e w3 ⟨q3, rfl, hq, hx3⟩
  obtain ⟨hc3, hf3⟩ := bcell hx3
  have hy3 : w.heap.size < w3.heap.size := by have := hx3.size; omega
  rcases hq with rfl | ⟨hq3, hqe⟩
  · go_wp2_with fail
    go_ret
    exact ⟨-1, rfl, Or.inl rfl, ((((Ext.refl w).alloc _).trans hx1).trans hx2).trans hx3⟩
  have hl3 : q3 ≤ 1048576 := by omega
  have HQ3 := Lib.hid hqe; clear hqe
  go_wp2_with fail
  go_ret
  exact ⟨q3, rfl, Or.inr ⟨by omega, by rw [Hb.out]; have := HQ1.out; have := HQ2.out; have := HQ3.out; omega⟩, ((((Ext.refl w).alloc _).trans hx1).trans hx2).trans hx3⟩

set_option maxHeartbeats 400000 in
theorem szMethodS_any (a : List MMethod) (va : Value) (l : Int) (w : World) (h0 : 0 ≤ l) (h1 : l ≤ 1048576) (ra : Rep w (MMethods a) [va]) (ok : (MMethods a).ok) :
    Calls Tryz.prog 50 #[va, .int .i64 l] w (SzPost l (MMethods a).bulk w) := by
  obtain ⟨ao, ca, ba, oa, e1, hla, hma, pa, ha⟩ := Rep.slmap ra
  simp only [List.cons.injEq, and_true] at e1
  subst e1
  clear ra
  unfold maxLen at hma
  have Hb : Hid ((MMethods a).bulk = a.length + D.bulkL (a.map MMethod.d)) := Lib.hid (by simp [MMethods, D.bulk])
  have Hok : Hid (D.okL (a.map MMethod.d)) := Lib.hid (by simpa [MMethods, D.ok] using ok)
  clear ok
  go_enter Tryz.func50, Tryz.ntmps50
  by_cases hlen : (a.length : Int) ≤ l
  · go_wp2_with fail
    go_loopw [1, 5] (fun lv i wr => ∃ (k : Nat) (r : Int), k ≤ a.length ∧ i = .int .i64 k ∧ lv = .int .i64 r ∧ 0 ≤ r ∧ r ≤ 1048576 ∧ Ext w wr ∧ Hid (r + a.length + D.bulkL ((a.take k).map MMethod.d) = l)) (fun _ i _ => a.length - (intOf i).toNat)
    case atStart => exact ⟨0, l - a.length, Nat.zero_le _, rfl, rfl, by omega, by omega, Ext.refl _, Lib.hid (by simp [D.bulkL])⟩
    case round =>
      obtain ⟨k, r, hk, rfl, rfl, hr0, hr1, hx, hR⟩ := hrel
      by_cases hlt : k < a.length
      · obtain rfl := pa (by omega)
        have hok : (MMethod.d a[k]).ok := D.okL_mem Hok.out _ (List.mem_map.2 ⟨a[k], List.getElem_mem hlt, rfl⟩)
        have hbk : Hid (D.bulkL ((a.take (k + 1)).map MMethod.d) = D.bulkL ((a.take k).map MMethod.d) + (MMethod.d a[k]).bulk) := Lib.hid (by rw [List.take_succ_eq_append_getElem hlt, List.map_append, D.bulkL_append]; simp [D.bulkL])
        obtain ⟨ea, la, cx, ra⟩ := ha k a[k] (by simp [hlt])
        obtain ⟨aa0, cc0, aa1, cc1, aa2, cc2, rfl, _, _, _⟩ := MMethod.op_en ra
        have a0 := hx.cell (show w.cell? ⟨ba, oa + k * 5, none⟩ = some _ from cx 0 (by omega))
        have a1 := hx.cell (show w.cell? ⟨ba, oa + k * 5 + 1, none⟩ = some _ from cx 1 (by omega))
        have a2 := hx.cell (show w.cell? ⟨ba, oa + k * 5 + 2, none⟩ = some _ from cx 2 (by omega))
        have a3 := hx.cell (show w.cell? ⟨ba, oa + k * 5 + 3, none⟩ = some _ from cx 3 (by omega))
        have a4 := hx.cell (show w.cell? ⟨ba, oa + k * 5 + 4, none⟩ = some _ from cx 4 (by omega))
        clear cx la ha pa
        go_wp2_with fail
        refine (szMethod_any a[k] _ r wr hr0 hr1 (Rep.ext hx ra) hok).mono ?_
        clear a0 a1 a2 a3 a4 hok
        rintro e w2 ⟨q, rfl, hq, hx2⟩
        rcases hq with rfl | ⟨hq0, hqe⟩
        · go_wp2_with fail
          go_ret
          exact ⟨-1, rfl, Or.inl rfl, hx.trans hx2⟩
        · have hq1 : q ≤ 1048576 := by omega
          have HQ := Lib.hid hqe; clear hqe
          go_wp2_with fail
          go_roundw
          case rel => exact ⟨k + 1, q, by omega, by go_num, rfl, hq0, hq1, hx.trans hx2, Lib.hid (by rw [hbk.out]; have := hR.out; have := HQ.out; omega)⟩
          case measure => simp [intOf]; omega
      · go_wp2_with fail
        go_ret
        obtain rfl : k = a.length := by omega
        refine ⟨r, rfl, Or.inr ⟨hr0, ?_⟩, hx⟩
        have := hR.out
        rw [List.take_length] at this
        rw [Hb.out]; omega
  · go_wp2_with fail
    go_ret
    exact ⟨-1, rfl, Or.inl rfl, Ext.refl _⟩

set_option maxHeartbeats 400000 in
theorem szClassDef_any (x : MClassDef) (cx : List Value) (l : Int) (w : World) (h0 : 0 ≤ l) (h1 : l ≤ 1048576) (rx : Rep w x.d cx) (ok : x.d.ok) :
    Calls Tryz.prog 23 #[.agg cx.toArray, .int .i64 l] w (SzPost l x.d.bulk w) := by
  obtain ⟨a_x_fields, c_x_fields, a_x_methods, c_x_methods, rfl, r_x_fields, r_x_methods⟩ := MClassDef.op_en rx
  clear rx
  have Hb : Hid (x.d.bulk = 0 + x.name.size + x.parent.size + (strs x.fields).bulk + (MMethods x.methods).bulk) := Lib.hid (by rw [MClassDef.d_eq]; simp only [D.bulk, D.bulkL]; omega)
  rw [MClassDef.d_eq] at ok
  simp only [D.ok, D.okL] at ok
  obtain ⟨o_name, o_parent, o_fields, o_methods, -⟩ := ok
  have o_fields := Lib.hid o_fields
  have o_methods := Lib.hid o_methods
  go_enter Tryz.func23, Tryz.ntmps23
  by_cases hs_name : (x.name.size : Int) ≤ l
  rotate_left
  · go_wp2_with fail
    go_ret
    exact ⟨-1, rfl, Or.inl rfl, (Ext.refl w).alloc _⟩
  by_cases hs_parent : (x.parent.size : Int) ≤ l - x.name.size
  rotate_left
  · go_wp2_with fail
    go_ret
    exact ⟨-1, rfl, Or.inl rfl, (Ext.refl w).alloc _⟩
  go_wp2_with fail
  refine (szStringS_any x.fields _ (l - x.name.size - x.parent.size) _ (by omega) (by omega) (Rep.ext ((Ext.refl w).alloc _) r_x_fields) o_fields.out).mono ?_
  rintro e w1 ⟨q1, rfl, hq, hx1⟩
  obtain ⟨hc1, hf1⟩ := bcell hx1
  have hy1 : w.heap.size < w1.heap.size := by have := hx1.size; simp only [World.size_alloc] at this; omega
  rcases hq with rfl | ⟨hq1, hqe⟩
  · go_wp2_with fail
    go_ret
    exact ⟨-1, rfl, Or.inl rfl, ((Ext.refl w).alloc _).trans hx1⟩
  have hl1 : q1 ≤ 1048576 := by omega
  have HQ1 := Lib.hid hqe; clear hqe
  go_wp2_with fail
  refine (szMethodS_any x.methods _ (q1) _ (by omega) (by omega) (Rep.ext (((Ext.refl w).alloc _).trans hx1) r_x_methods) o_methods.out).mono ?_
  rintro e w2 ⟨q2, rfl, hq, hx2⟩
  obtain ⟨hc2, hf2⟩ := bcell hx2
  have hy2 : w.heap.size < w2.heap.size := by have := hx2.size; omega
  rcases hq with rfl | ⟨hq2, hqe⟩
  · go_wp2_with fail
    go_ret
    exact ⟨-1, rfl, Or.inl rfl, (((Ext.refl w).alloc _).trans hx1).trans hx2⟩
  have hl2 : q2 ≤ 1048576 := by omega
  have HQ2 := Lib.hid hqe; clear hqe
  go_wp2_with fail
  go_ret
  exact ⟨q2, rfl, Or.inr ⟨by omega, by rw [Hb.out]; have := HQ1.out; have := HQ2.out; omega⟩, (((Ext.refl w).alloc _).trans hx1).trans hx2⟩

set_option maxHeartbeats 400000 in
theorem szClassDefS_any (a : List MClassDef) (va : Value) (l : Int) (w : World) (h0 : 0 ≤ l) (h1 : l ≤ 1048576) (ra : Rep w (MClassDefs a) [va]) (ok : (MClassDefs a).ok) :
    Calls Tryz.prog 9 #[va, .int .i64 l] w (SzPost l (MClassDefs a).bulk w) := by
  obtain ⟨ao, ca, ba, oa, e1, hla, hma, pa, ha⟩ := Rep.slmap ra
  simp only [List.cons.injEq, and_true] at e1
  subst e1
  clear ra
  unfold maxLen at hma
  have Hb : Hid ((MClassDefs a).bulk = a.length + D.bulkL (a.map MClassDef.d)) := Lib.hid (by simp [MClassDefs, D.bulk])
  have Hok : Hid (D.okL (a.map MClassDef.d)) := Lib.hid (by simpa [MClassDefs, D.ok] using ok)
  clear ok
  go_enter Tryz.func9, Tryz.ntmps9
  by_cases hlen : (a.length : Int) ≤ l
  · go_wp2_with fail
    go_loopw [1, 5] (fun lv i wr => ∃ (k : Nat) (r : Int), k ≤ a.length ∧ i = .int .i64 k ∧ lv = .int .i64 r ∧ 0 ≤ r ∧ r ≤ 1048576 ∧ Ext w wr ∧ Hid (r + a.length + D.bulkL ((a.take k).map MClassDef.d) = l)) (fun _ i _ => a.length - (intOf i).toNat)
    case atStart => exact ⟨0, l - a.length, Nat.zero_le _, rfl, rfl, by omega, by omega, Ext.refl _, Lib.hid (by simp [D.bulkL])⟩
    case round =>
      obtain ⟨k, r, hk, rfl, rfl, hr0, hr1, hx, hR⟩ := hrel
      by_cases hlt : k < a.length
      · obtain rfl := pa (by omega)
        have hok : (MClassDef.d a[k]).ok := D.okL_mem Hok.out _ (List.mem_map.2 ⟨a[k], List.getElem_mem hlt, rfl⟩)
        have hbk : Hid (D.bulkL ((a.take (k + 1)).map MClassDef.d) = D.bulkL ((a.take k).map MClassDef.d) + (MClassDef.d a[k]).bulk) := Lib.hid (by rw [List.take_succ_eq_append_getElem hlt, List.map_append, D.bulkL_append]; simp [D.bulkL])
        obtain ⟨ea, la, cx, ra⟩ := ha k a[k] (by simp [hlt])
        obtain ⟨aa0, cc0, aa1, cc1, rfl, _, _⟩ := MClassDef.op_en ra
        have a0 := hx.cell (show w.cell? ⟨ba, oa + k * 4, none⟩ = some _ from cx 0 (by omega))
        have a1 := hx.cell (show w.cell? ⟨ba, oa + k * 4 + 1, none⟩ = some _ from cx 1 (by omega))
        have a2 := hx.cell (show w.cell? ⟨ba, oa + k * 4 + 2, none⟩ = some _ from cx 2 (by omega))
        have a3 := hx.cell (show w.cell? ⟨ba, oa + k * 4 + 3, none⟩ = some _ from cx 3 (by omega))
        clear cx la ha pa
        go_wp2_with fail
        refine (szClassDef_any a[k] _ r wr hr0 hr1 (Rep.ext hx ra) hok).mono ?_
        clear a0 a1 a2 a3 hok
        rintro e w2 ⟨q, rfl, hq, hx2⟩
        rcases hq with rfl | ⟨hq0, hqe⟩
        · go_wp2_with fail
          go_ret
          exact ⟨-1, rfl, Or.inl rfl, hx.trans hx2⟩
        · have hq1 : q ≤ 1048576 := by omega
          have HQ := Lib.hid hqe; clear hqe
          go_wp2_with fail
          go_roundw
          case rel => exact ⟨k + 1, q, by omega, by go_num, rfl, hq0, hq1, hx.trans hx2, Lib.hid (by rw [hbk.out]; have := hR.out; have := HQ.out; omega)⟩
          case measure => simp [intOf]; omega
      · go_wp2_with fail
        go_ret
        obtain rfl : k = a.length := by omega
        refine ⟨r, rfl, Or.inr ⟨hr0, ?_⟩, hx⟩
        have := hR.out
        rw [List.take_length] at this
        rw [Hb.out]; omega
  · go_wp2_with fail
    go_ret
    exact ⟨-1, rfl, Or.inl rfl, Ext.refl _⟩

set_option maxHeartbeats 400000 in
theorem szUnit_any (x : MUnit) (cx : List Value) (l : Int) (w : World) (h0 : 0 ≤ l) (h1 : l ≤ 1048576) (rx : Rep w x.d cx) (ok : x.d.ok) :
    Calls Tryz.prog 4 #[.agg cx.toArray, .int .i64 l] w (SzPost l x.d.bulk w) := by
  obtain ⟨a_x_classes, c_x_classes, a_x_main_params, c_x_main_params, a_x_main_temps, c_x_main_temps, a_x_main_body, c_x_main_body, rfl, r_x_classes, r_x_main_params, r_x_main_temps, r_x_main_body, r_x_main⟩ := MUnit.op_en rx
  clear rx
  have Hb : Hid (x.d.bulk = 0 + (MClassDefs x.classes).bulk + (x.main.d).bulk) := Lib.hid (by rw [MUnit.d_eq]; simp only [D.bulk, D.bulkL]; omega)
  rw [MUnit.d_eq] at ok
  simp only [D.ok, D.okL] at ok
  obtain ⟨o_classes, o_main, -⟩ := ok
  have o_classes := Lib.hid o_classes
  have o_main := Lib.hid o_main
  go_enter Tryz.func4, Tryz.ntmps4
  go_wp2_with fail
  refine (szClassDefS_any x.classes _ (l) _ (by omega) (by omega) (Rep.ext ((Ext.refl w).alloc _) r_x_classes) o_classes.out).mono ?_
  rintro e w1 ⟨q1, rfl, hq, hx1⟩
  obtain ⟨hc1, hf1⟩ := bcell hx1
  have hy1 : w.heap.size < w1.heap.size := by have := hx1.size; simp only [World.size_alloc] at this; omega
  rcases hq with rfl | ⟨hq1, hqe⟩
  · go_wp2_with fail
    go_ret
    exact ⟨-1, rfl, Or.inl rfl, ((Ext.refl w).alloc _).trans hx1⟩
  have hl1 : q1 ≤ 1048576 := by omega
  have HQ1 := Lib.hid hqe; clear hqe
  go_wp2_with fail
  refine (szMethod_any x.main _ (q1) _ (by omega) (by omega) (Rep.ext (((Ext.refl w).alloc _).trans hx1) r_x_main) o_main.out).mono ?_
  rintro e w2 ⟨q2, rfl, hq, hx2⟩
  obtain ⟨hc2, hf2⟩ := bcell hx2
  have hy2 : w.heap.size < w2.heap.size := by have := hx2.size; omega
  rcases hq with rfl | ⟨hq2, hqe⟩
  · go_wp2_with fail
    go_ret
    exact ⟨-1, rfl, Or.inl rfl, (((Ext.refl w).alloc _).trans hx1).trans hx2⟩
  have hl2 : q2 ≤ 1048576 := by omega
  have HQ2 := Lib.hid hqe; clear hqe
  go_wp2_with fail
  go_ret
  exact ⟨q2, rfl, Or.inr ⟨by omega, by rw [Hb.out]; have := HQ1.out; have := HQ2.out; omega⟩, (((Ext.refl w).alloc _).trans hx1).trans hx2⟩


end Go.Proofs.YtlppoffneeglgaaGreatDoor
