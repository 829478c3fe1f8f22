/-
  THE LAWS' COPIES.
  Conditions: those that each lemma states.
-/
import Derived.Test.YtlppoffneeglgaaGreatDoorRows
import Derived.Test.YtlppoffneeglgaaGreatDoorTypes
namespace Go.Proofs.YtlppoffneeglgaaGreatDoor
open Go.RowKit
set_option linter.unusedSimpArgs false
set_option linter.unusedVariables false


theorem Tryz.info9 : (Tryz.prog.info? 9).map (fun i => (i.zero, i.size, i.bytes)) = some (some (.string ByteArray.empty), 1, 16) := by kernel_rfl
set_option maxHeartbeats 400000 in
theorem toStringS_any (a : List ByteArray) (va : Value) (w : World) (ra : Rep w (strs a) [va]) (hb : (strs a).bulk ≤ 1048576) :
    Calls Tryz.prog 35 #[va] w (GivesV w (strs a)) := by
  obtain ⟨ao, ca, ba, oa, e1, hla, hma, pa, ha⟩ := Rep.strs ra
  simp only [List.cons.injEq, and_true] at e1
  subst e1
  clear ra
  unfold maxLen at hma
  have Hb : Hid (a.length + D.bulkL (a.map D.str) ≤ 1048576) := Lib.hid (by simpa [strs, D.bulk] using hb)
  have hs : a.length ≤ 1048576 := by have := Hb.out; omega
  clear hb
  obtain ⟨i0, hi, hz0, hz1, hz2⟩ := info_parts Tryz.info9
  go_enter Tryz.func35, Tryz.ntmps35
  go_wp2_with (at_make; refine wpList_make_full _ rfl _ _ 23 rfl w.heap.size 9 i0 _ 1 Tryz.underlying23 hi hz0 hz1 .i64 .i64 _ _ a.length rfl rfl rfl rfl ?c1 ?c2 ?c3 ?_)
  case c1 => rw [hz2]; omega
  case c2 => unfold maxLen; omega
  case c3 => exact Nat.le_refl _
  intro w1 hown hgrow
  obtain ⟨C1, hO, hsz, -, -, -, -⟩ := own_of_row hown
  have hE : Ext w w1 := (Ext.refl w).grown hgrow (Nat.le_refl _) (by simp)
  clear hown hgrow hi hz0 hz1 hz2
  go_wp2_with fail
  go_loopw [4] (fun i wr => ∃ (k : Nat) (C : Array Value), k ≤ a.length ∧ i = .int .i64 k ∧ Ext w wr ∧ Own wr w.heap.size 9 C ∧ Hid (C.size = a.length * 1 ∧ ∃ fp, RepR wr 1 ((a.take k).map D.str) (C.toList.take (k * 1)) fp ∧ Fresh wr (w.heap.size + 1) fp)) (fun i _ => a.length - (intOf i).toNat)
  case atStart => exact ⟨0, C1, Nat.zero_le _, rfl, hE, hO, hsz, [], by simp [RepR], Fresh.nil _ _⟩
  clear hE hO hsz C1 w1
  case round =>
    obtain ⟨k, C, hk, rfl, hx, hO, hR⟩ := hrel
    have hsw := hO.lt
    by_cases hlt : k < a.length
    · obtain rfl := pa (by omega)
      have a0 := hx.cell (ha k a[k] (by simp [hlt]))
      clear ha pa
      have hsz := hR.out.1
      obtain ⟨v0, c0⟩ := hO.some (k) (by omega)
      have f0 := hO.frozen (k)
      clear hsz
      go_wp2_with fail
      clear c0 f0
      go_roundw
      case rel =>
        obtain ⟨hsz, fp, hr, hf⟩ := hR.out
        have hB : w.heap.size ∉ fp := fun h => by have := hf.ge _ h; omega
        obtain ⟨r1, r2, r3⟩ := row_step (d := D.str a[k]) (vs := [.string a[k]]) (fd := []) hO hsz hr hB (show RepF wr (D.str a[k]) [.string a[k]] [] from by simp [RepF]) (by simp) rfl hlt
        rw [Nat.mul_one] at r1 r2 r3
        refine ⟨k + 1, _, by omega, by go_num, Ext.wsets (Nat.le_refl _) [.string a[k]] (k) hx, r1, r2, fp ++ [], ?_, ?_⟩
        · rw [List.take_succ_eq_append_getElem hlt, List.map_append]; exact r3
        · rw [List.append_nil]; exact hf.wsets hB [.string a[k]] k
      case measure => simp [intOf]; omega
    · go_wp2_with fail
      go_ret
      obtain ⟨hsz, fp, hr, hf⟩ := hR.out
      obtain rfl : k = a.length := by omega
      rw [List.take_length] at hr
      exact ⟨_, _, _, _, rfl, row_done hO hsz hr (by simp) (by unfold maxLen; omega), hf.row hO (Nat.le_refl _), hx⟩

theorem Tryz.info61 : (Tryz.prog.info? 61).map (fun i => (i.zero, i.size, i.bytes)) = some (some (.agg #[.int .i64 0, .string ByteArray.empty, .int .i64 0, .slice none 0 0, .slice none 0 0]), 5, 80) := by kernel_rfl
set_option maxHeartbeats 400000 in
theorem toExprS_of (n : Nat) (ih : Hid (∀ (x : MExpr) (cx : List Value) (w : World), SizeOf.sizeOf x < n → Rep w x.d cx → x.d.bulk ≤ 1048576 → Calls Tryz.prog 64 #[.agg cx.toArray] w (GivesS w x.d))) (a : List MExpr) (va : Value) (w : World) (hn : Hid (∀ x, x ∈ a → SizeOf.sizeOf x < n)) (ra : Rep w (MExprs a) [va]) (hb : (MExprs a).bulk ≤ 1048576) :
    Calls Tryz.prog 36 #[va] w (GivesV w (MExprs a)) := by
  obtain ⟨ao, ca, ba, oa, e1, hla, hma, pa, ha⟩ := Rep.slmap ra
  simp only [List.cons.injEq, and_true] at e1
  subst e1
  clear ra
  unfold maxLen at hma
  have Hb : Hid (a.length + D.bulkL (a.map MExpr.d) ≤ 1048576) := Lib.hid (by simpa [MExprs, D.bulk] using hb)
  have hs : a.length ≤ 1048576 := by have := Hb.out; omega
  clear hb
  obtain ⟨i0, hi, hz0, hz1, hz2⟩ := info_parts Tryz.info61
  go_enter Tryz.func36, Tryz.ntmps36
  go_wp2_with (at_make; refine wpList_make_full _ rfl _ _ 33 rfl w.heap.size 61 i0 _ 5 Tryz.underlying33 hi hz0 hz1 .i64 .i64 _ _ a.length rfl rfl rfl rfl ?c1 ?c2 ?c3 ?_)
  case c1 => rw [hz2]; omega
  case c2 => unfold maxLen; omega
  case c3 => exact Nat.le_refl _
  intro w1 hown hgrow
  obtain ⟨C1, hO, hsz, -, -, -, -⟩ := own_of_row hown
  have hE : Ext w w1 := (Ext.refl w).grown hgrow (Nat.le_refl _) (by simp)
  clear hown hgrow hi hz0 hz1 hz2
  go_wp2_with fail
  go_loopw [4] (fun i wr => ∃ (k : Nat) (C : Array Value), k ≤ a.length ∧ i = .int .i64 k ∧ Ext w wr ∧ Own wr w.heap.size 61 C ∧ Hid (C.size = a.length * 5 ∧ ∃ fp, RepR wr 5 ((a.take k).map MExpr.d) (C.toList.take (k * 5)) fp ∧ Fresh wr (w.heap.size + 1) fp)) (fun i _ => a.length - (intOf i).toNat)
  case atStart => exact ⟨0, C1, Nat.zero_le _, rfl, hE, hO, hsz, [], by simp [RepR], Fresh.nil _ _⟩
  clear hE hO hsz C1 w1
  case round =>
    obtain ⟨k, C, hk, rfl, hx, hO, hR⟩ := hrel
    have hsw := hO.lt
    by_cases hlt : k < a.length
    · obtain rfl := pa (by omega)
      obtain ⟨ea, la, cx, ra⟩ := ha k a[k] (by simp [hlt])
      obtain ⟨aa0, cc0, aa1, cc1, rfl, _, _⟩ := MExpr.op_en ra
      have a0 := hx.cell (show w.cell? ⟨ba, oa + k * 5, none⟩ = some _ from cx 0 (by omega))
      have a1 := hx.cell (show w.cell? ⟨ba, oa + k * 5 + 1, none⟩ = some _ from cx 1 (by omega))
      have a2 := hx.cell (show w.cell? ⟨ba, oa + k * 5 + 2, none⟩ = some _ from cx 2 (by omega))
      have a3 := hx.cell (show w.cell? ⟨ba, oa + k * 5 + 3, none⟩ = some _ from cx 3 (by omega))
      have a4 := hx.cell (show w.cell? ⟨ba, oa + k * 5 + 4, none⟩ = some _ from cx 4 (by omega))
      clear cx la ha pa
      have hbk : (MExpr.d a[k]).bulk ≤ 1048576 := by have := D.bulkL_mem (List.mem_map.2 ⟨a[k], List.getElem_mem hlt, rfl⟩ : MExpr.d a[k] ∈ a.map MExpr.d); have := Hb.out; omega
      go_wp2_with fail
      refine (ih.out a[k] _ wr (hn.out _ (List.getElem_mem hlt)) (Rep.ext hx ra) hbk).mono ?_
      clear a0 a1 a2 a3 a4 hbk
      rintro e w2 ⟨cs2, fd, rfl, hd, hfd, hx2⟩
      obtain ⟨na0, nc0, na1, nc1, rfl, _, _⟩ := MExpr.op_en hd.rep
      have hO2 := hO.ext hx2
      have HD := Lib.hid hd; clear hd
      have hsz := hR.out.1
      obtain ⟨v0, c0⟩ := hO2.some (k * 5) (by omega)
      obtain ⟨v1, c1⟩ := hO2.some (k * 5 + 1) (by omega)
      obtain ⟨v2, c2⟩ := hO2.some (k * 5 + 2) (by omega)
      obtain ⟨v3, c3⟩ := hO2.some (k * 5 + 3) (by omega)
      obtain ⟨v4, c4⟩ := hO2.some (k * 5 + 4) (by omega)
      have f0 := hO2.frozen (k * 5)
      have f1 := hO2.frozen (k * 5 + 1)
      have f2 := hO2.frozen (k * 5 + 2)
      have f3 := hO2.frozen (k * 5 + 3)
      have f4 := hO2.frozen (k * 5 + 4)
      clear hsz
      go_wp2_with fail
      clear c0 c1 c2 c3 c4 f0 f1 f2 f3 f4
      go_roundw
      case rel =>
        obtain ⟨hsz, fp, hr, hf⟩ := hR.out
        have hB : w.heap.size ∉ fp := fun h => by have := hf.ge _ h; omega
        obtain ⟨r1, r2, r3⟩ := row_step (d := MExpr.d a[k]) (vs := [.int .i64 a[k].kind, .string a[k].text, .int .i64 a[k].number, .slice na0 a[k].names.length nc0, .slice na1 a[k].kids.length nc1]) (fd := fd) hO2 hsz (hr.ext hx2) hB HD.out (fun h => by have := hfd.ge _ h; omega) rfl hlt
        refine ⟨k + 1, _, by omega, by go_num, Ext.wsets (Nat.le_refl _) [.int .i64 a[k].kind, .string a[k].text, .int .i64 a[k].number, .slice na0 a[k].names.length nc0, .slice na1 a[k].kids.length nc1] (k * 5) (hx.trans hx2), r1, r2, fp ++ fd, ?_, ?_⟩
        · rw [List.take_succ_eq_append_getElem hlt, List.map_append]; exact r3
        · exact (hf.append hx2 hfd (Nat.le_refl _) (by omega)).wsets (fun h => by rcases List.mem_append.1 h with h | h; exact hB h; exact (fun h => by have := hfd.ge _ h; omega) h) [.int .i64 a[k].kind, .string a[k].text, .int .i64 a[k].number, .slice na0 a[k].names.length nc0, .slice na1 a[k].kids.length nc1] (k * 5)
      case measure => simp [intOf]; omega
    · go_wp2_with fail
      go_ret
      obtain ⟨hsz, fp, hr, hf⟩ := hR.out
      obtain rfl : k = a.length := by omega
      rw [List.take_length] at hr
      exact ⟨_, _, _, _, rfl, row_done hO hsz hr (by simp) (by unfold maxLen; omega), hf.row hO (Nat.le_refl _), hx⟩

set_option maxHeartbeats 400000 in
theorem toExpr_of (n : Nat) (ih : Hid (∀ (a : List MExpr) (va : Value) (w : World), (∀ x, x ∈ a → SizeOf.sizeOf x < n) → Rep w (MExprs a) [va] → (MExprs a).bulk ≤ 1048576 → Calls Tryz.prog 36 #[va] w (GivesV w (MExprs a)))) (x : MExpr) (cx : List Value) (w : World) (hn : Hid (SizeOf.sizeOf x < n + 1)) (rx : Rep w x.d cx) (hb : x.d.bulk ≤ 1048576) :
    Calls Tryz.prog 64 #[.agg cx.toArray] w (GivesS w x.d) := by
  have hk : Hid (∀ z, z ∈ x.kids → SizeOf.sizeOf z < n) := Lib.hid fun z hz => by have := MExpr.kid_lt hz; have := hn.out; omega
  obtain ⟨a_x_names, c_x_names, a_x_kids, c_x_kids, rfl, r_x_names, r_x_kids⟩ := MExpr.op_en rx
  clear rx
  rw [MExpr.d_eq] at hb
  simp only [D.bulk, D.bulkL] at hb
  have hb_names : (strs x.names).bulk ≤ 1048576 := by omega
  have hb_kids : (MExprs x.kids).bulk ≤ 1048576 := by omega
  clear hb
  go_enter Tryz.func64, Tryz.ntmps64
  go_wp2_with fail
  refine (toStringS_any x.names _ _ (Rep.ext ((((Ext.refl w).alloc _).alloc _).alloc _) r_x_names) hb_names).mono ?_
  rintro e w1 ⟨ao1, n1, cap1, fp1, rfl, hr1, hf1, hx1⟩
  obtain ⟨hc1, hfz1⟩ := bcell hx1
  have hz1 : w.heap.size < w1.heap.size ∧ w.heap.size + 1 < w1.heap.size ∧ w.heap.size + 1 + 1 < w1.heap.size := by have := hx1.size; simp only [World.size_alloc, size_setCell] at this; omega
  obtain ⟨hp1, hq1, hz1⟩ := hz1
  have he1 : w.heap.size + 1 + 1 + 1 ≤ w1.heap.size := by have := hx1.size; simp only [World.size_alloc, size_setCell] at this; omega
  simp only [World.size_alloc, size_setCell] at hf1
  have HR1 := Lib.hid hr1; clear hr1
  go_wp2_with fail
  refine (ih.out x.kids _ _ hk.out (Rep.ext ((((((Ext.refl w).alloc _).alloc _).alloc _).trans hx1).setCell (by omega) _) r_x_kids) hb_kids).mono ?_
  rintro e w2 ⟨ao2, n2, cap2, fp2, rfl, hr2, hf2, hx2⟩
  obtain ⟨hc2, hfz2⟩ := bcell hx2
  have hz2 : w.heap.size < w2.heap.size ∧ w.heap.size + 1 < w2.heap.size ∧ w.heap.size + 1 + 1 < w2.heap.size := by have := hx2.size; simp only [World.size_alloc, size_setCell] at this; omega
  obtain ⟨hp2, hq2, hz2⟩ := hz2
  have he2 : w1.heap.size ≤ w2.heap.size := by have := hx2.size; simp only [World.size_alloc, size_setCell] at this; omega
  simp only [World.size_alloc, size_setCell] at hf2
  have HR2 := Lib.hid hr2; clear hr2
  go_wp2_with fail
  refine bodyPost_ret (v := .agg #[.int .i64 x.kind, .string x.text, .int .i64 x.number, .slice ao1 n1 cap1, .slice ao2 n2 cap2]) (by simp [results, Tryz.results64, go_sem, hc1, hq1, hz1, hc2, hq2, hz2]) rfl ⟨[.int .i64 x.kind, .string x.text, .int .i64 x.number, .slice ao1 n1 cap1, .slice ao2 n2 cap2], fp1 ++ (fp2 ++ ([])), rfl, ?_, ?_, ?_⟩
  · refine MExpr.shut ?_ ?_
    · iterate 6 refine RepF.low ?_ hf1.ge (by omega) _
      refine RepF.ext hx2 ?_
      iterate 1 refine RepF.low ?_ hf1.ge (by omega) _
      exact HR1.out
    · iterate 6 refine RepF.low ?_ hf2.ge (by omega) _
      exact HR2.out
  · refine Fresh.mono (B := w.heap.size + 1 + 1 + 1) ?_ (by omega)
    refine Fresh.join (B2 := w1.heap.size) ?_ ?_ (fun b hb => hf1.lt hb) (by omega)
    · iterate 6 refine Fresh.low ?_ (by omega) _
      refine Fresh.ext ?_ hx2
      iterate 1 refine Fresh.low ?_ (by omega) _
      exact hf1
    refine Fresh.join (B2 := w2.heap.size) ?_ ?_ (fun b hb => hf2.lt hb) (by omega)
    · refine Fresh.mono (B := w1.heap.size) ?_ (by omega)
      iterate 6 refine Fresh.low ?_ (by omega) _
      exact hf2
    exact Fresh.nil _ _
  · iterate 6 refine Ext.setCell ?_ (by omega) _
    exact ((((((Ext.refl w).alloc _).alloc _).alloc _).trans hx1).setCell (by omega) _).trans hx2

theorem toExpr_lt : ∀ (n : Nat) (x : MExpr) (cx : List Value) (w : World), SizeOf.sizeOf x < n → Rep w x.d cx → x.d.bulk ≤ 1048576 →
    Calls Tryz.prog 64 #[.agg cx.toArray] w (GivesS w x.d) := by
  intro n
  induction n with
  | zero => intro x cx w h; omega
  | succ n ih => exact fun x cx w h rx hb => toExpr_of n (Lib.hid fun a va w hn ra hb => toExprS_of n (Lib.hid ih) a va w (Lib.hid hn) ra hb) x cx w (Lib.hid h) rx hb
theorem toExpr_any (x : MExpr) (cx : List Value) (w : World) (rx : Rep w x.d cx) (hb : x.d.bulk ≤ 1048576) :
    Calls Tryz.prog 64 #[.agg cx.toArray] w (GivesS w x.d) := toExpr_lt _ x cx w (Nat.lt_succ_self _) rx hb
theorem toExprS_any (a : List MExpr) (va : Value) (w : World) (ra : Rep w (MExprs a) [va]) (hb : (MExprs a).bulk ≤ 1048576) :
    Calls Tryz.prog 36 #[va] w (GivesV w (MExprs a)) :=
  toExprS_of (SizeOf.sizeOf a) (Lib.hid fun x cx w _ rx hb => toExpr_any x cx w rx hb) a va w (Lib.hid fun _ hx => List.sizeOf_lt_of_mem hx) ra hb

set_option maxHeartbeats 400000 in
theorem toMethod_any (x : MMethod) (cx : List Value) (w : World) (rx : Rep w x.d cx) (hb : x.d.bulk ≤ 1048576) :
    Calls Tryz.prog 15 #[.agg cx.toArray] w (GivesS w x.d) := by
  obtain ⟨a_x_params, c_x_params, a_x_temps, c_x_temps, a_x_body, c_x_body, rfl, r_x_params, r_x_temps, r_x_body⟩ := MMethod.op_en rx
  clear rx
  rw [MMethod.d_eq] at hb
  simp only [D.bulk, D.bulkL] at hb
  have hb_params : (strs x.params).bulk ≤ 1048576 := by omega
  have hb_temps : (strs x.temps).bulk ≤ 1048576 := by omega
  have hb_body : (MExprs x.body).bulk ≤ 1048576 := by omega
  clear hb
  go_enter Tryz.func15, Tryz.ntmps15
  go_wp2_with fail
  refine (toStringS_any x.params _ _ (Rep.ext ((((Ext.refl w).alloc _).alloc _).alloc _) r_x_params) hb_params).mono ?_
  rintro e w1 ⟨ao1, n1, cap1, fp1, rfl, hr1, hf1, hx1⟩
  obtain ⟨hc1, hfz1⟩ := bcell hx1
  have hz1 : w.heap.size < w1.heap.size ∧ w.heap.size + 1 < w1.heap.size ∧ w.heap.size + 1 + 1 < w1.heap.size := by have := hx1.size; simp only [World.size_alloc, size_setCell] at this; omega
  obtain ⟨hp1, hq1, hz1⟩ := hz1
  have he1 : w.heap.size + 1 + 1 + 1 ≤ w1.heap.size := by have := hx1.size; simp only [World.size_alloc, size_setCell] at this; omega
  simp only [World.size_alloc, size_setCell] at hf1
  have HR1 := Lib.hid hr1; clear hr1
  go_wp2_with fail
  refine (toStringS_any x.temps _ _ (Rep.ext ((((((Ext.refl w).alloc _).alloc _).alloc _).trans hx1).setCell (by omega) _) r_x_temps) hb_temps).mono ?_
  rintro e w2 ⟨ao2, n2, cap2, fp2, rfl, hr2, hf2, hx2⟩
  obtain ⟨hc2, hfz2⟩ := bcell hx2
  have hz2 : w.heap.size < w2.heap.size ∧ w.heap.size + 1 < w2.heap.size ∧ w.heap.size + 1 + 1 < w2.heap.size := by have := hx2.size; simp only [World.size_alloc, size_setCell] at this; omega
  obtain ⟨hp2, hq2, hz2⟩ := hz2
  have he2 : w1.heap.size ≤ w2.heap.size := by have := hx2.size; simp only [World.size_alloc, size_setCell] at this; omega
  simp only [World.size_alloc, size_setCell] at hf2
  have HR2 := Lib.hid hr2; clear hr2
  go_wp2_with fail
  refine (toExprS_any x.body _ _ (Rep.ext ((((((((Ext.refl w).alloc _).alloc _).alloc _).trans hx1).setCell (by omega) _).trans hx2).setCell (by omega) _) r_x_body) hb_body).mono ?_
  rintro e w3 ⟨ao3, n3, cap3, fp3, rfl, hr3, hf3, hx3⟩
  obtain ⟨hc3, hfz3⟩ := bcell hx3
  have hz3 : w.heap.size < w3.heap.size ∧ w.heap.size + 1 < w3.heap.size ∧ w.heap.size + 1 + 1 < w3.heap.size := by have := hx3.size; simp only [World.size_alloc, size_setCell] at this; omega
  obtain ⟨hp3, hq3, hz3⟩ := hz3
  have he3 : w2.heap.size ≤ w3.heap.size := by have := hx3.size; simp only [World.size_alloc, size_setCell] at this; omega
  simp only [World.size_alloc, size_setCell] at hf3
  have HR3 := Lib.hid hr3; clear hr3
  go_wp2_with fail
  refine bodyPost_ret (v := .agg #[.string x.selector, .bool x.cls, .slice ao1 n1 cap1, .slice ao2 n2 cap2, .slice ao3 n3 cap3]) (by simp [results, Tryz.results15, go_sem, hc1, hq1, hz1, hc2, hq2, hz2, hc3, hq3, hz3]) rfl ⟨[.string x.selector, .bool x.cls, .slice ao1 n1 cap1, .slice ao2 n2 cap2, .slice ao3 n3 cap3], fp1 ++ (fp2 ++ (fp3 ++ ([]))), rfl, ?_, ?_, ?_⟩
  · refine MMethod.shut ?_ ?_ ?_
    · iterate 6 refine RepF.low ?_ hf1.ge (by omega) _
      refine RepF.ext hx3 ?_
      iterate 1 refine RepF.low ?_ hf1.ge (by omega) _
      refine RepF.ext hx2 ?_
      iterate 1 refine RepF.low ?_ hf1.ge (by omega) _
      exact HR1.out
    · iterate 6 refine RepF.low ?_ hf2.ge (by omega) _
      refine RepF.ext hx3 ?_
      iterate 1 refine RepF.low ?_ hf2.ge (by omega) _
      exact HR2.out
    · iterate 6 refine RepF.low ?_ hf3.ge (by omega) _
      exact HR3.out
  · refine Fresh.mono (B := w.heap.size + 1 + 1 + 1) ?_ (by omega)
    refine Fresh.join (B2 := w1.heap.size) ?_ ?_ (fun b hb => hf1.lt hb) (by omega)
    · iterate 6 refine Fresh.low ?_ (by omega) _
      refine Fresh.ext ?_ hx3
      iterate 1 refine Fresh.low ?_ (by omega) _
      refine Fresh.ext ?_ hx2
      iterate 1 refine Fresh.low ?_ (by omega) _
      exact hf1
    refine Fresh.join (B2 := w2.heap.size) ?_ ?_ (fun b hb => hf2.lt hb) (by omega)
    · refine Fresh.mono (B := w1.heap.size) ?_ (by omega)
      iterate 6 refine Fresh.low ?_ (by omega) _
      refine Fresh.ext ?_ hx3
      iterate 1 refine Fresh.low ?_ (by omega) _
      exact hf2
    refine Fresh.join (B2 := w3.heap.size) ?_ ?_ (fun b hb => hf3.lt hb) (by omega)
    · refine Fresh.mono (B := w2.heap.size) ?_ (by omega)
      iterate 6 refine Fresh.low ?_ (by omega) _
      exact hf3
    exact Fresh.nil _ _
  · iterate 6 refine Ext.setCell ?_ (by omega) _
    exact ((((((((Ext.refl w).alloc _).alloc _).alloc _).trans hx1).setCell (by omega) _).trans hx2).setCell (by omega) _).trans hx3

theorem Tryz.info35 : (Tryz.prog.info? 35).map (fun i => (i.zero, i.size, i.bytes)) = some (some (.agg #[.string ByteArray.empty, .bool false, .slice none 0 0, .slice none 0 0, .slice none 0 0]), 5, 96) := by kernel_rfl
set_option maxHeartbeats 400000 in
theorem toMethodS_any (a : List MMethod) (va : Value) (w : World) (ra : Rep w (MMethods a) [va]) (hb : (MMethods a).bulk ≤ 1048576) :
    Calls Tryz.prog 63 #[va] w (GivesV w (MMethods a)) := by
  obtain ⟨ao, ca, ba, oa, e1, hla, hma, pa, ha⟩ := Rep.slmap ra
  simp only [List.cons.injEq, and_true] at e1
  subst e1
  clear ra
  unfold maxLen at hma
  have Hb : Hid (a.length + D.bulkL (a.map MMethod.d) ≤ 1048576) := Lib.hid (by simpa [MMethods, D.bulk] using hb)
  have hs : a.length ≤ 1048576 := by have := Hb.out; omega
  clear hb
  obtain ⟨i0, hi, hz0, hz1, hz2⟩ := info_parts Tryz.info35
  go_enter Tryz.func63, Tryz.ntmps63
  go_wp2_with (at_make; refine wpList_make_full _ rfl _ _ 46 rfl w.heap.size 35 i0 _ 5 Tryz.underlying46 hi hz0 hz1 .i64 .i64 _ _ a.length rfl rfl rfl rfl ?c1 ?c2 ?c3 ?_)
  case c1 => rw [hz2]; omega
  case c2 => unfold maxLen; omega
  case c3 => exact Nat.le_refl _
  intro w1 hown hgrow
  obtain ⟨C1, hO, hsz, -, -, -, -⟩ := own_of_row hown
  have hE : Ext w w1 := (Ext.refl w).grown hgrow (Nat.le_refl _) (by simp)
  clear hown hgrow hi hz0 hz1 hz2
  go_wp2_with fail
  go_loopw [4] (fun i wr => ∃ (k : Nat) (C : Array Value), k ≤ a.length ∧ i = .int .i64 k ∧ Ext w wr ∧ Own wr w.heap.size 35 C ∧ Hid (C.size = a.length * 5 ∧ ∃ fp, RepR wr 5 ((a.take k).map MMethod.d) (C.toList.take (k * 5)) fp ∧ Fresh wr (w.heap.size + 1) fp)) (fun i _ => a.length - (intOf i).toNat)
  case atStart => exact ⟨0, C1, Nat.zero_le _, rfl, hE, hO, hsz, [], by simp [RepR], Fresh.nil _ _⟩
  clear hE hO hsz C1 w1
  case round =>
    obtain ⟨k, C, hk, rfl, hx, hO, hR⟩ := hrel
    have hsw := hO.lt
    by_cases hlt : k < a.length
    · obtain rfl := pa (by omega)
      obtain ⟨ea, la, cx, ra⟩ := ha k a[k] (by simp [hlt])
      obtain ⟨aa0, cc0, aa1, cc1, aa2, cc2, rfl, _, _, _⟩ := MMethod.op_en ra
      have a0 := hx.cell (show w.cell? ⟨ba, oa + k * 5, none⟩ = some _ from cx 0 (by omega))
      have a1 := hx.cell (show w.cell? ⟨ba, oa + k * 5 + 1, none⟩ = some _ from cx 1 (by omega))
      have a2 := hx.cell (show w.cell? ⟨ba, oa + k * 5 + 2, none⟩ = some _ from cx 2 (by omega))
      have a3 := hx.cell (show w.cell? ⟨ba, oa + k * 5 + 3, none⟩ = some _ from cx 3 (by omega))
      have a4 := hx.cell (show w.cell? ⟨ba, oa + k * 5 + 4, none⟩ = some _ from cx 4 (by omega))
      clear cx la ha pa
      have hbk : (MMethod.d a[k]).bulk ≤ 1048576 := by have := D.bulkL_mem (List.mem_map.2 ⟨a[k], List.getElem_mem hlt, rfl⟩ : MMethod.d a[k] ∈ a.map MMethod.d); have := Hb.out; omega
      go_wp2_with fail
      refine (toMethod_any a[k] _ wr (Rep.ext hx ra) hbk).mono ?_
      clear a0 a1 a2 a3 a4 hbk
      rintro e w2 ⟨cs2, fd, rfl, hd, hfd, hx2⟩
      obtain ⟨na0, nc0, na1, nc1, na2, nc2, rfl, _, _, _⟩ := MMethod.op_en hd.rep
      have hO2 := hO.ext hx2
      have HD := Lib.hid hd; clear hd
      have hsz := hR.out.1
      obtain ⟨v0, c0⟩ := hO2.some (k * 5) (by omega)
      obtain ⟨v1, c1⟩ := hO2.some (k * 5 + 1) (by omega)
      obtain ⟨v2, c2⟩ := hO2.some (k * 5 + 2) (by omega)
      obtain ⟨v3, c3⟩ := hO2.some (k * 5 + 3) (by omega)
      obtain ⟨v4, c4⟩ := hO2.some (k * 5 + 4) (by omega)
      have f0 := hO2.frozen (k * 5)
      have f1 := hO2.frozen (k * 5 + 1)
      have f2 := hO2.frozen (k * 5 + 2)
      have f3 := hO2.frozen (k * 5 + 3)
      have f4 := hO2.frozen (k * 5 + 4)
      clear hsz
      go_wp2_with fail
      clear c0 c1 c2 c3 c4 f0 f1 f2 f3 f4
      go_roundw
      case rel =>
        obtain ⟨hsz, fp, hr, hf⟩ := hR.out
        have hB : w.heap.size ∉ fp := fun h => by have := hf.ge _ h; omega
        obtain ⟨r1, r2, r3⟩ := row_step (d := MMethod.d a[k]) (vs := [.string a[k].selector, .bool a[k].cls, .slice na0 a[k].params.length nc0, .slice na1 a[k].temps.length nc1, .slice na2 a[k].body.length nc2]) (fd := fd) hO2 hsz (hr.ext hx2) hB HD.out (fun h => by have := hfd.ge _ h; omega) rfl hlt
        refine ⟨k + 1, _, by omega, by go_num, Ext.wsets (Nat.le_refl _) [.string a[k].selector, .bool a[k].cls, .slice na0 a[k].params.length nc0, .slice na1 a[k].temps.length nc1, .slice na2 a[k].body.length nc2] (k * 5) (hx.trans hx2), r1, r2, fp ++ fd, ?_, ?_⟩
        · rw [List.take_succ_eq_append_getElem hlt, List.map_append]; exact r3
        · exact (hf.append hx2 hfd (Nat.le_refl _) (by omega)).wsets (fun h => by rcases List.mem_append.1 h with h | h; exact hB h; exact (fun h => by have := hfd.ge _ h; omega) h) [.string a[k].selector, .bool a[k].cls, .slice na0 a[k].params.length nc0, .slice na1 a[k].temps.length nc1, .slice na2 a[k].body.length nc2] (k * 5)
      case measure => simp [intOf]; omega
    · go_wp2_with fail
      go_ret
      obtain ⟨hsz, fp, hr, hf⟩ := hR.out
      obtain rfl : k = a.length := by omega
      rw [List.take_length] at hr
      exact ⟨_, _, _, _, rfl, row_done hO hsz hr (by simp) (by unfold maxLen; omega), hf.row hO (Nat.le_refl _), hx⟩

set_option maxHeartbeats 400000 in
theorem toClassDef_any (x : MClassDef) (cx : List Value) (w : World) (rx : Rep w x.d cx) (hb : x.d.bulk ≤ 1048576) :
    Calls Tryz.prog 34 #[.agg cx.toArray] w (GivesS w x.d) := by
  obtain ⟨a_x_fields, c_x_fields, a_x_methods, c_x_methods, rfl, r_x_fields, r_x_methods⟩ := MClassDef.op_en rx
  clear rx
  rw [MClassDef.d_eq] at hb
  simp only [D.bulk, D.bulkL] at hb
  have hb_fields : (strs x.fields).bulk ≤ 1048576 := by omega
  have hb_methods : (MMethods x.methods).bulk ≤ 1048576 := by omega
  clear hb
  go_enter Tryz.func34, Tryz.ntmps34
  go_wp2_with fail
  refine (toStringS_any x.fields _ _ (Rep.ext ((((Ext.refl w).alloc _).alloc _).alloc _) r_x_fields) hb_fields).mono ?_
  rintro e w1 ⟨ao1, n1, cap1, fp1, rfl, hr1, hf1, hx1⟩
  obtain ⟨hc1, hfz1⟩ := bcell hx1
  have hz1 : w.heap.size < w1.heap.size ∧ w.heap.size + 1 < w1.heap.size ∧ w.heap.size + 1 + 1 < w1.heap.size := by have := hx1.size; simp only [World.size_alloc, size_setCell] at this; omega
  obtain ⟨hp1, hq1, hz1⟩ := hz1
  have he1 : w.heap.size + 1 + 1 + 1 ≤ w1.heap.size := by have := hx1.size; simp only [World.size_alloc, size_setCell] at this; omega
  simp only [World.size_alloc, size_setCell] at hf1
  have HR1 := Lib.hid hr1; clear hr1
  go_wp2_with fail
  refine (toMethodS_any x.methods _ _ (Rep.ext ((((((Ext.refl w).alloc _).alloc _).alloc _).trans hx1).setCell (by omega) _) r_x_methods) hb_methods).mono ?_
  rintro e w2 ⟨ao2, n2, cap2, fp2, rfl, hr2, hf2, hx2⟩
  obtain ⟨hc2, hfz2⟩ := bcell hx2
  have hz2 : w.heap.size < w2.heap.size ∧ w.heap.size + 1 < w2.heap.size ∧ w.heap.size + 1 + 1 < w2.heap.size := by have := hx2.size; simp only [World.size_alloc, size_setCell] at this; omega
  obtain ⟨hp2, hq2, hz2⟩ := hz2
  have he2 : w1.heap.size ≤ w2.heap.size := by have := hx2.size; simp only [World.size_alloc, size_setCell] at this; omega
  simp only [World.size_alloc, size_setCell] at hf2
  have HR2 := Lib.hid hr2; clear hr2
  go_wp2_with fail
  refine bodyPost_ret (v := .agg #[.string x.name, .string x.parent, .slice ao1 n1 cap1, .slice ao2 n2 cap2]) (by simp [results, Tryz.results34, go_sem, hc1, hq1, hz1, hc2, hq2, hz2]) rfl ⟨[.string x.name, .string x.parent, .slice ao1 n1 cap1, .slice ao2 n2 cap2], fp1 ++ (fp2 ++ ([])), rfl, ?_, ?_, ?_⟩
  · refine MClassDef.shut ?_ ?_
    · iterate 5 refine RepF.low ?_ hf1.ge (by omega) _
      refine RepF.ext hx2 ?_
      iterate 1 refine RepF.low ?_ hf1.ge (by omega) _
      exact HR1.out
    · iterate 5 refine RepF.low ?_ hf2.ge (by omega) _
      exact HR2.out
  · refine Fresh.mono (B := w.heap.size + 1 + 1 + 1) ?_ (by omega)
    refine Fresh.join (B2 := w1.heap.size) ?_ ?_ (fun b hb => hf1.lt hb) (by omega)
    · iterate 5 refine Fresh.low ?_ (by omega) _
      refine Fresh.ext ?_ hx2
      iterate 1 refine Fresh.low ?_ (by omega) _
      exact hf1
    refine Fresh.join (B2 := w2.heap.size) ?_ ?_ (fun b hb => hf2.lt hb) (by omega)
    · refine Fresh.mono (B := w1.heap.size) ?_ (by omega)
      iterate 5 refine Fresh.low ?_ (by omega) _
      exact hf2
    exact Fresh.nil _ _
  · iterate 5 refine Ext.setCell ?_ (by omega) _
    exact ((((((Ext.refl w).alloc _).alloc _).alloc _).trans hx1).setCell (by omega) _).trans hx2

theorem Tryz.info48 : (Tryz.prog.info? 48).map (fun i => (i.zero, i.size, i.bytes)) = some (some (.agg #[.string ByteArray.empty, .string ByteArray.empty, .slice none 0 0, .slice none 0 0]), 4, 80) := by kernel_rfl
set_option maxHeartbeats 400000 in
theorem toClassDefS_any (a : List MClassDef) (va : Value) (w : World) (ra : Rep w (MClassDefs a) [va]) (hb : (MClassDefs a).bulk ≤ 1048576) :
    Calls Tryz.prog 14 #[va] w (GivesV w (MClassDefs a)) := by
  obtain ⟨ao, ca, ba, oa, e1, hla, hma, pa, ha⟩ := Rep.slmap ra
  simp only [List.cons.injEq, and_true] at e1
  subst e1
  clear ra
  unfold maxLen at hma
  have Hb : Hid (a.length + D.bulkL (a.map MClassDef.d) ≤ 1048576) := Lib.hid (by simpa [MClassDefs, D.bulk] using hb)
  have hs : a.length ≤ 1048576 := by have := Hb.out; omega
  clear hb
  obtain ⟨i0, hi, hz0, hz1, hz2⟩ := info_parts Tryz.info48
  go_enter Tryz.func14, Tryz.ntmps14
  go_wp2_with (at_make; refine wpList_make_full _ rfl _ _ 32 rfl w.heap.size 48 i0 _ 4 Tryz.underlying32 hi hz0 hz1 .i64 .i64 _ _ a.length rfl rfl rfl rfl ?c1 ?c2 ?c3 ?_)
  case c1 => rw [hz2]; omega
  case c2 => unfold maxLen; omega
  case c3 => exact Nat.le_refl _
  intro w1 hown hgrow
  obtain ⟨C1, hO, hsz, -, -, -, -⟩ := own_of_row hown
  have hE : Ext w w1 := (Ext.refl w).grown hgrow (Nat.le_refl _) (by simp)
  clear hown hgrow hi hz0 hz1 hz2
  go_wp2_with fail
  go_loopw [4] (fun i wr => ∃ (k : Nat) (C : Array Value), k ≤ a.length ∧ i = .int .i64 k ∧ Ext w wr ∧ Own wr w.heap.size 48 C ∧ Hid (C.size = a.length * 4 ∧ ∃ fp, RepR wr 4 ((a.take k).map MClassDef.d) (C.toList.take (k * 4)) fp ∧ Fresh wr (w.heap.size + 1) fp)) (fun i _ => a.length - (intOf i).toNat)
  case atStart => exact ⟨0, C1, Nat.zero_le _, rfl, hE, hO, hsz, [], by simp [RepR], Fresh.nil _ _⟩
  clear hE hO hsz C1 w1
  case round =>
    obtain ⟨k, C, hk, rfl, hx, hO, hR⟩ := hrel
    have hsw := hO.lt
    by_cases hlt : k < a.length
    · obtain rfl := pa (by omega)
      obtain ⟨ea, la, cx, ra⟩ := ha k a[k] (by simp [hlt])
      obtain ⟨aa0, cc0, aa1, cc1, rfl, _, _⟩ := MClassDef.op_en ra
      have a0 := hx.cell (show w.cell? ⟨ba, oa + k * 4, none⟩ = some _ from cx 0 (by omega))
      have a1 := hx.cell (show w.cell? ⟨ba, oa + k * 4 + 1, none⟩ = some _ from cx 1 (by omega))
      have a2 := hx.cell (show w.cell? ⟨ba, oa + k * 4 + 2, none⟩ = some _ from cx 2 (by omega))
      have a3 := hx.cell (show w.cell? ⟨ba, oa + k * 4 + 3, none⟩ = some _ from cx 3 (by omega))
      clear cx la ha pa
      have hbk : (MClassDef.d a[k]).bulk ≤ 1048576 := by have := D.bulkL_mem (List.mem_map.2 ⟨a[k], List.getElem_mem hlt, rfl⟩ : MClassDef.d a[k] ∈ a.map MClassDef.d); have := Hb.out; omega
      go_wp2_with fail
      refine (toClassDef_any a[k] _ wr (Rep.ext hx ra) hbk).mono ?_
      clear a0 a1 a2 a3 hbk
      rintro e w2 ⟨cs2, fd, rfl, hd, hfd, hx2⟩
      obtain ⟨na0, nc0, na1, nc1, rfl, _, _⟩ := MClassDef.op_en hd.rep
      have hO2 := hO.ext hx2
      have HD := Lib.hid hd; clear hd
      have hsz := hR.out.1
      obtain ⟨v0, c0⟩ := hO2.some (k * 4) (by omega)
      obtain ⟨v1, c1⟩ := hO2.some (k * 4 + 1) (by omega)
      obtain ⟨v2, c2⟩ := hO2.some (k * 4 + 2) (by omega)
      obtain ⟨v3, c3⟩ := hO2.some (k * 4 + 3) (by omega)
      have f0 := hO2.frozen (k * 4)
      have f1 := hO2.frozen (k * 4 + 1)
      have f2 := hO2.frozen (k * 4 + 2)
      have f3 := hO2.frozen (k * 4 + 3)
      clear hsz
      go_wp2_with fail
      clear c0 c1 c2 c3 f0 f1 f2 f3
      go_roundw
      case rel =>
        obtain ⟨hsz, fp, hr, hf⟩ := hR.out
        have hB : w.heap.size ∉ fp := fun h => by have := hf.ge _ h; omega
        obtain ⟨r1, r2, r3⟩ := row_step (d := MClassDef.d a[k]) (vs := [.string a[k].name, .string a[k].parent, .slice na0 a[k].fields.length nc0, .slice na1 a[k].methods.length nc1]) (fd := fd) hO2 hsz (hr.ext hx2) hB HD.out (fun h => by have := hfd.ge _ h; omega) rfl hlt
        refine ⟨k + 1, _, by omega, by go_num, Ext.wsets (Nat.le_refl _) [.string a[k].name, .string a[k].parent, .slice na0 a[k].fields.length nc0, .slice na1 a[k].methods.length nc1] (k * 4) (hx.trans hx2), r1, r2, fp ++ fd, ?_, ?_⟩
        · rw [List.take_succ_eq_append_getElem hlt, List.map_append]; exact r3
        · exact (hf.append hx2 hfd (Nat.le_refl _) (by omega)).wsets (fun h => by rcases List.mem_append.1 h with h | h; exact hB h; exact (fun h => by have := hfd.ge _ h; omega) h) [.string a[k].name, .string a[k].parent, .slice na0 a[k].fields.length nc0, .slice na1 a[k].methods.length nc1] (k * 4)
      case measure => simp [intOf]; omega
    · go_wp2_with fail
      go_ret
      obtain ⟨hsz, fp, hr, hf⟩ := hR.out
      obtain rfl : k = a.length := by omega
      rw [List.take_length] at hr
      exact ⟨_, _, _, _, rfl, row_done hO hsz hr (by simp) (by unfold maxLen; omega), hf.row hO (Nat.le_refl _), hx⟩

set_option maxHeartbeats 400000 in
theorem toUnit_any (x : MUnit) (cx : List Value) (w : World) (rx : Rep w x.d cx) (hb : x.d.bulk ≤ 1048576) :
    Calls Tryz.prog 6 #[.agg cx.toArray] w (GivesS w x.d) := by
  obtain ⟨a_x_classes, c_x_classes, a_x_main_params, c_x_main_params, a_x_main_temps, c_x_main_temps, a_x_main_body, c_x_main_body, rfl, r_x_classes, r_x_main_params, r_x_main_temps, r_x_main_body, r_x_main⟩ := MUnit.op_en rx
  clear rx
  rw [MUnit.d_eq] at hb
  simp only [D.bulk, D.bulkL] at hb
  have hb_classes : (MClassDefs x.classes).bulk ≤ 1048576 := by omega
  have hb_main : (x.main.d).bulk ≤ 1048576 := by omega
  clear hb
  go_enter Tryz.func6, Tryz.ntmps6
  go_wp2_with fail
  refine (toClassDefS_any x.classes _ _ (Rep.ext ((((Ext.refl w).alloc _).alloc _).alloc _) r_x_classes) hb_classes).mono ?_
  rintro e w1 ⟨ao1, n1, cap1, fp1, rfl, hr1, hf1, hx1⟩
  obtain ⟨hc1, hfz1⟩ := bcell hx1
  have hz1 : w.heap.size < w1.heap.size ∧ w.heap.size + 1 < w1.heap.size ∧ w.heap.size + 1 + 1 < w1.heap.size := by have := hx1.size; simp only [World.size_alloc, size_setCell] at this; omega
  obtain ⟨hp1, hq1, hz1⟩ := hz1
  have he1 : w.heap.size + 1 + 1 + 1 ≤ w1.heap.size := by have := hx1.size; simp only [World.size_alloc, size_setCell] at this; omega
  simp only [World.size_alloc, size_setCell] at hf1
  have HR1 := Lib.hid hr1; clear hr1
  go_wp2_with fail
  refine (toMethod_any x.main _ _ (Rep.ext ((((((Ext.refl w).alloc _).alloc _).alloc _).trans hx1).setCell (by omega) _) r_x_main) hb_main).mono ?_
  rintro e w2 ⟨cs2, fp2, rfl, hr2, hf2, hx2⟩
  obtain ⟨na_x_main_params, nc_x_main_params, na_x_main_temps, nc_x_main_temps, na_x_main_body, nc_x_main_body, rfl, _, _, _⟩ := MMethod.op_en hr2.rep
  obtain ⟨hc2, hfz2⟩ := bcell hx2
  have hz2 : w.heap.size < w2.heap.size ∧ w.heap.size + 1 < w2.heap.size ∧ w.heap.size + 1 + 1 < w2.heap.size := by have := hx2.size; simp only [World.size_alloc, size_setCell] at this; omega
  obtain ⟨hp2, hq2, hz2⟩ := hz2
  have he2 : w1.heap.size ≤ w2.heap.size := by have := hx2.size; simp only [World.size_alloc, size_setCell] at this; omega
  simp only [World.size_alloc, size_setCell] at hf2
  have HR2 := Lib.hid hr2; clear hr2
  go_wp2_with fail
  refine bodyPost_ret (v := .agg #[.slice ao1 n1 cap1, .string x.main.selector, .bool x.main.cls, .slice na_x_main_params x.main.params.length nc_x_main_params, .slice na_x_main_temps x.main.temps.length nc_x_main_temps, .slice na_x_main_body x.main.body.length nc_x_main_body]) (by simp [results, Tryz.results6, go_sem, hc1, hq1, hz1, hc2, hq2, hz2]) rfl ⟨[.slice ao1 n1 cap1, .string x.main.selector, .bool x.main.cls, .slice na_x_main_params x.main.params.length nc_x_main_params, .slice na_x_main_temps x.main.temps.length nc_x_main_temps, .slice na_x_main_body x.main.body.length nc_x_main_body], fp1 ++ (fp2 ++ ([])), rfl, ?_, ?_, ?_⟩
  · refine MUnit.shut (c_main := [.string x.main.selector, .bool x.main.cls, .slice na_x_main_params x.main.params.length nc_x_main_params, .slice na_x_main_temps x.main.temps.length nc_x_main_temps, .slice na_x_main_body x.main.body.length nc_x_main_body]) ?_ ?_
    · iterate 11 refine RepF.low ?_ hf1.ge (by omega) _
      refine RepF.ext hx2 ?_
      iterate 1 refine RepF.low ?_ hf1.ge (by omega) _
      exact HR1.out
    · iterate 11 refine RepF.low ?_ hf2.ge (by omega) _
      exact HR2.out
  · refine Fresh.mono (B := w.heap.size + 1 + 1 + 1) ?_ (by omega)
    refine Fresh.join (B2 := w1.heap.size) ?_ ?_ (fun b hb => hf1.lt hb) (by omega)
    · iterate 11 refine Fresh.low ?_ (by omega) _
      refine Fresh.ext ?_ hx2
      iterate 1 refine Fresh.low ?_ (by omega) _
      exact hf1
    refine Fresh.join (B2 := w2.heap.size) ?_ ?_ (fun b hb => hf2.lt hb) (by omega)
    · refine Fresh.mono (B := w1.heap.size) ?_ (by omega)
      iterate 11 refine Fresh.low ?_ (by omega) _
      exact hf2
    exact Fresh.nil _ _
  · iterate 11 refine Ext.setCell ?_ (by omega) _
    exact ((((((Ext.refl w).alloc _).alloc _).alloc _).trans hx1).setCell (by omega) _).trans hx2


end Go.Proofs.YtlppoffneeglgaaGreatDoor
