/-
  THE LAWS' COPIES.
  Conditions: those that each lemma states.
-/
import Derived.Test.YtpajlbmjlhafoaaDoorRows
import Derived.Test.YtpajlbmjlhafoaaDoorTypes
namespace Go.Proofs.YtpajlbmjlhafoaaDoor
open Go.RowKit
set_option linter.unusedSimpArgs false
set_option linter.unusedVariables false


theorem Tryd.info9 : (Tryd.prog.info? 9).map (fun i => (i.zero, i.size, i.bytes)) = some (some (.string ByteArray.empty), 1, 16) := by kernel_rfl
set_option maxHeartbeats 400000 in
theorem toStringS_any (a : List ByteArray) (va : Value) (w : World) (ra : Rep w (strs a) [va]) (hb : (strs a).bulk ≤ 1048576) :
    Calls Tryd.prog 12 #[va] w (GivesV w (strs a)) := by
  obtain ⟨ao, ca, ba, oa, e1, hla, hma, pa, ha⟩ := Rep.strs ra
  simp only [List.cons.injEq, and_true] at e1
  subst e1
  clear ra
  unfold maxLen at hma
  have Hb : Hid (a.length + D.bulkL (a.map D.str) ≤ 1048576) := Lib.hid (by simpa [strs, D.bulk] using hb)
  have hs : a.length ≤ 1048576 := by have := Hb.out; omega
  clear hb
  obtain ⟨i0, hi, hz0, hz1, hz2⟩ := info_parts Tryd.info9
  go_enter Tryd.func12, Tryd.ntmps12
  go_wp2_with (at_make; refine wpList_make_full _ rfl _ _ 24 rfl w.heap.size 9 i0 _ 1 Tryd.underlying24 hi hz0 hz1 .i64 .i64 _ _ a.length rfl rfl rfl rfl ?c1 ?c2 ?c3 ?_)
  case c1 => rw [hz2]; omega
  case c2 => unfold maxLen; omega
  case c3 => exact Nat.le_refl _
  intro w1 hown hgrow
  obtain ⟨C1, hO, hsz, -, -, -, -⟩ := own_of_row hown
  have hE : Ext w w1 := (Ext.refl w).grown hgrow (Nat.le_refl _) (by simp)
  clear hown hgrow hi hz0 hz1 hz2
  go_wp2_with fail
  go_loopw [4] (fun i wr => ∃ (k : Nat) (C : Array Value), k ≤ a.length ∧ i = .int .i64 k ∧ Ext w wr ∧ Own wr w.heap.size 9 C ∧ Hid (C.size = a.length * 1 ∧ ∃ fp, RepR wr 1 ((a.take k).map D.str) (C.toList.take (k * 1)) fp ∧ Fresh wr (w.heap.size + 1) fp)) (fun i _ => a.length - (intOf i).toNat)
  case atStart => exact ⟨0, C1, Nat.zero_le _, rfl, hE, hO, hsz, [], by simp [RepR], Fresh.nil _ _⟩
  clear hE hO hsz C1 w1
  case round =>
    obtain ⟨k, C, hk, rfl, hx, hO, hR⟩ := hrel
    have hsw := hO.lt
    by_cases hlt : k < a.length
    · obtain rfl := pa (by omega)
      have a0 := hx.cell (ha k a[k] (by simp [hlt]))
      clear ha pa
      have hsz := hR.out.1
      obtain ⟨v0, c0⟩ := hO.some (k) (by omega)
      have f0 := hO.frozen (k)
      clear hsz
      go_wp2_with fail
      clear c0 f0
      go_roundw
      case rel =>
        obtain ⟨hsz, fp, hr, hf⟩ := hR.out
        have hB : w.heap.size ∉ fp := fun h => by have := hf.ge _ h; omega
        obtain ⟨r1, r2, r3⟩ := row_step (d := D.str a[k]) (vs := [.string a[k]]) (fd := []) hO hsz hr hB (show RepF wr (D.str a[k]) [.string a[k]] [] from by simp [RepF]) (by simp) rfl hlt
        rw [Nat.mul_one] at r1 r2 r3
        refine ⟨k + 1, _, by omega, by go_num, Ext.wsets (Nat.le_refl _) [.string a[k]] (k) hx, r1, r2, fp ++ [], ?_, ?_⟩
        · rw [List.take_succ_eq_append_getElem hlt, List.map_append]; exact r3
        · rw [List.append_nil]; exact hf.wsets hB [.string a[k]] k
      case measure => simp [intOf]; omega
    · go_wp2_with fail
      go_ret
      obtain ⟨hsz, fp, hr, hf⟩ := hR.out
      obtain rfl : k = a.length := by omega
      rw [List.take_length] at hr
      exact ⟨_, _, _, _, rfl, row_done hO hsz hr (by simp) (by unfold maxLen; omega), hf.row hO (Nat.le_refl _), hx⟩

theorem Tryd.info3 : (Tryd.prog.info? 3).map (fun i => (i.zero, i.size, i.bytes)) = some (some (.int .i64 0), 1, 8) := by kernel_rfl
set_option maxHeartbeats 400000 in
theorem toIntS_any (a : List Int) (va : Value) (w : World) (ra : Rep w (ints a) [va]) (hb : (ints a).bulk ≤ 1048576) :
    Calls Tryd.prog 82 #[va] w (GivesV w (ints a)) := by
  obtain ⟨ao, ca, ba, oa, e1, hla, hma, pa, ha⟩ := Rep.ints ra
  simp only [List.cons.injEq, and_true] at e1
  subst e1
  clear ra
  unfold maxLen at hma
  have Hb : Hid (a.length + D.bulkL (a.map D.int) ≤ 1048576) := Lib.hid (by simpa [ints, D.bulk] using hb)
  have hs : a.length ≤ 1048576 := by have := Hb.out; omega
  clear hb
  obtain ⟨i0, hi, hz0, hz1, hz2⟩ := info_parts Tryd.info3
  go_enter Tryd.func82, Tryd.ntmps82
  go_wp2_with (at_make; refine wpList_make_full _ rfl _ _ 75 rfl w.heap.size 3 i0 _ 1 Tryd.underlying75 hi hz0 hz1 .i64 .i64 _ _ a.length rfl rfl rfl rfl ?c1 ?c2 ?c3 ?_)
  case c1 => rw [hz2]; omega
  case c2 => unfold maxLen; omega
  case c3 => exact Nat.le_refl _
  intro w1 hown hgrow
  obtain ⟨C1, hO, hsz, -, -, -, -⟩ := own_of_row hown
  have hE : Ext w w1 := (Ext.refl w).grown hgrow (Nat.le_refl _) (by simp)
  clear hown hgrow hi hz0 hz1 hz2
  go_wp2_with fail
  go_loopw [4] (fun i wr => ∃ (k : Nat) (C : Array Value), k ≤ a.length ∧ i = .int .i64 k ∧ Ext w wr ∧ Own wr w.heap.size 3 C ∧ Hid (C.size = a.length * 1 ∧ ∃ fp, RepR wr 1 ((a.take k).map D.int) (C.toList.take (k * 1)) fp ∧ Fresh wr (w.heap.size + 1) fp)) (fun i _ => a.length - (intOf i).toNat)
  case atStart => exact ⟨0, C1, Nat.zero_le _, rfl, hE, hO, hsz, [], by simp [RepR], Fresh.nil _ _⟩
  clear hE hO hsz C1 w1
  case round =>
    obtain ⟨k, C, hk, rfl, hx, hO, hR⟩ := hrel
    have hsw := hO.lt
    by_cases hlt : k < a.length
    · obtain rfl := pa (by omega)
      have a0 := hx.cell (ha k a[k] (by simp [hlt]))
      clear ha pa
      have hsz := hR.out.1
      obtain ⟨v0, c0⟩ := hO.some (k) (by omega)
      have f0 := hO.frozen (k)
      clear hsz
      go_wp2_with fail
      clear c0 f0
      go_roundw
      case rel =>
        obtain ⟨hsz, fp, hr, hf⟩ := hR.out
        have hB : w.heap.size ∉ fp := fun h => by have := hf.ge _ h; omega
        obtain ⟨r1, r2, r3⟩ := row_step (d := D.int a[k]) (vs := [.int .i64 a[k]]) (fd := []) hO hsz hr hB (show RepF wr (D.int a[k]) [.int .i64 a[k]] [] from by simp [RepF]) (by simp) rfl hlt
        rw [Nat.mul_one] at r1 r2 r3
        refine ⟨k + 1, _, by omega, by go_num, Ext.wsets (Nat.le_refl _) [.int .i64 a[k]] (k) hx, r1, r2, fp ++ [], ?_, ?_⟩
        · rw [List.take_succ_eq_append_getElem hlt, List.map_append]; exact r3
        · rw [List.append_nil]; exact hf.wsets hB [.int .i64 a[k]] k
      case measure => simp [intOf]; omega
    · go_wp2_with fail
      go_ret
      obtain ⟨hsz, fp, hr, hf⟩ := hR.out
      obtain rfl : k = a.length := by omega
      rw [List.take_length] at hr
      exact ⟨_, _, _, _, rfl, row_done hO hsz hr (by simp) (by unfold maxLen; omega), hf.row hO (Nat.le_refl _), hx⟩

set_option maxHeartbeats 400000 in
theorem toClassInfo_any (x : MClassInfo) (cx : List Value) (w : World) (rx : Rep w x.d cx) (hb : x.d.bulk ≤ 1048576) :
    Calls Tryd.prog 47 #[.agg cx.toArray] w (GivesS w x.d) := by
  obtain ⟨a_x_fields, c_x_fields, rfl, r_x_fields⟩ := MClassInfo.op_en rx
  clear rx
  rw [MClassInfo.d_eq] at hb
  simp only [D.bulk, D.bulkL] at hb
  have hb_fields : (strs x.fields).bulk ≤ 1048576 := by omega
  clear hb
  go_enter Tryd.func47, Tryd.ntmps47
  go_wp2_with fail
  refine (toStringS_any x.fields _ _ (Rep.ext ((((Ext.refl w).alloc _).alloc _).alloc _) r_x_fields) hb_fields).mono ?_
  rintro e w1 ⟨ao1, n1, cap1, fp1, rfl, hr1, hf1, hx1⟩
  obtain ⟨hc1, hfz1⟩ := bcell hx1
  have hz1 : w.heap.size < w1.heap.size ∧ w.heap.size + 1 < w1.heap.size ∧ w.heap.size + 1 + 1 < w1.heap.size := by have := hx1.size; simp only [World.size_alloc, size_setCell] at this; omega
  obtain ⟨hp1, hq1, hz1⟩ := hz1
  have he1 : w.heap.size + 1 + 1 + 1 ≤ w1.heap.size := by have := hx1.size; simp only [World.size_alloc, size_setCell] at this; omega
  simp only [World.size_alloc, size_setCell] at hf1
  have HR1 := Lib.hid hr1; clear hr1
  go_wp2_with fail
  refine bodyPost_ret (v := .agg #[.string x.name, .int .i64 x.parent, .slice ao1 n1 cap1]) (by simp [results, Tryd.results47, go_sem, hc1, hq1, hz1]) rfl ⟨[.string x.name, .int .i64 x.parent, .slice ao1 n1 cap1], fp1 ++ ([]), rfl, ?_, ?_, ?_⟩
  · refine MClassInfo.shut ?_
    · iterate 4 refine RepF.low ?_ hf1.ge (by omega) _
      exact HR1.out
  · refine Fresh.mono (B := w.heap.size + 1 + 1 + 1) ?_ (by omega)
    refine Fresh.join (B2 := w1.heap.size) ?_ ?_ (fun b hb => hf1.lt hb) (by omega)
    · iterate 4 refine Fresh.low ?_ (by omega) _
      exact hf1
    exact Fresh.nil _ _
  · iterate 4 refine Ext.setCell ?_ (by omega) _
    exact ((((Ext.refl w).alloc _).alloc _).alloc _).trans hx1

theorem Tryd.info88 : (Tryd.prog.info? 88).map (fun i => (i.zero, i.size, i.bytes)) = some (some (.agg #[.string ByteArray.empty, .int .i64 0, .slice none 0 0]), 3, 48) := by kernel_rfl
set_option maxHeartbeats 400000 in
theorem toClassInfoS_any (a : List MClassInfo) (va : Value) (w : World) (ra : Rep w (MClassInfos a) [va]) (hb : (MClassInfos a).bulk ≤ 1048576) :
    Calls Tryd.prog 22 #[va] w (GivesV w (MClassInfos a)) := by
  obtain ⟨ao, ca, ba, oa, e1, hla, hma, pa, ha⟩ := Rep.slmap ra
  simp only [List.cons.injEq, and_true] at e1
  subst e1
  clear ra
  unfold maxLen at hma
  have Hb : Hid (a.length + D.bulkL (a.map MClassInfo.d) ≤ 1048576) := Lib.hid (by simpa [MClassInfos, D.bulk] using hb)
  have hs : a.length ≤ 1048576 := by have := Hb.out; omega
  clear hb
  obtain ⟨i0, hi, hz0, hz1, hz2⟩ := info_parts Tryd.info88
  go_enter Tryd.func22, Tryd.ntmps22
  go_wp2_with (at_make; refine wpList_make_full _ rfl _ _ 29 rfl w.heap.size 88 i0 _ 3 Tryd.underlying29 hi hz0 hz1 .i64 .i64 _ _ a.length rfl rfl rfl rfl ?c1 ?c2 ?c3 ?_)
  case c1 => rw [hz2]; omega
  case c2 => unfold maxLen; omega
  case c3 => exact Nat.le_refl _
  intro w1 hown hgrow
  obtain ⟨C1, hO, hsz, -, -, -, -⟩ := own_of_row hown
  have hE : Ext w w1 := (Ext.refl w).grown hgrow (Nat.le_refl _) (by simp)
  clear hown hgrow hi hz0 hz1 hz2
  go_wp2_with fail
  go_loopw [4] (fun i wr => ∃ (k : Nat) (C : Array Value), k ≤ a.length ∧ i = .int .i64 k ∧ Ext w wr ∧ Own wr w.heap.size 88 C ∧ Hid (C.size = a.length * 3 ∧ ∃ fp, RepR wr 3 ((a.take k).map MClassInfo.d) (C.toList.take (k * 3)) fp ∧ Fresh wr (w.heap.size + 1) fp)) (fun i _ => a.length - (intOf i).toNat)
  case atStart => exact ⟨0, C1, Nat.zero_le _, rfl, hE, hO, hsz, [], by simp [RepR], Fresh.nil _ _⟩
  clear hE hO hsz C1 w1
  case round =>
    obtain ⟨k, C, hk, rfl, hx, hO, hR⟩ := hrel
    have hsw := hO.lt
    by_cases hlt : k < a.length
    · obtain rfl := pa (by omega)
      obtain ⟨ea, la, cx, ra⟩ := ha k a[k] (by simp [hlt])
      obtain ⟨aa0, cc0, rfl, _⟩ := MClassInfo.op_en ra
      have a0 := hx.cell (show w.cell? ⟨ba, oa + k * 3, none⟩ = some _ from cx 0 (by omega))
      have a1 := hx.cell (show w.cell? ⟨ba, oa + k * 3 + 1, none⟩ = some _ from cx 1 (by omega))
      have a2 := hx.cell (show w.cell? ⟨ba, oa + k * 3 + 2, none⟩ = some _ from cx 2 (by omega))
      clear cx la ha pa
      have hbk : (MClassInfo.d a[k]).bulk ≤ 1048576 := by have := D.bulkL_mem (List.mem_map.2 ⟨a[k], List.getElem_mem hlt, rfl⟩ : MClassInfo.d a[k] ∈ a.map MClassInfo.d); have := Hb.out; omega
      go_wp2_with fail
      refine (toClassInfo_any a[k] _ wr (Rep.ext hx ra) hbk).mono ?_
      clear a0 a1 a2 hbk
      rintro e w2 ⟨cs2, fd, rfl, hd, hfd, hx2⟩
      obtain ⟨na0, nc0, rfl, _⟩ := MClassInfo.op_en hd.rep
      have hO2 := hO.ext hx2
      have HD := Lib.hid hd; clear hd
      have hsz := hR.out.1
      obtain ⟨v0, c0⟩ := hO2.some (k * 3) (by omega)
      obtain ⟨v1, c1⟩ := hO2.some (k * 3 + 1) (by omega)
      obtain ⟨v2, c2⟩ := hO2.some (k * 3 + 2) (by omega)
      have f0 := hO2.frozen (k * 3)
      have f1 := hO2.frozen (k * 3 + 1)
      have f2 := hO2.frozen (k * 3 + 2)
      clear hsz
      go_wp2_with fail
      clear c0 c1 c2 f0 f1 f2
      go_roundw
      case rel =>
        obtain ⟨hsz, fp, hr, hf⟩ := hR.out
        have hB : w.heap.size ∉ fp := fun h => by have := hf.ge _ h; omega
        obtain ⟨r1, r2, r3⟩ := row_step (d := MClassInfo.d a[k]) (vs := [.string a[k].name, .int .i64 a[k].parent, .slice na0 a[k].fields.length nc0]) (fd := fd) hO2 hsz (hr.ext hx2) hB HD.out (fun h => by have := hfd.ge _ h; omega) rfl hlt
        refine ⟨k + 1, _, by omega, by go_num, Ext.wsets (Nat.le_refl _) [.string a[k].name, .int .i64 a[k].parent, .slice na0 a[k].fields.length nc0] (k * 3) (hx.trans hx2), r1, r2, fp ++ fd, ?_, ?_⟩
        · rw [List.take_succ_eq_append_getElem hlt, List.map_append]; exact r3
        · exact (hf.append hx2 hfd (Nat.le_refl _) (by omega)).wsets (fun h => by rcases List.mem_append.1 h with h | h; exact hB h; exact (fun h => by have := hfd.ge _ h; omega) h) [.string a[k].name, .int .i64 a[k].parent, .slice na0 a[k].fields.length nc0] (k * 3)
      case measure => simp [intOf]; omega
    · go_wp2_with fail
      go_ret
      obtain ⟨hsz, fp, hr, hf⟩ := hR.out
      obtain rfl : k = a.length := by omega
      rw [List.take_length] at hr
      exact ⟨_, _, _, _, rfl, row_done hO hsz hr (by simp) (by unfold maxLen; omega), hf.row hO (Nat.le_refl _), hx⟩

set_option maxHeartbeats 400000 in
theorem toValue_any (x : MValue) (cx : List Value) (w : World) (rx : Rep w x.d cx) (hb : x.d.bulk ≤ 1048576) :
    Calls Tryd.prog 105 #[.agg cx.toArray] w (GivesS w x.d) := by
  obtain rfl := MValue.op_en rx
  clear rx
  clear hb
  go_enter Tryd.func105, Tryd.ntmps105
  go_wp2
  exact bodyPost_ret (v := .agg #[.int .i64 x.kind, .int .i64 x.number, .string x.text]) (by simp [results, Tryd.results105, go_sem]) rfl ⟨_, [], rfl, MValue.shut, Fresh.nil _ _, (((Ext.refl _).alloc _).alloc _).alloc _⟩

theorem Tryd.info82 : (Tryd.prog.info? 82).map (fun i => (i.zero, i.size, i.bytes)) = some (some (.agg #[.int .i64 0, .int .i64 0, .string ByteArray.empty]), 3, 32) := by kernel_rfl
set_option maxHeartbeats 400000 in
theorem toValueS_any (a : List MValue) (va : Value) (w : World) (ra : Rep w (MValues a) [va]) (hb : (MValues a).bulk ≤ 1048576) :
    Calls Tryd.prog 81 #[va] w (GivesV w (MValues a)) := by
  obtain ⟨ao, ca, ba, oa, e1, hla, hma, pa, ha⟩ := Rep.slmap ra
  simp only [List.cons.injEq, and_true] at e1
  subst e1
  clear ra
  unfold maxLen at hma
  have Hb : Hid (a.length + D.bulkL (a.map MValue.d) ≤ 1048576) := Lib.hid (by simpa [MValues, D.bulk] using hb)
  have hs : a.length ≤ 1048576 := by have := Hb.out; omega
  clear hb
  obtain ⟨i0, hi, hz0, hz1, hz2⟩ := info_parts Tryd.info82
  go_enter Tryd.func81, Tryd.ntmps81
  go_wp2_with (at_make; refine wpList_make_full _ rfl _ _ 85 rfl w.heap.size 82 i0 _ 3 Tryd.underlying85 hi hz0 hz1 .i64 .i64 _ _ a.length rfl rfl rfl rfl ?c1 ?c2 ?c3 ?_)
  case c1 => rw [hz2]; omega
  case c2 => unfold maxLen; omega
  case c3 => exact Nat.le_refl _
  intro w1 hown hgrow
  obtain ⟨C1, hO, hsz, -, -, -, -⟩ := own_of_row hown
  have hE : Ext w w1 := (Ext.refl w).grown hgrow (Nat.le_refl _) (by simp)
  clear hown hgrow hi hz0 hz1 hz2
  go_wp2_with fail
  go_loopw [4] (fun i wr => ∃ (k : Nat) (C : Array Value), k ≤ a.length ∧ i = .int .i64 k ∧ Ext w wr ∧ Own wr w.heap.size 82 C ∧ Hid (C.size = a.length * 3 ∧ ∃ fp, RepR wr 3 ((a.take k).map MValue.d) (C.toList.take (k * 3)) fp ∧ Fresh wr (w.heap.size + 1) fp)) (fun i _ => a.length - (intOf i).toNat)
  case atStart => exact ⟨0, C1, Nat.zero_le _, rfl, hE, hO, hsz, [], by simp [RepR], Fresh.nil _ _⟩
  clear hE hO hsz C1 w1
  case round =>
    obtain ⟨k, C, hk, rfl, hx, hO, hR⟩ := hrel
    have hsw := hO.lt
    by_cases hlt : k < a.length
    · obtain rfl := pa (by omega)
      obtain ⟨ea, la, cx, ra⟩ := ha k a[k] (by simp [hlt])
      obtain rfl := MValue.op_en ra
      have a0 := hx.cell (show w.cell? ⟨ba, oa + k * 3, none⟩ = some _ from cx 0 (by omega))
      have a1 := hx.cell (show w.cell? ⟨ba, oa + k * 3 + 1, none⟩ = some _ from cx 1 (by omega))
      have a2 := hx.cell (show w.cell? ⟨ba, oa + k * 3 + 2, none⟩ = some _ from cx 2 (by omega))
      clear cx la ha pa
      have hbk : (MValue.d a[k]).bulk ≤ 1048576 := by have := D.bulkL_mem (List.mem_map.2 ⟨a[k], List.getElem_mem hlt, rfl⟩ : MValue.d a[k] ∈ a.map MValue.d); have := Hb.out; omega
      go_wp2_with fail
      refine (toValue_any a[k] _ wr (Rep.ext hx ra) hbk).mono ?_
      clear a0 a1 a2 hbk
      rintro e w2 ⟨cs2, fd, rfl, hd, hfd, hx2⟩
      obtain rfl := MValue.op_en hd.rep
      have hO2 := hO.ext hx2
      have HD := Lib.hid hd; clear hd
      have hsz := hR.out.1
      obtain ⟨v0, c0⟩ := hO2.some (k * 3) (by omega)
      obtain ⟨v1, c1⟩ := hO2.some (k * 3 + 1) (by omega)
      obtain ⟨v2, c2⟩ := hO2.some (k * 3 + 2) (by omega)
      have f0 := hO2.frozen (k * 3)
      have f1 := hO2.frozen (k * 3 + 1)
      have f2 := hO2.frozen (k * 3 + 2)
      clear hsz
      go_wp2_with fail
      clear c0 c1 c2 f0 f1 f2
      go_roundw
      case rel =>
        obtain ⟨hsz, fp, hr, hf⟩ := hR.out
        have hB : w.heap.size ∉ fp := fun h => by have := hf.ge _ h; omega
        obtain ⟨r1, r2, r3⟩ := row_step (d := MValue.d a[k]) (vs := [.int .i64 a[k].kind, .int .i64 a[k].number, .string a[k].text]) (fd := fd) hO2 hsz (hr.ext hx2) hB HD.out (fun h => by have := hfd.ge _ h; omega) rfl hlt
        refine ⟨k + 1, _, by omega, by go_num, Ext.wsets (Nat.le_refl _) [.int .i64 a[k].kind, .int .i64 a[k].number, .string a[k].text] (k * 3) (hx.trans hx2), r1, r2, fp ++ fd, ?_, ?_⟩
        · rw [List.take_succ_eq_append_getElem hlt, List.map_append]; exact r3
        · exact (hf.append hx2 hfd (Nat.le_refl _) (by omega)).wsets (fun h => by rcases List.mem_append.1 h with h | h; exact hB h; exact (fun h => by have := hfd.ge _ h; omega) h) [.int .i64 a[k].kind, .int .i64 a[k].number, .string a[k].text] (k * 3)
      case measure => simp [intOf]; omega
    · go_wp2_with fail
      go_ret
      obtain ⟨hsz, fp, hr, hf⟩ := hR.out
      obtain rfl : k = a.length := by omega
      rw [List.take_length] at hr
      exact ⟨_, _, _, _, rfl, row_done hO hsz hr (by simp) (by unfold maxLen; omega), hf.row hO (Nat.le_refl _), hx⟩

set_option maxHeartbeats 400000 in
theorem toObject_any (x : MObject) (cx : List Value) (w : World) (rx : Rep w x.d cx) (hb : x.d.bulk ≤ 1048576) :
    Calls Tryd.prog 48 #[.agg cx.toArray] w (GivesS w x.d) := by
  obtain ⟨a_x_fields, c_x_fields, a_x_numbers, c_x_numbers, rfl, r_x_fields, r_x_numbers⟩ := MObject.op_en rx
  clear rx
  rw [MObject.d_eq] at hb
  simp only [D.bulk, D.bulkL] at hb
  have hb_fields : (MValues x.fields).bulk ≤ 1048576 := by omega
  have hb_numbers : (ints x.numbers).bulk ≤ 1048576 := by omega
  clear hb
  go_enter Tryd.func48, Tryd.ntmps48
  go_wp2_with fail
  refine (toValueS_any x.fields _ _ (Rep.ext ((((Ext.refl w).alloc _).alloc _).alloc _) r_x_fields) hb_fields).mono ?_
  rintro e w1 ⟨ao1, n1, cap1, fp1, rfl, hr1, hf1, hx1⟩
  obtain ⟨hc1, hfz1⟩ := bcell hx1
  have hz1 : w.heap.size < w1.heap.size ∧ w.heap.size + 1 < w1.heap.size ∧ w.heap.size + 1 + 1 < w1.heap.size := by have := hx1.size; simp only [World.size_alloc, size_setCell] at this; omega
  obtain ⟨hp1, hq1, hz1⟩ := hz1
  have he1 : w.heap.size + 1 + 1 + 1 ≤ w1.heap.size := by have := hx1.size; simp only [World.size_alloc, size_setCell] at this; omega
  simp only [World.size_alloc, size_setCell] at hf1
  have HR1 := Lib.hid hr1; clear hr1
  go_wp2_with fail
  refine (toIntS_any x.numbers _ _ (Rep.ext ((((((Ext.refl w).alloc _).alloc _).alloc _).trans hx1).setCell (by omega) _) r_x_numbers) hb_numbers).mono ?_
  rintro e w2 ⟨ao2, n2, cap2, fp2, rfl, hr2, hf2, hx2⟩
  obtain ⟨hc2, hfz2⟩ := bcell hx2
  have hz2 : w.heap.size < w2.heap.size ∧ w.heap.size + 1 < w2.heap.size ∧ w.heap.size + 1 + 1 < w2.heap.size := by have := hx2.size; simp only [World.size_alloc, size_setCell] at this; omega
  obtain ⟨hp2, hq2, hz2⟩ := hz2
  have he2 : w1.heap.size ≤ w2.heap.size := by have := hx2.size; simp only [World.size_alloc, size_setCell] at this; omega
  simp only [World.size_alloc, size_setCell] at hf2
  have HR2 := Lib.hid hr2; clear hr2
  go_wp2_with fail
  refine bodyPost_ret (v := .agg #[.int .i64 x.kind, .int .i64 x.cls, .slice ao1 n1 cap1, .slice ao2 n2 cap2]) (by simp [results, Tryd.results48, go_sem, hc1, hq1, hz1, hc2, hq2, hz2]) rfl ⟨[.int .i64 x.kind, .int .i64 x.cls, .slice ao1 n1 cap1, .slice ao2 n2 cap2], fp1 ++ (fp2 ++ ([])), rfl, ?_, ?_, ?_⟩
  · refine MObject.shut ?_ ?_
    · iterate 5 refine RepF.low ?_ hf1.ge (by omega) _
      refine RepF.ext hx2 ?_
      iterate 1 refine RepF.low ?_ hf1.ge (by omega) _
      exact HR1.out
    · iterate 5 refine RepF.low ?_ hf2.ge (by omega) _
      exact HR2.out
  · refine Fresh.mono (B := w.heap.size + 1 + 1 + 1) ?_ (by omega)
    refine Fresh.join (B2 := w1.heap.size) ?_ ?_ (fun b hb => hf1.lt hb) (by omega)
    · iterate 5 refine Fresh.low ?_ (by omega) _
      refine Fresh.ext ?_ hx2
      iterate 1 refine Fresh.low ?_ (by omega) _
      exact hf1
    refine Fresh.join (B2 := w2.heap.size) ?_ ?_ (fun b hb => hf2.lt hb) (by omega)
    · refine Fresh.mono (B := w1.heap.size) ?_ (by omega)
      iterate 5 refine Fresh.low ?_ (by omega) _
      exact hf2
    exact Fresh.nil _ _
  · iterate 5 refine Ext.setCell ?_ (by omega) _
    exact ((((((Ext.refl w).alloc _).alloc _).alloc _).trans hx1).setCell (by omega) _).trans hx2

theorem Tryd.info87 : (Tryd.prog.info? 87).map (fun i => (i.zero, i.size, i.bytes)) = some (some (.agg #[.int .i64 0, .int .i64 0, .slice none 0 0, .slice none 0 0]), 4, 64) := by kernel_rfl
set_option maxHeartbeats 400000 in
theorem toObjectS_any (a : List MObject) (va : Value) (w : World) (ra : Rep w (MObjects a) [va]) (hb : (MObjects a).bulk ≤ 1048576) :
    Calls Tryd.prog 23 #[va] w (GivesV w (MObjects a)) := by
  obtain ⟨ao, ca, ba, oa, e1, hla, hma, pa, ha⟩ := Rep.slmap ra
  simp only [List.cons.injEq, and_true] at e1
  subst e1
  clear ra
  unfold maxLen at hma
  have Hb : Hid (a.length + D.bulkL (a.map MObject.d) ≤ 1048576) := Lib.hid (by simpa [MObjects, D.bulk] using hb)
  have hs : a.length ≤ 1048576 := by have := Hb.out; omega
  clear hb
  obtain ⟨i0, hi, hz0, hz1, hz2⟩ := info_parts Tryd.info87
  go_enter Tryd.func23, Tryd.ntmps23
  go_wp2_with (at_make; refine wpList_make_full _ rfl _ _ 30 rfl w.heap.size 87 i0 _ 4 Tryd.underlying30 hi hz0 hz1 .i64 .i64 _ _ a.length rfl rfl rfl rfl ?c1 ?c2 ?c3 ?_)
  case c1 => rw [hz2]; omega
  case c2 => unfold maxLen; omega
  case c3 => exact Nat.le_refl _
  intro w1 hown hgrow
  obtain ⟨C1, hO, hsz, -, -, -, -⟩ := own_of_row hown
  have hE : Ext w w1 := (Ext.refl w).grown hgrow (Nat.le_refl _) (by simp)
  clear hown hgrow hi hz0 hz1 hz2
  go_wp2_with fail
  go_loopw [4] (fun i wr => ∃ (k : Nat) (C : Array Value), k ≤ a.length ∧ i = .int .i64 k ∧ Ext w wr ∧ Own wr w.heap.size 87 C ∧ Hid (C.size = a.length * 4 ∧ ∃ fp, RepR wr 4 ((a.take k).map MObject.d) (C.toList.take (k * 4)) fp ∧ Fresh wr (w.heap.size + 1) fp)) (fun i _ => a.length - (intOf i).toNat)
  case atStart => exact ⟨0, C1, Nat.zero_le _, rfl, hE, hO, hsz, [], by simp [RepR], Fresh.nil _ _⟩
  clear hE hO hsz C1 w1
  case round =>
    obtain ⟨k, C, hk, rfl, hx, hO, hR⟩ := hrel
    have hsw := hO.lt
    by_cases hlt : k < a.length
    · obtain rfl := pa (by omega)
      obtain ⟨ea, la, cx, ra⟩ := ha k a[k] (by simp [hlt])
      obtain ⟨aa0, cc0, aa1, cc1, rfl, _, _⟩ := MObject.op_en ra
      have a0 := hx.cell (show w.cell? ⟨ba, oa + k * 4, none⟩ = some _ from cx 0 (by omega))
      have a1 := hx.cell (show w.cell? ⟨ba, oa + k * 4 + 1, none⟩ = some _ from cx 1 (by omega))
      have a2 := hx.cell (show w.cell? ⟨ba, oa + k * 4 + 2, none⟩ = some _ from cx 2 (by omega))
      have a3 := hx.cell (show w.cell? ⟨ba, oa + k * 4 + 3, none⟩ = some _ from cx 3 (by omega))
      clear cx la ha pa
      have hbk : (MObject.d a[k]).bulk ≤ 1048576 := by have := D.bulkL_mem (List.mem_map.2 ⟨a[k], List.getElem_mem hlt, rfl⟩ : MObject.d a[k] ∈ a.map MObject.d); have := Hb.out; omega
      go_wp2_with fail
      refine (toObject_any a[k] _ wr (Rep.ext hx ra) hbk).mono ?_
      clear a0 a1 a2 a3 hbk
      rintro e w2 ⟨cs2, fd, rfl, hd, hfd, hx2⟩
      obtain ⟨na0, nc0, na1, nc1, rfl, _, _⟩ := MObject.op_en hd.rep
      have hO2 := hO.ext hx2
      have HD := Lib.hid hd; clear hd
      have hsz := hR.out.1
      obtain ⟨v0, c0⟩ := hO2.some (k * 4) (by omega)
      obtain ⟨v1, c1⟩ := hO2.some (k * 4 + 1) (by omega)
      obtain ⟨v2, c2⟩ := hO2.some (k * 4 + 2) (by omega)
      obtain ⟨v3, c3⟩ := hO2.some (k * 4 + 3) (by omega)
      have f0 := hO2.frozen (k * 4)
      have f1 := hO2.frozen (k * 4 + 1)
      have f2 := hO2.frozen (k * 4 + 2)
      have f3 := hO2.frozen (k * 4 + 3)
      clear hsz
      go_wp2_with fail
      clear c0 c1 c2 c3 f0 f1 f2 f3
      go_roundw
      case rel =>
        obtain ⟨hsz, fp, hr, hf⟩ := hR.out
        have hB : w.heap.size ∉ fp := fun h => by have := hf.ge _ h; omega
        obtain ⟨r1, r2, r3⟩ := row_step (d := MObject.d a[k]) (vs := [.int .i64 a[k].kind, .int .i64 a[k].cls, .slice na0 a[k].fields.length nc0, .slice na1 a[k].numbers.length nc1]) (fd := fd) hO2 hsz (hr.ext hx2) hB HD.out (fun h => by have := hfd.ge _ h; omega) rfl hlt
        refine ⟨k + 1, _, by omega, by go_num, Ext.wsets (Nat.le_refl _) [.int .i64 a[k].kind, .int .i64 a[k].cls, .slice na0 a[k].fields.length nc0, .slice na1 a[k].numbers.length nc1] (k * 4) (hx.trans hx2), r1, r2, fp ++ fd, ?_, ?_⟩
        · rw [List.take_succ_eq_append_getElem hlt, List.map_append]; exact r3
        · exact (hf.append hx2 hfd (Nat.le_refl _) (by omega)).wsets (fun h => by rcases List.mem_append.1 h with h | h; exact hB h; exact (fun h => by have := hfd.ge _ h; omega) h) [.int .i64 a[k].kind, .int .i64 a[k].cls, .slice na0 a[k].fields.length nc0, .slice na1 a[k].numbers.length nc1] (k * 4)
      case measure => simp [intOf]; omega
    · go_wp2_with fail
      go_ret
      obtain ⟨hsz, fp, hr, hf⟩ := hR.out
      obtain rfl : k = a.length := by omega
      rw [List.take_length] at hr
      exact ⟨_, _, _, _, rfl, row_done hO hsz hr (by simp) (by unfold maxLen; omega), hf.row hO (Nat.le_refl _), hx⟩

set_option maxHeartbeats 400000 in
theorem toStore_any (x : MStore) (cx : List Value) (w : World) (rx : Rep w x.d cx) (hb : x.d.bulk ≤ 1048576) :
    Calls Tryd.prog 7 #[.agg cx.toArray] w (GivesS w x.d) := by
  obtain ⟨a_x_classes, c_x_classes, a_x_objects, c_x_objects, a_x_output, c_x_output, rfl, r_x_classes, r_x_objects, r_x_output⟩ := MStore.op_en rx
  clear rx
  rw [MStore.d_eq] at hb
  simp only [D.bulk, D.bulkL] at hb
  have hb_classes : (MClassInfos x.classes).bulk ≤ 1048576 := by omega
  have hb_objects : (MObjects x.objects).bulk ≤ 1048576 := by omega
  have hb_output : (strs x.output).bulk ≤ 1048576 := by omega
  clear hb
  go_enter Tryd.func7, Tryd.ntmps7
  go_wp2_with fail
  refine (toClassInfoS_any x.classes _ _ (Rep.ext ((((Ext.refl w).alloc _).alloc _).alloc _) r_x_classes) hb_classes).mono ?_
  rintro e w1 ⟨ao1, n1, cap1, fp1, rfl, hr1, hf1, hx1⟩
  obtain ⟨hc1, hfz1⟩ := bcell hx1
  have hz1 : w.heap.size < w1.heap.size ∧ w.heap.size + 1 < w1.heap.size ∧ w.heap.size + 1 + 1 < w1.heap.size := by have := hx1.size; simp only [World.size_alloc, size_setCell] at this; omega
  obtain ⟨hp1, hq1, hz1⟩ := hz1
  have he1 : w.heap.size + 1 + 1 + 1 ≤ w1.heap.size := by have := hx1.size; simp only [World.size_alloc, size_setCell] at this; omega
  simp only [World.size_alloc, size_setCell] at hf1
  have HR1 := Lib.hid hr1; clear hr1
  go_wp2_with fail
  refine (toObjectS_any x.objects _ _ (Rep.ext ((((((Ext.refl w).alloc _).alloc _).alloc _).trans hx1).setCell (by omega) _) r_x_objects) hb_objects).mono ?_
  rintro e w2 ⟨ao2, n2, cap2, fp2, rfl, hr2, hf2, hx2⟩
  obtain ⟨hc2, hfz2⟩ := bcell hx2
  have hz2 : w.heap.size < w2.heap.size ∧ w.heap.size + 1 < w2.heap.size ∧ w.heap.size + 1 + 1 < w2.heap.size := by have := hx2.size; simp only [World.size_alloc, size_setCell] at this; omega
  obtain ⟨hp2, hq2, hz2⟩ := hz2
  have he2 : w1.heap.size ≤ w2.heap.size := by have := hx2.size; simp only [World.size_alloc, size_setCell] at this; omega
  simp only [World.size_alloc, size_setCell] at hf2
  have HR2 := Lib.hid hr2; clear hr2
  go_wp2_with fail
  refine (toStringS_any x.output _ _ (Rep.ext ((((((((Ext.refl w).alloc _).alloc _).alloc _).trans hx1).setCell (by omega) _).trans hx2).setCell (by omega) _) r_x_output) hb_output).mono ?_
  rintro e w3 ⟨ao3, n3, cap3, fp3, rfl, hr3, hf3, hx3⟩
  obtain ⟨hc3, hfz3⟩ := bcell hx3
  have hz3 : w.heap.size < w3.heap.size ∧ w.heap.size + 1 < w3.heap.size ∧ w.heap.size + 1 + 1 < w3.heap.size := by have := hx3.size; simp only [World.size_alloc, size_setCell] at this; omega
  obtain ⟨hp3, hq3, hz3⟩ := hz3
  have he3 : w2.heap.size ≤ w3.heap.size := by have := hx3.size; simp only [World.size_alloc, size_setCell] at this; omega
  simp only [World.size_alloc, size_setCell] at hf3
  have HR3 := Lib.hid hr3; clear hr3
  go_wp2_with fail
  refine bodyPost_ret (v := .agg #[.slice ao1 n1 cap1, .slice ao2 n2 cap2, .slice ao3 n3 cap3, .int .i64 x.ticks, .int .i64 x.budget, .int .i64 x.made]) (by simp [results, Tryd.results7, go_sem, hc1, hq1, hz1, hc2, hq2, hz2, hc3, hq3, hz3]) rfl ⟨[.slice ao1 n1 cap1, .slice ao2 n2 cap2, .slice ao3 n3 cap3, .int .i64 x.ticks, .int .i64 x.budget, .int .i64 x.made], fp1 ++ (fp2 ++ (fp3 ++ ([]))), rfl, ?_, ?_, ?_⟩
  · refine MStore.shut ?_ ?_ ?_
    · iterate 10 refine RepF.low ?_ hf1.ge (by omega) _
      refine RepF.ext hx3 ?_
      iterate 1 refine RepF.low ?_ hf1.ge (by omega) _
      refine RepF.ext hx2 ?_
      iterate 1 refine RepF.low ?_ hf1.ge (by omega) _
      exact HR1.out
    · iterate 10 refine RepF.low ?_ hf2.ge (by omega) _
      refine RepF.ext hx3 ?_
      iterate 1 refine RepF.low ?_ hf2.ge (by omega) _
      exact HR2.out
    · iterate 10 refine RepF.low ?_ hf3.ge (by omega) _
      exact HR3.out
  · refine Fresh.mono (B := w.heap.size + 1 + 1 + 1) ?_ (by omega)
    refine Fresh.join (B2 := w1.heap.size) ?_ ?_ (fun b hb => hf1.lt hb) (by omega)
    · iterate 10 refine Fresh.low ?_ (by omega) _
      refine Fresh.ext ?_ hx3
      iterate 1 refine Fresh.low ?_ (by omega) _
      refine Fresh.ext ?_ hx2
      iterate 1 refine Fresh.low ?_ (by omega) _
      exact hf1
    refine Fresh.join (B2 := w2.heap.size) ?_ ?_ (fun b hb => hf2.lt hb) (by omega)
    · refine Fresh.mono (B := w1.heap.size) ?_ (by omega)
      iterate 10 refine Fresh.low ?_ (by omega) _
      refine Fresh.ext ?_ hx3
      iterate 1 refine Fresh.low ?_ (by omega) _
      exact hf2
    refine Fresh.join (B2 := w3.heap.size) ?_ ?_ (fun b hb => hf3.lt hb) (by omega)
    · refine Fresh.mono (B := w2.heap.size) ?_ (by omega)
      iterate 10 refine Fresh.low ?_ (by omega) _
      exact hf3
    exact Fresh.nil _ _
  · iterate 10 refine Ext.setCell ?_ (by omega) _
    exact ((((((((Ext.refl w).alloc _).alloc _).alloc _).trans hx1).setCell (by omega) _).trans hx2).setCell (by omega) _).trans hx3


end Go.Proofs.YtpajlbmjlhafoaaDoor
