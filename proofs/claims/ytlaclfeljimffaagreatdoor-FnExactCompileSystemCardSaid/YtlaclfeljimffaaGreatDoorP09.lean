/-
  SEVERAL TEXTS IN ONE: THE LAWS' SIZES; THE LAWS' COPIES.
  Conditions: those that each lemma states.
-/
import Derived.Test.YtlaclfeljimffaaGreatDoorRows
import Derived.Test.YtlaclfeljimffaaGreatDoorP02
namespace Go.Proofs.YtlaclfeljimffaaGreatDoor
open Go.RowKit
set_option maxHeartbeats 8000000
set_option maxRecDepth 100000
set_option linter.unusedSimpArgs false
set_option linter.unusedVariables false
theorem szStringS_any (a : List ByteArray) (va : Value) (l : Int) (w : World) (h0 : 0 <= l) (h1 : l <= 1048576) (ra : Rep w (strs a) [va]) (ok : (strs a).ok) :
 Calls Tryz.prog 66 #[va, .int .i64 l] w (SzPost l (strs a).bulk w) := by
 obtain ⟨ao, ca, ba, oa, e1, hla, hma, pa, ha⟩ := Rep.strs ra
 simp only [List.cons.injEq, and_true] at e1
 subst e1
 clear ra
 unfold maxLen at hma
 have Hb : Hid ((strs a).bulk = a.length + D.bulkL (a.map D.str)) := LH (by simp [strs, D.bulk])
 have Hok : Hid (D.okL (a.map D.str)) := LH (by simpa [strs, D.ok] using ok)
 clear ok
 go_enter Tryz.func66, Tryz.ntmps66
 by_cases hlen : (a.length : Int) <= l
 · go_wp2_with fail
   go_loopw [1, 5] (fun lv i wr => ∃ (k : Nat) (r : Int), k <= a.length /\ i = .int .i64 k /\ lv = .int .i64 r /\ 0 <= r /\ r <= 1048576 /\ Ext w wr /\ Hid (r + a.length + D.bulkL ((a.take k).map D.str) = l)) (fun _ i _ => a.length - (intOf i).toNat)
   case atStart => exact ⟨0, l - a.length, Nat.zero_le _, rfl, rfl, by omega, by omega, XR _, LH (by simp [D.bulkL])⟩
   case round =>
    obtain ⟨k, r, hk, rfl, rfl, hr0, hr1, hx, hR⟩ := hrel
    by_cases hlt : k < a.length
    · obtain rfl := pa (by omega)
      have hok : (D.str a[k]).ok := D.okL_mem Hok.out _ (List.mem_map.2 ⟨a[k], List.getElem_mem hlt, rfl⟩)
      have hbk : Hid (D.bulkL ((a.take (k + 1)).map D.str) = D.bulkL ((a.take k).map D.str) + (D.str a[k]).bulk) := LH (by rw [List.take_succ_eq_append_getElem hlt, List.map_append, D.bulkL_append]; simp [D.bulkL])
      have a0 := hx.cell (ha k a[k] (by simp [hlt]))
      have hsz : a[k].size <= 9223372036854775807 := by simpa [D.ok] using hok
      clear ha pa hok
      by_cases hs : (a[k].size : Int) <= r
      · go_wp2_with fail
        go_roundw
        case rel => exact ⟨k + 1, r - a[k].size, by omega, by go_num, rfl, by omega, by omega, hx, LH (by rw [hbk.out]; have := hR.out; simp only [D.bulk]; omega)⟩
        case measure => simp [intOf]; omega
      · go_wp2_with fail
        go_ret
        exact ⟨-1, rfl, Or.inl rfl, hx⟩
    · go_wp2_with fail
      go_ret
      obtain rfl : k = a.length := by omega
      refine ⟨r, rfl, Or.inr ⟨hr0, ?_⟩, hx⟩
      have := hR.out
      rw [List.take_length] at this
      rw [Hb.out]; omega
 · go_wp2_with fail
   go_ret
   exact ⟨-1, rfl, Or.inl rfl, XR _⟩
theorem szClassInfo_any (x : MClassInfo) (cx : List Value) (l : Int) (w : World) (h0 : 0 <= l) (h1 : l <= 1048576) (rx : Rep w x.d cx) (ok : x.d.ok) :
 Calls Tryz.prog 38 #[.agg cx.toArray, .int .i64 l] w (SzPost l x.d.bulk w) := by
 obtain ⟨a_x_fields, c_x_fields, rfl, r_x_fields⟩ := MClassInfo.op_en rx
 clear rx
 have Hb : Hid (x.d.bulk = 0 + x.name.size + (strs x.fields).bulk) := LH (by rw [MClassInfo.d_eq]; simp only [D.bulk, D.bulkL]; omega)
 rw [MClassInfo.d_eq] at ok
 simp only [D.ok, D.okL] at ok
 obtain ⟨o_name, -, o_fields, -⟩ := ok
 have o_fields := LH o_fields
 go_enter Tryz.func38, Tryz.ntmps38
 by_cases hs_name : (x.name.size : Int) <= l
 rotate_left
 · go_wp2_with fail
   go_ret
   exact ⟨-1, rfl, Or.inl rfl, (XR w).alloc _⟩
 go_wp2_with fail
 refine (szStringS_any x.fields _ (l - x.name.size) _ (by omega) (by omega) (Rep.ext ((XR w).alloc _) r_x_fields) o_fields.out).mono ?_
 rintro e w1 ⟨q1, rfl, hq, hx1⟩
 obtain ⟨hc1, hf1⟩ := bcell hx1
 have hy1 : w.heap.size < w1.heap.size := by have := hx1.size; simp only [World.size_alloc] at this; omega
 rcases hq with rfl | ⟨hq1, hqe⟩
 · go_wp2_with fail
   go_ret
   exact ⟨-1, rfl, Or.inl rfl, ((XR w).alloc _).trans hx1⟩
 have hl1 : q1 <= 1048576 := by omega
 have HQ1 := LH hqe; clear hqe
 go_wp2_with fail
 go_ret
 exact ⟨q1, rfl, Or.inr ⟨by omega, by rw [Hb.out]; have := HQ1.out; omega⟩, ((XR w).alloc _).trans hx1⟩
theorem szClassInfoS_any (a : List MClassInfo) (va : Value) (l : Int) (w : World) (h0 : 0 <= l) (h1 : l <= 1048576) (ra : Rep w (MClassInfos a) [va]) (ok : (MClassInfos a).ok) :
 Calls Tryz.prog 13 #[va, .int .i64 l] w (SzPost l (MClassInfos a).bulk w) := by
 obtain ⟨ao, ca, ba, oa, e1, hla, hma, pa, ha⟩ := Rep.slmap ra
 simp only [List.cons.injEq, and_true] at e1
 subst e1
 clear ra
 unfold maxLen at hma
 have Hb : Hid ((MClassInfos a).bulk = a.length + D.bulkL (a.map MClassInfo.d)) := LH (by simp [MClassInfos, D.bulk])
 have Hok : Hid (D.okL (a.map MClassInfo.d)) := LH (by simpa [MClassInfos, D.ok] using ok)
 clear ok
 go_enter Tryz.func13, Tryz.ntmps13
 by_cases hlen : (a.length : Int) <= l
 · go_wp2_with fail
   go_loopw [1, 5] (fun lv i wr => ∃ (k : Nat) (r : Int), k <= a.length /\ i = .int .i64 k /\ lv = .int .i64 r /\ 0 <= r /\ r <= 1048576 /\ Ext w wr /\ Hid (r + a.length + D.bulkL ((a.take k).map MClassInfo.d) = l)) (fun _ i _ => a.length - (intOf i).toNat)
   case atStart => exact ⟨0, l - a.length, Nat.zero_le _, rfl, rfl, by omega, by omega, XR _, LH (by simp [D.bulkL])⟩
   case round =>
    obtain ⟨k, r, hk, rfl, rfl, hr0, hr1, hx, hR⟩ := hrel
    by_cases hlt : k < a.length
    · obtain rfl := pa (by omega)
      have hok : (MClassInfo.d a[k]).ok := D.okL_mem Hok.out _ (List.mem_map.2 ⟨a[k], List.getElem_mem hlt, rfl⟩)
      have hbk : Hid (D.bulkL ((a.take (k + 1)).map MClassInfo.d) = D.bulkL ((a.take k).map MClassInfo.d) + (MClassInfo.d a[k]).bulk) := LH (by rw [List.take_succ_eq_append_getElem hlt, List.map_append, D.bulkL_append]; simp [D.bulkL])
      obtain ⟨ea, la, cx, ra⟩ := ha k a[k] (by simp [hlt])
      obtain ⟨aa0, cc0, rfl, _⟩ := MClassInfo.op_en ra
      have a0 := hx.cell (show w.cell? ⟨ba, oa + k * 3, none⟩ = some _ from cx 0 (by omega))
      have a1 := hx.cell (show w.cell? ⟨ba, oa + k * 3 + 1, none⟩ = some _ from cx 1 (by omega))
      have a2 := hx.cell (show w.cell? ⟨ba, oa + k * 3 + 2, none⟩ = some _ from cx 2 (by omega))
      clear cx la ha pa
      go_wp2_with fail
      refine (szClassInfo_any a[k] _ r wr hr0 hr1 (Rep.ext hx ra) hok).mono ?_
      clear a0 a1 a2 hok
      rintro e w2 ⟨q, rfl, hq, hx2⟩
      rcases hq with rfl | ⟨hq0, hqe⟩
      · go_wp2_with fail
        go_ret
        exact ⟨-1, rfl, Or.inl rfl, hx.trans hx2⟩
      · have hq1 : q <= 1048576 := by omega
        have HQ := LH hqe; clear hqe
        go_wp2_with fail
        go_roundw
        case rel => exact ⟨k + 1, q, by omega, by go_num, rfl, hq0, hq1, hx.trans hx2, LH (by rw [hbk.out]; have := hR.out; have := HQ.out; omega)⟩
        case measure => simp [intOf]; omega
    · go_wp2_with fail
      go_ret
      obtain rfl : k = a.length := by omega
      refine ⟨r, rfl, Or.inr ⟨hr0, ?_⟩, hx⟩
      have := hR.out
      rw [List.take_length] at this
      rw [Hb.out]; omega
 · go_wp2_with fail
   go_ret
   exact ⟨-1, rfl, Or.inl rfl, XR _⟩
theorem szCoreS_of (n : Nat) (ih : Hid (∀ (x : MCore) (cx : List Value) (l : Int) (w : World), SizeOf.sizeOf x < n -> 0 <= l -> l <= 1048576 -> Rep w x.d cx -> x.d.ok -> Calls Tryz.prog 39 #[.agg cx.toArray, .int .i64 l] w (SzPost l x.d.bulk w))) (a : List MCore) (va : Value) (l : Int) (w : World) (hn : Hid (∀ x, x ∈ a -> SizeOf.sizeOf x < n)) (h0 : 0 <= l) (h1 : l <= 1048576) (ra : Rep w (MCores a) [va]) (ok : (MCores a).ok) :
 Calls Tryz.prog 67 #[va, .int .i64 l] w (SzPost l (MCores a).bulk w) := by
 obtain ⟨ao, ca, ba, oa, e1, hla, hma, pa, ha⟩ := Rep.slmap ra
 simp only [List.cons.injEq, and_true] at e1
 subst e1
 clear ra
 unfold maxLen at hma
 have Hb : Hid ((MCores a).bulk = a.length + D.bulkL (a.map MCore.d)) := LH (by simp [MCores, D.bulk])
 have Hok : Hid (D.okL (a.map MCore.d)) := LH (by simpa [MCores, D.ok] using ok)
 clear ok
 go_enter Tryz.func67, Tryz.ntmps67
 by_cases hlen : (a.length : Int) <= l
 · go_wp2_with fail
   go_loopw [1, 5] (fun lv i wr => ∃ (k : Nat) (r : Int), k <= a.length /\ i = .int .i64 k /\ lv = .int .i64 r /\ 0 <= r /\ r <= 1048576 /\ Ext w wr /\ Hid (r + a.length + D.bulkL ((a.take k).map MCore.d) = l)) (fun _ i _ => a.length - (intOf i).toNat)
   case atStart => exact ⟨0, l - a.length, Nat.zero_le _, rfl, rfl, by omega, by omega, XR _, LH (by simp [D.bulkL])⟩
   case round =>
    obtain ⟨k, r, hk, rfl, rfl, hr0, hr1, hx, hR⟩ := hrel
    by_cases hlt : k < a.length
    · obtain rfl := pa (by omega)
      have hok : (MCore.d a[k]).ok := D.okL_mem Hok.out _ (List.mem_map.2 ⟨a[k], List.getElem_mem hlt, rfl⟩)
      have hbk : Hid (D.bulkL ((a.take (k + 1)).map MCore.d) = D.bulkL ((a.take k).map MCore.d) + (MCore.d a[k]).bulk) := LH (by rw [List.take_succ_eq_append_getElem hlt, List.map_append, D.bulkL_append]; simp [D.bulkL])
      obtain ⟨ea, la, cx, ra⟩ := ha k a[k] (by simp [hlt])
      obtain ⟨aa0, cc0, rfl, _⟩ := MCore.op_en ra
      have a0 := hx.cell (show w.cell? ⟨ba, oa + k * 5, none⟩ = some _ from cx 0 (by omega))
      have a1 := hx.cell (show w.cell? ⟨ba, oa + k * 5 + 1, none⟩ = some _ from cx 1 (by omega))
      have a2 := hx.cell (show w.cell? ⟨ba, oa + k * 5 + 2, none⟩ = some _ from cx 2 (by omega))
      have a3 := hx.cell (show w.cell? ⟨ba, oa + k * 5 + 3, none⟩ = some _ from cx 3 (by omega))
      have a4 := hx.cell (show w.cell? ⟨ba, oa + k * 5 + 4, none⟩ = some _ from cx 4 (by omega))
      clear cx la ha pa
      go_wp2_with fail
      refine (ih.out a[k] _ r wr (hn.out _ (List.getElem_mem hlt)) hr0 hr1 (Rep.ext hx ra) hok).mono ?_
      clear a0 a1 a2 a3 a4 hok
      rintro e w2 ⟨q, rfl, hq, hx2⟩
      rcases hq with rfl | ⟨hq0, hqe⟩
      · go_wp2_with fail
        go_ret
        exact ⟨-1, rfl, Or.inl rfl, hx.trans hx2⟩
      · have hq1 : q <= 1048576 := by omega
        have HQ := LH hqe; clear hqe
        go_wp2_with fail
        go_roundw
        case rel => exact ⟨k + 1, q, by omega, by go_num, rfl, hq0, hq1, hx.trans hx2, LH (by rw [hbk.out]; have := hR.out; have := HQ.out; omega)⟩
        case measure => simp [intOf]; omega
    · go_wp2_with fail
      go_ret
      obtain rfl : k = a.length := by omega
      refine ⟨r, rfl, Or.inr ⟨hr0, ?_⟩, hx⟩
      have := hR.out
      rw [List.take_length] at this
      rw [Hb.out]; omega
 · go_wp2_with fail
   go_ret
   exact ⟨-1, rfl, Or.inl rfl, XR _⟩
theorem szCore_of (n : Nat) (ih : Hid (∀ (a : List MCore) (va : Value) (l : Int) (w : World), (∀ x, x ∈ a -> SizeOf.sizeOf x < n) -> 0 <= l -> l <= 1048576 -> Rep w (MCores a) [va] -> (MCores a).ok -> Calls Tryz.prog 67 #[va, .int .i64 l] w (SzPost l (MCores a).bulk w))) (x : MCore) (cx : List Value) (l : Int) (w : World) (hn : Hid (SizeOf.sizeOf x < n + 1)) (h0 : 0 <= l) (h1 : l <= 1048576) (rx : Rep w x.d cx) (ok : x.d.ok) :
 Calls Tryz.prog 39 #[.agg cx.toArray, .int .i64 l] w (SzPost l x.d.bulk w) := by
 have hk : Hid (∀ z, z ∈ x.kids -> SizeOf.sizeOf z < n) := LH fun z hz => by have := MCore.kid_lt hz; have := hn.out; omega
 obtain ⟨a_x_kids, c_x_kids, rfl, r_x_kids⟩ := MCore.op_en rx
 clear rx
 have Hb : Hid (x.d.bulk = 0 + x.text.size + (MCores x.kids).bulk) := LH (by rw [MCore.d_eq]; simp only [D.bulk, D.bulkL]; omega)
 rw [MCore.d_eq] at ok
 simp only [D.ok, D.okL] at ok
 obtain ⟨-, o_text, -, -, o_kids, -⟩ := ok
 have o_kids := LH o_kids
 go_enter Tryz.func39, Tryz.ntmps39
 by_cases hs_text : (x.text.size : Int) <= l
 rotate_left
 · go_wp2_with fail
   go_ret
   exact ⟨-1, rfl, Or.inl rfl, (XR w).alloc _⟩
 go_wp2_with fail
 refine (ih.out x.kids _ (l - x.text.size) _ hk.out (by omega) (by omega) (Rep.ext ((XR w).alloc _) r_x_kids) o_kids.out).mono ?_
 rintro e w1 ⟨q1, rfl, hq, hx1⟩
 obtain ⟨hc1, hf1⟩ := bcell hx1
 have hy1 : w.heap.size < w1.heap.size := by have := hx1.size; simp only [World.size_alloc] at this; omega
 rcases hq with rfl | ⟨hq1, hqe⟩
 · go_wp2_with fail
   go_ret
   exact ⟨-1, rfl, Or.inl rfl, ((XR w).alloc _).trans hx1⟩
 have hl1 : q1 <= 1048576 := by omega
 have HQ1 := LH hqe; clear hqe
 go_wp2_with fail
 go_ret
 exact ⟨q1, rfl, Or.inr ⟨by omega, by rw [Hb.out]; have := HQ1.out; omega⟩, ((XR w).alloc _).trans hx1⟩
theorem szCore_lt : ∀ (n : Nat) (x : MCore) (cx : List Value) (l : Int) (w : World), SizeOf.sizeOf x < n -> 0 <= l -> l <= 1048576 -> Rep w x.d cx -> x.d.ok ->
 Calls Tryz.prog 39 #[.agg cx.toArray, .int .i64 l] w (SzPost l x.d.bulk w) := by
 intro n
 induction n with
 | zero => intro x cx l w h; omega
 | succ n ih => exact fun x cx l w h h0 h1 rx ok => szCore_of n (LH fun a va l w hn h0 h1 ra ok => szCoreS_of n (LH ih) a va l w (LH hn) h0 h1 ra ok) x cx l w (LH h) h0 h1 rx ok
theorem szCore_any (x : MCore) (cx : List Value) (l : Int) (w : World) (h0 : 0 <= l) (h1 : l <= 1048576) (rx : Rep w x.d cx) (ok : x.d.ok) :
 Calls Tryz.prog 39 #[.agg cx.toArray, .int .i64 l] w (SzPost l x.d.bulk w) := szCore_lt _ x cx l w (Nat.lt_succ_self _) h0 h1 rx ok
theorem szRoutine_any (x : MRoutine) (cx : List Value) (l : Int) (w : World) (h0 : 0 <= l) (h1 : l <= 1048576) (rx : Rep w x.d cx) (ok : x.d.ok) :
 Calls Tryz.prog 15 #[.agg cx.toArray, .int .i64 l] w (SzPost l x.d.bulk w) := by
 obtain ⟨a_x_body_kids, c_x_body_kids, rfl, r_x_body_kids, r_x_body⟩ := MRoutine.op_en rx
 clear rx
 have Hb : Hid (x.d.bulk = 0 + x.selector.size + (x.body.d).bulk) := LH (by rw [MRoutine.d_eq]; simp only [D.bulk, D.bulkL]; omega)
 rw [MRoutine.d_eq] at ok
 simp only [D.ok, D.okL] at ok
 obtain ⟨o_selector, -, -, -, -, o_body, -⟩ := ok
 have o_body := LH o_body
 go_enter Tryz.func15, Tryz.ntmps15
 by_cases hs_selector : (x.selector.size : Int) <= l
 rotate_left
 · go_wp2_with fail
   go_ret
   exact ⟨-1, rfl, Or.inl rfl, (XR w).alloc _⟩
 go_wp2_with fail
 refine (szCore_any x.body _ (l - x.selector.size) _ (by omega) (by omega) (Rep.ext ((XR w).alloc _) r_x_body) o_body.out).mono ?_
 rintro e w1 ⟨q1, rfl, hq, hx1⟩
 obtain ⟨hc1, hf1⟩ := bcell hx1
 have hy1 : w.heap.size < w1.heap.size := by have := hx1.size; simp only [World.size_alloc] at this; omega
 rcases hq with rfl | ⟨hq1, hqe⟩
 · go_wp2_with fail
   go_ret
   exact ⟨-1, rfl, Or.inl rfl, ((XR w).alloc _).trans hx1⟩
 have hl1 : q1 <= 1048576 := by omega
 have HQ1 := LH hqe; clear hqe
 go_wp2_with fail
 go_ret
 exact ⟨q1, rfl, Or.inr ⟨by omega, by rw [Hb.out]; have := HQ1.out; omega⟩, ((XR w).alloc _).trans hx1⟩
theorem szRoutineS_any (a : List MRoutine) (va : Value) (l : Int) (w : World) (h0 : 0 <= l) (h1 : l <= 1048576) (ra : Rep w (MRoutines a) [va]) (ok : (MRoutines a).ok) :
 Calls Tryz.prog 14 #[va, .int .i64 l] w (SzPost l (MRoutines a).bulk w) := by
 obtain ⟨ao, ca, ba, oa, e1, hla, hma, pa, ha⟩ := Rep.slmap ra
 simp only [List.cons.injEq, and_true] at e1
 subst e1
 clear ra
 unfold maxLen at hma
 have Hb : Hid ((MRoutines a).bulk = a.length + D.bulkL (a.map MRoutine.d)) := LH (by simp [MRoutines, D.bulk])
 have Hok : Hid (D.okL (a.map MRoutine.d)) := LH (by simpa [MRoutines, D.ok] using ok)
 clear ok
 go_enter Tryz.func14, Tryz.ntmps14
 by_cases hlen : (a.length : Int) <= l
 · go_wp2_with fail
   go_loopw [1, 5] (fun lv i wr => ∃ (k : Nat) (r : Int), k <= a.length /\ i = .int .i64 k /\ lv = .int .i64 r /\ 0 <= r /\ r <= 1048576 /\ Ext w wr /\ Hid (r + a.length + D.bulkL ((a.take k).map MRoutine.d) = l)) (fun _ i _ => a.length - (intOf i).toNat)
   case atStart => exact ⟨0, l - a.length, Nat.zero_le _, rfl, rfl, by omega, by omega, XR _, LH (by simp [D.bulkL])⟩
   case round =>
    obtain ⟨k, r, hk, rfl, rfl, hr0, hr1, hx, hR⟩ := hrel
    by_cases hlt : k < a.length
    · obtain rfl := pa (by omega)
      have hok : (MRoutine.d a[k]).ok := D.okL_mem Hok.out _ (List.mem_map.2 ⟨a[k], List.getElem_mem hlt, rfl⟩)
      have hbk : Hid (D.bulkL ((a.take (k + 1)).map MRoutine.d) = D.bulkL ((a.take k).map MRoutine.d) + (MRoutine.d a[k]).bulk) := LH (by rw [List.take_succ_eq_append_getElem hlt, List.map_append, D.bulkL_append]; simp [D.bulkL])
      obtain ⟨ea, la, cx, ra⟩ := ha k a[k] (by simp [hlt])
      obtain ⟨aa0, cc0, rfl, _, _⟩ := MRoutine.op_en ra
      have a0 := hx.cell (show w.cell? ⟨ba, oa + k * 10, none⟩ = some _ from cx 0 (by omega))
      have a1 := hx.cell (show w.cell? ⟨ba, oa + k * 10 + 1, none⟩ = some _ from cx 1 (by omega))
      have a2 := hx.cell (show w.cell? ⟨ba, oa + k * 10 + 2, none⟩ = some _ from cx 2 (by omega))
      have a3 := hx.cell (show w.cell? ⟨ba, oa + k * 10 + 3, none⟩ = some _ from cx 3 (by omega))
      have a4 := hx.cell (show w.cell? ⟨ba, oa + k * 10 + 4, none⟩ = some _ from cx 4 (by omega))
      have a5 := hx.cell (show w.cell? ⟨ba, oa + k * 10 + 5, none⟩ = some _ from cx 5 (by omega))
      have a6 := hx.cell (show w.cell? ⟨ba, oa + k * 10 + 6, none⟩ = some _ from cx 6 (by omega))
      have a7 := hx.cell (show w.cell? ⟨ba, oa + k * 10 + 7, none⟩ = some _ from cx 7 (by omega))
      have a8 := hx.cell (show w.cell? ⟨ba, oa + k * 10 + 8, none⟩ = some _ from cx 8 (by omega))
      have a9 := hx.cell (show w.cell? ⟨ba, oa + k * 10 + 9, none⟩ = some _ from cx 9 (by omega))
      clear cx la ha pa
      go_wp2_with fail
      refine (szRoutine_any a[k] _ r wr hr0 hr1 (Rep.ext hx ra) hok).mono ?_
      clear a0 a1 a2 a3 a4 a5 a6 a7 a8 a9 hok
      rintro e w2 ⟨q, rfl, hq, hx2⟩
      rcases hq with rfl | ⟨hq0, hqe⟩
      · go_wp2_with fail
        go_ret
        exact ⟨-1, rfl, Or.inl rfl, hx.trans hx2⟩
      · have hq1 : q <= 1048576 := by omega
        have HQ := LH hqe; clear hqe
        go_wp2_with fail
        go_roundw
        case rel => exact ⟨k + 1, q, by omega, by go_num, rfl, hq0, hq1, hx.trans hx2, LH (by rw [hbk.out]; have := hR.out; have := HQ.out; omega)⟩
        case measure => simp [intOf]; omega
    · go_wp2_with fail
      go_ret
      obtain rfl : k = a.length := by omega
      refine ⟨r, rfl, Or.inr ⟨hr0, ?_⟩, hx⟩
      have := hR.out
      rw [List.take_length] at this
      rw [Hb.out]; omega
 · go_wp2_with fail
   go_ret
   exact ⟨-1, rfl, Or.inl rfl, XR _⟩
theorem szSystem_any (x : MSystem) (cx : List Value) (l : Int) (w : World) (h0 : 0 <= l) (h1 : l <= 1048576) (rx : Rep w x.d cx) (ok : x.d.ok) :
 Calls Tryz.prog 4 #[.agg cx.toArray, .int .i64 l] w (SzPost l x.d.bulk w) := by
 obtain ⟨a_x_classes, c_x_classes, a_x_routines, c_x_routines, a_x_main_body_kids, c_x_main_body_kids, rfl, r_x_classes, r_x_routines, r_x_main_body_kids, r_x_main⟩ := MSystem.op_en rx
 clear rx
 have Hb : Hid (x.d.bulk = 0 + (MClassInfos x.classes).bulk + (MRoutines x.routines).bulk + (x.main.d).bulk) := LH (by rw [MSystem.d_eq]; simp only [D.bulk, D.bulkL]; omega)
 rw [MSystem.d_eq] at ok
 simp only [D.ok, D.okL] at ok
 obtain ⟨o_classes, o_routines, o_main, -⟩ := ok
 have o_classes := LH o_classes
 have o_routines := LH o_routines
 have o_main := LH o_main
 go_enter Tryz.func4, Tryz.ntmps4
 go_wp2_with fail
 refine (szClassInfoS_any x.classes _ (l) _ (by omega) (by omega) (Rep.ext ((XR w).alloc _) r_x_classes) o_classes.out).mono ?_
 rintro e w1 ⟨q1, rfl, hq, hx1⟩
 obtain ⟨hc1, hf1⟩ := bcell hx1
 have hy1 : w.heap.size < w1.heap.size := by have := hx1.size; simp only [World.size_alloc] at this; omega
 rcases hq with rfl | ⟨hq1, hqe⟩
 · go_wp2_with fail
   go_ret
   exact ⟨-1, rfl, Or.inl rfl, ((XR w).alloc _).trans hx1⟩
 have hl1 : q1 <= 1048576 := by omega
 have HQ1 := LH hqe; clear hqe
 go_wp2_with fail
 refine (szRoutineS_any x.routines _ (q1) _ (by omega) (by omega) (Rep.ext (((XR w).alloc _).trans hx1) r_x_routines) o_routines.out).mono ?_
 rintro e w2 ⟨q2, rfl, hq, hx2⟩
 obtain ⟨hc2, hf2⟩ := bcell hx2
 have hy2 : w.heap.size < w2.heap.size := by have := hx2.size; omega
 rcases hq with rfl | ⟨hq2, hqe⟩
 · go_wp2_with fail
   go_ret
   exact ⟨-1, rfl, Or.inl rfl, (((XR w).alloc _).trans hx1).trans hx2⟩
 have hl2 : q2 <= 1048576 := by omega
 have HQ2 := LH hqe; clear hqe
 go_wp2_with fail
 refine (szRoutine_any x.main _ (q2) _ (by omega) (by omega) (Rep.ext ((((XR w).alloc _).trans hx1).trans hx2) r_x_main) o_main.out).mono ?_
 rintro e w3 ⟨q3, rfl, hq, hx3⟩
 obtain ⟨hc3, hf3⟩ := bcell hx3
 have hy3 : w.heap.size < w3.heap.size := by have := hx3.size; omega
 rcases hq with rfl | ⟨hq3, hqe⟩
 · go_wp2_with fail
   go_ret
   exact ⟨-1, rfl, Or.inl rfl, ((((XR w).alloc _).trans hx1).trans hx2).trans hx3⟩
 have hl3 : q3 <= 1048576 := by omega
 have HQ3 := LH hqe; clear hqe
 go_wp2_with fail
 go_ret
 exact ⟨q3, rfl, Or.inr ⟨by omega, by rw [Hb.out]; have := HQ1.out; have := HQ2.out; have := HQ3.out; omega⟩, ((((XR w).alloc _).trans hx1).trans hx2).trans hx3⟩
theorem Tryz.info9 : (Tryz.prog.info? 9).map (fun i => (i.zero, i.size, i.bytes)) = some (some (.string ByteArray.empty), 1, 16) := by kernel_rfl
theorem toStringS_any (a : List ByteArray) (va : Value) (w : World) (ra : Rep w (strs a) [va]) (hb : (strs a).bulk <= 1048576) :
 Calls Tryz.prog 80 #[va] w (GivesV w (strs a)) := by
 obtain ⟨ao, ca, ba, oa, e1, hla, hma, pa, ha⟩ := Rep.strs ra
 simp only [List.cons.injEq, and_true] at e1
 subst e1
 clear ra
 unfold maxLen at hma
 have Hb : Hid (a.length + D.bulkL (a.map D.str) <= 1048576) := LH (by simpa [strs, D.bulk] using hb)
 have hs : a.length <= 1048576 := by have := Hb.out; omega
 clear hb
 obtain ⟨i0, hi, hz0, hz1, hz2⟩ := info_parts Tryz.info9
 go_enter Tryz.func80, Tryz.ntmps80
 go_wp2_with (at_make; refine wpList_make_full _ rfl _ _ 77 rfl w.heap.size 9 i0 _ 1 Tryz.underlying77 hi hz0 hz1 .i64 .i64 _ _ a.length rfl rfl rfl rfl ?c1 ?c2 ?c3 ?_)
 case c1 => rw [hz2]; omega
 case c2 => unfold maxLen; omega
 case c3 => exact Nat.le_refl _
 intro w1 hown hgrow
 obtain ⟨C1, hO, hsz, -, -, -, -⟩ := own_of_row hown
 have hE : Ext w w1 := (XR w).grown hgrow (Nat.le_refl _) (by simp)
 clear hown hgrow hi hz0 hz1 hz2
 go_wp2_with fail
 go_loopw [4] (fun i wr => ∃ (k : Nat) (C : Array Value), k <= a.length /\ i = .int .i64 k /\ Ext w wr /\ Own wr w.heap.size 9 C /\ Hid (C.size = a.length * 1 /\ ∃ fp, RepR wr 1 ((a.take k).map D.str) (C.toList.take (k * 1)) fp /\ Fresh wr (w.heap.size + 1) fp)) (fun i _ => a.length - (intOf i).toNat)
 case atStart => exact ⟨0, C1, Nat.zero_le _, rfl, hE, hO, hsz, [], by simp [RepR], Fresh.nil _ _⟩
 clear hE hO hsz C1 w1
 case round =>
  obtain ⟨k, C, hk, rfl, hx, hO, hR⟩ := hrel
  have hsw := hO.lt
  by_cases hlt : k < a.length
  · obtain rfl := pa (by omega)
    have a0 := hx.cell (ha k a[k] (by simp [hlt]))
    clear ha pa
    have hsz := hR.out.1
    obtain ⟨v0, c0⟩ := hO.some (k) (by omega)
    have f0 := hO.frozen (k)
    clear hsz
    go_wp2_with fail
    clear c0 f0
    go_roundw
    case rel =>
     obtain ⟨hsz, fp, hr, hf⟩ := hR.out
     have hB : w.heap.size ∉ fp := fun h => by have := hf.ge _ h; omega
     obtain ⟨r1, r2, r3⟩ := row_step (d := D.str a[k]) (vs := [.string a[k]]) (fd := []) hO hsz hr hB (show RepF wr (D.str a[k]) [.string a[k]] [] from by simp [RepF]) (by simp) rfl hlt
     rw [Nat.mul_one] at r1 r2 r3
     refine ⟨k + 1, _, by omega, by go_num, Ext.wsets (Nat.le_refl _) [.string a[k]] (k) hx, r1, r2, fp ++ [], ?_, ?_⟩
     · rw [List.take_succ_eq_append_getElem hlt, List.map_append]; exact r3
     · rw [List.append_nil]; exact hf.wsets hB [.string a[k]] k
    case measure => simp [intOf]; omega
  · go_wp2_with fail
    go_ret
    obtain ⟨hsz, fp, hr, hf⟩ := hR.out
    obtain rfl : k = a.length := by omega
    rw [List.take_length] at hr
    exact ⟨_, _, _, _, rfl, row_done hO hsz hr (by simp) (by unfold maxLen; omega), hf.row hO (Nat.le_refl _), hx⟩
theorem toClassInfo_any (x : MClassInfo) (cx : List Value) (w : World) (rx : Rep w x.d cx) (hb : x.d.bulk <= 1048576) :
 Calls Tryz.prog 47 #[.agg cx.toArray] w (GivesS w x.d) := by
 obtain ⟨a_x_fields, c_x_fields, rfl, r_x_fields⟩ := MClassInfo.op_en rx
 clear rx
 rw [MClassInfo.d_eq] at hb
 simp only [D.bulk, D.bulkL] at hb
 have hb_fields : (strs x.fields).bulk <= 1048576 := by omega
 clear hb
 go_enter Tryz.func47, Tryz.ntmps47
 go_wp2_with fail
 refine (toStringS_any x.fields _ _ (Rep.ext ((((XR w).alloc _).alloc _).alloc _) r_x_fields) hb_fields).mono ?_
 rintro e w1 ⟨ao1, n1, cap1, fp1, rfl, hr1, hf1, hx1⟩
 obtain ⟨hc1, hfz1⟩ := bcell hx1
 have hz1 : w.heap.size < w1.heap.size /\ w.heap.size + 1 < w1.heap.size /\ w.heap.size + 1 + 1 < w1.heap.size := by have := hx1.size; simp only [World.size_alloc, size_setCell] at this; omega
 obtain ⟨hp1, hq1, hz1⟩ := hz1
 have he1 : w.heap.size + 1 + 1 + 1 <= w1.heap.size := by have := hx1.size; simp only [World.size_alloc, size_setCell] at this; omega
 simp only [World.size_alloc, size_setCell] at hf1
 have HR1 := LH hr1; clear hr1
 go_wp2_with fail
 refine bodyPost_ret (v := .agg #[.string x.name, .int .i64 x.parent, .slice ao1 n1 cap1]) (by simp [results, Tryz.results47, go_sem, hc1, hq1, hz1]) rfl ⟨[.string x.name, .int .i64 x.parent, .slice ao1 n1 cap1], fp1 ++ ([]), rfl, ?_, ?_, ?_⟩
 · refine MClassInfo.shut ?_
   · iterate 4 refine RepF.low ?_ hf1.ge (by omega) _
     exact HR1.out
 · refine Fresh.mono (B := w.heap.size + 1 + 1 + 1) ?_ (by omega)
   refine Fresh.join (B2 := w1.heap.size) ?_ ?_ (fun b hb => hf1.lt hb) (by omega)
   · iterate 4 refine Fresh.low ?_ (by omega) _
     exact hf1
   exact Fresh.nil _ _
 · iterate 4 refine Ext.setCell ?_ (by omega) _
   exact ((((XR w).alloc _).alloc _).alloc _).trans hx1
theorem Tryz.info96 : (Tryz.prog.info? 96).map (fun i => (i.zero, i.size, i.bytes)) = some (some (.agg #[.string ByteArray.empty, .int .i64 0, .slice none 0 0]), 3, 48) := by kernel_rfl
theorem toClassInfoS_any (a : List MClassInfo) (va : Value) (w : World) (ra : Rep w (MClassInfos a) [va]) (hb : (MClassInfos a).bulk <= 1048576) :
 Calls Tryz.prog 19 #[va] w (GivesV w (MClassInfos a)) := by
 obtain ⟨ao, ca, ba, oa, e1, hla, hma, pa, ha⟩ := Rep.slmap ra
 simp only [List.cons.injEq, and_true] at e1
 subst e1
 clear ra
 unfold maxLen at hma
 have Hb : Hid (a.length + D.bulkL (a.map MClassInfo.d) <= 1048576) := LH (by simpa [MClassInfos, D.bulk] using hb)
 have hs : a.length <= 1048576 := by have := Hb.out; omega
 clear hb
 obtain ⟨i0, hi, hz0, hz1, hz2⟩ := info_parts Tryz.info96
 go_enter Tryz.func19, Tryz.ntmps19
 go_wp2_with (at_make; refine wpList_make_full _ rfl _ _ 32 rfl w.heap.size 96 i0 _ 3 Tryz.underlying32 hi hz0 hz1 .i64 .i64 _ _ a.length rfl rfl rfl rfl ?c1 ?c2 ?c3 ?_)
 case c1 => rw [hz2]; omega
 case c2 => unfold maxLen; omega
 case c3 => exact Nat.le_refl _
 intro w1 hown hgrow
 obtain ⟨C1, hO, hsz, -, -, -, -⟩ := own_of_row hown
 have hE : Ext w w1 := (XR w).grown hgrow (Nat.le_refl _) (by simp)
 clear hown hgrow hi hz0 hz1 hz2
 go_wp2_with fail
 go_loopw [4] (fun i wr => ∃ (k : Nat) (C : Array Value), k <= a.length /\ i = .int .i64 k /\ Ext w wr /\ Own wr w.heap.size 96 C /\ Hid (C.size = a.length * 3 /\ ∃ fp, RepR wr 3 ((a.take k).map MClassInfo.d) (C.toList.take (k * 3)) fp /\ Fresh wr (w.heap.size + 1) fp)) (fun i _ => a.length - (intOf i).toNat)
 case atStart => exact ⟨0, C1, Nat.zero_le _, rfl, hE, hO, hsz, [], by simp [RepR], Fresh.nil _ _⟩
 clear hE hO hsz C1 w1
 case round =>
  obtain ⟨k, C, hk, rfl, hx, hO, hR⟩ := hrel
  have hsw := hO.lt
  by_cases hlt : k < a.length
  · obtain rfl := pa (by omega)
    obtain ⟨ea, la, cx, ra⟩ := ha k a[k] (by simp [hlt])
    obtain ⟨aa0, cc0, rfl, _⟩ := MClassInfo.op_en ra
    have a0 := hx.cell (show w.cell? ⟨ba, oa + k * 3, none⟩ = some _ from cx 0 (by omega))
    have a1 := hx.cell (show w.cell? ⟨ba, oa + k * 3 + 1, none⟩ = some _ from cx 1 (by omega))
    have a2 := hx.cell (show w.cell? ⟨ba, oa + k * 3 + 2, none⟩ = some _ from cx 2 (by omega))
    clear cx la ha pa
    have hbk : (MClassInfo.d a[k]).bulk <= 1048576 := by have := D.bulkL_mem (List.mem_map.2 ⟨a[k], List.getElem_mem hlt, rfl⟩ : MClassInfo.d a[k] ∈ a.map MClassInfo.d); have := Hb.out; omega
    go_wp2_with fail
    refine (toClassInfo_any a[k] _ wr (Rep.ext hx ra) hbk).mono ?_
    clear a0 a1 a2 hbk
    rintro e w2 ⟨cs2, fd, rfl, hd, hfd, hx2⟩
    obtain ⟨na0, nc0, rfl, _⟩ := MClassInfo.op_en hd.rep
    have hO2 := hO.ext hx2
    have HD := LH hd; clear hd
    have hsz := hR.out.1
    obtain ⟨v0, c0⟩ := hO2.some (k * 3) (by omega)
    obtain ⟨v1, c1⟩ := hO2.some (k * 3 + 1) (by omega)
    obtain ⟨v2, c2⟩ := hO2.some (k * 3 + 2) (by omega)
    have f0 := hO2.frozen (k * 3)
    have f1 := hO2.frozen (k * 3 + 1)
    have f2 := hO2.frozen (k * 3 + 2)
    clear hsz
    go_wp2_with fail
    clear c0 c1 c2 f0 f1 f2
    go_roundw
    case rel =>
     obtain ⟨hsz, fp, hr, hf⟩ := hR.out
     have hB : w.heap.size ∉ fp := fun h => by have := hf.ge _ h; omega
     obtain ⟨r1, r2, r3⟩ := row_step (d := MClassInfo.d a[k]) (vs := [.string a[k].name, .int .i64 a[k].parent, .slice na0 a[k].fields.length nc0]) (fd := fd) hO2 hsz (hr.ext hx2) hB HD.out (fun h => by have := hfd.ge _ h; omega) rfl hlt
     refine ⟨k + 1, _, by omega, by go_num, Ext.wsets (Nat.le_refl _) [.string a[k].name, .int .i64 a[k].parent, .slice na0 a[k].fields.length nc0] (k * 3) (hx.trans hx2), r1, r2, fp ++ fd, ?_, ?_⟩
     · rw [List.take_succ_eq_append_getElem hlt, List.map_append]; exact r3
     · exact (hf.append hx2 hfd (Nat.le_refl _) (by omega)).wsets (fun h => by rcases List.mem_append.1 h with h | h; exact hB h; exact (fun h => by have := hfd.ge _ h; omega) h) [.string a[k].name, .int .i64 a[k].parent, .slice na0 a[k].fields.length nc0] (k * 3)
    case measure => simp [intOf]; omega
  · go_wp2_with fail
    go_ret
    obtain ⟨hsz, fp, hr, hf⟩ := hR.out
    obtain rfl : k = a.length := by omega
    rw [List.take_length] at hr
    exact ⟨_, _, _, _, rfl, row_done hO hsz hr (by simp) (by unfold maxLen; omega), hf.row hO (Nat.le_refl _), hx⟩
theorem Tryz.info42 : (Tryz.prog.info? 42).map (fun i => (i.zero, i.size, i.bytes)) = some (some (.agg #[.int .i64 0, .string ByteArray.empty, .int .i64 0, .int .i64 0, .slice none 0 0]), 5, 64) := by kernel_rfl
theorem toCoreS_of (n : Nat) (ih : Hid (∀ (x : MCore) (cx : List Value) (w : World), SizeOf.sizeOf x < n -> Rep w x.d cx -> x.d.bulk <= 1048576 -> Calls Tryz.prog 48 #[.agg cx.toArray] w (GivesS w x.d))) (a : List MCore) (va : Value) (w : World) (hn : Hid (∀ x, x ∈ a -> SizeOf.sizeOf x < n)) (ra : Rep w (MCores a) [va]) (hb : (MCores a).bulk <= 1048576) :
 Calls Tryz.prog 81 #[va] w (GivesV w (MCores a)) := by
 obtain ⟨ao, ca, ba, oa, e1, hla, hma, pa, ha⟩ := Rep.slmap ra
 simp only [List.cons.injEq, and_true] at e1
 subst e1
 clear ra
 unfold maxLen at hma
 have Hb : Hid (a.length + D.bulkL (a.map MCore.d) <= 1048576) := LH (by simpa [MCores, D.bulk] using hb)
 have hs : a.length <= 1048576 := by have := Hb.out; omega
 clear hb
 obtain ⟨i0, hi, hz0, hz1, hz2⟩ := info_parts Tryz.info42
 go_enter Tryz.func81, Tryz.ntmps81
 go_wp2_with (at_make; refine wpList_make_full _ rfl _ _ 40 rfl w.heap.size 42 i0 _ 5 Tryz.underlying40 hi hz0 hz1 .i64 .i64 _ _ a.length rfl rfl rfl rfl ?c1 ?c2 ?c3 ?_)
 case c1 => rw [hz2]; omega
 case c2 => unfold maxLen; omega
 case c3 => exact Nat.le_refl _
 intro w1 hown hgrow
 obtain ⟨C1, hO, hsz, -, -, -, -⟩ := own_of_row hown
 have hE : Ext w w1 := (XR w).grown hgrow (Nat.le_refl _) (by simp)
 clear hown hgrow hi hz0 hz1 hz2
 go_wp2_with fail
 go_loopw [4] (fun i wr => ∃ (k : Nat) (C : Array Value), k <= a.length /\ i = .int .i64 k /\ Ext w wr /\ Own wr w.heap.size 42 C /\ Hid (C.size = a.length * 5 /\ ∃ fp, RepR wr 5 ((a.take k).map MCore.d) (C.toList.take (k * 5)) fp /\ Fresh wr (w.heap.size + 1) fp)) (fun i _ => a.length - (intOf i).toNat)
 case atStart => exact ⟨0, C1, Nat.zero_le _, rfl, hE, hO, hsz, [], by simp [RepR], Fresh.nil _ _⟩
 clear hE hO hsz C1 w1
 case round =>
  obtain ⟨k, C, hk, rfl, hx, hO, hR⟩ := hrel
  have hsw := hO.lt
  by_cases hlt : k < a.length
  · obtain rfl := pa (by omega)
    obtain ⟨ea, la, cx, ra⟩ := ha k a[k] (by simp [hlt])
    obtain ⟨aa0, cc0, rfl, _⟩ := MCore.op_en ra
    have a0 := hx.cell (show w.cell? ⟨ba, oa + k * 5, none⟩ = some _ from cx 0 (by omega))
    have a1 := hx.cell (show w.cell? ⟨ba, oa + k * 5 + 1, none⟩ = some _ from cx 1 (by omega))
    have a2 := hx.cell (show w.cell? ⟨ba, oa + k * 5 + 2, none⟩ = some _ from cx 2 (by omega))
    have a3 := hx.cell (show w.cell? ⟨ba, oa + k * 5 + 3, none⟩ = some _ from cx 3 (by omega))
    have a4 := hx.cell (show w.cell? ⟨ba, oa + k * 5 + 4, none⟩ = some _ from cx 4 (by omega))
    clear cx la ha pa
    have hbk : (MCore.d a[k]).bulk <= 1048576 := by have := D.bulkL_mem (List.mem_map.2 ⟨a[k], List.getElem_mem hlt, rfl⟩ : MCore.d a[k] ∈ a.map MCore.d); have := Hb.out; omega
    go_wp2_with fail
    refine (ih.out a[k] _ wr (hn.out _ (List.getElem_mem hlt)) (Rep.ext hx ra) hbk).mono ?_
    clear a0 a1 a2 a3 a4 hbk
    rintro e w2 ⟨cs2, fd, rfl, hd, hfd, hx2⟩
    obtain ⟨na0, nc0, rfl, _⟩ := MCore.op_en hd.rep
    have hO2 := hO.ext hx2
    have HD := LH hd; clear hd
    have hsz := hR.out.1
    obtain ⟨v0, c0⟩ := hO2.some (k * 5) (by omega)
    obtain ⟨v1, c1⟩ := hO2.some (k * 5 + 1) (by omega)
    obtain ⟨v2, c2⟩ := hO2.some (k * 5 + 2) (by omega)
    obtain ⟨v3, c3⟩ := hO2.some (k * 5 + 3) (by omega)
    obtain ⟨v4, c4⟩ := hO2.some (k * 5 + 4) (by omega)
    have f0 := hO2.frozen (k * 5)
    have f1 := hO2.frozen (k * 5 + 1)
    have f2 := hO2.frozen (k * 5 + 2)
    have f3 := hO2.frozen (k * 5 + 3)
    have f4 := hO2.frozen (k * 5 + 4)
    clear hsz
    go_wp2_with fail
    clear c0 c1 c2 c3 c4 f0 f1 f2 f3 f4
    go_roundw
    case rel =>
     obtain ⟨hsz, fp, hr, hf⟩ := hR.out
     have hB : w.heap.size ∉ fp := fun h => by have := hf.ge _ h; omega
     obtain ⟨r1, r2, r3⟩ := row_step (d := MCore.d a[k]) (vs := [.int .i64 a[k].kind, .string a[k].text, .int .i64 a[k].number, .int .i64 a[k].depth, .slice na0 a[k].kids.length nc0]) (fd := fd) hO2 hsz (hr.ext hx2) hB HD.out (fun h => by have := hfd.ge _ h; omega) rfl hlt
     refine ⟨k + 1, _, by omega, by go_num, Ext.wsets (Nat.le_refl _) [.int .i64 a[k].kind, .string a[k].text, .int .i64 a[k].number, .int .i64 a[k].depth, .slice na0 a[k].kids.length nc0] (k * 5) (hx.trans hx2), r1, r2, fp ++ fd, ?_, ?_⟩
     · rw [List.take_succ_eq_append_getElem hlt, List.map_append]; exact r3
     · exact (hf.append hx2 hfd (Nat.le_refl _) (by omega)).wsets (fun h => by rcases List.mem_append.1 h with h | h; exact hB h; exact (fun h => by have := hfd.ge _ h; omega) h) [.int .i64 a[k].kind, .string a[k].text, .int .i64 a[k].number, .int .i64 a[k].depth, .slice na0 a[k].kids.length nc0] (k * 5)
    case measure => simp [intOf]; omega
  · go_wp2_with fail
    go_ret
    obtain ⟨hsz, fp, hr, hf⟩ := hR.out
    obtain rfl : k = a.length := by omega
    rw [List.take_length] at hr
    exact ⟨_, _, _, _, rfl, row_done hO hsz hr (by simp) (by unfold maxLen; omega), hf.row hO (Nat.le_refl _), hx⟩
theorem toCore_of (n : Nat) (ih : Hid (∀ (a : List MCore) (va : Value) (w : World), (∀ x, x ∈ a -> SizeOf.sizeOf x < n) -> Rep w (MCores a) [va] -> (MCores a).bulk <= 1048576 -> Calls Tryz.prog 81 #[va] w (GivesV w (MCores a)))) (x : MCore) (cx : List Value) (w : World) (hn : Hid (SizeOf.sizeOf x < n + 1)) (rx : Rep w x.d cx) (hb : x.d.bulk <= 1048576) :
 Calls Tryz.prog 48 #[.agg cx.toArray] w (GivesS w x.d) := by
 have hk : Hid (∀ z, z ∈ x.kids -> SizeOf.sizeOf z < n) := LH fun z hz => by have := MCore.kid_lt hz; have := hn.out; omega
 obtain ⟨a_x_kids, c_x_kids, rfl, r_x_kids⟩ := MCore.op_en rx
 clear rx
 rw [MCore.d_eq] at hb
 simp only [D.bulk, D.bulkL] at hb
 have hb_kids : (MCores x.kids).bulk <= 1048576 := by omega
 clear hb
 go_enter Tryz.func48, Tryz.ntmps48
 go_wp2_with fail
 refine (ih.out x.kids _ _ hk.out (Rep.ext ((((XR w).alloc _).alloc _).alloc _) r_x_kids) hb_kids).mono ?_
 rintro e w1 ⟨ao1, n1, cap1, fp1, rfl, hr1, hf1, hx1⟩
 obtain ⟨hc1, hfz1⟩ := bcell hx1
 have hz1 : w.heap.size < w1.heap.size /\ w.heap.size + 1 < w1.heap.size /\ w.heap.size + 1 + 1 < w1.heap.size := by have := hx1.size; simp only [World.size_alloc, size_setCell] at this; omega
 obtain ⟨hp1, hq1, hz1⟩ := hz1
 have he1 : w.heap.size + 1 + 1 + 1 <= w1.heap.size := by have := hx1.size; simp only [World.size_alloc, size_setCell] at this; omega
 simp only [World.size_alloc, size_setCell] at hf1
 have HR1 := LH hr1; clear hr1
 go_wp2_with fail
 refine bodyPost_ret (v := .agg #[.int .i64 x.kind, .string x.text, .int .i64 x.number, .int .i64 x.depth, .slice ao1 n1 cap1]) (by simp [results, Tryz.results48, go_sem, hc1, hq1, hz1]) rfl ⟨[.int .i64 x.kind, .string x.text, .int .i64 x.number, .int .i64 x.depth, .slice ao1 n1 cap1], fp1 ++ ([]), rfl, ?_, ?_, ?_⟩
 · refine MCore.shut ?_
   · iterate 6 refine RepF.low ?_ hf1.ge (by omega) _
     exact HR1.out
 · refine Fresh.mono (B := w.heap.size + 1 + 1 + 1) ?_ (by omega)
   refine Fresh.join (B2 := w1.heap.size) ?_ ?_ (fun b hb => hf1.lt hb) (by omega)
   · iterate 6 refine Fresh.low ?_ (by omega) _
     exact hf1
   exact Fresh.nil _ _
 · iterate 6 refine Ext.setCell ?_ (by omega) _
   exact ((((XR w).alloc _).alloc _).alloc _).trans hx1
theorem toCore_lt : ∀ (n : Nat) (x : MCore) (cx : List Value) (w : World), SizeOf.sizeOf x < n -> Rep w x.d cx -> x.d.bulk <= 1048576 ->
 Calls Tryz.prog 48 #[.agg cx.toArray] w (GivesS w x.d) := by
 intro n
 induction n with
 | zero => intro x cx w h; omega
 | succ n ih => exact fun x cx w h rx hb => toCore_of n (LH fun a va w hn ra hb => toCoreS_of n (LH ih) a va w (LH hn) ra hb) x cx w (LH h) rx hb
theorem toCore_any (x : MCore) (cx : List Value) (w : World) (rx : Rep w x.d cx) (hb : x.d.bulk <= 1048576) :
 Calls Tryz.prog 48 #[.agg cx.toArray] w (GivesS w x.d) := toCore_lt _ x cx w (Nat.lt_succ_self _) rx hb
theorem toRoutine_any (x : MRoutine) (cx : List Value) (w : World) (rx : Rep w x.d cx) (hb : x.d.bulk <= 1048576) :
 Calls Tryz.prog 21 #[.agg cx.toArray] w (GivesS w x.d) := by
 obtain ⟨a_x_body_kids, c_x_body_kids, rfl, r_x_body_kids, r_x_body⟩ := MRoutine.op_en rx
 clear rx
 rw [MRoutine.d_eq] at hb
 simp only [D.bulk, D.bulkL] at hb
 have hb_body : (x.body.d).bulk <= 1048576 := by omega
 clear hb
 go_enter Tryz.func21, Tryz.ntmps21
 go_wp2_with fail
 refine (toCore_any x.body _ _ (Rep.ext ((((XR w).alloc _).alloc _).alloc _) r_x_body) hb_body).mono ?_
 rintro e w1 ⟨cs1, fp1, rfl, hr1, hf1, hx1⟩
 obtain ⟨na_x_body_kids, nc_x_body_kids, rfl, _⟩ := MCore.op_en hr1.rep
 obtain ⟨hc1, hfz1⟩ := bcell hx1
 have hz1 : w.heap.size < w1.heap.size /\ w.heap.size + 1 < w1.heap.size /\ w.heap.size + 1 + 1 < w1.heap.size := by have := hx1.size; simp only [World.size_alloc, size_setCell] at this; omega
 obtain ⟨hp1, hq1, hz1⟩ := hz1
 have he1 : w.heap.size + 1 + 1 + 1 <= w1.heap.size := by have := hx1.size; simp only [World.size_alloc, size_setCell] at this; omega
 simp only [World.size_alloc, size_setCell] at hf1
 have HR1 := LH hr1; clear hr1
 go_wp2_with fail
 refine bodyPost_ret (v := .agg #[.string x.selector, .int .i64 x.owner, .bool x.cls, .int .i64 x.params, .int .i64 x.slots, .int .i64 x.body.kind, .string x.body.text, .int .i64 x.body.number, .int .i64 x.body.depth, .slice na_x_body_kids x.body.kids.length nc_x_body_kids]) (by simp [results, Tryz.results21, go_sem, hc1, hq1, hz1]) rfl ⟨[.string x.selector, .int .i64 x.owner, .bool x.cls, .int .i64 x.params, .int .i64 x.slots, .int .i64 x.body.kind, .string x.body.text, .int .i64 x.body.number, .int .i64 x.body.depth, .slice na_x_body_kids x.body.kids.length nc_x_body_kids], fp1 ++ ([]), rfl, ?_, ?_, ?_⟩
 · refine MRoutine.shut (c_body := [.int .i64 x.body.kind, .string x.body.text, .int .i64 x.body.number, .int .i64 x.body.depth, .slice na_x_body_kids x.body.kids.length nc_x_body_kids]) ?_
   · iterate 15 refine RepF.low ?_ hf1.ge (by omega) _
     exact HR1.out
 · refine Fresh.mono (B := w.heap.size + 1 + 1 + 1) ?_ (by omega)
   refine Fresh.join (B2 := w1.heap.size) ?_ ?_ (fun b hb => hf1.lt hb) (by omega)
   · iterate 15 refine Fresh.low ?_ (by omega) _
     exact hf1
   exact Fresh.nil _ _
 · iterate 15 refine Ext.setCell ?_ (by omega) _
   exact ((((XR w).alloc _).alloc _).alloc _).trans hx1
theorem Tryz.info44 : (Tryz.prog.info? 44).map (fun i => (i.zero, i.size, i.bytes)) = some (some (.agg #[.string ByteArray.empty, .int .i64 0, .bool false, .int .i64 0, .int .i64 0, .int .i64 0, .string ByteArray.empty, .int .i64 0, .int .i64 0, .slice none 0 0]), 10, 112) := by kernel_rfl
theorem toRoutineS_any (a : List MRoutine) (va : Value) (w : World) (ra : Rep w (MRoutines a) [va]) (hb : (MRoutines a).bulk <= 1048576) :
 Calls Tryz.prog 20 #[va] w (GivesV w (MRoutines a)) := by
 obtain ⟨ao, ca, ba, oa, e1, hla, hma, pa, ha⟩ := Rep.slmap ra
 simp only [List.cons.injEq, and_true] at e1
 subst e1
 clear ra
 unfold maxLen at hma
 have Hb : Hid (a.length + D.bulkL (a.map MRoutine.d) <= 1048576) := LH (by simpa [MRoutines, D.bulk] using hb)
 have hs : a.length <= 1048576 := by have := Hb.out; omega
 clear hb
 obtain ⟨i0, hi, hz0, hz1, hz2⟩ := info_parts Tryz.info44
 go_enter Tryz.func20, Tryz.ntmps20
 go_wp2_with (at_make; refine wpList_make_full _ rfl _ _ 39 rfl w.heap.size 44 i0 _ 10 Tryz.underlying39 hi hz0 hz1 .i64 .i64 _ _ a.length rfl rfl rfl rfl ?c1 ?c2 ?c3 ?_)
 case c1 => rw [hz2]; omega
 case c2 => unfold maxLen; omega
 case c3 => exact Nat.le_refl _
 intro w1 hown hgrow
 obtain ⟨C1, hO, hsz, -, -, -, -⟩ := own_of_row hown
 have hE : Ext w w1 := (XR w).grown hgrow (Nat.le_refl _) (by simp)
 clear hown hgrow hi hz0 hz1 hz2
 go_wp2_with fail
 go_loopw [4] (fun i wr => ∃ (k : Nat) (C : Array Value), k <= a.length /\ i = .int .i64 k /\ Ext w wr /\ Own wr w.heap.size 44 C /\ Hid (C.size = a.length * 10 /\ ∃ fp, RepR wr 10 ((a.take k).map MRoutine.d) (C.toList.take (k * 10)) fp /\ Fresh wr (w.heap.size + 1) fp)) (fun i _ => a.length - (intOf i).toNat)
 case atStart => exact ⟨0, C1, Nat.zero_le _, rfl, hE, hO, hsz, [], by simp [RepR], Fresh.nil _ _⟩
 clear hE hO hsz C1 w1
 case round =>
  obtain ⟨k, C, hk, rfl, hx, hO, hR⟩ := hrel
  have hsw := hO.lt
  by_cases hlt : k < a.length
  · obtain rfl := pa (by omega)
    obtain ⟨ea, la, cx, ra⟩ := ha k a[k] (by simp [hlt])
    obtain ⟨aa0, cc0, rfl, _, _⟩ := MRoutine.op_en ra
    have a0 := hx.cell (show w.cell? ⟨ba, oa + k * 10, none⟩ = some _ from cx 0 (by omega))
    have a1 := hx.cell (show w.cell? ⟨ba, oa + k * 10 + 1, none⟩ = some _ from cx 1 (by omega))
    have a2 := hx.cell (show w.cell? ⟨ba, oa + k * 10 + 2, none⟩ = some _ from cx 2 (by omega))
    have a3 := hx.cell (show w.cell? ⟨ba, oa + k * 10 + 3, none⟩ = some _ from cx 3 (by omega))
    have a4 := hx.cell (show w.cell? ⟨ba, oa + k * 10 + 4, none⟩ = some _ from cx 4 (by omega))
    have a5 := hx.cell (show w.cell? ⟨ba, oa + k * 10 + 5, none⟩ = some _ from cx 5 (by omega))
    have a6 := hx.cell (show w.cell? ⟨ba, oa + k * 10 + 6, none⟩ = some _ from cx 6 (by omega))
    have a7 := hx.cell (show w.cell? ⟨ba, oa + k * 10 + 7, none⟩ = some _ from cx 7 (by omega))
    have a8 := hx.cell (show w.cell? ⟨ba, oa + k * 10 + 8, none⟩ = some _ from cx 8 (by omega))
    have a9 := hx.cell (show w.cell? ⟨ba, oa + k * 10 + 9, none⟩ = some _ from cx 9 (by omega))
    clear cx la ha pa
    have hbk : (MRoutine.d a[k]).bulk <= 1048576 := by have := D.bulkL_mem (List.mem_map.2 ⟨a[k], List.getElem_mem hlt, rfl⟩ : MRoutine.d a[k] ∈ a.map MRoutine.d); have := Hb.out; omega
    go_wp2_with fail
    refine (toRoutine_any a[k] _ wr (Rep.ext hx ra) hbk).mono ?_
    clear a0 a1 a2 a3 a4 a5 a6 a7 a8 a9 hbk
    rintro e w2 ⟨cs2, fd, rfl, hd, hfd, hx2⟩
    obtain ⟨na0, nc0, rfl, _, _⟩ := MRoutine.op_en hd.rep
    have hO2 := hO.ext hx2
    have HD := LH hd; clear hd
    have hsz := hR.out.1
    obtain ⟨v0, c0⟩ := hO2.some (k * 10) (by omega)
    obtain ⟨v1, c1⟩ := hO2.some (k * 10 + 1) (by omega)
    obtain ⟨v2, c2⟩ := hO2.some (k * 10 + 2) (by omega)
    obtain ⟨v3, c3⟩ := hO2.some (k * 10 + 3) (by omega)
    obtain ⟨v4, c4⟩ := hO2.some (k * 10 + 4) (by omega)
    obtain ⟨v5, c5⟩ := hO2.some (k * 10 + 5) (by omega)
    obtain ⟨v6, c6⟩ := hO2.some (k * 10 + 6) (by omega)
    obtain ⟨v7, c7⟩ := hO2.some (k * 10 + 7) (by omega)
    obtain ⟨v8, c8⟩ := hO2.some (k * 10 + 8) (by omega)
    obtain ⟨v9, c9⟩ := hO2.some (k * 10 + 9) (by omega)
    have f0 := hO2.frozen (k * 10)
    have f1 := hO2.frozen (k * 10 + 1)
    have f2 := hO2.frozen (k * 10 + 2)
    have f3 := hO2.frozen (k * 10 + 3)
    have f4 := hO2.frozen (k * 10 + 4)
    have f5 := hO2.frozen (k * 10 + 5)
    have f6 := hO2.frozen (k * 10 + 6)
    have f7 := hO2.frozen (k * 10 + 7)
    have f8 := hO2.frozen (k * 10 + 8)
    have f9 := hO2.frozen (k * 10 + 9)
    clear hsz
    go_wp2_with fail
    clear c0 c1 c2 c3 c4 c5 c6 c7 c8 c9 f0 f1 f2 f3 f4 f5 f6 f7 f8 f9
    go_roundw
    case rel =>
     obtain ⟨hsz, fp, hr, hf⟩ := hR.out
     have hB : w.heap.size ∉ fp := fun h => by have := hf.ge _ h; omega
     obtain ⟨r1, r2, r3⟩ := row_step (d := MRoutine.d a[k]) (vs := [.string a[k].selector, .int .i64 a[k].owner, .bool a[k].cls, .int .i64 a[k].params, .int .i64 a[k].slots, .int .i64 a[k].body.kind, .string a[k].body.text, .int .i64 a[k].body.number, .int .i64 a[k].body.depth, .slice na0 a[k].body.kids.length nc0]) (fd := fd) hO2 hsz (hr.ext hx2) hB HD.out (fun h => by have := hfd.ge _ h; omega) rfl hlt
     refine ⟨k + 1, _, by omega, by go_num, Ext.wsets (Nat.le_refl _) [.string a[k].selector, .int .i64 a[k].owner, .bool a[k].cls, .int .i64 a[k].params, .int .i64 a[k].slots, .int .i64 a[k].body.kind, .string a[k].body.text, .int .i64 a[k].body.number, .int .i64 a[k].body.depth, .slice na0 a[k].body.kids.length nc0] (k * 10) (hx.trans hx2), r1, r2, fp ++ fd, ?_, ?_⟩
     · rw [List.take_succ_eq_append_getElem hlt, List.map_append]; exact r3
     · exact (hf.append hx2 hfd (Nat.le_refl _) (by omega)).wsets (fun h => by rcases List.mem_append.1 h with h | h; exact hB h; exact (fun h => by have := hfd.ge _ h; omega) h) [.string a[k].selector, .int .i64 a[k].owner, .bool a[k].cls, .int .i64 a[k].params, .int .i64 a[k].slots, .int .i64 a[k].body.kind, .string a[k].body.text, .int .i64 a[k].body.number, .int .i64 a[k].body.depth, .slice na0 a[k].body.kids.length nc0] (k * 10)
    case measure => simp [intOf]; omega
  · go_wp2_with fail
    go_ret
    obtain ⟨hsz, fp, hr, hf⟩ := hR.out
    obtain rfl : k = a.length := by omega
    rw [List.take_length] at hr
    exact ⟨_, _, _, _, rfl, row_done hO hsz hr (by simp) (by unfold maxLen; omega), hf.row hO (Nat.le_refl _), hx⟩
theorem toSystem_any (x : MSystem) (cx : List Value) (w : World) (rx : Rep w x.d cx) (hb : x.d.bulk <= 1048576) :
 Calls Tryz.prog 6 #[.agg cx.toArray] w (GivesS w x.d) := by
 obtain ⟨a_x_classes, c_x_classes, a_x_routines, c_x_routines, a_x_main_body_kids, c_x_main_body_kids, rfl, r_x_classes, r_x_routines, r_x_main_body_kids, r_x_main⟩ := MSystem.op_en rx
 clear rx
 rw [MSystem.d_eq] at hb
 simp only [D.bulk, D.bulkL] at hb
 have hb_classes : (MClassInfos x.classes).bulk <= 1048576 := by omega
 have hb_routines : (MRoutines x.routines).bulk <= 1048576 := by omega
 have hb_main : (x.main.d).bulk <= 1048576 := by omega
 clear hb
 go_enter Tryz.func6, Tryz.ntmps6
 go_wp2_with fail
 refine (toClassInfoS_any x.classes _ _ (Rep.ext ((((XR w).alloc _).alloc _).alloc _) r_x_classes) hb_classes).mono ?_
 rintro e w1 ⟨ao1, n1, cap1, fp1, rfl, hr1, hf1, hx1⟩
 obtain ⟨hc1, hfz1⟩ := bcell hx1
 have hz1 : w.heap.size < w1.heap.size /\ w.heap.size + 1 < w1.heap.size /\ w.heap.size + 1 + 1 < w1.heap.size := by have := hx1.size; simp only [World.size_alloc, size_setCell] at this; omega
 obtain ⟨hp1, hq1, hz1⟩ := hz1
 have he1 : w.heap.size + 1 + 1 + 1 <= w1.heap.size := by have := hx1.size; simp only [World.size_alloc, size_setCell] at this; omega
 simp only [World.size_alloc, size_setCell] at hf1
 have HR1 := LH hr1; clear hr1
 go_wp2_with fail
 refine (toRoutineS_any x.routines _ _ (Rep.ext ((((((XR w).alloc _).alloc _).alloc _).trans hx1).setCell (by omega) _) r_x_routines) hb_routines).mono ?_
 rintro e w2 ⟨ao2, n2, cap2, fp2, rfl, hr2, hf2, hx2⟩
 obtain ⟨hc2, hfz2⟩ := bcell hx2
 have hz2 : w.heap.size < w2.heap.size /\ w.heap.size + 1 < w2.heap.size /\ w.heap.size + 1 + 1 < w2.heap.size := by have := hx2.size; simp only [World.size_alloc, size_setCell] at this; omega
 obtain ⟨hp2, hq2, hz2⟩ := hz2
 have he2 : w1.heap.size <= w2.heap.size := by have := hx2.size; simp only [World.size_alloc, size_setCell] at this; omega
 simp only [World.size_alloc, size_setCell] at hf2
 have HR2 := LH hr2; clear hr2
 go_wp2_with fail
 refine (toRoutine_any x.main _ _ (Rep.ext ((((((((XR w).alloc _).alloc _).alloc _).trans hx1).setCell (by omega) _).trans hx2).setCell (by omega) _) r_x_main) hb_main).mono ?_
 rintro e w3 ⟨cs3, fp3, rfl, hr3, hf3, hx3⟩
 obtain ⟨na_x_main_body_kids, nc_x_main_body_kids, rfl, _, _⟩ := MRoutine.op_en hr3.rep
 obtain ⟨hc3, hfz3⟩ := bcell hx3
 have hz3 : w.heap.size < w3.heap.size /\ w.heap.size + 1 < w3.heap.size /\ w.heap.size + 1 + 1 < w3.heap.size := by have := hx3.size; simp only [World.size_alloc, size_setCell] at this; omega
 obtain ⟨hp3, hq3, hz3⟩ := hz3
 have he3 : w2.heap.size <= w3.heap.size := by have := hx3.size; simp only [World.size_alloc, size_setCell] at this; omega
 simp only [World.size_alloc, size_setCell] at hf3
 have HR3 := LH hr3; clear hr3
 go_wp2_with fail
 refine bodyPost_ret (v := .agg #[.slice ao1 n1 cap1, .slice ao2 n2 cap2, .string x.main.selector, .int .i64 x.main.owner, .bool x.main.cls, .int .i64 x.main.params, .int .i64 x.main.slots, .int .i64 x.main.body.kind, .string x.main.body.text, .int .i64 x.main.body.number, .int .i64 x.main.body.depth, .slice na_x_main_body_kids x.main.body.kids.length nc_x_main_body_kids]) (by simp [results, Tryz.results6, go_sem, hc1, hq1, hz1, hc2, hq2, hz2, hc3, hq3, hz3]) rfl ⟨[.slice ao1 n1 cap1, .slice ao2 n2 cap2, .string x.main.selector, .int .i64 x.main.owner, .bool x.main.cls, .int .i64 x.main.params, .int .i64 x.main.slots, .int .i64 x.main.body.kind, .string x.main.body.text, .int .i64 x.main.body.number, .int .i64 x.main.body.depth, .slice na_x_main_body_kids x.main.body.kids.length nc_x_main_body_kids], fp1 ++ (fp2 ++ (fp3 ++ ([]))), rfl, ?_, ?_, ?_⟩
 · refine MSystem.shut (c_main := [.string x.main.selector, .int .i64 x.main.owner, .bool x.main.cls, .int .i64 x.main.params, .int .i64 x.main.slots, .int .i64 x.main.body.kind, .string x.main.body.text, .int .i64 x.main.body.number, .int .i64 x.main.body.depth, .slice na_x_main_body_kids x.main.body.kids.length nc_x_main_body_kids]) ?_ ?_ ?_
   · iterate 22 refine RepF.low ?_ hf1.ge (by omega) _
     refine RepF.ext hx3 ?_
     iterate 1 refine RepF.low ?_ hf1.ge (by omega) _
     refine RepF.ext hx2 ?_
     iterate 1 refine RepF.low ?_ hf1.ge (by omega) _
     exact HR1.out
   · iterate 22 refine RepF.low ?_ hf2.ge (by omega) _
     refine RepF.ext hx3 ?_
     iterate 1 refine RepF.low ?_ hf2.ge (by omega) _
     exact HR2.out
   · iterate 22 refine RepF.low ?_ hf3.ge (by omega) _
     exact HR3.out
 · refine Fresh.mono (B := w.heap.size + 1 + 1 + 1) ?_ (by omega)
   refine Fresh.join (B2 := w1.heap.size) ?_ ?_ (fun b hb => hf1.lt hb) (by omega)
   · iterate 22 refine Fresh.low ?_ (by omega) _
     refine Fresh.ext ?_ hx3
     iterate 1 refine Fresh.low ?_ (by omega) _
     refine Fresh.ext ?_ hx2
     iterate 1 refine Fresh.low ?_ (by omega) _
     exact hf1
   refine Fresh.join (B2 := w2.heap.size) ?_ ?_ (fun b hb => hf2.lt hb) (by omega)
   · refine Fresh.mono (B := w1.heap.size) ?_ (by omega)
     iterate 22 refine Fresh.low ?_ (by omega) _
     refine Fresh.ext ?_ hx3
     iterate 1 refine Fresh.low ?_ (by omega) _
     exact hf2
   refine Fresh.join (B2 := w3.heap.size) ?_ ?_ (fun b hb => hf3.lt hb) (by omega)
   · refine Fresh.mono (B := w2.heap.size) ?_ (by omega)
     iterate 22 refine Fresh.low ?_ (by omega) _
     exact hf3
   exact Fresh.nil _ _
 · iterate 22 refine Ext.setCell ?_ (by omega) _
   exact ((((((((XR w).alloc _).alloc _).alloc _).trans hx1).setCell (by omega) _).trans hx2).setCell (by omega) _).trans hx3
end Go.Proofs.YtlaclfeljimffaaGreatDoor
