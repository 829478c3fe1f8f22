/-
  CONTRACTS: Join, of the program and of the reference.
  Conditions: those that each lemma states.
-/
import Derived.Test.YticdmbmjlaomiaaGreatDoorRows
import Derived.Test.YticdmbmjlaomiaaGreatDoorLem
import Derived.Test.YticdmbmjlaomiaaGreatDoorShelf
import Derived.Test.YticdmbmjlaomiaaGreatDoorOwn
import Derived.Lib.AppendStr
import Derived.Lib.Join
namespace Go.Proofs.YticdmbmjlaomiaaGreatDoor
open Go.RowKit
set_option linter.unusedSimpArgs false
set_option linter.unusedVariables false

theorem bulk_lens : ∀ l : List ByteArray, D.bulkL (l.map .str) = Lib.lens (l.map (·.data.toList))
  | [] => rfl
  | x :: l => by
    have e : x.data.toList.length = x.size := by simp
    have := bulk_lens l
    simp only [Lib.lens] at this
    simp only [List.map_cons, D.bulkL, D.bulk, Lib.lens, List.sum_cons, this, e]
theorem lens_mem : ∀ (l : List ByteArray) (x : ByteArray), x ∈ l → x.size ≤ Lib.lens (l.map (·.data.toList))
  | [], x, h => by simp at h
  | y :: l, x, h => by
    have e : y.data.toList.length = y.size := by simp
    simp only [List.map_cons, Lib.lens, List.sum_cons, e]
    rcases List.mem_cons.1 h with rfl | h
    · omega
    · have := lens_mem l x h; simp only [Lib.lens] at this; omega
theorem bulk_strs {l : List ByteArray} {n : Nat} (h : (strs l).bulk ≤ n) : l.length ≤ n ∧ Lib.lens (l.map (·.data.toList)) ≤ n ∧ ∀ x, x ∈ l → x.size ≤ n := by
  have h1 : (strs l).bulk = l.length + Lib.lens (l.map (·.data.toList)) := by simp only [strs, D.bulk, List.length_map, bulk_lens]
  exact ⟨by omega, by omega, fun x hx => by have := lens_mem l x hx; omega⟩
/-- The first k texts, joined. -/
def jpart (l : List ByteArray) (s : ByteArray) (k : Nat) : List UInt8 := Lib.join ((l.take k).map (·.data.toList)) s.data.toList
theorem jpart_zero (l : List ByteArray) (s : ByteArray) : jpart l s 0 = [] := by simp [jpart, Lib.join_nil]
theorem jpart_one {l : List ByteArray} {s : ByteArray} (h : 0 < l.length) : jpart l s 1 = l[0].data.toList := by
  cases l with
  | nil => simp at h
  | cons x r => simp [jpart, Lib.join_one]
theorem jpart_succ {l : List ByteArray} {s : ByteArray} {k : Nat} (h0 : 0 < k) (h : k < l.length) : jpart l s (k + 1) = jpart l s k ++ s.data.toList ++ l[k].data.toList := by
  cases l with
  | nil => simp at h
  | cons x r =>
    obtain ⟨j, rfl⟩ : ∃ j, k = j + 1 := ⟨k - 1, by omega⟩
    have hj : j < r.length := by simpa using h
    have e : (r.map (·.data.toList))[j]? = some (r[j].data.toList) := by simp [hj]
    simp only [jpart, List.take_succ_cons, List.map_cons, Lib.join_cons, List.map_take, Lib.joinTail_take_succ _ _ _ _ e, List.getElem_cons_succ, List.append_assoc]
theorem jpart_all (l : List ByteArray) (s : ByteArray) : jpart l s l.length = Lib.join (l.map (·.data.toList)) s.data.toList := by simp [jpart]
theorem jpart_step {l : List ByteArray} {s : ByteArray} {k : Nat} (h : k < l.length) : (jpart l s k).length ≤ (jpart l s (k + 1)).length := by
  by_cases h0 : 0 < k
  · rw [jpart_succ h0 h]; simp only [List.length_append]; omega
  · obtain rfl : k = 0 := by omega
    rw [jpart_zero]; simp
theorem jpart_mono {l : List ByteArray} {s : ByteArray} {k : Nat} : ∀ (d : Nat), k + d ≤ l.length → (jpart l s k).length ≤ (jpart l s (k + d)).length
  | 0, _ => Nat.le_refl _
  | d + 1, h => Nat.le_trans (jpart_mono d (by omega)) (jpart_step (by omega))
theorem jpart_le {l : List ByteArray} {s : ByteArray} {k : Nat} (h : k ≤ l.length) : (jpart l s k).length ≤ (jpart l s l.length).length := by
  have := jpart_mono (l := l) (s := s) (k := k) (l.length - k) (by omega)
  rwa [show k + (l.length - k) = l.length from by omega] at this
theorem jpart_bound {l : List ByteArray} {s : ByteArray} (hl : l.length ≤ 1048576) (hs : s.size ≤ 1048576) (hm : Lib.lens (l.map (·.data.toList)) ≤ 1048576) : (jpart l s l.length).length ≤ 140737488355328 := by
  rw [jpart_all]
  cases l with
  | nil => simp [Lib.join_nil]
  | cons x r =>
    rw [List.map_cons, Lib.join_cons, List.length_append, Lib.joinTail_length, List.length_map]
    simp only [Lib.lens, List.map_cons, List.sum_cons] at hm
    have e : s.data.toList.length = s.size := by simp
    have h1 : s.data.toList.length * r.length ≤ 1048576 * 1048576 := Nat.mul_le_mul (by omega) (by simp at hl; omega)
    simp only [Lib.lens]
    omega
def joinB (l : List ByteArray) (s : ByteArray) : ByteArray := if (jpart l s l.length).length ≤ 1048576 then ⟨(jpart l s l.length).toArray⟩ else ⟨#[]⟩

set_option maxHeartbeats 1000000 in
set_option maxRecDepth 100000 in
theorem spec_Join_any (l : List ByteArray) (s : ByteArray) (va : Value) (w : World) (ra : Rep w (strs l) [va]) (hs : s.size ≤ 1048576) (hsz : ∀ x, x ∈ l → x.size ≤ 1048576) :
    Calls Tryz.prog 135 #[va, .string s] w fun e w' => e = .returned (.string (joinB l s)) ∧ Ext w w' := by
  obtain ⟨ao, ca, ba, oa, h1, hla, hma, pa, ha⟩ := ra.strs
  simp only [List.cons.injEq, and_true] at h1
  subst h1
  clear ra
  unfold maxLen at hma
  obtain ⟨i0, hi, hz0, hz1, hz2⟩ := info_parts u8Info
  have hO : (w.alloc (.cells #[] 5)).ownsRow w.heap.size 5 1 (.slice (some ⟨w.heap.size, 0, none⟩) 0 0) 0 [] := ⟨by simp, Or.inr ⟨w.heap.size, 0, #[], rfl, Nat.le_refl _, heap_alloc_new w _, by simp, by simp, by simp, by simp⟩⟩
  go_enter Tryz.func135, Tryz.ntmps135
  go_wp2_with fail
  go_loopw [5, 6] (fun ov iv wr => ∃ (k b cap : Nat), iv = .int .i64 k ∧ k ≤ l.length ∧ ov = .slice (some ⟨b, 0, none⟩) (jpart l s k).length cap ∧ (jpart l s k).length ≤ cap ∧ (jpart l s k).length ≤ 1048576 ∧ wr.ownsRow w.heap.size 5 1 ov (jpart l s k).length (bytesC (jpart l s k)) ∧ Ext w wr) (fun _ iv _ => l.length - (intOf iv).toNat)
  case atStart => exact ⟨0, w.heap.size, 0, rfl, Nat.zero_le _, by rw [jpart_zero]; rfl, by rw [jpart_zero]; simp, by rw [jpart_zero]; simp, by rw [jpart_zero]; exact hO, (Ext.refl w).alloc _⟩
  case round =>
    obtain ⟨k, b, cap, rfl, hk, rfl, hcap, hJ, hown, hx⟩ := hrel
    clear hO
    have hz := hx.size
    by_cases hlt : k < l.length
    · obtain rfl := pa (by omega)
      have c0 := ha k l[k] (by simp [hlt])
      have a0 := Ext.cell hx c0
      have hxs := hsz _ (List.getElem_mem hlt)
      have hle := jpart_le (l := l) (s := s) (k := k + 1) (by omega)
      clear ha pa
      by_cases h0 : 0 < k
      · have e1 := Lib.hid (jpart_succ (s := s) h0 hlt)
        have f0 : (0 : Int) < k := by omega
        go_wp2_with (at_builtin; refine Lib.wpList_append_own_string _ rfl _ _ _ _ rfl w.heap.size 5 i0 Tryz.underlying281 Tryz.underlying9 hi hz0 hz1 hz2 _ _ _ rfl hown s rfl (by simp only [maxLen]; omega) (by omega) hz ?_)
        intro v1 w1 hown1 hg1 hn1
        have hx1 : Ext w w1 := own_grown hown hx hg1 hz
        obtain ⟨b1, cap1, rfl, hc1⟩ := own_some hown1 (by simpa using hn1)
        have b0 := Ext.cell hx1 c0
        have hz' := hx1.size
        clear hg1 hn1 hown a0 hx
        go_wp2_with (at_builtin; refine Lib.wpList_append_own_string _ rfl _ _ _ _ rfl w.heap.size 5 i0 Tryz.underlying281 Tryz.underlying9 hi hz0 hz1 hz2 _ _ _ rfl hown1 l[k] rfl (by simp only [maxLen]; omega) (by omega) hz' ?_)
        intro v2 w2 hown2 hg2 hn2
        have hx2 : Ext w w2 := own_grown hown1 hx1 hg2 hz'
        have hown3 : w2.ownsRow w.heap.size 5 1 v2 (jpart l s (k + 1)).length (bytesC (jpart l s (k + 1))) := by
          rw [bytesC_str, bytesC_str] at hown2
          have e2 : (jpart l s (k + 1)).length = (jpart l s k).length + s.size + l[k].size := by rw [e1.out, List.length_append, List.length_append]; rfl
          rw [e2, e1.out]
          simpa [bytesC] using hown2
        obtain ⟨b2, cap2, rfl, hc2⟩ := own_some hown3 (by simpa using hn2)
        clear hg2 hn2 hown2 hown1 hx1 b0
        by_cases hbig : (jpart l s (k + 1)).length ≤ 1048576
        · have f1 : ((jpart l s (k + 1)).length : Int) ≤ 1048576 := by omega
          go_wp2_with fail
          go_roundw
          case rel => exact ⟨k + 1, b2, cap2, by go_num, by omega, rfl, hc2, hbig, hown3, hx2⟩
          case measure => simp [intOf]; omega
        · have f1 : (1048576 : Int) < ((jpart l s (k + 1)).length : Int) := by omega
          have hj : Hid (joinB l s = ⟨#[]⟩) := Lib.hid (by unfold joinB; rw [if_neg (by omega)])
          go_wp2_with fail
          go_ret
          exact ⟨ret_str (by rw [hj.out]), hx2⟩
      · have e1 : Hid (jpart l s (k + 1) = jpart l s k ++ l[k].data.toList) := Lib.hid (by
          obtain rfl : k = 0 := by omega
          rw [jpart_zero, jpart_one hlt]; rfl)
        have f0 : (k : Int) ≤ 0 := by omega
        go_wp2_with (at_builtin; refine Lib.wpList_append_own_string _ rfl _ _ _ _ rfl w.heap.size 5 i0 Tryz.underlying281 Tryz.underlying9 hi hz0 hz1 hz2 _ _ _ rfl hown l[k] rfl (by simp only [maxLen]; omega) (by omega) hz ?_)
        intro v2 w2 hown2 hg2 hn2
        have hx2 : Ext w w2 := own_grown hown hx hg2 hz
        have hown3 : w2.ownsRow w.heap.size 5 1 v2 (jpart l s (k + 1)).length (bytesC (jpart l s (k + 1))) := by
          rw [bytesC_str] at hown2
          have e2 : (jpart l s (k + 1)).length = (jpart l s k).length + l[k].size := by rw [e1.out, List.length_append]; rfl
          rw [e2, e1.out]
          simpa [bytesC] using hown2
        obtain ⟨b2, cap2, rfl, hc2⟩ := own_some hown3 (by simpa using hn2)
        clear hg2 hn2 hown2 hown a0
        by_cases hbig : (jpart l s (k + 1)).length ≤ 1048576
        · have f1 : ((jpart l s (k + 1)).length : Int) ≤ 1048576 := by omega
          go_wp2_with fail
          go_roundw
          case rel => exact ⟨k + 1, b2, cap2, by go_num, by omega, rfl, hc2, hbig, hown3, hx2⟩
          case measure => simp [intOf]; omega
        · have f1 : (1048576 : Int) < ((jpart l s (k + 1)).length : Int) := by omega
          have hj : Hid (joinB l s = ⟨#[]⟩) := Lib.hid (by unfold joinB; rw [if_neg (by omega)])
          go_wp2_with fail
          go_ret
          exact ⟨ret_str (by rw [hj.out]), hx2⟩
    · obtain rfl : k = l.length := by omega
      have hnum : strOfNums ((jpart l s l.length).map fun b => (b.toNat : Int)) = joinB l s := by
        unfold joinB
        rw [if_pos hJ]
        simp only [strOfNums, List.map_map]
        rw [show ((fun n : Int => UInt8.ofNat n.toNat) ∘ fun b : UInt8 => (b.toNat : Int)) = id from funext fun b => by simp, List.map_id]
      have hcv := run_convert_bytes_arg (P := Tryz.prog) wr 281 5 Tryz.underlying281 Tryz.underlying5 b 0 (jpart l s l.length).length cap ((jpart l s l.length).map fun b => (b.toNat : Int)) (by simp) (fun i hi => by
        have := hown.cells (g := b) rfl i (.int .u8 ((jpart l s l.length)[i]).toNat) (by rw [bytesC, List.getElem?_map, List.getElem?_eq_getElem hi]; rfl)
        have ha : (⟨b, 0, none⟩ : Addr).add i = ⟨b, 0 + i, none⟩ := by unfold Addr.add; split <;> simp_all
        rw [ha] at this
        rw [this]; simp [hi]) 9 Tryz.underlying9
      rw [hnum] at hcv
      clear hown hnum hJ ha
      go_wp2_with fail
      go_ret
      exact ⟨rfl, hx⟩

end Go.Proofs.YticdmbmjlaomiaaGreatDoor
