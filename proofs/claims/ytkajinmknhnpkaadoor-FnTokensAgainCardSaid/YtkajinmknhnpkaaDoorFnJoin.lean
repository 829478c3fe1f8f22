/-
  CONTRACTS: Join, of the program and of the reference.
  Conditions: those that each lemma states.
-/
import Derived.Test.YtkajinmknhnpkaaDoorRows
import Derived.Test.YtkajinmknhnpkaaDoorLem
import Derived.Test.YtkajinmknhnpkaaDoorShelf
import Derived.Test.YtkajinmknhnpkaaDoorOwn
import Derived.Lib.AppendStr
import Derived.Lib.Join
namespace Go.Proofs.YtkajinmknhnpkaaDoor
open Go.RowKit
set_option linter.unusedSimpArgs false
set_option linter.unusedVariables false

theorem bulk_lens : ∀ l : List ByteArray, D.bulkL (l.map .str) = Lib.lens (l.map (·.data.toList))
  | [] => rfl
  | x :: l => by
    have e : x.data.toList.length = x.size := by simp
    have := bulk_lens l
    simp only [Lib.lens] at this
    simp only [List.map_cons, D.bulkL, D.bulk, Lib.lens, List.sum_cons, this, e]
theorem lens_mem : ∀ (l : List ByteArray) (x : ByteArray), x ∈ l → x.size ≤ Lib.lens (l.map (·.data.toList))
  | [], x, h => by simp at h
  | y :: l, x, h => by
    have e : y.data.toList.length = y.size := by simp
    simp only [List.map_cons, Lib.lens, List.sum_cons, e]
    rcases List.mem_cons.1 h with rfl | h
    · omega
    · have := lens_mem l x h; simp only [Lib.lens] at this; omega
theorem bulk_strs {l : List ByteArray} {n : Nat} (h : (strs l).bulk ≤ n) : l.length ≤ n ∧ Lib.lens (l.map (·.data.toList)) ≤ n ∧ ∀ x, x ∈ l → x.size ≤ n := by
  have h1 : (strs l).bulk = l.length + Lib.lens (l.map (·.data.toList)) := by simp only [strs, D.bulk, List.length_map, bulk_lens]
  exact ⟨by omega, by omega, fun x hx => by have := lens_mem l x hx; omega⟩
/-- The first k texts, joined. -/
def jpart (l : List ByteArray) (s : ByteArray) (k : Nat) : List UInt8 := Lib.join ((l.take k).map (·.data.toList)) s.data.toList
theorem jpart_zero (l : List ByteArray) (s : ByteArray) : jpart l s 0 = [] := by simp [jpart, Lib.join_nil]
theorem jpart_one {l : List ByteArray} {s : ByteArray} (h : 0 < l.length) : jpart l s 1 = l[0].data.toList := by
  cases l with
  | nil => simp at h
  | cons x r => simp [jpart, Lib.join_one]
theorem jpart_succ {l : List ByteArray} {s : ByteArray} {k : Nat} (h0 : 0 < k) (h : k < l.length) : jpart l s (k + 1) = jpart l s k ++ s.data.toList ++ l[k].data.toList := by
  cases l with
  | nil => simp at h
  | cons x r =>
    obtain ⟨j, rfl⟩ : ∃ j, k = j + 1 := ⟨k - 1, by omega⟩
    have hj : j < r.length := by simpa using h
    have e : (r.map (·.data.toList))[j]? = some (r[j].data.toList) := by simp [hj]
    simp only [jpart, List.take_succ_cons, List.map_cons, Lib.join_cons, List.map_take, Lib.joinTail_take_succ _ _ _ _ e, List.getElem_cons_succ, List.append_assoc]
theorem jpart_all (l : List ByteArray) (s : ByteArray) : jpart l s l.length = Lib.join (l.map (·.data.toList)) s.data.toList := by simp [jpart]
theorem jpart_step {l : List ByteArray} {s : ByteArray} {k : Nat} (h : k < l.length) : (jpart l s k).length ≤ (jpart l s (k + 1)).length := by
  by_cases h0 : 0 < k
  · rw [jpart_succ h0 h]; simp only [List.length_append]; omega
  · obtain rfl : k = 0 := by omega
    rw [jpart_zero]; simp
theorem jpart_mono {l : List ByteArray} {s : ByteArray} {k : Nat} : ∀ (d : Nat), k + d ≤ l.length → (jpart l s k).length ≤ (jpart l s (k + d)).length
  | 0, _ => Nat.le_refl _
  | d + 1, h => Nat.le_trans (jpart_mono d (by omega)) (jpart_step (by omega))
theorem jpart_le {l : List ByteArray} {s : ByteArray} {k : Nat} (h : k ≤ l.length) : (jpart l s k).length ≤ (jpart l s l.length).length := by
  have := jpart_mono (l := l) (s := s) (k := k) (l.length - k) (by omega)
  rwa [show k + (l.length - k) = l.length from by omega] at this
theorem jpart_bound {l : List ByteArray} {s : ByteArray} (hl : l.length ≤ 1048576) (hs : s.size ≤ 1048576) (hm : Lib.lens (l.map (·.data.toList)) ≤ 1048576) : (jpart l s l.length).length ≤ 140737488355328 := by
  rw [jpart_all]
  cases l with
  | nil => simp [Lib.join_nil]
  | cons x r =>
    rw [List.map_cons, Lib.join_cons, List.length_append, Lib.joinTail_length, List.length_map]
    simp only [Lib.lens, List.map_cons, List.sum_cons] at hm
    have e : s.data.toList.length = s.size := by simp
    have h1 : s.data.toList.length * r.length ≤ 1048576 * 1048576 := Nat.mul_le_mul (by omega) (by simp at hl; omega)
    simp only [Lib.lens]
    omega
def joinB (l : List ByteArray) (s : ByteArray) : ByteArray := if (jpart l s l.length).length ≤ 1048576 then ⟨(jpart l s l.length).toArray⟩ else ⟨#[]⟩

set_option maxHeartbeats 1000000 in
set_option maxRecDepth 100000 in
theorem impl_Join_any (l : List ByteArray) (s : ByteArray) (va : Value) (w : World) (ra : Rep w (strs l) [va]) (hs : s.size ≤ 1048576) (hl : l.length ≤ 1048576) (hm : Lib.lens (l.map (·.data.toList)) ≤ 1048576) :
    Calls Tryd.prog 9 #[va, .string s] w fun e w' => e = .returned (.string (joinB l s)) ∧ Ext w w' := by
  have hb := jpart_bound hl hs hm
  obtain ⟨gp, ra⟩ := ra
  obtain ⟨ao, cap, hv, hc, hcm, -, h⟩ := RepF.sl_iff.1 ra
  simp only [List.cons.injEq, and_true, List.length_map] at hv hc
  subst hv
  have fin : ∀ w1 : World, Ext w w1 → Calls Tryd.prog 17 #[.slice ao l.length cap, .string s] w fun e w' => e = .returned (.string ⟨(jpart l s l.length).toArray⟩) ∧ Ext w w' := fun _ _ => by
    rcases h with ⟨h1, -⟩ | ⟨b, o, cells, fp', h1, rfl, rfl, h3, h4, h5⟩
    · have : l = [] := by simpa using h1
      subst this
      refine (Tryd.strings_Join_none ao cap s w).mono ?_
      rintro e w' ⟨rfl, rfl⟩
      exact ⟨rfl, Ext.refl _⟩
    · refine (Tryd.strings_Join b o cap l s w (fun j x hx => ?_) h3 (by omega) hc (by rw [← jpart_all]; exact hb)).mono ?_
      · have := Rep.strs ⟨_, ra⟩
        obtain ⟨ao', ca, ba, oa, g1, -, -, pa, ha⟩ := this
        simp only [List.cons.injEq, and_true, Value.slice.injEq, true_and] at g1
        obtain ⟨rfl, rfl⟩ := g1
        have := pa (by have := (List.getElem?_eq_some_iff.1 hx).1; omega)
        simp only [Option.some.injEq, Addr.mk.injEq, and_true] at this
        obtain ⟨rfl, rfl⟩ := this
        exact ha j x hx
      · rintro e w' ⟨rfl, hx⟩
        exact ⟨by rw [jpart_all], hx⟩
  have fin := fin w (Ext.refl _)
  clear h ra hc
  go_enter Tryd.func9, Tryd.ntmps9
  go_wp2_with fail
  refine fin.mono ?_
  rintro e w1 ⟨rfl, hx1⟩
  have hsz : (⟨(jpart l s l.length).toArray⟩ : ByteArray).size = (jpart l s l.length).length := by simp [ByteArray.size]
  by_cases hbig : (jpart l s l.length).length ≤ 1048576
  · have hj : Hid (joinB l s = ⟨(jpart l s l.length).toArray⟩) := Lib.hid (by unfold joinB; rw [if_pos hbig])
    have f1 : ((⟨(jpart l s l.length).toArray⟩ : ByteArray).size : Int) ≤ 1048576 := by omega
    generalize (⟨(jpart l s l.length).toArray⟩ : ByteArray) = J at *
    go_wp2_with fail
    go_ret
    exact ⟨ret_str (by rw [hj.out]), hx1⟩
  · have hj : Hid (joinB l s = ⟨#[]⟩) := Lib.hid (by unfold joinB; rw [if_neg hbig])
    have f1 : (1048576 : Int) < ((⟨(jpart l s l.length).toArray⟩ : ByteArray).size : Int) := by omega
    generalize (⟨(jpart l s l.length).toArray⟩ : ByteArray) = J at *
    go_wp2_with fail
    go_ret
    exact ⟨ret_str (by rw [hj.out]), hx1⟩

end Go.Proofs.YtkajinmknhnpkaaDoor
