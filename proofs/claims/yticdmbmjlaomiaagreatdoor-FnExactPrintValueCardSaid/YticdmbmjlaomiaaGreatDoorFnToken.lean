/-
  CONTRACTS: FormatToken, of the program and of the reference.
  Conditions: those that each lemma states.
-/
import Derived.Test.YticdmbmjlaomiaaGreatDoorRows
import Derived.Test.YticdmbmjlaomiaaGreatDoorFnItoa
import Derived.Test.YticdmbmjlaomiaaGreatDoorFnSplit
import Derived.Test.YticdmbmjlaomiaaGreatDoorFnLex
import Derived.Test.YticdmbmjlaomiaaGreatDoorOwn
import Derived.Lib.Replace
import Derived.Laws.AppendOwn
namespace Go.Proofs.YticdmbmjlaomiaaGreatDoor
open Go.RowKit Go.Joins
set_option linter.unusedSimpArgs false
set_option linter.unusedVariables false

/-- c replaced by new. -/
def subL (c : UInt8) (new : List UInt8) : List UInt8 → List UInt8
  | [] => []
  | b :: t => if b = c then new ++ subL c new t else b :: subL c new t
theorem subL_snoc (c : UInt8) (new : List UInt8) (b : UInt8) : ∀ l : List UInt8, subL c new (l ++ [b]) = subL c new l ++ (if b = c then new else [b])
  | [] => by by_cases h : b = c <;> simp [subL, h]
  | a :: t => by
    by_cases h : a = c <;> simp [subL, h, subL_snoc c new b t, List.append_assoc]
theorem subL_len (c : UInt8) (l : List UInt8) : (subL c [c, c] l).length ≤ 2 * l.length := by
  induction l with
  | nil => simp [subL]
  | cons b t ih => by_cases h : b = c <;> simp [subL, h] <;> omega
theorem replaceK_ne (c b : UInt8) (new : List UInt8) (hb : b ≠ c) : ∀ (k : Nat) (t : List UInt8), Lib.replaceK [c] new k (b :: t) = b :: Lib.replaceK [c] new k t
  | 0, t => rfl
  | k + 1, t => by
    have hp : ([c] : List UInt8).isPrefixOf (b :: t) = false := by simp [List.isPrefixOf, Ne.symm hb]
    have hix : Lib.index (b :: t) [c] = if Lib.index t [c] == -1 then -1 else Lib.index t [c] + 1 := by rw [Lib.index, hp]; simp
    by_cases hm : Lib.index t [c] = -1
    · simp [Lib.replaceK, hix, hm]
    · have hge := Lib.index_ge t [c]
      obtain ⟨j, hj⟩ : ∃ j : Nat, Lib.index t [c] = j := ⟨(Lib.index t [c]).toNat, by omega⟩
      have h1 : ((j : Int) == -1) = false := by simp <;> omega
      have h2 : ((j : Int) + 1 == -1) = false := by simp <;> omega
      have h3 : ((j : Int) + 1).toNat = j + 1 := by omega
      simp [Lib.replaceK, hix, hj, h1, h2, h3]
theorem replaceK_sub (c : UInt8) (new : List UInt8) : ∀ l : List UInt8, Lib.replaceK [c] new (Lib.count l [c]) l = subL c new l
  | [] => by rw [Lib.count_miss (by simp [Lib.index])]; simp [Lib.replaceK, subL]
  | b :: t => by
    by_cases h : b = c
    · subst h
      rw [Lib.count_cons_eq, Nat.add_comm]
      have hix : Lib.index (b :: t) [b] = ((0 : Nat) : Int) := by rw [Lib.index]; simp [List.isPrefixOf]
      rw [Lib.replaceK_hit _ _ _ _ 0 hix]
      simp [subL, replaceK_sub b new t]
    · rw [Lib.count_cons_ne b c t h, replaceK_ne c b new h, replaceK_sub c new t]
      simp [subL, h]
theorem replaceAll_sub (c : UInt8) (l : List UInt8) : Lib.replaceAll l [c] [c, c] = subL c [c, c] l := by
  have h : ¬ (([c] : List UInt8) == [c, c]) = true := by simp
  rw [Lib.replaceAll, Lib.replace, if_neg h, Lib.replaceNum, if_pos (Or.inl (by omega)), replaceK_sub]
theorem countB_le (s : ByteArray) (c : UInt8) : Lib.countB s ⟨#[c]⟩ ≤ s.size := by
  have h1 := countB_cut c s
  have h2 := cutB_le c s
  omega
def quoteB (s : ByteArray) : ByteArray := ⟨(39 :: (subL 39 [39, 39] s.data.toList ++ [39])).toArray⟩
def tokB (x : MToken) : ByteArray := if x.kind = 3 then itoaB x.number else if x.kind = 4 then quoteB x.text else if x.kind = 5 then ⟨#[35]⟩ ++ x.text else x.text
theorem tok_ok {x : MToken} (h : x.d.ok) : -9223372036854775808 ≤ x.number ∧ x.number ≤ 9223372036854775807 := by
  rw [MToken.d_eq] at h
  simp only [D.ok, D.okL] at h
  exact h.2.2.1
theorem tok_bulk {x : MToken} (h : x.d.bulk ≤ 1048576) : x.text.size ≤ 1048576 := by
  rw [MToken.d_eq] at h
  simp only [D.bulk, D.bulkL] at h
  omega
set_option maxHeartbeats 2000000 in
theorem impl_FormatToken_any (x : MToken) (cx : List Value) (w : World) (rx : Rep w x.d cx) (hb : x.d.bulk ≤ 1048576) (ox : x.d.ok) (hm : TabOk w) (hM : MaxOk w) :
    Calls Tryz.prog 145 #[.agg cx.toArray] w fun e w' => e = .returned (.string (tokB x)) ∧ Ext w w' := by
  obtain rfl := MToken.op_en rx
  clear rx
  obtain ⟨o0, o1⟩ := tok_ok ox
  have ht := tok_bulk hb
  clear hb ox
  obtain ⟨K, t, num⟩ := x
  simp only at *
  have E1 : ∀ o : Obj, Ext w (w.alloc o) := fun o => (Ext.refl w).alloc _
  by_cases h3 : K = 3
  · subst h3
    have hp : Hid (tokB ⟨3, t, num⟩ = itoaB num) := Lib.hid (by simp [tokB])
    go_enter Tryz.func145, Tryz.ntmps145
    go_wp2_with fail
    refine (impl_FormatInt_any num _ o0 o1 (hm.ext (E1 _))).mono ?_
    rintro e w1 ⟨rfl, hx⟩
    go_wp2_with fail
    go_ret
    exact ⟨ret_str (by rw [hp.out]), (E1 _).trans hx⟩
  have e3 := int_ne h3
  by_cases h4 : K = 4
  · subst h4
    have hp : Hid (tokB ⟨4, t, num⟩ = quoteB t) := Lib.hid (by simp [tokB])
    have hsz : (⟨(subL 39 [39, 39] t.data.toList).toArray⟩ : ByteArray).size ≤ 2097152 := by
      have := subL_len 39 t.data.toList
      have e : t.data.toList.length = t.size := by simp
      simp only [ByteArray.size, List.size_toArray]
      omega
    have hcount := countB_le t 39
    obtain ⟨m, hm0⟩ := hM
    have hr : Hid (⟨(Lib.replaceAll t.data.toList (⟨#[39]⟩ : ByteArray).data.toList (⟨#[39, 39]⟩ : ByteArray).data.toList).toArray⟩ = (⟨(subL 39 [39, 39] t.data.toList).toArray⟩ : ByteArray)) := Lib.hid (by
      rw [show (⟨#[39]⟩ : ByteArray).data.toList = [39] from rfl, show (⟨#[39, 39]⟩ : ByteArray).data.toList = [39, 39] from rfl, replaceAll_sub])
    have hfin : Hid ((⟨#[39]⟩ : ByteArray) ++ (⟨(subL 39 [39, 39] t.data.toList).toArray⟩ : ByteArray) ++ ⟨#[39]⟩ = quoteB t) := Lib.hid (by apply ByteArray.ext; simp [quoteB])
    generalize hRR : (⟨(subL 39 [39, 39] t.data.toList).toArray⟩ : ByteArray) = R at *
    clear hRR
    go_enter Tryz.func145, Tryz.ntmps145
    go_wp2_with fail
    refine (Tryz.strings_ReplaceAll t ⟨#[39]⟩ ⟨#[39, 39]⟩ m _ (by omega) (Ext.cell (E1 _) hm0) (by decide) (by rw [show (⟨#[39, 39]⟩ : ByteArray).size = 2 from rfl]; omega)).mono ?_
    rw [hr.out]
    rintro e w1 ⟨rfl, hx⟩
    go_wp2_with fail
    go_ret
    exact ⟨ret_str (by rw [hp.out, ← hfin.out]), (E1 _).trans hx⟩
  have e4 := int_ne h4
  by_cases h5 : K = 5
  · subst h5
    have hp : Hid (tokB ⟨5, t, num⟩ = ⟨#[35]⟩ ++ t) := Lib.hid (by simp [tokB])
    go_enter Tryz.func145, Tryz.ntmps145
    go_wp2_with fail
    go_ret
    exact ⟨ret_str (by rw [hp.out]), E1 _⟩
  have e5 := int_ne h5
  have hp : Hid (tokB ⟨K, t, num⟩ = t) := Lib.hid (by simp [tokB, h3, h4, h5])
  clear h3 h4 h5
  go_enter Tryz.func145, Tryz.ntmps145
  go_wp2_with fail
  go_ret
  exact ⟨ret_str (by rw [hp.out]), E1 _⟩

set_option maxHeartbeats 2000000 in
theorem spec_FormatToken_any (x : MToken) (cx : List Value) (w : World) (rx : Rep w x.d cx) (hb : x.d.bulk ≤ 1048576) (ox : x.d.ok) :
    Calls Tryz.prog 133 #[.agg cx.toArray] w fun e w' => e = .returned (.string (tokB x)) ∧ Ext w w' := by
  obtain rfl := MToken.op_en rx
  clear rx
  obtain ⟨o0, o1⟩ := tok_ok ox
  have ht := tok_bulk hb
  clear hb ox
  obtain ⟨K, t, num⟩ := x
  simp only at *
  have E1 : ∀ o : Obj, Ext w (w.alloc o) := fun o => (Ext.refl w).alloc _
  by_cases h3 : K = 3
  · subst h3
    have hp : Hid (tokB ⟨3, t, num⟩ = itoaB num) := Lib.hid (by simp [tokB])
    go_enter Tryz.func133, Tryz.ntmps133
    go_wp2_with fail
    refine (spec_FormatInt_any num _ o0 o1).mono ?_
    rintro e w1 ⟨rfl, hx⟩
    go_wp2_with fail
    go_ret
    exact ⟨ret_str (by rw [hp.out]), (E1 _).trans hx⟩
  have e3 := int_ne h3
  by_cases h4 : K = 4
  rotate_left
  · have e4 := int_ne h4
    by_cases h5 : K = 5
    · subst h5
      have hp : Hid (tokB ⟨5, t, num⟩ = ⟨#[35]⟩ ++ t) := Lib.hid (by simp [tokB])
      go_enter Tryz.func133, Tryz.ntmps133
      go_wp2_with fail
      go_ret
      exact ⟨ret_str (by rw [hp.out]), E1 _⟩
    have e5 := int_ne h5
    have hp : Hid (tokB ⟨K, t, num⟩ = t) := Lib.hid (by simp [tokB, h3, h4, h5])
    clear h3 h4 h5
    go_enter Tryz.func133, Tryz.ntmps133
    go_wp2_with fail
    go_ret
    exact ⟨ret_str (by rw [hp.out]), E1 _⟩
  subst h4
  clear h3 e3
  have hp : Hid (tokB ⟨4, t, num⟩ = quoteB t) := Lib.hid (by simp [tokB])
  obtain ⟨i0, hi, hz0, hz1, hz2⟩ := info_parts u8Info
  obtain ⟨W1, hW1⟩ : ∃ W1, W1 = w.alloc (.cells #[.int .i64 4, .string t, .int .i64 num] 211) := ⟨_, rfl⟩
  have m1 : W1.cell? ⟨w.heap.size, 1, none⟩ = some (.string t) := by rw [hW1]; simp
  have x1 : Ext w W1 := by rw [hW1]; exact E1 _
  have hO : (W1.alloc (.cells #[.int .u8 39] 5)).ownsRow W1.heap.size 5 1 (.slice (some ⟨W1.heap.size, 0, none⟩) 1 1) 1 [.int .u8 39] := ⟨by simp, Or.inr ⟨W1.heap.size, 1, #[.int .u8 39], rfl, Nat.le_refl _, heap_alloc_new W1 _, Nat.le_refl _, by unfold maxLen; omega, rfl, rfl⟩⟩
  have hx0 : Ext W1 (W1.alloc (.cells #[.int .u8 39] 5)) := (Ext.refl W1).alloc _
  have HW := Lib.hid hW1
  have HZ : Hid (W1.heap.size = w.heap.size + 1) := Lib.hid (by rw [hW1]; simp)
  go_enter Tryz.func133, Tryz.ntmps133
  subst hW1
  go_wp2_with fail
  generalize hW1 : World.alloc w _ = W1 at *
  clear hW1 HW
  go_loopw [3, 4] (fun ov iv wr => ∃ (k : Nat) (L : List UInt8), iv = .int .i64 k ∧ k ≤ t.size ∧ L.length ≤ 2 * k + 1 ∧ (∃ b cap, ov = .slice (some ⟨b, 0, none⟩) L.length cap ∧ L.length ≤ cap) ∧ wr.ownsRow W1.heap.size 5 1 ov L.length (bytesC L) ∧ Ext W1 wr ∧ Hid (L = 39 :: subL 39 [39, 39] (t.data.toList.take k))) (fun _ iv _ => t.size - (intOf iv).toNat)
  case atStart => exact ⟨0, [39], rfl, Nat.zero_le _, by simp, ⟨w.heap.size + 1, 1, rfl, by simp⟩, by rw [← HZ.out]; exact hO, hx0, Lib.hid (by simp [subL])⟩
  case round =>
    obtain ⟨k, L, rfl, hk, hLn, ⟨b, cap, rfl, hcap⟩, hown, hx, hR⟩ := hrel
    clear hO hx0
    have hz := hx.size
    have mt := hx.cell m1
    have fin : ∀ (L2 : List UInt8) (wq : World) (b2 cap2 : Nat), wq.ownsRow W1.heap.size 5 1 (.slice (some ⟨b2, 0, none⟩) L2.length cap2) L2.length (bytesC L2) → (convert 281 9 (.slice (some ⟨b2, 0, none⟩) L2.length cap2)).run Tryz.prog wq = .ok (.string ⟨L2.toArray⟩) wq := fun L2 wq b2 cap2 ho => by
      have hnum : strOfNums (L2.map fun b => (b.toNat : Int)) = ⟨L2.toArray⟩ := by
        simp only [strOfNums, List.map_map]
        rw [show ((fun n : Int => UInt8.ofNat n.toNat) ∘ fun b : UInt8 => (b.toNat : Int)) = id from funext fun b => by simp, List.map_id]
      rw [← hnum]
      exact run_convert_bytes_arg (P := Tryz.prog) wq 281 5 Tryz.underlying281 Tryz.underlying5 b2 0 L2.length cap2 (L2.map fun b => (b.toNat : Int)) (by simp) (fun i hi => by
        have := ho.cells (g := b2) rfl i (.int .u8 (L2[i]).toNat) (by rw [bytesC, List.getElem?_map, List.getElem?_eq_getElem hi]; rfl)
        have ha : (⟨b2, 0, none⟩ : Addr).add i = ⟨b2, 0 + i, none⟩ := by unfold Addr.add; split <;> simp_all
        rw [ha] at this
        rw [this]; simp [hi]) 9 Tryz.underlying9
    have FIN := Lib.hid fin; clear fin
    by_cases hlt : k < t.size
    · obtain ⟨hb0, hb1⟩ := byte_bd t[k]
      have hts : t.data.toList.take (k + 1) = t.data.toList.take k ++ [t[k]] := by
        rw [List.take_succ_eq_append_getElem (by simpa using hlt)]; rfl
      have HTS := Lib.hid hts; clear hts
      by_cases hc : t[k] = 39
      · have t1 : ((t[k].toNat : Int) == 39) = true := int_eq (by rw [hc]; rfl)
        have HC := Lib.hid hc; clear hc
        go_wp2_with (at_builtin; refine wpList_append_own _ rfl _ _ 281 rfl W1.heap.size 5 i0 (.int .u8 0) 1 1 Tryz.underlying281 hi hz0 hz1 hz2 rfl (by decide) _ _ _ rfl (hown.alloc _) ⟨wr.heap.size, 0, none⟩ 1 1 [.int .u8 (39)] rfl rfl (cell_one_new _ _ _) (fun x hx => by simp at hx; subst hx; rfl) (by unfold maxLen; omega) (by omega) (by simp; omega) ?_)
        intro v1 w1 hown1 hg1 hn1
        have hx1 : Ext W1 w1 := own_grown (hown.alloc (.cells #[.int .u8 39] 5)) (hx.alloc _) hg1 (by simp; omega)
        obtain ⟨b1, cap1, rfl, hc1⟩ := own_some hown1 (by simpa using hn1)
        have mt1 := hx1.cell m1
        have hz1' := hx1.size
        clear hg1 hn1 hown mt hx
        go_wp2_with (at_builtin; refine wpList_append_own _ rfl _ _ 281 rfl W1.heap.size 5 i0 (.int .u8 0) 1 1 Tryz.underlying281 hi hz0 hz1 hz2 rfl (by decide) _ _ _ rfl (hown1.alloc _) ⟨w1.heap.size, 0, none⟩ 1 1 [.int .u8 ((t[k].toNat : Int))] rfl rfl (cell_one_new _ _ _) (fun x hx => by simp at hx; subst hx; rfl) (by unfold maxLen; omega) (by omega) (by simp; omega) ?_)
        intro v2 w2 hown2 hg2 hn2
        have hx2 : Ext W1 w2 := own_grown (hown1.alloc (.cells #[.int .u8 (t[k].toNat : Int)] 5)) (hx1.alloc _) hg2 (by simp; omega)
        obtain ⟨b2, cap2, rfl, hc2⟩ := own_some hown2 (by simpa using hn2)
        clear hg2 hn2 hown1 mt1 hx1
        go_wp2_with fail
        go_roundw
        case rel => exact ⟨k + 1, L ++ [39] ++ [t[k]], by go_num, by omega, by simp; omega, ⟨b2, cap2, by simp, by simp; omega⟩, by simpa [bytesC] using hown2, hx2, Lib.hid (by rw [HTS.out, subL_snoc, if_pos HC.out, hR.out, HC.out]; simp)⟩
        case measure => simp [intOf]; omega
      · have t1 : ((t[k].toNat : Int) == 39) = false := int_ne fun h => hc (UInt8.toNat_inj.1 (by rw [show (39 : UInt8).toNat = 39 from rfl]; omega))
        have HC := Lib.hid hc; clear hc
        go_wp2_with (at_builtin; refine wpList_append_own _ rfl _ _ 281 rfl W1.heap.size 5 i0 (.int .u8 0) 1 1 Tryz.underlying281 hi hz0 hz1 hz2 rfl (by decide) _ _ _ rfl (hown.alloc _) ⟨wr.heap.size, 0, none⟩ 1 1 [.int .u8 ((t[k].toNat : Int))] rfl rfl (cell_one_new _ _ _) (fun x hx => by simp at hx; subst hx; rfl) (by unfold maxLen; omega) (by omega) (by simp; omega) ?_)
        intro v2 w2 hown2 hg2 hn2
        have hx2 : Ext W1 w2 := own_grown (hown.alloc (.cells #[.int .u8 (t[k].toNat : Int)] 5)) (hx.alloc _) hg2 (by simp; omega)
        obtain ⟨b2, cap2, rfl, hc2⟩ := own_some hown2 (by simpa using hn2)
        clear hg2 hn2 hown mt hx
        go_wp2_with fail
        go_roundw
        case rel => exact ⟨k + 1, L ++ [t[k]], by go_num, by omega, by simp; omega, ⟨b2, cap2, by simp, by simp; omega⟩, by simpa [bytesC] using hown2, hx2, Lib.hid (by rw [HTS.out, subL_snoc, if_neg HC.out, hR.out]; simp)⟩
        case measure => simp [intOf]; omega
    · obtain rfl : k = t.size := by omega
      have hL2 : Hid ((⟨(L ++ [39]).toArray⟩ : ByteArray) = quoteB t) := Lib.hid (by
        have hful : t.data.toList.take t.size = t.data.toList := List.take_of_length_le (by simp)
        rw [hR.out, hful, quoteB]; simp)
      go_wp2_with (at_builtin; refine wpList_append_own _ rfl _ _ 281 rfl W1.heap.size 5 i0 (.int .u8 0) 1 1 Tryz.underlying281 hi hz0 hz1 hz2 rfl (by decide) _ _ _ rfl (hown.alloc _) ⟨wr.heap.size, 0, none⟩ 1 1 [.int .u8 (39)] rfl rfl (cell_one_new _ _ _) (fun x hx => by simp at hx; subst hx; rfl) (by unfold maxLen; omega) (by omega) (by simp; omega) ?_)
      intro v1 w1 hown1 hg1 hn1
      have hx1 : Ext W1 w1 := own_grown (hown.alloc (.cells #[.int .u8 39] 5)) (hx.alloc _) hg1 (by simp; omega)
      obtain ⟨b1, cap1, rfl, hc1⟩ := own_some hown1 (by simpa using hn1)
      have hcv := FIN.out (L ++ [39]) w1 b1 cap1 (by simpa [bytesC] using hown1)
      rw [hL2.out, List.length_append, List.length_singleton] at hcv
      clear hg1 hn1 hown1 hown mt
      go_wp2_with fail
      go_ret
      exact ⟨ret_str (by rw [hp.out]), x1.trans hx1⟩

end Go.Proofs.YticdmbmjlaomiaaGreatDoor
