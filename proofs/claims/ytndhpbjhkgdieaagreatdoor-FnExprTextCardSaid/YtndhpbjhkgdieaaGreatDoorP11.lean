/-
  CONTRACTS: parts of Tokens: texts in quotes, of the program and of the reference.
  Conditions: those that each lemma states.
-/
import Derived.Test.YtndhpbjhkgdieaaGreatDoorRows
import Derived.Laws.AppendOwn
import Derived.Test.YtndhpbjhkgdieaaGreatDoorP10
namespace Go.Proofs.YtndhpbjhkgdieaaGreatDoor
open Go.RowKit Go.Joins
set_option maxHeartbeats 8000000
set_option maxRecDepth 100000
set_option linter.unusedSimpArgs false
set_option linter.unusedVariables false
def quoL (acc : List UInt8) (n : Nat) : List UInt8 -> List UInt8 × Nat
 | [] => ([], 0)
 | [b] => if b = 39 then (acc, n + 1) else ([], 0)
 | b :: c :: t => if b = 39 then (if c = 39 then quoL (acc ++ [39]) (n + 2) t else (acc, n + 1)) else quoL (acc ++ [b]) (n + 1) (c :: t)
theorem quo_qq (acc : List UInt8) (n : Nat) (t : List UInt8) : quoL acc n (39 :: 39 :: t) = quoL (acc ++ [39]) (n + 2) t := by rw [quoL]; simp
theorem quo_one (acc : List UInt8) (n : Nat) : quoL acc n [39] = (acc, n + 1) := by rw [quoL]; simp
theorem quo_q (acc : List UInt8) (n : Nat) (c : UInt8) (t : List UInt8) (h : ¬ c = 39) : quoL acc n (39 :: c :: t) = (acc, n + 1) := by rw [quoL]; simp [h]
theorem quo_o (acc : List UInt8) (n : Nat) (b : UInt8) (t : List UInt8) (h : ¬ b = 39) : quoL acc n (b :: t) = quoL (acc ++ [b]) (n + 1) t := by
 cases t with
 | nil => simp [quoL, h]
 | cons c t => rw [quoL]; simp [h]
theorem quo_mem : ∀ (m : Nat) (l acc : List UInt8) (n : Nat), l.length <= m -> (quoL acc n l).2 ≠ 0 -> ∃ r, (quoL acc n l).1 = acc ++ r
 | 0, l, acc, n, h, h2 => by
  have : l = [] := List.length_eq_zero_iff.1 (by omega)
  subst this
  exact absurd rfl h2
 | m + 1, [], acc, n, h, h2 => absurd rfl h2
 | m + 1, [b], acc, n, h, h2 => by
  by_cases hb : b = 39
  · subst hb; rw [quo_one]; exact ⟨[], by simp⟩
  · simp [quoL, hb] at h2
 | m + 1, b :: c :: t, acc, n, h, h2 => by
  by_cases hb : b = 39
  · subst hb
    by_cases hc : c = 39
    · subst hc
      rw [quo_qq] at h2 ⊢
      obtain ⟨r, hr⟩ := quo_mem m t _ _ (by simp at h; omega) h2
      exact ⟨39 :: r, by rw [hr]; simp⟩
    · rw [quo_q _ _ _ _ hc]; exact ⟨[], by simp⟩
  · rw [quo_o _ _ _ _ hb] at h2 ⊢
    obtain ⟨r, hr⟩ := quo_mem m (c :: t) _ _ (by simp at h ⊢; omega) h2
    exact ⟨b :: r, by rw [hr]; simp⟩
noncomputable def quoT (l : List UInt8) : MToken × Nat :=
 if (quoL [] 1 (l.drop 1)).2 = 0 then noTok else if textB 40 (mkB (quoL [] 1 (l.drop 1)).1) = true then (⟨4, mkB (quoL [] 1 (l.drop 1)).1, 0⟩, (quoL [] 1 (l.drop 1)).2) else noTok
theorem own_conv {B : Nat} {L2 : List UInt8} {wq : World} {b2 cap2 : Nat} (ho : wq.ownsRow B 5 1 (.slice (some ⟨b2, 0, none⟩) L2.length cap2) L2.length (bytesC L2)) : (convert 22 9 (.slice (some ⟨b2, 0, none⟩) L2.length cap2)).run Tryz.prog wq = .ok (.string (mkB L2)) wq := by
 have hnum : strOfNums (L2.map fun b => (b.toNat : Int)) = mkB L2 := by
  simp only [strOfNums, List.map_map, mkB]
  rw [show ((fun n : Int => UInt8.ofNat n.toNat) ∘ fun b : UInt8 => (b.toNat : Int)) = id from funext fun b => by simp, List.map_id]
 rw [<- hnum]
 exact run_convert_bytes_arg (P := Tryz.prog) wq 22 5 Tryz.underlying22 Tryz.underlying5 b2 0 L2.length cap2 (L2.map fun b => (b.toNat : Int)) (by simp) (fun i hi => by
  have := ho.cells (g := b2) rfl i (.int .u8 (L2[i]).toNat) (by rw [bytesC, List.getElem?_map, List.getElem?_eq_getElem hi]; rfl)
  have ha : (⟨b2, 0, none⟩ : Addr).add i = ⟨b2, 0 + i, none⟩ := by unfold Addr.add; split <;> simp_all
  rw [ha] at this
  rw [this]; simp [hi]) 9 Tryz.underlying9
theorem drop_nil {s : ByteArray} {k : Nat} (h : ¬ k < s.size) : s.data.toList.drop k = [] := List.drop_eq_nil_of_le (by simp; have e : s.data.size = s.size := rfl; omega)
theorem quoted_any (s : ByteArray) (w : World) (hs : s.size <= 1048576) :
 Calls Tryz.prog 89 #[.string s] w fun e w' => e = .returned (.tuple #[.string (mkB (quoL [] 1 (s.data.toList.drop 1)).1), .int .i64 ((quoL [] 1 (s.data.toList.drop 1)).2 : Nat)]) /\ Ext w w' := by
 obtain ⟨Q, hQ⟩ : ∃ Q, Q = quoL [] 1 (s.data.toList.drop 1) := ⟨_, rfl⟩
 rw [<- hQ]
 have HQ := LH hQ; clear hQ
 obtain ⟨i0, hi, hz0, hz1, hz2⟩ := info_parts u8Info
 have hO : (w.alloc (.cells #[] 5)).ownsRow w.heap.size 5 1 (.slice (some ⟨w.heap.size, 0, none⟩) 0 0) 0 [] := ⟨by simp, Or.inr ⟨w.heap.size, 0, #[], rfl, Nat.le_refl _, heap_alloc_new w _, by simp, by simp, by simp, by simp⟩⟩
 go_enter Tryz.func89, Tryz.ntmps89
 go_wp2_with fail
 go_loopw [4, 5] (fun ov iv wr => ∃ (k : Nat) (L : List UInt8), iv = .int .i64 k /\ k <= s.size + 1 /\ L.length <= k /\ (∃ b cap, ov = .slice (some ⟨b, 0, none⟩) L.length cap /\ L.length <= cap) /\ wr.ownsRow w.heap.size 5 1 ov L.length (bytesC L) /\ Ext w wr /\ Hid (Q = quoL L k (s.data.toList.drop k))) (fun _ iv _ => s.size + 1 - (intOf iv).toNat)
 case atStart => exact ⟨1, [], rfl, by omega, by simp, ⟨w.heap.size, 0, rfl, by simp⟩, hO, (XR w).alloc _, HQ⟩
 case round =>
  obtain ⟨k, L, rfl, hk, hLn, ⟨b, cap, rfl, hcap⟩, hown, hx, hR⟩ := hrel
  clear hO HQ
  have hz := hx.size
  by_cases hlt : k < s.size
  rotate_left
  · have hN : Hid (Q = ([], 0)) := LH (by rw [hR.out, drop_nil hlt]; rfl)
    go_wp2_with fail
    go_ret2
    exact ⟨by rw [hN.out]; rfl, hx⟩
  obtain ⟨hb0, hb1⟩ := byte_bd s[k]
  have HD : Hid (s.data.toList.drop k = s[k] :: s.data.toList.drop (k + 1)) := LH (drop_cons hlt)
  by_cases hc : s[k] = 39
  rotate_left
  · have t1 := u8_ne (n := 39) 39 rfl hc
    have HC := LH hc; clear hc
    go_wp2_with (at_builtin; refine wpList_append_own _ rfl _ _ 22 rfl w.heap.size 5 i0 (.int .u8 0) 1 1 Tryz.underlying22 hi hz0 hz1 hz2 rfl (by decide) _ _ _ rfl (hown.alloc _) ⟨wr.heap.size, 0, none⟩ 1 1 [.int .u8 ((s[k].toNat : Int))] rfl rfl (cell_one_new _ _ _) (fun x hx => by simp at hx; subst hx; rfl) (by unfold maxLen; omega) (by omega) (by simp; omega) ?_)
    intro v2 w2 hown2 hg2 hn2
    have hx2 : Ext w w2 := own_grown (hown.alloc (.cells #[.int .u8 ((s[k].toNat : Int))] 5)) (hx.alloc _) hg2 (by simp; omega)
    obtain ⟨b2, cap2, rfl, hc2⟩ := own_some hown2 (by simpa using hn2)
    clear hg2 hn2 hown hx
    go_wp2_with fail
    go_roundw
    case rel => exact ⟨k + 1, L ++ [s[k]], by go_num, by omega, by simp; omega, ⟨b2, cap2, by simp, by simp; omega⟩, by simpa [bytesC] using hown2, hx2, LH (by rw [hR.out, HD.out, quo_o _ _ _ _ HC.out])⟩
    case measure => simp [intOf]; omega
  have t1 := u8_eq (n := 39) 39 rfl hc
  by_cases hl2 : k + 1 < s.size
  rotate_left
  · have q2 : ¬ (k : Int) + 1 < (s.size : Int) := by omega
    have hN : Hid (Q = (L, k + 1)) := LH (by rw [hR.out, HD.out, hc, drop_nil hl2, quo_one])
    have HC := LH hc; clear hc
    have hcv := own_conv hown
    clear hown
    go_wp2_with fail
    go_ret2
    exact ⟨by rw [hN.out]; rfl, hx⟩
  have q2 : (k : Int) + 1 < (s.size : Int) := by omega
  have HD2 : Hid (s.data.toList.drop (k + 1) = s[k + 1] :: s.data.toList.drop (k + 2)) := LH (drop_cons hl2)
  obtain ⟨hb2, hb3⟩ := byte_bd s[k + 1]
  by_cases hc2 : s[k + 1] = 39
  · have t2 := u8_eq (n := 39) 39 rfl hc2
    have HN : Hid (Q = quoL (L ++ [39]) (k + 2) (s.data.toList.drop (k + 2))) := LH (by rw [hR.out, HD.out, HD2.out, hc, hc2, quo_qq])
    clear hc hc2
    go_wp2_with (at_builtin; refine wpList_append_own _ rfl _ _ 22 rfl w.heap.size 5 i0 (.int .u8 0) 1 1 Tryz.underlying22 hi hz0 hz1 hz2 rfl (by decide) _ _ _ rfl (hown.alloc _) ⟨wr.heap.size, 0, none⟩ 1 1 [.int .u8 (39)] rfl rfl (cell_one_new _ _ _) (fun x hx => by simp at hx; subst hx; rfl) (by unfold maxLen; omega) (by omega) (by simp; omega) ?_)
    intro v2 w2 hown2 hg2 hn2
    have hx2 : Ext w w2 := own_grown (hown.alloc (.cells #[.int .u8 (39)] 5)) (hx.alloc _) hg2 (by simp; omega)
    obtain ⟨b2, cap2, rfl, hc2⟩ := own_some hown2 (by simpa using hn2)
    clear hg2 hn2 hown hx
    go_wp2_with fail
    go_roundw
    case rel => exact ⟨k + 2, L ++ [39], by go_num, by omega, by simp; omega, ⟨b2, cap2, by simp, by simp; omega⟩, by simpa [bytesC] using hown2, hx2, HN⟩
    case measure => simp [intOf]; omega
  · have t2 := u8_ne (n := 39) 39 rfl hc2
    have hN : Hid (Q = (L, k + 1)) := LH (by rw [hR.out, HD.out, HD2.out, hc, quo_q _ _ _ _ hc2])
    clear hc hc2
    have hcv := own_conv hown
    clear hown
    go_wp2_with fail
    go_ret2
    exact ⟨by rw [hN.out]; rfl, hx⟩
theorem quo_bad {l acc : List UInt8} {n : Nat} {b : UInt8} {L : List UInt8} (hQ : quoL [] 1 (L.drop 1) = quoL acc n l) (hm : b ∈ acc) (hb : ¬ (32 <= b.toNat /\ b.toNat <= 126)) : quoT L = noTok := by
 unfold quoT
 rw [hQ]
 by_cases h0 : (quoL acc n l).2 = 0
 · rw [if_pos h0]
 · obtain ⟨r, hr⟩ := quo_mem _ l acc n (Nat.le_refl _) h0
   rw [if_neg h0, if_neg]
   rw [textB_ff fun h => hb (h.1 b (by rw [data_mkB, hr]; exact List.mem_append_left _ hm))]
   exact Bool.false_ne_true
theorem l2Quoted_any (s : ByteArray) (at' : Nat) (w : World) (hs : s.size <= 1048576) (hat : at' < s.size) :
 Calls Tryz.prog 53 #[.string s, .int .i64 at'] w fun e w' => e = .returned (.tuple #[tokVal (quoT (s.data.toList.drop at')).1, .int .i64 (endV at' (quoT (s.data.toList.drop at')).2)]) /\ Ext w w' := by
 obtain ⟨i0, hi, hz0, hz1, hz2⟩ := info_parts u8Info
 have HO : Hid (∀ W1 : World, (W1.alloc (.cells #[] 5)).ownsRow W1.heap.size 5 1 (.slice (some ⟨W1.heap.size, 0, none⟩) 0 0) 0 []) := LH fun W1 => ⟨by simp, Or.inr ⟨W1.heap.size, 0, #[], rfl, Nat.le_refl _, heap_alloc_new W1 _, by simp, by simp, by simp, by simp⟩⟩
 go_enter Tryz.func53, Tryz.ntmps53
 go_wp2_with fail
 generalize hW : World.alloc w _ = W1
 have x1 : Ext w W1 := by rw [<- hW]; exact (XR w).alloc _
 have r0 : W1.cell? ⟨w.heap.size, 0, none⟩ = some (.int .i64 0) := by rw [<- hW]; simp
 have r1 : W1.cell? ⟨w.heap.size, 1, none⟩ = some (.string ⟨#[]⟩) := by rw [<- hW]; simp
 have r2 : W1.cell? ⟨w.heap.size, 2, none⟩ = some (.int .i64 0) := by rw [<- hW]; simp
 have f0 : ∀ o, W1.frozen? ⟨w.heap.size, o, none⟩ = false := fun o => by rw [<- hW]; simp
 have hzz : W1.heap.size = w.heap.size + 1 := by rw [<- hW]; simp
 clear hW
 have zz : w.heap.size < W1.heap.size := by omega
 have hO := HO.out W1; clear HO
 have G0 := LH r0; have G1 := LH r1; have G2 := LH r2; have GF := LH f0
 clear r0 r1 r2 f0
 have HZ := LH hzz; clear hzz
 go_loopw [6, 7] (fun ov iv wr => ∃ (i : Nat) (L : List UInt8), iv = .int .i64 ((at' + i : Nat) : Int) /\ at' + i <= s.size /\ 1 <= i /\ L.length <= i /\ (∃ b cap, ov = .slice (some ⟨b, 0, none⟩) L.length cap /\ L.length <= cap) /\ wr.ownsRow W1.heap.size 5 1 ov L.length (bytesC L) /\ Ext W1 wr /\ Hid (quoL [] 1 ((s.data.toList.drop at').drop 1) = quoL L i (s.data.toList.drop (at' + i))) /\ Hid (∀ b, b ∈ L -> 32 <= b.toNat /\ b.toNat <= 126)) (fun _ iv _ => s.size - (intOf iv).toNat)
 case atStart => exact ⟨1, [], by go_num, by omega, Nat.le_refl _, by simp, ⟨W1.heap.size, 0, by first | rfl | (rw [HZ.out]; rfl), by simp⟩, by first | exact hO | (rw [<- HZ.out]; exact hO), (XR W1).alloc _, LH (by rw [List.drop_drop]), LH (by simp)⟩
 case round =>
  obtain ⟨i, L, rfl, hk, hi1, hLn, ⟨b, cap, rfl, hcap⟩, hown, hx, hR, HB⟩ := hrel
  clear hO
  have hz := hx.size
  have R0 := Ext.cell hx G0.out
  have R1 := Ext.cell hx G1.out
  have R2 := Ext.cell hx G2.out
  have F0 := fun o => ((bcell hx).2 w.heap.size o zz).trans (GF.out o)
  by_cases hlt : at' + i < s.size
  rotate_left
  · have hN : Hid (quoT (s.data.toList.drop at') = noTok) := LH (by rw [quoT, hR.out, drop_nil hlt]; rfl)
    go_wp2_with fail
    refine bodyPost_ret (v := .tuple #[.agg #[.int .i64 0, .string ⟨#[]⟩, .int .i64 0], .int .i64 0]) (by simp [results, Tryz.results53, go_sem, R0, R1, R2, F0]) rfl ⟨?_, ?_⟩
    · rw [hN.out]; rfl
    · (repeat refine Ext.setCell ?_ (by omega) _)
      exact x1.trans hx
  obtain ⟨hb0, hb1⟩ := byte_bd s[at' + i]
  have HD : Hid (s.data.toList.drop (at' + i) = s[at' + i] :: s.data.toList.drop (at' + i + 1)) := LH (drop_cons hlt)
  by_cases hc : s[at' + i] = 39
  rotate_left
  · have t1 := u8_ne (n := 39) 39 rfl hc
    have HN : Hid (quoL [] 1 ((s.data.toList.drop at').drop 1) = quoL (L ++ [s[at' + i]]) (i + 1) (s.data.toList.drop (at' + (i + 1)))) := LH (by rw [hR.out, HD.out, quo_o _ _ _ _ hc, Nat.add_assoc])
    clear hc
    by_cases hbd : 32 <= s[at' + i].toNat /\ s[at' + i].toNat <= 126
    rotate_left
    · have HM : Hid (quoT (s.data.toList.drop at') = noTok) := LH (quo_bad HN.out (b := s[at' + i]) (by simp) hbd)
      by_cases hw : (32 : Int) <= (s[at' + i].toNat : Int)
      · have hv : (126 : Int) < (s[at' + i].toNat : Int) := by omega
        have HBD := LH hbd; clear hbd
        have hN : Hid (quoT (s.data.toList.drop at') = noTok) := LH (by exact HM.out)
        go_wp2_with fail
        refine bodyPost_ret (v := .tuple #[.agg #[.int .i64 0, .string ⟨#[]⟩, .int .i64 0], .int .i64 0]) (by simp [results, Tryz.results53, go_sem, R0, R1, R2, F0]) rfl ⟨?_, ?_⟩
        · rw [hN.out]; rfl
        · (repeat refine Ext.setCell ?_ (by omega) _)
          exact x1.trans hx
      · have hv : (s[at' + i].toNat : Int) < 32 := by omega
        have HBD := LH hbd; clear hbd hw
        have hN : Hid (quoT (s.data.toList.drop at') = noTok) := LH (by exact HM.out)
        go_wp2_with fail
        refine bodyPost_ret (v := .tuple #[.agg #[.int .i64 0, .string ⟨#[]⟩, .int .i64 0], .int .i64 0]) (by simp [results, Tryz.results53, go_sem, R0, R1, R2, F0]) rfl ⟨?_, ?_⟩
        · rw [hN.out]; rfl
        · (repeat refine Ext.setCell ?_ (by omega) _)
          exact x1.trans hx
    obtain ⟨hw, hv⟩ := hbd
    have hw : (32 : Int) <= (s[at' + i].toNat : Int) := by omega
    have hv : (s[at' + i].toNat : Int) <= 126 := by omega
    have HBB : Hid (∀ b, b ∈ L ++ [s[at' + i]] -> 32 <= b.toNat /\ b.toNat <= 126) := LH fun b hb => by
     rcases List.mem_append.1 hb with hb | hb
     · exact HB.out b hb
     · rw [List.mem_singleton.1 hb]; omega
    clear R0 R1 R2 F0
    go_wp2_with (at_builtin; refine wpList_append_own _ rfl _ _ 22 rfl W1.heap.size 5 i0 (.int .u8 0) 1 1 Tryz.underlying22 hi hz0 hz1 hz2 rfl (by decide) _ _ _ rfl (hown.alloc _) ⟨wr.heap.size, 0, none⟩ 1 1 [.int .u8 ((s[at' + i].toNat : Int))] rfl rfl (cell_one_new _ _ _) (fun x hx => by simp at hx; subst hx; rfl) (by unfold maxLen; omega) (by omega) (by simp; omega) ?_)
    intro v2 w2 hown2 hg2 hn2
    have hx2 : Ext W1 w2 := own_grown (hown.alloc (.cells #[.int .u8 ((s[at' + i].toNat : Int))] 5)) (hx.alloc _) hg2 (by simp; omega)
    obtain ⟨b2, cap2, rfl, hc2⟩ := own_some hown2 (by simpa using hn2)
    clear hg2 hn2 hown hx
    go_wp2_with fail
    go_roundw
    case rel => exact ⟨i + 1, L ++ [s[at' + i]], by go_num, by omega, by omega, by simp; omega, ⟨b2, cap2, by simp, by simp; omega⟩, by simpa [bytesC] using hown2, hx2, HN, HBB⟩
    case measure => simp [intOf]; omega
  have t1 := u8_eq (n := 39) 39 rfl hc
  by_cases hl2 : at' + i + 1 < s.size
  rotate_left
  · have q2 : ¬ ((at' + i : Nat) : Int) + 1 < (s.size : Int) := by omega
    have hN0 : Hid (quoL [] 1 ((s.data.toList.drop at').drop 1) = (L, i + 1)) := LH (by rw [hR.out, HD.out, hc, drop_nil hl2, quo_one])
    have HC := LH hc; clear hc
    by_cases h40 : L.length <= 40
    · have hN : Hid (quoT (s.data.toList.drop at') = (⟨4, mkB L, 0⟩, i + 1)) := LH (by
       have hq : quoL [] 1 ((s.data.toList.drop at').drop 1) = (L, i + 1) := by exact hN0.out
       rw [quoT, hq, if_neg (by simp), if_pos (textB_tt ⟨by rw [data_mkB]; exact HB.out, by rw [mkB_size]; omega⟩)])
      have t9 : ¬ (40 : Int) < (L.length : Int) := by omega
      have hcv := own_conv hown
      clear hown
      go_wp2_with fail
      refine bodyPost_ret (v := .tuple #[.agg #[.int .i64 4, .string (mkB L), .int .i64 0], .int .i64 ((at' + i : Nat) + 1)]) (by simp [results, Tryz.results53, go_sem, R0, R1, R2, F0]) rfl ⟨?_, ?_⟩
      · rw [hN.out]
        simp only [tokVal, endV]
        rw [if_neg (by omega), show ((at' + (i + 1) : Nat) : Int) = (at' + i : Nat) + 1 from by omega]
      · (repeat refine Ext.setCell ?_ (by omega) _)
        exact x1.trans hx
    · have hN : Hid (quoT (s.data.toList.drop at') = noTok) := LH (by
       have hq : quoL [] 1 ((s.data.toList.drop at').drop 1) = (L, i + 1) := by exact hN0.out
       rw [quoT, hq, if_neg (by simp), if_neg (by rw [textB_ff fun h => by have := h.2; rw [mkB_size] at this; have h9 : L.length <= 40 := this; omega]; exact Bool.false_ne_true)])
      have t9 : (40 : Int) < (L.length : Int) := by omega
      go_wp2_with fail
      refine bodyPost_ret (v := .tuple #[.agg #[.int .i64 0, .string ⟨#[]⟩, .int .i64 0], .int .i64 0]) (by simp [results, Tryz.results53, go_sem, R0, R1, R2, F0]) rfl ⟨?_, ?_⟩
      · rw [hN.out]; rfl
      · (repeat refine Ext.setCell ?_ (by omega) _)
        exact x1.trans hx
  have q2 : ((at' + i : Nat) : Int) + 1 < (s.size : Int) := by omega
  have HD2 : Hid (s.data.toList.drop (at' + i + 1) = s[at' + i + 1] :: s.data.toList.drop (at' + i + 2)) := LH (drop_cons hl2)
  obtain ⟨hb2, hb3⟩ := byte_bd s[at' + i + 1]
  by_cases hc2 : s[at' + i + 1] = 39
  · have t2 := u8_eq (n := 39) 39 rfl hc2
    have HN : Hid (quoL [] 1 ((s.data.toList.drop at').drop 1) = quoL (L ++ [s[at' + i + 1]]) (i + 2) (s.data.toList.drop (at' + (i + 2)))) := LH (by rw [hR.out, HD.out, HD2.out, hc, hc2, quo_qq, Nat.add_assoc])
    have HBB : Hid (∀ b, b ∈ L ++ [s[at' + i + 1]] -> 32 <= b.toNat /\ b.toNat <= 126) := LH fun b hb => by
     rcases List.mem_append.1 hb with hb | hb
     · exact HB.out b hb
     · rw [List.mem_singleton.1 hb, hc2]; decide
    have hw : (32 : Int) <= (s[at' + i + 1].toNat : Int) := by rw [hc2]; decide
    have hv : (s[at' + i + 1].toNat : Int) <= 126 := by rw [hc2]; decide
    clear hc hc2 R0 R1 R2 F0
    go_wp2_with (at_builtin; refine wpList_append_own _ rfl _ _ 22 rfl W1.heap.size 5 i0 (.int .u8 0) 1 1 Tryz.underlying22 hi hz0 hz1 hz2 rfl (by decide) _ _ _ rfl (hown.alloc _) ⟨wr.heap.size, 0, none⟩ 1 1 [.int .u8 ((s[at' + i + 1].toNat : Int))] rfl rfl (cell_one_new _ _ _) (fun x hx => by simp at hx; subst hx; rfl) (by unfold maxLen; omega) (by omega) (by simp; omega) ?_)
    intro v2 w2 hown2 hg2 hn2
    have hx2 : Ext W1 w2 := own_grown (hown.alloc (.cells #[.int .u8 ((s[at' + i + 1].toNat : Int))] 5)) (hx.alloc _) hg2 (by simp; omega)
    obtain ⟨b2, cap2, rfl, hc2⟩ := own_some hown2 (by simpa using hn2)
    clear hg2 hn2 hown hx
    go_wp2_with fail
    go_roundw
    case rel => exact ⟨i + 2, L ++ [s[at' + i + 1]], by go_num, by omega, by omega, by simp; omega, ⟨b2, cap2, by simp, by simp; omega⟩, by simpa [bytesC] using hown2, hx2, HN, HBB⟩
    case measure => simp [intOf]; omega
  · have t2 := u8_ne (n := 39) 39 rfl hc2
    have hN0 : Hid (quoL [] 1 ((s.data.toList.drop at').drop 1) = (L, i + 1)) := LH (by rw [hR.out, HD.out, HD2.out, hc, quo_q _ _ _ _ hc2])
    clear hc hc2
    by_cases h40 : L.length <= 40
    · have hN : Hid (quoT (s.data.toList.drop at') = (⟨4, mkB L, 0⟩, i + 1)) := LH (by
       have hq : quoL [] 1 ((s.data.toList.drop at').drop 1) = (L, i + 1) := by exact hN0.out
       rw [quoT, hq, if_neg (by simp), if_pos (textB_tt ⟨by rw [data_mkB]; exact HB.out, by rw [mkB_size]; omega⟩)])
      have t9 : ¬ (40 : Int) < (L.length : Int) := by omega
      have hcv := own_conv hown
      clear hown
      go_wp2_with fail
      refine bodyPost_ret (v := .tuple #[.agg #[.int .i64 4, .string (mkB L), .int .i64 0], .int .i64 ((at' + i : Nat) + 1)]) (by simp [results, Tryz.results53, go_sem, R0, R1, R2, F0]) rfl ⟨?_, ?_⟩
      · rw [hN.out]
        simp only [tokVal, endV]
        rw [if_neg (by omega), show ((at' + (i + 1) : Nat) : Int) = (at' + i : Nat) + 1 from by omega]
      · (repeat refine Ext.setCell ?_ (by omega) _)
        exact x1.trans hx
    · have hN : Hid (quoT (s.data.toList.drop at') = noTok) := LH (by
       have hq : quoL [] 1 ((s.data.toList.drop at').drop 1) = (L, i + 1) := by exact hN0.out
       rw [quoT, hq, if_neg (by simp), if_neg (by rw [textB_ff fun h => by have := h.2; rw [mkB_size] at this; have h9 : L.length <= 40 := this; omega]; exact Bool.false_ne_true)])
      have t9 : (40 : Int) < (L.length : Int) := by omega
      go_wp2_with fail
      refine bodyPost_ret (v := .tuple #[.agg #[.int .i64 0, .string ⟨#[]⟩, .int .i64 0], .int .i64 0]) (by simp [results, Tryz.results53, go_sem, R0, R1, R2, F0]) rfl ⟨?_, ?_⟩
      · rw [hN.out]; rfl
      · (repeat refine Ext.setCell ?_ (by omega) _)
        exact x1.trans hx
end Go.Proofs.YtndhpbjhkgdieaaGreatDoor
