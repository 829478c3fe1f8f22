/-
  CONTRACTS: the marks of the laws.
  Conditions: those that each lemma states.
-/
import Derived.Test.YtlaclfeljimffaaGreatDoorP11
namespace Go.Proofs.YtlaclfeljimffaaGreatDoor
open Go.RowKit
set_option maxHeartbeats 8000000
set_option maxRecDepth 100000
set_option linter.unusedSimpArgs false
set_option linter.unusedVariables false
theorem D.cntL_strs : ∀ l : List ByteArray, D.cntL (l.map .str) = l.length
 | [] => rfl
 | x :: l => by simp [D.cntL, D.cnt, D.cntL_strs l]; omega
theorem mkL_strs (l : List ByteArray) (k : Int) : mkL k (l.map .str) = (markL k l.length).map .str := by
 apply List.ext_getElem?
 intro i
 by_cases h : i < l.length
 · rw [mkL_get k _ i (.str l[i]) (by simp [h]), List.getElem?_map, markL_get k _ i h, <- List.map_take, D.cntL_strs, List.length_take, Nat.min_eq_left (by omega)]
   rfl
 · rw [List.getElem?_eq_none (by rw [mkL_length]; simp; omega), List.getElem?_eq_none (by simp [markL_length]; omega)]
theorem cnt_strs (l : List ByteArray) : (strs l).cnt <= 10 * (strs l).bulk := by
 simp only [strs, D.cnt, D.cntL_strs, D.bulk, List.length_map]; omega
theorem cnt_sl {sz : Nat} : ∀ (xs : List D), (∀ d, d ∈ xs -> d.cnt <= 10 + 10 * d.bulk) -> (D.sl sz xs).cnt <= 10 * (D.sl sz xs).bulk
 | [], _ => by simp [D.cnt, D.cntL]
 | d :: xs, h => by
  have h1 := cnt_sl (sz := sz) xs fun e he => h e (List.mem_cons_of_mem _ he)
  have h2 := h d List.mem_cons_self
  simp only [D.cnt, D.cntL, D.bulk, D.bulkL, List.length_cons] at *
  omega
theorem markStrings_p (l : List ByteArray) : ∀ (v : Value) (fp : List Nat) (B0 : Nat) (k0 : Int) (w : World), RepF w (strs l) [v] fp -> Fresh w B0 fp -> 0 <= k0 -> k0 + (strs l).cnt <= 1099511627776 -> Calls Tryz.prog 60 #[v, .int .i64 k0] w (MarkP w (mkD k0 (strs l)) [v] fp B0 (k0 + (strs l).cnt)) := by
 intro v fp B0 k0 w hr hF h0 h1
 have e1 : (strs l).cnt = l.length := by simp [strs, D.cnt, D.cntL_strs]
 have e2 : mkD k0 (strs l) = strs (markL k0 l.length) := by simp [strs, mkD, mkL_strs]
 rw [e1] at h1 ⊢
 rw [e2]
 exact (markStringS_any l v fp k0 w hr hF.own h0 h1).mono fun e w' ⟨he, hr', ho, hT⟩ => ⟨he, hr', ⟨hF.nodup, hF.ge, ho⟩, hT⟩
theorem MClassInfo.op_f {w : World} {x : MClassInfo} {cs : List Value} {fp : List Nat} (h : RepF w x.d cs fp) : ∃ (a0 : Option Addr) (c0 : Nat) (f0 : List Nat), cs = [.string x.name, .int .i64 x.parent, .slice a0 x.fields.length c0] /\ fp = f0 /\ RepF w (strs x.fields) [.slice a0 x.fields.length c0] f0 := by
 rw [MClassInfo.d_eq] at h
 have h1 := RepF.un_st h
 obtain ⟨_, rfl, h2⟩ := RepS.un_str h1
 obtain ⟨_, rfl, h3⟩ := RepS.un_int h2
 obtain ⟨a5, c6, _, f7, g8, rfl, rfl, s9, h4⟩ := RepS.un_sl h3
 simp only [RepS] at h4
 obtain ⟨rfl, rfl⟩ := h4
 simp only [strs, ints,  List.length_map] at *
 exact ⟨a5, c6, f7, rfl, by simp, s9⟩
theorem MClassInfo.cnt_eq (x : MClassInfo) : x.d.cnt = 2 + (strs x.fields).cnt := by
 simp only [MClassInfo.d_eq, D.cnt, D.cntL]; try omega
theorem MClassInfo.mk_eq (x : MClassInfo) (K : Int) : mkD K x.d = .st [.str (mtext (K)), .int (K + 1), mkD (K + 2) (strs x.fields)] := by
 simp only [MClassInfo.d_eq, mkD, mkL, D.cnt]
 simp [Int.add_assoc]
theorem MClassInfo.mk_shut {w : World} {x : MClassInfo} {K : Int} {v0 : Value} {f0 : List Nat} (h0 : RepF w (mkD (K + 2) (strs x.fields)) [v0] f0) : RepF w (mkD K x.d) [.string (mtext (K)), .int .i64 (K + 1), v0] (f0) := by
 rw [MClassInfo.mk_eq]
 have := RepF.st (RepS.str (mtext K) (RepS.int (K + 1) (RepS.one h0 (RepS.nil w))))
 simpa using this
theorem MClassInfo.cnt_le (x : MClassInfo) : x.d.cnt <= 10 + 10 * x.d.bulk := by
 rw [MClassInfo.cnt_eq]
 have hb : x.d.bulk = (strs x.fields).bulk + x.name.size := by simp only [MClassInfo.d_eq, D.bulk, D.bulkL]; try omega
 have h0 := cnt_strs x.fields
 omega
theorem markClassInfoS_any (l : List MClassInfo) : ∀ (v : Value) (fp : List Nat) (B0 : Nat) (k0 : Int) (w : World), RepF w (MClassInfos l) [v] fp -> Fresh w B0 fp -> 0 <= k0 -> k0 + (MClassInfos l).cnt <= 1099511627776 -> Calls Tryz.prog 30 #[v, .int .i64 k0] w (MarkP w (mkD k0 (MClassInfos l)) [v] fp B0 (k0 + (MClassInfos l).cnt)) := by
 intro v fp B0 k0 w hr hF h0 h1
 by_cases hne : l = []
 · subst hne
   obtain ⟨ao, cap, hv, hl, hm, hnn, h⟩ := RepF.sl_iff.1 hr
   simp only [List.cons.injEq, and_true, List.map_nil, List.length_nil] at hv hl
   subst hv
   go_enter Tryz.func30, Tryz.ntmps30
   go_wp2_with fail
   refine wp_loop_rounds 1 ?_
   rw [rounds_succ]
   go_wp2_with fail
   go_ret
   exact ⟨ret_int (by simp [MClassInfos, D.cnt, D.cntL]), hr, hF, Touch.of_ext (XR _) _⟩
 obtain ⟨b, o, cap, e, C, fp', rfl, hl, hm, rfl, hR0⟩ := RowIs.start hr hF (by simpa using hne)
 have hpos : 0 < l.length := by cases l with | nil => exact absurd rfl hne | cons _ _ => simp
 simp only [List.length_map] at hl
 clear hne
 have HM := LH hm
 unfold maxLen at hm
 have HR := LH hr
 have HR0 : Hid (RowIs w b o e C 3 (mkL k0 ((l.take 0).map MClassInfo.d) ++ (l.drop 0).map MClassInfo.d) fp' B0) := LH (by simpa [mkL] using hR0)
 have HB := LH h1
 clear hr hF hR0 h1
 rw [List.length_map]
 go_enter Tryz.func30, Tryz.ntmps30
 go_wp2_with fail
 go_loopw [1, 5] (fun kv iv wr => ∃ (i : Nat) (C' : Array Value), i <= l.length /\ iv = .int .i64 i /\ kv = .int .i64 (k0 + (D.cntL ((l.take i).map MClassInfo.d) : Int)) /\ Hid (RowIs wr b o e C' 3 (mkL k0 ((l.take i).map MClassInfo.d) ++ (l.drop i).map MClassInfo.d) fp' B0) /\ Touch w wr (b :: fp')) (fun _ iv _ => l.length - (intOf iv).toNat)
 case atStart => exact ⟨0, C, Nat.zero_le _, rfl, by simp [D.cntL], HR0, Touch.of_ext (XR _) _⟩
 case round =>
  obtain ⟨i, C', hi, rfl, rfl, hR, hT⟩ := hrel
  by_cases hlt : i < l.length
  rotate_left
  · obtain rfl : i = l.length := by omega
    have hD := RowIs.done (n := l.length) hR.out (by simp [mkL_length]) hl HM.out hpos
    have e1 : mkL k0 ((l.take l.length).map MClassInfo.d) ++ (l.drop l.length).map MClassInfo.d = mkL k0 (l.map MClassInfo.d) := by simp
    rw [e1] at hD
    have HD : Hid (MarkP w (mkD k0 (MClassInfos l)) [.slice (some ⟨b, o, none⟩) l.length cap] (b :: fp') B0 (k0 + (MClassInfos l).cnt) (.returned (.int .i64 (k0 + (D.cntL ((l.take l.length).map MClassInfo.d) : Int)))) wr) := LH ⟨by rw [List.take_length]; rfl, hD.1, hD.2, hT⟩
    clear hD e1
    go_wp2_with fail
    go_ret
    exact HD.out
  obtain ⟨x, hx⟩ : ∃ x, l[i]? = some x := ⟨l[i], by simp [hlt]⟩
  obtain ⟨ci, fi, he, hFi, hbi, hcl, hci, hsub, hback⟩ := hR.out.elem hx (by decide)
  obtain ⟨hc1, hc2⟩ := cnt_at (f := MClassInfo.d) hx
  have hc3 := MClassInfo.cnt_eq x
  obtain ⟨a0, c0, f0, rfl, rfl, s0⟩ := MClassInfo.op_f he
  obtain ⟨K, hKe⟩ : ∃ K : Int, k0 + (D.cntL ((l.take i).map MClassInfo.d) : Int) = K := ⟨_, rfl⟩
  rw [hKe] at hback ⊢
  have hK0 : 0 <= K := by omega
  have hcb : K + 2 + ((strs x.fields).cnt : Int) <= 1099511627776 := by have := HB.out; simp only [MClassInfos, D.cnt] at this; omega
  have HNX : Hid (k0 + (D.cntL ((l.take (i + 1)).map MClassInfo.d) : Int) = K + 2 + ((strs x.fields).cnt : Int)) := LH (by rw [hc1, <- hKe, hc3]; push_cast; omega)
  have hsz : o + i * 3 + 2 < C'.size := (Array.getElem?_eq_some_iff.1 (hci 2 _ rfl)).1
  have hO0 := hR.out.1
  have q0 : C'[o + i * 3 + 2]? = some (.slice a0 x.fields.length c0) := hci 2 _ rfl
  have HBK := LH hback
  have HFI := LH hFi
  have HSB := LH hsub
  have HCI := LH he
  have S0 := LH s0
  clear hback hFi hsub hci hcl hc1 hc2 hc3 hKe hx hR he s0
  have hTT : Touch wr wr [b] := Touch.of_ext (XR _) _
  go_wp2_with fail
  refine (markText_any _ _ (by omega) (by omega)).mono ?_
  rintro e2 w1 ⟨rfl, hx1⟩
  try simp only [Int.add_assoc, Int.reduceAdd] at hx1
  have nO1 := Own.ext (hO0) hx1
  have nT1 := Touch.trans (hTT) (Touch.of_ext hx1 _)
  obtain ⟨v0, d0⟩ := nO1.some (o + i * 3) (by first | omega | (simp only [Array.size_setIfInBounds]; omega))
  have z0 := nO1.frozen (o + i * 3)
  obtain ⟨v1, d1⟩ := nO1.some (o + i * 3 + 1) (by first | omega | (simp only [Array.size_setIfInBounds]; omega))
  have z1 := nO1.frozen (o + i * 3 + 1)
  have u0 : w1.cell? ⟨b, o + i * 3 + 2, none⟩ = some (.slice a0 x.fields.length c0) := by
   rw [nO1.cell]
   (repeat rw [Array.getElem?_setIfInBounds, if_neg (by omega)])
   exact q0
  go_wp2_with fail
  refine (markStrings_p x.fields _ fi B0 _ _ ?_ ?_ ?_ ?_).mono ?_
  · exact RepF.touch S0.out (((nT1).setCell (b := b) (o := _) (List.mem_singleton.2 rfl) _).setCell (b := b) (o := _) (List.mem_singleton.2 rfl) _) (fun y hy h => hbi (by simp at h; subst h; simp [hy]))
  · exact Fresh.touch (HFI.out) (((nT1).setCell (b := b) (o := _) (List.mem_singleton.2 rfl) _).setCell (b := b) (o := _) (List.mem_singleton.2 rfl) _) (fun y hy h => hbi (by simp at h; subst h; simp [hy]))
  · omega
  · omega
  rintro e3 w2 ⟨rfl, hr0, hF0, hT0⟩
  try simp only [Int.add_assoc, Int.reduceAdd] at hT0 hr0
  have nO2 := Own.touch' (((nO1).set (o + i * 3) (.string (mtext (K)))).set (o + i * 3 + 1) (.int .i64 (K + 1))) hT0 (fun h => hbi (by simp [h]))
  have nU0 : Touch wr w2 (b :: fi) := Touch.trans (Touch.mono (((nT1).setCell (b := b) (o := o + i * 3) (List.mem_singleton.2 rfl) (.string (mtext (K)))).setCell (b := b) (o := o + i * 3 + 1) (List.mem_singleton.2 rfl) (.int .i64 (K + 1))) (by simp)) (Touch.mono hT0 (by intro y hy; simp [hy]))
  clear d0 z0 d1 z1
  have HO : Hid (Own w2 b e (sets C' (o + i * 3) [.string (mtext (K)), .int .i64 (K + 1)])) := LH nO2
  have HRR : Hid (RowIs w2 b o e (sets C' (o + i * 3) [.string (mtext (K)), .int .i64 (K + 1)]) 3 (mkL k0 ((l.take (i + 1)).map MClassInfo.d) ++ (l.drop (i + 1)).map MClassInfo.d) fp' B0) := LH (HBK.out _ [.string (mtext (K)), .int .i64 (K + 1)] (by simp only [List.length_cons, List.length_nil]; omega) HO.out nU0 (MClassInfo.mk_shut hr0) hF0)
  have HTT : Hid (Touch w w2 (b :: fp')) := LH (hT.trans (Touch.mono nU0 (by intro y hy; rcases List.mem_cons.1 hy with rfl | hy; exact List.mem_cons_self; exact List.mem_cons_of_mem _ (HSB.out y hy))))
  clear nO2 nU0 hT hF0 hr0 hT0
  go_wp2_with fail
  go_roundw
  case rel => exact ⟨i + 1, _, by omega, by go_num, by rw [HNX.out]; congr 1; omega, HRR, HTT.out⟩
  case measure => simp [intOf]; omega
theorem MCore.op_f {w : World} {x : MCore} {cs : List Value} {fp : List Nat} (h : RepF w x.d cs fp) : ∃ (a0 : Option Addr) (c0 : Nat) (f0 : List Nat), cs = [.int .i64 x.kind, .string x.text, .int .i64 x.number, .int .i64 x.depth, .slice a0 x.kids.length c0] /\ fp = f0 /\ RepF w (MCores x.kids) [.slice a0 x.kids.length c0] f0 := by
 rw [MCore.d_eq] at h
 have h1 := RepF.un_st h
 obtain ⟨_, rfl, h2⟩ := RepS.un_int h1
 obtain ⟨_, rfl, h3⟩ := RepS.un_str h2
 obtain ⟨_, rfl, h4⟩ := RepS.un_int h3
 obtain ⟨_, rfl, h5⟩ := RepS.un_int h4
 obtain ⟨a7, c8, _, f9, g10, rfl, rfl, s11, h6⟩ := RepS.un_sl h5
 simp only [RepS] at h6
 obtain ⟨rfl, rfl⟩ := h6
 simp only [strs, ints, MCores,  List.length_map] at *
 exact ⟨a7, c8, f9, rfl, by simp, s11⟩
theorem MCore.cnt_eq (x : MCore) : x.d.cnt = 4 + (MCores x.kids).cnt := by
 simp only [MCore.d_eq, D.cnt, D.cntL]; try omega
theorem MCore.mk_eq (x : MCore) (K : Int) : mkD K x.d = .st [.int (K), .str (mtext (K + 1)), .int (K + 2), .int (K + 3), mkD (K + 4) (MCores x.kids)] := by
 simp only [MCore.d_eq, mkD, mkL, D.cnt]
 simp [Int.add_assoc]
theorem MCore.mk_shut {w : World} {x : MCore} {K : Int} {v0 : Value} {f0 : List Nat} (h0 : RepF w (mkD (K + 4) (MCores x.kids)) [v0] f0) : RepF w (mkD K x.d) [.int .i64 (K), .string (mtext (K + 1)), .int .i64 (K + 2), .int .i64 (K + 3), v0] (f0) := by
 rw [MCore.mk_eq]
 have := RepF.st (RepS.int K (RepS.str (mtext (K + 1)) (RepS.int (K + 2) (RepS.int (K + 3) (RepS.one h0 (RepS.nil w))))))
 simpa using this
theorem MCore.cnt_le (x : MCore) : x.d.cnt <= 10 + 10 * x.d.bulk := by
 rw [MCore.cnt_eq]
 have hb : x.d.bulk = (MCores x.kids).bulk + x.text.size := by simp only [MCore.d_eq, D.bulk, D.bulkL]; try omega
 have h0 : (MCores x.kids).cnt <= 10 * (MCores x.kids).bulk := cnt_sl _ fun d hd => by
  obtain ⟨y, hy, rfl⟩ := List.mem_map.1 hd
  exact MCore.cnt_le y
 omega
termination_by SizeOf.sizeOf x
decreasing_by exact MCore.kid_lt hy
theorem markCoreS_n : ∀ (n : Nat) (l : List MCore), (MCores l).cnt < n -> ∀ (v : Value) (fp : List Nat) (B0 : Nat) (k0 : Int) (w : World), RepF w (MCores l) [v] fp -> Fresh w B0 fp -> 0 <= k0 -> k0 + (MCores l).cnt <= 1099511627776 -> Calls Tryz.prog 61 #[v, .int .i64 k0] w (MarkP w (mkD k0 (MCores l)) [v] fp B0 (k0 + (MCores l).cnt)) := by
 intro n
 induction n with
 | zero => intro l h; exact absurd h (Nat.not_lt_zero _)
 | succ n ih =>
 intro l hn v fp B0 k0 w hr hF h0 h1
 by_cases hne : l = []
 · subst hne
   obtain ⟨ao, cap, hv, hl, hm, hnn, h⟩ := RepF.sl_iff.1 hr
   simp only [List.cons.injEq, and_true, List.map_nil, List.length_nil] at hv hl
   subst hv
   go_enter Tryz.func61, Tryz.ntmps61
   go_wp2_with fail
   refine wp_loop_rounds 1 ?_
   rw [rounds_succ]
   go_wp2_with fail
   go_ret
   exact ⟨ret_int (by simp [MCores, D.cnt, D.cntL]), hr, hF, Touch.of_ext (XR _) _⟩
 obtain ⟨b, o, cap, e, C, fp', rfl, hl, hm, rfl, hR0⟩ := RowIs.start hr hF (by simpa using hne)
 have hpos : 0 < l.length := by cases l with | nil => exact absurd rfl hne | cons _ _ => simp
 simp only [List.length_map] at hl
 clear hne
 have HM := LH hm
 unfold maxLen at hm
 have HR := LH hr
 have HR0 : Hid (RowIs w b o e C 5 (mkL k0 ((l.take 0).map MCore.d) ++ (l.drop 0).map MCore.d) fp' B0) := LH (by simpa [mkL] using hR0)
 have HB := LH h1
 clear hr hF hR0 h1
 rw [List.length_map]
 go_enter Tryz.func61, Tryz.ntmps61
 go_wp2_with fail
 go_loopw [1, 5] (fun kv iv wr => ∃ (i : Nat) (C' : Array Value), i <= l.length /\ iv = .int .i64 i /\ kv = .int .i64 (k0 + (D.cntL ((l.take i).map MCore.d) : Int)) /\ Hid (RowIs wr b o e C' 5 (mkL k0 ((l.take i).map MCore.d) ++ (l.drop i).map MCore.d) fp' B0) /\ Touch w wr (b :: fp')) (fun _ iv _ => l.length - (intOf iv).toNat)
 case atStart => exact ⟨0, C, Nat.zero_le _, rfl, by simp [D.cntL], HR0, Touch.of_ext (XR _) _⟩
 case round =>
  obtain ⟨i, C', hi, rfl, rfl, hR, hT⟩ := hrel
  by_cases hlt : i < l.length
  rotate_left
  · obtain rfl : i = l.length := by omega
    have hD := RowIs.done (n := l.length) hR.out (by simp [mkL_length]) hl HM.out hpos
    have e1 : mkL k0 ((l.take l.length).map MCore.d) ++ (l.drop l.length).map MCore.d = mkL k0 (l.map MCore.d) := by simp
    rw [e1] at hD
    have HD : Hid (MarkP w (mkD k0 (MCores l)) [.slice (some ⟨b, o, none⟩) l.length cap] (b :: fp') B0 (k0 + (MCores l).cnt) (.returned (.int .i64 (k0 + (D.cntL ((l.take l.length).map MCore.d) : Int)))) wr) := LH ⟨by rw [List.take_length]; rfl, hD.1, hD.2, hT⟩
    clear hD e1
    go_wp2_with fail
    go_ret
    exact HD.out
  obtain ⟨x, hx⟩ : ∃ x, l[i]? = some x := ⟨l[i], by simp [hlt]⟩
  obtain ⟨ci, fi, he, hFi, hbi, hcl, hci, hsub, hback⟩ := hR.out.elem hx (by decide)
  obtain ⟨hc1, hc2⟩ := cnt_at (f := MCore.d) hx
  have hc3 := MCore.cnt_eq x
  obtain ⟨a0, c0, f0, rfl, rfl, s0⟩ := MCore.op_f he
  obtain ⟨K, hKe⟩ : ∃ K : Int, k0 + (D.cntL ((l.take i).map MCore.d) : Int) = K := ⟨_, rfl⟩
  rw [hKe] at hback ⊢
  have hK0 : 0 <= K := by omega
  have hcb : K + 4 + ((MCores x.kids).cnt : Int) <= 1099511627776 := by have := HB.out; simp only [MCores, D.cnt] at this; omega
  have hn0 : (MCores x.kids).cnt < n := by simp only [MCores, D.cnt] at hn hc3 hc2 ⊢; omega
  have HNX : Hid (k0 + (D.cntL ((l.take (i + 1)).map MCore.d) : Int) = K + 4 + ((MCores x.kids).cnt : Int)) := LH (by rw [hc1, <- hKe, hc3]; push_cast; omega)
  have hsz : o + i * 5 + 4 < C'.size := (Array.getElem?_eq_some_iff.1 (hci 4 _ rfl)).1
  have hO0 := hR.out.1
  have q0 : C'[o + i * 5 + 4]? = some (.slice a0 x.kids.length c0) := hci 4 _ rfl
  have HBK := LH hback
  have HFI := LH hFi
  have HSB := LH hsub
  have HCI := LH he
  have S0 := LH s0
  clear hback hFi hsub hci hcl hc1 hc2 hc3 hKe hx hR he s0
  have hTT : Touch wr wr [b] := Touch.of_ext (XR _) _
  obtain ⟨v0, d0⟩ := hO0.some (o + i * 5) (by first | omega | (simp only [Array.size_setIfInBounds]; omega))
  have z0 := hO0.frozen (o + i * 5)
  go_wp2_with fail
  refine (markText_any _ _ (by omega) (by omega)).mono ?_
  rintro e2 w1 ⟨rfl, hx1⟩
  try simp only [Int.add_assoc, Int.reduceAdd] at hx1
  have nO1 := Own.ext ((hO0).set (o + i * 5) (.int .i64 (K))) hx1
  have nT1 := Touch.trans ((hTT).setCell (b := b) (o := o + i * 5) (List.mem_singleton.2 rfl) (.int .i64 (K))) (Touch.of_ext hx1 _)
  clear d0 z0
  obtain ⟨v1, d1⟩ := nO1.some (o + i * 5 + 1) (by first | omega | (simp only [Array.size_setIfInBounds]; omega))
  have z1 := nO1.frozen (o + i * 5 + 1)
  obtain ⟨v2, d2⟩ := nO1.some (o + i * 5 + 2) (by first | omega | (simp only [Array.size_setIfInBounds]; omega))
  have z2 := nO1.frozen (o + i * 5 + 2)
  obtain ⟨v3, d3⟩ := nO1.some (o + i * 5 + 3) (by first | omega | (simp only [Array.size_setIfInBounds]; omega))
  have z3 := nO1.frozen (o + i * 5 + 3)
  have u0 : w1.cell? ⟨b, o + i * 5 + 4, none⟩ = some (.slice a0 x.kids.length c0) := by
   rw [nO1.cell]
   (repeat rw [Array.getElem?_setIfInBounds, if_neg (by omega)])
   exact q0
  go_wp2_with fail
  refine (ih x.kids hn0 _ fi B0 _ _ ?_ ?_ ?_ ?_).mono ?_
  · exact RepF.touch S0.out ((((nT1).setCell (b := b) (o := _) (List.mem_singleton.2 rfl) _).setCell (b := b) (o := _) (List.mem_singleton.2 rfl) _).setCell (b := b) (o := _) (List.mem_singleton.2 rfl) _) (fun y hy h => hbi (by simp at h; subst h; simp [hy]))
  · exact Fresh.touch (HFI.out) ((((nT1).setCell (b := b) (o := _) (List.mem_singleton.2 rfl) _).setCell (b := b) (o := _) (List.mem_singleton.2 rfl) _).setCell (b := b) (o := _) (List.mem_singleton.2 rfl) _) (fun y hy h => hbi (by simp at h; subst h; simp [hy]))
  · omega
  · omega
  rintro e3 w2 ⟨rfl, hr0, hF0, hT0⟩
  try simp only [Int.add_assoc, Int.reduceAdd] at hT0 hr0
  have nO2 := Own.touch' ((((nO1).set (o + i * 5 + 1) (.string (mtext (K + 1)))).set (o + i * 5 + 2) (.int .i64 (K + 2))).set (o + i * 5 + 3) (.int .i64 (K + 3))) hT0 (fun h => hbi (by simp [h]))
  have nU0 : Touch wr w2 (b :: fi) := Touch.trans (Touch.mono ((((nT1).setCell (b := b) (o := o + i * 5 + 1) (List.mem_singleton.2 rfl) (.string (mtext (K + 1)))).setCell (b := b) (o := o + i * 5 + 2) (List.mem_singleton.2 rfl) (.int .i64 (K + 2))).setCell (b := b) (o := o + i * 5 + 3) (List.mem_singleton.2 rfl) (.int .i64 (K + 3))) (by simp)) (Touch.mono hT0 (by intro y hy; simp [hy]))
  clear d1 z1 d2 z2 d3 z3
  have HO : Hid (Own w2 b e (sets C' (o + i * 5) [.int .i64 (K), .string (mtext (K + 1)), .int .i64 (K + 2), .int .i64 (K + 3)])) := LH nO2
  have HRR : Hid (RowIs w2 b o e (sets C' (o + i * 5) [.int .i64 (K), .string (mtext (K + 1)), .int .i64 (K + 2), .int .i64 (K + 3)]) 5 (mkL k0 ((l.take (i + 1)).map MCore.d) ++ (l.drop (i + 1)).map MCore.d) fp' B0) := LH (HBK.out _ [.int .i64 (K), .string (mtext (K + 1)), .int .i64 (K + 2), .int .i64 (K + 3)] (by simp only [List.length_cons, List.length_nil]; omega) HO.out nU0 (MCore.mk_shut hr0) hF0)
  have HTT : Hid (Touch w w2 (b :: fp')) := LH (hT.trans (Touch.mono nU0 (by intro y hy; rcases List.mem_cons.1 hy with rfl | hy; exact List.mem_cons_self; exact List.mem_cons_of_mem _ (HSB.out y hy))))
  clear nO2 nU0 hT hF0 hr0 hT0
  go_wp2_with fail
  go_roundw
  case rel => exact ⟨i + 1, _, by omega, by go_num, by rw [HNX.out]; congr 1; omega, HRR, HTT.out⟩
  case measure => simp [intOf]; omega
theorem markCoreS_any (l : List MCore) : ∀ (v : Value) (fp : List Nat) (B0 : Nat) (k0 : Int) (w : World), RepF w (MCores l) [v] fp -> Fresh w B0 fp -> 0 <= k0 -> k0 + (MCores l).cnt <= 1099511627776 -> Calls Tryz.prog 61 #[v, .int .i64 k0] w (MarkP w (mkD k0 (MCores l)) [v] fp B0 (k0 + (MCores l).cnt)) := markCoreS_n _ l (Nat.lt_succ_self _)
theorem MRoutine.op_f {w : World} {x : MRoutine} {cs : List Value} {fp : List Nat} (h : RepF w x.d cs fp) : ∃ (a0 : Option Addr) (c0 : Nat) (f0 : List Nat), cs = [.string x.selector, .int .i64 x.owner, .bool x.cls, .int .i64 x.params, .int .i64 x.slots, .int .i64 x.body.kind, .string x.body.text, .int .i64 x.body.number, .int .i64 x.body.depth, .slice a0 x.body.kids.length c0] /\ fp = f0 /\ RepF w (MCores x.body.kids) [.slice a0 x.body.kids.length c0] f0 := by
 rw [MRoutine.d_eq] at h
 have h1 := RepF.un_st h
 obtain ⟨_, rfl, h2⟩ := RepS.un_str h1
 obtain ⟨_, rfl, h3⟩ := RepS.un_int h2
 obtain ⟨_, rfl, h4⟩ := RepS.un_bool h3
 obtain ⟨_, rfl, h5⟩ := RepS.un_int h4
 obtain ⟨_, rfl, h6⟩ := RepS.un_int h5
 obtain ⟨_, _, f8, g9, rfl, rfl, s10, h7⟩ := RepS.un_sub h6
 rw [MCore.d_eq] at s10
 have h11 := RepF.un_st s10
 obtain ⟨_, rfl, h12⟩ := RepS.un_int h11
 obtain ⟨_, rfl, h13⟩ := RepS.un_str h12
 obtain ⟨_, rfl, h14⟩ := RepS.un_int h13
 obtain ⟨_, rfl, h15⟩ := RepS.un_int h14
 obtain ⟨a17, c18, _, f19, g20, rfl, rfl, s21, h16⟩ := RepS.un_sl h15
 simp only [RepS] at h16
 obtain ⟨rfl, rfl⟩ := h16
 simp only [RepS] at h7
 obtain ⟨rfl, rfl⟩ := h7
 simp only [strs, ints, MCores,  List.length_map] at *
 exact ⟨a17, c18, f19, rfl, by simp, s21⟩
theorem MRoutine.cnt_eq (x : MRoutine) : x.d.cnt = 9 + (MCores x.body.kids).cnt := by
 simp only [MRoutine.d_eq, MCore.d_eq, D.cnt, D.cntL]; try omega
theorem MRoutine.mk_eq (x : MRoutine) (K : Int) : mkD K x.d = .st [.str (mtext (K)), .int (K + 1), .bool ((K + 2) % 3 == 0), .int (K + 3), .int (K + 4), .st [.int (K + 5), .str (mtext (K + 6)), .int (K + 7), .int (K + 8), mkD (K + 9) (MCores x.body.kids)]] := by
 simp only [MRoutine.d_eq, MCore.d_eq, mkD, mkL, D.cnt]
 simp [Int.add_assoc]
theorem MRoutine.mk_shut {w : World} {x : MRoutine} {K : Int} {v0 : Value} {f0 : List Nat} (h0 : RepF w (mkD (K + 9) (MCores x.body.kids)) [v0] f0) : RepF w (mkD K x.d) [.string (mtext (K)), .int .i64 (K + 1), .bool ((K + 2) % 3 == 0), .int .i64 (K + 3), .int .i64 (K + 4), .int .i64 (K + 5), .string (mtext (K + 6)), .int .i64 (K + 7), .int .i64 (K + 8), v0] (f0) := by
 rw [MRoutine.mk_eq]
 have := RepF.st (RepS.str (mtext K) (RepS.int (K + 1) (RepS.bool ((K + 2) % 3 == 0) (RepS.int (K + 3) (RepS.int (K + 4) (RepS.sub (RepF.st (RepS.int (K + 5) (RepS.str (mtext (K + 6)) (RepS.int (K + 7) (RepS.int (K + 8) (RepS.one h0 (RepS.nil w))))))) (RepS.nil w)))))))
 simpa using this
theorem MRoutine.cnt_le (x : MRoutine) : x.d.cnt <= 10 + 10 * x.d.bulk := by
 rw [MRoutine.cnt_eq]
 have hb : x.d.bulk = (MCores x.body.kids).bulk + x.selector.size + x.body.text.size := by simp only [MRoutine.d_eq, MCore.d_eq, D.bulk, D.bulkL]; try omega
 have h0 : (MCores x.body.kids).cnt <= 10 * (MCores x.body.kids).bulk := cnt_sl _ fun d hd => by
  obtain ⟨y, hy, rfl⟩ := List.mem_map.1 hd
  exact MCore.cnt_le y
 omega
theorem markRoutineS_any (l : List MRoutine) : ∀ (v : Value) (fp : List Nat) (B0 : Nat) (k0 : Int) (w : World), RepF w (MRoutines l) [v] fp -> Fresh w B0 fp -> 0 <= k0 -> k0 + (MRoutines l).cnt <= 1099511627776 -> Calls Tryz.prog 31 #[v, .int .i64 k0] w (MarkP w (mkD k0 (MRoutines l)) [v] fp B0 (k0 + (MRoutines l).cnt)) := by
 intro v fp B0 k0 w hr hF h0 h1
 by_cases hne : l = []
 · subst hne
   obtain ⟨ao, cap, hv, hl, hm, hnn, h⟩ := RepF.sl_iff.1 hr
   simp only [List.cons.injEq, and_true, List.map_nil, List.length_nil] at hv hl
   subst hv
   go_enter Tryz.func31, Tryz.ntmps31
   go_wp2_with fail
   refine wp_loop_rounds 1 ?_
   rw [rounds_succ]
   go_wp2_with fail
   go_ret
   exact ⟨ret_int (by simp [MRoutines, D.cnt, D.cntL]), hr, hF, Touch.of_ext (XR _) _⟩
 obtain ⟨b, o, cap, e, C, fp', rfl, hl, hm, rfl, hR0⟩ := RowIs.start hr hF (by simpa using hne)
 have hpos : 0 < l.length := by cases l with | nil => exact absurd rfl hne | cons _ _ => simp
 simp only [List.length_map] at hl
 clear hne
 have HM := LH hm
 unfold maxLen at hm
 have HR := LH hr
 have HR0 : Hid (RowIs w b o e C 10 (mkL k0 ((l.take 0).map MRoutine.d) ++ (l.drop 0).map MRoutine.d) fp' B0) := LH (by simpa [mkL] using hR0)
 have HB := LH h1
 clear hr hF hR0 h1
 rw [List.length_map]
 go_enter Tryz.func31, Tryz.ntmps31
 go_wp2_with fail
 go_loopw [1, 5] (fun kv iv wr => ∃ (i : Nat) (C' : Array Value), i <= l.length /\ iv = .int .i64 i /\ kv = .int .i64 (k0 + (D.cntL ((l.take i).map MRoutine.d) : Int)) /\ Hid (RowIs wr b o e C' 10 (mkL k0 ((l.take i).map MRoutine.d) ++ (l.drop i).map MRoutine.d) fp' B0) /\ Touch w wr (b :: fp')) (fun _ iv _ => l.length - (intOf iv).toNat)
 case atStart => exact ⟨0, C, Nat.zero_le _, rfl, by simp [D.cntL], HR0, Touch.of_ext (XR _) _⟩
 case round =>
  obtain ⟨i, C', hi, rfl, rfl, hR, hT⟩ := hrel
  by_cases hlt : i < l.length
  rotate_left
  · obtain rfl : i = l.length := by omega
    have hD := RowIs.done (n := l.length) hR.out (by simp [mkL_length]) hl HM.out hpos
    have e1 : mkL k0 ((l.take l.length).map MRoutine.d) ++ (l.drop l.length).map MRoutine.d = mkL k0 (l.map MRoutine.d) := by simp
    rw [e1] at hD
    have HD : Hid (MarkP w (mkD k0 (MRoutines l)) [.slice (some ⟨b, o, none⟩) l.length cap] (b :: fp') B0 (k0 + (MRoutines l).cnt) (.returned (.int .i64 (k0 + (D.cntL ((l.take l.length).map MRoutine.d) : Int)))) wr) := LH ⟨by rw [List.take_length]; rfl, hD.1, hD.2, hT⟩
    clear hD e1
    go_wp2_with fail
    go_ret
    exact HD.out
  obtain ⟨x, hx⟩ : ∃ x, l[i]? = some x := ⟨l[i], by simp [hlt]⟩
  obtain ⟨ci, fi, he, hFi, hbi, hcl, hci, hsub, hback⟩ := hR.out.elem hx (by decide)
  obtain ⟨hc1, hc2⟩ := cnt_at (f := MRoutine.d) hx
  have hc3 := MRoutine.cnt_eq x
  obtain ⟨a0, c0, f0, rfl, rfl, s0⟩ := MRoutine.op_f he
  obtain ⟨K, hKe⟩ : ∃ K : Int, k0 + (D.cntL ((l.take i).map MRoutine.d) : Int) = K := ⟨_, rfl⟩
  rw [hKe] at hback ⊢
  have hK0 : 0 <= K := by omega
  have hcb : K + 9 + ((MCores x.body.kids).cnt : Int) <= 1099511627776 := by have := HB.out; simp only [MRoutines, D.cnt] at this; omega
  have HNX : Hid (k0 + (D.cntL ((l.take (i + 1)).map MRoutine.d) : Int) = K + 9 + ((MCores x.body.kids).cnt : Int)) := LH (by rw [hc1, <- hKe, hc3]; push_cast; omega)
  have hsz : o + i * 10 + 9 < C'.size := (Array.getElem?_eq_some_iff.1 (hci 9 _ rfl)).1
  have hO0 := hR.out.1
  have q0 : C'[o + i * 10 + 9]? = some (.slice a0 x.body.kids.length c0) := hci 9 _ rfl
  have HBK := LH hback
  have HFI := LH hFi
  have HSB := LH hsub
  have HCI := LH he
  have S0 := LH s0
  clear hback hFi hsub hci hcl hc1 hc2 hc3 hKe hx hR he s0
  have hTT : Touch wr wr [b] := Touch.of_ext (XR _) _
  go_wp2_with fail
  refine (markText_any _ _ (by omega) (by omega)).mono ?_
  rintro e2 w1 ⟨rfl, hx1⟩
  try simp only [Int.add_assoc, Int.reduceAdd] at hx1
  have nO1 := Own.ext (hO0) hx1
  have nT1 := Touch.trans (hTT) (Touch.of_ext hx1 _)
  obtain ⟨v0, d0⟩ := nO1.some (o + i * 10) (by first | omega | (simp only [Array.size_setIfInBounds]; omega))
  have z0 := nO1.frozen (o + i * 10)
  obtain ⟨v1, d1⟩ := nO1.some (o + i * 10 + 1) (by first | omega | (simp only [Array.size_setIfInBounds]; omega))
  have z1 := nO1.frozen (o + i * 10 + 1)
  obtain ⟨v2, d2⟩ := nO1.some (o + i * 10 + 2) (by first | omega | (simp only [Array.size_setIfInBounds]; omega))
  have z2 := nO1.frozen (o + i * 10 + 2)
  obtain ⟨v3, d3⟩ := nO1.some (o + i * 10 + 3) (by first | omega | (simp only [Array.size_setIfInBounds]; omega))
  have z3 := nO1.frozen (o + i * 10 + 3)
  obtain ⟨v4, d4⟩ := nO1.some (o + i * 10 + 4) (by first | omega | (simp only [Array.size_setIfInBounds]; omega))
  have z4 := nO1.frozen (o + i * 10 + 4)
  obtain ⟨v5, d5⟩ := nO1.some (o + i * 10 + 5) (by first | omega | (simp only [Array.size_setIfInBounds]; omega))
  have z5 := nO1.frozen (o + i * 10 + 5)
  go_wp2_with fail
  refine (markText_any _ _ (by omega) (by omega)).mono ?_
  rintro e3 w2 ⟨rfl, hx2⟩
  try simp only [Int.add_assoc, Int.reduceAdd] at hx2
  have nO2 := Own.ext (((((((nO1).set (o + i * 10) (.string (mtext (K)))).set (o + i * 10 + 1) (.int .i64 (K + 1))).set (o + i * 10 + 2) (.bool ((K + 2) % 3 == 0))).set (o + i * 10 + 3) (.int .i64 (K + 3))).set (o + i * 10 + 4) (.int .i64 (K + 4))).set (o + i * 10 + 5) (.int .i64 (K + 5))) hx2
  have nT2 := Touch.trans (((((((nT1).setCell (b := b) (o := o + i * 10) (List.mem_singleton.2 rfl) (.string (mtext (K)))).setCell (b := b) (o := o + i * 10 + 1) (List.mem_singleton.2 rfl) (.int .i64 (K + 1))).setCell (b := b) (o := o + i * 10 + 2) (List.mem_singleton.2 rfl) (.bool ((K + 2) % 3 == 0))).setCell (b := b) (o := o + i * 10 + 3) (List.mem_singleton.2 rfl) (.int .i64 (K + 3))).setCell (b := b) (o := o + i * 10 + 4) (List.mem_singleton.2 rfl) (.int .i64 (K + 4))).setCell (b := b) (o := o + i * 10 + 5) (List.mem_singleton.2 rfl) (.int .i64 (K + 5))) (Touch.of_ext hx2 _)
  clear d0 z0 d1 z1 d2 z2 d3 z3 d4 z4 d5 z5
  obtain ⟨v6, d6⟩ := nO2.some (o + i * 10 + 6) (by first | omega | (simp only [Array.size_setIfInBounds]; omega))
  have z6 := nO2.frozen (o + i * 10 + 6)
  obtain ⟨v7, d7⟩ := nO2.some (o + i * 10 + 7) (by first | omega | (simp only [Array.size_setIfInBounds]; omega))
  have z7 := nO2.frozen (o + i * 10 + 7)
  obtain ⟨v8, d8⟩ := nO2.some (o + i * 10 + 8) (by first | omega | (simp only [Array.size_setIfInBounds]; omega))
  have z8 := nO2.frozen (o + i * 10 + 8)
  have u0 : w2.cell? ⟨b, o + i * 10 + 9, none⟩ = some (.slice a0 x.body.kids.length c0) := by
   rw [nO2.cell]
   (repeat rw [Array.getElem?_setIfInBounds, if_neg (by omega)])
   exact q0
  go_wp2_with fail
  refine (markCoreS_any x.body.kids _ fi B0 _ _ ?_ ?_ ?_ ?_).mono ?_
  · exact RepF.touch S0.out ((((nT2).setCell (b := b) (o := _) (List.mem_singleton.2 rfl) _).setCell (b := b) (o := _) (List.mem_singleton.2 rfl) _).setCell (b := b) (o := _) (List.mem_singleton.2 rfl) _) (fun y hy h => hbi (by simp at h; subst h; simp [hy]))
  · exact Fresh.touch (HFI.out) ((((nT2).setCell (b := b) (o := _) (List.mem_singleton.2 rfl) _).setCell (b := b) (o := _) (List.mem_singleton.2 rfl) _).setCell (b := b) (o := _) (List.mem_singleton.2 rfl) _) (fun y hy h => hbi (by simp at h; subst h; simp [hy]))
  · omega
  · omega
  rintro e4 w3 ⟨rfl, hr0, hF0, hT0⟩
  try simp only [Int.add_assoc, Int.reduceAdd] at hT0 hr0
  have nO3 := Own.touch' ((((nO2).set (o + i * 10 + 6) (.string (mtext (K + 6)))).set (o + i * 10 + 7) (.int .i64 (K + 7))).set (o + i * 10 + 8) (.int .i64 (K + 8))) hT0 (fun h => hbi (by simp [h]))
  have nU0 : Touch wr w3 (b :: fi) := Touch.trans (Touch.mono ((((nT2).setCell (b := b) (o := o + i * 10 + 6) (List.mem_singleton.2 rfl) (.string (mtext (K + 6)))).setCell (b := b) (o := o + i * 10 + 7) (List.mem_singleton.2 rfl) (.int .i64 (K + 7))).setCell (b := b) (o := o + i * 10 + 8) (List.mem_singleton.2 rfl) (.int .i64 (K + 8))) (by simp)) (Touch.mono hT0 (by intro y hy; simp [hy]))
  clear d6 z6 d7 z7 d8 z8
  have HO : Hid (Own w3 b e (sets C' (o + i * 10) [.string (mtext (K)), .int .i64 (K + 1), .bool ((K + 2) % 3 == 0), .int .i64 (K + 3), .int .i64 (K + 4), .int .i64 (K + 5), .string (mtext (K + 6)), .int .i64 (K + 7), .int .i64 (K + 8)])) := LH nO3
  have HRR : Hid (RowIs w3 b o e (sets C' (o + i * 10) [.string (mtext (K)), .int .i64 (K + 1), .bool ((K + 2) % 3 == 0), .int .i64 (K + 3), .int .i64 (K + 4), .int .i64 (K + 5), .string (mtext (K + 6)), .int .i64 (K + 7), .int .i64 (K + 8)]) 10 (mkL k0 ((l.take (i + 1)).map MRoutine.d) ++ (l.drop (i + 1)).map MRoutine.d) fp' B0) := LH (HBK.out _ [.string (mtext (K)), .int .i64 (K + 1), .bool ((K + 2) % 3 == 0), .int .i64 (K + 3), .int .i64 (K + 4), .int .i64 (K + 5), .string (mtext (K + 6)), .int .i64 (K + 7), .int .i64 (K + 8)] (by simp only [List.length_cons, List.length_nil]; omega) HO.out nU0 (MRoutine.mk_shut hr0) hF0)
  have HTT : Hid (Touch w w3 (b :: fp')) := LH (hT.trans (Touch.mono nU0 (by intro y hy; rcases List.mem_cons.1 hy with rfl | hy; exact List.mem_cons_self; exact List.mem_cons_of_mem _ (HSB.out y hy))))
  clear nO3 nU0 hT hF0 hr0 hT0
  go_wp2_with fail
  go_roundw
  case rel => exact ⟨i + 1, _, by omega, by go_num, by rw [HNX.out]; congr 1; omega, HRR, HTT.out⟩
  case measure => simp [intOf]; omega
theorem MInstr.op_f {w : World} {x : MInstr} {cs : List Value} {fp : List Nat} (h : RepF w x.d cs fp) : cs = [.int .i64 x.op, .int .i64 x.a, .int .i64 x.b, .string x.text] /\ fp = [] := by
 rw [MInstr.d_eq] at h
 have h1 := RepF.un_st h
 obtain ⟨_, rfl, h2⟩ := RepS.un_int h1
 obtain ⟨_, rfl, h3⟩ := RepS.un_int h2
 obtain ⟨_, rfl, h4⟩ := RepS.un_int h3
 obtain ⟨_, rfl, h5⟩ := RepS.un_str h4
 simp only [RepS] at h5
 obtain ⟨rfl, rfl⟩ := h5
 exact ⟨rfl, rfl⟩
theorem MInstr.cnt_eq (x : MInstr) : x.d.cnt = 4 := by
 simp only [MInstr.d_eq, D.cnt, D.cntL]; try omega
theorem MInstr.mk_eq (x : MInstr) (K : Int) : mkD K x.d = .st [.int (K), .int (K + 1), .int (K + 2), .str (mtext (K + 3))] := by
 simp only [MInstr.d_eq, mkD, mkL, D.cnt]
 simp [Int.add_assoc]
theorem MInstr.mk_shut {w : World} {x : MInstr} {K : Int}  : RepF w (mkD K x.d) [.int .i64 (K), .int .i64 (K + 1), .int .i64 (K + 2), .string (mtext (K + 3))] ([]) := by
 rw [MInstr.mk_eq]
 have := RepF.st (RepS.int K (RepS.int (K + 1) (RepS.int (K + 2) (RepS.str (mtext (K + 3)) (RepS.nil w)))))
 simpa using this
theorem markInstrS_row (l : List MInstr) : ∀ (v : Value) (fp : List Nat) (B0 : Nat) (k0 : Int) (w : World), RepF w (MInstrs l) [v] fp -> Fresh w B0 fp -> 0 <= k0 -> k0 + (MInstrs l).cnt <= 1099511627776 -> Calls Tryz.prog 63 #[v, .int .i64 k0] w (MarkP w (mkD k0 (MInstrs l)) [v] fp B0 (k0 + (MInstrs l).cnt)) := by
 intro v fp B0 k0 w hr hF h0 h1
 by_cases hne : l = []
 · subst hne
   obtain ⟨ao, cap, hv, hl, hm, hnn, h⟩ := RepF.sl_iff.1 hr
   simp only [List.cons.injEq, and_true, List.map_nil, List.length_nil] at hv hl
   subst hv
   go_enter Tryz.func63, Tryz.ntmps63
   go_wp2_with fail
   refine wp_loop_rounds 1 ?_
   rw [rounds_succ]
   go_wp2_with fail
   go_ret
   exact ⟨ret_int (by simp [MInstrs, D.cnt, D.cntL]), hr, hF, Touch.of_ext (XR _) _⟩
 obtain ⟨b, o, cap, e, C, fp', rfl, hl, hm, rfl, hR0⟩ := RowIs.start hr hF (by simpa using hne)
 have hpos : 0 < l.length := by cases l with | nil => exact absurd rfl hne | cons _ _ => simp
 simp only [List.length_map] at hl
 clear hne
 have HM := LH hm
 unfold maxLen at hm
 have HR := LH hr
 have HR0 : Hid (RowIs w b o e C 4 (mkL k0 ((l.take 0).map MInstr.d) ++ (l.drop 0).map MInstr.d) fp' B0) := LH (by simpa [mkL] using hR0)
 have HB := LH h1
 clear hr hF hR0 h1
 rw [List.length_map]
 go_enter Tryz.func63, Tryz.ntmps63
 go_wp2_with fail
 go_loopw [1, 5] (fun kv iv wr => ∃ (i : Nat) (C' : Array Value), i <= l.length /\ iv = .int .i64 i /\ kv = .int .i64 (k0 + (D.cntL ((l.take i).map MInstr.d) : Int)) /\ Hid (RowIs wr b o e C' 4 (mkL k0 ((l.take i).map MInstr.d) ++ (l.drop i).map MInstr.d) fp' B0) /\ Touch w wr (b :: fp')) (fun _ iv _ => l.length - (intOf iv).toNat)
 case atStart => exact ⟨0, C, Nat.zero_le _, rfl, by simp [D.cntL], HR0, Touch.of_ext (XR _) _⟩
 case round =>
  obtain ⟨i, C', hi, rfl, rfl, hR, hT⟩ := hrel
  by_cases hlt : i < l.length
  rotate_left
  · obtain rfl : i = l.length := by omega
    have hD := RowIs.done (n := l.length) hR.out (by simp [mkL_length]) hl HM.out hpos
    have e1 : mkL k0 ((l.take l.length).map MInstr.d) ++ (l.drop l.length).map MInstr.d = mkL k0 (l.map MInstr.d) := by simp
    rw [e1] at hD
    have HD : Hid (MarkP w (mkD k0 (MInstrs l)) [.slice (some ⟨b, o, none⟩) l.length cap] (b :: fp') B0 (k0 + (MInstrs l).cnt) (.returned (.int .i64 (k0 + (D.cntL ((l.take l.length).map MInstr.d) : Int)))) wr) := LH ⟨by rw [List.take_length]; rfl, hD.1, hD.2, hT⟩
    clear hD e1
    go_wp2_with fail
    go_ret
    exact HD.out
  obtain ⟨x, hx⟩ : ∃ x, l[i]? = some x := ⟨l[i], by simp [hlt]⟩
  obtain ⟨ci, fi, he, hFi, hbi, hcl, hci, hsub, hback⟩ := hR.out.elem hx (by decide)
  obtain ⟨hc1, hc2⟩ := cnt_at (f := MInstr.d) hx
  have hc3 := MInstr.cnt_eq x
  obtain ⟨rfl, rfl⟩ := MInstr.op_f he
  obtain ⟨K, hKe⟩ : ∃ K : Int, k0 + (D.cntL ((l.take i).map MInstr.d) : Int) = K := ⟨_, rfl⟩
  rw [hKe] at hback ⊢
  have hK0 : 0 <= K := by omega
  have hcb : K + 4 <= 1099511627776 := by have := HB.out; simp only [MInstrs, D.cnt] at this; omega
  have HNX : Hid (k0 + (D.cntL ((l.take (i + 1)).map MInstr.d) : Int) = K + 4) := LH (by rw [hc1, <- hKe, hc3]; push_cast; omega)
  have hsz : o + i * 4 + 3 < C'.size := (Array.getElem?_eq_some_iff.1 (hci 3 _ rfl)).1
  have hO0 := hR.out.1
  have HBK := LH hback
  have HFI := LH hFi
  have HSB := LH hsub
  have HCI := LH he
  clear hback hFi hsub hci hcl hc1 hc2 hc3 hKe hx hR he 
  have hTT : Touch wr wr [b] := Touch.of_ext (XR _) _
  obtain ⟨v0, d0⟩ := hO0.some (o + i * 4) (by first | omega | (simp only [Array.size_setIfInBounds]; omega))
  have z0 := hO0.frozen (o + i * 4)
  obtain ⟨v1, d1⟩ := hO0.some (o + i * 4 + 1) (by first | omega | (simp only [Array.size_setIfInBounds]; omega))
  have z1 := hO0.frozen (o + i * 4 + 1)
  obtain ⟨v2, d2⟩ := hO0.some (o + i * 4 + 2) (by first | omega | (simp only [Array.size_setIfInBounds]; omega))
  have z2 := hO0.frozen (o + i * 4 + 2)
  go_wp2_with fail
  refine (markText_any _ _ (by omega) (by omega)).mono ?_
  rintro e2 w1 ⟨rfl, hx1⟩
  try simp only [Int.add_assoc, Int.reduceAdd] at hx1
  have nO1 := Own.ext ((((hO0).set (o + i * 4) (.int .i64 (K))).set (o + i * 4 + 1) (.int .i64 (K + 1))).set (o + i * 4 + 2) (.int .i64 (K + 2))) hx1
  have nT1 := Touch.trans ((((hTT).setCell (b := b) (o := o + i * 4) (List.mem_singleton.2 rfl) (.int .i64 (K))).setCell (b := b) (o := o + i * 4 + 1) (List.mem_singleton.2 rfl) (.int .i64 (K + 1))).setCell (b := b) (o := o + i * 4 + 2) (List.mem_singleton.2 rfl) (.int .i64 (K + 2))) (Touch.of_ext hx1 _)
  clear d0 z0 d1 z1 d2 z2
  obtain ⟨v3, d3⟩ := nO1.some (o + i * 4 + 3) (by first | omega | (simp only [Array.size_setIfInBounds]; omega))
  have z3 := nO1.frozen (o + i * 4 + 3)
  have nOF := (nO1).set (o + i * 4 + 3) (.string (mtext (K + 3)))
  have nTF := (nT1).setCell (b := b) (o := o + i * 4 + 3) (List.mem_singleton.2 rfl) (.string (mtext (K + 3)))
  have HO := LH (show Own _ b e (sets C' (o + i * 4) [.int .i64 (K), .int .i64 (K + 1), .int .i64 (K + 2), .string (mtext (K + 3))]) from nOF)
  have HRR : Hid (RowIs _ b o e (sets C' (o + i * 4) [.int .i64 (K), .int .i64 (K + 1), .int .i64 (K + 2), .string (mtext (K + 3))]) 4 (mkL k0 ((l.take (i + 1)).map MInstr.d) ++ (l.drop (i + 1)).map MInstr.d) fp' B0) := LH (HBK.out _ [.int .i64 (K), .int .i64 (K + 1), .int .i64 (K + 2), .string (mtext (K + 3))] (by simp only [List.length_cons, List.length_nil]; omega) HO.out nTF MInstr.mk_shut (Fresh.nil _ _))
  have HTT : Hid (Touch w _ (b :: fp')) := LH (hT.trans (Touch.mono nTF (by intro y hy; rcases List.mem_cons.1 hy with rfl | hy; exact List.mem_cons_self; exact absurd hy (by simp))))
  clear nOF nTF hT
  go_wp2_with fail
  try simp only [Int.add_assoc, Int.reduceAdd]
  go_roundw
  case rel => exact ⟨i + 1, _, by omega, by go_num, by rw [HNX.out] <;> (congr 1 <;> omega), HRR, HTT.out⟩
  case measure => simp [intOf]; omega
theorem MCode.op_f {w : World} {x : MCode} {cs : List Value} {fp : List Nat} (h : RepF w x.d cs fp) : ∃ (a0 : Option Addr) (c0 : Nat) (f0 : List Nat), cs = [.bool x.block, .int .i64 x.params, .int .i64 x.slots, .slice a0 x.instrs.length c0] /\ fp = f0 /\ RepF w (MInstrs x.instrs) [.slice a0 x.instrs.length c0] f0 := by
 rw [MCode.d_eq] at h
 have h1 := RepF.un_st h
 obtain ⟨_, rfl, h2⟩ := RepS.un_bool h1
 obtain ⟨_, rfl, h3⟩ := RepS.un_int h2
 obtain ⟨_, rfl, h4⟩ := RepS.un_int h3
 obtain ⟨a6, c7, _, f8, g9, rfl, rfl, s10, h5⟩ := RepS.un_sl h4
 simp only [RepS] at h5
 obtain ⟨rfl, rfl⟩ := h5
 simp only [strs, ints, MInstrs,  List.length_map] at *
 exact ⟨a6, c7, f8, rfl, by simp, s10⟩
theorem MCode.cnt_eq (x : MCode) : x.d.cnt = 3 + (MInstrs x.instrs).cnt := by
 simp only [MCode.d_eq, D.cnt, D.cntL]; try omega
theorem MCode.mk_eq (x : MCode) (K : Int) : mkD K x.d = .st [.bool ((K) % 3 == 0), .int (K + 1), .int (K + 2), mkD (K + 3) (MInstrs x.instrs)] := by
 simp only [MCode.d_eq, mkD, mkL, D.cnt]
 simp [Int.add_assoc]
theorem MCode.mk_shut {w : World} {x : MCode} {K : Int} {v0 : Value} {f0 : List Nat} (h0 : RepF w (mkD (K + 3) (MInstrs x.instrs)) [v0] f0) : RepF w (mkD K x.d) [.bool ((K) % 3 == 0), .int .i64 (K + 1), .int .i64 (K + 2), v0] (f0) := by
 rw [MCode.mk_eq]
 have := RepF.st (RepS.bool (K % 3 == 0) (RepS.int (K + 1) (RepS.int (K + 2) (RepS.one h0 (RepS.nil w)))))
 simpa using this
theorem markCodeS_any (l : List MCode) : ∀ (v : Value) (fp : List Nat) (B0 : Nat) (k0 : Int) (w : World), RepF w (MCodes l) [v] fp -> Fresh w B0 fp -> 0 <= k0 -> k0 + (MCodes l).cnt <= 1099511627776 -> Calls Tryz.prog 33 #[v, .int .i64 k0] w (MarkP w (mkD k0 (MCodes l)) [v] fp B0 (k0 + (MCodes l).cnt)) := by
 intro v fp B0 k0 w hr hF h0 h1
 by_cases hne : l = []
 · subst hne
   obtain ⟨ao, cap, hv, hl, hm, hnn, h⟩ := RepF.sl_iff.1 hr
   simp only [List.cons.injEq, and_true, List.map_nil, List.length_nil] at hv hl
   subst hv
   go_enter Tryz.func33, Tryz.ntmps33
   go_wp2_with fail
   refine wp_loop_rounds 1 ?_
   rw [rounds_succ]
   go_wp2_with fail
   go_ret
   exact ⟨ret_int (by simp [MCodes, D.cnt, D.cntL]), hr, hF, Touch.of_ext (XR _) _⟩
 obtain ⟨b, o, cap, e, C, fp', rfl, hl, hm, rfl, hR0⟩ := RowIs.start hr hF (by simpa using hne)
 have hpos : 0 < l.length := by cases l with | nil => exact absurd rfl hne | cons _ _ => simp
 simp only [List.length_map] at hl
 clear hne
 have HM := LH hm
 unfold maxLen at hm
 have HR := LH hr
 have HR0 : Hid (RowIs w b o e C 4 (mkL k0 ((l.take 0).map MCode.d) ++ (l.drop 0).map MCode.d) fp' B0) := LH (by simpa [mkL] using hR0)
 have HB := LH h1
 clear hr hF hR0 h1
 rw [List.length_map]
 go_enter Tryz.func33, Tryz.ntmps33
 go_wp2_with fail
 go_loopw [1, 5] (fun kv iv wr => ∃ (i : Nat) (C' : Array Value), i <= l.length /\ iv = .int .i64 i /\ kv = .int .i64 (k0 + (D.cntL ((l.take i).map MCode.d) : Int)) /\ Hid (RowIs wr b o e C' 4 (mkL k0 ((l.take i).map MCode.d) ++ (l.drop i).map MCode.d) fp' B0) /\ Touch w wr (b :: fp')) (fun _ iv _ => l.length - (intOf iv).toNat)
 case atStart => exact ⟨0, C, Nat.zero_le _, rfl, by simp [D.cntL], HR0, Touch.of_ext (XR _) _⟩
 case round =>
  obtain ⟨i, C', hi, rfl, rfl, hR, hT⟩ := hrel
  by_cases hlt : i < l.length
  rotate_left
  · obtain rfl : i = l.length := by omega
    have hD := RowIs.done (n := l.length) hR.out (by simp [mkL_length]) hl HM.out hpos
    have e1 : mkL k0 ((l.take l.length).map MCode.d) ++ (l.drop l.length).map MCode.d = mkL k0 (l.map MCode.d) := by simp
    rw [e1] at hD
    have HD : Hid (MarkP w (mkD k0 (MCodes l)) [.slice (some ⟨b, o, none⟩) l.length cap] (b :: fp') B0 (k0 + (MCodes l).cnt) (.returned (.int .i64 (k0 + (D.cntL ((l.take l.length).map MCode.d) : Int)))) wr) := LH ⟨by rw [List.take_length]; rfl, hD.1, hD.2, hT⟩
    clear hD e1
    go_wp2_with fail
    go_ret
    exact HD.out
  obtain ⟨x, hx⟩ : ∃ x, l[i]? = some x := ⟨l[i], by simp [hlt]⟩
  obtain ⟨ci, fi, he, hFi, hbi, hcl, hci, hsub, hback⟩ := hR.out.elem hx (by decide)
  obtain ⟨hc1, hc2⟩ := cnt_at (f := MCode.d) hx
  have hc3 := MCode.cnt_eq x
  obtain ⟨a0, c0, f0, rfl, rfl, s0⟩ := MCode.op_f he
  obtain ⟨K, hKe⟩ : ∃ K : Int, k0 + (D.cntL ((l.take i).map MCode.d) : Int) = K := ⟨_, rfl⟩
  rw [hKe] at hback ⊢
  have hK0 : 0 <= K := by omega
  have hcb : K + 3 + ((MInstrs x.instrs).cnt : Int) <= 1099511627776 := by have := HB.out; simp only [MCodes, D.cnt] at this; omega
  have HNX : Hid (k0 + (D.cntL ((l.take (i + 1)).map MCode.d) : Int) = K + 3 + ((MInstrs x.instrs).cnt : Int)) := LH (by rw [hc1, <- hKe, hc3]; push_cast; omega)
  have hsz : o + i * 4 + 3 < C'.size := (Array.getElem?_eq_some_iff.1 (hci 3 _ rfl)).1
  have hO0 := hR.out.1
  have q0 : C'[o + i * 4 + 3]? = some (.slice a0 x.instrs.length c0) := hci 3 _ rfl
  have HBK := LH hback
  have HFI := LH hFi
  have HSB := LH hsub
  have HCI := LH he
  have S0 := LH s0
  clear hback hFi hsub hci hcl hc1 hc2 hc3 hKe hx hR he s0
  have hTT : Touch wr wr [b] := Touch.of_ext (XR _) _
  obtain ⟨v0, d0⟩ := hO0.some (o + i * 4) (by first | omega | (simp only [Array.size_setIfInBounds]; omega))
  have z0 := hO0.frozen (o + i * 4)
  obtain ⟨v1, d1⟩ := hO0.some (o + i * 4 + 1) (by first | omega | (simp only [Array.size_setIfInBounds]; omega))
  have z1 := hO0.frozen (o + i * 4 + 1)
  obtain ⟨v2, d2⟩ := hO0.some (o + i * 4 + 2) (by first | omega | (simp only [Array.size_setIfInBounds]; omega))
  have z2 := hO0.frozen (o + i * 4 + 2)
  have u0 : wr.cell? ⟨b, o + i * 4 + 3, none⟩ = some (.slice a0 x.instrs.length c0) := by
   rw [hO0.cell]
   (repeat rw [Array.getElem?_setIfInBounds, if_neg (by omega)])
   exact q0
  go_wp2_with fail
  refine (markInstrS_row x.instrs _ fi B0 _ _ ?_ ?_ ?_ ?_).mono ?_
  · exact RepF.touch S0.out ((((hTT).setCell (b := b) (o := _) (List.mem_singleton.2 rfl) _).setCell (b := b) (o := _) (List.mem_singleton.2 rfl) _).setCell (b := b) (o := _) (List.mem_singleton.2 rfl) _) (fun y hy h => hbi (by simp at h; subst h; simp [hy]))
  · exact Fresh.touch (HFI.out) ((((hTT).setCell (b := b) (o := _) (List.mem_singleton.2 rfl) _).setCell (b := b) (o := _) (List.mem_singleton.2 rfl) _).setCell (b := b) (o := _) (List.mem_singleton.2 rfl) _) (fun y hy h => hbi (by simp at h; subst h; simp [hy]))
  · omega
  · omega
  rintro e2 w1 ⟨rfl, hr0, hF0, hT0⟩
  try simp only [Int.add_assoc, Int.reduceAdd] at hT0 hr0
  have nO1 := Own.touch' ((((hO0).set (o + i * 4) (.bool ((K) % 3 == 0))).set (o + i * 4 + 1) (.int .i64 (K + 1))).set (o + i * 4 + 2) (.int .i64 (K + 2))) hT0 (fun h => hbi (by simp [h]))
  have nU0 : Touch wr w1 (b :: fi) := Touch.trans (Touch.mono ((((hTT).setCell (b := b) (o := o + i * 4) (List.mem_singleton.2 rfl) (.bool ((K) % 3 == 0))).setCell (b := b) (o := o + i * 4 + 1) (List.mem_singleton.2 rfl) (.int .i64 (K + 1))).setCell (b := b) (o := o + i * 4 + 2) (List.mem_singleton.2 rfl) (.int .i64 (K + 2))) (by simp)) (Touch.mono hT0 (by intro y hy; simp [hy]))
  clear d0 z0 d1 z1 d2 z2
  have HO : Hid (Own w1 b e (sets C' (o + i * 4) [.bool ((K) % 3 == 0), .int .i64 (K + 1), .int .i64 (K + 2)])) := LH nO1
  have HRR : Hid (RowIs w1 b o e (sets C' (o + i * 4) [.bool ((K) % 3 == 0), .int .i64 (K + 1), .int .i64 (K + 2)]) 4 (mkL k0 ((l.take (i + 1)).map MCode.d) ++ (l.drop (i + 1)).map MCode.d) fp' B0) := LH (HBK.out _ [.bool ((K) % 3 == 0), .int .i64 (K + 1), .int .i64 (K + 2)] (by simp only [List.length_cons, List.length_nil]; omega) HO.out nU0 (MCode.mk_shut hr0) hF0)
  have HTT : Hid (Touch w w1 (b :: fp')) := LH (hT.trans (Touch.mono nU0 (by intro y hy; rcases List.mem_cons.1 hy with rfl | hy; exact List.mem_cons_self; exact List.mem_cons_of_mem _ (HSB.out y hy))))
  clear nO1 nU0 hT hF0 hr0 hT0
  go_wp2_with fail
  go_roundw
  case rel => exact ⟨i + 1, _, by omega, by go_num, by rw [HNX.out]; congr 1; omega, HRR, HTT.out⟩
  case measure => simp [intOf]; omega
theorem MEntry.op_f {w : World} {x : MEntry} {cs : List Value} {fp : List Nat} (h : RepF w x.d cs fp) : cs = [.int .i64 x.owner, .bool x.cls, .string x.selector, .int .i64 x.code] /\ fp = [] := by
 rw [MEntry.d_eq] at h
 have h1 := RepF.un_st h
 obtain ⟨_, rfl, h2⟩ := RepS.un_int h1
 obtain ⟨_, rfl, h3⟩ := RepS.un_bool h2
 obtain ⟨_, rfl, h4⟩ := RepS.un_str h3
 obtain ⟨_, rfl, h5⟩ := RepS.un_int h4
 simp only [RepS] at h5
 obtain ⟨rfl, rfl⟩ := h5
 exact ⟨rfl, rfl⟩
theorem MEntry.cnt_eq (x : MEntry) : x.d.cnt = 4 := by
 simp only [MEntry.d_eq, D.cnt, D.cntL]; try omega
theorem MEntry.mk_eq (x : MEntry) (K : Int) : mkD K x.d = .st [.int (K), .bool ((K + 1) % 3 == 0), .str (mtext (K + 2)), .int (K + 3)] := by
 simp only [MEntry.d_eq, mkD, mkL, D.cnt]
 simp [Int.add_assoc]
theorem MEntry.mk_shut {w : World} {x : MEntry} {K : Int}  : RepF w (mkD K x.d) [.int .i64 (K), .bool ((K + 1) % 3 == 0), .string (mtext (K + 2)), .int .i64 (K + 3)] ([]) := by
 rw [MEntry.mk_eq]
 have := RepF.st (RepS.int K (RepS.bool ((K + 1) % 3 == 0) (RepS.str (mtext (K + 2)) (RepS.int (K + 3) (RepS.nil w)))))
 simpa using this
theorem markEntryS_any (l : List MEntry) : ∀ (v : Value) (fp : List Nat) (B0 : Nat) (k0 : Int) (w : World), RepF w (MEntrys l) [v] fp -> Fresh w B0 fp -> 0 <= k0 -> k0 + (MEntrys l).cnt <= 1099511627776 -> Calls Tryz.prog 34 #[v, .int .i64 k0] w (MarkP w (mkD k0 (MEntrys l)) [v] fp B0 (k0 + (MEntrys l).cnt)) := by
 intro v fp B0 k0 w hr hF h0 h1
 by_cases hne : l = []
 · subst hne
   obtain ⟨ao, cap, hv, hl, hm, hnn, h⟩ := RepF.sl_iff.1 hr
   simp only [List.cons.injEq, and_true, List.map_nil, List.length_nil] at hv hl
   subst hv
   go_enter Tryz.func34, Tryz.ntmps34
   go_wp2_with fail
   refine wp_loop_rounds 1 ?_
   rw [rounds_succ]
   go_wp2_with fail
   go_ret
   exact ⟨ret_int (by simp [MEntrys, D.cnt, D.cntL]), hr, hF, Touch.of_ext (XR _) _⟩
 obtain ⟨b, o, cap, e, C, fp', rfl, hl, hm, rfl, hR0⟩ := RowIs.start hr hF (by simpa using hne)
 have hpos : 0 < l.length := by cases l with | nil => exact absurd rfl hne | cons _ _ => simp
 simp only [List.length_map] at hl
 clear hne
 have HM := LH hm
 unfold maxLen at hm
 have HR := LH hr
 have HR0 : Hid (RowIs w b o e C 4 (mkL k0 ((l.take 0).map MEntry.d) ++ (l.drop 0).map MEntry.d) fp' B0) := LH (by simpa [mkL] using hR0)
 have HB := LH h1
 clear hr hF hR0 h1
 rw [List.length_map]
 go_enter Tryz.func34, Tryz.ntmps34
 go_wp2_with fail
 go_loopw [1, 5] (fun kv iv wr => ∃ (i : Nat) (C' : Array Value), i <= l.length /\ iv = .int .i64 i /\ kv = .int .i64 (k0 + (D.cntL ((l.take i).map MEntry.d) : Int)) /\ Hid (RowIs wr b o e C' 4 (mkL k0 ((l.take i).map MEntry.d) ++ (l.drop i).map MEntry.d) fp' B0) /\ Touch w wr (b :: fp')) (fun _ iv _ => l.length - (intOf iv).toNat)
 case atStart => exact ⟨0, C, Nat.zero_le _, rfl, by simp [D.cntL], HR0, Touch.of_ext (XR _) _⟩
 case round =>
  obtain ⟨i, C', hi, rfl, rfl, hR, hT⟩ := hrel
  by_cases hlt : i < l.length
  rotate_left
  · obtain rfl : i = l.length := by omega
    have hD := RowIs.done (n := l.length) hR.out (by simp [mkL_length]) hl HM.out hpos
    have e1 : mkL k0 ((l.take l.length).map MEntry.d) ++ (l.drop l.length).map MEntry.d = mkL k0 (l.map MEntry.d) := by simp
    rw [e1] at hD
    have HD : Hid (MarkP w (mkD k0 (MEntrys l)) [.slice (some ⟨b, o, none⟩) l.length cap] (b :: fp') B0 (k0 + (MEntrys l).cnt) (.returned (.int .i64 (k0 + (D.cntL ((l.take l.length).map MEntry.d) : Int)))) wr) := LH ⟨by rw [List.take_length]; rfl, hD.1, hD.2, hT⟩
    clear hD e1
    go_wp2_with fail
    go_ret
    exact HD.out
  obtain ⟨x, hx⟩ : ∃ x, l[i]? = some x := ⟨l[i], by simp [hlt]⟩
  obtain ⟨ci, fi, he, hFi, hbi, hcl, hci, hsub, hback⟩ := hR.out.elem hx (by decide)
  obtain ⟨hc1, hc2⟩ := cnt_at (f := MEntry.d) hx
  have hc3 := MEntry.cnt_eq x
  obtain ⟨rfl, rfl⟩ := MEntry.op_f he
  obtain ⟨K, hKe⟩ : ∃ K : Int, k0 + (D.cntL ((l.take i).map MEntry.d) : Int) = K := ⟨_, rfl⟩
  rw [hKe] at hback ⊢
  have hK0 : 0 <= K := by omega
  have hcb : K + 4 <= 1099511627776 := by have := HB.out; simp only [MEntrys, D.cnt] at this; omega
  have HNX : Hid (k0 + (D.cntL ((l.take (i + 1)).map MEntry.d) : Int) = K + 4) := LH (by rw [hc1, <- hKe, hc3]; push_cast; omega)
  have hsz : o + i * 4 + 3 < C'.size := (Array.getElem?_eq_some_iff.1 (hci 3 _ rfl)).1
  have hO0 := hR.out.1
  have HBK := LH hback
  have HFI := LH hFi
  have HSB := LH hsub
  have HCI := LH he
  clear hback hFi hsub hci hcl hc1 hc2 hc3 hKe hx hR he 
  have hTT : Touch wr wr [b] := Touch.of_ext (XR _) _
  obtain ⟨v0, d0⟩ := hO0.some (o + i * 4) (by first | omega | (simp only [Array.size_setIfInBounds]; omega))
  have z0 := hO0.frozen (o + i * 4)
  obtain ⟨v1, d1⟩ := hO0.some (o + i * 4 + 1) (by first | omega | (simp only [Array.size_setIfInBounds]; omega))
  have z1 := hO0.frozen (o + i * 4 + 1)
  go_wp2_with fail
  refine (markText_any _ _ (by omega) (by omega)).mono ?_
  rintro e2 w1 ⟨rfl, hx1⟩
  try simp only [Int.add_assoc, Int.reduceAdd] at hx1
  have nO1 := Own.ext (((hO0).set (o + i * 4) (.int .i64 (K))).set (o + i * 4 + 1) (.bool ((K + 1) % 3 == 0))) hx1
  have nT1 := Touch.trans (((hTT).setCell (b := b) (o := o + i * 4) (List.mem_singleton.2 rfl) (.int .i64 (K))).setCell (b := b) (o := o + i * 4 + 1) (List.mem_singleton.2 rfl) (.bool ((K + 1) % 3 == 0))) (Touch.of_ext hx1 _)
  clear d0 z0 d1 z1
  obtain ⟨v2, d2⟩ := nO1.some (o + i * 4 + 2) (by first | omega | (simp only [Array.size_setIfInBounds]; omega))
  have z2 := nO1.frozen (o + i * 4 + 2)
  obtain ⟨v3, d3⟩ := nO1.some (o + i * 4 + 3) (by first | omega | (simp only [Array.size_setIfInBounds]; omega))
  have z3 := nO1.frozen (o + i * 4 + 3)
  have nOF := ((nO1).set (o + i * 4 + 2) (.string (mtext (K + 2)))).set (o + i * 4 + 3) (.int .i64 (K + 3))
  have nTF := ((nT1).setCell (b := b) (o := o + i * 4 + 2) (List.mem_singleton.2 rfl) (.string (mtext (K + 2)))).setCell (b := b) (o := o + i * 4 + 3) (List.mem_singleton.2 rfl) (.int .i64 (K + 3))
  have HO := LH (show Own _ b e (sets C' (o + i * 4) [.int .i64 (K), .bool ((K + 1) % 3 == 0), .string (mtext (K + 2)), .int .i64 (K + 3)]) from nOF)
  have HRR : Hid (RowIs _ b o e (sets C' (o + i * 4) [.int .i64 (K), .bool ((K + 1) % 3 == 0), .string (mtext (K + 2)), .int .i64 (K + 3)]) 4 (mkL k0 ((l.take (i + 1)).map MEntry.d) ++ (l.drop (i + 1)).map MEntry.d) fp' B0) := LH (HBK.out _ [.int .i64 (K), .bool ((K + 1) % 3 == 0), .string (mtext (K + 2)), .int .i64 (K + 3)] (by simp only [List.length_cons, List.length_nil]; omega) HO.out nTF MEntry.mk_shut (Fresh.nil _ _))
  have HTT : Hid (Touch w _ (b :: fp')) := LH (hT.trans (Touch.mono nTF (by intro y hy; rcases List.mem_cons.1 hy with rfl | hy; exact List.mem_cons_self; exact absurd hy (by simp))))
  clear nOF nTF hT
  go_wp2_with fail
  try simp only [Int.add_assoc, Int.reduceAdd]
  go_roundw
  case rel => exact ⟨i + 1, _, by omega, by go_num, by rw [HNX.out] <;> (congr 1 <;> omega), HRR, HTT.out⟩
  case measure => simp [intOf]; omega
end Go.Proofs.YtlaclfeljimffaaGreatDoor
