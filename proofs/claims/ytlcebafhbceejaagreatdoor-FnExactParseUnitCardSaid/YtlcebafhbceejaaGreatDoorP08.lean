/-
  SEVERAL TEXTS IN ONE: CONTRACTS: the marks of the laws; CONTRACTS: the marks of the laws, of structs.
  Conditions: those that each lemma states.
-/
import Derived.Test.YtlcebafhbceejaaGreatDoorP07
namespace Go.Proofs.YtlcebafhbceejaaGreatDoor
open Go.RowKit
set_option maxHeartbeats 8000000
set_option maxRecDepth 100000
set_option linter.unusedSimpArgs false
set_option linter.unusedVariables false
theorem D.cntL_strs : ∀ l : List ByteArray, D.cntL (l.map .str) = l.length
 | [] => rfl
 | x :: l => by simp [D.cntL, D.cnt, D.cntL_strs l]; omega
theorem mkL_strs (l : List ByteArray) (k : Int) : mkL k (l.map .str) = (markL k l.length).map .str := by
 apply List.ext_getElem?
 intro i
 by_cases h : i < l.length
 · rw [mkL_get k _ i (.str l[i]) (by simp [h]), List.getElem?_map, markL_get k _ i h, <- List.map_take, D.cntL_strs, List.length_take, Nat.min_eq_left (by omega)]
   rfl
 · rw [List.getElem?_eq_none (by rw [mkL_length]; simp; omega), List.getElem?_eq_none (by simp [markL_length]; omega)]
theorem cnt_strs (l : List ByteArray) : (strs l).cnt <= 10 * (strs l).bulk := by
 simp only [strs, D.cnt, D.cntL_strs, D.bulk, List.length_map]; omega
theorem cnt_sl {sz : Nat} : ∀ (xs : List D), (∀ d, d ∈ xs -> d.cnt <= 10 + 10 * d.bulk) -> (D.sl sz xs).cnt <= 10 * (D.sl sz xs).bulk
 | [], _ => by simp [D.cnt, D.cntL]
 | d :: xs, h => by
  have h1 := cnt_sl (sz := sz) xs fun e he => h e (List.mem_cons_of_mem _ he)
  have h2 := h d List.mem_cons_self
  simp only [D.cnt, D.cntL, D.bulk, D.bulkL, List.length_cons] at *
  omega
theorem markStrings_p (l : List ByteArray) : ∀ (v : Value) (fp : List Nat) (B0 : Nat) (k0 : Int) (w : World), RepF w (strs l) [v] fp -> Fresh w B0 fp -> 0 <= k0 -> k0 + (strs l).cnt <= 1099511627776 -> Calls Tryz.prog 55 #[v, .int .i64 k0] w (MarkP w (mkD k0 (strs l)) [v] fp B0 (k0 + (strs l).cnt)) := by
 intro v fp B0 k0 w hr hF h0 h1
 have e1 : (strs l).cnt = l.length := by simp [strs, D.cnt, D.cntL_strs]
 have e2 : mkD k0 (strs l) = strs (markL k0 l.length) := by simp [strs, mkD, mkL_strs]
 rw [e1] at h1 ⊢
 rw [e2]
 exact (markStringS_any l v fp k0 w hr hF.own h0 h1).mono fun e w' ⟨he, hr', ho, hT⟩ => ⟨he, hr', ⟨hF.nodup, hF.ge, ho⟩, hT⟩
theorem MExpr.op_f {w : World} {x : MExpr} {cs : List Value} {fp : List Nat} (h : RepF w x.d cs fp) : ∃ (a0 : Option Addr) (c0 : Nat) (f0 : List Nat) (a1 : Option Addr) (c1 : Nat) (f1 : List Nat), cs = [.int .i64 x.kind, .string x.text, .int .i64 x.number, .slice a0 x.names.length c0, .slice a1 x.kids.length c1] /\ fp = f0 ++ f1 /\ RepF w (strs x.names) [.slice a0 x.names.length c0] f0 /\ RepF w (MExprs x.kids) [.slice a1 x.kids.length c1] f1 := by
 rw [MExpr.d_eq] at h
 have h1 := RepF.un_st h
 obtain ⟨_, rfl, h2⟩ := RepS.un_int h1
 obtain ⟨_, rfl, h3⟩ := RepS.un_str h2
 obtain ⟨_, rfl, h4⟩ := RepS.un_int h3
 obtain ⟨a6, c7, _, f8, g9, rfl, rfl, s10, h5⟩ := RepS.un_sl h4
 obtain ⟨a12, c13, _, f14, g15, rfl, rfl, s16, h11⟩ := RepS.un_sl h5
 simp only [RepS] at h11
 obtain ⟨rfl, rfl⟩ := h11
 simp only [strs, ints, MExprs,  List.length_map] at *
 exact ⟨a6, c7, f8, a12, c13, f14, rfl, by simp, s10, s16⟩
theorem MExpr.cnt_eq (x : MExpr) : x.d.cnt = 3 + (strs x.names).cnt + (MExprs x.kids).cnt := by
 simp only [MExpr.d_eq, D.cnt, D.cntL]; omega
theorem MExpr.mk_eq (x : MExpr) (K : Int) : mkD K x.d = .st [.int (K), .str (mtext (K + 1)), .int (K + 2), mkD (K + 3) (strs x.names), mkD (K + 3 + ((strs x.names).cnt : Int)) (MExprs x.kids)] := by
 simp only [MExpr.d_eq, mkD, mkL, D.cnt]
 simp [Int.add_assoc]
theorem MExpr.mk_shut {w : World} {x : MExpr} {K : Int} {v0 : Value} {f0 : List Nat} (h0 : RepF w (mkD (K + 3) (strs x.names)) [v0] f0) {v1 : Value} {f1 : List Nat} (h1 : RepF w (mkD (K + 3 + ((strs x.names).cnt : Int)) (MExprs x.kids)) [v1] f1) : RepF w (mkD K x.d) [.int .i64 (K), .string (mtext (K + 1)), .int .i64 (K + 2), v0, v1] (f0 ++ f1) := by
 rw [MExpr.mk_eq]
 have := RepF.st (RepS.int K (RepS.str (mtext (K + 1)) (RepS.int (K + 2) (RepS.one h0 (RepS.one h1 (RepS.nil w))))))
 simpa using this
theorem MExpr.cnt_le (x : MExpr) : x.d.cnt <= 10 + 10 * x.d.bulk := by
 rw [MExpr.cnt_eq]
 have hb : x.d.bulk = (strs x.names).bulk + (MExprs x.kids).bulk + x.text.size := by simp only [MExpr.d_eq, D.bulk, D.bulkL]; try omega
 have h0 := cnt_strs x.names
 have h1 : (MExprs x.kids).cnt <= 10 * (MExprs x.kids).bulk := cnt_sl _ fun d hd => by
  obtain ⟨y, hy, rfl⟩ := List.mem_map.1 hd
  exact MExpr.cnt_le y
 omega
termination_by SizeOf.sizeOf x
decreasing_by exact MExpr.kid_lt hy
theorem markExprS_n : ∀ (n : Nat) (l : List MExpr), (MExprs l).cnt < n -> ∀ (v : Value) (fp : List Nat) (B0 : Nat) (k0 : Int) (w : World), RepF w (MExprs l) [v] fp -> Fresh w B0 fp -> 0 <= k0 -> k0 + (MExprs l).cnt <= 1099511627776 -> Calls Tryz.prog 57 #[v, .int .i64 k0] w (MarkP w (mkD k0 (MExprs l)) [v] fp B0 (k0 + (MExprs l).cnt)) := by
 intro n
 induction n with
 | zero => intro l h; exact absurd h (Nat.not_lt_zero _)
 | succ n ih =>
 intro l hn v fp B0 k0 w hr hF h0 h1
 by_cases hne : l = []
 · subst hne
   obtain ⟨ao, cap, hv, hl, hm, hnn, h⟩ := RepF.sl_iff.1 hr
   simp only [List.cons.injEq, and_true, List.map_nil, List.length_nil] at hv hl
   subst hv
   go_enter Tryz.func57, Tryz.ntmps57
   go_wp2_with fail
   refine wp_loop_rounds 1 ?_
   rw [rounds_succ]
   go_wp2_with fail
   go_ret
   exact ⟨ret_int (by simp [MExprs, D.cnt, D.cntL]), hr, hF, Touch.of_ext (XR _) _⟩
 obtain ⟨b, o, cap, e, C, fp', rfl, hl, hm, rfl, hR0⟩ := RowIs.start hr hF (by simpa using hne)
 have hpos : 0 < l.length := by cases l with | nil => exact absurd rfl hne | cons _ _ => simp
 simp only [List.length_map] at hl
 clear hne
 have HM := LH hm
 unfold maxLen at hm
 have HR := LH hr
 have HR0 : Hid (RowIs w b o e C 5 (mkL k0 ((l.take 0).map MExpr.d) ++ (l.drop 0).map MExpr.d) fp' B0) := LH (by simpa [mkL] using hR0)
 have HB := LH h1
 clear hr hF hR0 h1
 rw [List.length_map]
 go_enter Tryz.func57, Tryz.ntmps57
 go_wp2_with fail
 go_loopw [1, 5] (fun kv iv wr => ∃ (i : Nat) (C' : Array Value), i <= l.length /\ iv = .int .i64 i /\ kv = .int .i64 (k0 + (D.cntL ((l.take i).map MExpr.d) : Int)) /\ Hid (RowIs wr b o e C' 5 (mkL k0 ((l.take i).map MExpr.d) ++ (l.drop i).map MExpr.d) fp' B0) /\ Touch w wr (b :: fp')) (fun _ iv _ => l.length - (intOf iv).toNat)
 case atStart => exact ⟨0, C, Nat.zero_le _, rfl, by simp [D.cntL], HR0, Touch.of_ext (XR _) _⟩
 case round =>
  obtain ⟨i, C', hi, rfl, rfl, hR, hT⟩ := hrel
  by_cases hlt : i < l.length
  rotate_left
  · obtain rfl : i = l.length := by omega
    have hD := RowIs.done (n := l.length) hR.out (by simp [mkL_length]) hl HM.out hpos
    have e1 : mkL k0 ((l.take l.length).map MExpr.d) ++ (l.drop l.length).map MExpr.d = mkL k0 (l.map MExpr.d) := by simp
    rw [e1] at hD
    have HD : Hid (MarkP w (mkD k0 (MExprs l)) [.slice (some ⟨b, o, none⟩) l.length cap] (b :: fp') B0 (k0 + (MExprs l).cnt) (.returned (.int .i64 (k0 + (D.cntL ((l.take l.length).map MExpr.d) : Int)))) wr) := LH ⟨by rw [List.take_length]; rfl, hD.1, hD.2, hT⟩
    clear hD e1
    go_wp2_with fail
    go_ret
    exact HD.out
  obtain ⟨x, hx⟩ : ∃ x, l[i]? = some x := ⟨l[i], by simp [hlt]⟩
  obtain ⟨ci, fi, he, hFi, hbi, hcl, hci, hsub, hback⟩ := hR.out.elem hx (by decide)
  obtain ⟨hc1, hc2⟩ := cnt_at (f := MExpr.d) hx
  have hc3 := MExpr.cnt_eq x
  obtain ⟨a0, c0, f0, a1, c1, f1, rfl, rfl, s0, s1⟩ := MExpr.op_f he
  obtain ⟨K, hKe⟩ : ∃ K : Int, k0 + (D.cntL ((l.take i).map MExpr.d) : Int) = K := ⟨_, rfl⟩
  rw [hKe] at hback ⊢
  have hK0 : 0 <= K := by omega
  have hcb : K + 3 + ((strs x.names).cnt : Int) + ((MExprs x.kids).cnt : Int) <= 1099511627776 := by have := HB.out; simp only [MExprs, D.cnt] at this; omega
  have hn1 : (MExprs x.kids).cnt < n := by simp only [MExprs, D.cnt] at hn hc3 hc2 ⊢; omega
  have HNX : Hid (k0 + (D.cntL ((l.take (i + 1)).map MExpr.d) : Int) = K + 3 + ((strs x.names).cnt : Int) + ((MExprs x.kids).cnt : Int)) := LH (by rw [hc1, <- hKe, hc3]; push_cast; omega)
  have hsz : o + i * 5 + 4 < C'.size := (Array.getElem?_eq_some_iff.1 (hci 4 _ rfl)).1
  have hO0 := hR.out.1
  have q0 : C'[o + i * 5 + 3]? = some (.slice a0 x.names.length c0) := hci 3 _ rfl
  have q1 : C'[o + i * 5 + 4]? = some (.slice a1 x.kids.length c1) := hci 4 _ rfl
  have HBK := LH hback
  have HFI := LH hFi
  have HSB := LH hsub
  have HCI := LH he
  have S0 := LH s0
  have S1 := LH s1
  clear hback hFi hsub hci hcl hc1 hc2 hc3 hKe hx hR he s0 s1
  have hTT : Touch wr wr [b] := Touch.of_ext (XR _) _
  obtain ⟨v0, d0⟩ := hO0.some (o + i * 5) (by first | omega | (simp only [Array.size_setIfInBounds]; omega))
  have z0 := hO0.frozen (o + i * 5)
  go_wp2_with fail
  refine (markText_any _ _ (by omega) (by omega)).mono ?_
  rintro e2 w1 ⟨rfl, hx1⟩
  try simp only [Int.add_assoc, Int.reduceAdd] at hx1
  have nO1 := Own.ext ((hO0).set (o + i * 5) (.int .i64 (K))) hx1
  have nT1 := Touch.trans ((hTT).setCell (b := b) (o := o + i * 5) (List.mem_singleton.2 rfl) (.int .i64 (K))) (Touch.of_ext hx1 _)
  clear d0 z0
  obtain ⟨v1, d1⟩ := nO1.some (o + i * 5 + 1) (by first | omega | (simp only [Array.size_setIfInBounds]; omega))
  have z1 := nO1.frozen (o + i * 5 + 1)
  obtain ⟨v2, d2⟩ := nO1.some (o + i * 5 + 2) (by first | omega | (simp only [Array.size_setIfInBounds]; omega))
  have z2 := nO1.frozen (o + i * 5 + 2)
  have FP0 : Fresh wr B0 f0 := HFI.out.left
  have AP1_0 : ∀ y, y ∈ f1 -> y ∉ f0 := fun y h1 h2 => HFI.out.apart y h2 h1
  have AP0_1 : ∀ y, y ∈ f0 -> y ∉ f1 := fun y h1 h2 => HFI.out.apart y h1 h2
  have FP1 : Fresh wr B0 f1 := HFI.out.right
  have BN0 : b ∉ f0 := fun h => hbi (by simp [h])
  have BN1 : b ∉ f1 := fun h => hbi (by simp [h])
  have u0 : w1.cell? ⟨b, o + i * 5 + 3, none⟩ = some (.slice a0 x.names.length c0) := by
   rw [nO1.cell]
   (repeat rw [Array.getElem?_setIfInBounds, if_neg (by omega)])
   exact q0
  go_wp2_with fail
  refine (markStrings_p x.names _ f0 B0 _ _ ?_ ?_ ?_ ?_).mono ?_
  · exact RepF.touch S0.out (((nT1).setCell (b := b) (o := _) (List.mem_singleton.2 rfl) _).setCell (b := b) (o := _) (List.mem_singleton.2 rfl) _) (fun y hy h => BN0 (by simp at h; subst h; exact hy))
  · exact Fresh.touch FP0 (((nT1).setCell (b := b) (o := _) (List.mem_singleton.2 rfl) _).setCell (b := b) (o := _) (List.mem_singleton.2 rfl) _) (fun y hy h => BN0 (by simp at h; subst h; exact hy))
  · omega
  · omega
  rintro e3 w2 ⟨rfl, hr0, hF0, hT0⟩
  try simp only [Int.add_assoc, Int.reduceAdd] at hT0 hr0
  have nO2 := Own.touch' (((nO1).set (o + i * 5 + 1) (.string (mtext (K + 1)))).set (o + i * 5 + 2) (.int .i64 (K + 2))) hT0 BN0
  have nU0 : Touch wr w2 (b :: f0) := Touch.trans (Touch.mono (((nT1).setCell (b := b) (o := o + i * 5 + 1) (List.mem_singleton.2 rfl) (.string (mtext (K + 1)))).setCell (b := b) (o := o + i * 5 + 2) (List.mem_singleton.2 rfl) (.int .i64 (K + 2))) (by simp)) (Touch.mono hT0 (by intro y hy; simp [hy]))
  clear d1 z1 d2 z2
  have u1 : w2.cell? ⟨b, o + i * 5 + 4, none⟩ = some (.slice a1 x.kids.length c1) := by
   rw [nO2.cell]
   (repeat rw [Array.getElem?_setIfInBounds, if_neg (by omega)])
   exact q1
  go_wp2_with fail
  refine (ih x.kids hn1 _ f1 B0 _ _ ?_ ?_ ?_ ?_).mono ?_
  · exact RepF.touch S1.out nU0 (fun y hy h => by
     rcases List.mem_cons.1 h with rfl | h
     · exact BN1 hy
     · exact AP1_0 _ hy h)
  · exact Fresh.touch FP1 nU0 (fun y hy h => by
     rcases List.mem_cons.1 h with rfl | h
     · exact BN1 hy
     · exact AP1_0 _ hy h)
  · omega
  · omega
  rintro e4 w3 ⟨rfl, hr1, hF1, hT1⟩
  try simp only [Int.add_assoc, Int.reduceAdd] at hT1 hr1
  have nO3 := Own.touch' (nO2) hT1 BN1
  have nU1 : Touch wr w3 (b :: (f0 ++ f1)) := Touch.trans (Touch.mono nU0 (fun y hy => (List.mem_cons.1 hy).elim (fun h => h ▸ List.mem_cons_self) (fun h => List.mem_cons_of_mem _ (List.mem_append_left _ h)))) (Touch.mono hT1 (fun y hy => List.mem_cons_of_mem _ (List.mem_append_right _ hy)))
  replace hr0 := RepF.touch hr0 hT1 AP0_1
  replace hF0 := Fresh.touch hF0 hT1 AP0_1
  have HO : Hid (Own w3 b e (sets C' (o + i * 5) [.int .i64 (K), .string (mtext (K + 1)), .int .i64 (K + 2)])) := LH nO3
  have hFR : Fresh w3 B0 (f0 ++ f1) := ⟨HFI.out.nodup, HFI.out.ge, fun y hy => by
   simp only [List.mem_append] at hy
   rcases hy with hy | hy
   · exact hF0.own y hy
   · exact hF1.own y hy⟩
  have nUU : Touch wr w3 (b :: (f0 ++ f1)) := Touch.mono nU1 (by intro y hy; simp only [List.mem_cons, List.mem_append, or_assoc] at hy ⊢; exact hy)
  have HRR : Hid (RowIs w3 b o e (sets C' (o + i * 5) [.int .i64 (K), .string (mtext (K + 1)), .int .i64 (K + 2)]) 5 (mkL k0 ((l.take (i + 1)).map MExpr.d) ++ (l.drop (i + 1)).map MExpr.d) fp' B0) := LH (HBK.out _ [.int .i64 (K), .string (mtext (K + 1)), .int .i64 (K + 2)] (by simp only [List.length_cons, List.length_nil]; omega) HO.out nUU (MExpr.mk_shut hr0 (by have h := hr1; simp only [Int.add_assoc] at h ⊢; exact h)) hFR)
  have HTT : Hid (Touch w w3 (b :: fp')) := LH (hT.trans (Touch.mono nUU (by intro y hy; rcases List.mem_cons.1 hy with rfl | hy; exact List.mem_cons_self; exact List.mem_cons_of_mem _ (HSB.out y hy))))
  clear nO3 nU1 hT hF0 hr0 hT0 hF1 hr1 hT1 nUU hFR
  go_wp2_with fail
  go_roundw
  case rel => exact ⟨i + 1, _, by omega, by go_num, by rw [HNX.out]; congr 1; omega, HRR, HTT.out⟩
  case measure => simp [intOf]; omega
theorem markExprS_any (l : List MExpr) : ∀ (v : Value) (fp : List Nat) (B0 : Nat) (k0 : Int) (w : World), RepF w (MExprs l) [v] fp -> Fresh w B0 fp -> 0 <= k0 -> k0 + (MExprs l).cnt <= 1099511627776 -> Calls Tryz.prog 57 #[v, .int .i64 k0] w (MarkP w (mkD k0 (MExprs l)) [v] fp B0 (k0 + (MExprs l).cnt)) := markExprS_n _ l (Nat.lt_succ_self _)
theorem MMethod.op_f {w : World} {x : MMethod} {cs : List Value} {fp : List Nat} (h : RepF w x.d cs fp) : ∃ (a0 : Option Addr) (c0 : Nat) (f0 : List Nat) (a1 : Option Addr) (c1 : Nat) (f1 : List Nat) (a2 : Option Addr) (c2 : Nat) (f2 : List Nat), cs = [.string x.selector, .bool x.cls, .slice a0 x.params.length c0, .slice a1 x.temps.length c1, .slice a2 x.body.length c2] /\ fp = f0 ++ (f1 ++ f2) /\ RepF w (strs x.params) [.slice a0 x.params.length c0] f0 /\ RepF w (strs x.temps) [.slice a1 x.temps.length c1] f1 /\ RepF w (MExprs x.body) [.slice a2 x.body.length c2] f2 := by
 rw [MMethod.d_eq] at h
 have h1 := RepF.un_st h
 obtain ⟨_, rfl, h2⟩ := RepS.un_str h1
 obtain ⟨_, rfl, h3⟩ := RepS.un_bool h2
 obtain ⟨a5, c6, _, f7, g8, rfl, rfl, s9, h4⟩ := RepS.un_sl h3
 obtain ⟨a11, c12, _, f13, g14, rfl, rfl, s15, h10⟩ := RepS.un_sl h4
 obtain ⟨a17, c18, _, f19, g20, rfl, rfl, s21, h16⟩ := RepS.un_sl h10
 simp only [RepS] at h16
 obtain ⟨rfl, rfl⟩ := h16
 simp only [strs, ints, MExprs,  List.length_map] at *
 exact ⟨a5, c6, f7, a11, c12, f13, a17, c18, f19, rfl, by simp, s9, s15, s21⟩
theorem MMethod.cnt_eq (x : MMethod) : x.d.cnt = 2 + (strs x.params).cnt + (strs x.temps).cnt + (MExprs x.body).cnt := by
 simp only [MMethod.d_eq, D.cnt, D.cntL]; omega
theorem MMethod.mk_eq (x : MMethod) (K : Int) : mkD K x.d = .st [.str (mtext (K)), .bool ((K + 1) % 3 == 0), mkD (K + 2) (strs x.params), mkD (K + 2 + ((strs x.params).cnt : Int)) (strs x.temps), mkD (K + 2 + ((strs x.params).cnt : Int) + ((strs x.temps).cnt : Int)) (MExprs x.body)] := by
 simp only [MMethod.d_eq, mkD, mkL, D.cnt]
 simp [Int.add_assoc]
theorem MMethod.mk_shut {w : World} {x : MMethod} {K : Int} {v0 : Value} {f0 : List Nat} (h0 : RepF w (mkD (K + 2) (strs x.params)) [v0] f0) {v1 : Value} {f1 : List Nat} (h1 : RepF w (mkD (K + 2 + ((strs x.params).cnt : Int)) (strs x.temps)) [v1] f1) {v2 : Value} {f2 : List Nat} (h2 : RepF w (mkD (K + 2 + ((strs x.params).cnt : Int) + ((strs x.temps).cnt : Int)) (MExprs x.body)) [v2] f2) : RepF w (mkD K x.d) [.string (mtext (K)), .bool ((K + 1) % 3 == 0), v0, v1, v2] (f0 ++ (f1 ++ f2)) := by
 rw [MMethod.mk_eq]
 have := RepF.st (RepS.str (mtext K) (RepS.bool ((K + 1) % 3 == 0) (RepS.one h0 (RepS.one h1 (RepS.one h2 (RepS.nil w))))))
 simpa using this
theorem MMethod.cnt_le (x : MMethod) : x.d.cnt <= 10 + 10 * x.d.bulk := by
 rw [MMethod.cnt_eq]
 have hb : x.d.bulk = (strs x.params).bulk + (strs x.temps).bulk + (MExprs x.body).bulk + x.selector.size := by simp only [MMethod.d_eq, D.bulk, D.bulkL]; try omega
 have h0 := cnt_strs x.params
 have h1 := cnt_strs x.temps
 have h2 : (MExprs x.body).cnt <= 10 * (MExprs x.body).bulk := cnt_sl _ fun d hd => by
  obtain ⟨y, hy, rfl⟩ := List.mem_map.1 hd
  exact MExpr.cnt_le y
 omega
theorem markMethodS_any (l : List MMethod) : ∀ (v : Value) (fp : List Nat) (B0 : Nat) (k0 : Int) (w : World), RepF w (MMethods l) [v] fp -> Fresh w B0 fp -> 0 <= k0 -> k0 + (MMethods l).cnt <= 1099511627776 -> Calls Tryz.prog 56 #[v, .int .i64 k0] w (MarkP w (mkD k0 (MMethods l)) [v] fp B0 (k0 + (MMethods l).cnt)) := by
 intro v fp B0 k0 w hr hF h0 h1
 by_cases hne : l = []
 · subst hne
   obtain ⟨ao, cap, hv, hl, hm, hnn, h⟩ := RepF.sl_iff.1 hr
   simp only [List.cons.injEq, and_true, List.map_nil, List.length_nil] at hv hl
   subst hv
   go_enter Tryz.func56, Tryz.ntmps56
   go_wp2_with fail
   refine wp_loop_rounds 1 ?_
   rw [rounds_succ]
   go_wp2_with fail
   go_ret
   exact ⟨ret_int (by simp [MMethods, D.cnt, D.cntL]), hr, hF, Touch.of_ext (XR _) _⟩
 obtain ⟨b, o, cap, e, C, fp', rfl, hl, hm, rfl, hR0⟩ := RowIs.start hr hF (by simpa using hne)
 have hpos : 0 < l.length := by cases l with | nil => exact absurd rfl hne | cons _ _ => simp
 simp only [List.length_map] at hl
 clear hne
 have HM := LH hm
 unfold maxLen at hm
 have HR := LH hr
 have HR0 : Hid (RowIs w b o e C 5 (mkL k0 ((l.take 0).map MMethod.d) ++ (l.drop 0).map MMethod.d) fp' B0) := LH (by simpa [mkL] using hR0)
 have HB := LH h1
 clear hr hF hR0 h1
 rw [List.length_map]
 go_enter Tryz.func56, Tryz.ntmps56
 go_wp2_with fail
 go_loopw [1, 5] (fun kv iv wr => ∃ (i : Nat) (C' : Array Value), i <= l.length /\ iv = .int .i64 i /\ kv = .int .i64 (k0 + (D.cntL ((l.take i).map MMethod.d) : Int)) /\ Hid (RowIs wr b o e C' 5 (mkL k0 ((l.take i).map MMethod.d) ++ (l.drop i).map MMethod.d) fp' B0) /\ Touch w wr (b :: fp')) (fun _ iv _ => l.length - (intOf iv).toNat)
 case atStart => exact ⟨0, C, Nat.zero_le _, rfl, by simp [D.cntL], HR0, Touch.of_ext (XR _) _⟩
 case round =>
  obtain ⟨i, C', hi, rfl, rfl, hR, hT⟩ := hrel
  by_cases hlt : i < l.length
  rotate_left
  · obtain rfl : i = l.length := by omega
    have hD := RowIs.done (n := l.length) hR.out (by simp [mkL_length]) hl HM.out hpos
    have e1 : mkL k0 ((l.take l.length).map MMethod.d) ++ (l.drop l.length).map MMethod.d = mkL k0 (l.map MMethod.d) := by simp
    rw [e1] at hD
    have HD : Hid (MarkP w (mkD k0 (MMethods l)) [.slice (some ⟨b, o, none⟩) l.length cap] (b :: fp') B0 (k0 + (MMethods l).cnt) (.returned (.int .i64 (k0 + (D.cntL ((l.take l.length).map MMethod.d) : Int)))) wr) := LH ⟨by rw [List.take_length]; rfl, hD.1, hD.2, hT⟩
    clear hD e1
    go_wp2_with fail
    go_ret
    exact HD.out
  obtain ⟨x, hx⟩ : ∃ x, l[i]? = some x := ⟨l[i], by simp [hlt]⟩
  obtain ⟨ci, fi, he, hFi, hbi, hcl, hci, hsub, hback⟩ := hR.out.elem hx (by decide)
  obtain ⟨hc1, hc2⟩ := cnt_at (f := MMethod.d) hx
  have hc3 := MMethod.cnt_eq x
  obtain ⟨a0, c0, f0, a1, c1, f1, a2, c2, f2, rfl, rfl, s0, s1, s2⟩ := MMethod.op_f he
  obtain ⟨K, hKe⟩ : ∃ K : Int, k0 + (D.cntL ((l.take i).map MMethod.d) : Int) = K := ⟨_, rfl⟩
  rw [hKe] at hback ⊢
  have hK0 : 0 <= K := by omega
  have hcb : K + 2 + ((strs x.params).cnt : Int) + ((strs x.temps).cnt : Int) + ((MExprs x.body).cnt : Int) <= 1099511627776 := by have := HB.out; simp only [MMethods, D.cnt] at this; omega
  have HNX : Hid (k0 + (D.cntL ((l.take (i + 1)).map MMethod.d) : Int) = K + 2 + ((strs x.params).cnt : Int) + ((strs x.temps).cnt : Int) + ((MExprs x.body).cnt : Int)) := LH (by rw [hc1, <- hKe, hc3]; push_cast; omega)
  have hsz : o + i * 5 + 4 < C'.size := (Array.getElem?_eq_some_iff.1 (hci 4 _ rfl)).1
  have hO0 := hR.out.1
  have q0 : C'[o + i * 5 + 2]? = some (.slice a0 x.params.length c0) := hci 2 _ rfl
  have q1 : C'[o + i * 5 + 3]? = some (.slice a1 x.temps.length c1) := hci 3 _ rfl
  have q2 : C'[o + i * 5 + 4]? = some (.slice a2 x.body.length c2) := hci 4 _ rfl
  have HBK := LH hback
  have HFI := LH hFi
  have HSB := LH hsub
  have HCI := LH he
  have S0 := LH s0
  have S1 := LH s1
  have S2 := LH s2
  clear hback hFi hsub hci hcl hc1 hc2 hc3 hKe hx hR he s0 s1 s2
  have hTT : Touch wr wr [b] := Touch.of_ext (XR _) _
  go_wp2_with fail
  refine (markText_any _ _ (by omega) (by omega)).mono ?_
  rintro e2 w1 ⟨rfl, hx1⟩
  try simp only [Int.add_assoc, Int.reduceAdd] at hx1
  have nO1 := Own.ext (hO0) hx1
  have nT1 := Touch.trans (hTT) (Touch.of_ext hx1 _)
  obtain ⟨v0, d0⟩ := nO1.some (o + i * 5) (by first | omega | (simp only [Array.size_setIfInBounds]; omega))
  have z0 := nO1.frozen (o + i * 5)
  obtain ⟨v1, d1⟩ := nO1.some (o + i * 5 + 1) (by first | omega | (simp only [Array.size_setIfInBounds]; omega))
  have z1 := nO1.frozen (o + i * 5 + 1)
  have FP0 : Fresh wr B0 f0 := HFI.out.left
  have AP1_0 : ∀ y, y ∈ f1 -> y ∉ f0 := fun y h1 h2 => HFI.out.apart y h2 (List.mem_append_left _ h1)
  have AP0_1 : ∀ y, y ∈ f0 -> y ∉ f1 := fun y h1 h2 => HFI.out.apart y h1 (List.mem_append_left _ h2)
  have AP2_0 : ∀ y, y ∈ f2 -> y ∉ f0 := fun y h1 h2 => HFI.out.apart y h2 (List.mem_append_right _ h1)
  have AP0_2 : ∀ y, y ∈ f0 -> y ∉ f2 := fun y h1 h2 => HFI.out.apart y h1 (List.mem_append_right _ h2)
  have FP1 : Fresh wr B0 f1 := HFI.out.right.left
  have AP2_1 : ∀ y, y ∈ f2 -> y ∉ f1 := fun y h1 h2 => HFI.out.right.apart y h2 h1
  have AP1_2 : ∀ y, y ∈ f1 -> y ∉ f2 := fun y h1 h2 => HFI.out.right.apart y h1 h2
  have FP2 : Fresh wr B0 f2 := HFI.out.right.right
  have BN0 : b ∉ f0 := fun h => hbi (by simp [h])
  have BN1 : b ∉ f1 := fun h => hbi (by simp [h])
  have BN2 : b ∉ f2 := fun h => hbi (by simp [h])
  have u0 : w1.cell? ⟨b, o + i * 5 + 2, none⟩ = some (.slice a0 x.params.length c0) := by
   rw [nO1.cell]
   (repeat rw [Array.getElem?_setIfInBounds, if_neg (by omega)])
   exact q0
  go_wp2_with fail
  refine (markStrings_p x.params _ f0 B0 _ _ ?_ ?_ ?_ ?_).mono ?_
  · exact RepF.touch S0.out (((nT1).setCell (b := b) (o := _) (List.mem_singleton.2 rfl) _).setCell (b := b) (o := _) (List.mem_singleton.2 rfl) _) (fun y hy h => BN0 (by simp at h; subst h; exact hy))
  · exact Fresh.touch FP0 (((nT1).setCell (b := b) (o := _) (List.mem_singleton.2 rfl) _).setCell (b := b) (o := _) (List.mem_singleton.2 rfl) _) (fun y hy h => BN0 (by simp at h; subst h; exact hy))
  · omega
  · omega
  rintro e3 w2 ⟨rfl, hr0, hF0, hT0⟩
  try simp only [Int.add_assoc, Int.reduceAdd] at hT0 hr0
  have nO2 := Own.touch' (((nO1).set (o + i * 5) (.string (mtext (K)))).set (o + i * 5 + 1) (.bool ((K + 1) % 3 == 0))) hT0 BN0
  have nU0 : Touch wr w2 (b :: f0) := Touch.trans (Touch.mono (((nT1).setCell (b := b) (o := o + i * 5) (List.mem_singleton.2 rfl) (.string (mtext (K)))).setCell (b := b) (o := o + i * 5 + 1) (List.mem_singleton.2 rfl) (.bool ((K + 1) % 3 == 0))) (by simp)) (Touch.mono hT0 (by intro y hy; simp [hy]))
  clear d0 z0 d1 z1
  have u1 : w2.cell? ⟨b, o + i * 5 + 3, none⟩ = some (.slice a1 x.temps.length c1) := by
   rw [nO2.cell]
   (repeat rw [Array.getElem?_setIfInBounds, if_neg (by omega)])
   exact q1
  go_wp2_with fail
  refine (markStrings_p x.temps _ f1 B0 _ _ ?_ ?_ ?_ ?_).mono ?_
  · exact RepF.touch S1.out nU0 (fun y hy h => by
     rcases List.mem_cons.1 h with rfl | h
     · exact BN1 hy
     · exact AP1_0 _ hy h)
  · exact Fresh.touch FP1 nU0 (fun y hy h => by
     rcases List.mem_cons.1 h with rfl | h
     · exact BN1 hy
     · exact AP1_0 _ hy h)
  · omega
  · omega
  rintro e4 w3 ⟨rfl, hr1, hF1, hT1⟩
  try simp only [Int.add_assoc, Int.reduceAdd] at hT1 hr1
  have nO3 := Own.touch' (nO2) hT1 BN1
  have nU1 : Touch wr w3 (b :: (f0 ++ f1)) := Touch.trans (Touch.mono nU0 (fun y hy => (List.mem_cons.1 hy).elim (fun h => h ▸ List.mem_cons_self) (fun h => List.mem_cons_of_mem _ (List.mem_append_left _ h)))) (Touch.mono hT1 (fun y hy => List.mem_cons_of_mem _ (List.mem_append_right _ hy)))
  replace hr0 := RepF.touch hr0 hT1 AP0_1
  replace hF0 := Fresh.touch hF0 hT1 AP0_1
  have u2 : w3.cell? ⟨b, o + i * 5 + 4, none⟩ = some (.slice a2 x.body.length c2) := by
   rw [nO3.cell]
   (repeat rw [Array.getElem?_setIfInBounds, if_neg (by omega)])
   exact q2
  go_wp2_with fail
  refine (markExprS_any x.body _ f2 B0 _ _ ?_ ?_ ?_ ?_).mono ?_
  · exact RepF.touch S2.out nU1 (fun y hy h => by
     rcases List.mem_cons.1 h with rfl | h
     · exact BN2 hy
     · simp only [List.mem_append] at h
       rcases h with h | h
       · exact AP2_0 _ hy h
       · exact AP2_1 _ hy h)
  · exact Fresh.touch FP2 nU1 (fun y hy h => by
     rcases List.mem_cons.1 h with rfl | h
     · exact BN2 hy
     · simp only [List.mem_append] at h
       rcases h with h | h
       · exact AP2_0 _ hy h
       · exact AP2_1 _ hy h)
  · omega
  · omega
  rintro e5 w4 ⟨rfl, hr2, hF2, hT2⟩
  try simp only [Int.add_assoc, Int.reduceAdd] at hT2 hr2
  have nO4 := Own.touch' (nO3) hT2 BN2
  have nU2 : Touch wr w4 (b :: (f0 ++ f1 ++ f2)) := Touch.trans (Touch.mono nU1 (fun y hy => (List.mem_cons.1 hy).elim (fun h => h ▸ List.mem_cons_self) (fun h => List.mem_cons_of_mem _ (List.mem_append_left _ h)))) (Touch.mono hT2 (fun y hy => List.mem_cons_of_mem _ (List.mem_append_right _ hy)))
  replace hr0 := RepF.touch hr0 hT2 AP0_2
  replace hF0 := Fresh.touch hF0 hT2 AP0_2
  replace hr1 := RepF.touch hr1 hT2 AP1_2
  replace hF1 := Fresh.touch hF1 hT2 AP1_2
  have HO : Hid (Own w4 b e (sets C' (o + i * 5) [.string (mtext (K)), .bool ((K + 1) % 3 == 0)])) := LH nO4
  have hFR : Fresh w4 B0 (f0 ++ (f1 ++ f2)) := ⟨HFI.out.nodup, HFI.out.ge, fun y hy => by
   simp only [List.mem_append] at hy
   rcases hy with hy | hy | hy
   · exact hF0.own y hy
   · exact hF1.own y hy
   · exact hF2.own y hy⟩
  have nUU : Touch wr w4 (b :: (f0 ++ (f1 ++ f2))) := Touch.mono nU2 (by intro y hy; simp only [List.mem_cons, List.mem_append, or_assoc] at hy ⊢; exact hy)
  have HRR : Hid (RowIs w4 b o e (sets C' (o + i * 5) [.string (mtext (K)), .bool ((K + 1) % 3 == 0)]) 5 (mkL k0 ((l.take (i + 1)).map MMethod.d) ++ (l.drop (i + 1)).map MMethod.d) fp' B0) := LH (HBK.out _ [.string (mtext (K)), .bool ((K + 1) % 3 == 0)] (by simp only [List.length_cons, List.length_nil]; omega) HO.out nUU (MMethod.mk_shut hr0 (by have h := hr1; simp only [Int.add_assoc] at h ⊢; exact h) (by have h := hr2; simp only [Int.add_assoc] at h ⊢; exact h)) hFR)
  have HTT : Hid (Touch w w4 (b :: fp')) := LH (hT.trans (Touch.mono nUU (by intro y hy; rcases List.mem_cons.1 hy with rfl | hy; exact List.mem_cons_self; exact List.mem_cons_of_mem _ (HSB.out y hy))))
  clear nO4 nU2 hT hF0 hr0 hT0 hF1 hr1 hT1 hF2 hr2 hT2 nUU hFR
  go_wp2_with fail
  go_roundw
  case rel => exact ⟨i + 1, _, by omega, by go_num, by rw [HNX.out]; congr 1; omega, HRR, HTT.out⟩
  case measure => simp [intOf]; omega
theorem MClassDef.op_f {w : World} {x : MClassDef} {cs : List Value} {fp : List Nat} (h : RepF w x.d cs fp) : ∃ (a0 : Option Addr) (c0 : Nat) (f0 : List Nat) (a1 : Option Addr) (c1 : Nat) (f1 : List Nat), cs = [.string x.name, .string x.parent, .slice a0 x.fields.length c0, .slice a1 x.methods.length c1] /\ fp = f0 ++ f1 /\ RepF w (strs x.fields) [.slice a0 x.fields.length c0] f0 /\ RepF w (MMethods x.methods) [.slice a1 x.methods.length c1] f1 := by
 rw [MClassDef.d_eq] at h
 have h1 := RepF.un_st h
 obtain ⟨_, rfl, h2⟩ := RepS.un_str h1
 obtain ⟨_, rfl, h3⟩ := RepS.un_str h2
 obtain ⟨a5, c6, _, f7, g8, rfl, rfl, s9, h4⟩ := RepS.un_sl h3
 obtain ⟨a11, c12, _, f13, g14, rfl, rfl, s15, h10⟩ := RepS.un_sl h4
 simp only [RepS] at h10
 obtain ⟨rfl, rfl⟩ := h10
 simp only [strs, ints, MMethods,  List.length_map] at *
 exact ⟨a5, c6, f7, a11, c12, f13, rfl, by simp, s9, s15⟩
theorem MClassDef.cnt_eq (x : MClassDef) : x.d.cnt = 2 + (strs x.fields).cnt + (MMethods x.methods).cnt := by
 simp only [MClassDef.d_eq, D.cnt, D.cntL]; omega
theorem MClassDef.mk_eq (x : MClassDef) (K : Int) : mkD K x.d = .st [.str (mtext (K)), .str (mtext (K + 1)), mkD (K + 2) (strs x.fields), mkD (K + 2 + ((strs x.fields).cnt : Int)) (MMethods x.methods)] := by
 simp only [MClassDef.d_eq, mkD, mkL, D.cnt]
 simp [Int.add_assoc]
theorem MClassDef.mk_shut {w : World} {x : MClassDef} {K : Int} {v0 : Value} {f0 : List Nat} (h0 : RepF w (mkD (K + 2) (strs x.fields)) [v0] f0) {v1 : Value} {f1 : List Nat} (h1 : RepF w (mkD (K + 2 + ((strs x.fields).cnt : Int)) (MMethods x.methods)) [v1] f1) : RepF w (mkD K x.d) [.string (mtext (K)), .string (mtext (K + 1)), v0, v1] (f0 ++ f1) := by
 rw [MClassDef.mk_eq]
 have := RepF.st (RepS.str (mtext K) (RepS.str (mtext (K + 1)) (RepS.one h0 (RepS.one h1 (RepS.nil w)))))
 simpa using this
theorem MClassDef.cnt_le (x : MClassDef) : x.d.cnt <= 10 + 10 * x.d.bulk := by
 rw [MClassDef.cnt_eq]
 have hb : x.d.bulk = (strs x.fields).bulk + (MMethods x.methods).bulk + x.name.size + x.parent.size := by simp only [MClassDef.d_eq, D.bulk, D.bulkL]; try omega
 have h0 := cnt_strs x.fields
 have h1 : (MMethods x.methods).cnt <= 10 * (MMethods x.methods).bulk := cnt_sl _ fun d hd => by
  obtain ⟨y, hy, rfl⟩ := List.mem_map.1 hd
  exact MMethod.cnt_le y
 omega
theorem markClassDefS_any (l : List MClassDef) : ∀ (v : Value) (fp : List Nat) (B0 : Nat) (k0 : Int) (w : World), RepF w (MClassDefs l) [v] fp -> Fresh w B0 fp -> 0 <= k0 -> k0 + (MClassDefs l).cnt <= 1099511627776 -> Calls Tryz.prog 26 #[v, .int .i64 k0] w (MarkP w (mkD k0 (MClassDefs l)) [v] fp B0 (k0 + (MClassDefs l).cnt)) := by
 intro v fp B0 k0 w hr hF h0 h1
 by_cases hne : l = []
 · subst hne
   obtain ⟨ao, cap, hv, hl, hm, hnn, h⟩ := RepF.sl_iff.1 hr
   simp only [List.cons.injEq, and_true, List.map_nil, List.length_nil] at hv hl
   subst hv
   go_enter Tryz.func26, Tryz.ntmps26
   go_wp2_with fail
   refine wp_loop_rounds 1 ?_
   rw [rounds_succ]
   go_wp2_with fail
   go_ret
   exact ⟨ret_int (by simp [MClassDefs, D.cnt, D.cntL]), hr, hF, Touch.of_ext (XR _) _⟩
 obtain ⟨b, o, cap, e, C, fp', rfl, hl, hm, rfl, hR0⟩ := RowIs.start hr hF (by simpa using hne)
 have hpos : 0 < l.length := by cases l with | nil => exact absurd rfl hne | cons _ _ => simp
 simp only [List.length_map] at hl
 clear hne
 have HM := LH hm
 unfold maxLen at hm
 have HR := LH hr
 have HR0 : Hid (RowIs w b o e C 4 (mkL k0 ((l.take 0).map MClassDef.d) ++ (l.drop 0).map MClassDef.d) fp' B0) := LH (by simpa [mkL] using hR0)
 have HB := LH h1
 clear hr hF hR0 h1
 rw [List.length_map]
 go_enter Tryz.func26, Tryz.ntmps26
 go_wp2_with fail
 go_loopw [1, 5] (fun kv iv wr => ∃ (i : Nat) (C' : Array Value), i <= l.length /\ iv = .int .i64 i /\ kv = .int .i64 (k0 + (D.cntL ((l.take i).map MClassDef.d) : Int)) /\ Hid (RowIs wr b o e C' 4 (mkL k0 ((l.take i).map MClassDef.d) ++ (l.drop i).map MClassDef.d) fp' B0) /\ Touch w wr (b :: fp')) (fun _ iv _ => l.length - (intOf iv).toNat)
 case atStart => exact ⟨0, C, Nat.zero_le _, rfl, by simp [D.cntL], HR0, Touch.of_ext (XR _) _⟩
 case round =>
  obtain ⟨i, C', hi, rfl, rfl, hR, hT⟩ := hrel
  by_cases hlt : i < l.length
  rotate_left
  · obtain rfl : i = l.length := by omega
    have hD := RowIs.done (n := l.length) hR.out (by simp [mkL_length]) hl HM.out hpos
    have e1 : mkL k0 ((l.take l.length).map MClassDef.d) ++ (l.drop l.length).map MClassDef.d = mkL k0 (l.map MClassDef.d) := by simp
    rw [e1] at hD
    have HD : Hid (MarkP w (mkD k0 (MClassDefs l)) [.slice (some ⟨b, o, none⟩) l.length cap] (b :: fp') B0 (k0 + (MClassDefs l).cnt) (.returned (.int .i64 (k0 + (D.cntL ((l.take l.length).map MClassDef.d) : Int)))) wr) := LH ⟨by rw [List.take_length]; rfl, hD.1, hD.2, hT⟩
    clear hD e1
    go_wp2_with fail
    go_ret
    exact HD.out
  obtain ⟨x, hx⟩ : ∃ x, l[i]? = some x := ⟨l[i], by simp [hlt]⟩
  obtain ⟨ci, fi, he, hFi, hbi, hcl, hci, hsub, hback⟩ := hR.out.elem hx (by decide)
  obtain ⟨hc1, hc2⟩ := cnt_at (f := MClassDef.d) hx
  have hc3 := MClassDef.cnt_eq x
  obtain ⟨a0, c0, f0, a1, c1, f1, rfl, rfl, s0, s1⟩ := MClassDef.op_f he
  obtain ⟨K, hKe⟩ : ∃ K : Int, k0 + (D.cntL ((l.take i).map MClassDef.d) : Int) = K := ⟨_, rfl⟩
  rw [hKe] at hback ⊢
  have hK0 : 0 <= K := by omega
  have hcb : K + 2 + ((strs x.fields).cnt : Int) + ((MMethods x.methods).cnt : Int) <= 1099511627776 := by have := HB.out; simp only [MClassDefs, D.cnt] at this; omega
  have HNX : Hid (k0 + (D.cntL ((l.take (i + 1)).map MClassDef.d) : Int) = K + 2 + ((strs x.fields).cnt : Int) + ((MMethods x.methods).cnt : Int)) := LH (by rw [hc1, <- hKe, hc3]; push_cast; omega)
  have hsz : o + i * 4 + 3 < C'.size := (Array.getElem?_eq_some_iff.1 (hci 3 _ rfl)).1
  have hO0 := hR.out.1
  have q0 : C'[o + i * 4 + 2]? = some (.slice a0 x.fields.length c0) := hci 2 _ rfl
  have q1 : C'[o + i * 4 + 3]? = some (.slice a1 x.methods.length c1) := hci 3 _ rfl
  have HBK := LH hback
  have HFI := LH hFi
  have HSB := LH hsub
  have HCI := LH he
  have S0 := LH s0
  have S1 := LH s1
  clear hback hFi hsub hci hcl hc1 hc2 hc3 hKe hx hR he s0 s1
  have hTT : Touch wr wr [b] := Touch.of_ext (XR _) _
  go_wp2_with fail
  refine (markText_any _ _ (by omega) (by omega)).mono ?_
  rintro e2 w1 ⟨rfl, hx1⟩
  try simp only [Int.add_assoc, Int.reduceAdd] at hx1
  have nO1 := Own.ext (hO0) hx1
  have nT1 := Touch.trans (hTT) (Touch.of_ext hx1 _)
  obtain ⟨v0, d0⟩ := nO1.some (o + i * 4) (by first | omega | (simp only [Array.size_setIfInBounds]; omega))
  have z0 := nO1.frozen (o + i * 4)
  go_wp2_with fail
  refine (markText_any _ _ (by omega) (by omega)).mono ?_
  rintro e3 w2 ⟨rfl, hx2⟩
  try simp only [Int.add_assoc, Int.reduceAdd] at hx2
  have nO2 := Own.ext ((nO1).set (o + i * 4) (.string (mtext (K)))) hx2
  have nT2 := Touch.trans ((nT1).setCell (b := b) (o := o + i * 4) (List.mem_singleton.2 rfl) (.string (mtext (K)))) (Touch.of_ext hx2 _)
  clear d0 z0
  obtain ⟨v1, d1⟩ := nO2.some (o + i * 4 + 1) (by first | omega | (simp only [Array.size_setIfInBounds]; omega))
  have z1 := nO2.frozen (o + i * 4 + 1)
  have FP0 : Fresh wr B0 f0 := HFI.out.left
  have AP1_0 : ∀ y, y ∈ f1 -> y ∉ f0 := fun y h1 h2 => HFI.out.apart y h2 h1
  have AP0_1 : ∀ y, y ∈ f0 -> y ∉ f1 := fun y h1 h2 => HFI.out.apart y h1 h2
  have FP1 : Fresh wr B0 f1 := HFI.out.right
  have BN0 : b ∉ f0 := fun h => hbi (by simp [h])
  have BN1 : b ∉ f1 := fun h => hbi (by simp [h])
  have u0 : w2.cell? ⟨b, o + i * 4 + 2, none⟩ = some (.slice a0 x.fields.length c0) := by
   rw [nO2.cell]
   (repeat rw [Array.getElem?_setIfInBounds, if_neg (by omega)])
   exact q0
  go_wp2_with fail
  refine (markStrings_p x.fields _ f0 B0 _ _ ?_ ?_ ?_ ?_).mono ?_
  · exact RepF.touch S0.out ((nT2).setCell (b := b) (o := _) (List.mem_singleton.2 rfl) _) (fun y hy h => BN0 (by simp at h; subst h; exact hy))
  · exact Fresh.touch FP0 ((nT2).setCell (b := b) (o := _) (List.mem_singleton.2 rfl) _) (fun y hy h => BN0 (by simp at h; subst h; exact hy))
  · omega
  · omega
  rintro e4 w3 ⟨rfl, hr0, hF0, hT0⟩
  try simp only [Int.add_assoc, Int.reduceAdd] at hT0 hr0
  have nO3 := Own.touch' ((nO2).set (o + i * 4 + 1) (.string (mtext (K + 1)))) hT0 BN0
  have nU0 : Touch wr w3 (b :: f0) := Touch.trans (Touch.mono ((nT2).setCell (b := b) (o := o + i * 4 + 1) (List.mem_singleton.2 rfl) (.string (mtext (K + 1)))) (by simp)) (Touch.mono hT0 (by intro y hy; simp [hy]))
  clear d1 z1
  have u1 : w3.cell? ⟨b, o + i * 4 + 3, none⟩ = some (.slice a1 x.methods.length c1) := by
   rw [nO3.cell]
   (repeat rw [Array.getElem?_setIfInBounds, if_neg (by omega)])
   exact q1
  go_wp2_with fail
  refine (markMethodS_any x.methods _ f1 B0 _ _ ?_ ?_ ?_ ?_).mono ?_
  · exact RepF.touch S1.out nU0 (fun y hy h => by
     rcases List.mem_cons.1 h with rfl | h
     · exact BN1 hy
     · exact AP1_0 _ hy h)
  · exact Fresh.touch FP1 nU0 (fun y hy h => by
     rcases List.mem_cons.1 h with rfl | h
     · exact BN1 hy
     · exact AP1_0 _ hy h)
  · omega
  · omega
  rintro e5 w4 ⟨rfl, hr1, hF1, hT1⟩
  try simp only [Int.add_assoc, Int.reduceAdd] at hT1 hr1
  have nO4 := Own.touch' (nO3) hT1 BN1
  have nU1 : Touch wr w4 (b :: (f0 ++ f1)) := Touch.trans (Touch.mono nU0 (fun y hy => (List.mem_cons.1 hy).elim (fun h => h ▸ List.mem_cons_self) (fun h => List.mem_cons_of_mem _ (List.mem_append_left _ h)))) (Touch.mono hT1 (fun y hy => List.mem_cons_of_mem _ (List.mem_append_right _ hy)))
  replace hr0 := RepF.touch hr0 hT1 AP0_1
  replace hF0 := Fresh.touch hF0 hT1 AP0_1
  have HO : Hid (Own w4 b e (sets C' (o + i * 4) [.string (mtext (K)), .string (mtext (K + 1))])) := LH nO4
  have hFR : Fresh w4 B0 (f0 ++ f1) := ⟨HFI.out.nodup, HFI.out.ge, fun y hy => by
   simp only [List.mem_append] at hy
   rcases hy with hy | hy
   · exact hF0.own y hy
   · exact hF1.own y hy⟩
  have nUU : Touch wr w4 (b :: (f0 ++ f1)) := Touch.mono nU1 (by intro y hy; simp only [List.mem_cons, List.mem_append, or_assoc] at hy ⊢; exact hy)
  have HRR : Hid (RowIs w4 b o e (sets C' (o + i * 4) [.string (mtext (K)), .string (mtext (K + 1))]) 4 (mkL k0 ((l.take (i + 1)).map MClassDef.d) ++ (l.drop (i + 1)).map MClassDef.d) fp' B0) := LH (HBK.out _ [.string (mtext (K)), .string (mtext (K + 1))] (by simp only [List.length_cons, List.length_nil]; omega) HO.out nUU (MClassDef.mk_shut hr0 (by have h := hr1; simp only [Int.add_assoc] at h ⊢; exact h)) hFR)
  have HTT : Hid (Touch w w4 (b :: fp')) := LH (hT.trans (Touch.mono nUU (by intro y hy; rcases List.mem_cons.1 hy with rfl | hy; exact List.mem_cons_self; exact List.mem_cons_of_mem _ (HSB.out y hy))))
  clear nO4 nU1 hT hF0 hr0 hT0 hF1 hr1 hT1 nUU hFR
  go_wp2_with fail
  go_roundw
  case rel => exact ⟨i + 1, _, by omega, by go_num, by rw [HNX.out]; congr 1; omega, HRR, HTT.out⟩
  case measure => simp [intOf]; omega
theorem MMethod.sh_f {w : World} {x : MMethod} {v0 : Value} {f0 : List Nat} (h0 : RepF w (strs x.params) [v0] f0) {v1 : Value} {f1 : List Nat} (h1 : RepF w (strs x.temps) [v1] f1) {v2 : Value} {f2 : List Nat} (h2 : RepF w (MExprs x.body) [v2] f2) : RepF w x.d [.string x.selector, .bool x.cls, v0, v1, v2] (f0 ++ (f1 ++ f2)) := by
 simp only [MMethod.d_eq]
 have := (RepF.st (RepS.str (x.selector) (RepS.bool (x.cls) (RepS.one h0 (RepS.one h1 (RepS.one h2 (RepS.nil w)))))))
 simpa using this
theorem MMethod.tcnt_eq (x : MMethod) : x.d.tcnt = (strs x.params).cnt + (strs x.temps).cnt + (MExprs x.body).cnt := by
 simp only [MMethod.d_eq, D.tcnt, D.tcntL, strs, D.cnt, strs, D.cnt, MExprs, D.cnt]; omega
theorem MMethod.mt_eq (x : MMethod) (K : Int) : mtD K x.d = .st [.str x.selector, .bool x.cls, mkD (K) (strs x.params), mkD (K + ((strs x.params).cnt : Int)) (strs x.temps), mkD (K + ((strs x.params).cnt : Int) + ((strs x.temps).cnt : Int)) (MExprs x.body)] := by
 simp only [MMethod.d_eq, mtD, mtL, mkD, D.tcnt, strs, strs, MExprs]
 simp [mkD, D.cnt, Int.add_assoc]
theorem MMethod.tcnt_le (x : MMethod) : x.d.tcnt <= 10 * x.d.bulk := by
 rw [MMethod.tcnt_eq]
 have hb : x.d.bulk = (strs x.params).bulk + (strs x.temps).bulk + (MExprs x.body).bulk + x.selector.size := by simp only [MMethod.d_eq, D.bulk, D.bulkL]; try omega
 have h0 := cnt_strs x.params
 have h1 := cnt_strs x.temps
 have h2 : (MExprs x.body).cnt <= 10 * (MExprs x.body).bulk := cnt_sl _ fun d hd => by
  obtain ⟨y, hy, rfl⟩ := List.mem_map.1 hd
  exact MExpr.cnt_le y
 omega
theorem markMethod_any (x : MMethod) (cx : List Value) (fp : List Nat) (B0 : Nat) (K : Int) (w : World) (hr : RepF w x.d cx fp) (hF : Fresh w B0 fp) (h0 : 0 <= K) (h1 : K + x.d.tcnt <= 1099511627776) :
 Calls Tryz.prog 27 #[.agg cx.toArray, .int .i64 K] w (MarkP w (mtD K x.d) cx fp B0 (K + x.d.tcnt)) := by
 have hc := MMethod.tcnt_eq x
 rw [MMethod.mt_eq]
 obtain ⟨a0, c0, f0, a1, c1, f1, a2, c2, f2, rfl, rfl, s0, s1, s2⟩ := MMethod.op_f hr
 clear hr
 rw [hc] at h1 ⊢
 clear hc
 have r0 := s0
 have r1 := s1
 have r2 := s2
 clear s0 s1 s2
 have F0 : Fresh w B0 (f0) := hF.left
 have A1_0 : ∀ b, b ∈ f1 -> b ∉ f0 := fun b h1 h2 => hF.apart b h2 (List.mem_append_left _ h1)
 have A0_1 : ∀ b, b ∈ f0 -> b ∉ f1 := fun b h1 h2 => hF.apart b h1 (List.mem_append_left _ h2)
 have A2_0 : ∀ b, b ∈ f2 -> b ∉ f0 := fun b h1 h2 => hF.apart b h2 (List.mem_append_right _ h1)
 have A0_2 : ∀ b, b ∈ f0 -> b ∉ f2 := fun b h1 h2 => hF.apart b h1 (List.mem_append_right _ h2)
 have F1 : Fresh w B0 (f1) := hF.right.left
 have A2_1 : ∀ b, b ∈ f2 -> b ∉ f1 := fun b h1 h2 => hF.right.apart b h2 h1
 have A1_2 : ∀ b, b ∈ f1 -> b ∉ f2 := fun b h1 h2 => hF.right.apart b h1 h2
 have F2 : Fresh w B0 (f2) := hF.right.right
 have L0 : ∀ b, b ∈ f0 -> b < w.heap.size := fun b hb => F0.lt hb
 have L1 : ∀ b, b ∈ f1 -> b < w.heap.size := fun b hb => F1.lt hb
 have L2 : ∀ b, b ∈ f2 -> b < w.heap.size := fun b hb => F2.lt hb
 have HFF := LH hF
 go_enter Tryz.func27, Tryz.ntmps27
 go_upto_region 1 with fail
 generalize hS : World.alloc w _ = W0
 have x0 : Ext w W0 := by rw [<- hS]; exact (XR _).alloc _
 have m0 : W0.cell? ⟨w.heap.size, 0, none⟩ = some (.string x.selector) := by rw [<- hS]; simp
 have m1 : W0.cell? ⟨w.heap.size, 1, none⟩ = some (.bool x.cls) := by rw [<- hS]; simp
 have m2 : W0.cell? ⟨w.heap.size, 2, none⟩ = some (.slice a0 x.params.length c0) := by rw [<- hS]; simp
 have m3 : W0.cell? ⟨w.heap.size, 3, none⟩ = some (.slice a1 x.temps.length c1) := by rw [<- hS]; simp
 have m4 : W0.cell? ⟨w.heap.size, 4, none⟩ = some (.slice a2 x.body.length c2) := by rw [<- hS]; simp
 clear hS hF
 replace r0 := RepF.ext x0 r0
 replace F0 := Fresh.ext F0 x0
 replace r1 := RepF.ext x0 r1
 replace F1 := Fresh.ext F1 x0
 replace r2 := RepF.ext x0 r2
 replace F2 := Fresh.ext F2 x0
 have U : Touch w W0 (f0 ++ (f1 ++ f2)) := Touch.of_ext x0 _
 have R0 := LH r0; clear r0
 go_wp2_with fail
 refine (markStrings_p x.params _ (f0) B0 _ _ R0.out F0 (by omega) (by omega)).mono ?_
 rintro e w0 ⟨rfl, r0, G0, hT⟩
 clear F0
 have F0 := G0; clear G0
 replace m0 := Touch.cellAt hT (fun h => absurd (L0 _ h) (Nat.lt_irrefl _)) m0
 replace m1 := Touch.cellAt hT (fun h => absurd (L0 _ h) (Nat.lt_irrefl _)) m1
 replace m2 := Touch.cellAt hT (fun h => absurd (L0 _ h) (Nat.lt_irrefl _)) m2
 replace m3 := Touch.cellAt hT (fun h => absurd (L0 _ h) (Nat.lt_irrefl _)) m3
 replace m4 := Touch.cellAt hT (fun h => absurd (L0 _ h) (Nat.lt_irrefl _)) m4
 replace r1 := RepF.touch r1 hT A1_0
 replace F1 := Fresh.touch F1 hT A1_0
 replace r2 := RepF.touch r2 hT A2_0
 replace F2 := Fresh.touch F2 hT A2_0
 replace U := Touch.trans U (Touch.mono hT (fun y hy => (List.mem_append_left _ hy)))
 clear hT
 have R1 := LH r1; clear r1
 go_wp2_with fail
 refine (markStrings_p x.temps _ (f1) B0 _ _ R1.out F1 (by omega) (by omega)).mono ?_
 rintro e w1 ⟨rfl, r1, G1, hT⟩
 clear F1
 have F1 := G1; clear G1
 replace m0 := Touch.cellAt hT (fun h => absurd (L1 _ h) (Nat.lt_irrefl _)) m0
 replace m1 := Touch.cellAt hT (fun h => absurd (L1 _ h) (Nat.lt_irrefl _)) m1
 replace m2 := Touch.cellAt hT (fun h => absurd (L1 _ h) (Nat.lt_irrefl _)) m2
 replace m3 := Touch.cellAt hT (fun h => absurd (L1 _ h) (Nat.lt_irrefl _)) m3
 replace m4 := Touch.cellAt hT (fun h => absurd (L1 _ h) (Nat.lt_irrefl _)) m4
 replace r0 := RepF.touch r0 hT A0_1
 replace F0 := Fresh.touch F0 hT A0_1
 replace r2 := RepF.touch r2 hT A2_1
 replace F2 := Fresh.touch F2 hT A2_1
 replace U := Touch.trans U (Touch.mono hT (fun y hy => (List.mem_append_right _ (List.mem_append_left _ hy))))
 clear hT
 have R2 := LH r2; clear r2
 go_wp2_with fail
 refine (markExprS_any x.body _ (f2) B0 _ _ R2.out F2 (by omega) (by omega)).mono ?_
 rintro e w2 ⟨rfl, r2, G2, hT⟩
 clear F2
 have F2 := G2; clear G2
 replace m0 := Touch.cellAt hT (fun h => absurd (L2 _ h) (Nat.lt_irrefl _)) m0
 replace m1 := Touch.cellAt hT (fun h => absurd (L2 _ h) (Nat.lt_irrefl _)) m1
 replace m2 := Touch.cellAt hT (fun h => absurd (L2 _ h) (Nat.lt_irrefl _)) m2
 replace m3 := Touch.cellAt hT (fun h => absurd (L2 _ h) (Nat.lt_irrefl _)) m3
 replace m4 := Touch.cellAt hT (fun h => absurd (L2 _ h) (Nat.lt_irrefl _)) m4
 replace r0 := RepF.touch r0 hT A0_2
 replace F0 := Fresh.touch F0 hT A0_2
 replace r1 := RepF.touch r1 hT A1_2
 replace F1 := Fresh.touch F1 hT A1_2
 replace U := Touch.trans U (Touch.mono hT (fun y hy => (List.mem_append_right _ (List.mem_append_right _ hy))))
 clear hT
 have HE := RepF.st (RepS.str (x.selector) (RepS.bool (x.cls) (RepS.one r0 (RepS.one r1 (RepS.one r2 (RepS.nil _))))))
 simp only [List.append_nil, List.cons_append, List.nil_append] at HE
 have HQ := LH HE
 clear HE
 have HFR : Fresh w2 B0 (f0 ++ (f1 ++ f2)) := ⟨HFF.out.nodup, HFF.out.ge, fun b hb => by
  simp only [List.mem_append] at hb
  rcases hb with hb | hb
  · exact F0.own b hb
  rcases hb with hb | hb
  · exact F1.own b hb
  · exact F2.own b hb⟩
 go_wp2_with fail
 go_ret
 exact ⟨ret_int (by first | rfl | (push_cast; omega)), HQ.out, HFR, U⟩
theorem MUnit.op_f {w : World} {x : MUnit} {cs : List Value} {fp : List Nat} (h : RepF w x.d cs fp) : ∃ (a0 : Option Addr) (c0 : Nat) (f0 : List Nat) (a1 : Option Addr) (c1 : Nat) (f1 : List Nat) (a2 : Option Addr) (c2 : Nat) (f2 : List Nat) (a3 : Option Addr) (c3 : Nat) (f3 : List Nat), cs = [.slice a0 x.classes.length c0, .string x.main.selector, .bool x.main.cls, .slice a1 x.main.params.length c1, .slice a2 x.main.temps.length c2, .slice a3 x.main.body.length c3] /\ fp = f0 ++ (f1 ++ (f2 ++ f3)) /\ RepF w (MClassDefs x.classes) [.slice a0 x.classes.length c0] f0 /\ RepF w (strs x.main.params) [.slice a1 x.main.params.length c1] f1 /\ RepF w (strs x.main.temps) [.slice a2 x.main.temps.length c2] f2 /\ RepF w (MExprs x.main.body) [.slice a3 x.main.body.length c3] f3 := by
 rw [MUnit.d_eq] at h
 have h1 := RepF.un_st h
 obtain ⟨a3, c4, _, f5, g6, rfl, rfl, s7, h2⟩ := RepS.un_sl h1
 obtain ⟨_, _, f9, g10, rfl, rfl, s11, h8⟩ := RepS.un_sub h2
 rw [MMethod.d_eq] at s11
 have h12 := RepF.un_st s11
 obtain ⟨_, rfl, h13⟩ := RepS.un_str h12
 obtain ⟨_, rfl, h14⟩ := RepS.un_bool h13
 obtain ⟨a16, c17, _, f18, g19, rfl, rfl, s20, h15⟩ := RepS.un_sl h14
 obtain ⟨a22, c23, _, f24, g25, rfl, rfl, s26, h21⟩ := RepS.un_sl h15
 obtain ⟨a28, c29, _, f30, g31, rfl, rfl, s32, h27⟩ := RepS.un_sl h21
 simp only [RepS] at h27
 obtain ⟨rfl, rfl⟩ := h27
 simp only [RepS] at h8
 obtain ⟨rfl, rfl⟩ := h8
 simp only [strs, ints, MClassDefs, MExprs,  List.length_map] at *
 exact ⟨a3, c4, f5, a16, c17, f18, a22, c23, f24, a28, c29, f30, rfl, by simp, s7, s20, s26, s32⟩
theorem MUnit.tcnt_eq (x : MUnit) : x.d.tcnt = (MClassDefs x.classes).cnt + (x.main.d).tcnt := by
 simp only [MUnit.d_eq, D.tcnt, D.tcntL, MClassDefs, D.cnt]; omega
theorem MUnit.mt_eq (x : MUnit) (K : Int) : mtD K x.d = .st [mkD (K) (MClassDefs x.classes), mtD (K + ((MClassDefs x.classes).cnt : Int)) x.main.d] := by
 simp only [MUnit.d_eq, mtD, mtL, mkD, D.tcnt, MClassDefs]
 simp [mkD, D.cnt, Int.add_assoc]
theorem MUnit.tcnt_le (x : MUnit) : x.d.tcnt <= 10 * x.d.bulk := by
 rw [MUnit.tcnt_eq]
 have hb : x.d.bulk = (MClassDefs x.classes).bulk + (x.main.d).bulk := by simp only [MUnit.d_eq, D.bulk, D.bulkL]; try omega
 have h0 : (MClassDefs x.classes).cnt <= 10 * (MClassDefs x.classes).bulk := cnt_sl _ fun d hd => by
  obtain ⟨y, hy, rfl⟩ := List.mem_map.1 hd
  exact MClassDef.cnt_le y
 have h1 := MMethod.tcnt_le x.main
 omega
theorem markUnit_any (x : MUnit) (cx : List Value) (fp : List Nat) (B0 : Nat) (K : Int) (w : World) (hr : RepF w x.d cx fp) (hF : Fresh w B0 fp) (h0 : 0 <= K) (h1 : K + x.d.tcnt <= 1099511627776) :
 Calls Tryz.prog 7 #[.agg cx.toArray, .int .i64 K] w (MarkP w (mtD K x.d) cx fp B0 (K + x.d.tcnt)) := by
 have hc := MUnit.tcnt_eq x
 rw [MUnit.mt_eq]
 obtain ⟨a0, c0, f0, a1, c1, f1, a2, c2, f2, a3, c3, f3, rfl, rfl, s0, s1, s2, s3⟩ := MUnit.op_f hr
 clear hr
 rw [hc] at h1 ⊢
 clear hc
 have r0 := s0
 have r1 := MMethod.sh_f (x := x.main) s1 s2 s3
 clear s0 s1 s2 s3
 have F0 : Fresh w B0 (f0) := hF.left
 have A1_0 : ∀ b, b ∈ f1 ++ (f2 ++ f3) -> b ∉ f0 := fun b h1 h2 => hF.apart b h2 h1
 have A0_1 : ∀ b, b ∈ f0 -> b ∉ f1 ++ (f2 ++ f3) := fun b h1 h2 => hF.apart b h1 h2
 have F1 : Fresh w B0 (f1 ++ (f2 ++ f3)) := hF.right
 have L0 : ∀ b, b ∈ f0 -> b < w.heap.size := fun b hb => F0.lt hb
 have L1 : ∀ b, b ∈ f1 ++ (f2 ++ f3) -> b < w.heap.size := fun b hb => F1.lt hb
 have HFF := LH hF
 go_enter Tryz.func7, Tryz.ntmps7
 go_upto_region 1 with fail
 generalize hS : World.alloc w _ = W0
 have x0 : Ext w W0 := by rw [<- hS]; exact (XR _).alloc _
 have m0 : W0.cell? ⟨w.heap.size, 0, none⟩ = some (.slice a0 x.classes.length c0) := by rw [<- hS]; simp
 have m1 : W0.cell? ⟨w.heap.size, 1, none⟩ = some (.string x.main.selector) := by rw [<- hS]; simp
 have m2 : W0.cell? ⟨w.heap.size, 2, none⟩ = some (.bool x.main.cls) := by rw [<- hS]; simp
 have m3 : W0.cell? ⟨w.heap.size, 3, none⟩ = some (.slice a1 x.main.params.length c1) := by rw [<- hS]; simp
 have m4 : W0.cell? ⟨w.heap.size, 4, none⟩ = some (.slice a2 x.main.temps.length c2) := by rw [<- hS]; simp
 have m5 : W0.cell? ⟨w.heap.size, 5, none⟩ = some (.slice a3 x.main.body.length c3) := by rw [<- hS]; simp
 clear hS hF
 replace r0 := RepF.ext x0 r0
 replace F0 := Fresh.ext F0 x0
 replace r1 := RepF.ext x0 r1
 replace F1 := Fresh.ext F1 x0
 have U : Touch w W0 (f0 ++ (f1 ++ (f2 ++ f3))) := Touch.of_ext x0 _
 have R0 := LH r0; clear r0
 go_wp2_with fail
 refine (markClassDefS_any x.classes _ (f0) B0 _ _ R0.out F0 (by omega) (by omega)).mono ?_
 rintro e w0 ⟨rfl, r0, G0, hT⟩
 clear F0
 have F0 := G0; clear G0
 replace m0 := Touch.cellAt hT (fun h => absurd (L0 _ h) (Nat.lt_irrefl _)) m0
 replace m1 := Touch.cellAt hT (fun h => absurd (L0 _ h) (Nat.lt_irrefl _)) m1
 replace m2 := Touch.cellAt hT (fun h => absurd (L0 _ h) (Nat.lt_irrefl _)) m2
 replace m3 := Touch.cellAt hT (fun h => absurd (L0 _ h) (Nat.lt_irrefl _)) m3
 replace m4 := Touch.cellAt hT (fun h => absurd (L0 _ h) (Nat.lt_irrefl _)) m4
 replace m5 := Touch.cellAt hT (fun h => absurd (L0 _ h) (Nat.lt_irrefl _)) m5
 replace r1 := RepF.touch r1 hT A1_0
 replace F1 := Fresh.touch F1 hT A1_0
 replace U := Touch.trans U (Touch.mono hT (fun y hy => (List.mem_append_left _ hy)))
 clear hT
 have R1 := LH r1; clear r1
 go_wp2_with fail
 refine (markMethod_any x.main _ (f1 ++ (f2 ++ f3)) B0 _ _ R1.out F1 (by omega) (by omega)).mono ?_
 rintro e w1 ⟨rfl, r1, G1, hT⟩
 clear F1
 have F1 := G1; clear G1
 replace m0 := Touch.cellAt hT (fun h => absurd (L1 _ h) (Nat.lt_irrefl _)) m0
 replace m1 := Touch.cellAt hT (fun h => absurd (L1 _ h) (Nat.lt_irrefl _)) m1
 replace m2 := Touch.cellAt hT (fun h => absurd (L1 _ h) (Nat.lt_irrefl _)) m2
 replace m3 := Touch.cellAt hT (fun h => absurd (L1 _ h) (Nat.lt_irrefl _)) m3
 replace m4 := Touch.cellAt hT (fun h => absurd (L1 _ h) (Nat.lt_irrefl _)) m4
 replace m5 := Touch.cellAt hT (fun h => absurd (L1 _ h) (Nat.lt_irrefl _)) m5
 replace r0 := RepF.touch r0 hT A0_1
 replace F0 := Fresh.touch F0 hT A0_1
 replace U := Touch.trans U (Touch.mono hT (fun y hy => (List.mem_append_right _ hy)))
 clear hT
 have HE := RepF.st (RepS.one r0 (RepS.sub r1 (RepS.nil _)))
 simp only [List.append_nil, List.cons_append, List.nil_append] at HE
 have HQ := LH HE
 clear HE
 have HFR : Fresh w1 B0 (f0 ++ (f1 ++ (f2 ++ f3))) := ⟨HFF.out.nodup, HFF.out.ge, fun b hb => by
  simp only [List.mem_append] at hb
  rcases hb with hb | hb
  · exact F0.own b hb
  · exact F1.own b (by simp only [List.mem_append]; exact hb)⟩
 go_wp2_with fail
 go_ret
 exact ⟨ret_int (by first | rfl | (push_cast; omega)), HQ.out, HFR, U⟩
end Go.Proofs.YtlcebafhbceejaaGreatDoor
