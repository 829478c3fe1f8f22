/-
  SEVERAL TEXTS IN ONE: CONTRACTS: the reference's parser: keywords, message, statements; CONTRACTS: the reference's parser: statements, block.
  Conditions: those that each lemma states.
-/
import Derived.Test.YtlcebafhbceejaaGreatDoorRows
import Derived.Test.YtlcebafhbceejaaGreatDoorP25
import Derived.Test.YtlcebafhbceejaaGreatDoorP18
namespace Go.Proofs.YtlcebafhbceejaaGreatDoor
open Go.RowKit
set_option maxHeartbeats 8000000
set_option maxRecDepth 100000
set_option linter.unusedSimpArgs false
set_option linter.unusedVariables false
theorem rkeywords_at {B tb to_ cap : Nat} {ao : Option Addr} {ts : List MToken} {a : Nat} (HBI : ∀ a', a < a' -> RBinAt B tb to_ cap ao ts a') : RKeyAt B tb to_ cap ao ts a := by
 intro w b h
 have HP := LH h
 have hln := h.len
 have hle := h.le
 have hrb := h.own.lt
 have HBI := LH HBI
 have H0 := LH (Todo.refl b (fun n => pKeys ts n ⟨#[]⟩ [] a))
 clear h
 go_enter Tryz.func73, Tryz.ntmps73
 go_wp2_with fail
 generalize hS : World.alloc w _ = W1
 have x1 : Ext w W1 := by rw [<- hS]; exact (XR _).alloc _
 have A1 : Hid (AccX w.heap.size W1 (.slice (some ⟨w.heap.size, 0, none⟩) 0 0) []) := LH (Acw.of (by rw [<- hS]; exact Acc.empty 70 5 (Nat.le_refl _)))
 have HP1 := LH (HP.out.ext x1)
 clear hS
 go_loopw [4, 5] (fun tv av wr => ∃ (s : ByteArray) (l : List MExpr) (j : Nat) (bj : Bool), tv = .string s /\ AccX w.heap.size wr av l /\ Prs 38 B tb to_ cap ao ts wr (j) bj /\ Hid (Todo b (fun n => pKeys ts n ⟨#[]⟩ [] a) bj (fun n => pKeys ts n s l j)) /\ l.length + a <= j /\ s.size <= 100000 * (j - a) /\ Hid ((j = a /\ s = ⟨#[]⟩ /\ l = [] /\ bj = b) ∨ (b = false /\ tkB ts a 2 = true /\ s.size ≠ 0)) /\ Touch w wr [B]) (fun _ _ wr => ts.length + 1 - placeOf B wr)
 case atStart => exact ⟨⟨#[]⟩, [], a, b, rfl, A1.out, HP1.out, H0, by simp, Nat.zero_le _, LH (Or.inl ⟨rfl, rfl, rfl, rfl⟩), Touch.of_ext x1 _⟩
 case round =>
  clear A1 HP1 H0
  obtain ⟨av, hav⟩ : ∃ x, x = u5 := ⟨_, rfl⟩
  subst hav
  obtain ⟨s, l, j, bj, rfl, hA, hp, HTD, hlj, hsz, HE, hT⟩ := hrel
  have HA := LH hA
  have HPj := LH hp
  have HPM := LH hp
  have HT := LH hT
  obtain ⟨c0, c1, c2⟩ := hp.cells
  have zB := lt_of_cell c0
  have hjl := hp.le
  have hws := hT.size
  have HWD : Hid (tkB ts j 2 = true -> (tkT ts j).size ≠ 0) := LH (fun h => hp.word ((kind_eq (by decide)).1 h))
  clear hA hp hT
  cases bj
  rotate_left
  · have FIN : Hid (RKGot B tb to_ cap ao ts w a b (.returned (.tuple #[.string s, av])) wr) := LH ⟨s, l, av, j, true, rfl, HA.out, HPj.out, HTD.out.dead _, hlj, hsz, (fun h2 => by
     rcases HE.out with ⟨h1, h3, h4, h5⟩ | ⟨h1, h3, h4⟩
     · exact ⟨h3, h1, h5, h4⟩
     · rw [h3] at h2; cases h2), (fun hb0 h2 => by
     rcases HE.out with ⟨h1, h3, h4, h5⟩ | ⟨h1, h3, h4⟩
     · rw [hb0] at h5; cases h5
     · exact h4), HT.out⟩
    clear HTD
    go_wp2_with fail
    go_ret2
    exact FIN.out
  have HI := risk_any _ HPj.out 2 (by decide)
  cases hb : tkB ts j 2
  · have HG : Hid (Got b (fun n => pKeys ts n ⟨#[]⟩ [] a) false (s, l, j)) := LH (HTD.out.done (fun n => by rw [pKeys, if_neg (by rw [hb]; decide)]))
    have HNB := LH hb
    rw [hb] at HI
    have HI2 := LH HI
    clear HTD hb HI
    go_wp2_with fail
    refine HI2.out.mono ?_
    rintro e w1 ⟨rfl, hx⟩
    have FIN : Hid (RKGot B tb to_ cap ao ts w a b (.returned (.tuple #[.string s, av])) w1) := LH ⟨s, l, av, j, false, rfl, HA.out.ext hx, HPj.out.ext hx, HG.out, hlj, hsz, (fun h2 => by
     rcases HE.out with ⟨h1, h3, h4, h5⟩ | ⟨h1, h3, h4⟩
     · exact ⟨h3, h1, h5, h4⟩
     · rw [h3] at h2; cases h2), (fun hb0 h2 => by
     rcases HE.out with ⟨h1, h3, h4, h5⟩ | ⟨h1, h3, h4⟩
     · subst h1; rw [HNB.out] at h2; cases h2
     · exact h4), HT.out.trans (Touch.of_ext hx _)⟩
    go_wp2_with fail
    go_ret2
    exact FIN.out
  rw [hb] at HI
  have HI2 := LH HI
  have hjt := kind_lt (by decide) hb
  have htz := HPj.out.txt j
  have hwz := HWD.out hb
  have HE2 : Hid (b = false /\ tkB ts a 2 = true) := LH (by
   rcases HE.out with ⟨h1, h3, h4, h5⟩ | ⟨h1, h3, h4⟩
   · subst h1; exact ⟨h5.symm, hb⟩
   · exact ⟨h1, h3⟩)
  have HTK := LH (fun (W : World) (hp : Prs 38 B tb to_ cap ao ts W (j) false) => rneedk_yes W hp 2 (by decide) hb)
  have HTC := LH (fun (y : MExpr) (s2 : Bool) (a2 : Nat) (b2 : Bool) (hg : Got false (fun n => pBinary ts n (j + 1)) b2 (y, s2, a2)) => HTD.out.call hg (g := fun n r => pKeys ts n (s ++ tkT ts j) (l ++ [r.1]) r.2.2) (fun n => by rw [pKeys, if_pos hb]))
  clear HTD hb HI HE HWD
  go_wp2_with fail
  refine HI2.out.mono ?_
  rintro e w1 ⟨rfl, hx⟩
  have HP1 := LH (HPj.out.ext hx)
  have HA1 := LH (HA.out.ext hx)
  have HT1 := LH (HT.out.trans (Touch.of_ext hx [B]))
  have hs1 := hx.size
  clear HA HPj HT c0 c1 c2 zB hx HI2
  obtain ⟨tx, htx⟩ : ∃ t, tkT ts j = t := ⟨_, rfl⟩
  rw [htx] at HTK HTC htz hwz
  clear htx
  go_wp2_with fail
  refine (HTK.out _ HP1.out).mono ?_
  rintro e w2 ⟨rfl, K2, T2⟩
  have HA2 := LH (HA1.out.touch T2 (fun k hk => by simp at hk; omega))
  have hs2 := T2.size
  have HT2 := LH (HT1.out.trans T2)
  have HU := LH (HBI.out (j + 1) (by omega) w2 false K2 (by omega))
  have hst : s.size <= 80100000 := by omega
  have hcat : (s ++ tx).size = s.size + tx.size := ByteArray.size_append
  have HCAT := LH hcat
  have HA1B : Hid (∀ k, av.ownBlock = some k -> k < w2.heap.size) := LH fun k hk => (Acw.ge HA2.out hk).2
  clear K2 T2 HA1 HT1 HTK hcat
  go_wp2_with fail
  refine HU.out.mono ?_
  rintro e w3 ⟨y, ds, gp, s2, a2, b2, rfl, hr2, hf2, hp2, hg2, -, hm2, hT2⟩
  have HA3 := LH (HA2.out.touch hT2 (fun k hk => by simp at hk; omega))
  have HT3 := LH (HT2.out.trans hT2)
  have HTD2 := LH (HTC.out y s2 a2 b2 hg2)
  have HP3 := LH hp2
  have HS3 := LH hr2
  have HF3 := LH hf2
  have hs3 := hT2.size
  obtain ⟨u1, u2, u3, u4, rfl⟩ := fld5 hr2
  clear hr2 hf2 hp2 hg2 hT2 HA2 HT2 HU HTC
  go_upto_region 6 with fail
  generalize hS : World.alloc w3 _ = W4
  have x4 : Ext w3 W4 := by rw [<- hS]; exact (XR _).alloc _
  have OY : Own W4 w3.heap.size 70 #[.int .i64 y.kind, .string y.text, .int .i64 y.number, .slice u1 y.names.length u2, .slice u3 y.kids.length u4] := by rw [<- hS]; exact own_new w3 _ _
  have HA4 := LH (HA3.out.ext x4)
  have HP4 := LH (HP3.out.ext x4)
  have HS4 := LH (HS3.out.ext x4)
  have HT4 := LH (HT3.out.trans (Touch.of_ext x4 [B]))
  have hs4 := x4.size
  clear hS x4 HA3 HP3 HS3 HT3
  generalize hyb : w3.heap.size = yb at *
  clear hyb
  have r0 := OY.k0
  have r1 := OY.k1
  have r2 := OY.k2
  have r3 := OY.k3
  have r4 := OY.k4
  have rz := OY.lt
  have x5 : Ext W4 (W4.alloc (.cells #[.int .i64 y.kind, .string y.text, .int .i64 y.number, .slice u1 y.names.length u2, .slice u3 y.kids.length u4] 70)) := (XR W4).alloc _
  have KD := HA4.out.ext x5
  have HSL := one_expr (HS4.out.ext x5) (own_new W4 #[.int .i64 y.kind, .string y.text, .int .i64 y.number, .slice u1 y.names.length u2, .slice u3 y.kids.length u4] 70)
  go_wp2_with (at_builtin; refine wpList_append_x rfl _ _ rfl w.heap.size av l rfl KD [y] _ _ _ (W4.heap.size :: gp) rfl HSL (fun k hk => by have := HF3.out k hk; omega) (fun k hk hm => by have h1 := HF3.out k hm; have h2 := (HA1B.out k hk); omega) (by simp; omega) (by simp; omega) ?_)
  intro a1 k1 w6 ac1 g1 m1
  have TG : Touch (W4.alloc (.cells #[.int .i64 y.kind, .string y.text, .int .i64 y.number, .slice u1 y.names.length u2, .slice u3 y.kids.length u4] 70)) w6 av.ownBlock.toList := (Touch.of_ext (XR _) _).grown g1 fun k hk => Or.inl (by simp [hk])
  have HK6 := LH (HP.out.late (HP4.out.ext x5) TG (fun k hk => (Acw.ge KD (k := k) (by simpa using hk)).1))
  have HT6 := LH ((HT4.out.trans (Touch.of_ext x5 [B])).late2 TG (fun k hk => (Acw.ge KD (k := k) (by simpa using hk)).1))
  have HAC := LH ac1
  have hsz2 : (s ++ tx).size <= 100000 * (a2 - a) := by rw [HCAT.out]; omega
  have HE3 : Hid ((a2 = a /\ s ++ tx = ⟨#[]⟩ /\ l ++ [y] = [] /\ b2 = b) ∨ (b = false /\ tkB ts a 2 = true /\ (s ++ tx).size ≠ 0)) := LH (Or.inr ⟨HE2.out.1, HE2.out.2, by rw [HCAT.out]; omega⟩)
  clear KD HSL g1 m1 TG ac1 x5 OY r0 r1 r2 r3 r4 rz HE2
  generalize hv1 : Value.slice a1 (l.length + [y].length) k1 = v1 at *
  go_wp2_with fail
  refine ⟨⟨s ++ tx, l ++ [y], a2, b2, rfl, HAC.out, HK6.out, HTD2, ?_, hsz2, HE3, HT6.out⟩, ?_⟩
  · simp; omega
  · rw [placeOf_eq HPM.out, placeOf_eq HK6.out]; have := HK6.out.le; omega
theorem rmessage_at {B tb to_ cap : Nat} {ao : Option Addr} {ts : List MToken} {a : Nat} (HUN : ∀ a', a < a' -> RUnAt B tb to_ cap ao ts a') (HKE : RKeyAt B tb to_ cap ao ts a) : RMsgAt B tb to_ cap ao ts a := by
 intro w b h
 have HP := LH h
 have hln := h.len
 have hle := h.le
 have hrb := h.own.lt
 have HUN := LH HUN
 have HKE := LH HKE
 have htz := h.txt a
 have HWD : Hid (tkB ts a 2 = true -> (tkT ts a).size ≠ 0) := LH (fun h2 => h.word ((kind_eq (by decide)).1 h2))
 clear h
 go_enter Tryz.func75, Tryz.ntmps75
 go_upto_region 1 with fail
 generalize hS : World.alloc w _ = W1
 have x1 : Ext w W1 := by rw [<- hS]; exact (XR _).alloc _
 have O1 : Own W1 w.heap.size 70 #[.int .i64 0, .string ⟨#[]⟩, .int .i64 0, .slice none 0 0, .slice none 0 0] := by rw [<- hS]; exact own_new w _ _
 clear hS
 have HP1 := LH (HP.out.ext x1)
 have HT1 : Hid (Touch w W1 [B]) := LH (Touch.of_ext x1 _)
 have hs1 := x1.size
 have hro := O1.lt
 clear x1
 have HI := risk_any _ HP1.out 1 (by decide)
 cases hb1 : tkB ts a 1
 rotate_left
 · rw [hb1] at HI
   have HI2 := LH HI
   have TB := LH hb1
   have hjt := kind_lt (by decide) hb1
   clear HI hb1
   go_wp2_with fail
   refine HI2.out.mono ?_
   rintro e w2 ⟨rfl, hx⟩
   have HC := LH (rneedk_yes w2 (HP1.out.ext hx) 1 (by decide) TB.out)
   obtain ⟨tx, htx⟩ : ∃ t, tkT ts a = t := ⟨_, rfl⟩
   rw [htx] at HC
   have HTX := LH htx
   have O2 := O1.ext hx
   have HT2 := LH (HT1.out.trans (Touch.of_ext hx [B]))
   clear hx HI2 O1 HT1 htx
   go_wp2_with fail
   refine HC.out.mono ?_
   rintro e w3 ⟨rfl, K3, T3⟩
   have O3 := O2.touch' T3 (by simp; omega)
   have HP3 := LH K3
   have HT3 := LH (HT2.out.trans T3)
   clear K3 T3 O2 HT2 HC
   have o0 := O3.k0
   have of0 := O3.f0
   have o1 := O3.k1
   have of1 := O3.f1
   have o2 := O3.k2
   have of2 := O3.f2
   have o3 := O3.k3
   have of3 := O3.f3
   have o4 := O3.k4
   have of4 := O3.f4
   have oz := O3.lt
   go_wp2_with fail
   generalize hS : World.setCell (World.setCell (World.setCell (World.setCell (World.setCell w3 _ _) _ _) _ _) _ _) _ _ = W9
   obtain ⟨O9, T9⟩ := own5 O3 (.int .i64 6) (.string tx) (.int .i64 0) (.slice none 0 0) (.slice none 0 0)
   rw [hS] at O9 T9
   clear hS
   have p0 := O9.k0
   have p1 := O9.k1
   have p2 := O9.k2
   have p3 := O9.k3
   have p4 := O9.k4
   have pz := O9.lt
   have FIN : RGot B tb to_ cap _ ts w a b (fun n => pMsg ts n a) (.returned (.agg #[.int .i64 6, .string tx, .int .i64 0, .slice none 0 0, .slice none 0 0])) W9 := ⟨eMsg tx [], _, [], a + 1, b, rfl, leaf_rep _ _ _ _, (fun k hk => nomatch hk), HP.out.late HP3.out T9 (fun k hk => by simp at hk; omega), Got.ok (Ev.step (g := fun _ => some (eMsg tx [], a + 1)) (fun n => by rw [pMsg, if_pos TB.out, HTX.out]) (Ev.const _)), by omega, HT3.out.late2 T9 (fun k hk => by simp at hk; omega)⟩
   exact bodyPost_ret (v := .agg #[.int .i64 6, .string tx, .int .i64 0, .slice none 0 0, .slice none 0 0]) (by simp [results, Tryz.results75, go_sem, p0, p1, p2, p3, p4, pz]) rfl FIN
 have NB1 := LH hb1
 rw [hb1] at HI
 have HI2 := LH HI
 clear HI hb1
 go_wp2_with fail
 refine HI2.out.mono ?_
 rintro e w2 ⟨rfl, hx⟩
 have HP2 := LH (HP1.out.ext hx)
 have O2 := O1.ext hx
 have HT2 := LH (HT1.out.trans (Touch.of_ext hx [B]))
 have hs2 := hx.size
 clear hx HI2 O1 HT1 HP1
 have HI := risk_any _ HP2.out 6 (by decide)
 cases hb6 : tkB ts a 6
 rotate_left
 · rw [hb6] at HI
   have HI2 := LH HI
   have TB := LH hb6
   have hjt := kind_lt (by decide) hb6
   clear HI hb6
   go_wp2_with fail
   refine HI2.out.mono ?_
   rintro e w3 ⟨rfl, hx⟩
   have HC := LH (rneedk_yes w3 (HP2.out.ext hx) 6 (by decide) TB.out)
   obtain ⟨tx, htx⟩ : ∃ t, tkT ts a = t := ⟨_, rfl⟩
   rw [htx] at HC
   have HTX := LH htx
   have O3 := O2.ext hx
   have HT3 := LH (HT2.out.trans (Touch.of_ext hx [B]))
   have hs3 := hx.size
   clear hx HI2 O2 HT2 htx
   go_wp2_with fail
   refine HC.out.mono ?_
   rintro e w4 ⟨rfl, K4, T4⟩
   have O4 := O3.touch' T4 (by simp; omega)
   have HP4 := LH K4
   have HT4 := LH (HT3.out.trans T4)
   have hs4 := T4.size
   clear K4 T4 O3 HT3 HC
   go_wp2_with fail
   refine (HUN.out (a + 1) (by omega) w4 b HP4.out (by omega)).mono ?_
   rintro e w5 ⟨y, ds, gp, s2, a2, b2, rfl, hr, hf, hp, hg, -, hm, hT⟩
   have O5 := O4.touch' hT (by simp; omega)
   have HG := LH ((Todo.refl b (fun n => pMsg ts n a)).call hg (g := fun n r => some (eMsg (tkT ts a) [r.1], r.2.2)) (fun n => by rw [pMsg, if_neg (by rw [NB1.out]; decide), if_pos TB.out]))
   have HP5 := LH hp
   have HR5 := LH hr
   have HF5 := LH hf
   have HT5 := LH (HT4.out.trans hT)
   have hs5 := hT.size
   obtain ⟨u1, u2, u3, u4, rfl⟩ := fld5 hr
   clear hr hf hp hg hT O4 HP4 HT4
   go_upto_region 6 with fail
   generalize hS : World.alloc w5 _ = W6
   have x6 : Ext w5 W6 := by rw [<- hS]; exact (XR _).alloc _
   have OY : Own W6 w5.heap.size 70 #[.int .i64 y.kind, .string y.text, .int .i64 y.number, .slice u1 y.names.length u2, .slice u3 y.kids.length u4] := by rw [<- hS]; exact own_new w5 _ _
   have O6 := O5.ext x6
   have HX6 := LH x6
   have hs6 := x6.size
   clear hS x6 O5
   generalize hyb : w5.heap.size = yb at *
   clear hyb
   have r0 := OY.k0
   have r1 := OY.k1
   have r2 := OY.k2
   have r3 := OY.k3
   have r4 := OY.k4
   have rz := OY.lt
   have o0 := O6.k0
   have of0 := O6.f0
   have o1 := O6.k1
   have of1 := O6.f1
   have o2 := O6.k2
   have of2 := O6.f2
   have o3 := O6.k3
   have of3 := O6.f3
   have o4 := O6.k4
   have of4 := O6.f4
   have oz := O6.lt
   go_wp2_with fail
   obtain ⟨O9, R9, T9⟩ := msg_A 6 O6 (HR5.out.ext HX6.out) (fun b hb => by have := HF5.out b hb; omega) tx
   generalize hWF : World.alloc (World.setCell (World.setCell (World.setCell (World.setCell (World.setCell W6 _ _) _ _) _ _) _ _) _ _) _ = W9 at *
   clear hWF
   have p0 := O9.k0
   have p1 := O9.k1
   have p2 := O9.k2
   have p3 := O9.k3
   have p4 := O9.k4
   have pz := O9.lt
   have FIN : RGot B tb to_ cap _ ts w a b (fun n => pMsg ts n a) (.returned (.agg #[.int .i64 6, .string tx, .int .i64 0, .slice none 0 0, .slice (some ⟨W6.heap.size, 0, none⟩) 1 1])) W9 := ⟨eMsg tx [y], _, (W6.heap.size :: gp), a2, b2, rfl, R9, (fun k hk => by
    rcases List.mem_cons.1 hk with rfl | hk
    · omega
    · have := HF5.out k hk; omega), HP.out.late (HP5.out.ext HX6.out) T9 (fun k hk => by simp at hk; omega), HG.out.done (fun n => by rw [HTX.out]), by omega, (HT5.out.trans (Touch.of_ext HX6.out [B])).late2 T9 (fun k hk => by simp at hk; omega)⟩
   exact bodyPost_ret (v := .agg #[.int .i64 6, .string tx, .int .i64 0, .slice none 0 0, .slice (some ⟨W6.heap.size, 0, none⟩) 1 1]) (by simp [results, Tryz.results75, go_sem, p0, p1, p2, p3, p4, pz]) rfl FIN
 have NB6 := LH hb6
 rw [hb6] at HI
 have HI2 := LH HI
 clear HI hb6
 go_wp2_with fail
 refine HI2.out.mono ?_
 rintro e w3 ⟨rfl, hx⟩
 have O3 := O2.ext hx
 have HT3 := LH (HT2.out.trans (Touch.of_ext hx [B]))
 have HK := LH (HKE.out w3 b (HP2.out.ext hx))
 have hs3 := hx.size
 clear hx HI2 O2 HT2 HP2 HKE
 go_wp2_with fail
 refine HK.out.mono ?_
 rintro e w4 ⟨s, l, v, a2, b2, rfl, hA, hp, hg, hl, hsz, hz0, hz1, hT⟩
 have O4 := O3.touch' hT (by simp; omega)
 obtain ⟨va, vc, gp, rfl, hr, hge⟩ := AccX.rep hA
 have HP4 := LH hp
 have HR4 := LH hr
 have HGE := LH hge
 have HT4 := LH (HT3.out.trans hT)
 have hs4 := hT.size
 clear hA hp hr hge hT O3 HT3
 by_cases hse : s = ⟨#[]⟩
 · have HG : Hid (Got b (fun n => pMsg ts n a) true (eMsg s l, a2)) := LH (by
    cases b with
    | true => exact Got.dead _ _
    | false =>
     refine Got.bad _ (Ev.step (g := fun _ => none) (fun n => ?_) (Ev.const _))
     rw [pMsg, if_neg (by rw [NB1.out]; decide), if_neg (by rw [NB6.out]; decide)]
     refine if_neg (fun h2 => ?_)
     have := hz1 rfl h2
     rw [hse] at this
     exact this rfl)
   have hs0 : (s.toList == []) = true := str_eq' (l := []) hse
   clear hse hz0 hz1 hg
   obtain ⟨c0, c1, c2⟩ := HP4.out.cells
   have f2 := HP4.out.own.f2
   have zB := lt_of_cell c0
   go_upto_region 10 with fail
   obtain ⟨K5, T5⟩ := HP4.out.setBad
   generalize hS2 : World.setCell w4 _ _ = W5 at *
   have O5 := O4.touch' T5 (by simp; omega)
   have HP5 := LH K5
   have HT5 := LH (HT4.out.trans T5)
   have HR5 := LH (HR4.out.touch T5 (fun k hk hm => by have := HGE.out k hk; simp at hm; omega))
   clear hS2 K5 T5 c0 c1 c2 f2 zB O4 HP4 HT4 HR4
   have o0 := O5.k0
   have of0 := O5.f0
   have o1 := O5.k1
   have of1 := O5.f1
   have o2 := O5.k2
   have of2 := O5.f2
   have o3 := O5.k3
   have of3 := O5.f3
   have o4 := O5.k4
   have of4 := O5.f4
   have oz := O5.lt
   go_wp2_with fail
   generalize hS : World.setCell (World.setCell (World.setCell (World.setCell (World.setCell W5 _ _) _ _) _ _) _ _) _ _ = W9
   obtain ⟨O9, T9⟩ := own5 O5 (.int .i64 6) (.string s) (.int .i64 0) (.slice none 0 0) (.slice va l.length vc)
   rw [hS] at O9 T9
   clear hS
   have p0 := O9.k0
   have p1 := O9.k1
   have p2 := O9.k2
   have p3 := O9.k3
   have p4 := O9.k4
   have pz := O9.lt
   have RX := MExpr.shut (x := eMsg s l) (rep_nilT W9) (HR5.out.touch T9 (fun k hk hm => by have := HGE.out k hk; simp at hm; omega))
   simp only [List.append_nil, List.nil_append] at RX
   have FIN : RGot B tb to_ cap _ ts w a b (fun n => pMsg ts n a) (.returned (.agg #[.int .i64 6, .string s, .int .i64 0, .slice none 0 0, .slice va l.length vc])) W9 := ⟨eMsg s l, _, gp, a2, true, rfl, RX, (fun k hk => by have := HGE.out k hk; omega), HP.out.late HP5.out T9 (fun k hk => by simp at hk; omega), HG.out, by omega, HT5.out.late2 T9 (fun k hk => by simp at hk; omega)⟩
   exact bodyPost_ret (v := .agg #[.int .i64 6, .string s, .int .i64 0, .slice none 0 0, .slice va l.length vc]) (by simp [results, Tryz.results75, go_sem, p0, p1, p2, p3, p4, pz]) rfl FIN
 have hs0 : (s.toList == []) = false := str_ne' (l := []) hse
 have HG : Hid (Got b (fun n => pMsg ts n a) b2 (eMsg s l, a2)) := LH (by
  cases hb2 : tkB ts a 2 with
  | false => exact absurd (hz0 hb2).1 hse
  | true => exact ((Todo.refl b (fun n => pMsg ts n a)).call hg (g := fun n r => some (eMsg r.1 r.2.1, r.2.2)) (fun n => by rw [pMsg, if_neg (by rw [NB1.out]; decide), if_neg (by rw [NB6.out]; decide), if_pos hb2])).done (fun n => rfl))
 clear hse hz0 hz1 hg
 have o0 := O4.k0
 have of0 := O4.f0
 have o1 := O4.k1
 have of1 := O4.f1
 have o2 := O4.k2
 have of2 := O4.f2
 have o3 := O4.k3
 have of3 := O4.f3
 have o4 := O4.k4
 have of4 := O4.f4
 have oz := O4.lt
 go_wp2_with fail
 generalize hS : World.setCell (World.setCell (World.setCell (World.setCell (World.setCell w4 _ _) _ _) _ _) _ _) _ _ = W9
 obtain ⟨O9, T9⟩ := own5 O4 (.int .i64 6) (.string s) (.int .i64 0) (.slice none 0 0) (.slice va l.length vc)
 rw [hS] at O9 T9
 clear hS
 have p0 := O9.k0
 have p1 := O9.k1
 have p2 := O9.k2
 have p3 := O9.k3
 have p4 := O9.k4
 have pz := O9.lt
 have RX := MExpr.shut (x := eMsg s l) (rep_nilT W9) (HR4.out.touch T9 (fun k hk hm => by have := HGE.out k hk; simp at hm; omega))
 simp only [List.append_nil, List.nil_append] at RX
 have FIN : RGot B tb to_ cap _ ts w a b (fun n => pMsg ts n a) (.returned (.agg #[.int .i64 6, .string s, .int .i64 0, .slice none 0 0, .slice va l.length vc])) W9 := ⟨eMsg s l, _, gp, a2, b2, rfl, RX, (fun k hk => by have := HGE.out k hk; omega), HP.out.late HP4.out T9 (fun k hk => by simp at hk; omega), HG.out, by omega, HT4.out.late2 T9 (fun k hk => by simp at hk; omega)⟩
 exact bodyPost_ret (v := .agg #[.int .i64 6, .string s, .int .i64 0, .slice none 0 0, .slice va l.length vc]) (by simp [results, Tryz.results75, go_sem, p0, p1, p2, p3, p4, pz]) rfl FIN
theorem rstatements_at {B tb to_ cap : Nat} {ao : Option Addr} {ts : List MToken} {a : Nat} (HEX : ∀ a', a <= a' -> RExprAt B tb to_ cap ao ts a') : RStmAt B tb to_ cap ao ts a := by
 intro w b h
 have HP := LH h
 have hln := h.len
 have hle := h.le
 have hrb := h.own.lt
 have HEX := LH HEX
 have H0 := LH (Todo.refl b (fun n => pStmts ts n [] a))
 clear h
 go_enter Tryz.func14, Tryz.ntmps14
 go_wp2_with fail
 generalize hS : World.alloc w _ = W1
 have x1 : Ext w W1 := by rw [<- hS]; exact (XR _).alloc _
 have A1 : Hid (AccX w.heap.size W1 (.slice (some ⟨w.heap.size, 0, none⟩) 0 0) []) := LH (Acw.of (by rw [<- hS]; exact Acc.empty 70 5 (Nat.le_refl _)))
 have HP1 := LH (HP.out.ext x1)
 clear hS
 go_loopw [3] (fun av wr => ∃ (l : List MExpr) (j : Nat) (bj : Bool), AccX w.heap.size wr av l /\ Prs 38 B tb to_ cap ao ts wr (j) bj /\ Hid (Todo b (fun n => pStmts ts n [] a) bj (fun n => pStmts ts n l j)) /\ l.length + a <= j /\ Touch w wr [B]) (fun _ wr => ts.length + 1 - placeOf B wr)
 case atStart => exact ⟨[], a, b, A1.out, HP1.out, H0, by simp, Touch.of_ext x1 _⟩
 case round =>
  clear A1 HP1 H0 x1
  obtain ⟨av, hav⟩ : ∃ x, x = u3 := ⟨_, rfl⟩
  subst hav
  obtain ⟨l, j, bj, hA, hp, HTD, hlj, hT⟩ := hrel
  have HA := LH hA
  have HPj := LH hp
  have HPM := LH hp
  have HT := LH hT
  obtain ⟨c0, c1, c2⟩ := hp.cells
  have zB := lt_of_cell c0
  have hjl := hp.le
  have hws := hT.size
  cases bj
  rotate_left
  · have FIN : Hid (RTGot B tb to_ cap ao ts w a b (.returned av) wr) := LH ⟨l, av, j, true, rfl, hA, hp, HTD.out.dead _, by omega, by omega, hT⟩
    clear HTD hA hp hT
    go_wp2_with fail
    go_ret
    exact FIN.out
  have hjk := hp.ok rfl
  clear hA hp hT
  have HI := rbegins_any _ HPj.out
  cases hr : tkxB ts j 7 retM
  · have HNR := LH hr
    cases hb : beginsB ts j
    · have HG : Hid (Got b (fun n => pStmts ts n [] a) false (l, j)) := LH (HTD.out.done (fun n => by rw [pStmts, if_neg (by rw [HNR.out]; decide), if_neg (by rw [hb]; decide)]))
      rw [hr, hb] at HI
      replace HI := LH (show Calls _ _ _ _ (fun e w' => e = .returned (.bool false) /\ Ext wr w') from HI)
      clear hb hr
      go_wp2_with fail
      refine HI.out.mono ?_
      rintro e w2 ⟨rfl, hx⟩
      have FIN : Hid (RTGot B tb to_ cap ao ts w a b (.returned av) w2) := LH ⟨l, av, j, false, rfl, HA.out.ext hx, HPj.out.ext hx, HG.out, by omega, by omega, HT.out.trans (Touch.of_ext hx _)⟩
      clear HTD
      go_wp2_with fail
      go_ret
      exact FIN.out
    rw [hr, hb] at HI
    replace HI := LH (show Calls _ _ _ _ (fun e w' => e = .returned (.bool true) /\ Ext wr w') from HI)
    have HTC := LH (fun (x : MExpr) (a2 : Nat) (b2 : Bool) (hg : Got false (fun n => pExpr ts n j) b2 (x, a2)) => HTD.out.call hg (g := fun n r => if tkxB ts r.2 7 dotM = true then pStmts ts n (l ++ [r.1]) (r.2 + 1) else some (l ++ [r.1], r.2)) (fun n => by rw [pStmts, if_neg (by rw [HNR.out]; decide), if_pos hb]))
    clear hb hr HTD
    go_wp2_with fail
    refine HI.out.mono ?_
    rintro e w1 ⟨rfl, hx1⟩
    have HE := LH (rtake_no w1 (HPj.out.ext hx1) 7 ⟨#[94]⟩ (by decide) (ne1 _) HNR.out)
    have HA1 := LH (HA.out.ext hx1)
    have HT1 := LH (HT.out.trans (Touch.of_ext hx1 [B]))
    have HK1 := LH (HPj.out.ext hx1)
    have hs1 := hx1.size
    clear hx1 HA HPj HT HI c0 c1 c2 zB
    go_wp2_with fail
    refine HE.out.mono ?_
    rintro e w2 ⟨rfl, hx⟩
    have HU := LH (HEX.out j (by omega) w2 false (HK1.out.ext hx) hjk)
    have HA2 := LH (HA1.out.ext hx)
    have HT2 := LH (HT1.out.trans (Touch.of_ext hx [B]))
    have hs2 := hx.size
    clear hx HA1 HK1 HT1 HE
    go_wp2_with fail
    refine HU.out.mono ?_
    rintro e w3 ⟨x, cs, gp, a2, b2, rfl, hr2, hf2, hp2, hg2, hm2, hT2⟩
    have HA3 := LH (HA2.out.touch hT2 (fun k hk => by simp at hk; omega))
    have HAB : Hid (∀ k, av.ownBlock = some k -> k < w2.heap.size) := LH fun k hk => (Acw.ge HA2.out hk).2
    have HT3 := LH (HT2.out.trans hT2)
    have HTD2 := LH (HTC.out x a2 b2 hg2)
    have HP3 := LH hp2
    have HS3 := LH hr2
    have HF3 := LH hf2
    have hs3 := hT2.size
    obtain ⟨y1, y2, y3, y4, rfl⟩ := fld5 hr2
    clear hr2 hf2 hp2 hg2 hT2 HA2 HT2 HU HTC
    have x5 : Ext w3 (w3.alloc (.cells #[.int .i64 x.kind, .string x.text, .int .i64 x.number, .slice y1 x.names.length y2, .slice y3 x.kids.length y4] 70)) := (XR w3).alloc _
    have KD := HA3.out.ext x5
    have HSL := one_expr (HS3.out.ext x5) (own_new w3 #[.int .i64 x.kind, .string x.text, .int .i64 x.number, .slice y1 x.names.length y2, .slice y3 x.kids.length y4] 70)
    have hlen : l.length <= 801 := by omega
    go_wp2_with (at_builtin; refine wpList_append_x rfl _ _ rfl w.heap.size av l rfl KD [x] _ _ _ (w3.heap.size :: gp) rfl HSL (fun k hk => by have := HF3.out k hk; omega) (fun k hk hm => by have h1 := HF3.out k hm; have h2 := (HAB.out k hk); omega) (by simp; omega) (by simp; omega) ?_)
    intro a1 k1 w6 ac1 g1 m1
    have TG : Touch (w3.alloc (.cells #[.int .i64 x.kind, .string x.text, .int .i64 x.number, .slice y1 x.names.length y2, .slice y3 x.kids.length y4] 70)) w6 av.ownBlock.toList := (Touch.of_ext (XR _) _).grown g1 fun k hk => Or.inl (by simp [hk])
    have HK6 := LH (HP.out.late (HP3.out.ext x5) TG (fun k hk => (Acw.ge KD (k := k) (by simpa using hk)).1))
    have HT6 := LH ((HT3.out.trans (Touch.of_ext x5 [B])).late2 TG (fun k hk => (Acw.ge KD (k := k) (by simpa using hk)).1))
    have HAC := LH ac1
    clear KD HSL g1 m1 TG ac1 x5
    generalize hv1 : Value.slice a1 (l.length + [x].length) k1 = v1 at *
    clear hv1
    cases hd : tkxB ts a2 7 dotM
    · have HD := LH (rtake_no w6 HK6.out 7 ⟨#[46]⟩ (by decide) (ne1 _) hd)
      have HG : Hid (Got b (fun n => pStmts ts n [] a) b2 (l ++ [x], a2)) := LH (HTD2.out.done (fun n => by show (if tkxB ts a2 7 dotM = true then pStmts ts (n + 1) (l ++ [x]) (a2 + 1) else some (l ++ [x], a2)) = _; rw [if_neg (by rw [hd]; decide)]))
      clear hd HTD2
      go_wp2_with fail
      refine HD.out.mono ?_
      rintro e w7 ⟨rfl, hx7⟩
      have FIN : Hid (RTGot B tb to_ cap ao ts w a b (.returned v1) w7) := LH ⟨l ++ [x], v1, a2, b2, rfl, HAC.out.ext hx7, HK6.out.ext hx7, HG.out, by simp; omega, by omega, HT6.out.trans (Touch.of_ext hx7 _)⟩
      clear hx7
      go_wp2_with fail
      go_ret
      exact FIN.out
    have HD := LH (rtake_yes w6 HK6.out 7 ⟨#[46]⟩ (by decide) (ne1 _) hd)
    have hdt := tok_lt (by decide) hd
    have HTD3 : Hid (Todo b (fun n => pStmts ts n [] a) b2 (fun n => pStmts ts n (l ++ [x]) (a2 + 1))) := LH (by
     have e : (fun n => (fun n r => if tkxB ts r.2 7 dotM = true then pStmts ts n (l ++ [r.1]) (r.2 + 1) else some (l ++ [r.1], r.2)) n (x, a2)) = (fun n => pStmts ts n (l ++ [x]) (a2 + 1)) := funext fun n => by show (if tkxB ts a2 7 dotM = true then _ else _) = _; rw [if_pos hd]
     have := HTD2.out
     rw [e] at this
     exact this)
    clear hd HTD2
    go_wp2_with fail
    refine HD.out.mono ?_
    rintro e w7 ⟨rfl, K7, T7⟩
    have HA7 := LH (HAC.out.touch T7 (fun k hk => by simp at hk; omega))
    have HK7 := LH K7
    have HT7 := LH (HT6.out.trans T7)
    clear K7 T7
    go_wp2_with fail
    refine ⟨⟨l ++ [x], a2 + 1, b2, HA7.out, HK7.out, HTD3, ?_, HT7.out⟩, ?_⟩
    · simp; omega
    · rw [placeOf_eq HPM.out, placeOf_eq HK7.out]; have := HK7.out.le; omega
  rw [hr, Bool.or_true] at HI
  have HI2 := LH HI
  have HNR := LH hr
  have hjt := tok_lt (by decide) hr
  have HTC := LH (fun (x : MExpr) (a2 : Nat) (b2 : Bool) (hg : Got false (fun n => pExpr ts n (j + 1)) b2 (x, a2)) => HTD.out.call hg (g := fun n r => some (l ++ [eRet r.1], if tkxB ts r.2 7 dotM = true then r.2 + 1 else r.2)) (fun n => by rw [pStmts, if_pos hr]))
  clear hr HTD HI
  go_wp2_with fail
  refine HI2.out.mono ?_
  rintro e w0 ⟨rfl, hx0⟩
  have HE := LH (rtake_yes w0 (HPj.out.ext hx0) 7 ⟨#[94]⟩ (by decide) (ne1 _) HNR.out)
  have HA0 := LH (HA.out.ext hx0)
  have HT0 := LH (HT.out.trans (Touch.of_ext hx0 [B]))
  have hs0 := hx0.size
  clear hx0 HA HT HI2 HPj c0 c1 c2 zB
  go_wp2_with fail
  refine HE.out.mono ?_
  rintro e w1 ⟨rfl, K1, T1⟩
  have HA1 := LH (HA0.out.touch T1 (fun k hk => by simp at hk; omega))
  have HT1 := LH (HT0.out.trans T1)
  have hs1 := T1.size
  have HU := LH (HEX.out (j + 1) (by omega) w1 false K1 (by omega))
  clear K1 T1 HA0 HT0 HE
  go_wp2_with fail
  refine HU.out.mono ?_
  rintro e w3 ⟨x, cs, gp, a2, b2, rfl, hr2, hf2, hp2, hg2, hm2, hT2⟩
  have HA3 := LH (HA1.out.touch hT2 (fun k hk => by simp at hk; omega))
  have HAB : Hid (∀ k, av.ownBlock = some k -> k < w1.heap.size) := LH fun k hk => (Acw.ge HA1.out hk).2
  have HT3 := LH (HT1.out.trans hT2)
  have HTD2 := LH (HTC.out x a2 b2 hg2)
  have HP3 := LH hp2
  have HS3 := LH hr2
  have HF3 := LH hf2
  have hs3 := hT2.size
  obtain ⟨y1, y2, y3, y4, rfl⟩ := fld5 hr2
  clear hr2 hf2 hp2 hg2 hT2 HA1 HT1 HU HTC
  obtain ⟨W4, hW4⟩ : ∃ W, w3.alloc (.cells #[.int .i64 x.kind, .string x.text, .int .i64 x.number, .slice y1 x.names.length y2, .slice y3 x.kids.length y4] 70) = W := ⟨_, rfl⟩
  have x4 : Ext w3 W4 := by rw [<- hW4]; exact (XR w3).alloc _
  have O4 : Own W4 w3.heap.size 70 #[.int .i64 x.kind, .string x.text, .int .i64 x.number, .slice y1 x.names.length y2, .slice y3 x.kids.length y4] := by rw [<- hW4]; exact own_new w3 _ _
  have hz4 : W4.heap.size = w3.heap.size + 1 := by rw [<- hW4]; simp
  have x5 : Ext w3 (W4.alloc (.cells #[.int .i64 9, .string ⟨#[]⟩, .int .i64 0, .slice none 0 0, .slice (some ⟨w3.heap.size, 0, none⟩) 1 1] 70)) := x4.alloc _
  have KD := HA3.out.ext x5
  have HR5 := ret1 ((HS3.out.ext x5)) (cs := [.int .i64 x.kind, .string x.text, .int .i64 x.number, .slice y1 x.names.length y2, .slice y3 x.kids.length y4]) (O4.ext ((XR W4).alloc (.cells #[.int .i64 9, .string ⟨#[]⟩, .int .i64 0, .slice none 0 0, .slice (some ⟨w3.heap.size, 0, none⟩) 1 1] 70)))
  have HSL := one_expr HR5 (own_new W4 #[.int .i64 9, .string ⟨#[]⟩, .int .i64 0, .slice none 0 0, .slice (some ⟨w3.heap.size, 0, none⟩) 1 1] 70)
  subst hW4
  have hz5 : (w3.alloc (.cells #[.int .i64 x.kind, .string x.text, .int .i64 x.number, .slice y1 x.names.length y2, .slice y3 x.kids.length y4] 70)).heap.size = w3.heap.size + 1 := by simp
  rw [hz5] at HSL
  have F1 : ∀ k, k ∈ ((w3.heap.size + 1) :: w3.heap.size :: gp).tail -> w.heap.size <= k := fun k hk => by
   rcases List.mem_cons.1 hk with rfl | hk
   · omega
   · have := HF3.out k hk; omega
  have F2 : ∀ k, av.ownBlock = some k -> k ∉ ((w3.heap.size + 1) :: w3.heap.size :: gp).tail := fun k hk hm => by
   have h2 := (HAB.out k hk)
   rcases List.mem_cons.1 hm with rfl | hm
   · omega
   · have h1 := HF3.out k hm; omega
  have hl1 : l.length + [eRet x].length <= 1073741824 := by simp; omega
  go_wp2_with (at_builtin; refine wpList_append_x rfl _ _ rfl w.heap.size av l rfl KD [eRet x] _ _ _ _ rfl HSL F1 F2 hl1 (by simp; omega) ?_)
  intro a1 k1 w6 ac1 g1 m1
  have TG : Touch ((w3.alloc (.cells #[.int .i64 x.kind, .string x.text, .int .i64 x.number, .slice y1 x.names.length y2, .slice y3 x.kids.length y4] 70)).alloc (.cells #[.int .i64 9, .string ⟨#[]⟩, .int .i64 0, .slice none 0 0, .slice (some ⟨w3.heap.size, 0, none⟩) 1 1] 70)) w6 av.ownBlock.toList := (Touch.of_ext (XR _) _).grown g1 fun k hk => Or.inl (by simp [hk])
  have HK6 := LH (HP.out.late (HP3.out.ext x5) TG (fun k hk => (Acw.ge KD (k := k) (by simpa using hk)).1))
  have HT6 := LH ((HT3.out.trans (Touch.of_ext x5 [B])).late2 TG (fun k hk => (Acw.ge KD (k := k) (by simpa using hk)).1))
  have HAC := LH ac1
  clear KD HSL HR5 O4 x4 hz4 hz5 F1 F2 hl1 g1 m1 TG ac1 x5
  generalize hv1 : Value.slice a1 (l.length + [eRet x].length) k1 = v1 at *
  clear hv1
  cases hd : tkxB ts a2 7 dotM
  · have HD := LH (rtake_no w6 HK6.out 7 ⟨#[46]⟩ (by decide) (ne1 _) hd)
    have HG : Hid (Got b (fun n => pStmts ts n [] a) b2 (l ++ [eRet x], a2)) := LH (HTD2.out.done (fun n => by show some (l ++ [eRet x], if tkxB ts a2 7 dotM = true then a2 + 1 else a2) = _; rw [if_neg (by rw [hd]; decide)]))
    clear hd HTD2
    go_wp2_with fail
    refine HD.out.mono ?_
    rintro e w7 ⟨rfl, hx7⟩
    have FIN : Hid (RTGot B tb to_ cap ao ts w a b (.returned v1) w7) := LH ⟨l ++ [eRet x], v1, a2, b2, rfl, HAC.out.ext hx7, HK6.out.ext hx7, HG.out, by simp; omega, by omega, HT6.out.trans (Touch.of_ext hx7 _)⟩
    clear hx7
    go_wp2_with fail
    go_ret
    exact FIN.out
  have HD := LH (rtake_yes w6 HK6.out 7 ⟨#[46]⟩ (by decide) (ne1 _) hd)
  have HG : Hid (Got b (fun n => pStmts ts n [] a) b2 (l ++ [eRet x], a2 + 1)) := LH (HTD2.out.done (fun n => by show some (l ++ [eRet x], if tkxB ts a2 7 dotM = true then a2 + 1 else a2) = _; rw [if_pos hd]))
  clear hd HTD2
  go_wp2_with fail
  refine HD.out.mono ?_
  rintro e w7 ⟨rfl, K7, T7⟩
  have FIN : Hid (RTGot B tb to_ cap ao ts w a b (.returned v1) w7) := LH ⟨l ++ [eRet x], v1, a2 + 1, b2, rfl, HAC.out.touch T7 (fun k hk => by simp at hk; omega), K7, HG.out, by simp; omega, by omega, HT6.out.trans T7⟩
  clear K7 T7
  go_wp2_with fail
  go_ret
  exact FIN.out
theorem rblock_at {B tb to_ cap : Nat} {ao : Option Addr} {ts : List MToken} {a : Nat} (HST : ∀ a', a <= a' -> RStmAt B tb to_ cap ao ts a') : RBlockAt B tb to_ cap ao ts a := by
 intro w b h
 have HP := LH h
 have hln := h.len
 have hle := h.le
 have hrb := h.own.lt
 have HST := LH HST
 have H0 := LH (Todo.refl b (fun n => pPars ts n [] a))
 clear h
 go_enter Tryz.func137, Tryz.ntmps137
 go_wp2_with fail
 generalize hS : World.alloc (World.alloc w _) _ = W1
 have x1 : Ext w W1 := by rw [<- hS]; exact ((XR _).alloc _).alloc _
 have O1 : Own W1 w.heap.size 70 #[.int .i64 0, .string ⟨#[]⟩, .int .i64 0, .slice none 0 0, .slice none 0 0] := by rw [<- hS]; exact (own_new w _ _).ext ((XR _).alloc _)
 have A1 : Hid (AccT (w.heap.size + 1) W1 (.slice (some ⟨w.heap.size + 1, 0, none⟩) 0 0) []) := LH (by rw [<- hS]; exact Acc.empty_at (own_new2 w _ #[] _) (Nat.le_refl _))
 have HP1 := LH (HP.out.ext x1)
 clear hS
 go_loopw [3] (fun nv wr => ∃ (l : List ByteArray) (j : Nat) (bj : Bool), AccT (w.heap.size + 1) wr nv l /\ Prs 38 B tb to_ cap ao ts wr (j) bj /\ Hid (Todo b (fun n => pPars ts n [] a) bj (fun n => pPars ts n l j)) /\ l.length + a <= j /\ Own wr w.heap.size 70 #[.int .i64 0, .string ⟨#[]⟩, .int .i64 0, .slice none 0 0, .slice none 0 0] /\ Touch w wr [B]) (fun _ wr => ts.length + 1 - placeOf B wr)
 case atStart => exact ⟨[], a, b, A1.out, HP1.out, H0, by simp, O1, Touch.of_ext x1 _⟩
 case round =>
  clear A1 HP1 H0 x1 O1
  obtain ⟨nv, hnv⟩ : ∃ x, x = u3 := ⟨_, rfl⟩
  subst hnv
  obtain ⟨l, j, bj, hA, hp, HTD, hlj, hO, hT⟩ := hrel
  have HA := LH hA
  have HO := LH hO
  have HPM := LH hp
  have HT := LH hT
  have hjl := hp.le
  have hws := hT.size
  have hrl := hO.lt
  clear hA hp hT hO
  cases hc : tkxB ts j 7 colM
  · have HE := LH (rtake_no wr HPM.out 7 ⟨#[58]⟩ (by decide) (ne1 _) hc)
    have HG : Hid (Got b (fun n => pPars ts n [] a) bj (l, j)) := LH (HTD.out.done (fun n => by rw [pPars, if_neg (by rw [hc]; decide)]))
    clear hc HTD
    go_wp2_with fail
    refine HE.out.mono ?_
    rintro e w1 ⟨rfl, hx⟩
    have HO1 := LH (HO.out.ext hx)
    have HA1 := LH (AccT.ext HA.out hx)
    have HT1 := LH (HT.out.trans (Touch.of_ext hx [B]))
    have HP1 := LH (HPM.out.ext hx)
    have hs1 := hx.size
    clear hx HO HA HT HE HPM
    obtain ⟨an, cn, gn, rfl, -, -⟩ := AccT.rep HA1.out
    have HTD1 := LH ((Todo.refl b (fun n => pBody ts n a)).call HG.out (g := fun n p => if (p.1.length ≠ 0 /\ tkxB ts p.2 7 barM = false) then none else (pVars ts n (if p.1.length ≠ 0 then p.2 + 1 else p.2)).bind fun v => (pStmts ts n [] v.2).bind fun b => some (blockM p.1 v.1 b.1, b.2)) (fun n => by rw [pBody]))
    clear HG
    by_cases hl0 : l.length = 0
    · have hd : decide (0 < l.length) = false := decide_eq_false (by omega)
      have HTD2 : Hid (Todo b (fun n => pBody ts n a) bj (fun n => (pVars ts n j).bind fun v => (pStmts ts n [] v.2).bind fun b => some (blockM l v.1 b.1, b.2))) := LH (by
       have := HTD1.out
       simp only [hl0, ne_eq, not_true_eq_false, false_and, if_false] at this
       exact this)
      clear HTD1 hl0
      go_wp2_with fail
      have HP2 := LH HP1.out
      have HO2 := LH HO1.out
      have HA2 := LH HA1.out
      have HT2 := LH HT1.out
      have hs2 := hs1
      generalize w1 = w2 at *
      have hjl2 := HP2.out.le
      refine (rnames_any w2 HP2.out).mono ?_
      rintro e w3 ⟨v3, l3, j3, b3, rfl, A3, K3, g3, hj3, hl3, T3⟩
      have HTD3 := LH (HTD2.out.call0 g3 (g := fun n v => (pStmts ts n [] v.2).bind fun b => some (blockM l v.1 b.1, b.2)) (fun n => rfl))
      have HO3 := LH (HO2.out.touch' T3 (by simp; omega))
      have HA3 := LH (AccT.low HA2.out T3 (fun k hk => by simp at hk; omega))
      have HB3 := LH A3
      have HT3 := LH (HT2.out.trans T3)
      have hs3 := T3.size
      have HU := LH (HST.out j3 (by omega) w3 b3 K3)
      have hjl3 := K3.le
      clear A3 K3 g3 T3 HO2 HA2 HT2 HP2 HTD2
      go_wp2_with fail
      refine HU.out.mono ?_
      rintro e w4 ⟨lk, vk, j4, b4, rfl, A4, K4, g4, hl4, hj4, T4⟩
      have HTD4 := LH ((Todo.refl b (fun n => pBlock ts n a)).call ((HTD3.out.call0 g4 (g := fun n b => some (blockM l l3 b.1, b.2)) (fun n => rfl)).done (y := (blockM l l3 lk, j4)) (fun n => rfl)) (g := fun n r => if tkxB ts r.2 7 rbrM = true then some (r.1, r.2 + 1) else none) (fun n => by rw [pBlock]))
      have HO4 := LH (HO3.out.touch' T4 (by simp; omega))
      have HA4 := LH (AccT.low HA3.out T4 (fun k hk => by simp at hk; omega))
      have HB4 := LH (AccT.low HB3.out T4 (fun k hk => by simp at hk; omega))
      have HC4 := LH A4
      have HT4 := LH (HT3.out.trans T4)
      have HP4 := LH K4
      have hs4 := T4.size
      clear A4 K4 g4 T4 HO3 HA3 HB3 HT3 HU HTD3
      cases he : tkxB ts j4 7 rbrM
      · have HW := LH (rneedx_no w4 HP4.out 7 ⟨#[93]⟩ (by decide) (ne1 _) he)
        have HG : Hid (Got b (fun n => pBlock ts n a) true (blockM l l3 lk, j4)) := LH (HTD4.out.fail _ (fun n => by show (if tkxB ts j4 7 rbrM = true then some (blockM l l3 lk, j4 + 1) else none) = none; rw [if_neg (by rw [he]; decide)]))
        clear he HTD4
        go_wp2_with fail
        refine HW.out.mono ?_
        rintro e w5 ⟨rfl, K5, T5⟩
        have HO5 := LH (HO4.out.touch' T5 (by simp; omega))
        have HP5 := LH K5
        have HT5 := LH (HT4.out.trans T5)
        obtain ⟨an2, cn2, gn2, hvn, rn, -⟩ := AccT.rep (AccT.low HA4.out T5 (fun k hk => by simp at hk; omega))
        rw [<- hvn] at rn
        clear hvn
        obtain ⟨at', ct, gt, rfl, rt, -⟩ := AccT.rep (AccT.low HB4.out T5 (fun k hk => by simp at hk; omega))
        obtain ⟨ak, ck, gk, rfl, rk, fk⟩ := AccX.rep (Acw.touch HC4.out T5 (fun k hk => by simp at hk; omega))
        have R5n := LH rn.rep
        have R5t := LH rt.rep
        have R5k := LH rk
        have HGK : Hid (∀ k, k ∈ gk -> w.heap.size < k) := LH fun k hk => by have := fk k hk; omega
        have hs5 := T5.size
        clear K5 T5 rn rt rk fk HO4 HT4 HA4 HB4 HC4 HP4
        go_wp2_with fail
        refine (l3Block_any l l3 lk _ _ _ w5 R5n.out R5t.out gk R5k.out (by omega)).mono ?_
        rintro e w6 ⟨cs, fp, rfl, r6, f6, x6⟩
        obtain ⟨y1, y2, y3, y4, rfl⟩ := fld5 r6
        have O6 := HO5.out.ext x6
        have HP6 := LH (HP5.out.ext x6)
        have HT6 := LH (HT5.out.trans (Touch.of_ext x6 [B]))
        have HR6 := LH r6
        have HF6 : Hid (∀ k, k ∈ fp -> w.heap.size < k) := LH fun k hk => by
         rcases f6 k hk with h | h
         · exact HGK.out k h
         · omega
        clear r6 f6 x6 HO5 HP5 HT5
        have o0 := O6.k0
        have of0 := O6.f0
        have o1 := O6.k1
        have of1 := O6.f1
        have o2 := O6.k2
        have of2 := O6.f2
        have o3 := O6.k3
        have of3 := O6.f3
        have o4 := O6.k4
        have of4 := O6.f4
        have oz := O6.lt
        go_wp2_with fail
        generalize hS : World.setCell (World.setCell (World.setCell (World.setCell (World.setCell w6 _ _) _ _) _ _) _ _) _ _ = W9
        obtain ⟨O9, T9⟩ := own5 O6 (.int .i64 (blockM l l3 lk).kind) (.string (blockM l l3 lk).text) (.int .i64 (blockM l l3 lk).number) (.slice y1 (blockM l l3 lk).names.length y2) (.slice y3 (blockM l l3 lk).kids.length y4)
        rw [hS] at O9 T9
        clear hS
        have p0 := O9.k0
        have p1 := O9.k1
        have p2 := O9.k2
        have p3 := O9.k3
        have p4 := O9.k4
        have pz := O9.lt
        have FIN : RGot B tb to_ cap _ ts w a b (fun n => pBlock ts n a) (.returned (.agg #[.int .i64 (blockM l l3 lk).kind, .string (blockM l l3 lk).text, .int .i64 (blockM l l3 lk).number, .slice y1 (blockM l l3 lk).names.length y2, .slice y3 (blockM l l3 lk).kids.length y4])) W9 := ⟨blockM l l3 lk, _, fp, j4, true, rfl, HR6.out.touch T9 (fun k hk hm => by have := HF6.out k hk; simp at hm; omega), fun k hk => by have := HF6.out k hk; omega, HP.out.late HP6.out T9 (fun k hk => by simp at hk; omega), HG.out, by omega, HT6.out.late2 T9 (fun k hk => by simp at hk; omega)⟩
        exact bodyPost_ret (v := .agg #[.int .i64 (blockM l l3 lk).kind, .string (blockM l l3 lk).text, .int .i64 (blockM l l3 lk).number, .slice y1 (blockM l l3 lk).names.length y2, .slice y3 (blockM l l3 lk).kids.length y4]) (by simp [results, Tryz.results137, go_sem, p0, p1, p2, p3, p4, pz]) rfl FIN
      have HW := LH (rneedx_yes w4 HP4.out 7 ⟨#[93]⟩ (by decide) (ne1 _) he)
      have HG : Hid (Got b (fun n => pBlock ts n a) b4 (blockM l l3 lk, j4 + 1)) := LH (HTD4.out.done (fun n => by show (if tkxB ts j4 7 rbrM = true then some (blockM l l3 lk, j4 + 1) else none) = some (blockM l l3 lk, j4 + 1); rw [if_pos he]))
      clear he HTD4
      go_wp2_with fail
      refine HW.out.mono ?_
      rintro e w5 ⟨rfl, K5, T5⟩
      have HO5 := LH (HO4.out.touch' T5 (by simp; omega))
      have HP5 := LH K5
      have HT5 := LH (HT4.out.trans T5)
      obtain ⟨an2, cn2, gn2, hvn, rn, -⟩ := AccT.rep (AccT.low HA4.out T5 (fun k hk => by simp at hk; omega))
      rw [<- hvn] at rn
      clear hvn
      obtain ⟨at', ct, gt, rfl, rt, -⟩ := AccT.rep (AccT.low HB4.out T5 (fun k hk => by simp at hk; omega))
      obtain ⟨ak, ck, gk, rfl, rk, fk⟩ := AccX.rep (Acw.touch HC4.out T5 (fun k hk => by simp at hk; omega))
      have R5n := LH rn.rep
      have R5t := LH rt.rep
      have R5k := LH rk
      have HGK : Hid (∀ k, k ∈ gk -> w.heap.size < k) := LH fun k hk => by have := fk k hk; omega
      have hs5 := T5.size
      clear K5 T5 rn rt rk fk HO4 HT4 HA4 HB4 HC4 HP4
      go_wp2_with fail
      refine (l3Block_any l l3 lk _ _ _ w5 R5n.out R5t.out gk R5k.out (by omega)).mono ?_
      rintro e w6 ⟨cs, fp, rfl, r6, f6, x6⟩
      obtain ⟨y1, y2, y3, y4, rfl⟩ := fld5 r6
      have O6 := HO5.out.ext x6
      have HP6 := LH (HP5.out.ext x6)
      have HT6 := LH (HT5.out.trans (Touch.of_ext x6 [B]))
      have HR6 := LH r6
      have HF6 : Hid (∀ k, k ∈ fp -> w.heap.size < k) := LH fun k hk => by
       rcases f6 k hk with h | h
       · exact HGK.out k h
       · omega
      clear r6 f6 x6 HO5 HP5 HT5
      have o0 := O6.k0
      have of0 := O6.f0
      have o1 := O6.k1
      have of1 := O6.f1
      have o2 := O6.k2
      have of2 := O6.f2
      have o3 := O6.k3
      have of3 := O6.f3
      have o4 := O6.k4
      have of4 := O6.f4
      have oz := O6.lt
      go_wp2_with fail
      generalize hS : World.setCell (World.setCell (World.setCell (World.setCell (World.setCell w6 _ _) _ _) _ _) _ _) _ _ = W9
      obtain ⟨O9, T9⟩ := own5 O6 (.int .i64 (blockM l l3 lk).kind) (.string (blockM l l3 lk).text) (.int .i64 (blockM l l3 lk).number) (.slice y1 (blockM l l3 lk).names.length y2) (.slice y3 (blockM l l3 lk).kids.length y4)
      rw [hS] at O9 T9
      clear hS
      have p0 := O9.k0
      have p1 := O9.k1
      have p2 := O9.k2
      have p3 := O9.k3
      have p4 := O9.k4
      have pz := O9.lt
      have FIN : RGot B tb to_ cap _ ts w a b (fun n => pBlock ts n a) (.returned (.agg #[.int .i64 (blockM l l3 lk).kind, .string (blockM l l3 lk).text, .int .i64 (blockM l l3 lk).number, .slice y1 (blockM l l3 lk).names.length y2, .slice y3 (blockM l l3 lk).kids.length y4])) W9 := ⟨blockM l l3 lk, _, fp, j4 + 1, b4, rfl, HR6.out.touch T9 (fun k hk hm => by have := HF6.out k hk; simp at hm; omega), fun k hk => by have := HF6.out k hk; omega, HP.out.late HP6.out T9 (fun k hk => by simp at hk; omega), HG.out, by omega, HT6.out.late2 T9 (fun k hk => by simp at hk; omega)⟩
      exact bodyPost_ret (v := .agg #[.int .i64 (blockM l l3 lk).kind, .string (blockM l l3 lk).text, .int .i64 (blockM l l3 lk).number, .slice y1 (blockM l l3 lk).names.length y2, .slice y3 (blockM l l3 lk).kids.length y4]) (by simp [results, Tryz.results137, go_sem, p0, p1, p2, p3, p4, pz]) rfl FIN
    have hd : decide (0 < l.length) = true := decide_eq_true (by omega)
    cases hb : tkxB ts j 7 barM
    · have HTD2 : Hid (Todo b (fun n => pBody ts n a) true (fun n => (pVars ts n j).bind fun v => (pStmts ts n [] v.2).bind fun b => some (blockM l v.1 b.1, b.2))) := LH (HTD1.out.badly (fun n => by show (if _ then _ else _) = _; rw [if_pos ⟨hl0, hb⟩]))
      have HW2 := LH (rneedx_no w1 HP1.out 7 ⟨#[124]⟩ (by decide) (ne1 _) hb)
      clear HTD1 hl0 hb
      go_wp2_with fail
      refine HW2.out.mono ?_
      rintro e w2 ⟨rfl, K2, T2⟩
      have HP2 := LH K2
      have HO2 := LH (HO1.out.touch' T2 (by simp; omega))
      have HA2 := LH (AccT.low HA1.out T2 (fun k hk => by simp at hk; omega))
      have HT2 := LH (HT1.out.trans T2)
      have hs2 := Nat.le_trans hs1 T2.size
      clear K2 T2 HW2
      go_wp2_with fail
      have hjl2 := HP2.out.le
      refine (rnames_any w2 HP2.out).mono ?_
      rintro e w3 ⟨v3, l3, j3, b3, rfl, A3, K3, g3, hj3, hl3, T3⟩
      have HTD3 := LH (HTD2.out.call0 g3 (g := fun n v => (pStmts ts n [] v.2).bind fun b => some (blockM l v.1 b.1, b.2)) (fun n => rfl))
      have HO3 := LH (HO2.out.touch' T3 (by simp; omega))
      have HA3 := LH (AccT.low HA2.out T3 (fun k hk => by simp at hk; omega))
      have HB3 := LH A3
      have HT3 := LH (HT2.out.trans T3)
      have hs3 := T3.size
      have HU := LH (HST.out j3 (by omega) w3 b3 K3)
      have hjl3 := K3.le
      clear A3 K3 g3 T3 HO2 HA2 HT2 HP2 HTD2
      go_wp2_with fail
      refine HU.out.mono ?_
      rintro e w4 ⟨lk, vk, j4, b4, rfl, A4, K4, g4, hl4, hj4, T4⟩
      have HTD4 := LH ((Todo.refl b (fun n => pBlock ts n a)).call ((HTD3.out.call0 g4 (g := fun n b => some (blockM l l3 b.1, b.2)) (fun n => rfl)).done (y := (blockM l l3 lk, j4)) (fun n => rfl)) (g := fun n r => if tkxB ts r.2 7 rbrM = true then some (r.1, r.2 + 1) else none) (fun n => by rw [pBlock]))
      have HO4 := LH (HO3.out.touch' T4 (by simp; omega))
      have HA4 := LH (AccT.low HA3.out T4 (fun k hk => by simp at hk; omega))
      have HB4 := LH (AccT.low HB3.out T4 (fun k hk => by simp at hk; omega))
      have HC4 := LH A4
      have HT4 := LH (HT3.out.trans T4)
      have HP4 := LH K4
      have hs4 := T4.size
      clear A4 K4 g4 T4 HO3 HA3 HB3 HT3 HU HTD3
      cases he : tkxB ts j4 7 rbrM
      · have HW := LH (rneedx_no w4 HP4.out 7 ⟨#[93]⟩ (by decide) (ne1 _) he)
        have HG : Hid (Got b (fun n => pBlock ts n a) true (blockM l l3 lk, j4)) := LH (HTD4.out.fail _ (fun n => by show (if tkxB ts j4 7 rbrM = true then some (blockM l l3 lk, j4 + 1) else none) = none; rw [if_neg (by rw [he]; decide)]))
        clear he HTD4
        go_wp2_with fail
        refine HW.out.mono ?_
        rintro e w5 ⟨rfl, K5, T5⟩
        have HO5 := LH (HO4.out.touch' T5 (by simp; omega))
        have HP5 := LH K5
        have HT5 := LH (HT4.out.trans T5)
        obtain ⟨an2, cn2, gn2, hvn, rn, -⟩ := AccT.rep (AccT.low HA4.out T5 (fun k hk => by simp at hk; omega))
        rw [<- hvn] at rn
        clear hvn
        obtain ⟨at', ct, gt, rfl, rt, -⟩ := AccT.rep (AccT.low HB4.out T5 (fun k hk => by simp at hk; omega))
        obtain ⟨ak, ck, gk, rfl, rk, fk⟩ := AccX.rep (Acw.touch HC4.out T5 (fun k hk => by simp at hk; omega))
        have R5n := LH rn.rep
        have R5t := LH rt.rep
        have R5k := LH rk
        have HGK : Hid (∀ k, k ∈ gk -> w.heap.size < k) := LH fun k hk => by have := fk k hk; omega
        have hs5 := T5.size
        clear K5 T5 rn rt rk fk HO4 HT4 HA4 HB4 HC4 HP4
        go_wp2_with fail
        refine (l3Block_any l l3 lk _ _ _ w5 R5n.out R5t.out gk R5k.out (by omega)).mono ?_
        rintro e w6 ⟨cs, fp, rfl, r6, f6, x6⟩
        obtain ⟨y1, y2, y3, y4, rfl⟩ := fld5 r6
        have O6 := HO5.out.ext x6
        have HP6 := LH (HP5.out.ext x6)
        have HT6 := LH (HT5.out.trans (Touch.of_ext x6 [B]))
        have HR6 := LH r6
        have HF6 : Hid (∀ k, k ∈ fp -> w.heap.size < k) := LH fun k hk => by
         rcases f6 k hk with h | h
         · exact HGK.out k h
         · omega
        clear r6 f6 x6 HO5 HP5 HT5
        have o0 := O6.k0
        have of0 := O6.f0
        have o1 := O6.k1
        have of1 := O6.f1
        have o2 := O6.k2
        have of2 := O6.f2
        have o3 := O6.k3
        have of3 := O6.f3
        have o4 := O6.k4
        have of4 := O6.f4
        have oz := O6.lt
        go_wp2_with fail
        generalize hS : World.setCell (World.setCell (World.setCell (World.setCell (World.setCell w6 _ _) _ _) _ _) _ _) _ _ = W9
        obtain ⟨O9, T9⟩ := own5 O6 (.int .i64 (blockM l l3 lk).kind) (.string (blockM l l3 lk).text) (.int .i64 (blockM l l3 lk).number) (.slice y1 (blockM l l3 lk).names.length y2) (.slice y3 (blockM l l3 lk).kids.length y4)
        rw [hS] at O9 T9
        clear hS
        have p0 := O9.k0
        have p1 := O9.k1
        have p2 := O9.k2
        have p3 := O9.k3
        have p4 := O9.k4
        have pz := O9.lt
        have FIN : RGot B tb to_ cap _ ts w a b (fun n => pBlock ts n a) (.returned (.agg #[.int .i64 (blockM l l3 lk).kind, .string (blockM l l3 lk).text, .int .i64 (blockM l l3 lk).number, .slice y1 (blockM l l3 lk).names.length y2, .slice y3 (blockM l l3 lk).kids.length y4])) W9 := ⟨blockM l l3 lk, _, fp, j4, true, rfl, HR6.out.touch T9 (fun k hk hm => by have := HF6.out k hk; simp at hm; omega), fun k hk => by have := HF6.out k hk; omega, HP.out.late HP6.out T9 (fun k hk => by simp at hk; omega), HG.out, by omega, HT6.out.late2 T9 (fun k hk => by simp at hk; omega)⟩
        exact bodyPost_ret (v := .agg #[.int .i64 (blockM l l3 lk).kind, .string (blockM l l3 lk).text, .int .i64 (blockM l l3 lk).number, .slice y1 (blockM l l3 lk).names.length y2, .slice y3 (blockM l l3 lk).kids.length y4]) (by simp [results, Tryz.results137, go_sem, p0, p1, p2, p3, p4, pz]) rfl FIN
      have HW := LH (rneedx_yes w4 HP4.out 7 ⟨#[93]⟩ (by decide) (ne1 _) he)
      have HG : Hid (Got b (fun n => pBlock ts n a) b4 (blockM l l3 lk, j4 + 1)) := LH (HTD4.out.done (fun n => by show (if tkxB ts j4 7 rbrM = true then some (blockM l l3 lk, j4 + 1) else none) = some (blockM l l3 lk, j4 + 1); rw [if_pos he]))
      clear he HTD4
      go_wp2_with fail
      refine HW.out.mono ?_
      rintro e w5 ⟨rfl, K5, T5⟩
      have HO5 := LH (HO4.out.touch' T5 (by simp; omega))
      have HP5 := LH K5
      have HT5 := LH (HT4.out.trans T5)
      obtain ⟨an2, cn2, gn2, hvn, rn, -⟩ := AccT.rep (AccT.low HA4.out T5 (fun k hk => by simp at hk; omega))
      rw [<- hvn] at rn
      clear hvn
      obtain ⟨at', ct, gt, rfl, rt, -⟩ := AccT.rep (AccT.low HB4.out T5 (fun k hk => by simp at hk; omega))
      obtain ⟨ak, ck, gk, rfl, rk, fk⟩ := AccX.rep (Acw.touch HC4.out T5 (fun k hk => by simp at hk; omega))
      have R5n := LH rn.rep
      have R5t := LH rt.rep
      have R5k := LH rk
      have HGK : Hid (∀ k, k ∈ gk -> w.heap.size < k) := LH fun k hk => by have := fk k hk; omega
      have hs5 := T5.size
      clear K5 T5 rn rt rk fk HO4 HT4 HA4 HB4 HC4 HP4
      go_wp2_with fail
      refine (l3Block_any l l3 lk _ _ _ w5 R5n.out R5t.out gk R5k.out (by omega)).mono ?_
      rintro e w6 ⟨cs, fp, rfl, r6, f6, x6⟩
      obtain ⟨y1, y2, y3, y4, rfl⟩ := fld5 r6
      have O6 := HO5.out.ext x6
      have HP6 := LH (HP5.out.ext x6)
      have HT6 := LH (HT5.out.trans (Touch.of_ext x6 [B]))
      have HR6 := LH r6
      have HF6 : Hid (∀ k, k ∈ fp -> w.heap.size < k) := LH fun k hk => by
       rcases f6 k hk with h | h
       · exact HGK.out k h
       · omega
      clear r6 f6 x6 HO5 HP5 HT5
      have o0 := O6.k0
      have of0 := O6.f0
      have o1 := O6.k1
      have of1 := O6.f1
      have o2 := O6.k2
      have of2 := O6.f2
      have o3 := O6.k3
      have of3 := O6.f3
      have o4 := O6.k4
      have of4 := O6.f4
      have oz := O6.lt
      go_wp2_with fail
      generalize hS : World.setCell (World.setCell (World.setCell (World.setCell (World.setCell w6 _ _) _ _) _ _) _ _) _ _ = W9
      obtain ⟨O9, T9⟩ := own5 O6 (.int .i64 (blockM l l3 lk).kind) (.string (blockM l l3 lk).text) (.int .i64 (blockM l l3 lk).number) (.slice y1 (blockM l l3 lk).names.length y2) (.slice y3 (blockM l l3 lk).kids.length y4)
      rw [hS] at O9 T9
      clear hS
      have p0 := O9.k0
      have p1 := O9.k1
      have p2 := O9.k2
      have p3 := O9.k3
      have p4 := O9.k4
      have pz := O9.lt
      have FIN : RGot B tb to_ cap _ ts w a b (fun n => pBlock ts n a) (.returned (.agg #[.int .i64 (blockM l l3 lk).kind, .string (blockM l l3 lk).text, .int .i64 (blockM l l3 lk).number, .slice y1 (blockM l l3 lk).names.length y2, .slice y3 (blockM l l3 lk).kids.length y4])) W9 := ⟨blockM l l3 lk, _, fp, j4 + 1, b4, rfl, HR6.out.touch T9 (fun k hk hm => by have := HF6.out k hk; simp at hm; omega), fun k hk => by have := HF6.out k hk; omega, HP.out.late HP6.out T9 (fun k hk => by simp at hk; omega), HG.out, by omega, HT6.out.late2 T9 (fun k hk => by simp at hk; omega)⟩
      exact bodyPost_ret (v := .agg #[.int .i64 (blockM l l3 lk).kind, .string (blockM l l3 lk).text, .int .i64 (blockM l l3 lk).number, .slice y1 (blockM l l3 lk).names.length y2, .slice y3 (blockM l l3 lk).kids.length y4]) (by simp [results, Tryz.results137, go_sem, p0, p1, p2, p3, p4, pz]) rfl FIN
    have HTD2 : Hid (Todo b (fun n => pBody ts n a) bj (fun n => (pVars ts n (j + 1)).bind fun v => (pStmts ts n [] v.2).bind fun b => some (blockM l v.1 b.1, b.2))) := LH (by
     have := HTD1.out
     simp only [ne_eq, hl0, not_false_eq_true, true_and, hb, Bool.true_eq_false, if_false, if_true] at this
     exact this)
    have HW2 := LH (rneedx_yes w1 HP1.out 7 ⟨#[124]⟩ (by decide) (ne1 _) hb)
    clear HTD1 hl0 hb
    go_wp2_with fail
    refine HW2.out.mono ?_
    rintro e w2 ⟨rfl, K2, T2⟩
    have HP2 := LH K2
    have HO2 := LH (HO1.out.touch' T2 (by simp; omega))
    have HA2 := LH (AccT.low HA1.out T2 (fun k hk => by simp at hk; omega))
    have HT2 := LH (HT1.out.trans T2)
    have hs2 := Nat.le_trans hs1 T2.size
    clear K2 T2 HW2
    go_wp2_with fail
    have hjl2 := HP2.out.le
    refine (rnames_any w2 HP2.out).mono ?_
    rintro e w3 ⟨v3, l3, j3, b3, rfl, A3, K3, g3, hj3, hl3, T3⟩
    have HTD3 := LH (HTD2.out.call0 g3 (g := fun n v => (pStmts ts n [] v.2).bind fun b => some (blockM l v.1 b.1, b.2)) (fun n => rfl))
    have HO3 := LH (HO2.out.touch' T3 (by simp; omega))
    have HA3 := LH (AccT.low HA2.out T3 (fun k hk => by simp at hk; omega))
    have HB3 := LH A3
    have HT3 := LH (HT2.out.trans T3)
    have hs3 := T3.size
    have HU := LH (HST.out j3 (by omega) w3 b3 K3)
    have hjl3 := K3.le
    clear A3 K3 g3 T3 HO2 HA2 HT2 HP2 HTD2
    go_wp2_with fail
    refine HU.out.mono ?_
    rintro e w4 ⟨lk, vk, j4, b4, rfl, A4, K4, g4, hl4, hj4, T4⟩
    have HTD4 := LH ((Todo.refl b (fun n => pBlock ts n a)).call ((HTD3.out.call0 g4 (g := fun n b => some (blockM l l3 b.1, b.2)) (fun n => rfl)).done (y := (blockM l l3 lk, j4)) (fun n => rfl)) (g := fun n r => if tkxB ts r.2 7 rbrM = true then some (r.1, r.2 + 1) else none) (fun n => by rw [pBlock]))
    have HO4 := LH (HO3.out.touch' T4 (by simp; omega))
    have HA4 := LH (AccT.low HA3.out T4 (fun k hk => by simp at hk; omega))
    have HB4 := LH (AccT.low HB3.out T4 (fun k hk => by simp at hk; omega))
    have HC4 := LH A4
    have HT4 := LH (HT3.out.trans T4)
    have HP4 := LH K4
    have hs4 := T4.size
    clear A4 K4 g4 T4 HO3 HA3 HB3 HT3 HU HTD3
    cases he : tkxB ts j4 7 rbrM
    · have HW := LH (rneedx_no w4 HP4.out 7 ⟨#[93]⟩ (by decide) (ne1 _) he)
      have HG : Hid (Got b (fun n => pBlock ts n a) true (blockM l l3 lk, j4)) := LH (HTD4.out.fail _ (fun n => by show (if tkxB ts j4 7 rbrM = true then some (blockM l l3 lk, j4 + 1) else none) = none; rw [if_neg (by rw [he]; decide)]))
      clear he HTD4
      go_wp2_with fail
      refine HW.out.mono ?_
      rintro e w5 ⟨rfl, K5, T5⟩
      have HO5 := LH (HO4.out.touch' T5 (by simp; omega))
      have HP5 := LH K5
      have HT5 := LH (HT4.out.trans T5)
      obtain ⟨an2, cn2, gn2, hvn, rn, -⟩ := AccT.rep (AccT.low HA4.out T5 (fun k hk => by simp at hk; omega))
      rw [<- hvn] at rn
      clear hvn
      obtain ⟨at', ct, gt, rfl, rt, -⟩ := AccT.rep (AccT.low HB4.out T5 (fun k hk => by simp at hk; omega))
      obtain ⟨ak, ck, gk, rfl, rk, fk⟩ := AccX.rep (Acw.touch HC4.out T5 (fun k hk => by simp at hk; omega))
      have R5n := LH rn.rep
      have R5t := LH rt.rep
      have R5k := LH rk
      have HGK : Hid (∀ k, k ∈ gk -> w.heap.size < k) := LH fun k hk => by have := fk k hk; omega
      have hs5 := T5.size
      clear K5 T5 rn rt rk fk HO4 HT4 HA4 HB4 HC4 HP4
      go_wp2_with fail
      refine (l3Block_any l l3 lk _ _ _ w5 R5n.out R5t.out gk R5k.out (by omega)).mono ?_
      rintro e w6 ⟨cs, fp, rfl, r6, f6, x6⟩
      obtain ⟨y1, y2, y3, y4, rfl⟩ := fld5 r6
      have O6 := HO5.out.ext x6
      have HP6 := LH (HP5.out.ext x6)
      have HT6 := LH (HT5.out.trans (Touch.of_ext x6 [B]))
      have HR6 := LH r6
      have HF6 : Hid (∀ k, k ∈ fp -> w.heap.size < k) := LH fun k hk => by
       rcases f6 k hk with h | h
       · exact HGK.out k h
       · omega
      clear r6 f6 x6 HO5 HP5 HT5
      have o0 := O6.k0
      have of0 := O6.f0
      have o1 := O6.k1
      have of1 := O6.f1
      have o2 := O6.k2
      have of2 := O6.f2
      have o3 := O6.k3
      have of3 := O6.f3
      have o4 := O6.k4
      have of4 := O6.f4
      have oz := O6.lt
      go_wp2_with fail
      generalize hS : World.setCell (World.setCell (World.setCell (World.setCell (World.setCell w6 _ _) _ _) _ _) _ _) _ _ = W9
      obtain ⟨O9, T9⟩ := own5 O6 (.int .i64 (blockM l l3 lk).kind) (.string (blockM l l3 lk).text) (.int .i64 (blockM l l3 lk).number) (.slice y1 (blockM l l3 lk).names.length y2) (.slice y3 (blockM l l3 lk).kids.length y4)
      rw [hS] at O9 T9
      clear hS
      have p0 := O9.k0
      have p1 := O9.k1
      have p2 := O9.k2
      have p3 := O9.k3
      have p4 := O9.k4
      have pz := O9.lt
      have FIN : RGot B tb to_ cap _ ts w a b (fun n => pBlock ts n a) (.returned (.agg #[.int .i64 (blockM l l3 lk).kind, .string (blockM l l3 lk).text, .int .i64 (blockM l l3 lk).number, .slice y1 (blockM l l3 lk).names.length y2, .slice y3 (blockM l l3 lk).kids.length y4])) W9 := ⟨blockM l l3 lk, _, fp, j4, true, rfl, HR6.out.touch T9 (fun k hk hm => by have := HF6.out k hk; simp at hm; omega), fun k hk => by have := HF6.out k hk; omega, HP.out.late HP6.out T9 (fun k hk => by simp at hk; omega), HG.out, by omega, HT6.out.late2 T9 (fun k hk => by simp at hk; omega)⟩
      exact bodyPost_ret (v := .agg #[.int .i64 (blockM l l3 lk).kind, .string (blockM l l3 lk).text, .int .i64 (blockM l l3 lk).number, .slice y1 (blockM l l3 lk).names.length y2, .slice y3 (blockM l l3 lk).kids.length y4]) (by simp [results, Tryz.results137, go_sem, p0, p1, p2, p3, p4, pz]) rfl FIN
    have HW := LH (rneedx_yes w4 HP4.out 7 ⟨#[93]⟩ (by decide) (ne1 _) he)
    have HG : Hid (Got b (fun n => pBlock ts n a) b4 (blockM l l3 lk, j4 + 1)) := LH (HTD4.out.done (fun n => by show (if tkxB ts j4 7 rbrM = true then some (blockM l l3 lk, j4 + 1) else none) = some (blockM l l3 lk, j4 + 1); rw [if_pos he]))
    clear he HTD4
    go_wp2_with fail
    refine HW.out.mono ?_
    rintro e w5 ⟨rfl, K5, T5⟩
    have HO5 := LH (HO4.out.touch' T5 (by simp; omega))
    have HP5 := LH K5
    have HT5 := LH (HT4.out.trans T5)
    obtain ⟨an2, cn2, gn2, hvn, rn, -⟩ := AccT.rep (AccT.low HA4.out T5 (fun k hk => by simp at hk; omega))
    rw [<- hvn] at rn
    clear hvn
    obtain ⟨at', ct, gt, rfl, rt, -⟩ := AccT.rep (AccT.low HB4.out T5 (fun k hk => by simp at hk; omega))
    obtain ⟨ak, ck, gk, rfl, rk, fk⟩ := AccX.rep (Acw.touch HC4.out T5 (fun k hk => by simp at hk; omega))
    have R5n := LH rn.rep
    have R5t := LH rt.rep
    have R5k := LH rk
    have HGK : Hid (∀ k, k ∈ gk -> w.heap.size < k) := LH fun k hk => by have := fk k hk; omega
    have hs5 := T5.size
    clear K5 T5 rn rt rk fk HO4 HT4 HA4 HB4 HC4 HP4
    go_wp2_with fail
    refine (l3Block_any l l3 lk _ _ _ w5 R5n.out R5t.out gk R5k.out (by omega)).mono ?_
    rintro e w6 ⟨cs, fp, rfl, r6, f6, x6⟩
    obtain ⟨y1, y2, y3, y4, rfl⟩ := fld5 r6
    have O6 := HO5.out.ext x6
    have HP6 := LH (HP5.out.ext x6)
    have HT6 := LH (HT5.out.trans (Touch.of_ext x6 [B]))
    have HR6 := LH r6
    have HF6 : Hid (∀ k, k ∈ fp -> w.heap.size < k) := LH fun k hk => by
     rcases f6 k hk with h | h
     · exact HGK.out k h
     · omega
    clear r6 f6 x6 HO5 HP5 HT5
    have o0 := O6.k0
    have of0 := O6.f0
    have o1 := O6.k1
    have of1 := O6.f1
    have o2 := O6.k2
    have of2 := O6.f2
    have o3 := O6.k3
    have of3 := O6.f3
    have o4 := O6.k4
    have of4 := O6.f4
    have oz := O6.lt
    go_wp2_with fail
    generalize hS : World.setCell (World.setCell (World.setCell (World.setCell (World.setCell w6 _ _) _ _) _ _) _ _) _ _ = W9
    obtain ⟨O9, T9⟩ := own5 O6 (.int .i64 (blockM l l3 lk).kind) (.string (blockM l l3 lk).text) (.int .i64 (blockM l l3 lk).number) (.slice y1 (blockM l l3 lk).names.length y2) (.slice y3 (blockM l l3 lk).kids.length y4)
    rw [hS] at O9 T9
    clear hS
    have p0 := O9.k0
    have p1 := O9.k1
    have p2 := O9.k2
    have p3 := O9.k3
    have p4 := O9.k4
    have pz := O9.lt
    have FIN : RGot B tb to_ cap _ ts w a b (fun n => pBlock ts n a) (.returned (.agg #[.int .i64 (blockM l l3 lk).kind, .string (blockM l l3 lk).text, .int .i64 (blockM l l3 lk).number, .slice y1 (blockM l l3 lk).names.length y2, .slice y3 (blockM l l3 lk).kids.length y4])) W9 := ⟨blockM l l3 lk, _, fp, j4 + 1, b4, rfl, HR6.out.touch T9 (fun k hk hm => by have := HF6.out k hk; simp at hm; omega), fun k hk => by have := HF6.out k hk; omega, HP.out.late HP6.out T9 (fun k hk => by simp at hk; omega), HG.out, by omega, HT6.out.late2 T9 (fun k hk => by simp at hk; omega)⟩
    exact bodyPost_ret (v := .agg #[.int .i64 (blockM l l3 lk).kind, .string (blockM l l3 lk).text, .int .i64 (blockM l l3 lk).number, .slice y1 (blockM l l3 lk).names.length y2, .slice y3 (blockM l l3 lk).kids.length y4]) (by simp [results, Tryz.results137, go_sem, p0, p1, p2, p3, p4, pz]) rfl FIN
  have HE := LH (rtake_yes wr HPM.out 7 ⟨#[58]⟩ (by decide) (ne1 _) hc)
  have hjt := tok_lt (by decide) hc
  go_wp2_with fail
  refine HE.out.mono ?_
  rintro e w1 ⟨rfl, K1, T1⟩
  have HO1 := LH (HO.out.touch' T1 (by simp; omega))
  have HA1 := LH (AccT.low HA.out T1 (fun k hk => by simp at hk; omega))
  have HT1 := LH (HT.out.trans T1)
  have HP1 := LH K1
  have hs1 := T1.size
  clear K1 T1 HO HA HT HE
  go_wp2_with fail
  obtain ⟨tx, j2, bj2, HC, HTD2, hj2⟩ : ∃ (tx : ByteArray) (j2 : Nat) (bj2 : Bool), Hid (Calls Tryz.prog 12 #[.pointer (some ⟨B, 0, none⟩), .int .i64 1, .string ⟨#[]⟩] w1 (fun e w' => e = .returned (.string tx) /\ Prs 38 B tb to_ cap ao ts w' (j2) bj2 /\ Touch w1 w' [B])) /\ Hid (Todo b (fun n => pPars ts n [] a) bj2 (fun n => pPars ts n (l ++ [tx]) j2)) /\ j + 1 <= j2 := by
   cases hb : tkB ts (j + 1) 1
   · exact ⟨⟨#[]⟩, j + 1, true, LH (rneedk_no w1 HP1.out 1 (by decide) hb), LH (HTD.out.badly (fun n => by rw [pPars, if_pos hc, if_neg (by rw [hb]; decide)])), Nat.le_refl _⟩
   · exact ⟨tkT ts (j + 1), j + 2, bj, LH (rneedk_yes w1 HP1.out 1 (by decide) hb), LH (HTD.out.step (fun n => by rw [pPars, if_pos hc, if_pos hb])), by omega⟩
  clear hc HTD
  go_wp2_with fail
  refine HC.out.mono ?_
  rintro e w2 ⟨rfl, K2, T2⟩
  have HO2 := LH (HO1.out.touch' T2 (by simp; omega))
  have HA2 := AccT.low HA1.out T2 (fun k hk => by simp at hk; omega)
  have HT2 := LH (HT1.out.trans T2)
  have HP2 := LH K2
  have hs2 := T2.size
  have x3 : Ext w2 (w2.alloc (.cells #[.string tx] 9)) := (XR w2).alloc _
  have KD := AccT.ext HA2 x3
  have hjl2 := K2.le
  clear K2 T2 HC HO1 HA1 HT1 HP1 HA2
  go_wp2_with (at_builtin; refine wpList_append_strs_at rfl _ _ rfl (w.heap.size + 1) nv l rfl KD [tx] _ _ _ rfl (rep_one _ _) (by simp; omega) (by simp; omega) ?_)
  intro a1 k1 w4 ac1 g1 m1
  have TG : Touch (w2.alloc (.cells #[.string tx] 9)) w4 nv.ownBlock.toList := (Touch.of_ext (XR _) _).grown g1 fun k hk => Or.inl (by simp [hk])
  have hge : ∀ k, k ∈ nv.ownBlock.toList -> w.heap.size + 1 <= k := fun k hk => (Acc.ge KD (k := k) (by simpa using hk)).1
  have HK4 := LH (HP.out.late (HP2.out.ext x3) TG (fun k hk => by have := hge k hk; omega))
  have HT4 := LH ((HT2.out.trans (Touch.of_ext x3 [B])).late2 TG (fun k hk => by have := hge k hk; omega))
  have HO4 := LH ((HO2.out.ext x3).touch' TG (fun hm => by have := hge _ hm; omega))
  have HAC := LH ac1
  clear KD g1 m1 HP2 HT2 HO2 TG ac1 hge x3
  generalize hv1 : Value.slice a1 (l.length + [tx].length) k1 = v1 at *
  go_wp2_with fail
  refine ⟨⟨l ++ [tx], j2, bj2, HAC.out, HK4.out, HTD2, by simp; omega, HO4.out, HT4.out⟩, ?_⟩
  rw [placeOf_eq HPM.out, placeOf_eq HK4.out]; omega
end Go.Proofs.YtlcebafhbceejaaGreatDoor
