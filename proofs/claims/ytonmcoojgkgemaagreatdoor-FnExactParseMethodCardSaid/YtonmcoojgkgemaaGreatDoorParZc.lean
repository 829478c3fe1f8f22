/-
  CONTRACTS: the reference's parser: keywords, message, statements.
  Conditions: those that each lemma states.
-/
import Derived.Test.YtonmcoojgkgemaaGreatDoorRows
import Derived.Test.YtonmcoojgkgemaaGreatDoorParZb
import Derived.Test.YtonmcoojgkgemaaGreatDoorP28
namespace Go.Proofs.YtonmcoojgkgemaaGreatDoor
open Go.RowKit
set_option linter.unusedSimpArgs false
set_option linter.unusedVariables false

set_option maxHeartbeats 8000000 in
set_option maxRecDepth 100000 in
theorem rkeywords_at {B tb to_ cap : Nat} {ao : Option Addr} {ts : List MToken} {a : Nat} (HBI : ∀ a', a < a' → RBinAt B tb to_ cap ao ts a') : RKeyAt B tb to_ cap ao ts a := by
  intro w b h
  have HP := Lib.hid h
  have hln := h.len
  have hle := h.le
  have hrb := h.own.lt
  have HBI := Lib.hid HBI
  have H0 := Lib.hid (Todo.refl b (fun n => pKeys ts n ⟨#[]⟩ [] a))
  clear h
  go_enter Tryz.func58, Tryz.ntmps58
  go_wp2_with fail
  generalize hS : World.alloc w _ = W1
  have x1 : Ext w W1 := by rw [← hS]; exact (Ext.refl _).alloc _
  have A1 : Hid (AccX w.heap.size W1 (.slice (some ⟨w.heap.size, 0, none⟩) 0 0) []) := Lib.hid (Acw.of (by rw [← hS]; exact Acc.empty 25 5 (Nat.le_refl _)))
  have HP1 := Lib.hid (HP.out.ext x1)
  clear hS
  go_loopw [4, 5] (fun tv av wr => ∃ (s : ByteArray) (l : List MExpr) (j : Nat) (bj : Bool), tv = .string s ∧ AccX w.heap.size wr av l ∧ Prs 48 B tb to_ cap ao ts wr (j) bj ∧ Hid (Todo b (fun n => pKeys ts n ⟨#[]⟩ [] a) bj (fun n => pKeys ts n s l j)) ∧ l.length + a ≤ j ∧ s.size ≤ 100000 * (j - a) ∧ Hid ((j = a ∧ s = ⟨#[]⟩ ∧ l = [] ∧ bj = b) ∨ (b = false ∧ tkB ts a 2 = true ∧ s.size ≠ 0)) ∧ Touch w wr [B]) (fun _ _ wr => ts.length + 1 - placeOf B wr)
  case atStart => exact ⟨⟨#[]⟩, [], a, b, rfl, A1.out, HP1.out, H0, by simp, Nat.zero_le _, Lib.hid (Or.inl ⟨rfl, rfl, rfl, rfl⟩), Touch.of_ext x1 _⟩
  case round =>
    clear A1 HP1 H0
    obtain ⟨av, hav⟩ : ∃ x, x = u5 := ⟨_, rfl⟩
    subst hav
    obtain ⟨s, l, j, bj, rfl, hA, hp, HTD, hlj, hsz, HE, hT⟩ := hrel
    have HA := Lib.hid hA
    have HPj := Lib.hid hp
    have HPM := Lib.hid hp
    have HT := Lib.hid hT
    obtain ⟨c0, c1, c2⟩ := hp.cells
    have zB := lt_of_cell c0
    have hjl := hp.le
    have hws := hT.size
    have HWD : Hid (tkB ts j 2 = true → (tkT ts j).size ≠ 0) := Lib.hid (fun h => hp.word ((kind_eq (by decide)).1 h))
    clear hA hp hT
    cases bj
    rotate_left
    · have FIN : Hid (RKGot B tb to_ cap ao ts w a b (.returned (.tuple #[.string s, av])) wr) := Lib.hid ⟨s, l, av, j, true, rfl, HA.out, HPj.out, HTD.out.dead _, hlj, hsz, (fun h2 => by
        rcases HE.out with ⟨h1, h3, h4, h5⟩ | ⟨h1, h3, h4⟩
        · exact ⟨h3, h1, h5, h4⟩
        · rw [h3] at h2; cases h2), (fun hb0 h2 => by
        rcases HE.out with ⟨h1, h3, h4, h5⟩ | ⟨h1, h3, h4⟩
        · rw [hb0] at h5; cases h5
        · exact h4), HT.out⟩
      clear HTD
      go_wp2_with fail
      go_ret2
      exact FIN.out
    have HI := risk_any _ HPj.out 2 (by decide)
    cases hb : tkB ts j 2
    · have HG : Hid (Got b (fun n => pKeys ts n ⟨#[]⟩ [] a) false (s, l, j)) := Lib.hid (HTD.out.done (fun n => by rw [pKeys, if_neg (by rw [hb]; decide)]))
      have HNB := Lib.hid hb
      rw [hb] at HI
      have HI2 := Lib.hid HI
      clear HTD hb HI
      go_wp2_with fail
      refine HI2.out.mono ?_
      rintro e w1 ⟨rfl, hx⟩
      have FIN : Hid (RKGot B tb to_ cap ao ts w a b (.returned (.tuple #[.string s, av])) w1) := Lib.hid ⟨s, l, av, j, false, rfl, HA.out.ext hx, HPj.out.ext hx, HG.out, hlj, hsz, (fun h2 => by
        rcases HE.out with ⟨h1, h3, h4, h5⟩ | ⟨h1, h3, h4⟩
        · exact ⟨h3, h1, h5, h4⟩
        · rw [h3] at h2; cases h2), (fun hb0 h2 => by
        rcases HE.out with ⟨h1, h3, h4, h5⟩ | ⟨h1, h3, h4⟩
        · subst h1; rw [HNB.out] at h2; cases h2
        · exact h4), HT.out.trans (Touch.of_ext hx _)⟩
      go_wp2_with fail
      go_ret2
      exact FIN.out
    rw [hb] at HI
    have HI2 := Lib.hid HI
    have hjt := kind_lt (by decide) hb
    have htz := HPj.out.txt j
    have hwz := HWD.out hb
    have HE2 : Hid (b = false ∧ tkB ts a 2 = true) := Lib.hid (by
      rcases HE.out with ⟨h1, h3, h4, h5⟩ | ⟨h1, h3, h4⟩
      · subst h1; exact ⟨h5.symm, hb⟩
      · exact ⟨h1, h3⟩)
    have HTK := Lib.hid (fun (W : World) (hp : Prs 48 B tb to_ cap ao ts W (j) false) => rneedk_yes W hp 2 (by decide) hb)
    have HTC := Lib.hid (fun (y : MExpr) (s2 : Bool) (a2 : Nat) (b2 : Bool) (hg : Got false (fun n => pBinary ts n (j + 1)) b2 (y, s2, a2)) => HTD.out.call hg (g := fun n r => pKeys ts n (s ++ tkT ts j) (l ++ [r.1]) r.2.2) (fun n => by rw [pKeys, if_pos hb]))
    clear HTD hb HI HE HWD
    go_wp2_with fail
    refine HI2.out.mono ?_
    rintro e w1 ⟨rfl, hx⟩
    have HP1 := Lib.hid (HPj.out.ext hx)
    have HA1 := Lib.hid (HA.out.ext hx)
    have HT1 := Lib.hid (HT.out.trans (Touch.of_ext hx [B]))
    have hs1 := hx.size
    clear HA HPj HT c0 c1 c2 zB hx HI2
    obtain ⟨tx, htx⟩ : ∃ t, tkT ts j = t := ⟨_, rfl⟩
    rw [htx] at HTK HTC htz hwz
    clear htx
    go_wp2_with fail
    refine (HTK.out _ HP1.out).mono ?_
    rintro e w2 ⟨rfl, K2, T2⟩
    have HA2 := Lib.hid (HA1.out.touch T2 (fun k hk => by simp at hk; omega))
    have hs2 := T2.size
    have HT2 := Lib.hid (HT1.out.trans T2)
    have HU := Lib.hid (HBI.out (j + 1) (by omega) w2 false K2 (by omega))
    have hst : s.size ≤ 80100000 := by omega
    have hcat : (s ++ tx).size = s.size + tx.size := ByteArray.size_append
    have HCAT := Lib.hid hcat
    have HA1B : Hid (∀ k, av.ownBlock = some k → k < w2.heap.size) := Lib.hid fun k hk => (Acw.ge HA2.out hk).2
    clear K2 T2 HA1 HT1 HTK hcat
    go_wp2_with fail
    refine HU.out.mono ?_
    rintro e w3 ⟨y, ds, gp, s2, a2, b2, rfl, hr2, hf2, hp2, hg2, -, hm2, hT2⟩
    have HA3 := Lib.hid (HA2.out.touch hT2 (fun k hk => by simp at hk; omega))
    have HT3 := Lib.hid (HT2.out.trans hT2)
    have HTD2 := Lib.hid (HTC.out y s2 a2 b2 hg2)
    have HP3 := Lib.hid hp2
    have HS3 := Lib.hid hr2
    have HF3 := Lib.hid hf2
    have hs3 := hT2.size
    obtain ⟨u1, u2, u3, u4, rfl⟩ := fld5 hr2
    clear hr2 hf2 hp2 hg2 hT2 HA2 HT2 HU HTC
    go_upto_region 6 with fail
    generalize hS : World.alloc w3 _ = W4
    have x4 : Ext w3 W4 := by rw [← hS]; exact (Ext.refl _).alloc _
    have OY : Own W4 w3.heap.size 25 #[.int .i64 y.kind, .string y.text, .int .i64 y.number, .slice u1 y.names.length u2, .slice u3 y.kids.length u4] := by rw [← hS]; exact own_new w3 _ _
    have HA4 := Lib.hid (HA3.out.ext x4)
    have HP4 := Lib.hid (HP3.out.ext x4)
    have HS4 := Lib.hid (HS3.out.ext x4)
    have HT4 := Lib.hid (HT3.out.trans (Touch.of_ext x4 [B]))
    have hs4 := x4.size
    clear hS x4 HA3 HP3 HS3 HT3
    generalize hyb : w3.heap.size = yb at *
    clear hyb
    have r0 : W4.cell? ⟨yb, 0, none⟩ = some (.int .i64 y.kind) := OY.cell 0
    have r1 : W4.cell? ⟨yb, 1, none⟩ = some (.string y.text) := OY.cell 1
    have r2 : W4.cell? ⟨yb, 2, none⟩ = some (.int .i64 y.number) := OY.cell 2
    have r3 : W4.cell? ⟨yb, 3, none⟩ = some (.slice u1 y.names.length u2) := OY.cell 3
    have r4 : W4.cell? ⟨yb, 4, none⟩ = some (.slice u3 y.kids.length u4) := OY.cell 4
    have rz := OY.lt
    have x5 : Ext W4 (W4.alloc (.cells #[.int .i64 y.kind, .string y.text, .int .i64 y.number, .slice u1 y.names.length u2, .slice u3 y.kids.length u4] 25)) := (Ext.refl W4).alloc _
    have KD := HA4.out.ext x5
    have HSL := one_expr (HS4.out.ext x5) (own_new W4 #[.int .i64 y.kind, .string y.text, .int .i64 y.number, .slice u1 y.names.length u2, .slice u3 y.kids.length u4] 25)
    go_wp2_with (at_builtin; refine wpList_append_x rfl _ _ rfl w.heap.size av l rfl KD [y] _ _ _ (W4.heap.size :: gp) rfl HSL (fun k hk => by have := HF3.out k hk; omega) (fun k hk hm => by have h1 := HF3.out k hm; have h2 := (HA1B.out k hk); omega) (by simp; omega) (by simp; omega) ?_)
    intro a1 k1 w6 ac1 g1 m1
    have TG : Touch (W4.alloc (.cells #[.int .i64 y.kind, .string y.text, .int .i64 y.number, .slice u1 y.names.length u2, .slice u3 y.kids.length u4] 25)) w6 av.ownBlock.toList := (Touch.of_ext (Ext.refl _) _).grown g1 fun k hk => Or.inl (by simp [hk])
    have HK6 := Lib.hid (HP.out.late (HP4.out.ext x5) TG (fun k hk => (Acw.ge KD (k := k) (by simpa using hk)).1))
    have HT6 := Lib.hid ((HT4.out.trans (Touch.of_ext x5 [B])).late2 TG (fun k hk => (Acw.ge KD (k := k) (by simpa using hk)).1))
    have HAC := Lib.hid ac1
    have hsz2 : (s ++ tx).size ≤ 100000 * (a2 - a) := by rw [HCAT.out]; omega
    have HE3 : Hid ((a2 = a ∧ s ++ tx = ⟨#[]⟩ ∧ l ++ [y] = [] ∧ b2 = b) ∨ (b = false ∧ tkB ts a 2 = true ∧ (s ++ tx).size ≠ 0)) := Lib.hid (Or.inr ⟨HE2.out.1, HE2.out.2, by rw [HCAT.out]; omega⟩)
    clear KD HSL g1 m1 TG ac1 x5 OY r0 r1 r2 r3 r4 rz HE2
    generalize hv1 : Value.slice a1 (l.length + [y].length) k1 = v1 at *
    go_wp2_with fail
    refine ⟨⟨s ++ tx, l ++ [y], a2, b2, rfl, HAC.out, HK6.out, HTD2, ?_, hsz2, HE3, HT6.out⟩, ?_⟩
    · simp; omega
    · rw [placeOf_eq HPM.out, placeOf_eq HK6.out]; have := HK6.out.le; omega

set_option maxHeartbeats 8000000 in
set_option maxRecDepth 100000 in
theorem rmessage_at {B tb to_ cap : Nat} {ao : Option Addr} {ts : List MToken} {a : Nat} (HUN : ∀ a', a < a' → RUnAt B tb to_ cap ao ts a') (HKE : RKeyAt B tb to_ cap ao ts a) : RMsgAt B tb to_ cap ao ts a := by
  intro w b h
  have HP := Lib.hid h
  have hln := h.len
  have hle := h.le
  have hrb := h.own.lt
  have HUN := Lib.hid HUN
  have HKE := Lib.hid HKE
  have htz := h.txt a
  have HWD : Hid (tkB ts a 2 = true → (tkT ts a).size ≠ 0) := Lib.hid (fun h2 => h.word ((kind_eq (by decide)).1 h2))
  clear h
  go_enter Tryz.func60, Tryz.ntmps60
  go_upto_region 1 with fail
  generalize hS : World.alloc w _ = W1
  have x1 : Ext w W1 := by rw [← hS]; exact (Ext.refl _).alloc _
  have O1 : Own W1 w.heap.size 25 #[.int .i64 0, .string ⟨#[]⟩, .int .i64 0, .slice none 0 0, .slice none 0 0] := by rw [← hS]; exact own_new w _ _
  clear hS
  have HP1 := Lib.hid (HP.out.ext x1)
  have HT1 : Hid (Touch w W1 [B]) := Lib.hid (Touch.of_ext x1 _)
  have hs1 := x1.size
  have hro := O1.lt
  clear x1
  have HI := risk_any _ HP1.out 1 (by decide)
  cases hb1 : tkB ts a 1
  rotate_left
  · rw [hb1] at HI
    have HI2 := Lib.hid HI
    have TB := Lib.hid hb1
    have hjt := kind_lt (by decide) hb1
    clear HI hb1
    go_wp2_with fail
    refine HI2.out.mono ?_
    rintro e w2 ⟨rfl, hx⟩
    have HC := Lib.hid (rneedk_yes w2 (HP1.out.ext hx) 1 (by decide) TB.out)
    obtain ⟨tx, htx⟩ : ∃ t, tkT ts a = t := ⟨_, rfl⟩
    rw [htx] at HC
    have HTX := Lib.hid htx
    have O2 := O1.ext hx
    have HT2 := Lib.hid (HT1.out.trans (Touch.of_ext hx [B]))
    clear hx HI2 O1 HT1 htx
    go_wp2_with fail
    refine HC.out.mono ?_
    rintro e w3 ⟨rfl, K3, T3⟩
    have O3 := O2.touch' T3 (by simp; omega)
    have HP3 := Lib.hid K3
    have HT3 := Lib.hid (HT2.out.trans T3)
    clear K3 T3 O2 HT2 HC
    have o0 : w3.cell? ⟨w.heap.size, 0, none⟩ = some (.int .i64 0) := O3.cell 0
    have of0 := O3.frozen 0
    have o1 : w3.cell? ⟨w.heap.size, 1, none⟩ = some (.string ⟨#[]⟩) := O3.cell 1
    have of1 := O3.frozen 1
    have o2 : w3.cell? ⟨w.heap.size, 2, none⟩ = some (.int .i64 0) := O3.cell 2
    have of2 := O3.frozen 2
    have o3 : w3.cell? ⟨w.heap.size, 3, none⟩ = some (.slice none 0 0) := O3.cell 3
    have of3 := O3.frozen 3
    have o4 : w3.cell? ⟨w.heap.size, 4, none⟩ = some (.slice none 0 0) := O3.cell 4
    have of4 := O3.frozen 4
    have oz := O3.lt
    go_wp2_with fail
    generalize hS : World.setCell (World.setCell (World.setCell (World.setCell (World.setCell w3 _ _) _ _) _ _) _ _) _ _ = W9
    obtain ⟨O9, T9⟩ := own5 O3 (.int .i64 6) (.string tx) (.int .i64 0) (.slice none 0 0) (.slice none 0 0)
    rw [hS] at O9 T9
    clear hS
    have p0 : W9.cell? ⟨w.heap.size, 0, none⟩ = some (.int .i64 6) := O9.cell 0
    have p1 : W9.cell? ⟨w.heap.size, 1, none⟩ = some (.string tx) := O9.cell 1
    have p2 : W9.cell? ⟨w.heap.size, 2, none⟩ = some (.int .i64 0) := O9.cell 2
    have p3 : W9.cell? ⟨w.heap.size, 3, none⟩ = some (.slice none 0 0) := O9.cell 3
    have p4 : W9.cell? ⟨w.heap.size, 4, none⟩ = some (.slice none 0 0) := O9.cell 4
    have pz := O9.lt
    have FIN : RGot B tb to_ cap _ ts w a b (fun n => pMsg ts n a) (.returned (.agg #[.int .i64 6, .string tx, .int .i64 0, .slice none 0 0, .slice none 0 0])) W9 := ⟨eMsg tx [], _, [], a + 1, b, rfl, leaf_rep _ _ _ _, (fun k hk => nomatch hk), HP.out.late HP3.out T9 (fun k hk => by simp at hk; omega), Got.ok (Ev.step (g := fun _ => some (eMsg tx [], a + 1)) (fun n => by rw [pMsg, if_pos TB.out, HTX.out]) (Ev.const _)), by omega, HT3.out.late2 T9 (fun k hk => by simp at hk; omega)⟩
    exact bodyPost_ret (v := .agg #[.int .i64 6, .string tx, .int .i64 0, .slice none 0 0, .slice none 0 0]) (by simp [results, Tryz.results60, go_sem, p0, p1, p2, p3, p4, pz]) rfl FIN
  have NB1 := Lib.hid hb1
  rw [hb1] at HI
  have HI2 := Lib.hid HI
  clear HI hb1
  go_wp2_with fail
  refine HI2.out.mono ?_
  rintro e w2 ⟨rfl, hx⟩
  have HP2 := Lib.hid (HP1.out.ext hx)
  have O2 := O1.ext hx
  have HT2 := Lib.hid (HT1.out.trans (Touch.of_ext hx [B]))
  have hs2 := hx.size
  clear hx HI2 O1 HT1 HP1
  have HI := risk_any _ HP2.out 6 (by decide)
  cases hb6 : tkB ts a 6
  rotate_left
  · rw [hb6] at HI
    have HI2 := Lib.hid HI
    have TB := Lib.hid hb6
    have hjt := kind_lt (by decide) hb6
    clear HI hb6
    go_wp2_with fail
    refine HI2.out.mono ?_
    rintro e w3 ⟨rfl, hx⟩
    have HC := Lib.hid (rneedk_yes w3 (HP2.out.ext hx) 6 (by decide) TB.out)
    obtain ⟨tx, htx⟩ : ∃ t, tkT ts a = t := ⟨_, rfl⟩
    rw [htx] at HC
    have HTX := Lib.hid htx
    have O3 := O2.ext hx
    have HT3 := Lib.hid (HT2.out.trans (Touch.of_ext hx [B]))
    have hs3 := hx.size
    clear hx HI2 O2 HT2 htx
    go_wp2_with fail
    refine HC.out.mono ?_
    rintro e w4 ⟨rfl, K4, T4⟩
    have O4 := O3.touch' T4 (by simp; omega)
    have HP4 := Lib.hid K4
    have HT4 := Lib.hid (HT3.out.trans T4)
    have hs4 := T4.size
    clear K4 T4 O3 HT3 HC
    go_wp2_with fail
    refine (HUN.out (a + 1) (by omega) w4 b HP4.out (by omega)).mono ?_
    rintro e w5 ⟨y, ds, gp, s2, a2, b2, rfl, hr, hf, hp, hg, -, hm, hT⟩
    have O5 := O4.touch' hT (by simp; omega)
    have HG := Lib.hid ((Todo.refl b (fun n => pMsg ts n a)).call hg (g := fun n r => some (eMsg (tkT ts a) [r.1], r.2.2)) (fun n => by rw [pMsg, if_neg (by rw [NB1.out]; decide), if_pos TB.out]))
    have HP5 := Lib.hid hp
    have HR5 := Lib.hid hr
    have HF5 := Lib.hid hf
    have HT5 := Lib.hid (HT4.out.trans hT)
    have hs5 := hT.size
    obtain ⟨u1, u2, u3, u4, rfl⟩ := fld5 hr
    clear hr hf hp hg hT O4 HP4 HT4
    go_upto_region 6 with fail
    generalize hS : World.alloc w5 _ = W6
    have x6 : Ext w5 W6 := by rw [← hS]; exact (Ext.refl _).alloc _
    have OY : Own W6 w5.heap.size 25 #[.int .i64 y.kind, .string y.text, .int .i64 y.number, .slice u1 y.names.length u2, .slice u3 y.kids.length u4] := by rw [← hS]; exact own_new w5 _ _
    have O6 := O5.ext x6
    have HX6 := Lib.hid x6
    have hs6 := x6.size
    clear hS x6 O5
    generalize hyb : w5.heap.size = yb at *
    clear hyb
    have r0 : W6.cell? ⟨yb, 0, none⟩ = some (.int .i64 y.kind) := OY.cell 0
    have r1 : W6.cell? ⟨yb, 1, none⟩ = some (.string y.text) := OY.cell 1
    have r2 : W6.cell? ⟨yb, 2, none⟩ = some (.int .i64 y.number) := OY.cell 2
    have r3 : W6.cell? ⟨yb, 3, none⟩ = some (.slice u1 y.names.length u2) := OY.cell 3
    have r4 : W6.cell? ⟨yb, 4, none⟩ = some (.slice u3 y.kids.length u4) := OY.cell 4
    have rz := OY.lt
    have o0 : W6.cell? ⟨w.heap.size, 0, none⟩ = some (.int .i64 0) := O6.cell 0
    have of0 := O6.frozen 0
    have o1 : W6.cell? ⟨w.heap.size, 1, none⟩ = some (.string ⟨#[]⟩) := O6.cell 1
    have of1 := O6.frozen 1
    have o2 : W6.cell? ⟨w.heap.size, 2, none⟩ = some (.int .i64 0) := O6.cell 2
    have of2 := O6.frozen 2
    have o3 : W6.cell? ⟨w.heap.size, 3, none⟩ = some (.slice none 0 0) := O6.cell 3
    have of3 := O6.frozen 3
    have o4 : W6.cell? ⟨w.heap.size, 4, none⟩ = some (.slice none 0 0) := O6.cell 4
    have of4 := O6.frozen 4
    have oz := O6.lt
    go_wp2_with fail
    obtain ⟨O9, R9, T9⟩ := msg_A 6 O6 (HR5.out.ext HX6.out) (fun b hb => by have := HF5.out b hb; omega) tx
    generalize hWF : World.alloc (World.setCell (World.setCell (World.setCell (World.setCell (World.setCell W6 _ _) _ _) _ _) _ _) _ _) _ = W9 at *
    clear hWF
    have p0 : W9.cell? ⟨w.heap.size, 0, none⟩ = some (.int .i64 6) := O9.cell 0
    have p1 : W9.cell? ⟨w.heap.size, 1, none⟩ = some (.string tx) := O9.cell 1
    have p2 : W9.cell? ⟨w.heap.size, 2, none⟩ = some (.int .i64 0) := O9.cell 2
    have p3 : W9.cell? ⟨w.heap.size, 3, none⟩ = some (.slice none 0 0) := O9.cell 3
    have p4 : W9.cell? ⟨w.heap.size, 4, none⟩ = some (.slice (some ⟨W6.heap.size, 0, none⟩) 1 1) := O9.cell 4
    have pz := O9.lt
    have FIN : RGot B tb to_ cap _ ts w a b (fun n => pMsg ts n a) (.returned (.agg #[.int .i64 6, .string tx, .int .i64 0, .slice none 0 0, .slice (some ⟨W6.heap.size, 0, none⟩) 1 1])) W9 := ⟨eMsg tx [y], _, (W6.heap.size :: gp), a2, b2, rfl, R9, (fun k hk => by
      rcases List.mem_cons.1 hk with rfl | hk
      · omega
      · have := HF5.out k hk; omega), HP.out.late (HP5.out.ext HX6.out) T9 (fun k hk => by simp at hk; omega), HG.out.done (fun n => by rw [HTX.out]), by omega, (HT5.out.trans (Touch.of_ext HX6.out [B])).late2 T9 (fun k hk => by simp at hk; omega)⟩
    exact bodyPost_ret (v := .agg #[.int .i64 6, .string tx, .int .i64 0, .slice none 0 0, .slice (some ⟨W6.heap.size, 0, none⟩) 1 1]) (by simp [results, Tryz.results60, go_sem, p0, p1, p2, p3, p4, pz]) rfl FIN
  have NB6 := Lib.hid hb6
  rw [hb6] at HI
  have HI2 := Lib.hid HI
  clear HI hb6
  go_wp2_with fail
  refine HI2.out.mono ?_
  rintro e w3 ⟨rfl, hx⟩
  have O3 := O2.ext hx
  have HT3 := Lib.hid (HT2.out.trans (Touch.of_ext hx [B]))
  have HK := Lib.hid (HKE.out w3 b (HP2.out.ext hx))
  have hs3 := hx.size
  clear hx HI2 O2 HT2 HP2 HKE
  go_wp2_with fail
  refine HK.out.mono ?_
  rintro e w4 ⟨s, l, v, a2, b2, rfl, hA, hp, hg, hl, hsz, hz0, hz1, hT⟩
  have O4 := O3.touch' hT (by simp; omega)
  obtain ⟨va, vc, gp, rfl, hr, hge⟩ := AccX.rep hA
  have HP4 := Lib.hid hp
  have HR4 := Lib.hid hr
  have HGE := Lib.hid hge
  have HT4 := Lib.hid (HT3.out.trans hT)
  have hs4 := hT.size
  clear hA hp hr hge hT O3 HT3
  by_cases hse : s = ⟨#[]⟩
  · have HG : Hid (Got b (fun n => pMsg ts n a) true (eMsg s l, a2)) := Lib.hid (by
      cases b with
      | true => exact Got.dead _ _
      | false =>
        refine Got.bad _ (Ev.step (g := fun _ => none) (fun n => ?_) (Ev.const _))
        rw [pMsg, if_neg (by rw [NB1.out]; decide), if_neg (by rw [NB6.out]; decide)]
        refine if_neg (fun h2 => ?_)
        have := hz1 rfl h2
        rw [hse] at this
        exact this rfl)
    have hs0 : (s.toList == []) = true := str_eq' (l := []) hse
    clear hse hz0 hz1 hg
    obtain ⟨c0, c1, c2⟩ := HP4.out.cells
    have f2 := HP4.out.own.frozen 2
    have zB := lt_of_cell c0
    go_upto_region 10 with fail
    obtain ⟨K5, T5⟩ := HP4.out.setBad
    generalize hS2 : World.setCell w4 _ _ = W5 at *
    have O5 := O4.touch' T5 (by simp; omega)
    have HP5 := Lib.hid K5
    have HT5 := Lib.hid (HT4.out.trans T5)
    have HR5 := Lib.hid (HR4.out.touch T5 (fun k hk hm => by have := HGE.out k hk; simp at hm; omega))
    clear hS2 K5 T5 c0 c1 c2 f2 zB O4 HP4 HT4 HR4
    have o0 : W5.cell? ⟨w.heap.size, 0, none⟩ = some (.int .i64 0) := O5.cell 0
    have of0 := O5.frozen 0
    have o1 : W5.cell? ⟨w.heap.size, 1, none⟩ = some (.string ⟨#[]⟩) := O5.cell 1
    have of1 := O5.frozen 1
    have o2 : W5.cell? ⟨w.heap.size, 2, none⟩ = some (.int .i64 0) := O5.cell 2
    have of2 := O5.frozen 2
    have o3 : W5.cell? ⟨w.heap.size, 3, none⟩ = some (.slice none 0 0) := O5.cell 3
    have of3 := O5.frozen 3
    have o4 : W5.cell? ⟨w.heap.size, 4, none⟩ = some (.slice none 0 0) := O5.cell 4
    have of4 := O5.frozen 4
    have oz := O5.lt
    go_wp2_with fail
    generalize hS : World.setCell (World.setCell (World.setCell (World.setCell (World.setCell W5 _ _) _ _) _ _) _ _) _ _ = W9
    obtain ⟨O9, T9⟩ := own5 O5 (.int .i64 6) (.string s) (.int .i64 0) (.slice none 0 0) (.slice va l.length vc)
    rw [hS] at O9 T9
    clear hS
    have p0 : W9.cell? ⟨w.heap.size, 0, none⟩ = some (.int .i64 6) := O9.cell 0
    have p1 : W9.cell? ⟨w.heap.size, 1, none⟩ = some (.string s) := O9.cell 1
    have p2 : W9.cell? ⟨w.heap.size, 2, none⟩ = some (.int .i64 0) := O9.cell 2
    have p3 : W9.cell? ⟨w.heap.size, 3, none⟩ = some (.slice none 0 0) := O9.cell 3
    have p4 : W9.cell? ⟨w.heap.size, 4, none⟩ = some (.slice va l.length vc) := O9.cell 4
    have pz := O9.lt
    have RX := MExpr.shut (x := eMsg s l) (rep_nilT W9) (HR5.out.touch T9 (fun k hk hm => by have := HGE.out k hk; simp at hm; omega))
    simp only [List.append_nil, List.nil_append] at RX
    have FIN : RGot B tb to_ cap _ ts w a b (fun n => pMsg ts n a) (.returned (.agg #[.int .i64 6, .string s, .int .i64 0, .slice none 0 0, .slice va l.length vc])) W9 := ⟨eMsg s l, _, gp, a2, true, rfl, RX, (fun k hk => by have := HGE.out k hk; omega), HP.out.late HP5.out T9 (fun k hk => by simp at hk; omega), HG.out, by omega, HT5.out.late2 T9 (fun k hk => by simp at hk; omega)⟩
    exact bodyPost_ret (v := .agg #[.int .i64 6, .string s, .int .i64 0, .slice none 0 0, .slice va l.length vc]) (by simp [results, Tryz.results60, go_sem, p0, p1, p2, p3, p4, pz]) rfl FIN
  have hs0 : (s.toList == []) = false := str_ne' (l := []) hse
  have HG : Hid (Got b (fun n => pMsg ts n a) b2 (eMsg s l, a2)) := Lib.hid (by
    cases hb2 : tkB ts a 2 with
    | false => exact absurd (hz0 hb2).1 hse
    | true => exact ((Todo.refl b (fun n => pMsg ts n a)).call hg (g := fun n r => some (eMsg r.1 r.2.1, r.2.2)) (fun n => by rw [pMsg, if_neg (by rw [NB1.out]; decide), if_neg (by rw [NB6.out]; decide), if_pos hb2])).done (fun n => rfl))
  clear hse hz0 hz1 hg
  have o0 : w4.cell? ⟨w.heap.size, 0, none⟩ = some (.int .i64 0) := O4.cell 0
  have of0 := O4.frozen 0
  have o1 : w4.cell? ⟨w.heap.size, 1, none⟩ = some (.string ⟨#[]⟩) := O4.cell 1
  have of1 := O4.frozen 1
  have o2 : w4.cell? ⟨w.heap.size, 2, none⟩ = some (.int .i64 0) := O4.cell 2
  have of2 := O4.frozen 2
  have o3 : w4.cell? ⟨w.heap.size, 3, none⟩ = some (.slice none 0 0) := O4.cell 3
  have of3 := O4.frozen 3
  have o4 : w4.cell? ⟨w.heap.size, 4, none⟩ = some (.slice none 0 0) := O4.cell 4
  have of4 := O4.frozen 4
  have oz := O4.lt
  go_wp2_with fail
  generalize hS : World.setCell (World.setCell (World.setCell (World.setCell (World.setCell w4 _ _) _ _) _ _) _ _) _ _ = W9
  obtain ⟨O9, T9⟩ := own5 O4 (.int .i64 6) (.string s) (.int .i64 0) (.slice none 0 0) (.slice va l.length vc)
  rw [hS] at O9 T9
  clear hS
  have p0 : W9.cell? ⟨w.heap.size, 0, none⟩ = some (.int .i64 6) := O9.cell 0
  have p1 : W9.cell? ⟨w.heap.size, 1, none⟩ = some (.string s) := O9.cell 1
  have p2 : W9.cell? ⟨w.heap.size, 2, none⟩ = some (.int .i64 0) := O9.cell 2
  have p3 : W9.cell? ⟨w.heap.size, 3, none⟩ = some (.slice none 0 0) := O9.cell 3
  have p4 : W9.cell? ⟨w.heap.size, 4, none⟩ = some (.slice va l.length vc) := O9.cell 4
  have pz := O9.lt
  have RX := MExpr.shut (x := eMsg s l) (rep_nilT W9) (HR4.out.touch T9 (fun k hk hm => by have := HGE.out k hk; simp at hm; omega))
  simp only [List.append_nil, List.nil_append] at RX
  have FIN : RGot B tb to_ cap _ ts w a b (fun n => pMsg ts n a) (.returned (.agg #[.int .i64 6, .string s, .int .i64 0, .slice none 0 0, .slice va l.length vc])) W9 := ⟨eMsg s l, _, gp, a2, b2, rfl, RX, (fun k hk => by have := HGE.out k hk; omega), HP.out.late HP4.out T9 (fun k hk => by simp at hk; omega), HG.out, by omega, HT4.out.late2 T9 (fun k hk => by simp at hk; omega)⟩
  exact bodyPost_ret (v := .agg #[.int .i64 6, .string s, .int .i64 0, .slice none 0 0, .slice va l.length vc]) (by simp [results, Tryz.results60, go_sem, p0, p1, p2, p3, p4, pz]) rfl FIN

end Go.Proofs.YtonmcoojgkgemaaGreatDoor
