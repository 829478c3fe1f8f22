/-
  CONTRACTS: the reference's parser: statements, block.
  Conditions: those that each lemma states.
-/
import Derived.Test.YtonmcoojgkgemaaGreatDoorRows
import Derived.Test.YtonmcoojgkgemaaGreatDoorParZc
namespace Go.Proofs.YtonmcoojgkgemaaGreatDoor
open Go.RowKit
set_option linter.unusedSimpArgs false
set_option linter.unusedVariables false

set_option maxHeartbeats 8000000 in
set_option maxRecDepth 100000 in
theorem rstatements_at {B tb to_ cap : Nat} {ao : Option Addr} {ts : List MToken} {a : Nat} (HEX : ∀ a', a ≤ a' → RExprAt B tb to_ cap ao ts a') : RStmAt B tb to_ cap ao ts a := by
  intro w b h
  have HP := Lib.hid h
  have hln := h.len
  have hle := h.le
  have hrb := h.own.lt
  have HEX := Lib.hid HEX
  have H0 := Lib.hid (Todo.refl b (fun n => pStmts ts n [] a))
  clear h
  go_enter Tryz.func44, Tryz.ntmps44
  go_wp2_with fail
  generalize hS : World.alloc w _ = W1
  have x1 : Ext w W1 := by rw [← hS]; exact (Ext.refl _).alloc _
  have A1 : Hid (AccX w.heap.size W1 (.slice (some ⟨w.heap.size, 0, none⟩) 0 0) []) := Lib.hid (Acw.of (by rw [← hS]; exact Acc.empty 25 5 (Nat.le_refl _)))
  have HP1 := Lib.hid (HP.out.ext x1)
  clear hS
  go_loopw [3] (fun av wr => ∃ (l : List MExpr) (j : Nat) (bj : Bool), AccX w.heap.size wr av l ∧ Prs 48 B tb to_ cap ao ts wr (j) bj ∧ Hid (Todo b (fun n => pStmts ts n [] a) bj (fun n => pStmts ts n l j)) ∧ l.length + a ≤ j ∧ Touch w wr [B]) (fun _ wr => ts.length + 1 - placeOf B wr)
  case atStart => exact ⟨[], a, b, A1.out, HP1.out, H0, by simp, Touch.of_ext x1 _⟩
  case round =>
    clear A1 HP1 H0 x1
    obtain ⟨av, hav⟩ : ∃ x, x = u3 := ⟨_, rfl⟩
    subst hav
    obtain ⟨l, j, bj, hA, hp, HTD, hlj, hT⟩ := hrel
    have HA := Lib.hid hA
    have HPj := Lib.hid hp
    have HPM := Lib.hid hp
    have HT := Lib.hid hT
    obtain ⟨c0, c1, c2⟩ := hp.cells
    have zB := lt_of_cell c0
    have hjl := hp.le
    have hws := hT.size
    cases bj
    rotate_left
    · have FIN : Hid (RTGot B tb to_ cap ao ts w a b (.returned av) wr) := Lib.hid ⟨l, av, j, true, rfl, hA, hp, HTD.out.dead _, by omega, by omega, hT⟩
      clear HTD hA hp hT
      go_wp2_with fail
      go_ret
      exact FIN.out
    have hjk := hp.ok rfl
    clear hA hp hT
    have HI := rbegins_any _ HPj.out
    cases hr : tkxB ts j 7 retM
    · have HNR := Lib.hid hr
      cases hb : beginsB ts j
      · have HG : Hid (Got b (fun n => pStmts ts n [] a) false (l, j)) := Lib.hid (HTD.out.done (fun n => by rw [pStmts, if_neg (by rw [HNR.out]; decide), if_neg (by rw [hb]; decide)]))
        rw [hr, hb] at HI
        replace HI := Lib.hid (show Calls _ _ _ _ (fun e w' => e = .returned (.bool false) ∧ Ext wr w') from HI)
        clear hb hr
        go_wp2_with fail
        refine HI.out.mono ?_
        rintro e w2 ⟨rfl, hx⟩
        have FIN : Hid (RTGot B tb to_ cap ao ts w a b (.returned av) w2) := Lib.hid ⟨l, av, j, false, rfl, HA.out.ext hx, HPj.out.ext hx, HG.out, by omega, by omega, HT.out.trans (Touch.of_ext hx _)⟩
        clear HTD
        go_wp2_with fail
        go_ret
        exact FIN.out
      rw [hr, hb] at HI
      replace HI := Lib.hid (show Calls _ _ _ _ (fun e w' => e = .returned (.bool true) ∧ Ext wr w') from HI)
      have HTC := Lib.hid (fun (x : MExpr) (a2 : Nat) (b2 : Bool) (hg : Got false (fun n => pExpr ts n j) b2 (x, a2)) => HTD.out.call hg (g := fun n r => if tkxB ts r.2 7 dotM = true then pStmts ts n (l ++ [r.1]) (r.2 + 1) else some (l ++ [r.1], r.2)) (fun n => by rw [pStmts, if_neg (by rw [HNR.out]; decide), if_pos hb]))
      clear hb hr HTD
      go_wp2_with fail
      refine HI.out.mono ?_
      rintro e w1 ⟨rfl, hx1⟩
      have HE := Lib.hid (rtake_no w1 (HPj.out.ext hx1) 7 ⟨#[94]⟩ (by decide) (ne1 _) HNR.out)
      have HA1 := Lib.hid (HA.out.ext hx1)
      have HT1 := Lib.hid (HT.out.trans (Touch.of_ext hx1 [B]))
      have HK1 := Lib.hid (HPj.out.ext hx1)
      have hs1 := hx1.size
      clear hx1 HA HPj HT HI c0 c1 c2 zB
      go_wp2_with fail
      refine HE.out.mono ?_
      rintro e w2 ⟨rfl, hx⟩
      have HU := Lib.hid (HEX.out j (by omega) w2 false (HK1.out.ext hx) hjk)
      have HA2 := Lib.hid (HA1.out.ext hx)
      have HT2 := Lib.hid (HT1.out.trans (Touch.of_ext hx [B]))
      have hs2 := hx.size
      clear hx HA1 HK1 HT1 HE
      go_wp2_with fail
      refine HU.out.mono ?_
      rintro e w3 ⟨x, cs, gp, a2, b2, rfl, hr2, hf2, hp2, hg2, hm2, hT2⟩
      have HA3 := Lib.hid (HA2.out.touch hT2 (fun k hk => by simp at hk; omega))
      have HAB : Hid (∀ k, av.ownBlock = some k → k < w2.heap.size) := Lib.hid fun k hk => (Acw.ge HA2.out hk).2
      have HT3 := Lib.hid (HT2.out.trans hT2)
      have HTD2 := Lib.hid (HTC.out x a2 b2 hg2)
      have HP3 := Lib.hid hp2
      have HS3 := Lib.hid hr2
      have HF3 := Lib.hid hf2
      have hs3 := hT2.size
      obtain ⟨y1, y2, y3, y4, rfl⟩ := fld5 hr2
      clear hr2 hf2 hp2 hg2 hT2 HA2 HT2 HU HTC
      have x5 : Ext w3 (w3.alloc (.cells #[.int .i64 x.kind, .string x.text, .int .i64 x.number, .slice y1 x.names.length y2, .slice y3 x.kids.length y4] 25)) := (Ext.refl w3).alloc _
      have KD := HA3.out.ext x5
      have HSL := one_expr (HS3.out.ext x5) (own_new w3 #[.int .i64 x.kind, .string x.text, .int .i64 x.number, .slice y1 x.names.length y2, .slice y3 x.kids.length y4] 25)
      have hlen : l.length ≤ 801 := by omega
      go_wp2_with (at_builtin; refine wpList_append_x rfl _ _ rfl w.heap.size av l rfl KD [x] _ _ _ (w3.heap.size :: gp) rfl HSL (fun k hk => by have := HF3.out k hk; omega) (fun k hk hm => by have h1 := HF3.out k hm; have h2 := (HAB.out k hk); omega) (by simp; omega) (by simp; omega) ?_)
      intro a1 k1 w6 ac1 g1 m1
      have TG : Touch (w3.alloc (.cells #[.int .i64 x.kind, .string x.text, .int .i64 x.number, .slice y1 x.names.length y2, .slice y3 x.kids.length y4] 25)) w6 av.ownBlock.toList := (Touch.of_ext (Ext.refl _) _).grown g1 fun k hk => Or.inl (by simp [hk])
      have HK6 := Lib.hid (HP.out.late (HP3.out.ext x5) TG (fun k hk => (Acw.ge KD (k := k) (by simpa using hk)).1))
      have HT6 := Lib.hid ((HT3.out.trans (Touch.of_ext x5 [B])).late2 TG (fun k hk => (Acw.ge KD (k := k) (by simpa using hk)).1))
      have HAC := Lib.hid ac1
      clear KD HSL g1 m1 TG ac1 x5
      generalize hv1 : Value.slice a1 (l.length + [x].length) k1 = v1 at *
      clear hv1
      cases hd : tkxB ts a2 7 dotM
      · have HD := Lib.hid (rtake_no w6 HK6.out 7 ⟨#[46]⟩ (by decide) (ne1 _) hd)
        have HG : Hid (Got b (fun n => pStmts ts n [] a) b2 (l ++ [x], a2)) := Lib.hid (HTD2.out.done (fun n => by show (if tkxB ts a2 7 dotM = true then pStmts ts (n + 1) (l ++ [x]) (a2 + 1) else some (l ++ [x], a2)) = _; rw [if_neg (by rw [hd]; decide)]))
        clear hd HTD2
        go_wp2_with fail
        refine HD.out.mono ?_
        rintro e w7 ⟨rfl, hx7⟩
        have FIN : Hid (RTGot B tb to_ cap ao ts w a b (.returned v1) w7) := Lib.hid ⟨l ++ [x], v1, a2, b2, rfl, HAC.out.ext hx7, HK6.out.ext hx7, HG.out, by simp; omega, by omega, HT6.out.trans (Touch.of_ext hx7 _)⟩
        clear hx7
        go_wp2_with fail
        go_ret
        exact FIN.out
      have HD := Lib.hid (rtake_yes w6 HK6.out 7 ⟨#[46]⟩ (by decide) (ne1 _) hd)
      have hdt := tok_lt (by decide) hd
      have HTD3 : Hid (Todo b (fun n => pStmts ts n [] a) b2 (fun n => pStmts ts n (l ++ [x]) (a2 + 1))) := Lib.hid (by
        have e : (fun n => (fun n r => if tkxB ts r.2 7 dotM = true then pStmts ts n (l ++ [r.1]) (r.2 + 1) else some (l ++ [r.1], r.2)) n (x, a2)) = (fun n => pStmts ts n (l ++ [x]) (a2 + 1)) := funext fun n => by show (if tkxB ts a2 7 dotM = true then _ else _) = _; rw [if_pos hd]
        have := HTD2.out
        rw [e] at this
        exact this)
      clear hd HTD2
      go_wp2_with fail
      refine HD.out.mono ?_
      rintro e w7 ⟨rfl, K7, T7⟩
      have HA7 := Lib.hid (HAC.out.touch T7 (fun k hk => by simp at hk; omega))
      have HK7 := Lib.hid K7
      have HT7 := Lib.hid (HT6.out.trans T7)
      clear K7 T7
      go_wp2_with fail
      refine ⟨⟨l ++ [x], a2 + 1, b2, HA7.out, HK7.out, HTD3, ?_, HT7.out⟩, ?_⟩
      · simp; omega
      · rw [placeOf_eq HPM.out, placeOf_eq HK7.out]; have := HK7.out.le; omega
    rw [hr, Bool.or_true] at HI
    have HI2 := Lib.hid HI
    have HNR := Lib.hid hr
    have hjt := tok_lt (by decide) hr
    have HTC := Lib.hid (fun (x : MExpr) (a2 : Nat) (b2 : Bool) (hg : Got false (fun n => pExpr ts n (j + 1)) b2 (x, a2)) => HTD.out.call hg (g := fun n r => some (l ++ [eRet r.1], if tkxB ts r.2 7 dotM = true then r.2 + 1 else r.2)) (fun n => by rw [pStmts, if_pos hr]))
    clear hr HTD HI
    go_wp2_with fail
    refine HI2.out.mono ?_
    rintro e w0 ⟨rfl, hx0⟩
    have HE := Lib.hid (rtake_yes w0 (HPj.out.ext hx0) 7 ⟨#[94]⟩ (by decide) (ne1 _) HNR.out)
    have HA0 := Lib.hid (HA.out.ext hx0)
    have HT0 := Lib.hid (HT.out.trans (Touch.of_ext hx0 [B]))
    have hs0 := hx0.size
    clear hx0 HA HT HI2 HPj c0 c1 c2 zB
    go_wp2_with fail
    refine HE.out.mono ?_
    rintro e w1 ⟨rfl, K1, T1⟩
    have HA1 := Lib.hid (HA0.out.touch T1 (fun k hk => by simp at hk; omega))
    have HT1 := Lib.hid (HT0.out.trans T1)
    have hs1 := T1.size
    have HU := Lib.hid (HEX.out (j + 1) (by omega) w1 false K1 (by omega))
    clear K1 T1 HA0 HT0 HE
    go_wp2_with fail
    refine HU.out.mono ?_
    rintro e w3 ⟨x, cs, gp, a2, b2, rfl, hr2, hf2, hp2, hg2, hm2, hT2⟩
    have HA3 := Lib.hid (HA1.out.touch hT2 (fun k hk => by simp at hk; omega))
    have HAB : Hid (∀ k, av.ownBlock = some k → k < w1.heap.size) := Lib.hid fun k hk => (Acw.ge HA1.out hk).2
    have HT3 := Lib.hid (HT1.out.trans hT2)
    have HTD2 := Lib.hid (HTC.out x a2 b2 hg2)
    have HP3 := Lib.hid hp2
    have HS3 := Lib.hid hr2
    have HF3 := Lib.hid hf2
    have hs3 := hT2.size
    obtain ⟨y1, y2, y3, y4, rfl⟩ := fld5 hr2
    clear hr2 hf2 hp2 hg2 hT2 HA1 HT1 HU HTC
    obtain ⟨W4, hW4⟩ : ∃ W, w3.alloc (.cells #[.int .i64 x.kind, .string x.text, .int .i64 x.number, .slice y1 x.names.length y2, .slice y3 x.kids.length y4] 25) = W := ⟨_, rfl⟩
    have x4 : Ext w3 W4 := by rw [← hW4]; exact (Ext.refl w3).alloc _
    have O4 : Own W4 w3.heap.size 25 #[.int .i64 x.kind, .string x.text, .int .i64 x.number, .slice y1 x.names.length y2, .slice y3 x.kids.length y4] := by rw [← hW4]; exact own_new w3 _ _
    have hz4 : W4.heap.size = w3.heap.size + 1 := by rw [← hW4]; simp
    have x5 : Ext w3 (W4.alloc (.cells #[.int .i64 9, .string ⟨#[]⟩, .int .i64 0, .slice none 0 0, .slice (some ⟨w3.heap.size, 0, none⟩) 1 1] 25)) := x4.alloc _
    have KD := HA3.out.ext x5
    have HR5 := ret1 ((HS3.out.ext x5)) (cs := [.int .i64 x.kind, .string x.text, .int .i64 x.number, .slice y1 x.names.length y2, .slice y3 x.kids.length y4]) (O4.ext ((Ext.refl W4).alloc (.cells #[.int .i64 9, .string ⟨#[]⟩, .int .i64 0, .slice none 0 0, .slice (some ⟨w3.heap.size, 0, none⟩) 1 1] 25)))
    have HSL := one_expr HR5 (own_new W4 #[.int .i64 9, .string ⟨#[]⟩, .int .i64 0, .slice none 0 0, .slice (some ⟨w3.heap.size, 0, none⟩) 1 1] 25)
    subst hW4
    have hz5 : (w3.alloc (.cells #[.int .i64 x.kind, .string x.text, .int .i64 x.number, .slice y1 x.names.length y2, .slice y3 x.kids.length y4] 25)).heap.size = w3.heap.size + 1 := by simp
    rw [hz5] at HSL
    have F1 : ∀ k, k ∈ ((w3.heap.size + 1) :: w3.heap.size :: gp).tail → w.heap.size ≤ k := fun k hk => by
      rcases List.mem_cons.1 hk with rfl | hk
      · omega
      · have := HF3.out k hk; omega
    have F2 : ∀ k, av.ownBlock = some k → k ∉ ((w3.heap.size + 1) :: w3.heap.size :: gp).tail := fun k hk hm => by
      have h2 := (HAB.out k hk)
      rcases List.mem_cons.1 hm with rfl | hm
      · omega
      · have h1 := HF3.out k hm; omega
    have hl1 : l.length + [eRet x].length ≤ 1073741824 := by simp; omega
    go_wp2_with (at_builtin; refine wpList_append_x rfl _ _ rfl w.heap.size av l rfl KD [eRet x] _ _ _ _ rfl HSL F1 F2 hl1 (by simp; omega) ?_)
    intro a1 k1 w6 ac1 g1 m1
    have TG : Touch ((w3.alloc (.cells #[.int .i64 x.kind, .string x.text, .int .i64 x.number, .slice y1 x.names.length y2, .slice y3 x.kids.length y4] 25)).alloc (.cells #[.int .i64 9, .string ⟨#[]⟩, .int .i64 0, .slice none 0 0, .slice (some ⟨w3.heap.size, 0, none⟩) 1 1] 25)) w6 av.ownBlock.toList := (Touch.of_ext (Ext.refl _) _).grown g1 fun k hk => Or.inl (by simp [hk])
    have HK6 := Lib.hid (HP.out.late (HP3.out.ext x5) TG (fun k hk => (Acw.ge KD (k := k) (by simpa using hk)).1))
    have HT6 := Lib.hid ((HT3.out.trans (Touch.of_ext x5 [B])).late2 TG (fun k hk => (Acw.ge KD (k := k) (by simpa using hk)).1))
    have HAC := Lib.hid ac1
    clear KD HSL HR5 O4 x4 hz4 hz5 F1 F2 hl1 g1 m1 TG ac1 x5
    generalize hv1 : Value.slice a1 (l.length + [eRet x].length) k1 = v1 at *
    clear hv1
    cases hd : tkxB ts a2 7 dotM
    · have HD := Lib.hid (rtake_no w6 HK6.out 7 ⟨#[46]⟩ (by decide) (ne1 _) hd)
      have HG : Hid (Got b (fun n => pStmts ts n [] a) b2 (l ++ [eRet x], a2)) := Lib.hid (HTD2.out.done (fun n => by show some (l ++ [eRet x], if tkxB ts a2 7 dotM = true then a2 + 1 else a2) = _; rw [if_neg (by rw [hd]; decide)]))
      clear hd HTD2
      go_wp2_with fail
      refine HD.out.mono ?_
      rintro e w7 ⟨rfl, hx7⟩
      have FIN : Hid (RTGot B tb to_ cap ao ts w a b (.returned v1) w7) := Lib.hid ⟨l ++ [eRet x], v1, a2, b2, rfl, HAC.out.ext hx7, HK6.out.ext hx7, HG.out, by simp; omega, by omega, HT6.out.trans (Touch.of_ext hx7 _)⟩
      clear hx7
      go_wp2_with fail
      go_ret
      exact FIN.out
    have HD := Lib.hid (rtake_yes w6 HK6.out 7 ⟨#[46]⟩ (by decide) (ne1 _) hd)
    have HG : Hid (Got b (fun n => pStmts ts n [] a) b2 (l ++ [eRet x], a2 + 1)) := Lib.hid (HTD2.out.done (fun n => by show some (l ++ [eRet x], if tkxB ts a2 7 dotM = true then a2 + 1 else a2) = _; rw [if_pos hd]))
    clear hd HTD2
    go_wp2_with fail
    refine HD.out.mono ?_
    rintro e w7 ⟨rfl, K7, T7⟩
    have FIN : Hid (RTGot B tb to_ cap ao ts w a b (.returned v1) w7) := Lib.hid ⟨l ++ [eRet x], v1, a2 + 1, b2, rfl, HAC.out.touch T7 (fun k hk => by simp at hk; omega), K7, HG.out, by simp; omega, by omega, HT6.out.trans T7⟩
    clear K7 T7
    go_wp2_with fail
    go_ret
    exact FIN.out

set_option maxHeartbeats 8000000 in
set_option maxRecDepth 100000 in
theorem rblock_at {B tb to_ cap : Nat} {ao : Option Addr} {ts : List MToken} {a : Nat} (HST : ∀ a', a ≤ a' → RStmAt B tb to_ cap ao ts a') : RBlockAt B tb to_ cap ao ts a := by
  intro w b h
  have HP := Lib.hid h
  have hln := h.len
  have hle := h.le
  have hrb := h.own.lt
  have HST := Lib.hid HST
  have H0 := Lib.hid (Todo.refl b (fun n => pPars ts n [] a))
  clear h
  go_enter Tryz.func144, Tryz.ntmps144
  go_wp2_with fail
  generalize hS : World.alloc (World.alloc w _) _ = W1
  have x1 : Ext w W1 := by rw [← hS]; exact ((Ext.refl _).alloc _).alloc _
  have O1 : Own W1 w.heap.size 25 #[.int .i64 0, .string ⟨#[]⟩, .int .i64 0, .slice none 0 0, .slice none 0 0] := by rw [← hS]; exact (own_new w _ _).ext ((Ext.refl _).alloc _)
  have A1 : Hid (AccT (w.heap.size + 1) W1 (.slice (some ⟨w.heap.size + 1, 0, none⟩) 0 0) []) := Lib.hid (by rw [← hS]; exact Acc.empty_at (own_new2 w _ #[] _) (Nat.le_refl _))
  have HP1 := Lib.hid (HP.out.ext x1)
  clear hS
  go_loopw [3] (fun nv wr => ∃ (l : List ByteArray) (j : Nat) (bj : Bool), AccT (w.heap.size + 1) wr nv l ∧ Prs 48 B tb to_ cap ao ts wr (j) bj ∧ Hid (Todo b (fun n => pPars ts n [] a) bj (fun n => pPars ts n l j)) ∧ l.length + a ≤ j ∧ Own wr w.heap.size 25 #[.int .i64 0, .string ⟨#[]⟩, .int .i64 0, .slice none 0 0, .slice none 0 0] ∧ Touch w wr [B]) (fun _ wr => ts.length + 1 - placeOf B wr)
  case atStart => exact ⟨[], a, b, A1.out, HP1.out, H0, by simp, O1, Touch.of_ext x1 _⟩
  case round =>
    clear A1 HP1 H0 x1 O1
    obtain ⟨nv, hnv⟩ : ∃ x, x = u3 := ⟨_, rfl⟩
    subst hnv
    obtain ⟨l, j, bj, hA, hp, HTD, hlj, hO, hT⟩ := hrel
    have HA := Lib.hid hA
    have HO := Lib.hid hO
    have HPM := Lib.hid hp
    have HT := Lib.hid hT
    have hjl := hp.le
    have hws := hT.size
    have hrl := hO.lt
    clear hA hp hT hO
    cases hc : tkxB ts j 7 colM
    · have HE := Lib.hid (rtake_no wr HPM.out 7 ⟨#[58]⟩ (by decide) (ne1 _) hc)
      have HG : Hid (Got b (fun n => pPars ts n [] a) bj (l, j)) := Lib.hid (HTD.out.done (fun n => by rw [pPars, if_neg (by rw [hc]; decide)]))
      clear hc HTD
      go_wp2_with fail
      refine HE.out.mono ?_
      rintro e w1 ⟨rfl, hx⟩
      have HO1 := Lib.hid (HO.out.ext hx)
      have HA1 := Lib.hid (AccT.ext HA.out hx)
      have HT1 := Lib.hid (HT.out.trans (Touch.of_ext hx [B]))
      have HP1 := Lib.hid (HPM.out.ext hx)
      have hs1 := hx.size
      clear hx HO HA HT HE HPM
      obtain ⟨an, cn, gn, rfl, -, -⟩ := AccT.rep HA1.out
      have HTD1 := Lib.hid ((Todo.refl b (fun n => pBody ts n a)).call HG.out (g := fun n p => if (p.1.length ≠ 0 ∧ tkxB ts p.2 7 barM = false) then none else (pVars ts n (if p.1.length ≠ 0 then p.2 + 1 else p.2)).bind fun v => (pStmts ts n [] v.2).bind fun b => some (blockM p.1 v.1 b.1, b.2)) (fun n => by rw [pBody]))
      clear HG
      by_cases hl0 : l.length = 0
      · have hd : decide (0 < l.length) = false := decide_eq_false (by omega)
        have HTD2 : Hid (Todo b (fun n => pBody ts n a) bj (fun n => (pVars ts n j).bind fun v => (pStmts ts n [] v.2).bind fun b => some (blockM l v.1 b.1, b.2))) := Lib.hid (by
          have := HTD1.out
          simp only [hl0, ne_eq, not_true_eq_false, false_and, if_false] at this
          exact this)
        clear HTD1 hl0
        go_wp2_with fail
        have HP2 := Lib.hid HP1.out
        have HO2 := Lib.hid HO1.out
        have HA2 := Lib.hid HA1.out
        have HT2 := Lib.hid HT1.out
        have hs2 := hs1
        generalize w1 = w2 at *
        have hjl2 := HP2.out.le
        refine (rnames_any w2 HP2.out).mono ?_
        rintro e w3 ⟨v3, l3, j3, b3, rfl, A3, K3, g3, hj3, hl3, T3⟩
        have HTD3 := Lib.hid (HTD2.out.call0 g3 (g := fun n v => (pStmts ts n [] v.2).bind fun b => some (blockM l v.1 b.1, b.2)) (fun n => rfl))
        have HO3 := Lib.hid (HO2.out.touch' T3 (by simp; omega))
        have HA3 := Lib.hid (AccT.low HA2.out T3 (fun k hk => by simp at hk; omega))
        have HB3 := Lib.hid A3
        have HT3 := Lib.hid (HT2.out.trans T3)
        have hs3 := T3.size
        have HU := Lib.hid (HST.out j3 (by omega) w3 b3 K3)
        have hjl3 := K3.le
        clear A3 K3 g3 T3 HO2 HA2 HT2 HP2 HTD2
        go_wp2_with fail
        refine HU.out.mono ?_
        rintro e w4 ⟨lk, vk, j4, b4, rfl, A4, K4, g4, hl4, hj4, T4⟩
        have HTD4 := Lib.hid ((Todo.refl b (fun n => pBlock ts n a)).call ((HTD3.out.call0 g4 (g := fun n b => some (blockM l l3 b.1, b.2)) (fun n => rfl)).done (y := (blockM l l3 lk, j4)) (fun n => rfl)) (g := fun n r => if tkxB ts r.2 7 rbrM = true then some (r.1, r.2 + 1) else none) (fun n => by rw [pBlock]))
        have HO4 := Lib.hid (HO3.out.touch' T4 (by simp; omega))
        have HA4 := Lib.hid (AccT.low HA3.out T4 (fun k hk => by simp at hk; omega))
        have HB4 := Lib.hid (AccT.low HB3.out T4 (fun k hk => by simp at hk; omega))
        have HC4 := Lib.hid A4
        have HT4 := Lib.hid (HT3.out.trans T4)
        have HP4 := Lib.hid K4
        have hs4 := T4.size
        clear A4 K4 g4 T4 HO3 HA3 HB3 HT3 HU HTD3
        cases he : tkxB ts j4 7 rbrM
        · have HW := Lib.hid (rneedx_no w4 HP4.out 7 ⟨#[93]⟩ (by decide) (ne1 _) he)
          have HG : Hid (Got b (fun n => pBlock ts n a) true (blockM l l3 lk, j4)) := Lib.hid (HTD4.out.fail _ (fun n => by show (if tkxB ts j4 7 rbrM = true then some (blockM l l3 lk, j4 + 1) else none) = none; rw [if_neg (by rw [he]; decide)]))
          clear he HTD4
          go_wp2_with fail
          refine HW.out.mono ?_
          rintro e w5 ⟨rfl, K5, T5⟩
          have HO5 := Lib.hid (HO4.out.touch' T5 (by simp; omega))
          have HP5 := Lib.hid K5
          have HT5 := Lib.hid (HT4.out.trans T5)
          obtain ⟨an2, cn2, gn2, hvn, rn, -⟩ := AccT.rep (AccT.low HA4.out T5 (fun k hk => by simp at hk; omega))
          rw [← hvn] at rn
          clear hvn
          obtain ⟨at', ct, gt, rfl, rt, -⟩ := AccT.rep (AccT.low HB4.out T5 (fun k hk => by simp at hk; omega))
          obtain ⟨ak, ck, gk, rfl, rk, fk⟩ := AccX.rep (Acw.touch HC4.out T5 (fun k hk => by simp at hk; omega))
          have R5n := Lib.hid rn.rep
          have R5t := Lib.hid rt.rep
          have R5k := Lib.hid rk
          have HGK : Hid (∀ k, k ∈ gk → w.heap.size < k) := Lib.hid fun k hk => by have := fk k hk; omega
          have hs5 := T5.size
          clear K5 T5 rn rt rk fk HO4 HT4 HA4 HB4 HC4 HP4
          go_wp2_with fail
          refine (l3Block_any l l3 lk _ _ _ w5 R5n.out R5t.out gk R5k.out (by omega)).mono ?_
          rintro e w6 ⟨cs, fp, rfl, r6, f6, x6⟩
          obtain ⟨y1, y2, y3, y4, rfl⟩ := fld5 r6
          have O6 := HO5.out.ext x6
          have HP6 := Lib.hid (HP5.out.ext x6)
          have HT6 := Lib.hid (HT5.out.trans (Touch.of_ext x6 [B]))
          have HR6 := Lib.hid r6
          have HF6 : Hid (∀ k, k ∈ fp → w.heap.size < k) := Lib.hid fun k hk => by
            rcases f6 k hk with h | h
            · exact HGK.out k h
            · omega
          clear r6 f6 x6 HO5 HP5 HT5
          have o0 : w6.cell? ⟨w.heap.size, 0, none⟩ = some (.int .i64 0) := O6.cell 0
          have of0 := O6.frozen 0
          have o1 : w6.cell? ⟨w.heap.size, 1, none⟩ = some (.string ⟨#[]⟩) := O6.cell 1
          have of1 := O6.frozen 1
          have o2 : w6.cell? ⟨w.heap.size, 2, none⟩ = some (.int .i64 0) := O6.cell 2
          have of2 := O6.frozen 2
          have o3 : w6.cell? ⟨w.heap.size, 3, none⟩ = some (.slice none 0 0) := O6.cell 3
          have of3 := O6.frozen 3
          have o4 : w6.cell? ⟨w.heap.size, 4, none⟩ = some (.slice none 0 0) := O6.cell 4
          have of4 := O6.frozen 4
          have oz := O6.lt
          go_wp2_with fail
          generalize hS : World.setCell (World.setCell (World.setCell (World.setCell (World.setCell w6 _ _) _ _) _ _) _ _) _ _ = W9
          obtain ⟨O9, T9⟩ := own5 O6 (.int .i64 (blockM l l3 lk).kind) (.string (blockM l l3 lk).text) (.int .i64 (blockM l l3 lk).number) (.slice y1 (blockM l l3 lk).names.length y2) (.slice y3 (blockM l l3 lk).kids.length y4)
          rw [hS] at O9 T9
          clear hS
          have p0 : W9.cell? ⟨w.heap.size, 0, none⟩ = some (.int .i64 (blockM l l3 lk).kind) := O9.cell 0
          have p1 : W9.cell? ⟨w.heap.size, 1, none⟩ = some (.string (blockM l l3 lk).text) := O9.cell 1
          have p2 : W9.cell? ⟨w.heap.size, 2, none⟩ = some (.int .i64 (blockM l l3 lk).number) := O9.cell 2
          have p3 : W9.cell? ⟨w.heap.size, 3, none⟩ = some (.slice y1 (blockM l l3 lk).names.length y2) := O9.cell 3
          have p4 : W9.cell? ⟨w.heap.size, 4, none⟩ = some (.slice y3 (blockM l l3 lk).kids.length y4) := O9.cell 4
          have pz := O9.lt
          have FIN : RGot B tb to_ cap _ ts w a b (fun n => pBlock ts n a) (.returned (.agg #[.int .i64 (blockM l l3 lk).kind, .string (blockM l l3 lk).text, .int .i64 (blockM l l3 lk).number, .slice y1 (blockM l l3 lk).names.length y2, .slice y3 (blockM l l3 lk).kids.length y4])) W9 := ⟨blockM l l3 lk, _, fp, j4, true, rfl, HR6.out.touch T9 (fun k hk hm => by have := HF6.out k hk; simp at hm; omega), fun k hk => by have := HF6.out k hk; omega, HP.out.late HP6.out T9 (fun k hk => by simp at hk; omega), HG.out, by omega, HT6.out.late2 T9 (fun k hk => by simp at hk; omega)⟩
          exact bodyPost_ret (v := .agg #[.int .i64 (blockM l l3 lk).kind, .string (blockM l l3 lk).text, .int .i64 (blockM l l3 lk).number, .slice y1 (blockM l l3 lk).names.length y2, .slice y3 (blockM l l3 lk).kids.length y4]) (by simp [results, Tryz.results144, go_sem, p0, p1, p2, p3, p4, pz]) rfl FIN
        have HW := Lib.hid (rneedx_yes w4 HP4.out 7 ⟨#[93]⟩ (by decide) (ne1 _) he)
        have HG : Hid (Got b (fun n => pBlock ts n a) b4 (blockM l l3 lk, j4 + 1)) := Lib.hid (HTD4.out.done (fun n => by show (if tkxB ts j4 7 rbrM = true then some (blockM l l3 lk, j4 + 1) else none) = some (blockM l l3 lk, j4 + 1); rw [if_pos he]))
        clear he HTD4
        go_wp2_with fail
        refine HW.out.mono ?_
        rintro e w5 ⟨rfl, K5, T5⟩
        have HO5 := Lib.hid (HO4.out.touch' T5 (by simp; omega))
        have HP5 := Lib.hid K5
        have HT5 := Lib.hid (HT4.out.trans T5)
        obtain ⟨an2, cn2, gn2, hvn, rn, -⟩ := AccT.rep (AccT.low HA4.out T5 (fun k hk => by simp at hk; omega))
        rw [← hvn] at rn
        clear hvn
        obtain ⟨at', ct, gt, rfl, rt, -⟩ := AccT.rep (AccT.low HB4.out T5 (fun k hk => by simp at hk; omega))
        obtain ⟨ak, ck, gk, rfl, rk, fk⟩ := AccX.rep (Acw.touch HC4.out T5 (fun k hk => by simp at hk; omega))
        have R5n := Lib.hid rn.rep
        have R5t := Lib.hid rt.rep
        have R5k := Lib.hid rk
        have HGK : Hid (∀ k, k ∈ gk → w.heap.size < k) := Lib.hid fun k hk => by have := fk k hk; omega
        have hs5 := T5.size
        clear K5 T5 rn rt rk fk HO4 HT4 HA4 HB4 HC4 HP4
        go_wp2_with fail
        refine (l3Block_any l l3 lk _ _ _ w5 R5n.out R5t.out gk R5k.out (by omega)).mono ?_
        rintro e w6 ⟨cs, fp, rfl, r6, f6, x6⟩
        obtain ⟨y1, y2, y3, y4, rfl⟩ := fld5 r6
        have O6 := HO5.out.ext x6
        have HP6 := Lib.hid (HP5.out.ext x6)
        have HT6 := Lib.hid (HT5.out.trans (Touch.of_ext x6 [B]))
        have HR6 := Lib.hid r6
        have HF6 : Hid (∀ k, k ∈ fp → w.heap.size < k) := Lib.hid fun k hk => by
          rcases f6 k hk with h | h
          · exact HGK.out k h
          · omega
        clear r6 f6 x6 HO5 HP5 HT5
        have o0 : w6.cell? ⟨w.heap.size, 0, none⟩ = some (.int .i64 0) := O6.cell 0
        have of0 := O6.frozen 0
        have o1 : w6.cell? ⟨w.heap.size, 1, none⟩ = some (.string ⟨#[]⟩) := O6.cell 1
        have of1 := O6.frozen 1
        have o2 : w6.cell? ⟨w.heap.size, 2, none⟩ = some (.int .i64 0) := O6.cell 2
        have of2 := O6.frozen 2
        have o3 : w6.cell? ⟨w.heap.size, 3, none⟩ = some (.slice none 0 0) := O6.cell 3
        have of3 := O6.frozen 3
        have o4 : w6.cell? ⟨w.heap.size, 4, none⟩ = some (.slice none 0 0) := O6.cell 4
        have of4 := O6.frozen 4
        have oz := O6.lt
        go_wp2_with fail
        generalize hS : World.setCell (World.setCell (World.setCell (World.setCell (World.setCell w6 _ _) _ _) _ _) _ _) _ _ = W9
        obtain ⟨O9, T9⟩ := own5 O6 (.int .i64 (blockM l l3 lk).kind) (.string (blockM l l3 lk).text) (.int .i64 (blockM l l3 lk).number) (.slice y1 (blockM l l3 lk).names.length y2) (.slice y3 (blockM l l3 lk).kids.length y4)
        rw [hS] at O9 T9
        clear hS
        have p0 : W9.cell? ⟨w.heap.size, 0, none⟩ = some (.int .i64 (blockM l l3 lk).kind) := O9.cell 0
        have p1 : W9.cell? ⟨w.heap.size, 1, none⟩ = some (.string (blockM l l3 lk).text) := O9.cell 1
        have p2 : W9.cell? ⟨w.heap.size, 2, none⟩ = some (.int .i64 (blockM l l3 lk).number) := O9.cell 2
        have p3 : W9.cell? ⟨w.heap.size, 3, none⟩ = some (.slice y1 (blockM l l3 lk).names.length y2) := O9.cell 3
        have p4 : W9.cell? ⟨w.heap.size, 4, none⟩ = some (.slice y3 (blockM l l3 lk).kids.length y4) := O9.cell 4
        have pz := O9.lt
        have FIN : RGot B tb to_ cap _ ts w a b (fun n => pBlock ts n a) (.returned (.agg #[.int .i64 (blockM l l3 lk).kind, .string (blockM l l3 lk).text, .int .i64 (blockM l l3 lk).number, .slice y1 (blockM l l3 lk).names.length y2, .slice y3 (blockM l l3 lk).kids.length y4])) W9 := ⟨blockM l l3 lk, _, fp, j4 + 1, b4, rfl, HR6.out.touch T9 (fun k hk hm => by have := HF6.out k hk; simp at hm; omega), fun k hk => by have := HF6.out k hk; omega, HP.out.late HP6.out T9 (fun k hk => by simp at hk; omega), HG.out, by omega, HT6.out.late2 T9 (fun k hk => by simp at hk; omega)⟩
        exact bodyPost_ret (v := .agg #[.int .i64 (blockM l l3 lk).kind, .string (blockM l l3 lk).text, .int .i64 (blockM l l3 lk).number, .slice y1 (blockM l l3 lk).names.length y2, .slice y3 (blockM l l3 lk).kids.length y4]) (by simp [results, Tryz.results144, go_sem, p0, p1, p2, p3, p4, pz]) rfl FIN
      have hd : decide (0 < l.length) = true := decide_eq_true (by omega)
      cases hb : tkxB ts j 7 barM
      · have HTD2 : Hid (Todo b (fun n => pBody ts n a) true (fun n => (pVars ts n j).bind fun v => (pStmts ts n [] v.2).bind fun b => some (blockM l v.1 b.1, b.2))) := Lib.hid (HTD1.out.badly (fun n => by show (if _ then _ else _) = _; rw [if_pos ⟨hl0, hb⟩]))
        have HW2 := Lib.hid (rneedx_no w1 HP1.out 7 ⟨#[124]⟩ (by decide) (ne1 _) hb)
        clear HTD1 hl0 hb
        go_wp2_with fail
        refine HW2.out.mono ?_
        rintro e w2 ⟨rfl, K2, T2⟩
        have HP2 := Lib.hid K2
        have HO2 := Lib.hid (HO1.out.touch' T2 (by simp; omega))
        have HA2 := Lib.hid (AccT.low HA1.out T2 (fun k hk => by simp at hk; omega))
        have HT2 := Lib.hid (HT1.out.trans T2)
        have hs2 := Nat.le_trans hs1 T2.size
        clear K2 T2 HW2
        go_wp2_with fail
        have hjl2 := HP2.out.le
        refine (rnames_any w2 HP2.out).mono ?_
        rintro e w3 ⟨v3, l3, j3, b3, rfl, A3, K3, g3, hj3, hl3, T3⟩
        have HTD3 := Lib.hid (HTD2.out.call0 g3 (g := fun n v => (pStmts ts n [] v.2).bind fun b => some (blockM l v.1 b.1, b.2)) (fun n => rfl))
        have HO3 := Lib.hid (HO2.out.touch' T3 (by simp; omega))
        have HA3 := Lib.hid (AccT.low HA2.out T3 (fun k hk => by simp at hk; omega))
        have HB3 := Lib.hid A3
        have HT3 := Lib.hid (HT2.out.trans T3)
        have hs3 := T3.size
        have HU := Lib.hid (HST.out j3 (by omega) w3 b3 K3)
        have hjl3 := K3.le
        clear A3 K3 g3 T3 HO2 HA2 HT2 HP2 HTD2
        go_wp2_with fail
        refine HU.out.mono ?_
        rintro e w4 ⟨lk, vk, j4, b4, rfl, A4, K4, g4, hl4, hj4, T4⟩
        have HTD4 := Lib.hid ((Todo.refl b (fun n => pBlock ts n a)).call ((HTD3.out.call0 g4 (g := fun n b => some (blockM l l3 b.1, b.2)) (fun n => rfl)).done (y := (blockM l l3 lk, j4)) (fun n => rfl)) (g := fun n r => if tkxB ts r.2 7 rbrM = true then some (r.1, r.2 + 1) else none) (fun n => by rw [pBlock]))
        have HO4 := Lib.hid (HO3.out.touch' T4 (by simp; omega))
        have HA4 := Lib.hid (AccT.low HA3.out T4 (fun k hk => by simp at hk; omega))
        have HB4 := Lib.hid (AccT.low HB3.out T4 (fun k hk => by simp at hk; omega))
        have HC4 := Lib.hid A4
        have HT4 := Lib.hid (HT3.out.trans T4)
        have HP4 := Lib.hid K4
        have hs4 := T4.size
        clear A4 K4 g4 T4 HO3 HA3 HB3 HT3 HU HTD3
        cases he : tkxB ts j4 7 rbrM
        · have HW := Lib.hid (rneedx_no w4 HP4.out 7 ⟨#[93]⟩ (by decide) (ne1 _) he)
          have HG : Hid (Got b (fun n => pBlock ts n a) true (blockM l l3 lk, j4)) := Lib.hid (HTD4.out.fail _ (fun n => by show (if tkxB ts j4 7 rbrM = true then some (blockM l l3 lk, j4 + 1) else none) = none; rw [if_neg (by rw [he]; decide)]))
          clear he HTD4
          go_wp2_with fail
          refine HW.out.mono ?_
          rintro e w5 ⟨rfl, K5, T5⟩
          have HO5 := Lib.hid (HO4.out.touch' T5 (by simp; omega))
          have HP5 := Lib.hid K5
          have HT5 := Lib.hid (HT4.out.trans T5)
          obtain ⟨an2, cn2, gn2, hvn, rn, -⟩ := AccT.rep (AccT.low HA4.out T5 (fun k hk => by simp at hk; omega))
          rw [← hvn] at rn
          clear hvn
          obtain ⟨at', ct, gt, rfl, rt, -⟩ := AccT.rep (AccT.low HB4.out T5 (fun k hk => by simp at hk; omega))
          obtain ⟨ak, ck, gk, rfl, rk, fk⟩ := AccX.rep (Acw.touch HC4.out T5 (fun k hk => by simp at hk; omega))
          have R5n := Lib.hid rn.rep
          have R5t := Lib.hid rt.rep
          have R5k := Lib.hid rk
          have HGK : Hid (∀ k, k ∈ gk → w.heap.size < k) := Lib.hid fun k hk => by have := fk k hk; omega
          have hs5 := T5.size
          clear K5 T5 rn rt rk fk HO4 HT4 HA4 HB4 HC4 HP4
          go_wp2_with fail
          refine (l3Block_any l l3 lk _ _ _ w5 R5n.out R5t.out gk R5k.out (by omega)).mono ?_
          rintro e w6 ⟨cs, fp, rfl, r6, f6, x6⟩
          obtain ⟨y1, y2, y3, y4, rfl⟩ := fld5 r6
          have O6 := HO5.out.ext x6
          have HP6 := Lib.hid (HP5.out.ext x6)
          have HT6 := Lib.hid (HT5.out.trans (Touch.of_ext x6 [B]))
          have HR6 := Lib.hid r6
          have HF6 : Hid (∀ k, k ∈ fp → w.heap.size < k) := Lib.hid fun k hk => by
            rcases f6 k hk with h | h
            · exact HGK.out k h
            · omega
          clear r6 f6 x6 HO5 HP5 HT5
          have o0 : w6.cell? ⟨w.heap.size, 0, none⟩ = some (.int .i64 0) := O6.cell 0
          have of0 := O6.frozen 0
          have o1 : w6.cell? ⟨w.heap.size, 1, none⟩ = some (.string ⟨#[]⟩) := O6.cell 1
          have of1 := O6.frozen 1
          have o2 : w6.cell? ⟨w.heap.size, 2, none⟩ = some (.int .i64 0) := O6.cell 2
          have of2 := O6.frozen 2
          have o3 : w6.cell? ⟨w.heap.size, 3, none⟩ = some (.slice none 0 0) := O6.cell 3
          have of3 := O6.frozen 3
          have o4 : w6.cell? ⟨w.heap.size, 4, none⟩ = some (.slice none 0 0) := O6.cell 4
          have of4 := O6.frozen 4
          have oz := O6.lt
          go_wp2_with fail
          generalize hS : World.setCell (World.setCell (World.setCell (World.setCell (World.setCell w6 _ _) _ _) _ _) _ _) _ _ = W9
          obtain ⟨O9, T9⟩ := own5 O6 (.int .i64 (blockM l l3 lk).kind) (.string (blockM l l3 lk).text) (.int .i64 (blockM l l3 lk).number) (.slice y1 (blockM l l3 lk).names.length y2) (.slice y3 (blockM l l3 lk).kids.length y4)
          rw [hS] at O9 T9
          clear hS
          have p0 : W9.cell? ⟨w.heap.size, 0, none⟩ = some (.int .i64 (blockM l l3 lk).kind) := O9.cell 0
          have p1 : W9.cell? ⟨w.heap.size, 1, none⟩ = some (.string (blockM l l3 lk).text) := O9.cell 1
          have p2 : W9.cell? ⟨w.heap.size, 2, none⟩ = some (.int .i64 (blockM l l3 lk).number) := O9.cell 2
          have p3 : W9.cell? ⟨w.heap.size, 3, none⟩ = some (.slice y1 (blockM l l3 lk).names.length y2) := O9.cell 3
          have p4 : W9.cell? ⟨w.heap.size, 4, none⟩ = some (.slice y3 (blockM l l3 lk).kids.length y4) := O9.cell 4
          have pz := O9.lt
          have FIN : RGot B tb to_ cap _ ts w a b (fun n => pBlock ts n a) (.returned (.agg #[.int .i64 (blockM l l3 lk).kind, .string (blockM l l3 lk).text, .int .i64 (blockM l l3 lk).number, .slice y1 (blockM l l3 lk).names.length y2, .slice y3 (blockM l l3 lk).kids.length y4])) W9 := ⟨blockM l l3 lk, _, fp, j4, true, rfl, HR6.out.touch T9 (fun k hk hm => by have := HF6.out k hk; simp at hm; omega), fun k hk => by have := HF6.out k hk; omega, HP.out.late HP6.out T9 (fun k hk => by simp at hk; omega), HG.out, by omega, HT6.out.late2 T9 (fun k hk => by simp at hk; omega)⟩
          exact bodyPost_ret (v := .agg #[.int .i64 (blockM l l3 lk).kind, .string (blockM l l3 lk).text, .int .i64 (blockM l l3 lk).number, .slice y1 (blockM l l3 lk).names.length y2, .slice y3 (blockM l l3 lk).kids.length y4]) (by simp [results, Tryz.results144, go_sem, p0, p1, p2, p3, p4, pz]) rfl FIN
        have HW := Lib.hid (rneedx_yes w4 HP4.out 7 ⟨#[93]⟩ (by decide) (ne1 _) he)
        have HG : Hid (Got b (fun n => pBlock ts n a) b4 (blockM l l3 lk, j4 + 1)) := Lib.hid (HTD4.out.done (fun n => by show (if tkxB ts j4 7 rbrM = true then some (blockM l l3 lk, j4 + 1) else none) = some (blockM l l3 lk, j4 + 1); rw [if_pos he]))
        clear he HTD4
        go_wp2_with fail
        refine HW.out.mono ?_
        rintro e w5 ⟨rfl, K5, T5⟩
        have HO5 := Lib.hid (HO4.out.touch' T5 (by simp; omega))
        have HP5 := Lib.hid K5
        have HT5 := Lib.hid (HT4.out.trans T5)
        obtain ⟨an2, cn2, gn2, hvn, rn, -⟩ := AccT.rep (AccT.low HA4.out T5 (fun k hk => by simp at hk; omega))
        rw [← hvn] at rn
        clear hvn
        obtain ⟨at', ct, gt, rfl, rt, -⟩ := AccT.rep (AccT.low HB4.out T5 (fun k hk => by simp at hk; omega))
        obtain ⟨ak, ck, gk, rfl, rk, fk⟩ := AccX.rep (Acw.touch HC4.out T5 (fun k hk => by simp at hk; omega))
        have R5n := Lib.hid rn.rep
        have R5t := Lib.hid rt.rep
        have R5k := Lib.hid rk
        have HGK : Hid (∀ k, k ∈ gk → w.heap.size < k) := Lib.hid fun k hk => by have := fk k hk; omega
        have hs5 := T5.size
        clear K5 T5 rn rt rk fk HO4 HT4 HA4 HB4 HC4 HP4
        go_wp2_with fail
        refine (l3Block_any l l3 lk _ _ _ w5 R5n.out R5t.out gk R5k.out (by omega)).mono ?_
        rintro e w6 ⟨cs, fp, rfl, r6, f6, x6⟩
        obtain ⟨y1, y2, y3, y4, rfl⟩ := fld5 r6
        have O6 := HO5.out.ext x6
        have HP6 := Lib.hid (HP5.out.ext x6)
        have HT6 := Lib.hid (HT5.out.trans (Touch.of_ext x6 [B]))
        have HR6 := Lib.hid r6
        have HF6 : Hid (∀ k, k ∈ fp → w.heap.size < k) := Lib.hid fun k hk => by
          rcases f6 k hk with h | h
          · exact HGK.out k h
          · omega
        clear r6 f6 x6 HO5 HP5 HT5
        have o0 : w6.cell? ⟨w.heap.size, 0, none⟩ = some (.int .i64 0) := O6.cell 0
        have of0 := O6.frozen 0
        have o1 : w6.cell? ⟨w.heap.size, 1, none⟩ = some (.string ⟨#[]⟩) := O6.cell 1
        have of1 := O6.frozen 1
        have o2 : w6.cell? ⟨w.heap.size, 2, none⟩ = some (.int .i64 0) := O6.cell 2
        have of2 := O6.frozen 2
        have o3 : w6.cell? ⟨w.heap.size, 3, none⟩ = some (.slice none 0 0) := O6.cell 3
        have of3 := O6.frozen 3
        have o4 : w6.cell? ⟨w.heap.size, 4, none⟩ = some (.slice none 0 0) := O6.cell 4
        have of4 := O6.frozen 4
        have oz := O6.lt
        go_wp2_with fail
        generalize hS : World.setCell (World.setCell (World.setCell (World.setCell (World.setCell w6 _ _) _ _) _ _) _ _) _ _ = W9
        obtain ⟨O9, T9⟩ := own5 O6 (.int .i64 (blockM l l3 lk).kind) (.string (blockM l l3 lk).text) (.int .i64 (blockM l l3 lk).number) (.slice y1 (blockM l l3 lk).names.length y2) (.slice y3 (blockM l l3 lk).kids.length y4)
        rw [hS] at O9 T9
        clear hS
        have p0 : W9.cell? ⟨w.heap.size, 0, none⟩ = some (.int .i64 (blockM l l3 lk).kind) := O9.cell 0
        have p1 : W9.cell? ⟨w.heap.size, 1, none⟩ = some (.string (blockM l l3 lk).text) := O9.cell 1
        have p2 : W9.cell? ⟨w.heap.size, 2, none⟩ = some (.int .i64 (blockM l l3 lk).number) := O9.cell 2
        have p3 : W9.cell? ⟨w.heap.size, 3, none⟩ = some (.slice y1 (blockM l l3 lk).names.length y2) := O9.cell 3
        have p4 : W9.cell? ⟨w.heap.size, 4, none⟩ = some (.slice y3 (blockM l l3 lk).kids.length y4) := O9.cell 4
        have pz := O9.lt
        have FIN : RGot B tb to_ cap _ ts w a b (fun n => pBlock ts n a) (.returned (.agg #[.int .i64 (blockM l l3 lk).kind, .string (blockM l l3 lk).text, .int .i64 (blockM l l3 lk).number, .slice y1 (blockM l l3 lk).names.length y2, .slice y3 (blockM l l3 lk).kids.length y4])) W9 := ⟨blockM l l3 lk, _, fp, j4 + 1, b4, rfl, HR6.out.touch T9 (fun k hk hm => by have := HF6.out k hk; simp at hm; omega), fun k hk => by have := HF6.out k hk; omega, HP.out.late HP6.out T9 (fun k hk => by simp at hk; omega), HG.out, by omega, HT6.out.late2 T9 (fun k hk => by simp at hk; omega)⟩
        exact bodyPost_ret (v := .agg #[.int .i64 (blockM l l3 lk).kind, .string (blockM l l3 lk).text, .int .i64 (blockM l l3 lk).number, .slice y1 (blockM l l3 lk).names.length y2, .slice y3 (blockM l l3 lk).kids.length y4]) (by simp [results, Tryz.results144, go_sem, p0, p1, p2, p3, p4, pz]) rfl FIN
      have HTD2 : Hid (Todo b (fun n => pBody ts n a) bj (fun n => (pVars ts n (j + 1)).bind fun v => (pStmts ts n [] v.2).bind fun b => some (blockM l v.1 b.1, b.2))) := Lib.hid (by
        have := HTD1.out
        simp only [ne_eq, hl0, not_false_eq_true, true_and, hb, Bool.true_eq_false, if_false, if_true] at this
        exact this)
      have HW2 := Lib.hid (rneedx_yes w1 HP1.out 7 ⟨#[124]⟩ (by decide) (ne1 _) hb)
      clear HTD1 hl0 hb
      go_wp2_with fail
      refine HW2.out.mono ?_
      rintro e w2 ⟨rfl, K2, T2⟩
      have HP2 := Lib.hid K2
      have HO2 := Lib.hid (HO1.out.touch' T2 (by simp; omega))
      have HA2 := Lib.hid (AccT.low HA1.out T2 (fun k hk => by simp at hk; omega))
      have HT2 := Lib.hid (HT1.out.trans T2)
      have hs2 := Nat.le_trans hs1 T2.size
      clear K2 T2 HW2
      go_wp2_with fail
      have hjl2 := HP2.out.le
      refine (rnames_any w2 HP2.out).mono ?_
      rintro e w3 ⟨v3, l3, j3, b3, rfl, A3, K3, g3, hj3, hl3, T3⟩
      have HTD3 := Lib.hid (HTD2.out.call0 g3 (g := fun n v => (pStmts ts n [] v.2).bind fun b => some (blockM l v.1 b.1, b.2)) (fun n => rfl))
      have HO3 := Lib.hid (HO2.out.touch' T3 (by simp; omega))
      have HA3 := Lib.hid (AccT.low HA2.out T3 (fun k hk => by simp at hk; omega))
      have HB3 := Lib.hid A3
      have HT3 := Lib.hid (HT2.out.trans T3)
      have hs3 := T3.size
      have HU := Lib.hid (HST.out j3 (by omega) w3 b3 K3)
      have hjl3 := K3.le
      clear A3 K3 g3 T3 HO2 HA2 HT2 HP2 HTD2
      go_wp2_with fail
      refine HU.out.mono ?_
      rintro e w4 ⟨lk, vk, j4, b4, rfl, A4, K4, g4, hl4, hj4, T4⟩
      have HTD4 := Lib.hid ((Todo.refl b (fun n => pBlock ts n a)).call ((HTD3.out.call0 g4 (g := fun n b => some (blockM l l3 b.1, b.2)) (fun n => rfl)).done (y := (blockM l l3 lk, j4)) (fun n => rfl)) (g := fun n r => if tkxB ts r.2 7 rbrM = true then some (r.1, r.2 + 1) else none) (fun n => by rw [pBlock]))
      have HO4 := Lib.hid (HO3.out.touch' T4 (by simp; omega))
      have HA4 := Lib.hid (AccT.low HA3.out T4 (fun k hk => by simp at hk; omega))
      have HB4 := Lib.hid (AccT.low HB3.out T4 (fun k hk => by simp at hk; omega))
      have HC4 := Lib.hid A4
      have HT4 := Lib.hid (HT3.out.trans T4)
      have HP4 := Lib.hid K4
      have hs4 := T4.size
      clear A4 K4 g4 T4 HO3 HA3 HB3 HT3 HU HTD3
      cases he : tkxB ts j4 7 rbrM
      · have HW := Lib.hid (rneedx_no w4 HP4.out 7 ⟨#[93]⟩ (by decide) (ne1 _) he)
        have HG : Hid (Got b (fun n => pBlock ts n a) true (blockM l l3 lk, j4)) := Lib.hid (HTD4.out.fail _ (fun n => by show (if tkxB ts j4 7 rbrM = true then some (blockM l l3 lk, j4 + 1) else none) = none; rw [if_neg (by rw [he]; decide)]))
        clear he HTD4
        go_wp2_with fail
        refine HW.out.mono ?_
        rintro e w5 ⟨rfl, K5, T5⟩
        have HO5 := Lib.hid (HO4.out.touch' T5 (by simp; omega))
        have HP5 := Lib.hid K5
        have HT5 := Lib.hid (HT4.out.trans T5)
        obtain ⟨an2, cn2, gn2, hvn, rn, -⟩ := AccT.rep (AccT.low HA4.out T5 (fun k hk => by simp at hk; omega))
        rw [← hvn] at rn
        clear hvn
        obtain ⟨at', ct, gt, rfl, rt, -⟩ := AccT.rep (AccT.low HB4.out T5 (fun k hk => by simp at hk; omega))
        obtain ⟨ak, ck, gk, rfl, rk, fk⟩ := AccX.rep (Acw.touch HC4.out T5 (fun k hk => by simp at hk; omega))
        have R5n := Lib.hid rn.rep
        have R5t := Lib.hid rt.rep
        have R5k := Lib.hid rk
        have HGK : Hid (∀ k, k ∈ gk → w.heap.size < k) := Lib.hid fun k hk => by have := fk k hk; omega
        have hs5 := T5.size
        clear K5 T5 rn rt rk fk HO4 HT4 HA4 HB4 HC4 HP4
        go_wp2_with fail
        refine (l3Block_any l l3 lk _ _ _ w5 R5n.out R5t.out gk R5k.out (by omega)).mono ?_
        rintro e w6 ⟨cs, fp, rfl, r6, f6, x6⟩
        obtain ⟨y1, y2, y3, y4, rfl⟩ := fld5 r6
        have O6 := HO5.out.ext x6
        have HP6 := Lib.hid (HP5.out.ext x6)
        have HT6 := Lib.hid (HT5.out.trans (Touch.of_ext x6 [B]))
        have HR6 := Lib.hid r6
        have HF6 : Hid (∀ k, k ∈ fp → w.heap.size < k) := Lib.hid fun k hk => by
          rcases f6 k hk with h | h
          · exact HGK.out k h
          · omega
        clear r6 f6 x6 HO5 HP5 HT5
        have o0 : w6.cell? ⟨w.heap.size, 0, none⟩ = some (.int .i64 0) := O6.cell 0
        have of0 := O6.frozen 0
        have o1 : w6.cell? ⟨w.heap.size, 1, none⟩ = some (.string ⟨#[]⟩) := O6.cell 1
        have of1 := O6.frozen 1
        have o2 : w6.cell? ⟨w.heap.size, 2, none⟩ = some (.int .i64 0) := O6.cell 2
        have of2 := O6.frozen 2
        have o3 : w6.cell? ⟨w.heap.size, 3, none⟩ = some (.slice none 0 0) := O6.cell 3
        have of3 := O6.frozen 3
        have o4 : w6.cell? ⟨w.heap.size, 4, none⟩ = some (.slice none 0 0) := O6.cell 4
        have of4 := O6.frozen 4
        have oz := O6.lt
        go_wp2_with fail
        generalize hS : World.setCell (World.setCell (World.setCell (World.setCell (World.setCell w6 _ _) _ _) _ _) _ _) _ _ = W9
        obtain ⟨O9, T9⟩ := own5 O6 (.int .i64 (blockM l l3 lk).kind) (.string (blockM l l3 lk).text) (.int .i64 (blockM l l3 lk).number) (.slice y1 (blockM l l3 lk).names.length y2) (.slice y3 (blockM l l3 lk).kids.length y4)
        rw [hS] at O9 T9
        clear hS
        have p0 : W9.cell? ⟨w.heap.size, 0, none⟩ = some (.int .i64 (blockM l l3 lk).kind) := O9.cell 0
        have p1 : W9.cell? ⟨w.heap.size, 1, none⟩ = some (.string (blockM l l3 lk).text) := O9.cell 1
        have p2 : W9.cell? ⟨w.heap.size, 2, none⟩ = some (.int .i64 (blockM l l3 lk).number) := O9.cell 2
        have p3 : W9.cell? ⟨w.heap.size, 3, none⟩ = some (.slice y1 (blockM l l3 lk).names.length y2) := O9.cell 3
        have p4 : W9.cell? ⟨w.heap.size, 4, none⟩ = some (.slice y3 (blockM l l3 lk).kids.length y4) := O9.cell 4
        have pz := O9.lt
        have FIN : RGot B tb to_ cap _ ts w a b (fun n => pBlock ts n a) (.returned (.agg #[.int .i64 (blockM l l3 lk).kind, .string (blockM l l3 lk).text, .int .i64 (blockM l l3 lk).number, .slice y1 (blockM l l3 lk).names.length y2, .slice y3 (blockM l l3 lk).kids.length y4])) W9 := ⟨blockM l l3 lk, _, fp, j4, true, rfl, HR6.out.touch T9 (fun k hk hm => by have := HF6.out k hk; simp at hm; omega), fun k hk => by have := HF6.out k hk; omega, HP.out.late HP6.out T9 (fun k hk => by simp at hk; omega), HG.out, by omega, HT6.out.late2 T9 (fun k hk => by simp at hk; omega)⟩
        exact bodyPost_ret (v := .agg #[.int .i64 (blockM l l3 lk).kind, .string (blockM l l3 lk).text, .int .i64 (blockM l l3 lk).number, .slice y1 (blockM l l3 lk).names.length y2, .slice y3 (blockM l l3 lk).kids.length y4]) (by simp [results, Tryz.results144, go_sem, p0, p1, p2, p3, p4, pz]) rfl FIN
      have HW := Lib.hid (rneedx_yes w4 HP4.out 7 ⟨#[93]⟩ (by decide) (ne1 _) he)
      have HG : Hid (Got b (fun n => pBlock ts n a) b4 (blockM l l3 lk, j4 + 1)) := Lib.hid (HTD4.out.done (fun n => by show (if tkxB ts j4 7 rbrM = true then some (blockM l l3 lk, j4 + 1) else none) = some (blockM l l3 lk, j4 + 1); rw [if_pos he]))
      clear he HTD4
      go_wp2_with fail
      refine HW.out.mono ?_
      rintro e w5 ⟨rfl, K5, T5⟩
      have HO5 := Lib.hid (HO4.out.touch' T5 (by simp; omega))
      have HP5 := Lib.hid K5
      have HT5 := Lib.hid (HT4.out.trans T5)
      obtain ⟨an2, cn2, gn2, hvn, rn, -⟩ := AccT.rep (AccT.low HA4.out T5 (fun k hk => by simp at hk; omega))
      rw [← hvn] at rn
      clear hvn
      obtain ⟨at', ct, gt, rfl, rt, -⟩ := AccT.rep (AccT.low HB4.out T5 (fun k hk => by simp at hk; omega))
      obtain ⟨ak, ck, gk, rfl, rk, fk⟩ := AccX.rep (Acw.touch HC4.out T5 (fun k hk => by simp at hk; omega))
      have R5n := Lib.hid rn.rep
      have R5t := Lib.hid rt.rep
      have R5k := Lib.hid rk
      have HGK : Hid (∀ k, k ∈ gk → w.heap.size < k) := Lib.hid fun k hk => by have := fk k hk; omega
      have hs5 := T5.size
      clear K5 T5 rn rt rk fk HO4 HT4 HA4 HB4 HC4 HP4
      go_wp2_with fail
      refine (l3Block_any l l3 lk _ _ _ w5 R5n.out R5t.out gk R5k.out (by omega)).mono ?_
      rintro e w6 ⟨cs, fp, rfl, r6, f6, x6⟩
      obtain ⟨y1, y2, y3, y4, rfl⟩ := fld5 r6
      have O6 := HO5.out.ext x6
      have HP6 := Lib.hid (HP5.out.ext x6)
      have HT6 := Lib.hid (HT5.out.trans (Touch.of_ext x6 [B]))
      have HR6 := Lib.hid r6
      have HF6 : Hid (∀ k, k ∈ fp → w.heap.size < k) := Lib.hid fun k hk => by
        rcases f6 k hk with h | h
        · exact HGK.out k h
        · omega
      clear r6 f6 x6 HO5 HP5 HT5
      have o0 : w6.cell? ⟨w.heap.size, 0, none⟩ = some (.int .i64 0) := O6.cell 0
      have of0 := O6.frozen 0
      have o1 : w6.cell? ⟨w.heap.size, 1, none⟩ = some (.string ⟨#[]⟩) := O6.cell 1
      have of1 := O6.frozen 1
      have o2 : w6.cell? ⟨w.heap.size, 2, none⟩ = some (.int .i64 0) := O6.cell 2
      have of2 := O6.frozen 2
      have o3 : w6.cell? ⟨w.heap.size, 3, none⟩ = some (.slice none 0 0) := O6.cell 3
      have of3 := O6.frozen 3
      have o4 : w6.cell? ⟨w.heap.size, 4, none⟩ = some (.slice none 0 0) := O6.cell 4
      have of4 := O6.frozen 4
      have oz := O6.lt
      go_wp2_with fail
      generalize hS : World.setCell (World.setCell (World.setCell (World.setCell (World.setCell w6 _ _) _ _) _ _) _ _) _ _ = W9
      obtain ⟨O9, T9⟩ := own5 O6 (.int .i64 (blockM l l3 lk).kind) (.string (blockM l l3 lk).text) (.int .i64 (blockM l l3 lk).number) (.slice y1 (blockM l l3 lk).names.length y2) (.slice y3 (blockM l l3 lk).kids.length y4)
      rw [hS] at O9 T9
      clear hS
      have p0 : W9.cell? ⟨w.heap.size, 0, none⟩ = some (.int .i64 (blockM l l3 lk).kind) := O9.cell 0
      have p1 : W9.cell? ⟨w.heap.size, 1, none⟩ = some (.string (blockM l l3 lk).text) := O9.cell 1
      have p2 : W9.cell? ⟨w.heap.size, 2, none⟩ = some (.int .i64 (blockM l l3 lk).number) := O9.cell 2
      have p3 : W9.cell? ⟨w.heap.size, 3, none⟩ = some (.slice y1 (blockM l l3 lk).names.length y2) := O9.cell 3
      have p4 : W9.cell? ⟨w.heap.size, 4, none⟩ = some (.slice y3 (blockM l l3 lk).kids.length y4) := O9.cell 4
      have pz := O9.lt
      have FIN : RGot B tb to_ cap _ ts w a b (fun n => pBlock ts n a) (.returned (.agg #[.int .i64 (blockM l l3 lk).kind, .string (blockM l l3 lk).text, .int .i64 (blockM l l3 lk).number, .slice y1 (blockM l l3 lk).names.length y2, .slice y3 (blockM l l3 lk).kids.length y4])) W9 := ⟨blockM l l3 lk, _, fp, j4 + 1, b4, rfl, HR6.out.touch T9 (fun k hk hm => by have := HF6.out k hk; simp at hm; omega), fun k hk => by have := HF6.out k hk; omega, HP.out.late HP6.out T9 (fun k hk => by simp at hk; omega), HG.out, by omega, HT6.out.late2 T9 (fun k hk => by simp at hk; omega)⟩
      exact bodyPost_ret (v := .agg #[.int .i64 (blockM l l3 lk).kind, .string (blockM l l3 lk).text, .int .i64 (blockM l l3 lk).number, .slice y1 (blockM l l3 lk).names.length y2, .slice y3 (blockM l l3 lk).kids.length y4]) (by simp [results, Tryz.results144, go_sem, p0, p1, p2, p3, p4, pz]) rfl FIN
    have HE := Lib.hid (rtake_yes wr HPM.out 7 ⟨#[58]⟩ (by decide) (ne1 _) hc)
    have hjt := tok_lt (by decide) hc
    go_wp2_with fail
    refine HE.out.mono ?_
    rintro e w1 ⟨rfl, K1, T1⟩
    have HO1 := Lib.hid (HO.out.touch' T1 (by simp; omega))
    have HA1 := Lib.hid (AccT.low HA.out T1 (fun k hk => by simp at hk; omega))
    have HT1 := Lib.hid (HT.out.trans T1)
    have HP1 := Lib.hid K1
    have hs1 := T1.size
    clear K1 T1 HO HA HT HE
    go_wp2_with fail
    obtain ⟨tx, j2, bj2, HC, HTD2, hj2⟩ : ∃ (tx : ByteArray) (j2 : Nat) (bj2 : Bool), Hid (Calls Tryz.prog 36 #[.pointer (some ⟨B, 0, none⟩), .int .i64 1, .string ⟨#[]⟩] w1 (fun e w' => e = .returned (.string tx) ∧ Prs 48 B tb to_ cap ao ts w' (j2) bj2 ∧ Touch w1 w' [B])) ∧ Hid (Todo b (fun n => pPars ts n [] a) bj2 (fun n => pPars ts n (l ++ [tx]) j2)) ∧ j + 1 ≤ j2 := by
      cases hb : tkB ts (j + 1) 1
      · exact ⟨⟨#[]⟩, j + 1, true, Lib.hid (rneedk_no w1 HP1.out 1 (by decide) hb), Lib.hid (HTD.out.badly (fun n => by rw [pPars, if_pos hc, if_neg (by rw [hb]; decide)])), Nat.le_refl _⟩
      · exact ⟨tkT ts (j + 1), j + 2, bj, Lib.hid (rneedk_yes w1 HP1.out 1 (by decide) hb), Lib.hid (HTD.out.step (fun n => by rw [pPars, if_pos hc, if_pos hb])), by omega⟩
    clear hc HTD
    go_wp2_with fail
    refine HC.out.mono ?_
    rintro e w2 ⟨rfl, K2, T2⟩
    have HO2 := Lib.hid (HO1.out.touch' T2 (by simp; omega))
    have HA2 := AccT.low HA1.out T2 (fun k hk => by simp at hk; omega)
    have HT2 := Lib.hid (HT1.out.trans T2)
    have HP2 := Lib.hid K2
    have hs2 := T2.size
    have x3 : Ext w2 (w2.alloc (.cells #[.string tx] 9)) := (Ext.refl w2).alloc _
    have KD := AccT.ext HA2 x3
    have hjl2 := K2.le
    clear K2 T2 HC HO1 HA1 HT1 HP1 HA2
    go_wp2_with (at_builtin; refine wpList_append_strs_at rfl _ _ rfl (w.heap.size + 1) nv l rfl KD [tx] _ _ _ rfl (rep_one _ _) (by simp; omega) (by simp; omega) ?_)
    intro a1 k1 w4 ac1 g1 m1
    have TG : Touch (w2.alloc (.cells #[.string tx] 9)) w4 nv.ownBlock.toList := (Touch.of_ext (Ext.refl _) _).grown g1 fun k hk => Or.inl (by simp [hk])
    have hge : ∀ k, k ∈ nv.ownBlock.toList → w.heap.size + 1 ≤ k := fun k hk => (Acc.ge KD (k := k) (by simpa using hk)).1
    have HK4 := Lib.hid (HP.out.late (HP2.out.ext x3) TG (fun k hk => by have := hge k hk; omega))
    have HT4 := Lib.hid ((HT2.out.trans (Touch.of_ext x3 [B])).late2 TG (fun k hk => by have := hge k hk; omega))
    have HO4 := Lib.hid ((HO2.out.ext x3).touch' TG (fun hm => by have := hge _ hm; omega))
    have HAC := Lib.hid ac1
    clear KD g1 m1 HP2 HT2 HO2 TG ac1 hge x3
    generalize hv1 : Value.slice a1 (l.length + [tx].length) k1 = v1 at *
    go_wp2_with fail
    refine ⟨⟨l ++ [tx], j2, bj2, HAC.out, HK4.out, HTD2, by simp; omega, HO4.out, HT4.out⟩, ?_⟩
    rw [placeOf_eq HPM.out, placeOf_eq HK4.out]; omega

end Go.Proofs.YtonmcoojgkgemaaGreatDoor
