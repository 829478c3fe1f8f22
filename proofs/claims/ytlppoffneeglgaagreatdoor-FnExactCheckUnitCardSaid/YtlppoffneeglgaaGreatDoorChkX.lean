/-
  CONTRACTS: the checker's expressions, of the reference.
  Conditions: those that each lemma states.
-/
import Derived.Test.YtlppoffneeglgaaGreatDoorRows
import Derived.Test.YtlppoffneeglgaaGreatDoorChkN
import Derived.Test.YtlppoffneeglgaaGreatDoorChkE
namespace Go.Proofs.YtlppoffneeglgaaGreatDoor
open Go.RowKit
set_option linter.unusedSimpArgs false
set_option linter.unusedVariables false

/-- What l7Expr does, at n. -/
def SxAt (l : List MClassDef) (V : List ByteArray) (own : Bool) (n : Nat) : Prop := ∀ (st : Bool) (x : MExpr) (cx : List Value) (D : Scope) (Vs Fs : List ByteArray) (B : Nat) (a : Option Addr) (c : Nat) (av af : Option Addr) (cv cf : Nat) (vV : Value) (w : World),
  okR n st x → Rep w x.d cx → SRel D Vs Fs → Rep w (strs Vs) [.slice av Vs.length cv] → Rep w (strs Fs) [.slice af Fs.length cf] → Rep w (strs V) [vV] → w.cell? ⟨B, 0, none⟩ = some (.slice a l.length c) → Rep w (MClassDefs l) [.slice a l.length c] → Vs.length + Fs.length + x.d.bulk ≤ 4194304 →
  Calls Tryz.prog 33 #[.agg #[.pointer (some ⟨B, 0, none⟩), .slice av Vs.length cv, .slice af Fs.length cf, vV, .bool own], .agg cx.toArray] w fun e w' => e = .returned (.string (exV (builtinsL ++ namesC l) V own D x)) ∧ Ext w w'

set_option maxHeartbeats 16000000 in
set_option maxRecDepth 100000 in
theorem sx_step (l : List MClassDef) (hl : l.length ≤ 8) (V : List ByteArray) (own : Bool) (n : Nat) (IH : Hid (SxAt l V own n)) : SxAt l V own (n + 1) := by
  intro st x cx D Vs Fs B a c av af cv cf vV w hok rx hS rv rf rV b0 rl hD
  obtain ⟨a1, c1, a2, c2, rfl, r1, r2⟩ := MExpr.op_en rx
  have hbe := MExpr.bulk_eq x
  have HKD : Hid (∀ (i : Nat) (z : MExpr), x.kids[i]? = some z → (x.kind = 7 → i = 0) → ∃ st, okR n st z) := Lib.hid fun i z hz h7 => by
    obtain ⟨hi, rfl⟩ := List.getElem?_eq_some_iff.1 hz
    refine ⟨_, ((okR_succ.1 hok).2.2 i ?_ hi).1⟩
    unfold lastN
    split
    · rename_i h; have := h7 h; omega
    · exact hi
  have HHEAD : Hid (headOk x) := Lib.hid hok.1.1
  have HMSG : Hid (x.kind = 7 → msgsOk n x.kids.tail) := Lib.hid (okR_succ.1 hok).1.2
  have HSUCC : Hid (exV (builtinsL ++ namesC l) V own D x = orT (headP (builtinsL ++ namesC l) V D x) (kdsP own (exV (builtinsL ++ namesC l) V own (nextD D x)) x 0 x.kids)) := Lib.hid (exV_eq (builtinsL ++ namesC l) V own D x)
  have hnb : x.names.length ≤ x.d.bulk := MExpr.bulk_names x
  have hkb := MExpr.bulk_kids x
  have htb := MExpr.bulk_text x
  obtain ⟨bx, hbx⟩ : ∃ bx, x.d.bulk = bx := ⟨_, rfl⟩
  have HKNB : Hid (∀ z, z ∈ x.kids → x.names.length + z.d.bulk ≤ bx) := Lib.hid fun z hz => by
    have h1 := bulkE_mem hz
    omega
  have HNZ : Hid (∀ s, s ∈ x.names → s.size ≤ bx) := Lib.hid fun s hs => by rw [← hbx]; exact MExpr.bulk_name hs
  rw [hbx] at hnb hkb htb hD
  obtain ⟨kd, t, nu, nms, kids⟩ := x
  simp only at *
  clear hbe hbx rx
  have HS := Lib.hid hS
  go_enter Tryz.func33, Tryz.ntmps33
  go_upto_region 1 with fail
  generalize hW : World.alloc (World.alloc w _) _ = W1
  have x1 : Ext w W1 := by rw [← hW]; exact ((Ext.refl _).alloc _).alloc _
  have O1 : Own W1 w.heap.size 78 #[.pointer (some ⟨B, 0, none⟩), .slice av Vs.length cv, .slice af Fs.length cf, vV, .bool own] := by rw [← hW]; exact (own_new w _ _).ext ((Ext.refl _).alloc _)
  have m0 : W1.cell? ⟨w.heap.size + 1, 0, none⟩ = some (.int .i64 kd) := by rw [← hW]; simp
  have m1 : W1.cell? ⟨w.heap.size + 1, 1, none⟩ = some (.string t) := by rw [← hW]; simp
  have m2 : W1.cell? ⟨w.heap.size + 1, 2, none⟩ = some (.int .i64 nu) := by rw [← hW]; simp
  have m3 : W1.cell? ⟨w.heap.size + 1, 3, none⟩ = some (.slice a1 nms.length c1) := by rw [← hW]; simp
  have m4 : W1.cell? ⟨w.heap.size + 1, 4, none⟩ = some (.slice a2 kids.length c2) := by rw [← hW]; simp
  clear hW
  obtain ⟨S, hSz⟩ : ∃ S, w.heap.size = S := ⟨_, rfl⟩
  rw [hSz] at O1 m0 m1 m2 m3 m4
  have zB0 := lt_of_cell b0
  have hBS : B ≠ S := by have : B < w.heap.size := zB0; omega
  rw [hSz]
  have s0 : W1.cell? ⟨S, 0, none⟩ = some (.pointer (some ⟨B, 0, none⟩)) := by rw [O1.cell]; rfl
  have s1 : W1.cell? ⟨S, 1, none⟩ = some (.slice av Vs.length cv) := by rw [O1.cell]; rfl
  have s2 : W1.cell? ⟨S, 2, none⟩ = some (.slice af Fs.length cf) := by rw [O1.cell]; rfl
  have s3 : W1.cell? ⟨S, 3, none⟩ = some vV := by rw [O1.cell]; rfl
  have s4 : W1.cell? ⟨S, 4, none⟩ = some (.bool own) := by rw [O1.cell]; rfl
  have zS := lt_of_cell s0
  have zE := lt_of_cell m0
  have c0 := x1.cell b0
  have zB := lt_of_cell c0
  have XV := Lib.hid (RepX.of rv x1 (Nat.le_of_eq hSz))
  have XF := Lib.hid (RepX.of rf x1 (Nat.le_of_eq hSz))
  have XX := Lib.hid (RepX.of rV x1 (Nat.le_of_eq hSz))
  have XL := Lib.hid (RepX.of rl x1 (Nat.le_of_eq hSz))
  have XN := Lib.hid (RepX.of r1 x1 (Nat.le_of_eq hSz))
  have XK := Lib.hid (RepX.of r2 x1 (Nat.le_of_eq hSz))
  have HO1 := Lib.hid O1
  have HEX : Hid (∀ W2, Touch W1 W2 [S] → Ext w W2) := Lib.hid fun W2 h => Touch.ext x1 h (fun b hb => by simp at hb; omega)
  clear rv rf rV rl r1 r2 hS hok b0 zB0 O1
  go_upto_block 0 with fail
  go_cut [5] (fun v5 wx => ∃ (av' af' : Option Addr) (cv' cf' : Nat) (Vs' Fs' : List ByteArray), Own wx S 78 #[.pointer (some ⟨B, 0, none⟩), .slice av' Vs'.length cv', .slice af' Fs'.length cf', vV, .bool own] ∧ RepX wx S (strs Vs') (.slice av' Vs'.length cv') ∧ RepX wx S (strs Fs') (.slice af' Fs'.length cf') ∧ Hid (SRel (nextD D ⟨kd, t, nu, nms, kids⟩) Vs' Fs') ∧ Touch W1 wx [S] ∧ Vs'.length + Fs'.length ≤ Vs.length + Fs.length + nms.length ∧ Hid (headP (builtinsL ++ namesC l) V D ⟨kd, t, nu, nms, kids⟩ = ⟨#[]⟩))
  case first =>
    by_cases hc4 : kd = 4
    · subst hc4
      as_aux_lemma =>
        have htz : t.size ≤ 1048576 := by
          have := (HHEAD.out.2.2.2.2.2.2.1 rfl).1
          have h2 : t.size ≤ 20 := (name_len' this).2
          omega
        have HV : Hid (exV (builtinsL ++ namesC l) V own D ⟨4, t, nu, nms, kids⟩ = nameP (builtinsL ++ namesC l) V D t) := Lib.hid (by
          have hk : kids = [] := (HHEAD.out.2.2.2.2.2.2.1 rfl).2
          rw [HSUCC.out]; subst hk
          simp [headP, kdsP, orT_r])
        go_wp2_with fail
        refine (l7Name_any l hl HS.out t htz S B a c _ _ _ W1 s0 s1 s2 s3 c0 XL.out.rep XV.out.rep XF.out.rep XX.out.rep).mono ?_
        rintro e w2 ⟨rfl, hx2⟩
        go_wp2_with fail
        go_ret
        exact ⟨by rw [HV.out]; rfl, x1.trans hx2⟩
    have tc4 := int_ne hc4
    by_cases hc5 : kd = 5
    · subst hc5
      clear hc4
      as_aux_lemma =>
        have htz : t.size ≤ 1048576 := by
          have := (HHEAD.out.2.2.2.2.2.2.2.1 rfl).1
          have h2 : t.size ≤ 20 := (name_len' this).2
          omega
        have hvr := HS.out.var t
        have HNX : Hid (SRel (nextD D ⟨5, t, nu, nms, kids⟩) Vs Fs) := Lib.hid (by simpa [nextD] using HS.out)
        cases u0 : hasB Vs t
        rotate_left
        · have HP : Hid (headP (builtinsL ++ namesC l) V D ⟨5, t, nu, nms, kids⟩ = ⟨#[]⟩) := Lib.hid (by simp [headP, asgP, hvr, u0])
          clear hvr
          go_wp2_with fail
          refine (l1Has_any Vs t _ _ XV.out.rep).mono ?_
          rw [u0]
          rintro e wq ⟨rfl, hq⟩
          subst wq
          go_wp2_with fail
          go_meet
          exact ⟨av, af, cv, cf, Vs, Fs, HO1.out, XV.out, XF.out, HNX, Touch.of_ext (Ext.refl _) _, by omega, HP⟩
        cases u2 : hasB V t
        rotate_left
        · have HP : Hid (headP (builtinsL ++ namesC l) V D ⟨5, t, nu, nms, kids⟩ = ⟨#[]⟩) := Lib.hid (by simp [headP, asgP, hvr, u0, u2])
          clear hvr
          go_wp2_with fail
          refine (l1Has_any Vs t _ _ XV.out.rep).mono ?_
          rw [u0]
          rintro e wq ⟨rfl, hq⟩
          subst wq
          go_wp2_with fail
          refine (l1Has_any V t vV _ XX.out.rep).mono ?_
          rw [u2]
          rintro e wq ⟨rfl, hq⟩
          subst wq
          go_wp2_with fail
          go_meet
          exact ⟨av, af, cv, cf, Vs, Fs, HO1.out, XV.out, XF.out, HNX, Touch.of_ext (Ext.refl _) _, by omega, HP⟩
        have HV : Hid (exV (builtinsL ++ namesC l) V own D ⟨5, t, nu, nms, kids⟩ = tAssign t) := Lib.hid (by
          rw [HSUCC.out]
          have : headP (builtinsL ++ namesC l) V D ⟨5, t, nu, nms, kids⟩ = tAssign t := by simp [headP, asgP, hvr, u0, u2]
          rw [this]; exact orT_ne (t_pos _ _ _ (by decide)) _)
        clear hvr
        go_wp2_with fail
        refine (l1Has_any Vs t _ _ XV.out.rep).mono ?_
        rw [u0]
        rintro e wq ⟨rfl, hq⟩
        subst wq
        go_wp2_with fail
        refine (l1Has_any V t vV _ XX.out.rep).mono ?_
        rw [u2]
        rintro e wq ⟨rfl, hq⟩
        subst wq
        go_wp2_with fail
        go_ret
        exact ⟨by rw [HV.out]; rfl, x1⟩
    have tc5 := int_ne hc5
    by_cases hc8 : kd = 8
    · subst hc8
      clear hc4 hc5
      as_aux_lemma =>
        have hnz : ∀ s, s ∈ nms → s.size ≤ 1048576 := fun s hs => by
          have := (HHEAD.out.2.2.2.2.2.2.2.2.2.2.1 rfl).1 s hs
          have h2 := (name_len' this).2
          omega
        obtain ⟨P, hP⟩ : ∃ P, declP (builtinsL ++ namesC l) V nu 0 D nms = P := ⟨_, rfl⟩
        have HPD := Lib.hid hP
        have CD : Hid (Calls Tryz.prog 62 #[.pointer (some ⟨S, 0, none⟩), .slice a1 nms.length c1, .int .i64 nu] W1 fun e w' => e = .returned (.string P) ∧ Touch W1 w' [S] ∧ (P.size = 0 → ∃ (av' af' : Option Addr) (cv' cf' : Nat) (Vs' Fs' : List ByteArray), Own w' S 78 #[.pointer (some ⟨B, 0, none⟩), .slice av' Vs'.length cv', .slice af' Fs'.length cf', vV, .bool own] ∧ RepX w' S (strs Vs') (.slice av' Vs'.length cv') ∧ RepX w' S (strs Fs') (.slice af' Fs'.length cf') ∧ SRel (D ++ flagsF nu 0 nms) Vs' Fs' ∧ Vs'.length + Fs'.length ≤ Vs.length + Fs.length + nms.length)) := Lib.hid (by
          rw [← hP]
          exact l7Declare_any l hl HS.out nms nu hnz S B a c av af cv cf vV _ own W1 HO1.out hBS c0 XL.out XV.out XF.out XX.out XN.out (by omega))
        clear hP hnz
        go_wp2_with fail
        refine CD.out.mono ?_
        rintro e w2 ⟨rfl, T2, hpost⟩
        by_cases hz : P.size = 0
        · have hp0 := size_nil hz
          subst hp0
          obtain ⟨av', af', cv', cf', Vs', Fs', k1, k2, k3, k4, k5⟩ := hpost rfl
          have HP : Hid (headP (builtinsL ++ namesC l) V D ⟨8, t, nu, nms, kids⟩ = ⟨#[]⟩) := Lib.hid (by simp [headP, HPD.out])
          have HNX : Hid (SRel (nextD D ⟨8, t, nu, nms, kids⟩) Vs' Fs') := Lib.hid (by simpa [nextD] using k4)
          clear hz k4 hpost
          go_wp2_with fail
          go_meet
          exact ⟨av', af', cv', cf', Vs', Fs', k1, k2, k3, HNX, T2, by omega, HP⟩
        · have HV : Hid (exV (builtinsL ++ namesC l) V own D ⟨8, t, nu, nms, kids⟩ = P) := Lib.hid (by
            rw [HSUCC.out]
            have : headP (builtinsL ++ namesC l) V D ⟨8, t, nu, nms, kids⟩ = P := by simp [headP, HPD.out]
            rw [this]; exact orT_ne hz _)
          have t1 : (P.toList == []) = false := str_ne' (l := []) (fun e => hz (by rw [e]; rfl))
          have t2 : (!P.toList == []) = true := by rw [t1]; rfl
          clear hpost hz
          go_wp2_with fail
          go_ret
          exact ⟨by rw [HV.out]; rfl, HEX.out _ T2⟩
    have tc8 := int_ne hc8
    by_cases hc1 : kd = 1
    · subst hc1
      clear hc4 hc5 hc8
      as_aux_lemma =>
        have HP : Hid (headP (builtinsL ++ namesC l) V D ⟨1, t, nu, nms, kids⟩ = ⟨#[]⟩) := Lib.hid (by simp [headP])
        have HNX : Hid (SRel (nextD D ⟨1, t, nu, nms, kids⟩) Vs Fs) := Lib.hid (by simpa [nextD] using HS.out)
        go_wp2_with fail
        go_meet
        exact ⟨av, af, cv, cf, Vs, Fs, HO1.out, XV.out, XF.out, HNX, Touch.of_ext (Ext.refl _) _, by omega, HP⟩
    have tc1 := int_ne hc1
    by_cases hc2 : kd = 2
    · subst hc2
      clear hc4 hc5 hc8 hc1
      as_aux_lemma =>
        have HP : Hid (headP (builtinsL ++ namesC l) V D ⟨2, t, nu, nms, kids⟩ = ⟨#[]⟩) := Lib.hid (by simp [headP])
        have HNX : Hid (SRel (nextD D ⟨2, t, nu, nms, kids⟩) Vs Fs) := Lib.hid (by simpa [nextD] using HS.out)
        go_wp2_with fail
        go_meet
        exact ⟨av, af, cv, cf, Vs, Fs, HO1.out, XV.out, XF.out, HNX, Touch.of_ext (Ext.refl _) _, by omega, HP⟩
    have tc2 := int_ne hc2
    by_cases hc3 : kd = 3
    · subst hc3
      clear hc4 hc5 hc8 hc1 hc2
      as_aux_lemma =>
        have HP : Hid (headP (builtinsL ++ namesC l) V D ⟨3, t, nu, nms, kids⟩ = ⟨#[]⟩) := Lib.hid (by simp [headP])
        have HNX : Hid (SRel (nextD D ⟨3, t, nu, nms, kids⟩) Vs Fs) := Lib.hid (by simpa [nextD] using HS.out)
        go_wp2_with fail
        go_meet
        exact ⟨av, af, cv, cf, Vs, Fs, HO1.out, XV.out, XF.out, HNX, Touch.of_ext (Ext.refl _) _, by omega, HP⟩
    have tc3 := int_ne hc3
    by_cases hc6 : kd = 6
    · subst hc6
      clear hc4 hc5 hc8 hc1 hc2 hc3
      as_aux_lemma =>
        have HP : Hid (headP (builtinsL ++ namesC l) V D ⟨6, t, nu, nms, kids⟩ = ⟨#[]⟩) := Lib.hid (by simp [headP])
        have HNX : Hid (SRel (nextD D ⟨6, t, nu, nms, kids⟩) Vs Fs) := Lib.hid (by simpa [nextD] using HS.out)
        go_wp2_with fail
        go_meet
        exact ⟨av, af, cv, cf, Vs, Fs, HO1.out, XV.out, XF.out, HNX, Touch.of_ext (Ext.refl _) _, by omega, HP⟩
    have tc6 := int_ne hc6
    by_cases hc7 : kd = 7
    · subst hc7
      clear hc4 hc5 hc8 hc1 hc2 hc3 hc6
      as_aux_lemma =>
        have HP : Hid (headP (builtinsL ++ namesC l) V D ⟨7, t, nu, nms, kids⟩ = ⟨#[]⟩) := Lib.hid (by simp [headP])
        have HNX : Hid (SRel (nextD D ⟨7, t, nu, nms, kids⟩) Vs Fs) := Lib.hid (by simpa [nextD] using HS.out)
        go_wp2_with fail
        go_meet
        exact ⟨av, af, cv, cf, Vs, Fs, HO1.out, XV.out, XF.out, HNX, Touch.of_ext (Ext.refl _) _, by omega, HP⟩
    have tc7 := int_ne hc7
    by_cases hc9 : kd = 9
    · subst hc9
      clear hc4 hc5 hc8 hc1 hc2 hc3 hc6 hc7
      as_aux_lemma =>
        have HP : Hid (headP (builtinsL ++ namesC l) V D ⟨9, t, nu, nms, kids⟩ = ⟨#[]⟩) := Lib.hid (by simp [headP])
        have HNX : Hid (SRel (nextD D ⟨9, t, nu, nms, kids⟩) Vs Fs) := Lib.hid (by simpa [nextD] using HS.out)
        go_wp2_with fail
        go_meet
        exact ⟨av, af, cv, cf, Vs, Fs, HO1.out, XV.out, XF.out, HNX, Touch.of_ext (Ext.refl _) _, by omega, HP⟩
    have tc9 := int_ne hc9
    exact absurd HHEAD.out.2.2.1 (by simp only; omega)
  case rest =>
  obtain ⟨av', af', cv', cf', Vs', Fs', O2, rv2, rf2, hS2, T2, hb2, hP⟩ := hcut
  have HV0 : Hid (exV (builtinsL ++ namesC l) V own D ⟨kd, t, nu, nms, kids⟩ = kdsP own (exV (builtinsL ++ namesC l) V own (nextD D ⟨kd, t, nu, nms, kids⟩)) ⟨kd, t, nu, nms, kids⟩ 0 kids) := Lib.hid (by rw [HSUCC.out, hP.out, orT_l])
  have x2 := HEX.out _ T2
  have IHX : Hid (∀ (z : MExpr) (cz : List Value) (st : Bool) (W : World), okR n st z → nms.length + z.d.bulk ≤ bx → Ext wc W → Rep W z.d cz → Calls Tryz.prog 33 #[.agg #[.pointer (some ⟨B, 0, none⟩), .slice av' Vs'.length cv', .slice af' Fs'.length cf', vV, .bool own], .agg cz.toArray] W fun e w' => e = .returned (.string (exV (builtinsL ++ namesC l) V own (nextD D ⟨kd, t, nu, nms, kids⟩) z)) ∧ Ext W w') := Lib.hid fun z cz st W hz hbz hW rz => IH.out st z cz (nextD D ⟨kd, t, nu, nms, kids⟩) Vs' Fs' B a c av' af' cv' cf' vV W hz rz hS2.out (Rep.ext hW rv2.rep) (Rep.ext hW rf2.rep) (Rep.ext hW (XX.out.touch T2).rep) (hW.cell (Touch.cellAt T2 (by simpa using hBS) c0)) (Rep.ext hW (XL.out.touch T2).rep) (by omega)
  have hE : S + 1 ∉ [S] := by simp
  replace m0 := Touch.cellAt T2 hE m0
  replace m4 := Touch.cellAt T2 hE m4
  replace s0 : wc.cell? ⟨S, 0, none⟩ = some (.pointer (some ⟨B, 0, none⟩)) := by rw [O2.cell]; rfl
  replace s1 : wc.cell? ⟨S, 1, none⟩ = some (.slice av' Vs'.length cv') := by rw [O2.cell]; rfl
  replace s2 : wc.cell? ⟨S, 2, none⟩ = some (.slice af' Fs'.length cf') := by rw [O2.cell]; rfl
  replace s3 : wc.cell? ⟨S, 3, none⟩ = some vV := by rw [O2.cell]; rfl
  replace s4 : wc.cell? ⟨S, 4, none⟩ = some (.bool own) := by rw [O2.cell]; rfl
  have XK2 := (XK.out.touch T2).rep
  obtain ⟨ak, ck, bk, ok', h1, hlk, hmk, pk, hak⟩ := Rep.slmap XK2
  simp only [List.cons.injEq, and_true, Value.slice.injEq] at h1
  obtain ⟨rfl, -, rfl⟩ := h1
  unfold maxLen at hmk
  have HAK := Lib.hid hak
  clear hak XK2 O2 rv2 rf2 hS2 T2 hP HEX m1 m2 m3 c0 zB XV XF XX XL XN XK HO1 HSUCC x1 zS zE hE
  obtain ⟨g, hg⟩ : ∃ g, exV (builtinsL ++ namesC l) V own (nextD D ⟨kd, t, nu, nms, kids⟩) = g := ⟨_, rfl⟩
  rw [hg] at IHX HV0
  clear hg
  obtain ⟨EV, hEV⟩ : ∃ EV, exV (builtinsL ++ namesC l) V own D ⟨kd, t, nu, nms, kids⟩ = EV := ⟨_, rfl⟩
  rw [hEV] at HV0
  have HEV := Lib.hid hEV
  clear hEV
  go_wp2_with fail
  go_loopw [6] (fun iv wr => ∃ i : Nat, i ≤ kids.length ∧ iv = .int .i64 i ∧ Ext wc wr ∧ Hid (EV = kdsP own g ⟨kd, t, nu, nms, kids⟩ i (kids.drop i))) (fun iv _ => kids.length - (intOf iv).toNat)
  case atStart => exact ⟨0, Nat.zero_le _, rfl, Ext.refl _, HV0⟩
  case round =>
    obtain ⟨i, hi, rfl, hx, hQ⟩ := hrel
    replace s0 := hx.cell s0
    replace s1 := hx.cell s1
    replace s2 := hx.cell s2
    replace s3 := hx.cell s3
    replace s4 := hx.cell s4
    replace m0 := hx.cell m0
    replace m4 := hx.cell m4
    have zr := lt_of_cell s0
    have zm := lt_of_cell m0
    by_cases hlt : i < kids.length
    rotate_left
    · have HE : Hid (EV = ⟨#[]⟩) := Lib.hid (by
        obtain rfl : i = kids.length := by omega
        have := hQ.out
        rwa [List.drop_length, kdsP] at this)
      go_wp2_with fail
      go_ret
      exact ⟨by rw [HEV.out, HE.out]; rfl, x2.trans hx⟩
    obtain rfl := pk (by omega)
    obtain ⟨z, hz⟩ : ∃ z, kids[i]? = some z := ⟨_, List.getElem?_eq_getElem hlt⟩
    obtain ⟨es, les, ces, res⟩ := HAK.out i z hz
    obtain ⟨z1, y1, z2, y2, rfl, rz1, rz2⟩ := MExpr.op_en res
    have HRZ := Lib.hid res
    have HRK := Lib.hid rz2
    have q0 := hx.cell (show wc.cell? ⟨bk, ok' + i * 5, none⟩ = some _ from ces 0 (by omega))
    have q1 := hx.cell (show wc.cell? ⟨bk, ok' + i * 5 + 1, none⟩ = some _ from ces 1 (by omega))
    have q2 := hx.cell (show wc.cell? ⟨bk, ok' + i * 5 + 2, none⟩ = some _ from ces 2 (by omega))
    have q3 := hx.cell (show wc.cell? ⟨bk, ok' + i * 5 + 3, none⟩ = some _ from ces 3 (by omega))
    have q4 := hx.cell (show wc.cell? ⟨bk, ok' + i * 5 + 4, none⟩ = some _ from ces 4 (by omega))
    have HZ := Lib.hid hz
    have hil : (i : Int) < kids.length := by omega
    have HQ2 : Hid (EV = orT (kdP own g ⟨kd, t, nu, nms, kids⟩ i z) (kdsP own g ⟨kd, t, nu, nms, kids⟩ (i + 1) (kids.drop (i + 1)))) := Lib.hid (by rw [hQ.out, drop_cons hz, kdsP])
    have hbz := HKNB.out z (List.mem_of_getElem? hz)
    clear les ces res rz1 rz2 hz
    go_upto_region 15 with fail
    generalize hW : World.alloc wr _ = W4
    have x4 : Ext wr W4 := by rw [← hW]; exact (Ext.refl _).alloc _
    have n0 : W4.cell? ⟨wr.heap.size, 0, none⟩ = some (.int .i64 z.kind) := by rw [← hW]; simp
    have n1 : W4.cell? ⟨wr.heap.size, 1, none⟩ = some (.string z.text) := by rw [← hW]; simp
    have n2 : W4.cell? ⟨wr.heap.size, 2, none⟩ = some (.int .i64 z.number) := by rw [← hW]; simp
    have n3 : W4.cell? ⟨wr.heap.size, 3, none⟩ = some (.slice z1 z.names.length y1) := by rw [← hW]; simp
    have n4 : W4.cell? ⟨wr.heap.size, 4, none⟩ = some (.slice z2 z.kids.length y2) := by rw [← hW]; simp
    clear hW q0 q1 q2 q3 q4
    replace s0 := x4.cell s0
    replace s1 := x4.cell s1
    replace s2 := x4.cell s2
    replace s3 := x4.cell s3
    replace s4 := x4.cell s4
    replace m0 := x4.cell m0
    replace m4 := x4.cell m4
    have z4 := lt_of_cell n0
    have zr4 := lt_of_cell s0
    have zm4 := lt_of_cell m0
    have X4 := hx.trans x4
    clear zr zm
    by_cases hi0 : i = 0
    rotate_left
    · have ti := int_ne (a := (i : Int)) (b := 0) (by omega)
      by_cases h7 : kd = 7
      · subst h7
        as_aux_lemma =>
          have HM := Lib.hid ((HMSG.out rfl z (by
            have := HZ.out
            cases kids with
            | nil => simp at this
            | cons k0 ks =>
              obtain ⟨j, rfl⟩ : ∃ j, i = j + 1 := ⟨i - 1, by omega⟩
              exact List.mem_of_getElem? (by simpa using this))).2)
          have HKP : Hid (kdP own g ⟨7, t, nu, nms, kids⟩ i z = firstT (z.kids.map g)) := Lib.hid (by unfold kdP; rw [if_neg (fun h => by omega), if_pos ⟨rfl, by omega⟩])
          obtain ⟨am, cm, bm, om, h1, hlm, hmm, pm, ham⟩ := Rep.slmap HRK.out
          simp only [List.cons.injEq, and_true, Value.slice.injEq] at h1
          obtain ⟨rfl, -, rfl⟩ := h1
          unfold maxLen at hmm
          have HAM := Lib.hid ham
          clear ham
          have hi0 : (0 : Int) < i := by omega
          go_wp2_with fail
          go_loopw [8] (fun jv w5 => ∃ j : Nat, j ≤ z.kids.length ∧ jv = .int .i64 j ∧ Ext W4 w5 ∧ Hid (EV = orT (firstT ((z.kids.drop j).map g)) (kdsP own g ⟨7, t, nu, nms, kids⟩ (i + 1) (kids.drop (i + 1))))) (fun jv _ => z.kids.length - (intOf jv).toNat)
          case atStart => exact ⟨0, Nat.zero_le _, rfl, Ext.refl _, Lib.hid (by rw [HQ2.out, HKP.out]; rfl)⟩
          case round =>
            obtain ⟨j, hj, rfl, hx5, hR⟩ := hrel
            replace s0 := hx5.cell s0
            replace s1 := hx5.cell s1
            replace s2 := hx5.cell s2
            replace s3 := hx5.cell s3
            replace s4 := hx5.cell s4
            replace n4 := hx5.cell n4
            have z5 := lt_of_cell n4
            have zs5 := lt_of_cell s0
            by_cases hjl : j < z.kids.length
            rotate_left
            · have HN : Hid (EV = kdsP own g ⟨7, t, nu, nms, kids⟩ (i + 1) (kids.drop (i + 1))) := Lib.hid (by
                obtain rfl : j = z.kids.length := by omega
                rw [hR.out, List.drop_length, List.map_nil, firstT, orT_l])
              go_wp2_with fail
              go_roundw
              case rel => exact ⟨i + 1, by omega, by go_num, X4.trans hx5, HN⟩
              case measure => simp [intOf]; omega
            obtain rfl := pm (by omega)
            obtain ⟨y, hy⟩ : ∃ y, z.kids[j]? = some y := ⟨_, List.getElem?_eq_getElem hjl⟩
            obtain ⟨es, les, ces, res⟩ := HAM.out j y hy
            obtain ⟨u1, v1, u2, v2, rfl, -, -⟩ := MExpr.op_en res
            have X5 := X4.trans hx5
            have p0 := X5.cell (show wc.cell? ⟨bm, om + j * 5, none⟩ = some _ from ces 0 (by omega))
            have p1 := X5.cell (show wc.cell? ⟨bm, om + j * 5 + 1, none⟩ = some _ from ces 1 (by omega))
            have p2 := X5.cell (show wc.cell? ⟨bm, om + j * 5 + 2, none⟩ = some _ from ces 2 (by omega))
            have p3 := X5.cell (show wc.cell? ⟨bm, om + j * 5 + 3, none⟩ = some _ from ces 3 (by omega))
            have p4 := X5.cell (show wc.cell? ⟨bm, om + j * 5 + 4, none⟩ = some _ from ces 4 (by omega))
            have hyo := HM.out y (List.mem_of_getElem? hy)
            have hyb : nms.length + y.d.bulk ≤ bx := by
              have := MExpr.bulk_kid (List.mem_of_getElem? hy)
              omega
            have HR2 : Hid (EV = orT (g y) (orT (firstT ((z.kids.drop (j + 1)).map g)) (kdsP own g ⟨7, t, nu, nms, kids⟩ (i + 1) (kids.drop (i + 1))))) := Lib.hid (by rw [hR.out, drop_cons hy, List.map_cons, firstT, orT_assoc])
            obtain ⟨P, hP⟩ : ∃ P, g y = P := ⟨_, rfl⟩
            have CE : Hid (∀ W, Ext wr W → Calls Tryz.prog 33 #[.agg #[.pointer (some ⟨B, 0, none⟩), .slice av' Vs'.length cv', .slice af' Fs'.length cf', vV, .bool own], .agg #[.int .i64 y.kind, .string y.text, .int .i64 y.number, .slice u1 y.names.length v1, .slice u2 y.kids.length v2]] W fun e w' => e = .returned (.string P) ∧ Ext W w') := Lib.hid fun W hW => by
              rw [← hP]; exact IHX.out y _ false W hyo hyb (X5.trans hW) (Rep.ext (X5.trans hW) res)
            rw [hP] at HR2
            have hji : (j : Int) < z.kids.length := by omega
            have hj0 : (0 : Int) ≤ j := by omega
            clear les ces res hyo hP hy
            go_wp2_with fail
            have gs0 := reg (Ext.refl _) s0
            have gs1 := reg (Ext.refl _) s1
            have gs2 := reg (Ext.refl _) s2
            have gs3 := reg (Ext.refl _) s3
            have gs4 := reg (Ext.refl _) s4
            have gn4 := reg (Ext.refl _) n4
            have gp0 := reg (Ext.refl _) p0
            have gp1 := reg (Ext.refl _) p1
            have gp2 := reg (Ext.refl _) p2
            have gp3 := reg (Ext.refl _) p3
            have gp4 := reg (Ext.refl _) p4
            refine wp_region_quiet_below (by kernel_rfl) (by kernel_rfl) ?_
            repeat (go_big_quiet_step ((go_at_call 33; exact Calls.regrown_of (CE.out _ (regx _ _)))))
            refine wpQuiet_nil ?_
            clear gs0 gs1 gs2 gs3 gs4 gn4 gp0 gp1 gp2 gp3 gp4
            intro _ hw'
            obtain ⟨pw, hw''⟩ := hw'
            subst hw''
            have xr := regx wr pw
            generalize hWR : «Sort».grow (redrawn wr pw.d) pw.os = w6 at *
            clear hWR p0 p1 p2 p3 p4
            by_cases hp0 : P.size = 0
            · have hp1 := size_nil hp0
              subst hp1
              have HN : Hid (EV = orT (firstT ((z.kids.drop (j + 1)).map g)) (kdsP own g ⟨7, t, nu, nms, kids⟩ (i + 1) (kids.drop (i + 1)))) := Lib.hid (by rw [HR2.out, orT_l])
              clear hp0
              go_wp2_with fail
              go_roundw
              case rel => exact ⟨j + 1, by omega, by go_num, hx5.trans xr, HN⟩
              case measure => simp [intOf]; omega
            · have HE : Hid (EV = P) := Lib.hid (by rw [HR2.out]; exact orT_ne hp0 _)
              have t1 : (P.toList == []) = false := str_ne' (l := []) (fun e => hp0 (by rw [e]; rfl))
              have t2 : (!P.toList == []) = true := by rw [t1]; rfl
              clear hp0
              go_wp2_with fail
              go_ret
              exact ⟨by rw [HEV.out, HE.out]; rfl, x2.trans ((X4.trans hx5).trans xr)⟩
      · have t7 := int_ne h7
        as_aux_lemma =>
          obtain ⟨stz, hokz⟩ := HKD.out i z HZ.out (fun h => absurd h h7)
          have HOKZ := Lib.hid hokz
          have HKP : Hid (kdP own g ⟨kd, t, nu, nms, kids⟩ i z = g z) := Lib.hid (by unfold kdP; rw [if_neg (fun h => hi0 h.1), if_neg (fun h => h7 h.1)])
          clear hokz
          go_wp2_with fail
          refine (IHX.out z _ stz W4 HOKZ.out hbz X4 (Rep.ext X4 HRZ.out)).mono ?_
          rintro e w9 ⟨rfl, hx9⟩
          obtain ⟨P, hP⟩ : ∃ P, g z = P := ⟨_, rfl⟩
          have HPZ := Lib.hid hP
          rw [hP]
          clear hP
          replace s0 := hx9.cell s0
          replace s1 := hx9.cell s1
          replace s2 := hx9.cell s2
          replace s3 := hx9.cell s3
          replace s4 := hx9.cell s4
          by_cases hp0 : P.size = 0
          · have hp1 := size_nil hp0
            subst hp1
            have HN : Hid (EV = kdsP own g ⟨kd, t, nu, nms, kids⟩ (i + 1) (kids.drop (i + 1))) := Lib.hid (by rw [HQ2.out, HKP.out, HPZ.out, orT_l])
            clear hp0
            go_wp2_with fail
            go_roundw
            case rel => exact ⟨i + 1, by omega, by go_num, X4.trans hx9, HN⟩
            case measure => simp [intOf]; omega
          · have HE : Hid (EV = P) := Lib.hid (by rw [HQ2.out, HKP.out, HPZ.out]; exact orT_ne hp0 _)
            have t1 : (P.toList == []) = false := str_ne' (l := []) (fun e => hp0 (by rw [e]; rfl))
            have t2 : (!P.toList == []) = true := by rw [t1]; rfl
            clear hp0
            go_wp2_with fail
            go_ret
            exact ⟨by rw [HEV.out, HE.out]; rfl, x2.trans (X4.trans hx9)⟩
    subst hi0
    by_cases h6 : kd = 6
    rotate_left
    · have t6 := int_ne h6
      by_cases h7 : kd = 7
      · subst h7
        as_aux_lemma =>
          obtain ⟨stz, hokz⟩ := HKD.out 0 z HZ.out (fun _ => rfl)
          have HOKZ := Lib.hid hokz
          have HKP : Hid (kdP own g ⟨7, t, nu, nms, kids⟩ 0 z = g z) := Lib.hid (by unfold kdP; rw [if_neg (fun h => h6 h.2.1), if_neg (fun h => by omega)])
          clear hokz
          go_wp2_with fail
          refine (IHX.out z _ stz W4 HOKZ.out hbz X4 (Rep.ext X4 HRZ.out)).mono ?_
          rintro e w9 ⟨rfl, hx9⟩
          obtain ⟨P, hP⟩ : ∃ P, g z = P := ⟨_, rfl⟩
          have HPZ := Lib.hid hP
          rw [hP]
          clear hP
          replace s0 := hx9.cell s0
          replace s1 := hx9.cell s1
          replace s2 := hx9.cell s2
          replace s3 := hx9.cell s3
          replace s4 := hx9.cell s4
          by_cases hp0 : P.size = 0
          · have hp1 := size_nil hp0
            subst hp1
            have HN : Hid (EV = kdsP own g ⟨7, t, nu, nms, kids⟩ (0 + 1) (kids.drop (0 + 1))) := Lib.hid (by rw [HQ2.out, HKP.out, HPZ.out, orT_l])
            clear hp0
            go_wp2_with fail
            go_roundw
            case rel => exact ⟨0 + 1, by omega, by go_num, X4.trans hx9, HN⟩
            case measure => simp [intOf]; omega
          · have HE : Hid (EV = P) := Lib.hid (by rw [HQ2.out, HKP.out, HPZ.out]; exact orT_ne hp0 _)
            have t1 : (P.toList == []) = false := str_ne' (l := []) (fun e => hp0 (by rw [e]; rfl))
            have t2 : (!P.toList == []) = true := by rw [t1]; rfl
            clear hp0
            go_wp2_with fail
            go_ret
            exact ⟨by rw [HEV.out, HE.out]; rfl, x2.trans (X4.trans hx9)⟩
      · have t7 := int_ne h7
        as_aux_lemma =>
          obtain ⟨stz, hokz⟩ := HKD.out 0 z HZ.out (fun h => absurd h h7)
          have HOKZ := Lib.hid hokz
          have HKP : Hid (kdP own g ⟨kd, t, nu, nms, kids⟩ 0 z = g z) := Lib.hid (by unfold kdP; rw [if_neg (fun h => h6 h.2.1), if_neg (fun h => h7 h.1)])
          clear hokz
          go_wp2_with fail
          refine (IHX.out z _ stz W4 HOKZ.out hbz X4 (Rep.ext X4 HRZ.out)).mono ?_
          rintro e w9 ⟨rfl, hx9⟩
          obtain ⟨P, hP⟩ : ∃ P, g z = P := ⟨_, rfl⟩
          have HPZ := Lib.hid hP
          rw [hP]
          clear hP
          replace s0 := hx9.cell s0
          replace s1 := hx9.cell s1
          replace s2 := hx9.cell s2
          replace s3 := hx9.cell s3
          replace s4 := hx9.cell s4
          by_cases hp0 : P.size = 0
          · have hp1 := size_nil hp0
            subst hp1
            have HN : Hid (EV = kdsP own g ⟨kd, t, nu, nms, kids⟩ (0 + 1) (kids.drop (0 + 1))) := Lib.hid (by rw [HQ2.out, HKP.out, HPZ.out, orT_l])
            clear hp0
            go_wp2_with fail
            go_roundw
            case rel => exact ⟨0 + 1, by omega, by go_num, X4.trans hx9, HN⟩
            case measure => simp [intOf]; omega
          · have HE : Hid (EV = P) := Lib.hid (by rw [HQ2.out, HKP.out, HPZ.out]; exact orT_ne hp0 _)
            have t1 : (P.toList == []) = false := str_ne' (l := []) (fun e => hp0 (by rw [e]; rfl))
            have t2 : (!P.toList == []) = true := by rw [t1]; rfl
            clear hp0
            go_wp2_with fail
            go_ret
            exact ⟨by rw [HEV.out, HE.out]; rfl, x2.trans (X4.trans hx9)⟩
    subst h6
    by_cases h4 : z.kind = 4
    rotate_left
    · have t4 := int_ne h4
      have hsp : supB z = false := supB_ff (fun h => h4 h.1)
      clear h4
      as_aux_lemma =>
        obtain ⟨stz, hokz⟩ := HKD.out 0 z HZ.out (fun h => absurd h (by simp))
        have HOKZ := Lib.hid hokz
        have HKP : Hid (kdP own g ⟨6, t, nu, nms, kids⟩ 0 z = g z) := Lib.hid (by unfold kdP; rw [if_neg (fun h => by rw [hsp] at h; exact Bool.false_ne_true h.2.2), if_neg (fun h => absurd h.1 (by simp))])
        clear hokz
        go_wp2_with fail
        refine (IHX.out z _ stz W4 HOKZ.out hbz X4 (Rep.ext X4 HRZ.out)).mono ?_
        rintro e w9 ⟨rfl, hx9⟩
        obtain ⟨P, hP⟩ : ∃ P, g z = P := ⟨_, rfl⟩
        have HPZ := Lib.hid hP
        rw [hP]
        clear hP
        replace s0 := hx9.cell s0
        replace s1 := hx9.cell s1
        replace s2 := hx9.cell s2
        replace s3 := hx9.cell s3
        replace s4 := hx9.cell s4
        by_cases hp0 : P.size = 0
        · have hp1 := size_nil hp0
          subst hp1
          have HN : Hid (EV = kdsP own g ⟨6, t, nu, nms, kids⟩ (0 + 1) (kids.drop (0 + 1))) := Lib.hid (by rw [HQ2.out, HKP.out, HPZ.out, orT_l])
          clear hp0
          go_wp2_with fail
          go_roundw
          case rel => exact ⟨0 + 1, by omega, by go_num, X4.trans hx9, HN⟩
          case measure => simp [intOf]; omega
        · have HE : Hid (EV = P) := Lib.hid (by rw [HQ2.out, HKP.out, HPZ.out]; exact orT_ne hp0 _)
          have t1 : (P.toList == []) = false := str_ne' (l := []) (fun e => hp0 (by rw [e]; rfl))
          have t2 : (!P.toList == []) = true := by rw [t1]; rfl
          clear hp0
          go_wp2_with fail
          go_ret
          exact ⟨by rw [HEV.out, HE.out]; rfl, x2.trans (X4.trans hx9)⟩
    have t4 := int_eq h4
    by_cases hs : z.text = superN
    rotate_left
    · have ts := str_ne' (l := [115, 117, 112, 101, 114]) hs
      have hsp : supB z = false := supB_ff (fun h => hs h.2)
      clear h4 hs
      as_aux_lemma =>
        obtain ⟨stz, hokz⟩ := HKD.out 0 z HZ.out (fun h => absurd h (by simp))
        have HOKZ := Lib.hid hokz
        have HKP : Hid (kdP own g ⟨6, t, nu, nms, kids⟩ 0 z = g z) := Lib.hid (by unfold kdP; rw [if_neg (fun h => by rw [hsp] at h; exact Bool.false_ne_true h.2.2), if_neg (fun h => absurd h.1 (by simp))])
        clear hokz
        go_wp2_with fail
        refine (IHX.out z _ stz W4 HOKZ.out hbz X4 (Rep.ext X4 HRZ.out)).mono ?_
        rintro e w9 ⟨rfl, hx9⟩
        obtain ⟨P, hP⟩ : ∃ P, g z = P := ⟨_, rfl⟩
        have HPZ := Lib.hid hP
        rw [hP]
        clear hP
        replace s0 := hx9.cell s0
        replace s1 := hx9.cell s1
        replace s2 := hx9.cell s2
        replace s3 := hx9.cell s3
        replace s4 := hx9.cell s4
        by_cases hp0 : P.size = 0
        · have hp1 := size_nil hp0
          subst hp1
          have HN : Hid (EV = kdsP own g ⟨6, t, nu, nms, kids⟩ (0 + 1) (kids.drop (0 + 1))) := Lib.hid (by rw [HQ2.out, HKP.out, HPZ.out, orT_l])
          clear hp0
          go_wp2_with fail
          go_roundw
          case rel => exact ⟨0 + 1, by omega, by go_num, X4.trans hx9, HN⟩
          case measure => simp [intOf]; omega
        · have HE : Hid (EV = P) := Lib.hid (by rw [HQ2.out, HKP.out, HPZ.out]; exact orT_ne hp0 _)
          have t1 : (P.toList == []) = false := str_ne' (l := []) (fun e => hp0 (by rw [e]; rfl))
          have t2 : (!P.toList == []) = true := by rw [t1]; rfl
          clear hp0
          go_wp2_with fail
          go_ret
          exact ⟨by rw [HEV.out, HE.out]; rfl, x2.trans (X4.trans hx9)⟩
    have ts := str_eq' (l := [115, 117, 112, 101, 114]) hs
    have HSUP := Lib.hid (supB_tt h4 hs)
    clear h4 hs
    cases own
    · have HKP : Hid (kdP false g ⟨6, t, nu, nms, kids⟩ 0 z = tSuper) := Lib.hid (by unfold kdP; rw [if_pos ⟨rfl, rfl, HSUP.out⟩]; rfl)
      have HE : Hid (EV = tSuper) := Lib.hid (by rw [HQ2.out, HKP.out]; exact orT_ne (by decide) _)
      go_wp2_with fail
      go_ret
      exact ⟨by rw [HEV.out, HE.out]; rfl, x2.trans X4⟩
    · have HKP : Hid (kdP true g ⟨6, t, nu, nms, kids⟩ 0 z = ⟨#[]⟩) := Lib.hid (by unfold kdP; rw [if_pos ⟨rfl, rfl, HSUP.out⟩]; rfl)
      have HN : Hid (EV = kdsP true g ⟨6, t, nu, nms, kids⟩ (0 + 1) (kids.drop (0 + 1))) := Lib.hid (by rw [HQ2.out, HKP.out, orT_l])
      go_wp2_with fail
      go_roundw
      case rel => exact ⟨0 + 1, by omega, by go_num, X4, HN⟩
      case measure => simp [intOf]; omega

theorem sx_at (l : List MClassDef) (hl : l.length ≤ 8) (V : List ByteArray) (own : Bool) : ∀ n, SxAt l V own n
  | 0 => fun st x cx D Vs Fs B a c av af cv cf vV w h => absurd h (by simp [okR])
  | n + 1 => sx_step l hl V own n (Lib.hid (sx_at l hl V own n))

end Go.Proofs.YtlppoffneeglgaaGreatDoor
