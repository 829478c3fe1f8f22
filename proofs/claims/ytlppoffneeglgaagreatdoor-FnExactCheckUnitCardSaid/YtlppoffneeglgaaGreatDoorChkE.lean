/-
  CONTRACTS: the checker's expr, of the program.
  Conditions: those that each lemma states.
-/
import Derived.Test.YtlppoffneeglgaaGreatDoorRows
import Derived.Test.YtlppoffneeglgaaGreatDoorChkI
import Derived.BigQuiet
import Derived.Deep.RegionHeld3
import Derived.Deep.DeepCutAuto
import Derived.Deep.CutBlock
namespace Go.Proofs.YtlppoffneeglgaaGreatDoor
open Go.RowKit
set_option linter.unusedSimpArgs false
set_option linter.unusedVariables false

/-- What expr does, at n. -/
def ExAt (C V : List ByteArray) (own : Bool) (n : Nat) : Prop := ∀ (st : Bool) (x : MExpr) (cx : List Value) (fp : List Nat) (B B0 : Nat) (cC mp cV : Value) (p : ByteArray) (D : Scope) (vd vp : Value) (w : World),
  okR n st x → RepF w x.d cx fp → Off fp B vd vp → Chk w B B0 cC mp cV own p D vd vp → RepL w B B0 (strs C) cC → RepL w B B0 (strs V) cV → D.length + x.d.bulk ≤ 4194304 →
  Calls Tryz.prog 19 #[.pointer (some ⟨B, 0, none⟩), .agg cx.toArray] w fun e w' => e = .returned (.tuple #[]) ∧ ∃ vd' vp', Chk w' B B0 cC mp cV own (orT p (exV C V own D x)) (D) vd' vp' ∧ Touch w w' (obs B vd vp) ∧ Newer w vd vd' ∧ Newer w vp vp'

theorem ex_call {C V : List ByteArray} {own : Bool} {n : Nat} (IH : ExAt C V own n) {B B0 : Nat} {cC mp cV : Value} {p : ByteArray} {D : Scope} {vd vp : Value} {z : MExpr} {es : List Value} {gp : List Nat} {W1 W : World} {vd2 vp2 : Value} {st : Bool} (hok : okR n st z) (rz : RepF W1 z.d es gp) (hoff : Off gp B vd vp) (T : Touch W1 W (obs B vd vp)) (nd : Newer W1 vd vd2) (np : Newer W1 vp vp2)
    (hlow : ∀ k, k ∈ obs B vd vp → k = B ∨ B0 ≤ k) (K2 : Chk W B B0 cC mp cV own p D vd2 vp2) (rC : RepL W1 B B0 (strs C) cC) (rV : RepL W1 B B0 (strs V) cV) (hD : D.length + z.d.bulk ≤ 4194304) :
    Calls Tryz.prog 19 #[.pointer (some ⟨B, 0, none⟩), .agg es.toArray] W fun e w' => e = .returned (.tuple #[]) ∧ ∃ vd' vp', Chk w' B B0 cC mp cV own (orT p (exV C V own D z)) (D) vd' vp' ∧ Touch W1 w' (obs B vd vp) ∧ Newer W1 vd vd' ∧ Newer W1 vp vp' := by
  refine (IH st z es gp B B0 cC mp cV p D vd2 vp2 W hok (rz.touch T hoff) (hoff.newer nd np (rz.lt _)) K2 (rC.touch T hlow) (rV.touch T hlow) hD).mono ?_
  rintro e w' ⟨h1, vd', vp', k1, T2, n1, n2⟩
  exact ⟨h1, vd', vp', k1, T.trans' T2 (obs_newer nd np), nd.trans n1 T.size, np.trans n2 T.size⟩
theorem dec_call {C V : List ByteArray} {own : Bool} {B B0 : Nat} {cC mp cV : Value} {p : ByteArray} {D : Scope} {vd vp : Value} (n : ByteArray) (b : Bool) {W1 W : World} {vd2 vp2 : Value} (T : Touch W1 W (obs B vd vp)) (nd : Newer W1 vd vd2) (np : Newer W1 vp vp2)
    (hlow : ∀ k, k ∈ obs B vd vp → k = B ∨ B0 ≤ k) (K2 : Chk W B B0 cC mp cV own p D vd2 vp2) (rC : RepL W1 B B0 (strs C) cC) (rV : RepL W1 B B0 (strs V) cV) (hn : n.size ≤ 1048576) (hD : D.length ≤ 4194304) :
    Calls Tryz.prog 44 #[.pointer (some ⟨B, 0, none⟩), .string n, .bool b] W fun e w' => e = .returned (.tuple #[]) ∧ ∃ vd' vp', Chk w' B B0 cC mp cV own (orT p (useP C V D n)) (D ++ [(n, b)]) vd' vp' ∧ Touch W1 w' (obs B vd vp) ∧ Newer W1 vd vd' ∧ Newer W1 vp vp' := by
  refine (declare_any C V n b W K2 (rC.touch T hlow) (rV.touch T hlow) hn hD).mono ?_
  rintro e w' ⟨h1, vd', vp', k1, T2, n1, n2⟩
  exact ⟨h1, vd', vp', k1, T.trans' T2 (obs_newer nd np), nd.trans n1 T.size, np.trans n2 T.size⟩
theorem rep_call {own : Bool} {B B0 : Nat} {cC mp cV : Value} {p : ByteArray} {D : Scope} {vd vp : Value} (t : ByteArray) {W1 W : World} {vd2 vp2 : Value} (T : Touch W1 W (obs B vd vp)) (nd : Newer W1 vd vd2) (np : Newer W1 vp vp2) (K2 : Chk W B B0 cC mp cV own p D vd2 vp2) :
    Calls Tryz.prog 42 #[.pointer (some ⟨B, 0, none⟩), .string t] W fun e w' => e = .returned (.tuple #[]) ∧ ∃ vd' vp', Chk w' B B0 cC mp cV own (orT p t) (D) vd' vp' ∧ Touch W1 w' (obs B vd vp) ∧ Newer W1 vd vd' ∧ Newer W1 vp vp' := by
  refine (report_any t W K2).mono ?_
  rintro e w' ⟨h1, k1, T2⟩
  exact ⟨h1, vd2, vp2, k1, T.trans (T2.mono fun b hb => mem_obs.2 (Or.inl (by simpa using hb))), nd, np⟩

abbrev strD : ByteArray → D := D.str
theorem name_len' {s : ByteArray} (h : nameB s = true) : 1 ≤ s.size ∧ s.size ≤ 20 := by
  unfold nameB at h
  have h : partB s = true := by simp at h; exact h.1
  unfold partB at h
  have := of_decide_eq_true h
  exact ⟨this.1, this.2.1⟩
theorem bulkE_mem {x z : MExpr} (h : z ∈ x.kids) : z.d.bulk ≤ D.bulkL (x.kids.map MExpr.d) := D.bulkL_mem (List.mem_map_of_mem h)

set_option maxHeartbeats 16000000 in
set_option maxRecDepth 100000 in
theorem ex_step (C V : List ByteArray) (own : Bool) (n : Nat) (IH : Hid (ExAt C V own n)) : ExAt C V own (n + 1) := by
  intro st x cx fp B B0 cC mp cV p D vd vp w hok rx hoff h rC rV hD
  obtain ⟨a1, c1, a2, c2, f1, f2, rfl, r1, r2, s1, s2⟩ := MExpr.op_enF rx
  have hbe := MExpr.bulk_eq x
  have HKD : Hid (∀ (i : Nat) (z : MExpr), x.kids[i]? = some z → (x.kind = 7 → i = 0) → (∃ st, okR n st z) ∧ z.d.bulk ≤ x.d.bulk) := Lib.hid fun i z hz h7 => by
    obtain ⟨hi, rfl⟩ := List.getElem?_eq_some_iff.1 hz
    refine ⟨⟨_, ((okR_succ.1 hok).2.2 i ?_ hi).1⟩, MExpr.bulk_kid (List.getElem_mem hi)⟩
    unfold lastN
    split
    · rename_i h; have := h7 h; omega
    · exact hi
  have HHEAD : Hid (headOk x) := Lib.hid hok.1.1
  have HMSG : Hid (x.kind = 7 → msgsOk n x.kids.tail) := Lib.hid (okR_succ.1 hok).1.2
  have HSUCC : Hid (exV C V own D x = orT (headP C V D x) (kdsP own (exV C V own (nextD D x)) x 0 x.kids)) := Lib.hid (exV_eq C V own D x)
  have hnb : x.names.length ≤ x.d.bulk := MExpr.bulk_names x
  have HNZ : Hid (∀ s, s ∈ x.names → s.size ≤ x.d.bulk) := Lib.hid fun s hs => MExpr.bulk_name hs
  have hkb := MExpr.bulk_kids x
  have htb := MExpr.bulk_text x
  obtain ⟨bx, hbx⟩ : ∃ bx, x.d.bulk = bx := ⟨_, rfl⟩
  have HKNB : Hid (∀ z, z ∈ x.kids → x.names.length + z.d.bulk ≤ bx) := Lib.hid fun z hz => by
    have h1 := bulkE_mem hz
    omega
  rw [hbx] at hnb hkb htb hD HKD HNZ
  obtain ⟨ad, cd, gd, hvd, -, -⟩ := AccT.rep h.ds
  rw [List.length_map] at hvd
  subst hvd
  have HC := Lib.hid h
  obtain ⟨kd, t, nu, nms, kids⟩ := x
  simp only at *
  clear hbe hbx rx
  go_enter Tryz.func19, Tryz.ntmps19
  go_upto_region 1 with fail
  generalize hS : World.alloc w _ = W1
  have x1 : Ext w W1 := by rw [← hS]; exact (Ext.refl _).alloc _
  have zb : w.heap.size < W1.heap.size := by rw [← hS]; simp
  have m0 : W1.cell? ⟨w.heap.size, 0, none⟩ = some (.int .i64 kd) := by rw [← hS]; simp
  have m1 : W1.cell? ⟨w.heap.size, 1, none⟩ = some (.string t) := by rw [← hS]; simp
  have m2 : W1.cell? ⟨w.heap.size, 2, none⟩ = some (.int .i64 nu) := by rw [← hS]; simp
  have m3 : W1.cell? ⟨w.heap.size, 3, none⟩ = some (.slice a1 nms.length c1) := by rw [← hS]; simp
  have m4 : W1.cell? ⟨w.heap.size, 4, none⟩ = some (.slice a2 kids.length c2) := by rw [← hS]; simp
  clear hS
  have K1 := h.ext x1
  have HK1 := Lib.hid K1
  have HLOW : Hid (∀ k, k ∈ obs B (.slice ad D.length cd) vp → k = B ∨ B0 ≤ k) := Lib.hid (obs_low h)
  have HBX : Hid (w.heap.size ∉ obs B (.slice ad D.length cd) vp) := Lib.hid fun hm => by
    rw [mem_obs] at hm
    rcases hm with hm | hm | hm
    · have := h.own.lt; omega
    · have := (Acc.ge h.ds hm).2; omega
    · have := (Acc.ge h.ps hm).2; omega
  have RC := Lib.hid (rC.ext x1)
  have RV := Lib.hid (rV.ext x1)
  have R1 := Lib.hid (r1.ext x1)
  have R2 := Lib.hid (r2.ext x1)
  have HOFF := Lib.hid hoff
  have T1 : Touch W1 W1 (obs B (.slice ad D.length cd) vp) := Touch.of_ext (Ext.refl _) _
  obtain ⟨e0, -, -, e3, e4, e5, e6⟩ := K1.cells
  have zB := lt_of_cell e0
  clear h rC rV r1 r2 hoff hok K1
  go_upto_block 0 with fail
  go_cut [4] (fun kv wx => ∃ (K' : List MExpr) (p' : ByteArray) (D' : Scope) (vd' vp' : Value) (ak : Option Addr) (ck : Nat) (fk : List Nat), kv = .slice ak K'.length ck ∧ RepF W1 (MExprs K') [kv] fk ∧ (∀ k, k ∈ fk → k ∈ fp) ∧ Chk wx B B0 cC mp cV own p' D' vd' vp' ∧ Touch W1 wx (obs B (.slice ad D.length cd) vp) ∧ Newer W1 (.slice ad D.length cd) vd' ∧ Newer W1 vp vp' ∧ (∃ E, D' = D ++ E) ∧ (∀ z, z ∈ K' → (∃ st, okR n st z) ∧ D'.length + z.d.bulk ≤ 4194304) ∧ Hid (orT p' (firstT (K'.map (exV C V own D'))) = orT p (exV C V own D ⟨kd, t, nu, nms, kids⟩)))
  case first =>
    by_cases hc1 : kd = 1
    · subst hc1
      as_aux_lemma =>
        have EQ : Hid (orT p (firstT (kids.map (exV C V own D))) = orT p (exV C V own D ⟨1, t, nu, nms, kids⟩)) := Lib.hid (by
          rw [HSUCC.out, kdsP_plain (by simp) (by simp)]
          simp [headP, nextD, orT_l])
        go_wp2_with fail
        go_meet
        exact ⟨kids, p, D, _, vp, a2, c2, f2, rfl, R2.out, s2, HK1.out, T1, Newer.refl _ _, Newer.refl _ _, ⟨[], (List.append_nil D).symm⟩, fun z hz => by
          obtain ⟨i, hi, rfl⟩ := List.mem_iff_getElem.1 hz
          have := HKD.out i _ (List.getElem?_eq_getElem hi) (fun h => absurd h (by simp))
          exact ⟨this.1, by have := this.2; omega⟩, EQ⟩
    have tc1 := int_ne hc1
    by_cases hc2 : kd = 2
    · subst hc2
      clear hc1
      as_aux_lemma =>
        have EQ : Hid (orT p (firstT (kids.map (exV C V own D))) = orT p (exV C V own D ⟨2, t, nu, nms, kids⟩)) := Lib.hid (by
          rw [HSUCC.out, kdsP_plain (by simp) (by simp)]
          simp [headP, nextD, orT_l])
        go_wp2_with fail
        go_meet
        exact ⟨kids, p, D, _, vp, a2, c2, f2, rfl, R2.out, s2, HK1.out, T1, Newer.refl _ _, Newer.refl _ _, ⟨[], (List.append_nil D).symm⟩, fun z hz => by
          obtain ⟨i, hi, rfl⟩ := List.mem_iff_getElem.1 hz
          have := HKD.out i _ (List.getElem?_eq_getElem hi) (fun h => absurd h (by simp))
          exact ⟨this.1, by have := this.2; omega⟩, EQ⟩
    have tc2 := int_ne hc2
    by_cases hc3 : kd = 3
    · subst hc3
      clear hc1 hc2
      as_aux_lemma =>
        have EQ : Hid (orT p (firstT (kids.map (exV C V own D))) = orT p (exV C V own D ⟨3, t, nu, nms, kids⟩)) := Lib.hid (by
          rw [HSUCC.out, kdsP_plain (by simp) (by simp)]
          simp [headP, nextD, orT_l])
        go_wp2_with fail
        go_meet
        exact ⟨kids, p, D, _, vp, a2, c2, f2, rfl, R2.out, s2, HK1.out, T1, Newer.refl _ _, Newer.refl _ _, ⟨[], (List.append_nil D).symm⟩, fun z hz => by
          obtain ⟨i, hi, rfl⟩ := List.mem_iff_getElem.1 hz
          have := HKD.out i _ (List.getElem?_eq_getElem hi) (fun h => absurd h (by simp))
          exact ⟨this.1, by have := this.2; omega⟩, EQ⟩
    have tc3 := int_ne hc3
    by_cases hc9 : kd = 9
    · subst hc9
      clear hc1 hc2 hc3
      as_aux_lemma =>
        have EQ : Hid (orT p (firstT (kids.map (exV C V own D))) = orT p (exV C V own D ⟨9, t, nu, nms, kids⟩)) := Lib.hid (by
          rw [HSUCC.out, kdsP_plain (by simp) (by simp)]
          simp [headP, nextD, orT_l])
        go_wp2_with fail
        go_meet
        exact ⟨kids, p, D, _, vp, a2, c2, f2, rfl, R2.out, s2, HK1.out, T1, Newer.refl _ _, Newer.refl _ _, ⟨[], (List.append_nil D).symm⟩, fun z hz => by
          obtain ⟨i, hi, rfl⟩ := List.mem_iff_getElem.1 hz
          have := HKD.out i _ (List.getElem?_eq_getElem hi) (fun h => absurd h (by simp))
          exact ⟨this.1, by have := this.2; omega⟩, EQ⟩
    have tc9 := int_ne hc9
    by_cases hc4 : kd = 4
    · subst hc4
      clear hc1 hc2 hc3 hc9
      as_aux_lemma =>
        have htz : t.size ≤ 1048576 := by
          have := (HHEAD.out.2.2.2.2.2.2.1 rfl).1
          have h2 : t.size ≤ 20 := (name_len' this).2
          omega
        have RD : Hid (Rep W1 (strs (D.map Prod.fst)) [.slice ad D.length cd]) := Lib.hid (by
          obtain ⟨ao, cap, gp, h1, h2, -⟩ := AccT.rep HK1.out.ds
          rw [h1]; exact h2.rep)
        have H4 : Hid (hasB res4 t = (hasB resB t && !eqB t superN)) := Lib.hid (hasB_res4 t)
        cases u0 : hasB (D.map Prod.fst) t
        rotate_left
        · have HV : Hid (nameP C V D t = ⟨#[]⟩) := Lib.hid (by unfold nameP; simp [u0])
          have EQ : Hid (orT p (firstT (kids.map (exV C V own D))) = orT p (exV C V own D ⟨4, t, nu, nms, kids⟩)) := Lib.hid (by
            rw [HSUCC.out, kdsP_plain (by simp) (by simp)]
            simp [headP, nextD, orT_l, HV.out])
          have CC : Hid (∀ (v : Value) (b : Bool) (W : World), Ext W1 W → ((v = .slice ad D.length cd ∧ b = true)) → Calls Tryz.prog 40 #[v, .string t] W fun e w' => e = .returned (.bool b) ∧ Ext W w') := Lib.hid fun v b W hW hs => by
            obtain ⟨hv, hb⟩ := hs
            · rw [hv, hb]; exact (contains_any (D.map Prod.fst) (.slice ad D.length cd) t W (Rep.ext (hW) RD.out)).mono fun e w' ⟨h1, h2⟩ => ⟨by rw [h1, u0], by rw [h2]; exact Ext.refl _⟩
          clear u0
          go_wp2_with fail
          have g0 := reg (Ext.refl _) e0
          have g3 := reg (Ext.refl _) e3
          have g5 := reg (Ext.refl _) e5
          have gt := reg (Ext.refl _) m1
          refine wp_region_quiet_below (by kernel_rfl) (by kernel_rfl) ?_
          repeat (go_big_quiet_step ((go_at_call 40; exact Calls.regrown_of (CC.out _ _ _ (regx _ _) (by first | exact ⟨rfl, rfl⟩ | exact Or.inl ⟨rfl, rfl⟩ | exact Or.inr ⟨rfl, rfl⟩ | exact Or.inr (Or.inl ⟨rfl, rfl⟩) | exact Or.inr (Or.inr ⟨rfl, rfl⟩))))))
          refine wpQuiet_nil ?_
          clear g0 g3 g5 gt
          intro _ hw'
          obtain ⟨pw, hw''⟩ := hw'
          subst hw''
          have xr := regx W1 pw
          generalize hWR : «Sort».grow (redrawn W1 pw.d) pw.os = W2 at *
          clear hWR
          replace m1 := xr.cell m1
          replace e0 := xr.cell e0
          have T2 : Touch W1 W2 (obs B (.slice ad D.length cd) vp) := Touch.of_ext xr _
          have K2 := HK1.out.ext xr
          go_wp2_with fail
          go_meet
          exact ⟨kids, p, D, _, _, _, _, _, rfl, R2.out, s2, K2, T2, Newer.refl _ _, Newer.refl _ _, ⟨[], (List.append_nil D).symm⟩, fun z hz => by
              obtain ⟨i, hi, rfl⟩ := List.mem_iff_getElem.1 hz
              have := HKD.out i _ (List.getElem?_eq_getElem hi) (fun h => absurd h (by simp))
              exact ⟨this.1, by have := this.2; omega⟩, EQ⟩
        cases u1 : hasB V t
        rotate_left
        · have HV : Hid (nameP C V D t = ⟨#[]⟩) := Lib.hid (by unfold nameP; simp [u0, u1])
          have EQ : Hid (orT p (firstT (kids.map (exV C V own D))) = orT p (exV C V own D ⟨4, t, nu, nms, kids⟩)) := Lib.hid (by
            rw [HSUCC.out, kdsP_plain (by simp) (by simp)]
            simp [headP, nextD, orT_l, HV.out])
          have CC : Hid (∀ (v : Value) (b : Bool) (W : World), Ext W1 W → ((v = .slice ad D.length cd ∧ b = false) ∨ (v = cV ∧ b = true)) → Calls Tryz.prog 40 #[v, .string t] W fun e w' => e = .returned (.bool b) ∧ Ext W w') := Lib.hid fun v b W hW hs => by
            rcases hs with ⟨hv, hb⟩ | ⟨hv, hb⟩
            · rw [hv, hb]; exact (contains_any (D.map Prod.fst) (.slice ad D.length cd) t W (Rep.ext (hW) RD.out)).mono fun e w' ⟨h1, h2⟩ => ⟨by rw [h1, u0], by rw [h2]; exact Ext.refl _⟩
            · rw [hv, hb]; exact (contains_any V cV t W (Rep.ext (hW) RV.out.rep)).mono fun e w' ⟨h1, h2⟩ => ⟨by rw [h1, u1], by rw [h2]; exact Ext.refl _⟩
          clear u0 u1
          go_wp2_with fail
          have g0 := reg (Ext.refl _) e0
          have g3 := reg (Ext.refl _) e3
          have g5 := reg (Ext.refl _) e5
          have gt := reg (Ext.refl _) m1
          refine wp_region_quiet_below (by kernel_rfl) (by kernel_rfl) ?_
          repeat (go_big_quiet_step ((go_at_call 40; exact Calls.regrown_of (CC.out _ _ _ (regx _ _) (by first | exact ⟨rfl, rfl⟩ | exact Or.inl ⟨rfl, rfl⟩ | exact Or.inr ⟨rfl, rfl⟩ | exact Or.inr (Or.inl ⟨rfl, rfl⟩) | exact Or.inr (Or.inr ⟨rfl, rfl⟩))))))
          refine wpQuiet_nil ?_
          clear g0 g3 g5 gt
          intro _ hw'
          obtain ⟨pw, hw''⟩ := hw'
          subst hw''
          have xr := regx W1 pw
          generalize hWR : «Sort».grow (redrawn W1 pw.d) pw.os = W2 at *
          clear hWR
          replace m1 := xr.cell m1
          replace e0 := xr.cell e0
          have T2 : Touch W1 W2 (obs B (.slice ad D.length cd) vp) := Touch.of_ext xr _
          have K2 := HK1.out.ext xr
          go_wp2_with fail
          go_meet
          exact ⟨kids, p, D, _, _, _, _, _, rfl, R2.out, s2, K2, T2, Newer.refl _ _, Newer.refl _ _, ⟨[], (List.append_nil D).symm⟩, fun z hz => by
              obtain ⟨i, hi, rfl⟩ := List.mem_iff_getElem.1 hz
              have := HKD.out i _ (List.getElem?_eq_getElem hi) (fun h => absurd h (by simp))
              exact ⟨this.1, by have := this.2; omega⟩, EQ⟩
        cases u2 : hasB C t
        rotate_left
        · have HV : Hid (nameP C V D t = ⟨#[]⟩) := Lib.hid (by unfold nameP; simp [u0, u1, u2])
          have EQ : Hid (orT p (firstT (kids.map (exV C V own D))) = orT p (exV C V own D ⟨4, t, nu, nms, kids⟩)) := Lib.hid (by
            rw [HSUCC.out, kdsP_plain (by simp) (by simp)]
            simp [headP, nextD, orT_l, HV.out])
          have CC : Hid (∀ (v : Value) (b : Bool) (W : World), Ext W1 W → ((v = .slice ad D.length cd ∧ b = false) ∨ (v = cV ∧ b = false) ∨ (v = cC ∧ b = true)) → Calls Tryz.prog 40 #[v, .string t] W fun e w' => e = .returned (.bool b) ∧ Ext W w') := Lib.hid fun v b W hW hs => by
            rcases hs with ⟨hv, hb⟩ | ⟨hv, hb⟩ | ⟨hv, hb⟩
            · rw [hv, hb]; exact (contains_any (D.map Prod.fst) (.slice ad D.length cd) t W (Rep.ext (hW) RD.out)).mono fun e w' ⟨h1, h2⟩ => ⟨by rw [h1, u0], by rw [h2]; exact Ext.refl _⟩
            · rw [hv, hb]; exact (contains_any V cV t W (Rep.ext (hW) RV.out.rep)).mono fun e w' ⟨h1, h2⟩ => ⟨by rw [h1, u1], by rw [h2]; exact Ext.refl _⟩
            · rw [hv, hb]; exact (contains_any C cC t W (Rep.ext (hW) RC.out.rep)).mono fun e w' ⟨h1, h2⟩ => ⟨by rw [h1, u2], by rw [h2]; exact Ext.refl _⟩
          clear u0 u1 u2
          go_wp2_with fail
          have g0 := reg (Ext.refl _) e0
          have g3 := reg (Ext.refl _) e3
          have g5 := reg (Ext.refl _) e5
          have gt := reg (Ext.refl _) m1
          refine wp_region_quiet_below (by kernel_rfl) (by kernel_rfl) ?_
          repeat (go_big_quiet_step ((go_at_call 40; exact Calls.regrown_of (CC.out _ _ _ (regx _ _) (by first | exact ⟨rfl, rfl⟩ | exact Or.inl ⟨rfl, rfl⟩ | exact Or.inr ⟨rfl, rfl⟩ | exact Or.inr (Or.inl ⟨rfl, rfl⟩) | exact Or.inr (Or.inr ⟨rfl, rfl⟩))))))
          refine wpQuiet_nil ?_
          clear g0 g3 g5 gt
          intro _ hw'
          obtain ⟨pw, hw''⟩ := hw'
          subst hw''
          have xr := regx W1 pw
          generalize hWR : «Sort».grow (redrawn W1 pw.d) pw.os = W2 at *
          clear hWR
          replace m1 := xr.cell m1
          replace e0 := xr.cell e0
          have T2 : Touch W1 W2 (obs B (.slice ad D.length cd) vp) := Touch.of_ext xr _
          have K2 := HK1.out.ext xr
          go_wp2_with fail
          go_meet
          exact ⟨kids, p, D, _, _, _, _, _, rfl, R2.out, s2, K2, T2, Newer.refl _ _, Newer.refl _ _, ⟨[], (List.append_nil D).symm⟩, fun z hz => by
              obtain ⟨i, hi, rfl⟩ := List.mem_iff_getElem.1 hz
              have := HKD.out i _ (List.getElem?_eq_getElem hi) (fun h => absurd h (by simp))
              exact ⟨this.1, by have := this.2; omega⟩, EQ⟩
        cases u3 : hasB resB t
        · have HV : Hid (nameP C V D t = tUnknown t) := Lib.hid (by unfold nameP; rw [H4.out]; simp [u0, u1, u2, u3])
          have EQ : Hid (orT (orT p (tUnknown t)) (firstT (kids.map (exV C V own D))) = orT p (exV C V own D ⟨4, t, nu, nms, kids⟩)) := Lib.hid (by
            rw [HSUCC.out, kdsP_plain (by simp) (by simp), orT_assoc]
            simp [headP, nextD, orT_l, HV.out])
          have CC : Hid (∀ (v : Value) (b : Bool) (W : World), Ext W1 W → ((v = .slice ad D.length cd ∧ b = false) ∨ (v = cV ∧ b = false) ∨ (v = cC ∧ b = false)) → Calls Tryz.prog 40 #[v, .string t] W fun e w' => e = .returned (.bool b) ∧ Ext W w') := Lib.hid fun v b W hW hs => by
            rcases hs with ⟨hv, hb⟩ | ⟨hv, hb⟩ | ⟨hv, hb⟩
            · rw [hv, hb]; exact (contains_any (D.map Prod.fst) (.slice ad D.length cd) t W (Rep.ext (hW) RD.out)).mono fun e w' ⟨h1, h2⟩ => ⟨by rw [h1, u0], by rw [h2]; exact Ext.refl _⟩
            · rw [hv, hb]; exact (contains_any V cV t W (Rep.ext (hW) RV.out.rep)).mono fun e w' ⟨h1, h2⟩ => ⟨by rw [h1, u1], by rw [h2]; exact Ext.refl _⟩
            · rw [hv, hb]; exact (contains_any C cC t W (Rep.ext (hW) RC.out.rep)).mono fun e w' ⟨h1, h2⟩ => ⟨by rw [h1, u2], by rw [h2]; exact Ext.refl _⟩
          clear u0 u1 u2
          go_wp2_with fail
          have g0 := reg (Ext.refl _) e0
          have g3 := reg (Ext.refl _) e3
          have g5 := reg (Ext.refl _) e5
          have gt := reg (Ext.refl _) m1
          refine wp_region_quiet_below (by kernel_rfl) (by kernel_rfl) ?_
          repeat (go_big_quiet_step ((go_at_call 40; exact Calls.regrown_of (CC.out _ _ _ (regx _ _) (by first | exact ⟨rfl, rfl⟩ | exact Or.inl ⟨rfl, rfl⟩ | exact Or.inr ⟨rfl, rfl⟩ | exact Or.inr (Or.inl ⟨rfl, rfl⟩) | exact Or.inr (Or.inr ⟨rfl, rfl⟩))))))
          refine wpQuiet_nil ?_
          clear g0 g3 g5 gt
          intro _ hw'
          obtain ⟨pw, hw''⟩ := hw'
          subst hw''
          have xr := regx W1 pw
          generalize hWR : «Sort».grow (redrawn W1 pw.d) pw.os = W2 at *
          clear hWR
          replace m1 := xr.cell m1
          replace e0 := xr.cell e0
          have T2 : Touch W1 W2 (obs B (.slice ad D.length cd) vp) := Touch.of_ext xr _
          have K2 := HK1.out.ext xr
          go_wp2_with fail
          refine (reserved_any t _).mono ?_
          rw [u3]
          rintro e wq ⟨rfl, hq⟩
          subst wq
          go_wp2_with fail
          refine (rep_call (tUnknown t) T2 (Newer.refl _ _) (Newer.refl _ _) K2).mono ?_
          rintro e w9 ⟨rfl, vd9, vp9, K9, T9, n9d, n9p⟩
          go_wp2_with fail
          go_meet
          exact ⟨kids, orT p (tUnknown t), D, _, _, _, _, _, rfl, R2.out, s2, K9, T9, n9d, n9p, ⟨[], (List.append_nil D).symm⟩, fun z hz => by
              obtain ⟨i, hi, rfl⟩ := List.mem_iff_getElem.1 hz
              have := HKD.out i _ (List.getElem?_eq_getElem hi) (fun h => absurd h (by simp))
              exact ⟨this.1, by have := this.2; omega⟩, EQ⟩
        by_cases hs : t = superN
        · have HV : Hid (nameP C V D t = tUnknown t) := Lib.hid (by unfold nameP; rw [H4.out, eqB_tt hs]; simp [u0, u1, u2])
          have ts := str_eq' (l := [115, 117, 112, 101, 114]) hs
          clear hs
          have EQ : Hid (orT (orT p (tUnknown t)) (firstT (kids.map (exV C V own D))) = orT p (exV C V own D ⟨4, t, nu, nms, kids⟩)) := Lib.hid (by
            rw [HSUCC.out, kdsP_plain (by simp) (by simp), orT_assoc]
            simp [headP, nextD, orT_l, HV.out])
          have CC : Hid (∀ (v : Value) (b : Bool) (W : World), Ext W1 W → ((v = .slice ad D.length cd ∧ b = false) ∨ (v = cV ∧ b = false) ∨ (v = cC ∧ b = false)) → Calls Tryz.prog 40 #[v, .string t] W fun e w' => e = .returned (.bool b) ∧ Ext W w') := Lib.hid fun v b W hW hs => by
            rcases hs with ⟨hv, hb⟩ | ⟨hv, hb⟩ | ⟨hv, hb⟩
            · rw [hv, hb]; exact (contains_any (D.map Prod.fst) (.slice ad D.length cd) t W (Rep.ext (hW) RD.out)).mono fun e w' ⟨h1, h2⟩ => ⟨by rw [h1, u0], by rw [h2]; exact Ext.refl _⟩
            · rw [hv, hb]; exact (contains_any V cV t W (Rep.ext (hW) RV.out.rep)).mono fun e w' ⟨h1, h2⟩ => ⟨by rw [h1, u1], by rw [h2]; exact Ext.refl _⟩
            · rw [hv, hb]; exact (contains_any C cC t W (Rep.ext (hW) RC.out.rep)).mono fun e w' ⟨h1, h2⟩ => ⟨by rw [h1, u2], by rw [h2]; exact Ext.refl _⟩
          clear u0 u1 u2
          go_wp2_with fail
          have g0 := reg (Ext.refl _) e0
          have g3 := reg (Ext.refl _) e3
          have g5 := reg (Ext.refl _) e5
          have gt := reg (Ext.refl _) m1
          refine wp_region_quiet_below (by kernel_rfl) (by kernel_rfl) ?_
          repeat (go_big_quiet_step ((go_at_call 40; exact Calls.regrown_of (CC.out _ _ _ (regx _ _) (by first | exact ⟨rfl, rfl⟩ | exact Or.inl ⟨rfl, rfl⟩ | exact Or.inr ⟨rfl, rfl⟩ | exact Or.inr (Or.inl ⟨rfl, rfl⟩) | exact Or.inr (Or.inr ⟨rfl, rfl⟩))))))
          refine wpQuiet_nil ?_
          clear g0 g3 g5 gt
          intro _ hw'
          obtain ⟨pw, hw''⟩ := hw'
          subst hw''
          have xr := regx W1 pw
          generalize hWR : «Sort».grow (redrawn W1 pw.d) pw.os = W2 at *
          clear hWR
          replace m1 := xr.cell m1
          replace e0 := xr.cell e0
          have T2 : Touch W1 W2 (obs B (.slice ad D.length cd) vp) := Touch.of_ext xr _
          have K2 := HK1.out.ext xr
          go_wp2_with fail
          refine (reserved_any t _).mono ?_
          rw [u3]
          rintro e wq ⟨rfl, hq⟩
          subst wq
          go_wp2_with fail
          refine (rep_call (tUnknown t) T2 (Newer.refl _ _) (Newer.refl _ _) K2).mono ?_
          rintro e w9 ⟨rfl, vd9, vp9, K9, T9, n9d, n9p⟩
          go_wp2_with fail
          go_meet
          exact ⟨kids, orT p (tUnknown t), D, _, _, _, _, _, rfl, R2.out, s2, K9, T9, n9d, n9p, ⟨[], (List.append_nil D).symm⟩, fun z hz => by
              obtain ⟨i, hi, rfl⟩ := List.mem_iff_getElem.1 hz
              have := HKD.out i _ (List.getElem?_eq_getElem hi) (fun h => absurd h (by simp))
              exact ⟨this.1, by have := this.2; omega⟩, EQ⟩
        · have HV : Hid (nameP C V D t = ⟨#[]⟩) := Lib.hid (by unfold nameP; rw [H4.out, eqB_ff hs]; simp [u0, u1, u2, u3])
          have ts := str_ne' (l := [115, 117, 112, 101, 114]) hs
          clear hs
          have EQ : Hid (orT p (firstT (kids.map (exV C V own D))) = orT p (exV C V own D ⟨4, t, nu, nms, kids⟩)) := Lib.hid (by
            rw [HSUCC.out, kdsP_plain (by simp) (by simp)]
            simp [headP, nextD, orT_l, HV.out])
          have CC : Hid (∀ (v : Value) (b : Bool) (W : World), Ext W1 W → ((v = .slice ad D.length cd ∧ b = false) ∨ (v = cV ∧ b = false) ∨ (v = cC ∧ b = false)) → Calls Tryz.prog 40 #[v, .string t] W fun e w' => e = .returned (.bool b) ∧ Ext W w') := Lib.hid fun v b W hW hs => by
            rcases hs with ⟨hv, hb⟩ | ⟨hv, hb⟩ | ⟨hv, hb⟩
            · rw [hv, hb]; exact (contains_any (D.map Prod.fst) (.slice ad D.length cd) t W (Rep.ext (hW) RD.out)).mono fun e w' ⟨h1, h2⟩ => ⟨by rw [h1, u0], by rw [h2]; exact Ext.refl _⟩
            · rw [hv, hb]; exact (contains_any V cV t W (Rep.ext (hW) RV.out.rep)).mono fun e w' ⟨h1, h2⟩ => ⟨by rw [h1, u1], by rw [h2]; exact Ext.refl _⟩
            · rw [hv, hb]; exact (contains_any C cC t W (Rep.ext (hW) RC.out.rep)).mono fun e w' ⟨h1, h2⟩ => ⟨by rw [h1, u2], by rw [h2]; exact Ext.refl _⟩
          clear u0 u1 u2
          go_wp2_with fail
          have g0 := reg (Ext.refl _) e0
          have g3 := reg (Ext.refl _) e3
          have g5 := reg (Ext.refl _) e5
          have gt := reg (Ext.refl _) m1
          refine wp_region_quiet_below (by kernel_rfl) (by kernel_rfl) ?_
          repeat (go_big_quiet_step ((go_at_call 40; exact Calls.regrown_of (CC.out _ _ _ (regx _ _) (by first | exact ⟨rfl, rfl⟩ | exact Or.inl ⟨rfl, rfl⟩ | exact Or.inr ⟨rfl, rfl⟩ | exact Or.inr (Or.inl ⟨rfl, rfl⟩) | exact Or.inr (Or.inr ⟨rfl, rfl⟩))))))
          refine wpQuiet_nil ?_
          clear g0 g3 g5 gt
          intro _ hw'
          obtain ⟨pw, hw''⟩ := hw'
          subst hw''
          have xr := regx W1 pw
          generalize hWR : «Sort».grow (redrawn W1 pw.d) pw.os = W2 at *
          clear hWR
          replace m1 := xr.cell m1
          replace e0 := xr.cell e0
          have T2 : Touch W1 W2 (obs B (.slice ad D.length cd) vp) := Touch.of_ext xr _
          have K2 := HK1.out.ext xr
          go_wp2_with fail
          refine (reserved_any t _).mono ?_
          rw [u3]
          rintro e wq ⟨rfl, hq⟩
          subst wq
          go_wp2_with fail
          go_meet
          exact ⟨kids, p, D, _, _, _, _, _, rfl, R2.out, s2, K2, T2, Newer.refl _ _, Newer.refl _ _, ⟨[], (List.append_nil D).symm⟩, fun z hz => by
              obtain ⟨i, hi, rfl⟩ := List.mem_iff_getElem.1 hz
              have := HKD.out i _ (List.getElem?_eq_getElem hi) (fun h => absurd h (by simp))
              exact ⟨this.1, by have := this.2; omega⟩, EQ⟩
    have tc4 := int_ne hc4
    by_cases hc5 : kd = 5
    · subst hc5
      clear hc1 hc2 hc3 hc9 hc4
      as_aux_lemma =>
        have htz : t.size ≤ 1048576 := by
          have := (HHEAD.out.2.2.2.2.2.2.2.1 rfl).1
          have h2 : t.size ≤ 20 := (name_len' this).2
          omega
        have RD : Hid (Rep W1 (strs (D.map Prod.fst)) [.slice ad D.length cd]) := Lib.hid (by
          obtain ⟨ao, cap, gp, h1, h2, -⟩ := AccT.rep HK1.out.ds
          rw [h1]; exact h2.rep)
        obtain ⟨ix, hix⟩ : ∃ ix, Lib.idxOfS (D.map Prod.fst) t = ix := ⟨_, rfl⟩
        have CI : Hid (∀ W, Ext W1 W → Calls Tryz.prog 45 #[.slice ad D.length cd, .string t] W fun e w' => e = .returned (.int .i64 ix) ∧ Ext W w') := Lib.hid fun W hW => (index_any (D.map Prod.fst) (.slice ad D.length cd) t W (Rep.ext hW RD.out)).mono fun e w' ⟨h1, h2⟩ => ⟨by rw [h1, hix], by rw [h2]; exact Ext.refl _⟩
        obtain ⟨u1, hu1⟩ : ∃ u, hasB V t = u := ⟨_, rfl⟩
        have CV : Hid (∀ W, Ext W1 W → Calls Tryz.prog 40 #[cV, .string t] W fun e w' => e = .returned (.bool u1) ∧ Ext W w') := Lib.hid fun W hW => (contains_any V cV t W (Rep.ext hW RV.out.rep)).mono fun e w' ⟨h1, h2⟩ => ⟨by rw [h1, hu1], by rw [h2]; exact Ext.refl _⟩
        by_cases hneg : ix < 0
        · have hvb : varB D t = false := varB_none (by rw [hix]; exact hneg)
          cases u1
          · have HV : Hid (asgP V D t = tAssign t) := Lib.hid (by unfold asgP; simp [hvb, hu1])
            clear hvb hu1 hix
            have EQ : Hid (orT (orT p (tAssign t)) (firstT (kids.map (exV C V own D))) = orT p (exV C V own D ⟨5, t, nu, nms, kids⟩)) := Lib.hid (by
              rw [HSUCC.out, kdsP_plain (by simp) (by simp), orT_assoc]
              simp [headP, nextD, orT_l, HV.out])
            go_wp2_with fail
            have ge5 := reg (Ext.refl _) e5
            have gm1 := reg (Ext.refl _) m1
            have ge3 := reg (Ext.refl _) e3
            have ge6 := reg (Ext.refl _) e6
            refine wp_region_quiet_below (by kernel_rfl) (by kernel_rfl) ?_
            repeat (go_big_quiet_step ((go_at_call 45; exact Calls.regrown_of (CI.out _ (regx _ _)))))
            refine wpQuiet_nil ?_
            clear ge5 gm1 ge3 ge6
            intro _ hw'
            obtain ⟨pw, hw''⟩ := hw'
            subst hw''
            have xW2 := regx W1 pw
            generalize hWR : «Sort».grow (redrawn W1 pw.d) pw.os = W2 at *
            clear hWR
            replace e5 := xW2.cell e5
            replace m1 := xW2.cell m1
            replace e3 := xW2.cell e3
            replace e6 := xW2.cell e6
            go_wp2_with fail
            have gm1 := reg (Ext.refl _) m1
            have ge3 := reg (Ext.refl _) e3
            have ge6 := reg (Ext.refl _) e6
            refine wp_region_quiet_below (by kernel_rfl) (by kernel_rfl) ?_
            repeat (go_big_quiet_step ((go_at_call 40; exact Calls.regrown_of (CV.out _ (xW2.trans (regx _ _))))))
            refine wpQuiet_nil ?_
            clear gm1 ge3 ge6
            intro _ hw'
            obtain ⟨pw, hw''⟩ := hw'
            subst hw''
            have xW3 := regx W2 pw
            generalize hWR : «Sort».grow (redrawn W2 pw.d) pw.os = W3 at *
            clear hWR
            replace m1 := xW3.cell m1
            replace e3 := xW3.cell e3
            replace e6 := xW3.cell e6
            have x3 := xW2.trans xW3
            have T3 : Touch W1 W3 (obs B (.slice ad D.length cd) vp) := Touch.of_ext x3 _
            have K3 := HK1.out.ext x3
            go_wp2_with fail
            refine (rep_call (tAssign t) T3 (Newer.refl _ _) (Newer.refl _ _) K3).mono ?_
            rintro e w9 ⟨rfl, vd9, vp9, K9, T9, n9d, n9p⟩
            go_wp2_with fail
            go_meet
            exact ⟨kids, orT p (tAssign t), D, _, _, _, _, _, rfl, R2.out, s2, K9, T9, n9d, n9p, ⟨[], (List.append_nil D).symm⟩, fun z hz => by
                obtain ⟨i, hi, rfl⟩ := List.mem_iff_getElem.1 hz
                have := HKD.out i _ (List.getElem?_eq_getElem hi) (fun h => absurd h (by simp))
                exact ⟨this.1, by have := this.2; omega⟩, EQ⟩
          · have HV : Hid (asgP V D t = ⟨#[]⟩) := Lib.hid (by unfold asgP; simp [hvb, hu1])
            clear hvb hu1 hix
            have EQ : Hid (orT p (firstT (kids.map (exV C V own D))) = orT p (exV C V own D ⟨5, t, nu, nms, kids⟩)) := Lib.hid (by
              rw [HSUCC.out, kdsP_plain (by simp) (by simp)]
              simp [headP, nextD, orT_l, HV.out])
            go_wp2_with fail
            have ge5 := reg (Ext.refl _) e5
            have gm1 := reg (Ext.refl _) m1
            have ge3 := reg (Ext.refl _) e3
            have ge6 := reg (Ext.refl _) e6
            refine wp_region_quiet_below (by kernel_rfl) (by kernel_rfl) ?_
            repeat (go_big_quiet_step ((go_at_call 45; exact Calls.regrown_of (CI.out _ (regx _ _)))))
            refine wpQuiet_nil ?_
            clear ge5 gm1 ge3 ge6
            intro _ hw'
            obtain ⟨pw, hw''⟩ := hw'
            subst hw''
            have xW2 := regx W1 pw
            generalize hWR : «Sort».grow (redrawn W1 pw.d) pw.os = W2 at *
            clear hWR
            replace e5 := xW2.cell e5
            replace m1 := xW2.cell m1
            replace e3 := xW2.cell e3
            replace e6 := xW2.cell e6
            go_wp2_with fail
            have gm1 := reg (Ext.refl _) m1
            have ge3 := reg (Ext.refl _) e3
            have ge6 := reg (Ext.refl _) e6
            refine wp_region_quiet_below (by kernel_rfl) (by kernel_rfl) ?_
            repeat (go_big_quiet_step ((go_at_call 40; exact Calls.regrown_of (CV.out _ (xW2.trans (regx _ _))))))
            refine wpQuiet_nil ?_
            clear gm1 ge3 ge6
            intro _ hw'
            obtain ⟨pw, hw''⟩ := hw'
            subst hw''
            have xW3 := regx W2 pw
            generalize hWR : «Sort».grow (redrawn W2 pw.d) pw.os = W3 at *
            clear hWR
            replace m1 := xW3.cell m1
            replace e3 := xW3.cell e3
            replace e6 := xW3.cell e6
            have x3 := xW2.trans xW3
            have T3 : Touch W1 W3 (obs B (.slice ad D.length cd) vp) := Touch.of_ext x3 _
            have K3 := HK1.out.ext x3
            go_wp2_with fail
            go_meet
            exact ⟨kids, p, D, _, _, _, _, _, rfl, R2.out, s2, K3, T3, Newer.refl _ _, Newer.refl _ _, ⟨[], (List.append_nil D).symm⟩, fun z hz => by
                obtain ⟨i, hi, rfl⟩ := List.mem_iff_getElem.1 hz
                have := HKD.out i _ (List.getElem?_eq_getElem hi) (fun h => absurd h (by simp))
                exact ⟨this.1, by have := this.2; omega⟩, EQ⟩
        obtain ⟨j, pb, hj1, hj2, hj3, hvb⟩ := varB_some (D := D) (n := t) (by rw [hix]; omega)
        rw [hix] at hj1
        obtain ⟨gp, cp, hvp, hpc⟩ := AccB.cell HK1.out.ps (k := j) (b := pb) (by rw [List.getElem?_map, hj2]; rfl)
        rw [List.length_map] at hvp
        rw [hvp] at e6
        clear hvp
        have j0 : 0 ≤ ix := by omega
        have td : decide (ix < 0) = false := decide_eq_false hneg
        have j1 : ix < D.length := by omega
        rw [show j = ix.toNat by omega] at hpc
        clear hj1 hj3 hix hj2
        cases pb
        · have HV : Hid (asgP V D t = ⟨#[]⟩) := Lib.hid (by unfold asgP; simp [hvb])
          clear hvb hu1
          have EQ : Hid (orT p (firstT (kids.map (exV C V own D))) = orT p (exV C V own D ⟨5, t, nu, nms, kids⟩)) := Lib.hid (by
            rw [HSUCC.out, kdsP_plain (by simp) (by simp)]
            simp [headP, nextD, orT_l, HV.out])
          go_wp2_with fail
          have ge5 := reg (Ext.refl _) e5
          have gm1 := reg (Ext.refl _) m1
          have ge3 := reg (Ext.refl _) e3
          have ge6 := reg (Ext.refl _) e6
          refine wp_region_quiet_below (by kernel_rfl) (by kernel_rfl) ?_
          repeat (go_big_quiet_step ((go_at_call 45; exact Calls.regrown_of (CI.out _ (regx _ _)))))
          refine wpQuiet_nil ?_
          clear ge5 gm1 ge3 ge6
          intro _ hw'
          obtain ⟨pw, hw''⟩ := hw'
          subst hw''
          have xW2 := regx W1 pw
          generalize hWR : «Sort».grow (redrawn W1 pw.d) pw.os = W2 at *
          clear hWR
          replace e5 := xW2.cell e5
          replace m1 := xW2.cell m1
          replace e3 := xW2.cell e3
          replace e6 := xW2.cell e6
          replace hpc := xW2.cell hpc
          go_wp2_with fail
          have gm1 := reg (Ext.refl _) m1
          have ge3 := reg (Ext.refl _) e3
          have ge6 := reg (Ext.refl _) e6
          have ghpc := reg (Ext.refl _) hpc
          refine wp_region_quiet_below (by kernel_rfl) (by kernel_rfl) ?_
          repeat (go_big_quiet_step ((go_at_call 40; exact Calls.regrown_of (CV.out _ (xW2.trans (regx _ _))))))
          refine wpQuiet_nil ?_
          clear gm1 ge3 ge6 ghpc
          intro _ hw'
          obtain ⟨pw, hw''⟩ := hw'
          subst hw''
          have xW3 := regx W2 pw
          generalize hWR : «Sort».grow (redrawn W2 pw.d) pw.os = W3 at *
          clear hWR
          replace m1 := xW3.cell m1
          replace e3 := xW3.cell e3
          replace e6 := xW3.cell e6
          replace hpc := xW3.cell hpc
          have x3 := xW2.trans xW3
          have T3 : Touch W1 W3 (obs B (.slice ad D.length cd) vp) := Touch.of_ext x3 _
          have K3 := HK1.out.ext x3
          go_wp2_with fail
          go_meet
          exact ⟨kids, p, D, _, _, _, _, _, rfl, R2.out, s2, K3, T3, Newer.refl _ _, Newer.refl _ _, ⟨[], (List.append_nil D).symm⟩, fun z hz => by
              obtain ⟨i, hi, rfl⟩ := List.mem_iff_getElem.1 hz
              have := HKD.out i _ (List.getElem?_eq_getElem hi) (fun h => absurd h (by simp))
              exact ⟨this.1, by have := this.2; omega⟩, EQ⟩
        · cases u1
          · have HV : Hid (asgP V D t = tAssign t) := Lib.hid (by unfold asgP; simp [hvb, hu1])
            clear hvb hu1
            have EQ : Hid (orT (orT p (tAssign t)) (firstT (kids.map (exV C V own D))) = orT p (exV C V own D ⟨5, t, nu, nms, kids⟩)) := Lib.hid (by
              rw [HSUCC.out, kdsP_plain (by simp) (by simp), orT_assoc]
              simp [headP, nextD, orT_l, HV.out])
            go_wp2_with fail
            have ge5 := reg (Ext.refl _) e5
            have gm1 := reg (Ext.refl _) m1
            have ge3 := reg (Ext.refl _) e3
            have ge6 := reg (Ext.refl _) e6
            refine wp_region_quiet_below (by kernel_rfl) (by kernel_rfl) ?_
            repeat (go_big_quiet_step ((go_at_call 45; exact Calls.regrown_of (CI.out _ (regx _ _)))))
            refine wpQuiet_nil ?_
            clear ge5 gm1 ge3 ge6
            intro _ hw'
            obtain ⟨pw, hw''⟩ := hw'
            subst hw''
            have xW2 := regx W1 pw
            generalize hWR : «Sort».grow (redrawn W1 pw.d) pw.os = W2 at *
            clear hWR
            replace e5 := xW2.cell e5
            replace m1 := xW2.cell m1
            replace e3 := xW2.cell e3
            replace e6 := xW2.cell e6
            replace hpc := xW2.cell hpc
            go_wp2_with fail
            have gm1 := reg (Ext.refl _) m1
            have ge3 := reg (Ext.refl _) e3
            have ge6 := reg (Ext.refl _) e6
            have ghpc := reg (Ext.refl _) hpc
            refine wp_region_quiet_below (by kernel_rfl) (by kernel_rfl) ?_
            repeat (go_big_quiet_step ((go_at_call 40; exact Calls.regrown_of (CV.out _ (xW2.trans (regx _ _))))))
            refine wpQuiet_nil ?_
            clear gm1 ge3 ge6 ghpc
            intro _ hw'
            obtain ⟨pw, hw''⟩ := hw'
            subst hw''
            have xW3 := regx W2 pw
            generalize hWR : «Sort».grow (redrawn W2 pw.d) pw.os = W3 at *
            clear hWR
            replace m1 := xW3.cell m1
            replace e3 := xW3.cell e3
            replace e6 := xW3.cell e6
            replace hpc := xW3.cell hpc
            have x3 := xW2.trans xW3
            have T3 : Touch W1 W3 (obs B (.slice ad D.length cd) vp) := Touch.of_ext x3 _
            have K3 := HK1.out.ext x3
            go_wp2_with fail
            refine (rep_call (tAssign t) T3 (Newer.refl _ _) (Newer.refl _ _) K3).mono ?_
            rintro e w9 ⟨rfl, vd9, vp9, K9, T9, n9d, n9p⟩
            go_wp2_with fail
            go_meet
            exact ⟨kids, orT p (tAssign t), D, _, _, _, _, _, rfl, R2.out, s2, K9, T9, n9d, n9p, ⟨[], (List.append_nil D).symm⟩, fun z hz => by
                obtain ⟨i, hi, rfl⟩ := List.mem_iff_getElem.1 hz
                have := HKD.out i _ (List.getElem?_eq_getElem hi) (fun h => absurd h (by simp))
                exact ⟨this.1, by have := this.2; omega⟩, EQ⟩
          · have HV : Hid (asgP V D t = ⟨#[]⟩) := Lib.hid (by unfold asgP; simp [hvb, hu1])
            clear hvb hu1
            have EQ : Hid (orT p (firstT (kids.map (exV C V own D))) = orT p (exV C V own D ⟨5, t, nu, nms, kids⟩)) := Lib.hid (by
              rw [HSUCC.out, kdsP_plain (by simp) (by simp)]
              simp [headP, nextD, orT_l, HV.out])
            go_wp2_with fail
            have ge5 := reg (Ext.refl _) e5
            have gm1 := reg (Ext.refl _) m1
            have ge3 := reg (Ext.refl _) e3
            have ge6 := reg (Ext.refl _) e6
            refine wp_region_quiet_below (by kernel_rfl) (by kernel_rfl) ?_
            repeat (go_big_quiet_step ((go_at_call 45; exact Calls.regrown_of (CI.out _ (regx _ _)))))
            refine wpQuiet_nil ?_
            clear ge5 gm1 ge3 ge6
            intro _ hw'
            obtain ⟨pw, hw''⟩ := hw'
            subst hw''
            have xW2 := regx W1 pw
            generalize hWR : «Sort».grow (redrawn W1 pw.d) pw.os = W2 at *
            clear hWR
            replace e5 := xW2.cell e5
            replace m1 := xW2.cell m1
            replace e3 := xW2.cell e3
            replace e6 := xW2.cell e6
            replace hpc := xW2.cell hpc
            go_wp2_with fail
            have gm1 := reg (Ext.refl _) m1
            have ge3 := reg (Ext.refl _) e3
            have ge6 := reg (Ext.refl _) e6
            have ghpc := reg (Ext.refl _) hpc
            refine wp_region_quiet_below (by kernel_rfl) (by kernel_rfl) ?_
            repeat (go_big_quiet_step ((go_at_call 40; exact Calls.regrown_of (CV.out _ (xW2.trans (regx _ _))))))
            refine wpQuiet_nil ?_
            clear gm1 ge3 ge6 ghpc
            intro _ hw'
            obtain ⟨pw, hw''⟩ := hw'
            subst hw''
            have xW3 := regx W2 pw
            generalize hWR : «Sort».grow (redrawn W2 pw.d) pw.os = W3 at *
            clear hWR
            replace m1 := xW3.cell m1
            replace e3 := xW3.cell e3
            replace e6 := xW3.cell e6
            replace hpc := xW3.cell hpc
            have x3 := xW2.trans xW3
            have T3 : Touch W1 W3 (obs B (.slice ad D.length cd) vp) := Touch.of_ext x3 _
            have K3 := HK1.out.ext x3
            go_wp2_with fail
            go_meet
            exact ⟨kids, p, D, _, _, _, _, _, rfl, R2.out, s2, K3, T3, Newer.refl _ _, Newer.refl _ _, ⟨[], (List.append_nil D).symm⟩, fun z hz => by
                obtain ⟨i, hi, rfl⟩ := List.mem_iff_getElem.1 hz
                have := HKD.out i _ (List.getElem?_eq_getElem hi) (fun h => absurd h (by simp))
                exact ⟨this.1, by have := this.2; omega⟩, EQ⟩
    have tc5 := int_ne hc5
    by_cases hc8 : kd = 8
    · subst hc8
      clear hc1 hc2 hc3 hc9 hc4 hc5
      as_aux_lemma =>
        obtain ⟨fps, hR1⟩ : ∃ g, RepF W1 (strs nms) [.slice a1 nms.length c1] g ∧ ∀ k, k ∈ g → k ∈ fp := ⟨f1, R1.out, s1⟩
        obtain ⟨abn, cbn, bn, on, h1, hln, hmn, pn, hnn⟩ := RepF.slmap (f := strD) hR1.1
        simp only [List.cons.injEq, and_true, Value.slice.injEq] at h1
        obtain ⟨rfl, -, rfl⟩ := h1
        unfold maxLen at hmn
        have HNN : Hid (∀ (i : Nat) (s : ByteArray), nms[i]? = some s → W1.cell? ⟨bn, on + i, none⟩ = some (.string s) ∧ bn ∈ fp) := Lib.hid fun i s hs => by
          obtain ⟨es, gp, h1, h2, h3, h4, h5⟩ := hnn i s hs
          simp only [RepF] at h3
          have := h2 0 (by omega)
          rw [h3.1] at this
          refine ⟨?_, hR1.2 _ h5⟩
          simpa using this
        clear hnn hR1
        go_wp2_with fail
        go_loopw [30] (fun iv wr => ∃ (i : Nat) (p2 : ByteArray) (vd2 vp2 : Value), i ≤ nms.length ∧ iv = .int .i64 i ∧ Chk wr B B0 cC mp cV own p2 (D ++ flagsF nu 0 (nms.take i)) vd2 vp2 ∧ Touch W1 wr (obs B (.slice ad D.length cd) vp) ∧ Newer W1 (.slice ad D.length cd) vd2 ∧ Newer W1 vp vp2 ∧ Hid (orT p2 (declP C V nu i (D ++ flagsF nu 0 (nms.take i)) (nms.drop i)) = orT p (declP C V nu 0 D nms))) (fun iv _ => nms.length - (intOf iv).toNat)
        case atStart => exact ⟨0, p, _, _, Nat.zero_le _, rfl, by simpa [flagsF] using HK1.out, T1, Newer.refl _ _, Newer.refl _ _, Lib.hid (by simp [flagsF])⟩
        case round =>
          obtain ⟨i, p2, vd2, vp2, hi, rfl, K2, T2, n2d, n2p, hQ⟩ := hrel
          have l2 := Touch.cellAt T2 HBX.out m2
          by_cases hlt : i < nms.length
          · obtain ⟨nm, hnm⟩ : ∃ s, nms[i]? = some s := ⟨_, List.getElem?_eq_getElem hlt⟩
            obtain ⟨hc, hbm⟩ := HNN.out i nm hnm
            have q0 := Touch.cellAt T2 (HOFF.out _ hbm) hc
            have hns : nm.size ≤ 1048576 := by
              have := (HHEAD.out.2.2.2.2.2.2.2.2.2.2.1 rfl).1 nm (List.mem_of_getElem? hnm)
              have := (name_len' this).2
              omega
            obtain rfl := pn (by omega)
            have HNM := Lib.hid hnm
            have hil : (i : Int) < nms.length := by omega
            have hDl : (D ++ flagsF nu 0 (nms.take i)).length ≤ 4194304 := by
              rw [List.length_append, flagsF_length, List.length_take]; omega
            clear hc hnm
            go_wp2_with fail
            refine (dec_call nm (decide ((i : Int) < nu)) T2 n2d n2p HLOW.out K2 RC.out RV.out hns hDl).mono ?_
            rintro e w9 ⟨rfl, vd9, vp9, K9, T9, n9d, n9p⟩
            go_wp2_with fail
            go_roundw
            case rel => exact ⟨i + 1, _, vd9, vp9, by omega, by go_num, by rw [flagsF_take HNM.out, ← List.append_assoc]; exact K9, T9, n9d, n9p, Lib.hid (by
              rw [← hQ.out, drop_cons HNM.out, declP, orT_assoc, flagsF_take HNM.out, List.append_assoc])⟩
            case measure => simp [intOf]; omega
          · obtain rfl : i = nms.length := by omega
            have EQ : Hid (orT p2 (firstT (kids.map (exV C V own (D ++ flagsF nu 0 nms)))) = orT p (exV C V own D ⟨8, t, nu, nms, kids⟩)) := Lib.hid (by
              have hq := hQ.out
              rw [List.drop_length, declP, orT_r] at hq
              rw [hq, HSUCC.out, kdsP_plain (by simp) (by simp), orT_assoc]
              simp [headP, nextD])
            rw [List.take_length] at K2
            have hbz : ∀ z, z ∈ kids → (D ++ flagsF nu 0 nms).length + z.d.bulk ≤ 4194304 := fun z hz => by
              have := HKNB.out z hz
              rw [List.length_append, flagsF_length]; omega
            go_wp2_with fail
            go_meet
            exact ⟨kids, p2, D ++ flagsF nu 0 nms, _, _, _, _, _, rfl, R2.out, s2, K2, T2, n2d, n2p, ⟨_, rfl⟩, fun z hz => by
              obtain ⟨i, hi, rfl⟩ := List.mem_iff_getElem.1 hz
              have := HKD.out i _ (List.getElem?_eq_getElem hi) (fun h => absurd h (by simp))
              exact ⟨this.1, hbz _ hz⟩, EQ⟩
    have tc8 := int_ne hc8
    by_cases hc6 : kd = 6
    · subst hc6
      clear hc1 hc2 hc3 hc9 hc4 hc5 hc8
      as_aux_lemma =>
        have hk0 : 0 < kids.length := (HHEAD.out.2.2.2.2.2.2.2.2.1 rfl).2
        obtain ⟨z, ks, rfl⟩ : ∃ z ks, kids = z :: ks := by
          cases kids with
          | nil => simp at hk0
          | cons z ks => exact ⟨z, ks, rfl⟩
        obtain ⟨ak_k, ck_k, b_k, o_k, h1, hl_k, hm_k, p_k, hr_k⟩ := RepF.slmap R2.out
        simp only [List.cons.injEq, and_true, Value.slice.injEq] at h1
        obtain ⟨rfl, -, rfl⟩ := h1
        unfold maxLen at hm_k
        have HR2 := Lib.hid hr_k; clear hr_k
        obtain rfl := p_k hk0
        obtain ⟨es, gp, les, ces, rz, sg, hbm⟩ := HR2.out 0 z rfl
        obtain ⟨az1, cz1, az2, cz2, fz1, fz2, rfl, rz1, rz2, sz1, sz2⟩ := MExpr.op_enF rz
        have hbm' := s2 _ hbm
        have q0 : W1.cell? ⟨b_k, o_k, none⟩ = some (.int .i64 z.kind) := by
          have := ces 0 (by omega)
          simpa using this
        have q1 : W1.cell? ⟨b_k, o_k + 1, none⟩ = some (.string z.text) := by
          have := ces 1 (by omega)
          simpa using this
        have q2 : W1.cell? ⟨b_k, o_k + 2, none⟩ = some (.int .i64 z.number) := by
          have := ces 2 (by omega)
          simpa using this
        have q3 : W1.cell? ⟨b_k, o_k + 3, none⟩ = some (.slice az1 z.names.length cz1) := by
          have := ces 3 (by omega)
          simpa using this
        have q4 : W1.cell? ⟨b_k, o_k + 4, none⟩ = some (.slice az2 z.kids.length cz2) := by
          have := ces 4 (by omega)
          simpa using this
        have CS : Hid (∀ W, Ext W1 W → Calls Tryz.prog 46 #[.agg #[.int .i64 z.kind, .string z.text, .int .i64 z.number, .slice az1 z.names.length cz1, .slice az2 z.kids.length cz2]] W fun e w' => e = .returned (.bool (supB z)) ∧ Ext W w') := Lib.hid fun W hW => isSuper_any z _ W (Rep.ext hW rz.rep)
        obtain ⟨gt, RT, st2⟩ := RepF.sl_tail (xs := ks.map MExpr.d) R2.out
        have HRT : Hid (RepF W1 (MExprs ks) [.slice (some ⟨b_k, o_k + 5, none⟩) ks.length (c2 - 1)] gt) := Lib.hid RT
        have hlk : ks.length + 1 ≤ c2 := by
          have := hl_k
          simp only [List.length_cons] at this
          omega
        clear RT ces les rz rz1 rz2
        have hkl : (1 : Int) ≤ ((z :: ks).length : Nat) := by simp; omega
        cases hsz : supB z
        · have HSZ := Lib.hid hsz
          have EQ : Hid (orT p (firstT ((z :: ks).map (exV C V own D))) = orT p (exV C V own D ⟨6, t, nu, nms, z :: ks⟩)) := Lib.hid (by
            rw [HSUCC.out, kdsP_nosup rfl HSZ.out]
            simp [headP, nextD, orT_l])
          go_wp2_with fail
          refine (CS.out _ (Ext.refl _)).mono ?_
          rw [HSZ.out]
          rintro e w2 ⟨rfl, hx2⟩
          have T2 : Touch W1 w2 (obs B (.slice ad D.length cd) vp) := Touch.of_ext hx2 _
          have K2 := HK1.out.ext hx2
          clear hsz
          go_wp2_with fail
          go_meet
          exact ⟨z :: ks, p, D, _, _, _, _, _, rfl, R2.out, s2, K2, T2, Newer.refl _ _, Newer.refl _ _, ⟨[], (List.append_nil D).symm⟩, fun z hz => by
              obtain ⟨i, hi, rfl⟩ := List.mem_iff_getElem.1 hz
              have := HKD.out i _ (List.getElem?_eq_getElem hi) (fun h => absurd h (by simp))
              exact ⟨this.1, by have := this.2; omega⟩, EQ⟩
        · have HSZ := Lib.hid hsz
          have HOK2 : Hid (∀ y, y ∈ ks → (∃ st, okR n st y) ∧ D.length + y.d.bulk ≤ 4194304) := Lib.hid fun y hy => by
            obtain ⟨i, hi, rfl⟩ := List.mem_iff_getElem.1 hy
            have := HKD.out (i + 1) ks[i] (by simp [hi]) (fun h => absurd h (by simp))
            exact ⟨this.1, by have := this.2; omega⟩
          clear hsz
          cases own
          · by_cases hc1 : c2 = 1
            · subst hc1
              obtain rfl : ks = [] := List.eq_nil_of_length_eq_zero (by omega)
              have EQ : Hid (orT (orT p tSuper) (firstT ([].map (exV C V false D))) = orT p (exV C V false D ⟨6, t, nu, nms, z :: []⟩)) := Lib.hid (by
                rw [HSUCC.out, kdsP_sup rfl HSZ.out]
                simp [headP, nextD, orT_l, orT_assoc])
              go_wp2_with fail
              refine (CS.out _ (Ext.refl _)).mono ?_
              rw [HSZ.out]
              rintro e w2 ⟨rfl, hx2⟩
              have T2 : Touch W1 w2 (obs B (.slice ad D.length cd) vp) := Touch.of_ext hx2 _
              have K2 := HK1.out.ext hx2
              replace e4 := hx2.cell e4
              go_wp2_with fail
              refine (rep_call tSuper T2 (Newer.refl _ _) (Newer.refl _ _) K2).mono ?_
              rintro e w9 ⟨rfl, vd9, vp9, K9, T9, n9d, n9p⟩
              go_wp2_with fail
              go_meet
              exact ⟨[], _, D, _, _, _, _, [], rfl, RepF.sl_iff.2 ⟨_, _, rfl, by simp, by unfold maxLen; omega, by simp, Or.inl ⟨rfl, rfl⟩⟩, fun k hk => by simp at hk, K9, T9, n9d, n9p, ⟨[], (List.append_nil D).symm⟩, HOK2.out, EQ⟩
            · have hc2 : 2 ≤ c2 := by omega
              have EQ : Hid (orT (orT p tSuper) (firstT (ks.map (exV C V false D))) = orT p (exV C V false D ⟨6, t, nu, nms, z :: ks⟩)) := Lib.hid (by
                rw [HSUCC.out, kdsP_sup rfl HSZ.out]
                simp [headP, nextD, orT_l, orT_assoc])
              go_wp2_with fail
              refine (CS.out _ (Ext.refl _)).mono ?_
              rw [HSZ.out]
              rintro e w2 ⟨rfl, hx2⟩
              have T2 : Touch W1 w2 (obs B (.slice ad D.length cd) vp) := Touch.of_ext hx2 _
              have K2 := HK1.out.ext hx2
              replace e4 := hx2.cell e4
              go_wp2_with fail
              refine (rep_call tSuper T2 (Newer.refl _ _) (Newer.refl _ _) K2).mono ?_
              rintro e w9 ⟨rfl, vd9, vp9, K9, T9, n9d, n9p⟩
              go_wp2_with fail
              go_meet
              exact ⟨ks, _, D, _, _, _, _, gt, rfl, by simpa using HRT.out, fun k hk => s2 k (st2 k hk), K9, T9, n9d, n9p, ⟨[], (List.append_nil D).symm⟩, HOK2.out, EQ⟩
          · by_cases hc1 : c2 = 1
            · subst hc1
              obtain rfl : ks = [] := List.eq_nil_of_length_eq_zero (by omega)
              have EQ : Hid (orT p (firstT ([].map (exV C V true D))) = orT p (exV C V true D ⟨6, t, nu, nms, z :: []⟩)) := Lib.hid (by
                rw [HSUCC.out, kdsP_sup rfl HSZ.out]
                simp [headP, nextD, orT_l, orT_assoc])
              go_wp2_with fail
              refine (CS.out _ (Ext.refl _)).mono ?_
              rw [HSZ.out]
              rintro e w2 ⟨rfl, hx2⟩
              have T2 : Touch W1 w2 (obs B (.slice ad D.length cd) vp) := Touch.of_ext hx2 _
              have K2 := HK1.out.ext hx2
              replace e4 := hx2.cell e4
              go_wp2_with fail
              go_meet
              exact ⟨[], _, D, _, _, _, _, [], rfl, RepF.sl_iff.2 ⟨_, _, rfl, by simp, by unfold maxLen; omega, by simp, Or.inl ⟨rfl, rfl⟩⟩, fun k hk => by simp at hk, K2, T2, Newer.refl _ _, Newer.refl _ _, ⟨[], (List.append_nil D).symm⟩, HOK2.out, EQ⟩
            · have hc2 : 2 ≤ c2 := by omega
              have EQ : Hid (orT p (firstT (ks.map (exV C V true D))) = orT p (exV C V true D ⟨6, t, nu, nms, z :: ks⟩)) := Lib.hid (by
                rw [HSUCC.out, kdsP_sup rfl HSZ.out]
                simp [headP, nextD, orT_l, orT_assoc])
              go_wp2_with fail
              refine (CS.out _ (Ext.refl _)).mono ?_
              rw [HSZ.out]
              rintro e w2 ⟨rfl, hx2⟩
              have T2 : Touch W1 w2 (obs B (.slice ad D.length cd) vp) := Touch.of_ext hx2 _
              have K2 := HK1.out.ext hx2
              replace e4 := hx2.cell e4
              go_wp2_with fail
              go_meet
              exact ⟨ks, _, D, _, _, _, _, gt, rfl, by simpa using HRT.out, fun k hk => s2 k (st2 k hk), K2, T2, Newer.refl _ _, Newer.refl _ _, ⟨[], (List.append_nil D).symm⟩, HOK2.out, EQ⟩
    have tc6 := int_ne hc6
    by_cases hc7 : kd = 7
    · subst hc7
      clear hc1 hc2 hc3 hc9 hc4 hc5 hc8 hc6
      as_aux_lemma =>
        have hk0 : 3 ≤ kids.length := (HHEAD.out.2.2.2.2.2.2.2.2.2.1 rfl).2
        obtain ⟨z, ks, rfl⟩ : ∃ z ks, kids = z :: ks := by
          cases kids with
          | nil => simp at hk0
          | cons z ks => exact ⟨z, ks, rfl⟩
        have hks : 1 ≤ ks.length := by simp at hk0; omega
        obtain ⟨ak_k, ck_k, b_k, o_k, h1, hl_k, hm_k, p_k, hr_k⟩ := RepF.slmap R2.out
        simp only [List.cons.injEq, and_true, Value.slice.injEq] at h1
        obtain ⟨rfl, -, rfl⟩ := h1
        unfold maxLen at hm_k
        have HR2 := Lib.hid hr_k; clear hr_k
        obtain rfl := p_k (by simp)
        have hkm : ks.length + 1 ≤ 9223372036854775807 := by
          have := hl_k
          simp only [List.length_cons] at this
          omega
        obtain ⟨es, gp, les, ces, rz, sg, hbm⟩ := HR2.out 0 z rfl
        obtain ⟨az1, cz1, az2, cz2, fz1, fz2, rfl, rz1, rz2, sz1, sz2⟩ := MExpr.op_enF rz
        have q0 : W1.cell? ⟨b_k, o_k, none⟩ = some (.int .i64 z.kind) := by
          have := ces 0 (by omega)
          simpa using this
        have q1 : W1.cell? ⟨b_k, o_k + 1, none⟩ = some (.string z.text) := by
          have := ces 1 (by omega)
          simpa using this
        have q2 : W1.cell? ⟨b_k, o_k + 2, none⟩ = some (.int .i64 z.number) := by
          have := ces 2 (by omega)
          simpa using this
        have q3 : W1.cell? ⟨b_k, o_k + 3, none⟩ = some (.slice az1 z.names.length cz1) := by
          have := ces 3 (by omega)
          simpa using this
        have q4 : W1.cell? ⟨b_k, o_k + 4, none⟩ = some (.slice az2 z.kids.length cz2) := by
          have := ces 4 (by omega)
          simpa using this
        have HRZ := Lib.hid rz
        obtain ⟨⟨stz, hokz⟩, hbz⟩ := HKD.out 0 z rfl (fun _ => rfl)
        have hbz' : D.length + z.d.bulk ≤ 4194304 := by omega
        have HOKZ := Lib.hid hokz
        have hkl : (1 : Int) ≤ ((z :: ks).length : Nat) := by simp; omega
        have HMS : Hid (∀ m, m ∈ ks → ∀ y, y ∈ m.kids → okR n false y ∧ D.length + y.d.bulk ≤ 4194304) := Lib.hid fun m hm y hy => ⟨(HMSG.out rfl m hm).2 y hy, by
          have h1 := MExpr.bulk_kid hy
          have h2 := HKNB.out m (List.mem_cons_of_mem _ hm)
          omega⟩
        clear ces les rz rz1 rz2 hokz
        go_wp2_with fail
        refine (ex_call IH.out (st := stz) (z := z) HOKZ.out HRZ.out (HOFF.out.sub (fun k hk => s2 k (sg k hk))) T1 (Newer.refl _ _) (Newer.refl _ _) HLOW.out HK1.out RC.out RV.out hbz').mono ?_
        rintro e w9 ⟨rfl, vd9, vp9, K9, T9, n9d, n9p⟩
        clear q0 q1 q2 q3 q4 HRZ HOKZ sz1 sz2
        obtain ⟨Pz, hPz⟩ : ∃ q, orT p (exV C V own D z) = q := ⟨_, rfl⟩
        have HPZ := Lib.hid hPz
        rw [hPz] at K9
        clear hPz
        go_wp2_with fail
        go_loopw [150] (fun iv wr => ∃ (i : Nat) (p2 : ByteArray) (vd2 vp2 : Value), i ≤ ks.length ∧ iv = .int .i64 i ∧ Chk wr B B0 cC mp cV own p2 D vd2 vp2 ∧ Touch W1 wr (obs B (.slice ad D.length cd) vp) ∧ Newer W1 (.slice ad D.length cd) vd2 ∧ Newer W1 vp vp2 ∧ Hid (orT p2 (firstT ((ks.drop i).map fun m => firstT (m.kids.map (exV C V own D)))) = orT Pz (firstT (ks.map fun m => firstT (m.kids.map (exV C V own D)))))) (fun iv _ => ks.length - (intOf iv).toNat)
        case atStart => exact ⟨0, Pz, vd9, vp9, Nat.zero_le _, rfl, K9, T9, n9d, n9p, Lib.hid rfl⟩
        case round =>
          obtain ⟨i, p2, vd2, vp2, hi, rfl, K2, T2, n2d, n2p, hQ⟩ := hrel
          by_cases hlt : i < ks.length
          · obtain ⟨m, hm⟩ : ∃ m, ks[i]? = some m := ⟨_, List.getElem?_eq_getElem hlt⟩
            obtain ⟨es, gm, les, ces, rz, sgm, hbm⟩ := HR2.out (i + 1) m (by simpa using hm)
            obtain ⟨az1, cz1, az2, cz2, fz1, fz2, rfl, rz1, rz2, sz1, sz2⟩ := MExpr.op_enF rz
            have hbm' := s2 _ hbm
            have hoi : ∀ j, o_k + (i + 1) * 5 + j = o_k + 5 + i * 5 + j := fun j => by omega
            have q0 : wr.cell? ⟨b_k, o_k + 5 + i * 5, none⟩ = some (.int .i64 m.kind) := Touch.cellAt T2 (HOFF.out _ hbm') (by
              have := ces 0 (by omega)
              rw [hoi] at this
              simpa using this)
            have q1 : wr.cell? ⟨b_k, o_k + 5 + i * 5 + 1, none⟩ = some (.string m.text) := Touch.cellAt T2 (HOFF.out _ hbm') (by
              have := ces 1 (by omega)
              rw [hoi] at this
              simpa using this)
            have q2 : wr.cell? ⟨b_k, o_k + 5 + i * 5 + 2, none⟩ = some (.int .i64 m.number) := Touch.cellAt T2 (HOFF.out _ hbm') (by
              have := ces 2 (by omega)
              rw [hoi] at this
              simpa using this)
            have q3 : wr.cell? ⟨b_k, o_k + 5 + i * 5 + 3, none⟩ = some (.slice az1 m.names.length cz1) := Touch.cellAt T2 (HOFF.out _ hbm') (by
              have := ces 3 (by omega)
              rw [hoi] at this
              simpa using this)
            have q4 : wr.cell? ⟨b_k, o_k + 5 + i * 5 + 4, none⟩ = some (.slice az2 m.kids.length cz2) := Touch.cellAt T2 (HOFF.out _ hbm') (by
              have := ces 4 (by omega)
              rw [hoi] at this
              simpa using this)
            have HMM := Lib.hid hm
            have HMK := Lib.hid (HMS.out m (List.mem_of_getElem? hm))
            have HRM := Lib.hid rz2
            have hil : (i : Int) < ks.length := by omega
            clear ces les rz rz1 rz2 hm
            go_upto_region 28 with fail
            generalize hS : World.alloc wr _ = W4
            have xm : Ext wr W4 := by rw [← hS]; exact (Ext.refl _).alloc _
            have zm : wr.heap.size < W4.heap.size := by rw [← hS]; simp
            have mm4 : W4.cell? ⟨wr.heap.size, 4, none⟩ = some (.slice az2 m.kids.length cz2) := by rw [← hS]; simp
            clear hS q0 q1 q2 q3 q4
            have K4 := K2.ext xm
            have T4 := T2.trans (Touch.of_ext xm _)
            obtain ⟨ak_m, ck_m, b_m, o_m, h1, hl_m, hm_m, p_m, hr_m⟩ := RepF.slmap HRM.out
            simp only [List.cons.injEq, and_true, Value.slice.injEq] at h1
            obtain ⟨rfl, -, rfl⟩ := h1
            unfold maxLen at hm_m
            have HRK := Lib.hid hr_m; clear hr_m
            go_wp2_with fail
            go_loopw [157] (fun iv w5 => ∃ (j : Nat) (p3 : ByteArray) (vd3 vp3 : Value), j ≤ m.kids.length ∧ iv = .int .i64 j ∧ Chk w5 B B0 cC mp cV own p3 D vd3 vp3 ∧ Touch W1 w5 (obs B (.slice ad D.length cd) vp) ∧ Newer W1 (.slice ad D.length cd) vd3 ∧ Newer W1 vp vp3 ∧ Hid (orT p3 (firstT ((m.kids.drop j).map (exV C V own D))) = orT p2 (firstT (m.kids.map (exV C V own D))))) (fun iv _ => m.kids.length - (intOf iv).toNat)
            case atStart => exact ⟨0, p2, vd2, vp2, Nat.zero_le _, rfl, K4, T4, n2d, n2p, Lib.hid rfl⟩
            case round =>
              obtain ⟨j, p3, vd3, vp3, hj, rfl, K3, T3, n3d, n3p, hQ3⟩ := hrel
              by_cases hlt3 : j < m.kids.length
              · obtain ⟨y, hy⟩ : ∃ y, m.kids[j]? = some y := ⟨_, List.getElem?_eq_getElem hlt3⟩
                obtain rfl := p_m (by omega)
                obtain ⟨es, gy, les, ces, ry, sgy, hbm3⟩ := HRK.out j y hy
                obtain ⟨ay1, cy1, ay2, cy2, fy1, fy2, rfl, -, -, -, -⟩ := MExpr.op_enF ry
                have hbm4 := s2 _ (sgm _ (sz2 _ hbm3))
                have q0 : wr.cell? ⟨b_m, o_m + j * 5, none⟩ = some _ := Touch.cellAt T3 (HOFF.out _ hbm4) (ces 0 (by omega))
                have q1 : wr.cell? ⟨b_m, o_m + j * 5 + 1, none⟩ = some _ := Touch.cellAt T3 (HOFF.out _ hbm4) (ces 1 (by omega))
                have q2 : wr.cell? ⟨b_m, o_m + j * 5 + 2, none⟩ = some _ := Touch.cellAt T3 (HOFF.out _ hbm4) (ces 2 (by omega))
                have q3 : wr.cell? ⟨b_m, o_m + j * 5 + 3, none⟩ = some _ := Touch.cellAt T3 (HOFF.out _ hbm4) (ces 3 (by omega))
                have q4 : wr.cell? ⟨b_m, o_m + j * 5 + 4, none⟩ = some _ := Touch.cellAt T3 (HOFF.out _ hbm4) (ces 4 (by omega))
                have HRY := Lib.hid ry
                have HYY := Lib.hid hy
                have hyo := HMK.out y (List.mem_of_getElem? hy)
                have HYO := Lib.hid hyo.1
                have hyb := hyo.2
                have hjl : (j : Int) < m.kids.length := by omega
                clear ces les ry hy hyo
                go_wp2_with fail
                refine (ex_call IH.out (st := false) (z := y) HYO.out HRY.out (HOFF.out.sub (fun k hk => s2 k (sgm k (sz2 k (sgy k hk))))) (T3.trans (Touch.of_ext ((Ext.refl _).alloc _) _)) n3d n3p HLOW.out (K3.ext ((Ext.refl _).alloc _)) RC.out RV.out hyb).mono ?_
                rintro e w9 ⟨rfl, vd8, vp8, K8, T8, n8d, n8p⟩
                go_wp2_with fail
                go_roundw
                case rel => exact ⟨j + 1, _, vd8, vp8, by omega, by go_num, K8, T8, n8d, n8p, Lib.hid (by
                  rw [← hQ3.out, drop_cons HYY.out, List.map_cons, firstT, orT_assoc])⟩
                case measure => simp [intOf]; omega
              · obtain rfl : j = m.kids.length := by omega
                have hQ4 : Hid (p3 = orT p2 (firstT (m.kids.map (exV C V own D)))) := Lib.hid (by
                  have := hQ3.out
                  rwa [List.drop_length, List.map_nil, firstT, orT_r] at this)
                go_wp2_with fail
                go_roundw
                case rel => exact ⟨i + 1, p3, vd3, vp3, by omega, by go_num, K3, T3, n3d, n3p, Lib.hid (by
                  rw [← hQ.out, drop_cons HMM.out, List.map_cons, firstT, hQ4.out, orT_assoc])⟩
                case measure => simp [intOf]; omega
          · obtain rfl : i = ks.length := by omega
            have EQ : Hid (orT p2 (firstT ([].map (exV C V own D))) = orT p (exV C V own D ⟨7, t, nu, nms, z :: ks⟩)) := Lib.hid (by
              have hq := hQ.out
              rw [List.drop_length, List.map_nil, firstT, orT_r] at hq
              rw [hq, HSUCC.out, kdsP_casc rfl, ← HPZ.out, orT_assoc]
              simp [headP, nextD, orT_l, firstT, orT_r, orT_assoc])
            go_wp2_with fail
            go_meet
            exact ⟨[], p2, D, _, _, none, 0, [], rfl, RepF.sl_iff.2 ⟨none, 0, rfl, by simp, by unfold maxLen; omega, by simp, Or.inl ⟨rfl, rfl⟩⟩, fun k hk => by simp at hk, K2, T2, n2d, n2p, ⟨[], (List.append_nil D).symm⟩, fun z hz => absurd hz List.not_mem_nil, EQ⟩
    have tc7 := int_ne hc7
    exact absurd HHEAD.out.2.2.1 (by simp only; omega)
  case rest =>
  obtain ⟨K', p', D', vd', vp', ak, ck, fk, rfl, RK, sk, K2, T2, n2d, n2p, ⟨E, hE⟩, hkz, EQ⟩ := hcut
  have HKZ := Lib.hid hkz
  have RKH := Lib.hid RK
  clear hkz e0 e3 e4 e5 e6 m0 m1 m2 m3 m4
  obtain ⟨ak_r, ck_r, b_r, o_r, h1, hl_r, hm_r, p_r, hr_r⟩ := RepF.slmap RKH.out
  simp only [List.cons.injEq, and_true, Value.slice.injEq] at h1
  obtain ⟨rfl, -, rfl⟩ := h1
  unfold maxLen at hm_r
  have HRK := Lib.hid hr_r; clear hr_r
  go_wp2_with fail
  go_loopw [168] (fun iv wr => ∃ (i : Nat) (p2 : ByteArray) (vd2 vp2 : Value), i ≤ K'.length ∧ iv = .int .i64 i ∧ Chk wr B B0 cC mp cV own p2 D' vd2 vp2 ∧ Touch W1 wr (obs B (.slice ad D.length cd) vp) ∧ Newer W1 (.slice ad D.length cd) vd2 ∧ Newer W1 vp vp2 ∧ Hid (orT p2 (firstT ((K'.drop i).map (exV C V own D'))) = orT p (exV C V own D ⟨kd, t, nu, nms, kids⟩))) (fun iv _ => K'.length - (intOf iv).toNat)
  case atStart => exact ⟨0, p', vd', vp', Nat.zero_le _, rfl, K2, T2, n2d, n2p, EQ⟩
  case round =>
    obtain ⟨i, p2, vd2, vp2, hi, rfl, K3, T3, n3d, n3p, hQ⟩ := hrel
    by_cases hlt : i < K'.length
    · obtain ⟨y, hy⟩ : ∃ y, K'[i]? = some y := ⟨_, List.getElem?_eq_getElem hlt⟩
      obtain rfl := p_r (by omega)
      obtain ⟨es, gy, les, ces, ry, sgy, hbm3⟩ := HRK.out i y hy
      obtain ⟨ay1, cy1, ay2, cy2, fy1, fy2, rfl, -, -, -, -⟩ := MExpr.op_enF ry
      have hbm4 := sk _ hbm3
      have q0 : wr.cell? ⟨b_r, o_r + i * 5, none⟩ = some _ := Touch.cellAt T3 (HOFF.out _ hbm4) (ces 0 (by omega))
      have q1 : wr.cell? ⟨b_r, o_r + i * 5 + 1, none⟩ = some _ := Touch.cellAt T3 (HOFF.out _ hbm4) (ces 1 (by omega))
      have q2 : wr.cell? ⟨b_r, o_r + i * 5 + 2, none⟩ = some _ := Touch.cellAt T3 (HOFF.out _ hbm4) (ces 2 (by omega))
      have q3 : wr.cell? ⟨b_r, o_r + i * 5 + 3, none⟩ = some _ := Touch.cellAt T3 (HOFF.out _ hbm4) (ces 3 (by omega))
      have q4 : wr.cell? ⟨b_r, o_r + i * 5 + 4, none⟩ = some _ := Touch.cellAt T3 (HOFF.out _ hbm4) (ces 4 (by omega))
      have HRY := Lib.hid ry
      have HYY := Lib.hid hy
      obtain ⟨⟨sty, hyo⟩, hyb⟩ := HKZ.out y (List.mem_of_getElem? hy)
      have HYO := Lib.hid hyo
      have hil : (i : Int) < K'.length := by omega
      clear ces les ry hy hyo
      go_wp2_with fail
      refine (ex_call IH.out (st := sty) (z := y) HYO.out HRY.out (HOFF.out.sub (fun k hk => sk k (sgy k hk))) (T3.trans (Touch.of_ext ((Ext.refl _).alloc _) _)) n3d n3p HLOW.out (K3.ext ((Ext.refl _).alloc _)) RC.out RV.out hyb).mono ?_
      rintro e w9 ⟨rfl, vd8, vp8, K8, T8, n8d, n8p⟩
      go_wp2_with fail
      go_roundw
      case rel => exact ⟨i + 1, _, vd8, vp8, by omega, by go_num, K8, T8, n8d, n8p, Lib.hid (by
        rw [← hQ.out, drop_cons HYY.out, List.map_cons, firstT, orT_assoc])⟩
      case measure => simp [intOf]; omega
    · obtain rfl : i = K'.length := by omega
      have HP : Hid (p2 = orT p (exV C V own D ⟨kd, t, nu, nms, kids⟩)) := Lib.hid (by
        have := hQ.out
        rwa [List.drop_length, List.map_nil, firstT, orT_r] at this)
      subst hE
      obtain ⟨-, -, -, -, -, y5, y6⟩ := K3.cells
      have y5f := K3.own.frozen 5
      have y6f := K3.own.frozen 6
      have zY := lt_of_cell y5
      have HK3 := Lib.hid K3
      have FD := Acc.form K3.ds
      have FP := Acc.form K3.ps
      simp only [List.length_map] at FD FP
      have HFD : Hid (D.length ≤ (D ++ E).length) := Lib.hid (by simp)
      rcases FD with hd | hd
      · rcases FP with hp | hp
        · obtain ⟨rfl, hnd⟩ := hd
          obtain ⟨rfl, hnp⟩ := hp
          have hz : (D ++ E).length = 0 := by
            have := congrArg List.length hnd
            simpa using this
          obtain ⟨rfl, rfl⟩ : D = [] ∧ E = [] := List.append_eq_nil_iff.1 (List.length_eq_zero_iff.1 hz)
          go_wp2_with fail
          go_end0
          obtain ⟨K6, T6⟩ := Chk.cuts (D := []) (v1 := .slice none 0 0) (v2 := .slice none 0 0) HK3.out (HK3.out.ds) (HK3.out.ps) rfl rfl
          refine ⟨rfl, _, _, by rw [← HP.out]; exact K6, ((Touch.of_ext x1 _).trans T3).trans (T6.mono fun b hb => mem_obs.2 (Or.inl (by simpa using hb))), ?_, ?_⟩
          · exact Newer.trans (Newer.refl w _) n3d x1.size
          · exact Newer.trans (Newer.refl w _) n3p x1.size
        · obtain ⟨rfl, hnd⟩ := hd
          obtain ⟨gp2, cp2, rfl, hcp, hcq⟩ := hp
          have hz : (D ++ E).length = 0 := by
            have := congrArg List.length hnd
            simpa using this
          obtain ⟨rfl, rfl⟩ : D = [] ∧ E = [] := List.append_eq_nil_iff.1 (List.length_eq_zero_iff.1 hz)
          unfold maxLen at *
          go_wp2_with fail
          go_end0
          obtain ⟨K6, T6⟩ := Chk.cuts (D := []) (v1 := .slice none 0 0) (v2 := .slice (some ⟨gp2, 0, none⟩) 0 cp2) HK3.out (HK3.out.ds) (HK3.out.ps) rfl rfl
          refine ⟨rfl, _, _, by rw [← HP.out]; exact K6, ((Touch.of_ext x1 _).trans T3).trans (T6.mono fun b hb => mem_obs.2 (Or.inl (by simpa using hb))), ?_, ?_⟩
          · exact Newer.trans (Newer.refl w _) n3d x1.size
          · exact Newer.trans (Newer.refl w _) n3p x1.size
      · rcases FP with hp | hp
        · obtain ⟨gd2, cd2, rfl, hcd, hcm⟩ := hd
          obtain ⟨rfl, hnp⟩ := hp
          have hz : (D ++ E).length = 0 := by
            have := congrArg List.length hnp
            simpa using this
          obtain ⟨rfl, rfl⟩ : D = [] ∧ E = [] := List.append_eq_nil_iff.1 (List.length_eq_zero_iff.1 hz)
          unfold maxLen at *
          go_wp2_with fail
          go_end0
          obtain ⟨K6, T6⟩ := Chk.cuts (D := []) (v1 := .slice (some ⟨gd2, 0, none⟩) 0 cd2) (v2 := .slice none 0 0) HK3.out (HK3.out.ds) (HK3.out.ps) rfl rfl
          refine ⟨rfl, _, _, by rw [← HP.out]; exact K6, ((Touch.of_ext x1 _).trans T3).trans (T6.mono fun b hb => mem_obs.2 (Or.inl (by simpa using hb))), ?_, ?_⟩
          · exact Newer.trans (Newer.refl w _) n3d x1.size
          · exact Newer.trans (Newer.refl w _) n3p x1.size
        · obtain ⟨gd2, cd2, rfl, hcd, hcm⟩ := hd
          obtain ⟨gp2, cp2, rfl, hcp, hcq⟩ := hp
          have hle : (D.length : Int) ≤ (D ++ E).length := by rw [List.length_append]; omega
          unfold maxLen at *
          go_wp2_with fail
          go_end0
          obtain ⟨K6, T6⟩ := Chk.cuts (D := D) (v1 := .slice (some ⟨gd2, 0, none⟩) D.length cd2) (v2 := .slice (some ⟨gp2, 0, none⟩) D.length cp2) HK3.out (Acc.cut (E := (E.map Prod.fst).map .str) (by have := HK3.out.ds; unfold AccT at this; simpa only [List.map_append] using this) (by simp)) (Acc.cut (E := (E.map Prod.snd).map .bool) (by have := HK3.out.ps; unfold AccB at this; simpa only [List.map_append] using this) (by simp)) rfl rfl
          refine ⟨rfl, _, _, by rw [← HP.out]; exact K6, ((Touch.of_ext x1 _).trans T3).trans (T6.mono fun b hb => mem_obs.2 (Or.inl (by simpa using hb))), ?_, ?_⟩
          · exact Newer.trans (Newer.refl w _) n3d x1.size
          · exact Newer.trans (Newer.refl w _) n3p x1.size

theorem ex_at (C V : List ByteArray) (own : Bool) : ∀ n, ExAt C V own n
  | 0 => fun st x cx fp B B0 cC mp cV p D vd vp w h => absurd h (by simp [okR])
  | n + 1 => ex_step C V own n (Lib.hid (ex_at C V own n))

end Go.Proofs.YtlppoffneeglgaaGreatDoor
