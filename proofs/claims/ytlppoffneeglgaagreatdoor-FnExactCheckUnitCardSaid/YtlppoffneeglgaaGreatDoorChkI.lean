/-
  CONTRACTS: the checker of CheckUnit, of the program.
  Conditions: those that each lemma states.
-/
import Derived.Test.YtlppoffneeglgaaGreatDoorRows
import Derived.Test.YtlppoffneeglgaaGreatDoorChkS
namespace Go.Proofs.YtlppoffneeglgaaGreatDoor
open Go.RowKit
set_option linter.unusedSimpArgs false
set_option linter.unusedVariables false

set_option maxHeartbeats 2000000 in
set_option maxRecDepth 100000 in
theorem report_any {B B0 : Nat} {cC mp cV : Value} {own : Bool} {p : ByteArray} {D : Scope} {vd vp : Value} (t : ByteArray) (w : World) (h : Chk w B B0 cC mp cV own p D vd vp) : Calls Tryz.prog 42 #[.pointer (some ⟨B, 0, none⟩), .string t] w fun e w' => e = .returned (.tuple #[]) ∧ Chk w' B B0 cC mp cV own (orT p t) D vd vp ∧ Touch w w' [B] := by
  have HC := Lib.hid h
  obtain ⟨-, -, c2, -, -, -, -⟩ := h.cells
  have z2 := h.own.frozen 2
  have zB := lt_of_cell c2
  clear h
  by_cases hp : p.size = 0
  · have HV : Hid (orT p t = t) := Lib.hid (orT_z hp t)
    obtain rfl := size_nil hp
    clear hp
    go_enter Tryz.func42, Tryz.ntmps42
    go_wp2_with fail
    go_end0
    obtain ⟨k1, k2⟩ := HC.out.set t
    exact ⟨rfl, by rw [HV.out]; exact k1, k2⟩
  · have HV : Hid (orT p t = p) := Lib.hid (orT_ne hp t)
    have t1 : (p.toList == []) = false := str_ne' (l := []) (fun e => hp (by rw [e]; rfl))
    clear hp
    go_enter Tryz.func42, Tryz.ntmps42
    go_wp2_with fail
    go_end0
    exact ⟨rfl, by rw [HV.out]; exact HC.out, Touch.of_ext (Ext.refl _) _⟩

set_option maxHeartbeats 2000000 in
set_option maxRecDepth 100000 in
theorem reserved_any (s : ByteArray) (w : World) : Calls Tryz.prog 41 #[.string s] w fun e w' => e = .returned (.bool (hasB resB s)) ∧ w' = w := by
  by_cases h0 : s = ⟨#[115, 101, 108, 102]⟩
  · have HV : Hid (hasB resB s = true) := Lib.hid (by rw [hasB_iff, h0]; simp [resB])
    have t0 := str_eq' (l := [115, 101, 108, 102]) h0
    clear h0
    go_enter Tryz.func41, Tryz.ntmps41
    go_wp2_with fail
    go_ret
    exact ⟨ret_bool HV.out.symm, rfl⟩
  have t0 := str_ne' (l := [115, 101, 108, 102]) h0
  by_cases h1 : s = ⟨#[115, 117, 112, 101, 114]⟩
  · have HV : Hid (hasB resB s = true) := Lib.hid (by rw [hasB_iff, h1]; simp [resB])
    have t1 := str_eq' (l := [115, 117, 112, 101, 114]) h1
    clear h1
    go_enter Tryz.func41, Tryz.ntmps41
    go_wp2_with fail
    go_ret
    exact ⟨ret_bool HV.out.symm, rfl⟩
  have t1 := str_ne' (l := [115, 117, 112, 101, 114]) h1
  by_cases h2 : s = ⟨#[110, 105, 108]⟩
  · have HV : Hid (hasB resB s = true) := Lib.hid (by rw [hasB_iff, h2]; simp [resB])
    have t2 := str_eq' (l := [110, 105, 108]) h2
    clear h2
    go_enter Tryz.func41, Tryz.ntmps41
    go_wp2_with fail
    go_ret
    exact ⟨ret_bool HV.out.symm, rfl⟩
  have t2 := str_ne' (l := [110, 105, 108]) h2
  by_cases h3 : s = ⟨#[116, 114, 117, 101]⟩
  · have HV : Hid (hasB resB s = true) := Lib.hid (by rw [hasB_iff, h3]; simp [resB])
    have t3 := str_eq' (l := [116, 114, 117, 101]) h3
    clear h3
    go_enter Tryz.func41, Tryz.ntmps41
    go_wp2_with fail
    go_ret
    exact ⟨ret_bool HV.out.symm, rfl⟩
  have t3 := str_ne' (l := [116, 114, 117, 101]) h3
  by_cases h4 : s = ⟨#[102, 97, 108, 115, 101]⟩
  · have HV : Hid (hasB resB s = true) := Lib.hid (by rw [hasB_iff, h4]; simp [resB])
    have t4 := str_eq' (l := [102, 97, 108, 115, 101]) h4
    clear h4
    go_enter Tryz.func41, Tryz.ntmps41
    go_wp2_with fail
    go_ret
    exact ⟨ret_bool HV.out.symm, rfl⟩
  have t4 := str_ne' (l := [102, 97, 108, 115, 101]) h4
  have HV : Hid (hasB resB s = false) := Lib.hid (by
    cases h : hasB resB s
    · rfl
    · rw [hasB_iff] at h
      simp only [resB, List.mem_cons, List.not_mem_nil, or_false] at h
      rcases h with h | h | h | h | h
      · exact absurd h h0
      · exact absurd h h1
      · exact absurd h h2
      · exact absurd h h3
      · exact absurd h h4)
  clear h0 h1 h2 h3 h4
  go_enter Tryz.func41, Tryz.ntmps41
  go_wp2_with fail
  go_ret
  exact ⟨ret_bool HV.out.symm, rfl⟩

set_option maxHeartbeats 2000000 in
set_option maxRecDepth 100000 in
theorem declare_any (C V : List ByteArray) {B B0 : Nat} {cC mp cV : Value} {own : Bool} {p : ByteArray} {D : Scope} {vd vp : Value} (n : ByteArray) (b : Bool) (w : World) (h : Chk w B B0 cC mp cV own p D vd vp) (rC : RepL w B B0 (strs C) cC) (rV : RepL w B B0 (strs V) cV) (hn : n.size ≤ 1048576) (hD : D.length ≤ 4194304) : Calls Tryz.prog 44 #[.pointer (some ⟨B, 0, none⟩), .string n, .bool b] w fun e w' => e = .returned (.tuple #[]) ∧ ∃ vd' vp', Chk w' B B0 cC mp cV own (orT p (useP C V D n)) (D ++ [(n, b)]) vd' vp' ∧ Touch w w' (obs B vd vp) ∧ Newer w vd vd' ∧ Newer w vp vp' := by
  have HC := Lib.hid h
  have RC := Lib.hid rC.rep
  have RV := Lib.hid rV.rep
  have RD : Hid (Rep w (strs (D.map Prod.fst)) [vd]) := Lib.hid (by
    obtain ⟨ao, cap, gp, h1, h2, -⟩ := AccT.rep h.ds
    rw [h1]; exact h2.rep)
  obtain ⟨c0, -, -, c3, -, c5, -⟩ := h.cells
  have zB := lt_of_cell c0
  clear h rC rV
  have HT : Hid (usedB C V D n = true → useP C V D n = tUse n) := Lib.hid fun h => if_pos h
  have HF : Hid (usedB C V D n = false → useP C V D n = ⟨#[]⟩) := Lib.hid fun h => if_neg (by rw [h]; exact Bool.false_ne_true)
  cases u0 : hasB (D.map Prod.fst) n
  rotate_left
  · have HU : usedB C V D n = true := by unfold usedB; simp [u0]
    have HV := Lib.hid (HT.out HU)
    clear HU HT HF
    go_enter Tryz.func44, Tryz.ntmps44
    go_wp2_with fail
    refine (contains_any (D.map Prod.fst) vd n _ RD.out).mono ?_
    rw [u0]
    rintro e wq ⟨rfl, hq⟩
    subst wq
    go_wp2_with fail
    refine (report_any _ _ HC.out).mono ?_
    rintro e w2 ⟨rfl, K2, T2⟩
    clear c0 c3 c5 zB
    obtain ⟨-, -, -, -, -, e5, -⟩ := K2.cells
    have y5 := K2.own.frozen 5
    have yB := lt_of_cell e5
    have yle := K2.le
    have KD := AccT.ext K2.ds ((Ext.refl w2).alloc (.cells #[.string n] 9))
    have hDl : (D.map Prod.fst).length = D.length := List.length_map _
    have hDm : (D.map Prod.snd).length = D.length := List.length_map _
    go_wp2_with (at_builtin; refine wpList_append_strs_at rfl _ _ rfl B0 vd (D.map Prod.fst) rfl KD [n] _ _ _ rfl (rep_one _ _) (by simp; omega) (by simp; omega) ?_)
    intro a1 k1 w3 ac1 g1 n1
    obtain ⟨O3, O4, A4, P4, T4, ne4, nw4⟩ := Chk.app1 K2 ((Ext.refl w2).alloc _) g1 ac1 (n1.imp id (fun h => h.trans (by simp)))
    have d5 := O3.frozen 5
    have d5c : w3.cell? ⟨B, 5, none⟩ = some vd := by rw [O3.cell]; rfl
    have z3 := lt_of_cell d5c
    clear KD g1 ac1 n1 e5 y5 yB O3
    generalize hv1 : Value.slice a1 ((D.map Prod.fst).length + [n].length) k1 = v1 at *
    go_upto_region 3 with fail
    generalize hS : World.setCell w3 _ _ = w4 at *
    have d6 := O4.frozen 6
    have d6c : w4.cell? ⟨B, 6, none⟩ = some vp := by rw [O4.cell]; rfl
    have z4 := lt_of_cell d6c
    have l4 : B0 ≤ w4.heap.size := Nat.le_trans yle T4.size
    have KP := Acc.ext P4 ((Ext.refl w4).alloc (.cells #[.bool b] 4))
    clear hS d5 d5c z3
    go_wp2_with (at_builtin; refine wpList_append_bools rfl _ _ rfl B0 vp (D.map Prod.snd) rfl KP [b] _ _ _ rfl (rep_oneb _ _) (by simp; omega) (by simp; omega) ?_)
    intro a2 k2 w5 ac2 g2 n2
    obtain ⟨O5, K6, T6, nw6⟩ := Chk.app2 (E := D ++ [(n, b)]) K2 O4 (by rw [List.map_append]; exact A4) P4 T4 ne4 nw4 ((Ext.refl _).alloc _) g2 (by rw [List.map_append]; exact ac2) (n2.imp id (fun h => h.trans (by simp)))
    have d7 := O5.frozen 6
    have d7c : w5.cell? ⟨B, 6, none⟩ = some vp := by rw [O5.cell]; rfl
    have z5 := lt_of_cell d7c
    clear KP g2 ac2 n2 O4 A4 P4 ne4 d6 d6c z4 O5
    go_wp2_with fail
    go_end0
    refine ⟨rfl, _, _, by rw [HV.out]; exact K6, (T2.mono fun b hb => mem_obs.2 (Or.inl (by simpa using hb))).trans T6, ?_, ?_⟩
    · exact Newer.trans (Newer.refl w vd) nw4 T2.size
    · exact Newer.trans (Newer.refl w vp) nw6 T2.size
  cases u1 : hasB V n
  rotate_left
  · have HU : usedB C V D n = true := by unfold usedB; simp [u0, u1]
    have HV := Lib.hid (HT.out HU)
    clear HU HT HF
    go_enter Tryz.func44, Tryz.ntmps44
    go_wp2_with fail
    refine (contains_any (D.map Prod.fst) vd n _ RD.out).mono ?_
    rw [u0]
    rintro e wq ⟨rfl, hq⟩
    subst wq
    go_wp2_with fail
    refine (contains_any V cV n _ RV.out).mono ?_
    rw [u1]
    rintro e wq ⟨rfl, hq⟩
    subst wq
    go_wp2_with fail
    refine (report_any _ _ HC.out).mono ?_
    rintro e w2 ⟨rfl, K2, T2⟩
    clear c0 c3 c5 zB
    obtain ⟨-, -, -, -, -, e5, -⟩ := K2.cells
    have y5 := K2.own.frozen 5
    have yB := lt_of_cell e5
    have yle := K2.le
    have KD := AccT.ext K2.ds ((Ext.refl w2).alloc (.cells #[.string n] 9))
    have hDl : (D.map Prod.fst).length = D.length := List.length_map _
    have hDm : (D.map Prod.snd).length = D.length := List.length_map _
    go_wp2_with (at_builtin; refine wpList_append_strs_at rfl _ _ rfl B0 vd (D.map Prod.fst) rfl KD [n] _ _ _ rfl (rep_one _ _) (by simp; omega) (by simp; omega) ?_)
    intro a1 k1 w3 ac1 g1 n1
    obtain ⟨O3, O4, A4, P4, T4, ne4, nw4⟩ := Chk.app1 K2 ((Ext.refl w2).alloc _) g1 ac1 (n1.imp id (fun h => h.trans (by simp)))
    have d5 := O3.frozen 5
    have d5c : w3.cell? ⟨B, 5, none⟩ = some vd := by rw [O3.cell]; rfl
    have z3 := lt_of_cell d5c
    clear KD g1 ac1 n1 e5 y5 yB O3
    generalize hv1 : Value.slice a1 ((D.map Prod.fst).length + [n].length) k1 = v1 at *
    go_upto_region 3 with fail
    generalize hS : World.setCell w3 _ _ = w4 at *
    have d6 := O4.frozen 6
    have d6c : w4.cell? ⟨B, 6, none⟩ = some vp := by rw [O4.cell]; rfl
    have z4 := lt_of_cell d6c
    have l4 : B0 ≤ w4.heap.size := Nat.le_trans yle T4.size
    have KP := Acc.ext P4 ((Ext.refl w4).alloc (.cells #[.bool b] 4))
    clear hS d5 d5c z3
    go_wp2_with (at_builtin; refine wpList_append_bools rfl _ _ rfl B0 vp (D.map Prod.snd) rfl KP [b] _ _ _ rfl (rep_oneb _ _) (by simp; omega) (by simp; omega) ?_)
    intro a2 k2 w5 ac2 g2 n2
    obtain ⟨O5, K6, T6, nw6⟩ := Chk.app2 (E := D ++ [(n, b)]) K2 O4 (by rw [List.map_append]; exact A4) P4 T4 ne4 nw4 ((Ext.refl _).alloc _) g2 (by rw [List.map_append]; exact ac2) (n2.imp id (fun h => h.trans (by simp)))
    have d7 := O5.frozen 6
    have d7c : w5.cell? ⟨B, 6, none⟩ = some vp := by rw [O5.cell]; rfl
    have z5 := lt_of_cell d7c
    clear KP g2 ac2 n2 O4 A4 P4 ne4 d6 d6c z4 O5
    go_wp2_with fail
    go_end0
    refine ⟨rfl, _, _, by rw [HV.out]; exact K6, (T2.mono fun b hb => mem_obs.2 (Or.inl (by simpa using hb))).trans T6, ?_, ?_⟩
    · exact Newer.trans (Newer.refl w vd) nw4 T2.size
    · exact Newer.trans (Newer.refl w vp) nw6 T2.size
  cases u2 : hasB C n
  rotate_left
  · have HU : usedB C V D n = true := by unfold usedB; simp [u0, u1, u2]
    have HV := Lib.hid (HT.out HU)
    clear HU HT HF
    go_enter Tryz.func44, Tryz.ntmps44
    go_wp2_with fail
    refine (contains_any (D.map Prod.fst) vd n _ RD.out).mono ?_
    rw [u0]
    rintro e wq ⟨rfl, hq⟩
    subst wq
    go_wp2_with fail
    refine (contains_any V cV n _ RV.out).mono ?_
    rw [u1]
    rintro e wq ⟨rfl, hq⟩
    subst wq
    go_wp2_with fail
    refine (contains_any C cC n _ RC.out).mono ?_
    rw [u2]
    rintro e wq ⟨rfl, hq⟩
    subst wq
    go_wp2_with fail
    refine (report_any _ _ HC.out).mono ?_
    rintro e w2 ⟨rfl, K2, T2⟩
    clear c0 c3 c5 zB
    obtain ⟨-, -, -, -, -, e5, -⟩ := K2.cells
    have y5 := K2.own.frozen 5
    have yB := lt_of_cell e5
    have yle := K2.le
    have KD := AccT.ext K2.ds ((Ext.refl w2).alloc (.cells #[.string n] 9))
    have hDl : (D.map Prod.fst).length = D.length := List.length_map _
    have hDm : (D.map Prod.snd).length = D.length := List.length_map _
    go_wp2_with (at_builtin; refine wpList_append_strs_at rfl _ _ rfl B0 vd (D.map Prod.fst) rfl KD [n] _ _ _ rfl (rep_one _ _) (by simp; omega) (by simp; omega) ?_)
    intro a1 k1 w3 ac1 g1 n1
    obtain ⟨O3, O4, A4, P4, T4, ne4, nw4⟩ := Chk.app1 K2 ((Ext.refl w2).alloc _) g1 ac1 (n1.imp id (fun h => h.trans (by simp)))
    have d5 := O3.frozen 5
    have d5c : w3.cell? ⟨B, 5, none⟩ = some vd := by rw [O3.cell]; rfl
    have z3 := lt_of_cell d5c
    clear KD g1 ac1 n1 e5 y5 yB O3
    generalize hv1 : Value.slice a1 ((D.map Prod.fst).length + [n].length) k1 = v1 at *
    go_upto_region 3 with fail
    generalize hS : World.setCell w3 _ _ = w4 at *
    have d6 := O4.frozen 6
    have d6c : w4.cell? ⟨B, 6, none⟩ = some vp := by rw [O4.cell]; rfl
    have z4 := lt_of_cell d6c
    have l4 : B0 ≤ w4.heap.size := Nat.le_trans yle T4.size
    have KP := Acc.ext P4 ((Ext.refl w4).alloc (.cells #[.bool b] 4))
    clear hS d5 d5c z3
    go_wp2_with (at_builtin; refine wpList_append_bools rfl _ _ rfl B0 vp (D.map Prod.snd) rfl KP [b] _ _ _ rfl (rep_oneb _ _) (by simp; omega) (by simp; omega) ?_)
    intro a2 k2 w5 ac2 g2 n2
    obtain ⟨O5, K6, T6, nw6⟩ := Chk.app2 (E := D ++ [(n, b)]) K2 O4 (by rw [List.map_append]; exact A4) P4 T4 ne4 nw4 ((Ext.refl _).alloc _) g2 (by rw [List.map_append]; exact ac2) (n2.imp id (fun h => h.trans (by simp)))
    have d7 := O5.frozen 6
    have d7c : w5.cell? ⟨B, 6, none⟩ = some vp := by rw [O5.cell]; rfl
    have z5 := lt_of_cell d7c
    clear KP g2 ac2 n2 O4 A4 P4 ne4 d6 d6c z4 O5
    go_wp2_with fail
    go_end0
    refine ⟨rfl, _, _, by rw [HV.out]; exact K6, (T2.mono fun b hb => mem_obs.2 (Or.inl (by simpa using hb))).trans T6, ?_, ?_⟩
    · exact Newer.trans (Newer.refl w vd) nw4 T2.size
    · exact Newer.trans (Newer.refl w vp) nw6 T2.size
  cases u3 : hasB resB n
  rotate_left
  · have HU : usedB C V D n = true := by unfold usedB; simp [u0, u1, u2, u3]
    have HV := Lib.hid (HT.out HU)
    clear HU HT HF
    go_enter Tryz.func44, Tryz.ntmps44
    go_wp2_with fail
    refine (contains_any (D.map Prod.fst) vd n _ RD.out).mono ?_
    rw [u0]
    rintro e wq ⟨rfl, hq⟩
    subst wq
    go_wp2_with fail
    refine (contains_any V cV n _ RV.out).mono ?_
    rw [u1]
    rintro e wq ⟨rfl, hq⟩
    subst wq
    go_wp2_with fail
    refine (contains_any C cC n _ RC.out).mono ?_
    rw [u2]
    rintro e wq ⟨rfl, hq⟩
    subst wq
    go_wp2_with fail
    refine (reserved_any n _).mono ?_
    rw [u3]
    rintro e wq ⟨rfl, hq⟩
    subst wq
    go_wp2_with fail
    refine (report_any _ _ HC.out).mono ?_
    rintro e w2 ⟨rfl, K2, T2⟩
    clear c0 c3 c5 zB
    obtain ⟨-, -, -, -, -, e5, -⟩ := K2.cells
    have y5 := K2.own.frozen 5
    have yB := lt_of_cell e5
    have yle := K2.le
    have KD := AccT.ext K2.ds ((Ext.refl w2).alloc (.cells #[.string n] 9))
    have hDl : (D.map Prod.fst).length = D.length := List.length_map _
    have hDm : (D.map Prod.snd).length = D.length := List.length_map _
    go_wp2_with (at_builtin; refine wpList_append_strs_at rfl _ _ rfl B0 vd (D.map Prod.fst) rfl KD [n] _ _ _ rfl (rep_one _ _) (by simp; omega) (by simp; omega) ?_)
    intro a1 k1 w3 ac1 g1 n1
    obtain ⟨O3, O4, A4, P4, T4, ne4, nw4⟩ := Chk.app1 K2 ((Ext.refl w2).alloc _) g1 ac1 (n1.imp id (fun h => h.trans (by simp)))
    have d5 := O3.frozen 5
    have d5c : w3.cell? ⟨B, 5, none⟩ = some vd := by rw [O3.cell]; rfl
    have z3 := lt_of_cell d5c
    clear KD g1 ac1 n1 e5 y5 yB O3
    generalize hv1 : Value.slice a1 ((D.map Prod.fst).length + [n].length) k1 = v1 at *
    go_upto_region 3 with fail
    generalize hS : World.setCell w3 _ _ = w4 at *
    have d6 := O4.frozen 6
    have d6c : w4.cell? ⟨B, 6, none⟩ = some vp := by rw [O4.cell]; rfl
    have z4 := lt_of_cell d6c
    have l4 : B0 ≤ w4.heap.size := Nat.le_trans yle T4.size
    have KP := Acc.ext P4 ((Ext.refl w4).alloc (.cells #[.bool b] 4))
    clear hS d5 d5c z3
    go_wp2_with (at_builtin; refine wpList_append_bools rfl _ _ rfl B0 vp (D.map Prod.snd) rfl KP [b] _ _ _ rfl (rep_oneb _ _) (by simp; omega) (by simp; omega) ?_)
    intro a2 k2 w5 ac2 g2 n2
    obtain ⟨O5, K6, T6, nw6⟩ := Chk.app2 (E := D ++ [(n, b)]) K2 O4 (by rw [List.map_append]; exact A4) P4 T4 ne4 nw4 ((Ext.refl _).alloc _) g2 (by rw [List.map_append]; exact ac2) (n2.imp id (fun h => h.trans (by simp)))
    have d7 := O5.frozen 6
    have d7c : w5.cell? ⟨B, 6, none⟩ = some vp := by rw [O5.cell]; rfl
    have z5 := lt_of_cell d7c
    clear KP g2 ac2 n2 O4 A4 P4 ne4 d6 d6c z4 O5
    go_wp2_with fail
    go_end0
    refine ⟨rfl, _, _, by rw [HV.out]; exact K6, (T2.mono fun b hb => mem_obs.2 (Or.inl (by simpa using hb))).trans T6, ?_, ?_⟩
    · exact Newer.trans (Newer.refl w vd) nw4 T2.size
    · exact Newer.trans (Newer.refl w vp) nw6 T2.size
  have HU : usedB C V D n = false := by unfold usedB; simp [u0, u1, u2, u3]
  have HV := Lib.hid (HF.out HU)
  clear HU HT HF
  go_enter Tryz.func44, Tryz.ntmps44
  go_wp2_with fail
  refine (contains_any (D.map Prod.fst) vd n _ RD.out).mono ?_
  rw [u0]
  rintro e wq ⟨rfl, hq⟩
  subst wq
  go_wp2_with fail
  refine (contains_any V cV n _ RV.out).mono ?_
  rw [u1]
  rintro e wq ⟨rfl, hq⟩
  subst wq
  go_wp2_with fail
  refine (contains_any C cC n _ RC.out).mono ?_
  rw [u2]
  rintro e wq ⟨rfl, hq⟩
  subst wq
  go_wp2_with fail
  refine (reserved_any n _).mono ?_
  rw [u3]
  rintro e wq ⟨rfl, hq⟩
  subst wq
  clear c0 c3 c5 zB
  have K2 := HC.out
  obtain ⟨-, -, -, -, -, e5, -⟩ := K2.cells
  have y5 := K2.own.frozen 5
  have yB := lt_of_cell e5
  have yle := K2.le
  have KD := AccT.ext K2.ds ((Ext.refl w).alloc (.cells #[.string n] 9))
  have hDl : (D.map Prod.fst).length = D.length := List.length_map _
  have hDm : (D.map Prod.snd).length = D.length := List.length_map _
  go_wp2_with (at_builtin; refine wpList_append_strs_at rfl _ _ rfl B0 vd (D.map Prod.fst) rfl KD [n] _ _ _ rfl (rep_one _ _) (by simp; omega) (by simp; omega) ?_)
  intro a1 k1 w3 ac1 g1 n1
  obtain ⟨O3, O4, A4, P4, T4, ne4, nw4⟩ := Chk.app1 K2 ((Ext.refl w).alloc _) g1 ac1 (n1.imp id (fun h => h.trans (by simp)))
  have d5 := O3.frozen 5
  have d5c : w3.cell? ⟨B, 5, none⟩ = some vd := by rw [O3.cell]; rfl
  have z3 := lt_of_cell d5c
  clear KD g1 ac1 n1 e5 y5 yB O3
  generalize hv1 : Value.slice a1 ((D.map Prod.fst).length + [n].length) k1 = v1 at *
  go_upto_region 3 with fail
  generalize hS : World.setCell w3 _ _ = w4 at *
  have d6 := O4.frozen 6
  have d6c : w4.cell? ⟨B, 6, none⟩ = some vp := by rw [O4.cell]; rfl
  have z4 := lt_of_cell d6c
  have l4 : B0 ≤ w4.heap.size := Nat.le_trans yle T4.size
  have KP := Acc.ext P4 ((Ext.refl w4).alloc (.cells #[.bool b] 4))
  clear hS d5 d5c z3
  go_wp2_with (at_builtin; refine wpList_append_bools rfl _ _ rfl B0 vp (D.map Prod.snd) rfl KP [b] _ _ _ rfl (rep_oneb _ _) (by simp; omega) (by simp; omega) ?_)
  intro a2 k2 w5 ac2 g2 n2
  obtain ⟨O5, K6, T6, nw6⟩ := Chk.app2 (E := D ++ [(n, b)]) K2 O4 (by rw [List.map_append]; exact A4) P4 T4 ne4 nw4 ((Ext.refl _).alloc _) g2 (by rw [List.map_append]; exact ac2) (n2.imp id (fun h => h.trans (by simp)))
  have d7 := O5.frozen 6
  have d7c : w5.cell? ⟨B, 6, none⟩ = some vp := by rw [O5.cell]; rfl
  have z5 := lt_of_cell d7c
  clear KP g2 ac2 n2 O4 A4 P4 ne4 d6 d6c z4 O5
  go_wp2_with fail
  go_end0
  refine ⟨rfl, _, _, by rw [HV.out, orT_r]; exact K6, T6, nw4, nw6⟩

end Go.Proofs.YtlppoffneeglgaaGreatDoor
