/-
  CONTRACTS: the checker's class, of the program.
  Conditions: those that each lemma states.
-/
import Derived.Test.YtlppoffneeglgaaGreatDoorRows
import Derived.Test.YtlppoffneeglgaaGreatDoorChkB
import Derived.Test.YtlppoffneeglgaaGreatDoorChkN
import Derived.Deep.RegionHeld3
import Derived.Deep.DeepCutAuto
import Derived.Deep.CutBlock
import Derived.BigQuiet
namespace Go.Proofs.YtlppoffneeglgaaGreatDoor
open Go.RowKit Go.Maps Go.WideMaps
set_option linter.unusedSimpArgs false
set_option linter.unusedVariables false

theorem Chk.calm {w w' : World} {B B0 : Nat} {cC mp cV : Value} {own : Bool} {p : ByteArray} {fp : List Nat} (h : Chk w B B0 cC mp cV own p [] (.slice none 0 0) (.slice none 0 0)) (T : Touch w w' fp) (hB : B ∉ fp) : Chk w' B B0 cC mp cV own p [] (.slice none 0 0) (.slice none 0 0) :=
  ⟨h.own.touch' T hB, h.lt, Nat.le_trans h.le T.size, Acc.touch h.ds T (fun k hk => nomatch hk) (fun k hk => nomatch hk), Acc.touch h.ps T (fun k hk => nomatch hk) (fun k hk => nomatch hk), fun k hk => nomatch hk⟩
theorem own_map_touch {w w' : World} {P : Program} {k : TypeId} {R : Value → Option (DataW Value × List MemPlace)} {b n : Nat} {D : DataW Value} {fp : List Nat} (h : World.ownsMap (H := Value) w P k R b n D) (T : Touch w w' fp) (hb : b ∉ fp) : World.ownsMap (H := Value) w' P k R b n D := by
  have hlt := h.lt
  obtain ⟨es, clock, h1, F, hs, hD⟩ := h
  exact ⟨es, clock, (T.block b hlt hb).trans h1, F, hs, hD⟩
theorem grown_touch {w w' : World} {b : Nat} (h : w.grownBy w' (some b)) : Touch w w' [b] := (Touch.of_ext (Ext.refl w) [b]).grown h fun k hk => Or.inl (by cases hk; simp)
theorem rep_drop {w : World} {l : List ByteArray} {b o c : Nat} (h : Rep w (strs l) [.slice (some ⟨b, o, none⟩) l.length c]) (k : Nat) (hk : k ≤ l.length) (A : Addr) (hA : k < l.length → A = ⟨b, o + k, none⟩) : Rep w (strs (l.drop k)) [.slice (some A) (l.length - k) (c - k)] := by
  obtain ⟨ao, cap, b', o', h1, hl, hm, hp, hc⟩ := h.strs
  simp only [List.cons.injEq, and_true, Value.slice.injEq] at h1
  obtain ⟨h1, -, rfl⟩ := h1
  have e : (l.drop k).length = l.length - k := List.length_drop
  by_cases hkl : k < l.length
  · obtain rfl := hA hkl
    have := hp (by omega)
    rw [← h1] at this
    simp only [Option.some.injEq, Addr.mk.injEq, and_true] at this
    obtain ⟨rfl, rfl⟩ := this
    have h0 := hc 0 _ (List.getElem?_eq_getElem (by omega))
    rw [← e]
    exact ⟨_, RepF.strs_mk (by omega) (by omega) (fun h0 => by have := congrArg List.length h0; simp at this; omega) (lt_of_cell h0) fun i s hi => by
      rw [List.getElem?_drop] at hi
      have := hc _ s hi
      rwa [Nat.add_assoc]⟩
  · have h0 : l.drop k = [] := List.drop_eq_nil_of_le (by omega)
    rw [h0]
    exact ⟨[], RepF.sl_iff.2 ⟨some A, c - k, by simp; omega, by simp, by omega, by simp, Or.inl ⟨rfl, rfl⟩⟩⟩
theorem acc_of_row {w : World} {B0 : Nat} {v : Value} {l : List ByteArray} (h : w.ownsRow B0 9 1 v l.length (l.map Value.string)) : AccT B0 w v l :=
  ⟨l.map Value.string, by rw [List.length_map]; exact h, repR_strs w l, Fresh.nil _ _, fun k _ => by simp⟩
theorem sameM_iff2 {a b : MMethod} : sameM a b = true ↔ a.selector = b.selector ∧ a.cls = b.cls := by
  unfold sameM
  rw [Bool.and_eq_true, eqB_iff, beq_iff_eq]
theorem zeroL (w : World) : (zeroValue 23).run Tryz.prog w = .ok (.slice none 0 0) w := by kernel_rfl
theorem clone_any (l : List ByteArray) (ao : Option Addr) (ca : Nat) (w : World) (ra : Rep w (strs l) [.slice ao l.length ca]) (hl : l.length ≤ 1000000) : Calls Tryz.prog 43 #[.slice ao l.length ca] w fun e w' => ∃ v, e = .returned v ∧ AccT w.heap.size w' v l ∧ Ext w w' := by
  obtain ⟨ao', ca', ba, oa, h1, hla, hma, pa, ha⟩ := ra.strs
  simp only [List.cons.injEq, and_true, Value.slice.injEq] at h1
  obtain ⟨rfl, -, rfl⟩ := h1
  by_cases h0 : 0 < l.length
  · obtain rfl := pa h0
    refine (Tryz.slices_Clone_string ba oa l.length ca l w (Nat.le_refl _) (by omega) (fun j hj => ha j _ (by rw [List.getD_eq_getElem?_getD, List.getElem?_eq_getElem hj]; rfl))).mono ?_
    rintro e w' ⟨v, rfl, h2, -, h3⟩
    rw [List.take_length] at h2
    exact ⟨v, rfl, acc_of_row h2, h3⟩
  · obtain rfl : l = [] := List.eq_nil_of_length_eq_zero (by omega)
    cases ao with
    | none =>
      refine (Tryz.slices_Clone_string_nil 0 ca w).mono ?_
      rintro e w' ⟨rfl, rfl⟩
      exact ⟨_, rfl, Acc.nil _ _ _ _, Ext.refl _⟩
    | some a =>
      refine (Tryz.slices_Clone_string_zero a ca w).mono ?_
      rintro e w' ⟨v, rfl, h2, -, h3⟩
      exact ⟨v, rfl, acc_of_row (l := []) h2, h3⟩

set_option maxHeartbeats 16000000 in
set_option maxRecDepth 100000 in
theorem class_any (C K : List ByteArray) (fm : FMap) (d : MClassDef) (cd : List Value) (fd fk : List Nat) {B B0 mb n : Nat} {cC : Value} {p : ByteArray} {Dm : DataW Value} (bk ok ck : Nat) (w : World) (h : Chk w B B0 cC (.map (some mb)) (.slice none 0 0) false p [] (.slice none 0 0) (.slice none 0 0)) (rC : RepL w B B0 (strs C) cC) (hm : World.ownsMap (H := Value) w Tryz.prog 9 RM mb n Dm) (hF : FmIs w B mb Dm fm) (hmB : mb ≠ B) (hn : n ≤ 1000)
    (rd : RepF w d.d cd fd) (rK : RepF w (strs K) [.slice (some ⟨bk, ok, none⟩) K.length ck] fk) (hd : ∀ k, k ∈ fd ++ fk → k ≠ B ∧ k ≠ mb) (hK : 16 ≤ K.length) (hsz : d.name.size ≤ 1048576 ∧ d.parent.size ≤ 1048576 ∧ (∀ s, s ∈ d.fields → s.size ≤ 1048576) ∧ d.methods.length ≤ 1048576 ∧ ∀ m, m ∈ d.methods → m.selector.size ≤ 1048576) (hfl : (fm d.parent).length ≤ 1000 ∧ d.fields.length ≤ 1000) :
    Calls Tryz.prog 18 #[.pointer (some ⟨B, 0, none⟩), .agg cd.toArray, .slice (some ⟨bk, ok, none⟩) K.length ck] w fun e w' => e = .returned (.tuple #[]) ∧ Chk w' B B0 cC (.map (some mb)) (.slice none 0 0) false (orT p (clsP C K fm d)) [] (.slice none 0 0) (.slice none 0 0) ∧ (∃ Dm', World.ownsMap (H := Value) w' Tryz.prog 9 RM mb (n + 1) Dm' ∧ FmIs w' B mb Dm' (clsF fm d)) ∧ Touch w w' [B, mb] := by
  obtain ⟨af, cf, am, cm, rfl, rf, rmm⟩ := MClassDef.op_en rd.rep
  have HRD := Lib.hid rd
  have HRK := Lib.hid rK
  have HD := Lib.hid hd
  have HM := Lib.hid hm
  have HFM := Lib.hid hF
  have HSZ := Lib.hid hsz
  have hnz := hsz.1
  have hpz := hsz.2.1
  have hmz := hsz.2.2.2.1
  have hf1 := hfl.1
  have hf2 := hfl.2
  have HC := Lib.hid h
  have RC := Lib.hid rC
  have HLOW : Hid (∀ k, k ∈ [B] → k = B ∨ B0 ≤ k) := Lib.hid fun k hk => Or.inl (by simpa using hk)
  have hBw := h.own.lt
  have hmw := hm.lt
  have hck : K.length ≤ ck := by
    obtain ⟨_, _, _, _, h1, h2, -⟩ := rK.rep.strs
    simp only [List.cons.injEq, and_true, Value.slice.injEq] at h1
    omega
  have hcm : ck ≤ 9223372036854775807 := by
    obtain ⟨_, _, _, _, h1, -, h2, -⟩ := rK.rep.strs
    simp only [List.cons.injEq, and_true, Value.slice.injEq] at h1
    unfold maxLen at h2; omega
  -- the answer, in parts
  obtain ⟨FM, hFMl⟩ : ∃ F, fm d.parent = F := ⟨_, rfl⟩
  have HFMl := Lib.hid hFMl
  rw [hFMl] at hf1
  obtain ⟨EV, hEV⟩ : ∃ EV, orT p (clsP C K fm d) = EV := ⟨_, rfl⟩
  have HEV := Lib.hid hEV
  obtain ⟨R4, hR4⟩ : ∃ R, mthsP [] d.methods = R := ⟨_, rfl⟩
  obtain ⟨R3, hR3⟩ : ∃ R, orT (if 8 < FM.length + d.fields.length then tMany d.name else ⟨#[]⟩) R4 = R := ⟨_, rfl⟩
  obtain ⟨R2, hR2⟩ : ∃ R, orT (fldP C FM d.fields) R3 = R := ⟨_, rfl⟩
  obtain ⟨R1, hR1⟩ : ∃ R, orT (if (hasB extB d.parent || hasB (K.drop 16) d.parent) = true then ⟨#[]⟩ else tExtend d.parent) R2 = R := ⟨_, rfl⟩
  have H0 : Hid (EV = orT p (orT (if (hasB K d.name || hasB resB d.name) = true then tThere d.name else ⟨#[]⟩) R1)) := Lib.hid (by rw [← hEV, ← hR1, ← hR2, ← hR3, ← hR4, ← hFMl]; rfl)
  have HR1 := Lib.hid hR1.symm
  have HR2 := Lib.hid hR2.symm
  have HR3 := Lib.hid hR3.symm
  have HR4 := Lib.hid hR4.symm
  clear hm hF rd rK hd hsz h rC rf rmm hfl hFMl hEV hR1 hR2 hR3 hR4
  go_enter Tryz.func18, Tryz.ntmps18
  go_upto_region 1 with fail
  generalize hW : World.alloc w _ = W1
  have x1 : Ext w W1 := by rw [← hW]; exact (Ext.refl _).alloc _
  have n0 : W1.cell? ⟨w.heap.size, 0, none⟩ = some (.string d.name) := by rw [← hW]; simp
  have n1 : W1.cell? ⟨w.heap.size, 1, none⟩ = some (.string d.parent) := by rw [← hW]; simp
  have n2 : W1.cell? ⟨w.heap.size, 2, none⟩ = some (.slice af d.fields.length cf) := by rw [← hW]; simp
  have n3 : W1.cell? ⟨w.heap.size, 3, none⟩ = some (.slice am d.methods.length cm) := by rw [← hW]; simp
  clear hW
  have zn := lt_of_cell n0
  have HWB : Hid (w.heap.size ∉ [B]) := Lib.hid (by simp; omega)
  have K1 := HC.out.ext x1
  have HK1 := Lib.hid K1
  have RCE : Hid (Chk W1 B B0 cC (.map (some mb)) (.slice none 0 0) false p [] (.slice none 0 0) (.slice none 0 0)) := HK1
  obtain ⟨e0, e1, -, -, -, -, -⟩ := K1.cells
  have zB := lt_of_cell e0
  clear K1
  have KN : Hid (∀ W, Touch W1 W [B] → W.cell? ⟨w.heap.size, 0, none⟩ = some (.string d.name) ∧ W.cell? ⟨w.heap.size, 1, none⟩ = some (.string d.parent) ∧ W.cell? ⟨w.heap.size, 2, none⟩ = some (.slice af d.fields.length cf) ∧ W.cell? ⟨w.heap.size, 3, none⟩ = some (.slice am d.methods.length cm)) := Lib.hid fun W hT => ⟨hT.cellAt HWB.out n0, hT.cellAt HWB.out n1, hT.cellAt HWB.out n2, hT.cellAt HWB.out n3⟩
  have RKW : Hid (∀ W, Touch W1 W [B] → Rep W (strs K) [.slice (some ⟨bk, ok, none⟩) K.length ck]) := Lib.hid fun W hT => ((HRK.out.ext x1).touch hT (fun k hk hm => (HD.out k (List.mem_append_right _ hk)).1 (by simpa using hm))).rep
  have RDW : Hid (∀ W, Touch W1 W [B] → Rep W d.d [.string d.name, .string d.parent, .slice af d.fields.length cf, .slice am d.methods.length cm]) := Lib.hid fun W hT => ((HRD.out.ext x1).touch hT (fun k hk hm => (HD.out k (List.mem_append_left _ hk)).1 (by simpa using hm))).rep
  have RCW : Hid (∀ W, Touch W1 W [B] → Rep W (strs C) [cC]) := Lib.hid fun W hT => ((RC.out.ext x1).touch hT HLOW.out).rep
  have TW : Hid (Touch w W1 [B]) := Lib.hid (Touch.of_ext x1 _)
  obtain ⟨b1, hb1⟩ : ∃ b, (hasB K d.name || hasB resB d.name) = b := ⟨_, rfl⟩
  rw [hb1] at H0
  go_cut [22] (fun v wx => v = .bool b1 ∧ W1 = wx)
  case first =>
    cases u0 : hasB K d.name
    rotate_left
    · obtain rfl : true = b1 := by rw [← hb1, u0]; rfl
      clear hb1 H0
      go_wp2_with fail
      refine (contains_any K (.slice (some ⟨bk, ok, none⟩) K.length ck) d.name _ (RKW.out _ (Touch.of_ext (Ext.refl _) _))).mono ?_
      rw [u0]
      rintro e wq ⟨rfl, hq⟩
      subst wq
      go_wp2_with fail
      go_meet
      exact ⟨rfl, rfl⟩
    obtain ⟨u, u1⟩ : ∃ u, hasB resB d.name = u := ⟨_, rfl⟩
    obtain rfl : u = b1 := by rw [← hb1, u0, u1]; rfl
    clear hb1 H0
    go_wp2_with fail
    refine (contains_any K (.slice (some ⟨bk, ok, none⟩) K.length ck) d.name _ (RKW.out _ (Touch.of_ext (Ext.refl _) _))).mono ?_
    rw [u0]
    rintro e wq ⟨rfl, hq⟩
    subst wq
    go_wp2_with fail
    refine (reserved_any d.name _).mono ?_
    rw [u1]
    rintro e wq ⟨rfl, hq⟩
    subst wq
    go_wp2_with fail
    go_meet
    exact ⟨rfl, rfl⟩
  case rest =>
  obtain ⟨rfl, rfl⟩ := hcut
  clear hb1
  go_upto_if 22 with fail
  go_cut [] (fun wx => ∃ q, Chk wx B B0 cC (.map (some mb)) (.slice none 0 0) false q [] (.slice none 0 0) (.slice none 0 0) ∧ Touch W1 wx [B] ∧ Hid (EV = orT q R1))
  case first =>
    cases b1
    · go_wp2_with fail
      go_meet
      exact ⟨p, HK1.out, Touch.of_ext (Ext.refl _) _, Lib.hid (by rw [H0.out]; simp [orT_l])⟩
    · go_wp2_with fail
      refine (report_any (tThere d.name) W1 HK1.out).mono ?_
      rintro e w2 ⟨rfl, K2, T2⟩
      go_wp2_with fail
      go_meet
      exact ⟨_, K2, T2, Lib.hid (by rw [H0.out]; simp [orT_assoc])⟩
  case rest =>
  obtain ⟨q1, K2, T2, H1⟩ := hcut
  clear H0 b1 HK1
  have HK := Lib.hid K2
  have HT := Lib.hid T2
  clear n0 n1 n2 n3 e0 e1
  obtain ⟨n0, n1, n2, n3⟩ := KN.out _ T2
  clear zB zn
  obtain ⟨e0, e1, -, -, -, -, -⟩ := K2.cells
  have zB := lt_of_cell e0
  have zn := lt_of_cell n0
  clear K2 T2
  have H2 : Hid (EV = orT q1 (orT (if (hasB extB d.parent || hasB (K.drop 16) d.parent) = true then ⟨#[]⟩ else tExtend d.parent) R2)) := Lib.hid (by rw [H1.out, HR1.out])
  clear H1 HR1
  obtain ⟨b2, hb2⟩ : ∃ b, (hasB extB d.parent || hasB (K.drop 16) d.parent) = b := ⟨_, rfl⟩
  rw [hb2] at H2
  go_upto_region 4 with fail
  generalize hW : World.alloc wc _ = W3
  have x3 : Ext wc W3 := by rw [← hW]; exact (Ext.refl _).alloc _
  have RE : Hid (Rep W3 (strs extB) [.slice (some ⟨wc.heap.size, 0, none⟩) 5 5]) := Lib.hid (by rw [← hW]; exact rep_lits wc extB (by unfold maxLen; simp [extB]) (by simp [extB]))
  clear hW
  have HT3 := Lib.hid ((HT.out).trans (Touch.of_ext x3 [B]))
  have HK3 := Lib.hid (HK.out.ext x3)
  replace n0 := x3.cell n0
  replace n1 := x3.cell n1
  replace n2 := x3.cell n2
  replace n3 := x3.cell n3
  replace e0 := x3.cell e0
  replace e1 := x3.cell e1
  have zB3 := lt_of_cell e0
  have zn3 := lt_of_cell n0
  clear zB zn
  obtain ⟨ux, hux⟩ : ∃ u, hasB extB d.parent = u := ⟨_, rfl⟩
  obtain ⟨uk, huk⟩ : ∃ u, hasB (K.drop 16) d.parent = u := ⟨_, rfl⟩
  have CC : Hid (∀ (v : Value) (u : Bool) (W : World), Ext W3 W → ((v = .slice (some ⟨wc.heap.size, 0, none⟩) 5 5 ∧ u = ux) ∨ (v = .slice (if ck = 16 then some ⟨bk, ok, none⟩ else some ⟨bk, ok + 16, none⟩) (K.length - 16) (ck - 16) ∧ u = uk)) → Calls Tryz.prog 40 #[v, .string d.parent] W fun e w' => e = .returned (.bool u) ∧ Ext W w') := Lib.hid fun v u W hW hs => by
    rcases hs with ⟨rfl, rfl⟩ | ⟨rfl, rfl⟩
    · exact (contains_any extB _ d.parent W (Rep.ext hW RE.out)).mono fun e w' ⟨h1, h2⟩ => ⟨by rw [h1, hux], by rw [h2]; exact Ext.refl _⟩
    · have hr : Rep W (strs (K.drop 16)) [.slice (if ck = 16 then some ⟨bk, ok, none⟩ else some ⟨bk, ok + 16, none⟩) (K.length - 16) (ck - 16)] := by
        split
        · exact rep_drop (Rep.ext hW (RKW.out _ HT3.out)) 16 hK _ (fun h => by omega)
        · exact rep_drop (Rep.ext hW (RKW.out _ HT3.out)) 16 hK _ (fun _ => rfl)
      exact (contains_any (K.drop 16) _ d.parent W hr).mono fun e w' ⟨h1, h2⟩ => ⟨by rw [h1, huk], by rw [h2]; exact Ext.refl _⟩
  go_cut [42] (fun v wy => v = .bool (!b2) ∧ Ext W3 wy)
  case first =>
    cases ux
    · cases uk
      · have HB2 : Hid (b2 = false) := Lib.hid (by rw [← hb2, hux, huk]; rfl)
        clear hb2 hux huk
        have gn1 := reg (Ext.refl _) n1
        refine wp_region_quiet_below (by kernel_rfl) (by kernel_rfl) ?_
        repeat (go_big_quiet_step ((go_at_call 40; exact Calls.regrown_of (CC.out _ _ _ (regx _ _) (by first | exact Or.inl ⟨rfl, rfl⟩ | exact Or.inr ⟨rfl, rfl⟩)))))
        refine wpQuiet_nil ?_
        clear gn1
        intro _ hw'
        obtain ⟨pw, hw''⟩ := hw'
        subst hw''
        have x4 := regx W3 pw
        generalize hWR : «Sort».grow (redrawn W3 pw.d) pw.os = W4 at *
        clear hWR
        try generalize (if ck = 16 then some (⟨bk, ok, none⟩ : Addr) else some ⟨bk, ok + 16, none⟩) = z37 at *
        go_wp2_with fail
        go_meet
        exact ⟨by rw [HB2.out]; rfl, x4⟩
      · have HB2 : Hid (b2 = true) := Lib.hid (by rw [← hb2, hux, huk]; rfl)
        clear hb2 hux huk
        have gn1 := reg (Ext.refl _) n1
        refine wp_region_quiet_below (by kernel_rfl) (by kernel_rfl) ?_
        repeat (go_big_quiet_step ((go_at_call 40; exact Calls.regrown_of (CC.out _ _ _ (regx _ _) (by first | exact Or.inl ⟨rfl, rfl⟩ | exact Or.inr ⟨rfl, rfl⟩)))))
        refine wpQuiet_nil ?_
        clear gn1
        intro _ hw'
        obtain ⟨pw, hw''⟩ := hw'
        subst hw''
        have x4 := regx W3 pw
        generalize hWR : «Sort».grow (redrawn W3 pw.d) pw.os = W4 at *
        clear hWR
        try generalize (if ck = 16 then some (⟨bk, ok, none⟩ : Addr) else some ⟨bk, ok + 16, none⟩) = z37 at *
        go_wp2_with fail
        go_meet
        exact ⟨by rw [HB2.out]; rfl, x4⟩
    · have HB2 : Hid (b2 = true) := Lib.hid (by rw [← hb2, hux]; rfl)
      clear hb2 hux huk
      have gn1 := reg (Ext.refl _) n1
      refine wp_region_quiet_below (by kernel_rfl) (by kernel_rfl) ?_
      repeat (go_big_quiet_step ((go_at_call 40; exact Calls.regrown_of (CC.out _ _ _ (regx _ _) (by first | exact Or.inl ⟨rfl, rfl⟩ | exact Or.inr ⟨rfl, rfl⟩)))))
      refine wpQuiet_nil ?_
      clear gn1
      intro _ hw'
      obtain ⟨pw, hw''⟩ := hw'
      subst hw''
      have x4 := regx W3 pw
      generalize hWR : «Sort».grow (redrawn W3 pw.d) pw.os = W4 at *
      clear hWR
      try generalize (if ck = 16 then some (⟨bk, ok, none⟩ : Addr) else some ⟨bk, ok + 16, none⟩) = z37 at *
      go_wp2_with fail
      go_meet
      exact ⟨by rw [HB2.out]; rfl, x4⟩
  case rest =>
  obtain ⟨rfl, x4⟩ := hcut
  clear hb2 hux huk RE CC
  have K4 := HK3.out.ext x4
  have T4 := HT3.out.trans (Touch.of_ext x4 [B])
  clear x4 x3 HK3 HT3
  have HK4 := Lib.hid K4
  have HT4 := Lib.hid T4
  clear n0 n1 n2 n3 e0 e1
  obtain ⟨n0, n1, n2, n3⟩ := KN.out _ T4
  clear zB3 zn3
  obtain ⟨e0, e1, -, -, -, -, -⟩ := K4.cells
  have zB := lt_of_cell e0
  have zn := lt_of_cell n0
  clear K4 T4
  go_upto_if 42 with fail
  go_cut [] (fun wx => ∃ q, Chk wx B B0 cC (.map (some mb)) (.slice none 0 0) false q [] (.slice none 0 0) (.slice none 0 0) ∧ Touch W1 wx [B] ∧ Hid (EV = orT q R2))
  case first =>
    cases b2
    · go_wp2_with fail
      refine (report_any (tExtend d.parent) _ HK4.out).mono ?_
      rintro e w2 ⟨rfl, K2, T2⟩
      go_wp2_with fail
      go_meet
      exact ⟨_, K2, HT4.out.trans T2, Lib.hid (by rw [H2.out]; simp [orT_assoc])⟩
    · go_wp2_with fail
      go_meet
      exact ⟨_, HK4.out, HT4.out, Lib.hid (by rw [H2.out]; simp [orT_l])⟩
  case rest =>
  obtain ⟨q2, K2, T2, H3⟩ := hcut
  clear H2 b2 HK HT
  have HK := Lib.hid K2
  have HT := Lib.hid T2
  clear n0 n1 n2 n3 e0 e1 HK4 HT4
  obtain ⟨n0, n1, n2, n3⟩ := KN.out _ T2
  clear zB zn
  obtain ⟨e0, e1, -, -, -, -, -⟩ := K2.cells
  have zB := lt_of_cell e0
  have zn := lt_of_cell n0
  clear K2 T2
  obtain ⟨aq, cq, gq, hat, hrq, hq1, hq2⟩ := HFM.out d.parent
  rw [HFMl.out] at hat hrq
  have HAT := Lib.hid hat
  have hgq : ∀ k, k ∈ gq → k ∉ [B] := fun k hk hm => hq1 (by simp at hm; exact hm ▸ hk)
  have RQ : Hid (Rep wc (strs FM) [.slice aq FM.length cq]) := Lib.hid (hrq.touch (TW.out.trans HT.out) hgq).rep
  have HMW : Hid (∀ W, Touch W1 W [B] → World.ownsMap (H := Value) W Tryz.prog 9 RM mb n Dm) := Lib.hid fun W hT => own_map_touch HM.out (TW.out.trans hT) (by simpa using hmB)
  have HLK : Hid (∀ W, Touch W1 W [B] → (Instr.lookup 54 (.map (some mb)) (.string d.parent) false).run Tryz.prog W = .ok (.slice aq FM.length cq) W) := Lib.hid fun W hT => by
    obtain ⟨v, ps, hrun, hv⟩ := (HMW.out W hT).lookup keyS2 Tryz.underlying54 (zeroL W) (zd := .held (.slice none 0 0)) (zp := []) rfl (keyOf_string_mk Tryz.underlying9 (s := d.parent) (by unfold maxLen; omega))
    rw [HAT.out] at hv
    simp only [RM, Option.some.injEq, Prod.mk.injEq, DataW.held.injEq] at hv
    rw [hrun, hv.1]
  obtain ⟨BA, hBA⟩ : ∃ BA, wc.heap.size = BA := ⟨_, rfl⟩
  have HBA := Lib.hid hBA
  have hB1 : W1.heap.size ≤ BA := by rw [← hBA]; exact HT.out.size
  have hBB : B < BA := by have := x1.size; omega
  have hmBA : mb < BA := by have := x1.size; omega
  have CL : Hid (∀ W, Ext wc W → Calls Tryz.prog 43 #[.slice aq FM.length cq] W fun e w' => ∃ v, e = .returned v ∧ AccT BA w' v FM ∧ Ext wc w') := Lib.hid fun W hW => (clone_any FM aq cq W (Rep.ext hW RQ.out) (by omega)).mono fun e w' ⟨v, h1, h2, h3⟩ => ⟨v, h1, Acc.base h2 (by rw [← hBA]; exact hW.size), hW.trans h3⟩
  clear hat hrq hq1 hq2 hgq hBA
  go_upto_region 6 with fail
  go_cut [7] (fun v wy => AccT BA wy v FM ∧ Ext wc wy)
  case first =>
    have hl0 := HLK.out wc HT.out
    have hl1 : (Instr.lookup 54 (.map (some mb)) (.string d.parent) false).run Tryz.prog wc.drew = .ok (.slice aq FM.length cq) wc.drew := HLK.out wc.drew (HT.out.trans (Touch.of_ext (Ext.drew (Ext.refl _)) [B]))
    go_region_with (refine (CL.out _ (by first | exact Ext.drew (Ext.refl _) | exact Ext.refl _)).mono ?_; rintro e w7 ⟨v, rfl, ha, hx⟩)
    all_goals (go_wp2_with fail; go_meet; exact ⟨ha, hx⟩)
  case rest =>
  obtain ⟨A6, x6⟩ := hcut
  have K6 := HK.out.ext x6
  have T6 := HT.out.trans (Touch.of_ext x6 [B])
  have hb6 : BA ≤ wc.heap.size := by rw [← HBA.out]; exact x6.size
  clear x6 HK HT CL HLK RQ HAT
  have HK6 := Lib.hid K6
  have HT6 := Lib.hid T6
  clear n0 n1 n2 n3 e0 e1
  obtain ⟨n0, n1, n2, n3⟩ := KN.out _ T6
  clear zB zn
  obtain ⟨e0, e1, -, -, -, -, -⟩ := K6.cells
  have zB := lt_of_cell e0
  have zn := lt_of_cell n0
  clear K6 T6
  have RFW : Hid (∀ W, Touch W1 W [B] → Rep W (strs d.fields) [.slice af d.fields.length cf]) := Lib.hid fun W hT => by
    obtain ⟨a1, c1, a2, c2, h1, r1, r2⟩ := MClassDef.op_en (RDW.out W hT)
    simp only [List.cons.injEq, Value.slice.injEq, and_true, true_and] at h1
    obtain ⟨⟨rfl, rfl⟩, rfl, rfl⟩ := h1
    exact r1
  have RMW : Hid (∀ W, Touch W1 W [B] → Rep W (MMethods d.methods) [.slice am d.methods.length cm]) := Lib.hid fun W hT => by
    obtain ⟨a1, c1, a2, c2, h1, r1, r2⟩ := MClassDef.op_en (RDW.out W hT)
    simp only [List.cons.injEq, Value.slice.injEq, and_true, true_and] at h1
    obtain ⟨⟨rfl, rfl⟩, rfl, rfl⟩ := h1
    exact r2
  obtain ⟨bf, of_, pf, HFC⟩ : ∃ bf of_, (0 < d.fields.length → af = some ⟨bf, of_, none⟩) ∧ Hid (∀ W, Touch W1 W [B] → ∀ (i : Nat) (s : ByteArray), d.fields[i]? = some s → W.cell? ⟨bf, of_ + i, none⟩ = some (.string s)) := by
    obtain ⟨a1, c1, bf, of_, h1, -, -, hp, -⟩ := (RFW.out _ HT6.out).strs
    simp only [List.cons.injEq, Value.slice.injEq, and_true, true_and] at h1
    obtain ⟨rfl, rfl⟩ := h1
    refine ⟨bf, of_, hp, Lib.hid fun W hT i s hi => ?_⟩
    obtain ⟨a2, c2, b2, o2, h2, -, -, hp2, hc2⟩ := (RFW.out W hT).strs
    simp only [List.cons.injEq, Value.slice.injEq, and_true, true_and] at h2
    obtain ⟨rfl, rfl⟩ := h2
    have hlt := (List.getElem?_eq_some_iff.1 hi).1
    have e := (hp (by omega)).symm.trans (hp2 (by omega))
    simp only [Option.some.injEq, Addr.mk.injEq, and_true] at e
    obtain ⟨rfl, rfl⟩ := e
    exact hc2 i s hi
  have H5 : Hid (EV = orT q2 (orT (fldP C (FM ++ d.fields.take 0) (d.fields.drop 0)) R3)) := Lib.hid (by rw [H3.out, HR2.out]; simp)
  clear H3 HR2
  go_wp2_with fail
  go_loopw [7, 60] (fun av iv wr => ∃ (i : Nat) (q : ByteArray), i ≤ d.fields.length ∧ iv = .int .i64 i ∧ BA ≤ wr.heap.size ∧ AccT BA wr av (FM ++ d.fields.take i) ∧ Chk wr B B0 cC (.map (some mb)) (.slice none 0 0) false q [] (.slice none 0 0) (.slice none 0 0) ∧ Touch W1 wr [B] ∧ Hid (EV = orT q (orT (fldP C (FM ++ d.fields.take i) (d.fields.drop i)) R3))) (fun _ iv _ => d.fields.length - (intOf iv).toNat)
  case atStart => exact ⟨0, _, Nat.zero_le _, rfl, hb6, by simpa using A6, HK6.out, HT6.out, H5⟩
  case round =>
    clear n0 n1 n2 n3 e0 e1 zB zn A6 H5 HK6 HT6
    obtain ⟨av, hav⟩ : ∃ x, x = u7 := ⟨_, rfl⟩
    subst hav
    obtain ⟨i, q, hi, rfl, hbr, hA, hK, hT, hQ⟩ := hrel
    have HK := Lib.hid hK
    have HT := Lib.hid hT
    obtain ⟨n0, n1, n2, n3⟩ := KN.out _ hT
    obtain ⟨e0, e1, -, -, -, -, -⟩ := hK.cells
    have zB := lt_of_cell e0
    have zn := lt_of_cell n0
    clear hK hT
    by_cases hlt : i < d.fields.length
    · obtain rfl := pf (by omega)
      obtain ⟨s, hs⟩ : ∃ s, d.fields[i]? = some s := ⟨_, List.getElem?_eq_getElem hlt⟩
      have c0 := HFC.out _ HT.out i s hs
      have hsz : s.size ≤ 1048576 := HSZ.out.2.2.1 s (List.mem_of_getElem? hs)
      obtain ⟨A, hAe⟩ : ∃ A, FM ++ d.fields.take i = A := ⟨_, rfl⟩
      have hAl : A.length ≤ 2000 := by rw [← hAe, List.length_append, List.length_take]; omega
      have HAS : Hid (FM ++ d.fields.take (i + 1) = A ++ [s]) := Lib.hid (by rw [List.take_add_one, hs, ← hAe]; simp)
      obtain ⟨T9, hT9⟩ : ∃ T, orT (fldP C (A ++ [s]) (d.fields.drop (i + 1))) R3 = T := ⟨_, rfl⟩
      have HT9 := Lib.hid hT9
      have HQ2 : Hid (EV = orT q (orT (if (hasB A s || hasB resB s || hasB C s) = true then tField s else ⟨#[]⟩) T9)) := Lib.hid (by rw [hQ.out, drop_cons hs, hAe, fldP, orT_assoc, hT9])
      rw [hAe] at hA
      have HA := Lib.hid hA
      have hil : (i : Int) < d.fields.length := by omega
      have hi0 : (0 : Int) ≤ i := by omega
      have RA : Hid (Rep wr (strs A) [av]) := Lib.hid (by obtain ⟨ao, cap, gp, h1, h2, -⟩ := AccT.rep hA; rw [h1]; exact h2.rep)
      obtain ⟨b3, hb3⟩ : ∃ b, (hasB A s || hasB resB s || hasB C s) = b := ⟨_, rfl⟩
      rw [hb3] at HQ2
      clear hQ hAe hT9 hA hs
      go_upto_region 10 with fail
      go_cut [78] (fun v wx => v = .bool b3 ∧ wr = wx)
      case first =>
        cases u0 : hasB A s
        rotate_left
        · obtain rfl : true = b3 := by rw [← hb3, u0]; rfl
          clear hb3 HQ2
          go_wp2_with fail
          refine (contains_any A av s _ (RA.out)).mono ?_
          rw [u0]
          rintro e wq ⟨rfl, hq⟩
          subst wq
          go_wp2_with fail
          go_meet
          exact ⟨rfl, rfl⟩
        cases u1 : hasB resB s
        rotate_left
        · obtain rfl : true = b3 := by rw [← hb3, u0, u1]; rfl
          clear hb3 HQ2
          go_wp2_with fail
          refine (contains_any A av s _ (RA.out)).mono ?_
          rw [u0]
          rintro e wq ⟨rfl, hq⟩
          subst wq
          go_wp2_with fail
          refine (reserved_any s _).mono ?_
          rw [u1]
          rintro e wq ⟨rfl, hq⟩
          subst wq
          go_wp2_with fail
          go_meet
          exact ⟨rfl, rfl⟩
        obtain ⟨u, u2⟩ : ∃ u, hasB C s = u := ⟨_, rfl⟩
        obtain rfl : u = b3 := by rw [← hb3, u0, u1, u2]; rfl
        clear hb3 HQ2
        go_wp2_with fail
        refine (contains_any A av s _ (RA.out)).mono ?_
        rw [u0]
        rintro e wq ⟨rfl, hq⟩
        subst wq
        go_wp2_with fail
        refine (reserved_any s _).mono ?_
        rw [u1]
        rintro e wq ⟨rfl, hq⟩
        subst wq
        go_wp2_with fail
        refine (contains_any C cC s _ (RCW.out _ HT.out)).mono ?_
        rw [u2]
        rintro e wq ⟨rfl, hq⟩
        subst wq
        go_wp2_with fail
        go_meet
        exact ⟨rfl, rfl⟩
      case rest =>
      obtain ⟨rfl, rfl⟩ := hcut
      clear hb3
      go_upto_if 78 with fail
      go_cut [] (fun wx => ∃ q', Chk wx B B0 cC (.map (some mb)) (.slice none 0 0) false q' [] (.slice none 0 0) (.slice none 0 0) ∧ Touch wr wx [B] ∧ Hid (EV = orT q' T9))
      case first =>
        cases b3
        · go_wp2_with fail
          go_meet
          exact ⟨_, HK.out, Touch.of_ext (Ext.refl _) _, Lib.hid (by rw [HQ2.out]; simp [orT_l])⟩
        · go_wp2_with fail
          refine (report_any (tField s) _ HK.out).mono ?_
          rintro e w2 ⟨rfl, K2, T2⟩
          go_wp2_with fail
          go_meet
          exact ⟨_, K2, T2, Lib.hid (by rw [HQ2.out]; simp [orT_assoc])⟩
      case rest =>
      obtain ⟨q9, K2, T2, H9⟩ := hcut
      have hA2 : AccT BA wc av A := Acc.touch HA.out T2 (fun k hk hm => by have := (Acc.ge HA.out hk).1; simp at hm; omega) (fun k hk => nomatch hk)
      have KD := AccT.ext hA2 ((Ext.refl wc).alloc (.cells #[.string s] 9))
      have HK2 := Lib.hid (K2.ext ((Ext.refl wc).alloc (.cells #[.string s] 9)))
      have HT2 := Lib.hid ((HT.out.trans T2).trans (Touch.of_ext ((Ext.refl wc).alloc (.cells #[.string s] 9)) [B]))
      have hbs : BA ≤ wc.heap.size := by have := T2.size; omega
      clear n0 n1 n2 n3 e0 e1 zB zn c0 HK HT K2 T2 HA RA hA2 HQ2
      go_wp2_with (at_builtin; refine wpList_append_strs_at rfl _ _ rfl BA av A rfl KD [s] _ _ _ rfl (rep_one _ _) (by simp; omega) (by simp; omega) ?_)
      intro a1 k1 w3 ac1 g1 m1
      have T3 : Touch W1 w3 [B] := HT2.out.grown g1 fun k hk => Or.inr (Nat.le_trans hB1 (Acc.ge KD hk).1)
      have K3 := HK2.out.calm (fp := av.ownBlock.toList) ((Touch.of_ext (Ext.refl _) _).grown g1 fun k hk => Or.inl (by simp [hk])) (fun hm => by have := (Acc.ge KD (k := B) (by simpa using hm)).1; omega)
      have hb3 : BA ≤ w3.heap.size := by
        have := T3.size; have h2 := g1.size; simp at h2; omega
      clear KD g1 m1 HK2 HT2
      generalize hv1 : Value.slice a1 (A.length + [s].length) k1 = v1 at *
      go_wp2_with fail
      go_roundw
      case rel => exact ⟨i + 1, q9, by omega, by go_num, hb3, by rw [HAS.out]; exact ac1, K3, T3, Lib.hid (by rw [H9.out, ← HT9.out, HAS.out])⟩
      case measure => simp [intOf]; omega
    obtain rfl : i = d.fields.length := by omega
    rw [List.take_length] at hA
    obtain ⟨L, hL⟩ : ∃ L, (FM ++ d.fields).length = L := ⟨_, rfl⟩
    obtain ⟨b4, hb4⟩ : ∃ b, decide (8 < L) = b := ⟨_, rfl⟩
    have hQ2 : Hid (EV = orT q (orT (if b4 = true then tMany d.name else ⟨#[]⟩) R4)) := Lib.hid (by
      rw [hQ.out, List.drop_length, fldP, orT_l, HR3.out, ← hb4, ← hL, List.length_append]; simp)
    obtain ⟨a7, c7, g7, e7, -, -⟩ := AccT.rep hA
    rw [hL] at e7
    have hHL := Lib.hid hL
    subst e7
    have HA := Lib.hid hA
    have HB4 := Lib.hid hb4
    clear hQ HR3 hL hA hb4
    go_upto_region 14 with fail
    go_cut [91] (fun v wx => v = .bool b4 ∧ wr = wx)
    case first =>
      by_cases h8 : 8 < L
      · obtain rfl : true = b4 := by rw [← HB4.out]; simp [h8]
        have h8' : (8 : Int) < L := by omega
        clear HB4 hQ2
        go_wp2_with fail
        go_meet
        exact ⟨by simp, rfl⟩
      · obtain rfl : false = b4 := by rw [← HB4.out]; simp [h8]
        have h8' : ¬ (8 : Int) < L := by omega
        have h8'' : decide ((8 : Int) < L) = false := decide_eq_false h8'
        clear HB4 hQ2
        go_wp2_with fail
        go_meet
        exact ⟨by simp <;> omega, rfl⟩
    case rest =>
    obtain ⟨rfl, rfl⟩ := hcut
    clear HB4
    go_upto_if 91 with fail
    go_cut [] (fun wx => ∃ q', Chk wx B B0 cC (.map (some mb)) (.slice none 0 0) false q' [] (.slice none 0 0) (.slice none 0 0) ∧ Touch wr wx [B] ∧ Hid (EV = orT q' R4))
    case first =>
      cases b4
      · go_wp2_with fail
        go_meet
        exact ⟨_, HK.out, Touch.of_ext (Ext.refl _) _, Lib.hid (by rw [hQ2.out]; simp [orT_l])⟩
      · go_wp2_with fail
        refine (report_any (tMany d.name) _ HK.out).mono ?_
        rintro e w2 ⟨rfl, K2, T2⟩
        go_wp2_with fail
        go_meet
        exact ⟨_, K2, T2, Lib.hid (by rw [hQ2.out]; simp [orT_assoc])⟩
    case rest =>
    obtain ⟨q5, K5, T5, H7⟩ := hcut
    have HA5 : Hid (AccT BA wc (.slice a7 L c7) (FM ++ d.fields)) := Lib.hid (Acc.touch HA.out T5 (fun k hk hm => by have := (Acc.ge HA.out hk).1; simp at hm; omega) (fun k hk => nomatch hk))
    have HT5 := Lib.hid (HT.out.trans T5)
    have HK5 := Lib.hid K5
    clear n0 n1 n2 n3 e0 e1 zB zn HA HK HT K5 T5 hQ2 b4
    obtain ⟨n0, n1, n2, n3⟩ := KN.out _ HT5.out
    have zn := lt_of_cell n0
    have H8 : Hid (EV = orT q5 (mthsP (d.methods.take 0) (d.methods.drop 0))) := Lib.hid (by rw [H7.out, HR4.out]; simp)
    obtain ⟨bm, om, pm, hcm2, HMC⟩ : ∃ bm om, (0 < d.methods.length → am = some ⟨bm, om, none⟩) ∧ d.methods.length ≤ cm ∧ Hid (∀ W, Touch W1 W [B] → ∀ (i : Nat) (m : MMethod), d.methods[i]? = some m → ∃ y1 z1 y2 z2 y3 z3, W.cell? ⟨bm, om + i * 5, none⟩ = some (.string m.selector) ∧ W.cell? ⟨bm, om + i * 5 + 1, none⟩ = some (.bool m.cls) ∧ W.cell? ⟨bm, om + i * 5 + 2, none⟩ = some (.slice y1 m.params.length z1) ∧ W.cell? ⟨bm, om + i * 5 + 3, none⟩ = some (.slice y2 m.temps.length z2) ∧ W.cell? ⟨bm, om + i * 5 + 4, none⟩ = some (.slice y3 m.body.length z3)) := by
      obtain ⟨a1, c1, bf, of_, h1, hl1, -, hp, -⟩ := Rep.slmap (RMW.out _ HT5.out)
      simp only [List.cons.injEq, Value.slice.injEq, and_true, true_and] at h1
      obtain ⟨rfl, rfl⟩ := h1
      refine ⟨bf, of_, hp, hl1, Lib.hid fun W hT i m hi => ?_⟩
      obtain ⟨a2, c2, b2, o2, h2, -, -, hp2, hc2⟩ := Rep.slmap (RMW.out W hT)
      simp only [List.cons.injEq, Value.slice.injEq, and_true, true_and] at h2
      obtain ⟨rfl, rfl⟩ := h2
      have hlt := (List.getElem?_eq_some_iff.1 hi).1
      have e := (hp (by omega)).symm.trans (hp2 (by omega))
      simp only [Option.some.injEq, Addr.mk.injEq, and_true] at e
      obtain ⟨rfl, rfl⟩ := e
      obtain ⟨es, les, ces, res⟩ := hc2 i m hi
      obtain ⟨y1, z1, y2, z2, y3, z3, rfl, -, -, -⟩ := MMethod.op_en res
      exact ⟨y1, z1, y2, z2, y3, z3, ces 0 (by omega), ces 1 (by omega), ces 2 (by omega), ces 3 (by omega), ces 4 (by omega)⟩
    clear H7 HR4
    obtain ⟨WA, hwa⟩ : ∃ x, x = wc := ⟨_, rfl⟩
    subst hwa
    go_wp2_with fail
    go_loopw [101] (fun kv wr => ∃ (k : Nat) (q : ByteArray), k ≤ d.methods.length ∧ kv = .int .i64 k ∧ Chk wr B B0 cC (.map (some mb)) (.slice none 0 0) false q [] (.slice none 0 0) (.slice none 0 0) ∧ Touch WA wr [B] ∧ Hid (EV = orT q (mthsP (d.methods.take k) (d.methods.drop k)))) (fun kv _ => d.methods.length - (intOf kv).toNat)
    case atStart => exact ⟨0, _, Nat.zero_le _, rfl, HK5.out, Touch.of_ext (Ext.refl _) _, H8⟩
    case round =>
      clear n0 n1 n2 n3 zn H8 HK5
      obtain ⟨k, q6, hk, rfl, hK, hT, hQ⟩ := hrel
      have HK := Lib.hid hK
      have HT := Lib.hid hT
      obtain ⟨n0, n1, n2, n3⟩ := KN.out _ (HT5.out.trans hT)
      obtain ⟨e0, e1, -, -, -, -, -⟩ := hK.cells
      have zB := lt_of_cell e0
      have zn := lt_of_cell n0
      clear hK hT
      by_cases hlt8 : k < d.methods.length
      rotate_left
      · have HE : Hid (EV = q6) := Lib.hid (by
          obtain rfl : k = d.methods.length := by omega
          have := hQ.out
          rwa [List.drop_length, mthsP, orT_r] at this)
        have HAF : Hid (AccT BA wr (.slice a7 L c7) (FM ++ d.fields)) := Lib.hid (Acc.touch HA5.out HT.out (fun k hk hm => by have := (Acc.ge HA5.out hk).1; simp at hm; omega) (fun k hk => nomatch hk))
        have hown := HMW.out _ (HT5.out.trans HT.out)
        have hkey := keyOf_string_mk Tryz.underlying9 (s := d.name) (by unfold maxLen; omega)
        clear hQ
        go_upto_region 26 with fail
        obtain ⟨w6, hrun, hown6, hg6⟩ := World.ownsMap.update (w := wr.drew) hown.drew keyS2 Tryz.underlying54 (by unfold maxLen; omega) hkey (val := .slice a7 L c7) (d := .held (.slice a7 L c7)) (ps := []) rfl
        have T26 : Touch wr w6 [mb] := (Touch.of_ext (Ext.drew (Ext.refl _)) _).trans (grown_touch hg6)
        have K26 := HK.out.calm T26 (by simpa using fun h => hmB h.symm)
        have TT : Touch w w6 [B, mb] := ((TW.out.trans (HT5.out.trans HT.out)).mono fun b hb => by simp at hb; simp [hb]).trans (T26.mono fun b hb => by simp at hb; simp [hb])
        have FIN : Hid (∃ Dm', World.ownsMap (H := Value) w6 Tryz.prog 9 RM mb (n + 1) Dm' ∧ FmIs w6 B mb Dm' (clsF fm d)) := Lib.hid (by
          obtain ⟨ao, cap, gp, h1, h2, h3⟩ := AccT.rep HAF.out
          simp only [Value.slice.injEq] at h1
          obtain ⟨rfl, hL2, rfl⟩ := h1
          have h4 : RepF w6 (strs (FM ++ d.fields)) [.slice a7 (FM ++ d.fields).length c7] gp := h2.touch T26 fun b hb hm => by have := h3.ge b hb; simp at hm; omega
          have F1 := (HFM.out.touch TT).put hown.isMap d.name (FM ++ d.fields) h4 (fun hm => by have := h3.ge _ hm; omega) (fun hm => by have := h3.ge _ hm; omega)
          rw [hHL.out] at F1
          refine ⟨_, hown6, ?_⟩
          unfold clsF
          rw [HFMl.out]
          exact F1)
        have HK26 := Lib.hid K26
        clear hown hown6 hg6 K26
        go_region
        go_wp2_with fail
        go_end0
        exact ⟨rfl, by rw [HEV.out, HE.out]; exact HK26.out, FIN.out, TT⟩
      obtain rfl := pm (by omega)
      obtain ⟨m, hm⟩ : ∃ m, d.methods[k]? = some m := ⟨_, List.getElem?_eq_getElem hlt8⟩
      obtain ⟨y1, z1, y2, z2, y3, z3, r0, r1, r2, r3, r4⟩ := HMC.out _ (HT5.out.trans HT.out) k m hm
      have hmsz := HSZ.out.2.2.2.2 m (List.mem_of_getElem? hm)
      obtain ⟨REST, hRE⟩ : ∃ R, mthsP (d.methods.take (k + 1)) (d.methods.drop (k + 1)) = R := ⟨_, rfl⟩
      have HRE := Lib.hid hRE
      have HQ9 : Hid (EV = orT q6 (orT (mthP m ((d.methods.take k).drop 0)) REST)) := Lib.hid (by
        rw [hQ.out, drop_cons hm, mthsP, List.drop_zero, ← hRE, List.take_add_one, hm]; rfl)
      have hkl8 : (k : Int) < d.methods.length := by omega
      have hk0 : (0 : Int) ≤ k := by omega
      have hkc : k ≤ cm := by omega
      clear hm hRE hQ
      go_upto_region 19 with fail
      generalize hS : World.alloc wr _ = WX at *
      have xx : Ext wr WX := by rw [← hS]; exact (Ext.refl _).alloc _
      have b0 : WX.cell? ⟨wr.heap.size, 0, none⟩ = some (.string m.selector) := by rw [← hS]; simp
      have b1 : WX.cell? ⟨wr.heap.size, 1, none⟩ = some (.bool m.cls) := by rw [← hS]; simp
      clear hS r0 r1 r2 r3 r4
      replace n3 := xx.cell n3
      have znx := lt_of_cell n3
      have HBX : Hid (wr.heap.size ∉ [B]) := Lib.hid (by have h1 := zB; simp at h1 ⊢; omega)
      have HKX := Lib.hid (HK.out.ext xx)
      have HTX := Lib.hid (HT.out.trans (Touch.of_ext xx [B]))
      have HB0 := Lib.hid b0
      have HB1 := Lib.hid b1
      have HBZ : Hid (wr.heap.size < WX.heap.size) := Lib.hid (lt_of_cell b0)
      clear n0 n1 n2 e0 e1 zB zn HK HT xx b0 b1
      generalize hbx : wr.heap.size = bx at *
      clear hbx
      go_wp2_with fail
      go_loopw [111] (fun jv w9 => ∃ (j : Nat) (q : ByteArray), j ≤ k ∧ jv = .int .i64 j ∧ Chk w9 B B0 cC (.map (some mb)) (.slice none 0 0) false q [] (.slice none 0 0) (.slice none 0 0) ∧ Touch WX w9 [B] ∧ Hid (EV = orT q (orT (mthP m ((d.methods.take k).drop j)) REST))) (fun jv _ => k - (intOf jv).toNat)
      case atStart => exact ⟨0, _, Nat.zero_le _, rfl, HKX.out, Touch.of_ext (Ext.refl _) _, HQ9⟩
      case round =>
        clear n3 znx HKX HQ9
        obtain ⟨j, q7, hj, rfl, hK, hT9, hQ⟩ := hrel
        have bx0 := hT9.cellAt HBX.out HB0.out
        have bx1 := hT9.cellAt HBX.out HB1.out
        have zx := lt_of_cell bx0
        obtain ⟨e0, e1, -, -, -, -, -⟩ := hK.cells
        have zB := lt_of_cell e0
        have HK := Lib.hid hK
        have HT9 := Lib.hid hT9
        clear hK hT9
        by_cases hjk : j < k
        rotate_left
        · have HN : Hid (EV = orT q7 REST) := Lib.hid (by
            obtain rfl : j = k := by omega
            have e : (d.methods.take j).drop j = [] := List.drop_eq_nil_of_le (by rw [List.length_take]; omega)
            have := hQ.out
            rwa [e, mthP, orT_l] at this)
          have hjk' : ¬ (j : Int) < k := by omega
          clear hQ
          go_wp2_with fail
          go_roundw
          case rel => exact ⟨k + 1, q7, by omega, by go_num, HK.out, HTX.out.trans HT9.out, Lib.hid (by rw [HN.out, ← HRE.out])⟩
          case measure => simp [intOf]; omega
        obtain ⟨e, he⟩ : ∃ e, d.methods[j]? = some e := ⟨_, List.getElem?_eq_getElem (by omega)⟩
        obtain ⟨x1_, x2_, x3_, x4_, x5_, x6_, p0, p1, p2, p3, p4⟩ := HMC.out _ ((HT5.out.trans HTX.out).trans HT9.out) j e he
        have HQ3 : Hid (EV = orT q7 (orT (if sameM e m = true then tMeth m.selector else ⟨#[]⟩) (orT (mthP m ((d.methods.take k).drop (j + 1))) REST))) := Lib.hid (by
          have h1 : (d.methods.take k)[j]? = some e := by rw [List.getElem?_take_of_lt hjk]; exact he
          rw [hQ.out, drop_cons h1, mthP, orT_assoc])
        have hjki : (j : Int) < k := by omega
        have hj0 : (0 : Int) ≤ j := by omega
        clear he hQ
        by_cases hs : e.selector = m.selector
        rotate_left
        · have ts := str_ne hs
          have HN : Hid (EV = orT q7 (orT (mthP m ((d.methods.take k).drop (j + 1))) REST)) := Lib.hid (by rw [HQ3.out, if_neg (fun h => hs (sameM_iff2.1 h).1), orT_l])
          clear hs HQ3
          go_wp2_with fail
          go_roundw
          case rel => exact ⟨j + 1, q7, by omega, by go_num, HK.out.ext ((Ext.refl _).alloc _), HT9.out.trans (Touch.of_ext ((Ext.refl _).alloc _) _), HN⟩
          case measure => simp [intOf]; omega
        have ts := str_eq hs
        by_cases hcl : e.cls = m.cls
        rotate_left
        · have tb := bool_ne hcl
          have HN : Hid (EV = orT q7 (orT (mthP m ((d.methods.take k).drop (j + 1))) REST)) := Lib.hid (by rw [HQ3.out, if_neg (fun h => hcl (sameM_iff2.1 h).2), orT_l])
          clear hs hcl HQ3
          go_wp2_with fail
          go_roundw
          case rel => exact ⟨j + 1, q7, by omega, by go_num, HK.out.ext ((Ext.refl _).alloc _), HT9.out.trans (Touch.of_ext ((Ext.refl _).alloc _) _), HN⟩
          case measure => simp [intOf]; omega
        have tb := bool_eq hcl
        have HN : Hid (EV = orT (orT q7 (tMeth m.selector)) (orT (mthP m ((d.methods.take k).drop (j + 1))) REST)) := Lib.hid (by rw [HQ3.out, if_pos (sameM_iff2.2 ⟨hs, hcl⟩), orT_assoc])
        clear hs hcl HQ3
        go_wp2_with fail
        refine (report_any (tMeth m.selector) _ (HK.out.ext ((Ext.refl _).alloc _))).mono ?_
        rintro e w2 ⟨rfl, K2, T2⟩
        go_wp2_with fail
        go_roundw
        case rel => exact ⟨j + 1, _, by omega, by go_num, K2, (HT9.out.trans (Touch.of_ext ((Ext.refl _).alloc _) _)).trans T2, HN⟩
        case measure => simp [intOf]; omega

end Go.Proofs.YtlppoffneeglgaaGreatDoor
