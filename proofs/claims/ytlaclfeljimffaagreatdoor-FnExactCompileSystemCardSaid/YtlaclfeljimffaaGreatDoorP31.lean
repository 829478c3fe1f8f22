/-
  CONTRACTS: a right node of a core tree, of the program.
  Conditions: those that each lemma states.
-/
import Derived.Test.YtlaclfeljimffaaGreatDoorRows
import Derived.Lib.SliceRun
import Derived.Deep.AppendLies
import Derived.Deep.RegionHeld3
import Derived.Deep.DeepCutAuto
import Derived.Deep.CutBlock
import Derived.Test.YtlaclfeljimffaaGreatDoorP15
import Derived.Test.YtlaclfeljimffaaGreatDoorP30
namespace Go.Proofs.YtlaclfeljimffaaGreatDoor
open Go.RowKit
set_option maxHeartbeats 8000000
set_option maxRecDepth 100000
set_option linter.unusedSimpArgs false
set_option linter.unusedVariables false
theorem coreOk_node (n : Nat) (IH : Hid (CoreAt n)) (kd : Int) (t : ByteArray) (nu de : Int) (kids : List MCore) (ak : Option Addr) (ck : Nat) (K : Int) (F : Fr) (vf : Value) (w : World)
 (hd : (MCore.mk kd t nu de kids).deep <= n + 1) (hF : F.length + (n + 1) <= 1000) (hFo : FrOk F) (hK0 : 0 <= K) (hK1 : K <= 1000) (hb : (MCore.mk kd t nu de kids).d.bulk <= 1048576) (hM : MaxOk w)
 (rk : Rep w (MCores kids) [.slice ak kids.length ck]) (rf : Rep w (frD F) [vf]) (h15 : kd ≠ 15) :
 Calls Tryz.prog 87 #[.agg #[.int .i64 kd, .string t, .int .i64 nu, .int .i64 de, .slice ak kids.length ck], .int .i64 K, vf] w fun e w' => e = .returned (.bool (prB (okN (n + 1) K F ⟨kd, t, nu, de, kids⟩))) /\ Ext w w' := by
 have HF := LH hFo
 obtain ⟨b, o, cap, rfl, hlc, hcm, zb, hcell⟩ := fr_open rf hFo.1
 obtain ⟨G, f0, rfl⟩ : ∃ G f0, F = G ++ [f0] := ⟨F.dropLast, F.getLast hFo.1, (List.dropLast_concat_getLast hFo.1).symm⟩
 have RF := LH rf; clear rf hFo
 have hks := Nat.le_trans (MCore.bulk_kids ⟨kd, t, nu, de, kids⟩) hb
 have hts := Nat.le_trans (MCore.bulk_text ⟨kd, t, nu, de, kids⟩) hb
 simp only [List.length_append, List.length_singleton] at *
 obtain ⟨f0p, f0s⟩ := f0
 have t0 : w.cell? ⟨b, o + G.length * 2, none⟩ = some (.int .i64 f0p) := (hcell G.length ⟨f0p, f0s⟩ (by simp)).1
 have t1 : w.cell? ⟨b, o + G.length * 2 + 1, none⟩ = some (.int .i64 f0s) := (hcell G.length ⟨f0p, f0s⟩ (by simp)).2
 have HC := LH hcell; clear hcell
 obtain ⟨g0, g1, g2⟩ := HF.out.2 (f0p, f0s) (by simp)
 simp only at g0 g1 g2
 have HB := LH hb; clear hb
 have HD := LH hd; clear hd
 have RK := LH rk; clear rk
 unfold maxLen at hcm
 go_enter Tryz.func87, Tryz.ntmps87
 go_upto_region 5 with fail
 generalize hS : World.alloc (World.alloc w _) _ = W1
 have x1 : Ext w W1 := by rw [<- hS]; exact ((XR _).alloc _).alloc _
 have m0 : W1.cell? ⟨w.heap.size, 0, none⟩ = some (.int .i64 kd) := by rw [<- hS]; simp
 have m1 : W1.cell? ⟨w.heap.size, 1, none⟩ = some (.string t) := by rw [<- hS]; simp
 have m2 : W1.cell? ⟨w.heap.size, 2, none⟩ = some (.int .i64 nu) := by rw [<- hS]; simp
 have m3 : W1.cell? ⟨w.heap.size, 3, none⟩ = some (.int .i64 de) := by rw [<- hS]; simp
 have m4 : W1.cell? ⟨w.heap.size, 4, none⟩ = some (.slice ak kids.length ck) := by rw [<- hS]; simp
 have p0 : W1.cell? ⟨w.heap.size + 1, 0, none⟩ = some (.int .i64 f0p) := by rw [<- hS]; simp
 have p1 : W1.cell? ⟨w.heap.size + 1, 1, none⟩ = some (.int .i64 f0s) := by rw [<- hS]; simp
 clear hS t0 t1
 have RF2 : Hid (∀ W, Ext w W -> Rep W (frD (G ++ [(f0p, f0s)])) [.slice (some ⟨b, o, none⟩) (G.length + 1) cap]) := LH fun W h => by
  have := Rep.ext h RF.out
  simpa only [List.length_append, List.length_singleton] using this
 have hab := argsB_bd t
 go_upto_block 0 with fail
 go_cut [8, 9, 10, 11, 2] (fun tv nv dv kv fv wx => tv = .bool (tI ⟨kd, t, nu, de, kids⟩) /\ nv = .bool (nI K (G ++ [(f0p, f0s)]) ⟨kd, t, nu, de, kids⟩) /\ dv = .bool (dI ⟨kd, t, nu, de, kids⟩) /\ kv = .int .i64 (kI ⟨kd, t, nu, de, kids⟩) /\ Rep wx (frD (frIn (G ++ [(f0p, f0s)]) ⟨kd, t, nu, de, kids⟩)) [fv] /\ Hid (eI K (G ++ [(f0p, f0s)]) ⟨kd, t, nu, de, kids⟩) /\ Ext W1 wx)
 case first =>
  by_cases hc : kd = 1
  · subst hc
    clear h15
    as_aux_lemma =>
     go_wp2_with fail
     refine (within_any _ _ _ _).mono ?_
     rintro e wq ⟨rfl, hq⟩
     subst wq
     go_wp2_with fail
     go_meet
     exact ⟨by simp [tI], by simp [nI, inR], by simp [dI], by simp [kI], (by rw [frIn_ne (by simp)]; exact RF2.out _ (x1)), LH (by simp [eI]), XR _⟩
  have c1 := int_ne hc
  have d1 := LH hc; clear hc
  by_cases hc : kd = 2
  · subst hc
    clear h15
    as_aux_lemma =>
     go_wp2_with fail
     refine (plainText_any t _ (by omega)).mono ?_
     rintro e wq ⟨rfl, hq⟩
     subst wq
     go_wp2_with fail
     go_meet
     exact ⟨by simp [tI], by simp [nI, inR], by simp [dI], by simp [kI], (by rw [frIn_ne (by simp)]; exact RF2.out _ (x1)), LH (by simp [eI]), XR _⟩
  have c2 := int_ne hc
  have d2 := LH hc; clear hc
  by_cases hc : kd = 3
  · subst hc
    clear h15
    as_aux_lemma =>
     go_wp2_with fail
     refine (impl_IsSelector_any _ _ hts (hM.ext x1)).mono ?_
     rintro e w2 ⟨rfl, hx2⟩
     go_wp2_with fail
     go_meet
     exact ⟨by simp [tI], by simp [nI, inR], by simp [dI], by simp [kI], (by rw [frIn_ne (by simp)]; exact RF2.out _ (x1.trans hx2)), LH (by simp [eI]), hx2⟩
  have c3 := int_ne hc
  have d3 := LH hc; clear hc
  by_cases hc : kd = 4
  · subst hc
    clear h15
    as_aux_lemma =>
     go_wp2_with fail
     go_meet
     exact ⟨by simp [tI], by simp [nI, inR], by simp [dI], by simp [kI], (by rw [frIn_ne (by simp)]; exact RF2.out _ (x1)), LH (by simp [eI]), XR _⟩
  have c4 := int_ne hc
  have d4 := LH hc; clear hc
  by_cases hc : kd = 5
  · subst hc
    clear h15
    as_aux_lemma =>
     go_wp2_with fail
     go_meet
     exact ⟨by simp [tI], by simp [nI, inR], by simp [dI], by simp [kI], (by rw [frIn_ne (by simp)]; exact RF2.out _ (x1)), LH (by simp [eI]), XR _⟩
  have c5 := int_ne hc
  have d5 := LH hc; clear hc
  by_cases hc : kd = 6
  · subst hc
    clear h15
    as_aux_lemma =>
     go_wp2_with fail
     go_meet
     exact ⟨by simp [tI], by simp [nI, inR], by simp [dI], by simp [kI], (by rw [frIn_ne (by simp)]; exact RF2.out _ (x1)), LH (by simp [eI]), XR _⟩
  have c6 := int_ne hc
  have d6 := LH hc; clear hc
  by_cases hc : kd = 7
  · subst hc
    clear h15
    as_aux_lemma =>
     go_wp2_with fail
     go_meet
     exact ⟨by simp [tI], by simp [nI, inR], by simp [dI], by simp [kI], (by rw [frIn_ne (by simp)]; exact RF2.out _ (x1)), LH (by simp [eI]), XR _⟩
  have c7 := int_ne hc
  have d7 := LH hc; clear hc
  by_cases hc : kd = 8
  · subst hc
    clear h15
    as_aux_lemma =>
     by_cases hr : 0 <= de /\ de <= (G.length : Int)
     rotate_left
     · have hd := decide_eq_false hr
       have NE : Hid (¬ okN (n + 1) K (G ++ [(f0p, f0s)]) ⟨8, t, nu, de, kids⟩) := LH (not_okN (fun h => hr (by have := inR_iff.1 (h.2.1 (by simp)).1; simpa using this)) (by simp))
       clear hr
       go_wp2_with fail
       refine (within_any _ _ _ _).mono ?_
       rw [hd]
       rintro e wq ⟨rfl, hq⟩
       subst wq
       clear hd
       go_wp2_with fail
       go_ret
       exact ⟨ret_bool (prB_ff NE.out).symm, x1⟩
     have hd := decide_eq_true hr
     obtain ⟨j, hj⟩ : ∃ j : Nat, (G.length : Int) - de = j := ⟨((G.length : Int) - de).toNat, by omega⟩
     have hjl : j < G.length + 1 := by omega
     have hji : (j : Int) < (G.length : Int) + 1 := by omega
     have hfr := frAt_ok HF.out de
     have hfj := frAt_get (f := (f0p, f0s)) hr.1 hr.2 hj
     have HRD : Hid (inR 0 ((((G ++ [(f0p, f0s)]) : Fr).length : Int) - 1) de = true) := LH (inR_iff.2 (by simp; exact hr))
     obtain ⟨f, hf⟩ : ∃ f, frAt (G ++ [(f0p, f0s)]) de = f := ⟨_, rfl⟩
     rw [hf] at hfr hfj
     obtain ⟨fp, fs⟩ := f
     have HFR := LH hf; clear hf
     obtain ⟨h30, h31, h32⟩ := hfr
     simp only at h30 h31 h32
     have q0 := x1.cell (HC.out j _ hfj).1
     have q1 := x1.cell (HC.out j _ hfj).2
     have zb1 : b < W1.heap.size := lt_of_cell q0
     have zm1 : w.heap.size < W1.heap.size := lt_of_cell m0
     simp only at q0 q1
     clear hr hfj
     cases hn : inR 0 (fs - 1) nu
     · have hn' : decide (0 <= nu /\ nu <= fs - 1) = false := hn
       have NE : Hid (¬ okN (n + 1) K (G ++ [(f0p, f0s)]) ⟨8, t, nu, de, kids⟩) := LH (not_okN (fun h => by have h2 := (h.2.1 (by simp)).2; simp [nI, HFR.out, hn] at h2) (by simp))
       clear hn
       go_wp2_with fail
       refine (within_any _ _ _ _).mono ?_
       rw [hd]
       rintro e wq ⟨rfl, hq⟩
       subst wq
       clear hd
       go_wp2_with fail
       refine (within_any _ _ _ _).mono ?_
       rw [hn']
       rintro e wq ⟨rfl, hq⟩
       subst wq
       clear hn'
       go_wp2_with fail
       go_ret
       exact ⟨ret_bool (prB_ff NE.out).symm, x1.alloc _⟩
     · have hn' : decide (0 <= nu /\ nu <= fs - 1) = true := hn
       have HN := LH hn; clear hn
       go_wp2_with fail
       refine (within_any _ _ _ _).mono ?_
       rw [hd]
       rintro e wq ⟨rfl, hq⟩
       subst wq
       clear hd
       go_wp2_with fail
       refine (within_any _ _ _ _).mono ?_
       rw [hn']
       rintro e wq ⟨rfl, hq⟩
       subst wq
       clear hn'
       go_wp2_with fail
       go_meet
       exact ⟨by simp [tI], by simp [nI, HFR.out, HN.out], by simp [dI], by simp [kI], (by rw [frIn_ne (by simp)]; exact RF2.out _ (x1.alloc _)), LH (by simp [eI, nI, HFR.out, HN.out, inR_iff.1]; simpa using HRD.out), (XR _).alloc _⟩
  have c8 := int_ne hc
  have d8 := LH hc; clear hc
  by_cases hc : kd = 9
  · subst hc
    clear h15
    as_aux_lemma =>
     by_cases hr : 0 <= de /\ de <= (G.length : Int)
     rotate_left
     · have hd := decide_eq_false hr
       have NE : Hid (¬ okN (n + 1) K (G ++ [(f0p, f0s)]) ⟨9, t, nu, de, kids⟩) := LH (not_okN (fun h => hr (by have := inR_iff.1 (h.2.1 (by simp)).1; simpa using this)) (by simp))
       clear hr
       go_wp2_with fail
       refine (within_any _ _ _ _).mono ?_
       rw [hd]
       rintro e wq ⟨rfl, hq⟩
       subst wq
       clear hd
       go_wp2_with fail
       go_ret
       exact ⟨ret_bool (prB_ff NE.out).symm, x1⟩
     have hd := decide_eq_true hr
     obtain ⟨j, hj⟩ : ∃ j : Nat, (G.length : Int) - de = j := ⟨((G.length : Int) - de).toNat, by omega⟩
     have hjl : j < G.length + 1 := by omega
     have hji : (j : Int) < (G.length : Int) + 1 := by omega
     have hfr := frAt_ok HF.out de
     have hfj := frAt_get (f := (f0p, f0s)) hr.1 hr.2 hj
     have HRD : Hid (inR 0 ((((G ++ [(f0p, f0s)]) : Fr).length : Int) - 1) de = true) := LH (inR_iff.2 (by simp; exact hr))
     obtain ⟨f, hf⟩ : ∃ f, frAt (G ++ [(f0p, f0s)]) de = f := ⟨_, rfl⟩
     rw [hf] at hfr hfj
     obtain ⟨fp, fs⟩ := f
     have HFR := LH hf; clear hf
     obtain ⟨h30, h31, h32⟩ := hfr
     simp only at h30 h31 h32
     have q0 := x1.cell (HC.out j _ hfj).1
     have q1 := x1.cell (HC.out j _ hfj).2
     have zb1 : b < W1.heap.size := lt_of_cell q0
     have zm1 : w.heap.size < W1.heap.size := lt_of_cell m0
     simp only at q0 q1
     clear hr hfj
     cases hn : inR fp (fs - 1) nu
     · have hn' : decide (fp <= nu /\ nu <= fs - 1) = false := hn
       have NE : Hid (¬ okN (n + 1) K (G ++ [(f0p, f0s)]) ⟨9, t, nu, de, kids⟩) := LH (not_okN (fun h => by have h2 := (h.2.1 (by simp)).2; simp [nI, HFR.out, hn] at h2) (by simp))
       clear hn
       go_wp2_with fail
       refine (within_any _ _ _ _).mono ?_
       rw [hd]
       rintro e wq ⟨rfl, hq⟩
       subst wq
       clear hd
       go_wp2_with fail
       refine (within_any _ _ _ _).mono ?_
       rw [hn']
       rintro e wq ⟨rfl, hq⟩
       subst wq
       clear hn'
       go_wp2_with fail
       go_ret
       exact ⟨ret_bool (prB_ff NE.out).symm, x1.alloc _⟩
     · have hn' : decide (fp <= nu /\ nu <= fs - 1) = true := hn
       have HN := LH hn; clear hn
       go_wp2_with fail
       refine (within_any _ _ _ _).mono ?_
       rw [hd]
       rintro e wq ⟨rfl, hq⟩
       subst wq
       clear hd
       go_wp2_with fail
       refine (within_any _ _ _ _).mono ?_
       rw [hn']
       rintro e wq ⟨rfl, hq⟩
       subst wq
       clear hn'
       go_wp2_with fail
       go_meet
       exact ⟨by simp [tI], by simp [nI, HFR.out, HN.out], by simp [dI], by simp [kI], (by rw [frIn_ne (by simp)]; exact RF2.out _ (x1.alloc _)), LH (by simp [eI, nI, HFR.out, HN.out, inR_iff.1]; simpa using HRD.out), (XR _).alloc _⟩
  have c9 := int_ne hc
  have d9 := LH hc; clear hc
  by_cases hc : kd = 10
  · subst hc
    clear h15
    as_aux_lemma =>
     go_wp2_with fail
     refine (impl_IsName_any t _ (by omega)).mono ?_
     rintro e w2 ⟨rfl, hx2⟩
     replace m0 := Ext.cell hx2 m0
     go_wp2_with fail
     go_meet
     exact ⟨by simp [tI], by simp [nI, inR], by simp [dI], by simp [kI], (by rw [frIn_ne (by simp)]; exact RF2.out _ (x1.trans hx2)), LH (by simp [eI]), hx2⟩
  have c10 := int_ne hc
  have d10 := LH hc; clear hc
  by_cases hc : kd = 11
  · subst hc
    clear h15
    as_aux_lemma =>
     go_wp2_with fail
     refine (impl_IsName_any t _ (by omega)).mono ?_
     rintro e w2 ⟨rfl, hx2⟩
     replace m0 := Ext.cell hx2 m0
     go_wp2_with fail
     go_meet
     exact ⟨by simp [tI], by simp [nI, inR], by simp [dI], by simp [kI], (by rw [frIn_ne (by simp)]; exact RF2.out _ (x1.trans hx2)), LH (by simp [eI]), hx2⟩
  have c11 := int_ne hc
  have d11 := LH hc; clear hc
  by_cases hc : kd = 12
  · subst hc
    clear h15
    as_aux_lemma =>
     go_wp2_with fail
     refine (within_any _ _ _ _).mono ?_
     rintro e wq ⟨rfl, hq⟩
     subst wq
     go_wp2_with fail
     go_meet
     exact ⟨by simp [tI], by simp [nI, inR], by simp [dI], by simp [kI], (by rw [frIn_ne (by simp)]; exact RF2.out _ (x1)), LH (by simp [eI]), XR _⟩
  have c12 := int_ne hc
  have d12 := LH hc; clear hc
  by_cases hc : kd = 13
  · subst hc
    clear h15
    as_aux_lemma =>
     go_wp2_with fail
     refine (impl_IsSelector_any _ _ hts (hM.ext x1)).mono ?_
     rintro e w2 ⟨rfl, hx2⟩
     replace m0 := Ext.cell hx2 m0
     replace m1 := Ext.cell hx2 m1
     replace m2 := Ext.cell hx2 m2
     go_wp2_with fail
     refine (impl_CountArgs_any _ _ hts (hM.ext (x1.trans hx2))).mono ?_
     rintro e w3 ⟨rfl, hx3⟩
     replace m0 := Ext.cell hx3 m0
     replace m2 := Ext.cell hx3 m2
     go_wp2_with fail
     go_meet
     exact ⟨by simp [tI], by simp [nI, inR], by simp [dI], by simp [kI], (by rw [frIn_ne (by simp)]; exact RF2.out _ (x1.trans (hx2.trans hx3))), LH (by simp [eI]), hx2.trans hx3⟩
  have c13 := int_ne hc
  have d13 := LH hc; clear hc
  by_cases hc : kd = 14
  · subst hc
    clear h15
    as_aux_lemma =>
     go_wp2_with fail
     refine (impl_IsSelector_any _ _ hts (hM.ext x1)).mono ?_
     rintro e w2 ⟨rfl, hx2⟩
     replace m0 := Ext.cell hx2 m0
     replace m1 := Ext.cell hx2 m1
     replace m2 := Ext.cell hx2 m2
     go_wp2_with fail
     refine (impl_CountArgs_any _ _ hts (hM.ext (x1.trans hx2))).mono ?_
     rintro e w3 ⟨rfl, hx3⟩
     replace m0 := Ext.cell hx3 m0
     replace m2 := Ext.cell hx3 m2
     go_wp2_with fail
     refine (within_any _ _ _ _).mono ?_
     rintro e wq ⟨rfl, hq⟩
     subst wq
     go_wp2_with fail
     go_meet
     exact ⟨by simp [tI], by simp [nI, inR], by simp [dI], by simp [kI], (by rw [frIn_ne (by simp)]; exact RF2.out _ (x1.trans (hx2.trans hx3))), LH (by simp [eI]), hx2.trans hx3⟩
  have c14 := int_ne hc
  have d14 := LH hc; clear hc
  by_cases hc : kd = 16
  · subst hc
    clear h15
    as_aux_lemma =>
     by_cases r1 : 0 <= de /\ de <= 30
     rotate_left
     · have hd := decide_eq_false r1
       have NE : Hid (¬ okN (n + 1) K (G ++ [(f0p, f0s)]) ⟨16, t, nu, de, kids⟩) := LH (not_okN (fun h => r1 (inR_iff.1 (h.2.2 rfl).1)) (by simp))
       go_wp2_with fail
       refine (within_any _ _ _ _).mono ?_
       rw [hd]
       rintro e wq ⟨rfl, hq⟩
       subst wq
       clear hd
       go_wp2_with fail
       go_ret
       exact ⟨ret_bool (prB_ff NE.out).symm, x1⟩
     have hd := decide_eq_true r1
     by_cases r2 : 0 <= nu /\ nu <= de
     rotate_left
     · have hd2 := decide_eq_false r2
       have NE : Hid (¬ okN (n + 1) K (G ++ [(f0p, f0s)]) ⟨16, t, nu, de, kids⟩) := LH (not_okN (fun h => r2 (inR_iff.1 (h.2.2 rfl).2)) (by simp))
       clear r1 r2
       go_wp2_with fail
       refine (within_any _ _ _ _).mono ?_
       rw [hd]
       rintro e wq ⟨rfl, hq⟩
       subst wq
       clear hd
       go_wp2_with fail
       refine (within_any _ _ _ _).mono ?_
       rw [hd2]
       rintro e wq ⟨rfl, hq⟩
       subst wq
       clear hd2
       go_wp2_with fail
       go_ret
       exact ⟨ret_bool (prB_ff NE.out).symm, x1⟩
     have hd2 := decide_eq_true r2
     have HE : Hid (eI K (G ++ [(f0p, f0s)]) ⟨16, t, nu, de, kids⟩) := LH ⟨by simp, by simp, fun _ => ⟨inR_iff.2 r1, inR_iff.2 r2⟩⟩
     clear r1 r2
     go_wp2_with fail
     refine (within_any _ _ _ _).mono ?_
     rw [hd]
     rintro e wq ⟨rfl, hq⟩
     subst wq
     clear hd
     go_wp2_with fail
     refine (within_any _ _ _ _).mono ?_
     rw [hd2]
     rintro e wq ⟨rfl, hq⟩
     subst wq
     clear hd2
     go_upto_region 48 with fail
     obtain ⟨i0, hi, hz0, hz1, hz2⟩ := info_parts frInfo
     have KS : Hid (∀ w'', Ext W1 w'' -> w''.cell? ⟨w.heap.size, 2, none⟩ = some (.int .i64 nu) /\ w''.cell? ⟨w.heap.size, 3, none⟩ = some (.int .i64 de) /\ Ext W1 w'') := LH fun w'' h => ⟨Ext.cell h m2, Ext.cell h m3, h⟩
     have hlF : ((G ++ [(f0p, f0s)]) : Fr).length = G.length + 1 := by simp
     have CLN : Hid (∀ W, Ext (W1.alloc (.cells #[.int .i64 nu, .int .i64 de] 135)) W -> W1.heap.size + 1 = W.heap.size -> Calls Tryz.prog 119 #[.slice (some ⟨b, o, none⟩) (G.length + 1) cap] W fun e w' => ∃ ao cp, e = .returned (.slice ao (G.length + 1) cp) /\ Acc (W1.heap.size + 1) w' 135 2 (.slice ao (G.length + 1) cp) ((G ++ [(f0p, f0s)]).map fdat) [] /\ Ext W w') := LH fun W h hz => by
      have := clone_fr (G ++ [(f0p, f0s)]) b o cap W (by rw [hlF]; exact RF2.out W ((x1.alloc _).trans h)) (by omega)
      rw [hlF, <- hz] at this
      exact this
     have NX : Hid (∀ (w5 : World) (ao : Option Addr) (cp : Nat), Acc (W1.heap.size + 1) w5 135 2 (.slice ao (G.length + 1) cp) ((G ++ [(f0p, f0s)]).map fdat) [] -> Ext (W1.alloc (.cells #[.int .i64 nu, .int .i64 de] 135)) w5 ->
      Acc (W1.heap.size + 1) w5 135 2 (.slice ao (G.length + 1) cp) ((G ++ [(f0p, f0s)]).map fdat) [] /\ RepF w5 (.sl 2 [fdat (nu, de)]) [.slice (some ⟨W1.heap.size, 0, none⟩) 1 1] [W1.heap.size] /\ W1.heap.size + 1 <= w5.heap.size /\ Ext W1 w5) := LH fun w5 ao cp h1 h2 => by
      have hO := (own_new W1 #[.int .i64 nu, .int .i64 de] 135).ext h2
      refine ⟨h1, RepF.row1 (cs := [.int .i64 nu, .int .i64 de]) hO.lt rfl (fun j c hj => ?_) (RepF.st (RepS.int _ (RepS.int _ (RepS.nil _)))), hO.lt, ((XR W1).alloc _).trans h2⟩
      rw [hO.cell]
      simpa using hj
     have CLN2 : Hid (Calls Tryz.prog 119 #[.slice (some ⟨b, o, none⟩) (G.length + 1) cap] W1.drew fun e w' => ∃ ao cp, e = .returned (.slice ao (G.length + 1) cp) /\ Acc W1.heap.size w' 135 2 (.slice ao (G.length + 1) cp) ((G ++ [(f0p, f0s)]).map fdat) [] /\ Ext W1 w') := LH (by
      have := clone_fr (G ++ [(f0p, f0s)]) b o cap W1.drew (by rw [hlF]; exact RF2.out _ (Ext.drew x1)) (by omega)
      rw [hlF, show W1.drew.heap.size = W1.heap.size from by simp] at this
      exact this.mono fun e w' ⟨ao, cp, h1, h2, h3⟩ => ⟨ao, cp, h1, h2, (Ext.drew (XR W1)).trans h3⟩)
     have NX2 : Hid (∀ (w5 : World) (ao : Option Addr) (cp : Nat), Acc W1.heap.size w5 135 2 (.slice ao (G.length + 1) cp) ((G ++ [(f0p, f0s)]).map fdat) [] -> Ext W1 w5 ->
      Acc W1.heap.size (w5.alloc (.cells #[.int .i64 nu, .int .i64 de] 135)) 135 2 (.slice ao (G.length + 1) cp) ((G ++ [(f0p, f0s)]).map fdat) [] /\ RepF (w5.alloc (.cells #[.int .i64 nu, .int .i64 de] 135)) (.sl 2 [fdat (nu, de)]) [.slice (some ⟨w5.heap.size, 0, none⟩) 1 1] [w5.heap.size] /\ W1.heap.size <= (w5.alloc (.cells #[.int .i64 nu, .int .i64 de] 135)).heap.size /\ Ext W1 (w5.alloc (.cells #[.int .i64 nu, .int .i64 de] 135)) /\ Ext W1 w5) := LH fun w5 ao cp h1 h2 => by
      have hO := own_new w5 #[.int .i64 nu, .int .i64 de] 135
      have hsz := h2.size
      refine ⟨h1.ext ((XR w5).alloc _), RepF.row1 (cs := [.int .i64 nu, .int .i64 de]) hO.lt rfl (fun j c hj => ?_) (RepF.st (RepS.int _ (RepS.int _ (RepS.nil _)))), by simp; omega, h2.alloc _, h2⟩
      rw [hO.cell]
      simpa using hj
     have HLM : Hid (((G ++ [(f0p, f0s)]).map fdat).length + 1 <= maxLen) := LH (by rw [List.length_map, hlF]; unfold maxLen; omega)
     have HLB : Hid ((((G ++ [(f0p, f0s)]).map fdat).length + 1) * 16 <= 140737488355328) := LH (by rw [List.length_map, hlF]; omega)
     clear hlF
     go_region_held3 (fun w'' => w''.cell? ⟨w.heap.size, 2, none⟩ = some (.int .i64 nu) /\ w''.cell? ⟨w.heap.size, 3, none⟩ = some (.int .i64 de) /\ Ext W1 w'')
      (first | exact KS.out _ hxq | exact KS.out _ hnx.2.2.2 | exact KS.out _ hny.2.2.2.1 | exact KS.out _ hny.2.2.2.2 | exact KS.out _ (Ext.drew ((XR _).alloc _)) | exact KS.out _ ((XR _).alloc _) | exact KS.out _ (Ext.drew (XR _)))
      (first
       | (go_at_call 119; refine (CLN.out (W1.alloc (.cells #[.int .i64 nu, .int .i64 de] 135)).drew (Ext.drew (XR _)) (by simp)).mono ?_; rintro e w5 ⟨ao5, cp5, rfl, hacc5, hx5⟩; have hnx := NX.out w5 ao5 cp5 hacc5 (Ext.trans (Ext.drew (XR _)) hx5))
       | (go_at_call 119; refine CLN2.out.mono ?_; rintro e w5 ⟨ao5, cp5, rfl, hacc5, hx5⟩; have hny := NX2.out w5 ao5 cp5 hacc5 hx5)
       | (refine step_append_acc rfl _ _ 136 rfl (W1.heap.size + 1) 135 i0 _ 2 16 Tryz.underlying136 hi hz0 hz1 hz2 rfl (by decide) _ ((G ++ [(f0p, f0s)]).map fdat) [] rfl hnx.1 [fdat (nu, de)] _ 1 1 [W1.heap.size] rfl hnx.2.1 (Fresh.nil _ _) (by simp) HLM.out HLB.out hnx.2.2.1 ?_; intro ao' cap' w' hacc2 hg; have hxq : Ext W1 w' := Below.trans hnx.2.2.2 (Below.mono (Acc.below hnx.1 (Below.refl _ _) hg hnx.2.2.1) (by omega)))
       | (refine step_append_acc rfl _ _ 136 rfl W1.heap.size 135 i0 _ 2 16 Tryz.underlying136 hi hz0 hz1 hz2 rfl (by decide) _ ((G ++ [(f0p, f0s)]).map fdat) [] rfl hny.1 [fdat (nu, de)] _ 1 1 [w5.heap.size] rfl hny.2.1 (Fresh.nil _ _) (by simp) HLM.out HLB.out hny.2.2.1 ?_; intro ao' cap' w' hacc2 hg; have hxq : Ext W1 w' := Below.trans hny.2.2.2.1 (Below.mono (Acc.below hny.1 (Below.refl _ _) hg hny.2.2.1) (by omega))))
     all_goals
      go_wp2_with fail
      go_meet
      obtain ⟨ao6, cp6, gp6, e6, h6, -⟩ := Acc.rep hacc2
      refine ⟨by simp [tI], by simp [nI], by simp [dI], by simp [kI], ?_, HE, hxq⟩
      rw [show frIn (G ++ [(f0p, f0s)]) ⟨16, t, nu, de, kids⟩ = (G ++ [(f0p, f0s)]) ++ [(nu, de)] from if_pos rfl, frD_eq, List.map_append]
      injection e6
      subst_vars
      have h7 := h6.rep
      have hl7 : (((G ++ [(f0p, f0s)]).map fdat) ++ [fdat (nu, de)]).length = G.length + 1 + 1 := by simp
      first | exact h7 | (rw [hl7] at h7; exact h7)
  have c16 := int_ne hc
  have d16 := LH hc; clear hc
  by_cases hc : kd = 17
  · subst hc
    clear h15
    as_aux_lemma =>
     by_cases hm : (2 : Int) < kids.length
     all_goals
      go_wp2_with fail
      go_meet
      exact ⟨by simp [tI], by simp [nI, inR], by simp [dI], by simp [kI]; try omega, (by rw [frIn_ne (by simp)]; exact RF2.out _ (x1)), LH (by simp [eI]), XR _⟩
  have c17 := int_ne hc
  have d17 := LH hc; clear hc
  by_cases hc : kd = 18
  · subst hc
    clear h15
    as_aux_lemma =>
     go_wp2_with fail
     go_meet
     exact ⟨by simp [tI], by simp [nI, inR], by simp [dI], by simp [kI], (by rw [frIn_ne (by simp)]; exact RF2.out _ (x1)), LH (by simp [eI]), XR _⟩
  have c18 := int_ne hc
  have d18 := LH hc; clear hc
  by_cases hc : kd = 19
  · subst hc
    clear h15
    as_aux_lemma =>
     go_wp2_with fail
     go_meet
     exact ⟨by simp [tI], by simp [nI, inR], by simp [dI], by simp [kI], (by rw [frIn_ne (by simp)]; exact RF2.out _ (x1)), LH (by simp [eI]), XR _⟩
  have c19 := int_ne hc
  have d19 := LH hc; clear hc
  by_cases hc : kd = 20
  · subst hc
    clear h15
    as_aux_lemma =>
     go_wp2_with fail
     refine (within_any _ _ _ _).mono ?_
     rintro e wq ⟨rfl, hq⟩
     subst wq
     go_wp2_with fail
     go_meet
     exact ⟨by simp [tI], by simp [nI, inR], by simp [dI], by simp [kI], (by rw [frIn_ne (by simp)]; exact RF2.out _ (x1)), LH (by simp [eI]), XR _⟩
  have c20 := int_ne hc
  have d20 := LH hc; clear hc
  by_cases hc : kd = 21
  · subst hc
    clear h15
    as_aux_lemma =>
     go_wp2_with fail
     refine (within_any _ _ _ _).mono ?_
     rintro e wq ⟨rfl, hq⟩
     subst wq
     go_wp2_with fail
     go_meet
     exact ⟨by simp [tI], by simp [nI, inR, frAt_last], by simp [dI], by simp [kI], (by rw [frIn_ne (by simp)]; exact RF2.out _ (x1)), LH (by simp [eI]), XR _⟩
  have c21 := int_ne hc
  have d21 := LH hc; clear hc
  have c15 := int_ne h15
  have NE : Hid (¬ okN (n + 1) K (G ++ [(f0p, f0s)]) ⟨kd, t, nu, de, kids⟩) := LH (not_okN (fun h => by
   have h1 := h.1
   simp only at h1
   have e1 := d1.out
   have e2 := d2.out
   have e3 := d3.out
   have e4 := d4.out
   have e5 := d5.out
   have e6 := d6.out
   have e7 := d7.out
   have e8 := d8.out
   have e9 := d9.out
   have e10 := d10.out
   have e11 := d11.out
   have e12 := d12.out
   have e13 := d13.out
   have e14 := d14.out
   have e16 := d16.out
   have e17 := d17.out
   have e18 := d18.out
   have e19 := d19.out
   have e20 := d20.out
   have e21 := d21.out
   omega) h15)
  clear h15
  go_wp2_with fail
  go_ret
  exact ⟨ret_bool (prB_ff NE.out).symm, x1⟩
 case rest =>
 obtain ⟨rfl, rfl, rfl, rfl, hrf, he, hx⟩ := hcut
 have HR : Hid (okN (n + 1) K (G ++ [(f0p, f0s)]) ⟨kd, t, nu, de, kids⟩ ↔ gI ⟨kd, t, nu, de, kids⟩ (tI ⟨kd, t, nu, de, kids⟩) (nI K (G ++ [(f0p, f0s)]) ⟨kd, t, nu, de, kids⟩) (dI ⟨kd, t, nu, de, kids⟩) (kI ⟨kd, t, nu, de, kids⟩) /\ ∀ z, z ∈ kids -> okN n K (frIn (G ++ [(f0p, f0s)]) ⟨kd, t, nu, de, kids⟩) z) := LH (by
  rw [okN_node h15]
  exact ⟨fun h => ⟨h.2.1, h.2.2⟩, fun h => ⟨he.out, h.1, h.2⟩⟩)
 have HFI : Hid (FrOk (frIn (G ++ [(f0p, f0s)]) ⟨kd, t, nu, de, kids⟩)) := LH (frOk_in HF.out (fun h16 => by
  have h := he.out.2.2 h16
  have a := inR_iff.1 h.1
  have b := inR_iff.1 h.2
  exact ⟨b.1, b.2, a.2⟩))
 have hFl : (frIn (G ++ [(f0p, f0s)]) ⟨kd, t, nu, de, kids⟩).length + n <= 1000 := by unfold frIn; split <;> simp <;> omega
 have HRF := LH hrf
 clear hrf he
 generalize tI ⟨kd, t, nu, de, kids⟩ = tB at *
 generalize nI K (G ++ [(f0p, f0s)]) ⟨kd, t, nu, de, kids⟩ = nB at *
 generalize dI ⟨kd, t, nu, de, kids⟩ = dB at *
 generalize kI ⟨kd, t, nu, de, kids⟩ = kN at *
 generalize frIn (G ++ [(f0p, f0s)]) ⟨kd, t, nu, de, kids⟩ = F' at *
 replace m0 := Ext.cell hx m0
 replace m1 := Ext.cell hx m1
 replace m2 := Ext.cell hx m2
 replace m3 := Ext.cell hx m3
 replace m4 := Ext.cell hx m4
 have E2 := x1.trans hx
 clear p0 p1 hx h15
 obtain ⟨gB, hgB⟩ : ∃ g, (!prB (gI ⟨kd, t, nu, de, kids⟩ tB nB dB kN)) = g := ⟨_, rfl⟩
 have HG := LH hgB; clear hgB
 go_upto_region 59 with fail
 go_cut [207] (fun v wx => v = .bool gB /\ Ext _ wx)
 case first =>
  as_aux_lemma =>
   by_cases hk1 : (kids.length : Int) = kN
   rotate_left
   · have y1 := int_nen hk1
     have y2 := int_ne hk1
     have HK := LH hk1; clear hk1
     obtain rfl : gB = true := by rw [<- HG.out, prB_ff (fun h => HK.out h.1)]; rfl
     go_wp2_with fail
     go_meet
     exact ⟨rfl, XR _⟩
   have y1 := int_eqn hk1
   have K1 := LH hk1; clear hk1
   cases tB
   · by_cases ht : t = ⟨#[]⟩
     rotate_left
     · have e1 : t.toList.isEmpty = false := by
        cases h : t.toList with
        | nil => exact absurd (toList_inj (b := ⟨#[]⟩) (by rw [h]; simp [ByteArray.toList_eq])) ht
        | cons a l => rfl
       have HT := LH ht; clear ht
       obtain rfl : gB = true := by rw [<- HG.out, prB_ff (fun h => by rcases h.2.1 with h | h; cases h; exact HT.out h.1)]; rfl
       go_wp2_with fail
       go_meet
       exact ⟨rfl, XR _⟩
     subst ht
     cases hu : txK kd
     rotate_left
     · have HUU := LH hu
       obtain rfl : gB = true := by rw [<- HG.out, prB_ff (fun h => by rcases h.2.1 with h | h; cases h; exact absurd (h.2.symm.trans HUU.out) (by simp))]; rfl
       go_wp2_with (go_at_call 120; refine (usesText_any _ _).mono ?_; rw [hu]; rintro e wq ⟨rfl, hq⟩; subst wq)
       go_meet
       exact ⟨rfl, XR _⟩
     have HUU := LH hu
     cases nB
     · by_cases hnu : nu = 0
       rotate_left
       · have z1 := int_nen hnu
         have z2 := int_ne hnu
         have HNU := LH hnu; clear hnu
         obtain rfl : gB = true := by rw [<- HG.out, prB_ff (fun h => by rcases h.2.2.1 with h | h; cases h; exact HNU.out h.1)]; rfl
         go_wp2_with (go_at_call 120; refine (usesText_any _ _).mono ?_; rw [hu]; rintro e wq ⟨rfl, hq⟩; subst wq)
         go_meet
         exact ⟨rfl, XR _⟩
       subst hnu
       cases hv : nuK kd
       rotate_left
       · have HVV := LH hv
         obtain rfl : gB = true := by rw [<- HG.out, prB_ff (fun h => by rcases h.2.2.1 with h | h; cases h; exact absurd (h.2.symm.trans HVV.out) (by simp))]; rfl
         go_wp2_with (first | (go_at_call 120; refine (usesText_any _ _).mono ?_; rw [hu]; rintro e wq ⟨rfl, hq⟩; subst wq) | (go_at_call 121; refine (usesNumber_any _ _).mono ?_; rw [hv]; rintro e wq ⟨rfl, hq⟩; subst wq))
         go_meet
         exact ⟨rfl, XR _⟩
       have HVV := LH hv
       cases dB
       · by_cases hde : de = 0
         rotate_left
         · have z1 := int_nen hde
           have z2 := int_ne hde
           have HDE := LH hde; clear hde
           obtain rfl : gB = true := by rw [<- HG.out, prB_ff (fun h => by rcases h.2.2.2 with h | h; cases h; exact HDE.out h)]; rfl
           go_wp2_with (first | (go_at_call 120; refine (usesText_any _ _).mono ?_; rw [hu]; rintro e wq ⟨rfl, hq⟩; subst wq) | (go_at_call 121; refine (usesNumber_any _ _).mono ?_; rw [hv]; rintro e wq ⟨rfl, hq⟩; subst wq))
           go_meet
           exact ⟨rfl, XR _⟩
         subst hde
         obtain rfl : gB = false := by rw [<- HG.out, prB_tt (p := gI ⟨kd, _, _, _, kids⟩ _ _ _ _) ⟨K1.out, Or.inr ⟨rfl, HUU.out⟩, Or.inr ⟨rfl, HVV.out⟩, Or.inr rfl⟩]; rfl
         go_wp2_with (first | (go_at_call 120; refine (usesText_any _ _).mono ?_; rw [hu]; rintro e wq ⟨rfl, hq⟩; subst wq) | (go_at_call 121; refine (usesNumber_any _ _).mono ?_; rw [hv]; rintro e wq ⟨rfl, hq⟩; subst wq))
         go_meet
         exact ⟨rfl, XR _⟩
       · obtain rfl : gB = false := by rw [<- HG.out, prB_tt (p := gI ⟨kd, _, _, _, kids⟩ _ _ _ _) ⟨K1.out, Or.inr ⟨rfl, HUU.out⟩, Or.inr ⟨rfl, HVV.out⟩, Or.inl rfl⟩]; rfl
         go_wp2_with (first | (go_at_call 120; refine (usesText_any _ _).mono ?_; rw [hu]; rintro e wq ⟨rfl, hq⟩; subst wq) | (go_at_call 121; refine (usesNumber_any _ _).mono ?_; rw [hv]; rintro e wq ⟨rfl, hq⟩; subst wq))
         go_meet
         exact ⟨rfl, XR _⟩
     · cases dB
       · by_cases hde : de = 0
         rotate_left
         · have z1 := int_nen hde
           have z2 := int_ne hde
           have HDE := LH hde; clear hde
           obtain rfl : gB = true := by rw [<- HG.out, prB_ff (fun h => by rcases h.2.2.2 with h | h; cases h; exact HDE.out h)]; rfl
           go_wp2_with (go_at_call 120; refine (usesText_any _ _).mono ?_; rw [hu]; rintro e wq ⟨rfl, hq⟩; subst wq)
           go_meet
           exact ⟨rfl, XR _⟩
         subst hde
         obtain rfl : gB = false := by rw [<- HG.out, prB_tt (p := gI ⟨kd, _, _, _, kids⟩ _ _ _ _) ⟨K1.out, Or.inr ⟨rfl, HUU.out⟩, Or.inl rfl, Or.inr rfl⟩]; rfl
         go_wp2_with (go_at_call 120; refine (usesText_any _ _).mono ?_; rw [hu]; rintro e wq ⟨rfl, hq⟩; subst wq)
         go_meet
         exact ⟨rfl, XR _⟩
       · obtain rfl : gB = false := by rw [<- HG.out, prB_tt (p := gI ⟨kd, _, _, _, kids⟩ _ _ _ _) ⟨K1.out, Or.inr ⟨rfl, HUU.out⟩, Or.inl rfl, Or.inl rfl⟩]; rfl
         go_wp2_with (go_at_call 120; refine (usesText_any _ _).mono ?_; rw [hu]; rintro e wq ⟨rfl, hq⟩; subst wq)
         go_meet
         exact ⟨rfl, XR _⟩
   · cases nB
     · by_cases hnu : nu = 0
       rotate_left
       · have z1 := int_nen hnu
         have z2 := int_ne hnu
         have HNU := LH hnu; clear hnu
         obtain rfl : gB = true := by rw [<- HG.out, prB_ff (fun h => by rcases h.2.2.1 with h | h; cases h; exact HNU.out h.1)]; rfl
         go_wp2_with fail
         go_meet
         exact ⟨rfl, XR _⟩
       subst hnu
       cases hv : nuK kd
       rotate_left
       · have HVV := LH hv
         obtain rfl : gB = true := by rw [<- HG.out, prB_ff (fun h => by rcases h.2.2.1 with h | h; cases h; exact absurd (h.2.symm.trans HVV.out) (by simp))]; rfl
         go_wp2_with (go_at_call 121; refine (usesNumber_any _ _).mono ?_; rw [hv]; rintro e wq ⟨rfl, hq⟩; subst wq)
         go_meet
         exact ⟨rfl, XR _⟩
       have HVV := LH hv
       cases dB
       · by_cases hde : de = 0
         rotate_left
         · have z1 := int_nen hde
           have z2 := int_ne hde
           have HDE := LH hde; clear hde
           obtain rfl : gB = true := by rw [<- HG.out, prB_ff (fun h => by rcases h.2.2.2 with h | h; cases h; exact HDE.out h)]; rfl
           go_wp2_with (go_at_call 121; refine (usesNumber_any _ _).mono ?_; rw [hv]; rintro e wq ⟨rfl, hq⟩; subst wq)
           go_meet
           exact ⟨rfl, XR _⟩
         subst hde
         obtain rfl : gB = false := by rw [<- HG.out, prB_tt (p := gI ⟨kd, _, _, _, kids⟩ _ _ _ _) ⟨K1.out, Or.inl rfl, Or.inr ⟨rfl, HVV.out⟩, Or.inr rfl⟩]; rfl
         go_wp2_with (go_at_call 121; refine (usesNumber_any _ _).mono ?_; rw [hv]; rintro e wq ⟨rfl, hq⟩; subst wq)
         go_meet
         exact ⟨rfl, XR _⟩
       · obtain rfl : gB = false := by rw [<- HG.out, prB_tt (p := gI ⟨kd, _, _, _, kids⟩ _ _ _ _) ⟨K1.out, Or.inl rfl, Or.inr ⟨rfl, HVV.out⟩, Or.inl rfl⟩]; rfl
         go_wp2_with (go_at_call 121; refine (usesNumber_any _ _).mono ?_; rw [hv]; rintro e wq ⟨rfl, hq⟩; subst wq)
         go_meet
         exact ⟨rfl, XR _⟩
     · cases dB
       · by_cases hde : de = 0
         rotate_left
         · have z1 := int_nen hde
           have z2 := int_ne hde
           have HDE := LH hde; clear hde
           obtain rfl : gB = true := by rw [<- HG.out, prB_ff (fun h => by rcases h.2.2.2 with h | h; cases h; exact HDE.out h)]; rfl
           go_wp2_with fail
           go_meet
           exact ⟨rfl, XR _⟩
         subst hde
         obtain rfl : gB = false := by rw [<- HG.out, prB_tt (p := gI ⟨kd, _, _, _, kids⟩ _ _ _ _) ⟨K1.out, Or.inl rfl, Or.inl rfl, Or.inr rfl⟩]; rfl
         go_wp2_with fail
         go_meet
         exact ⟨rfl, XR _⟩
       · obtain rfl : gB = false := by rw [<- HG.out, prB_tt (p := gI ⟨kd, _, _, _, kids⟩ _ _ _ _) ⟨K1.out, Or.inl rfl, Or.inl rfl, Or.inl rfl⟩]; rfl
         go_wp2_with fail
         go_meet
         exact ⟨rfl, XR _⟩
 case rest =>
 as_aux_lemma =>
  obtain ⟨rfl, hx2⟩ := hcut
  replace E2 := E2.trans hx2
  cases gB
  rotate_left
  · have NE : Hid (¬ okN (n + 1) K (G ++ [(f0p, f0s)]) ⟨kd, t, nu, de, kids⟩) := LH (fun h => by
     have h1 := prB_tt (HR.out.1 h).1
     have h0 := HG.out
     rw [h1] at h0; cases h0)
    clear m0 m1 m2 m3 m4
    go_wp2_with fail
    go_ret
    exact ⟨ret_bool (prB_ff NE.out).symm, E2⟩
  have HA : Hid (okN (n + 1) K (G ++ [(f0p, f0s)]) ⟨kd, t, nu, de, kids⟩ ↔ ∀ z, z ∈ kids -> okN n K F' z) := LH (by
   rw [HR.out]
   exact ⟨fun h => h.2, fun h => ⟨prB_iff.1 (by have h0 := HG.out; revert h0; cases prB (gI ⟨kd, t, nu, de, kids⟩ tB nB dB kN) <;> simp), h⟩⟩)
  replace m4 := Ext.cell hx2 m4
  have HDK : Hid (∀ z, z ∈ kids -> z.deep <= n /\ z.d.bulk <= 1048576) := LH fun z hz => by
   have h1 := MCore.deep_kid (x := ⟨kd, t, nu, de, kids⟩) hz
   have h2 := MCore.bulk_kid (x := ⟨kd, t, nu, de, kids⟩) hz
   have h3 := HD.out; have h4 := HB.out
   exact ⟨by omega, by omega⟩
  obtain ⟨ako, cko, ba, oa, h1, hla, hma, pa, ha⟩ := Rep.slmap RK.out
  simp only [List.cons.injEq, and_true, Value.slice.injEq] at h1
  obtain ⟨rfl, -, rfl⟩ := h1
  unfold maxLen at hma
  replace HRF := LH (Rep.ext hx2 HRF.out)
  clear m0 m1 m2 m3 hx2 HR
  go_wp2_with fail
  go_loopw [6, 211] (fun _ iv wr => ∃ k : Nat, k <= kids.length /\ iv = .int .i64 k /\ Ext _ wr /\ Hid (∀ z, z ∈ kids.take k -> okN n K F' z)) (fun _ iv _ => kids.length - (intOf iv).toNat)
  case atStart => exact ⟨0, Nat.zero_le _, rfl, XR _, LH (by simp)⟩
  case round =>
   obtain ⟨k, hk, rfl, hxx, hR⟩ := hrel
   have E3 := E2.trans hxx
   by_cases hlt : k < kids.length
   · obtain rfl := pa (by omega)
     obtain ⟨ea, la, c1, ra⟩ := ha k kids[k] (by simp [hlt])
     obtain ⟨aa0, cc0, rfl, -⟩ := MCore.op_en ra
     have a0 := E3.cell (show w.cell? ⟨ba, oa + k * 5, none⟩ = some _ from c1 0 (by omega))
     have a1 := E3.cell (show w.cell? ⟨ba, oa + k * 5 + 1, none⟩ = some _ from c1 1 (by omega))
     have a2 := E3.cell (show w.cell? ⟨ba, oa + k * 5 + 2, none⟩ = some _ from c1 2 (by omega))
     have a3 := E3.cell (show w.cell? ⟨ba, oa + k * 5 + 3, none⟩ = some _ from c1 3 (by omega))
     have a4 := E3.cell (show w.cell? ⟨ba, oa + k * 5 + 4, none⟩ = some _ from c1 4 (by omega))
     have HRa := LH ra
     clear c1 la ha pa ra
     have hz := HDK.out _ (List.getElem_mem hlt)
     have CI : Hid (∀ (vf : Value) W, Ext w W -> Rep W (frD F') [vf] -> Calls Tryz.prog 87 #[.agg #[.int .i64 kids[k].kind, .string kids[k].text, .int .i64 kids[k].number, .int .i64 kids[k].depth, .slice aa0 kids[k].kids.length cc0], .int .i64 K, vf] W fun e w' => e = .returned (.bool (prB (okN n K F' kids[k]))) /\ Ext W w') := LH fun vf W h hr => IH.out kids[k] _ K F' vf W hz.1 hFl HFI.out hK0 hK1 hz.2 (hM.ext h) (Rep.ext h HRa.out) hr
     cases hg : prB (okN n K F' kids[k])
     · have NE : Hid (¬ okN (n + 1) K (G ++ [(f0p, f0s)]) ⟨kd, t, nu, de, kids⟩) := LH (fun h => by
        have := prB_tt (HA.out.1 h _ (List.getElem_mem hlt))
        rw [hg] at this; cases this)
       rw [hg] at CI
       clear hg
       go_wp2_with fail
       refine (CI.out _ _ (E3.alloc _) (Rep.ext (hxx.alloc _) HRF.out)).mono ?_
       clear a0 a1 a2 a3 a4
       rintro e w2 ⟨rfl, hx3⟩
       go_wp2_with fail
       go_ret
       exact ⟨ret_bool (prB_ff NE.out).symm, (E3.alloc _).trans hx3⟩
     · have HT : Hid (∀ z, z ∈ kids.take (k + 1) -> okN n K F' z) := LH (fun z hz => by
        rw [List.take_succ_eq_append_getElem hlt] at hz
        rcases List.mem_append.1 hz with hz | hz
        · exact hR.out z hz
        · rw [List.mem_singleton.1 hz]; exact prB_iff.1 hg)
       rw [hg] at CI
       clear hg
       go_wp2_with fail
       refine (CI.out _ _ (E3.alloc _) (Rep.ext (hxx.alloc _) HRF.out)).mono ?_
       clear a0 a1 a2 a3 a4
       rintro e w2 ⟨rfl, hx3⟩
       go_wp2_with fail
       go_roundw
       case rel => exact ⟨k + 1, by omega, by go_num, (hxx.alloc _).trans hx3, HT⟩
       case measure => simp [intOf]; omega
   · have HT : Hid (okN (n + 1) K (G ++ [(f0p, f0s)]) ⟨kd, t, nu, de, kids⟩) := LH (HA.out.2 (fun z hz => hR.out z (by rw [List.take_of_length_le (by omega)]; exact hz)))
     go_wp2_with fail
     go_ret
     exact ⟨ret_bool (prB_tt HT.out).symm, E3⟩
end Go.Proofs.YtlaclfeljimffaaGreatDoor
