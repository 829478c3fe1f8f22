/-
  CONTRACTS: a right node of a core tree, of the reference.
  Conditions: those that each lemma states.
-/
import Derived.Test.YtlaclfeljimffaaGreatDoorRows
import Derived.Test.YtlaclfeljimffaaGreatDoorP33
namespace Go.Proofs.YtlaclfeljimffaaGreatDoor
open Go.RowKit
set_option maxHeartbeats 8000000
set_option maxRecDepth 100000
set_option linter.unusedSimpArgs false
set_option linter.unusedVariables false
theorem l8Right_b (n : Nat) (IH : Hid (CoreAtS n)) (kd : Int) (t : ByteArray) (nu de : Int) (kids : List MCore) (ak : Option Addr) (ck : Nat) (K : Int) (F : Fr) (vs vp : Value) (w : World)
 (hd : (MCore.mk kd t nu de kids).deep <= n + 1) (hF : F.length + (n + 1) <= 1000) (hFo : FrOk F) (hK0 : 0 <= K) (hK1 : K <= 1000) (hb : (MCore.mk kd t nu de kids).d.bulk <= 1048576)
 (rk : Rep w (MCores kids) [.slice ak kids.length ck]) (rs : Rep w (slD F) [vs]) (rp : Rep w (paD F) [vp]) (h15 : kd ≠ 15) (hp : ¬ (1 <= kd /\ kd <= 8) /\ kd ≠ 16) :
 Calls Tryz.prog 73 #[.agg #[.int .i64 kd, .string t, .int .i64 nu, .int .i64 de, .slice ak kids.length ck], .int .i64 K, vs, vp] w fun e w' => e = .returned (.bool (prB (okN (n + 1) K F ⟨kd, t, nu, de, kids⟩))) /\ Ext w w' := by
 have HF := LH hFo
 have RS := LH rs; have RP := LH rp
 obtain ⟨bs, os, cs, rfl, hls, hms, zs, hcs⟩ := ints_open rs (by simp [hFo.1])
 obtain ⟨bp, op, cp, rfl, hlp, hmp, zp, hcp⟩ := ints_open rp (by simp [hFo.1])
 obtain ⟨G, f0, rfl⟩ : ∃ G f0, F = G ++ [f0] := ⟨F.dropLast, F.getLast hFo.1, (List.dropLast_concat_getLast hFo.1).symm⟩
 clear rs rp hFo
 have hks := Nat.le_trans (MCore.bulk_kids ⟨kd, t, nu, de, kids⟩) hb
 have hts := Nat.le_trans (MCore.bulk_text ⟨kd, t, nu, de, kids⟩) hb
 simp only [List.length_map, List.length_append, List.length_singleton] at hF hls hms hlp hmp hks hts
 obtain ⟨f0p, f0s⟩ := f0
 obtain ⟨g0, g1, g2⟩ := HF.out.2 (f0p, f0s) (by simp)
 simp only at g0 g1 g2
 have HCS := LH hcs; have HCP := LH hcp
 clear hcs hcp
 have HB := LH hb; clear hb
 have HD := LH hd; clear hd
 have RK := LH rk; clear rk
 unfold maxLen at hms hmp
 have hlm : ∀ g : Int × Int -> Int, (((G ++ [(f0p, f0s)]).map g).length) = G.length + 1 := fun g => by simp
 rw [hlm, hlm]
 clear hlm
 go_enter Tryz.func73, Tryz.ntmps73
 go_upto_region 2 with fail
 generalize hS : World.alloc w _ = W1
 have x1 : Ext w W1 := by rw [<- hS]; exact (XR _).alloc _
 have m0 : W1.cell? ⟨w.heap.size, 0, none⟩ = some (.int .i64 kd) := by rw [<- hS]; simp
 have m1 : W1.cell? ⟨w.heap.size, 1, none⟩ = some (.string t) := by rw [<- hS]; simp
 have m2 : W1.cell? ⟨w.heap.size, 2, none⟩ = some (.int .i64 nu) := by rw [<- hS]; simp
 have m3 : W1.cell? ⟨w.heap.size, 3, none⟩ = some (.int .i64 de) := by rw [<- hS]; simp
 have m4 : W1.cell? ⟨w.heap.size, 4, none⟩ = some (.slice ak kids.length ck) := by rw [<- hS]; simp
 clear hS
 have k1 := reg (XR _) m1
 have k2 := reg (XR _) m2
 have k3 := reg (XR _) m3
 refine wp_region_quiet_below (by kernel_rfl) (by kernel_rfl) ?_
 repeat (go_big_quiet_step (fail))
 refine wpQuiet_nil ?_
 clear k1 k2 k3
 intro _ hw'
 obtain ⟨pw, hw''⟩ := hw'
 subst hw''
 have y1 := regx W1 pw
 generalize hW2 : «Sort».grow (redrawn W1 pw.d) pw.os = W2 at *
 clear hW2
 replace m0 := Ext.cell y1 m0
 replace m1 := Ext.cell y1 m1
 replace m2 := Ext.cell y1 m2
 replace m3 := Ext.cell y1 m3
 replace m4 := Ext.cell y1 m4
 replace x1 := x1.trans y1
 clear y1
 generalize hT : t.toList.isEmpty = zT
 generalize hN : (nu == 0) = zN
 generalize hD : (de == 0) = zD
 have HZT : Hid (zT = true ↔ t = ⟨#[]⟩) := LH (by
  rw [<- hT]
  constructor
  · intro h
    refine toList_inj ?_
    have : t.toList = [] := by simpa using h
    rw [this]; simp [ByteArray.toList_eq]
  · intro h; subst h; simp [ByteArray.toList_eq])
 have HZN : Hid (zN = true ↔ nu = 0) := LH (by rw [<- hN]; simp)
 have HZD : Hid (zD = true ↔ de = 0) := LH (by rw [<- hD]; simp)
 clear hT hN hD
 have hab := argsB_bd t
 have RS2 : Hid (∀ W, Ext w W -> Rep W (slD (G ++ [(f0p, f0s)])) [.slice (some ⟨bs, os, none⟩) (G.length + 1) cs]) := LH fun W h => by
  have := Rep.ext h RS.out
  simpa only [List.length_map, List.length_append, List.length_singleton] using this
 have RP2 : Hid (∀ W, Ext w W -> Rep W (paD (G ++ [(f0p, f0s)])) [.slice (some ⟨bp, op, none⟩) (G.length + 1) cp]) := LH fun W h => by
  have := Rep.ext h RP.out
  simpa only [List.length_map, List.length_append, List.length_singleton] using this
 go_upto_block 0 with fail
 go_cut [10, 11, 12, 2, 3] (fun tv nv dv sv pv wx => ∃ sT sN sD : Bool, tv = .bool sT /\ nv = .bool sN /\ dv = .bool sD /\ Hid ((sT = true /\ sN = true /\ sD = true) ↔ (eI K (G ++ [(f0p, f0s)]) ⟨kd, t, nu, de, kids⟩ /\ gI ⟨kd, t, nu, de, kids⟩ (tI ⟨kd, t, nu, de, kids⟩) (nI K (G ++ [(f0p, f0s)]) ⟨kd, t, nu, de, kids⟩) (dI ⟨kd, t, nu, de, kids⟩) (kI ⟨kd, t, nu, de, kids⟩))) /\ Rep wx (slD (frIn (G ++ [(f0p, f0s)]) ⟨kd, t, nu, de, kids⟩)) [sv] /\ Rep wx (paD (frIn (G ++ [(f0p, f0s)]) ⟨kd, t, nu, de, kids⟩)) [pv] /\ Ext W2 wx)
 case first =>
  have hc : ¬ kd = 1 := by omega
  have c1 := int_ne hc
  have d1 := LH hc; clear hc
  have hc : ¬ kd = 2 := by omega
  have c2 := int_ne hc
  have d2 := LH hc; clear hc
  have hc : ¬ kd = 3 := by omega
  have c3 := int_ne hc
  have d3 := LH hc; clear hc
  have hc : ¬ kd = 4 := by omega
  have c4 := int_ne hc
  have d4 := LH hc; clear hc
  have hc : ¬ kd = 5 := by omega
  have c5 := int_ne hc
  have d5 := LH hc; clear hc
  have hc : ¬ kd = 6 := by omega
  have c6 := int_ne hc
  have d6 := LH hc; clear hc
  have hc : ¬ kd = 7 := by omega
  have c7 := int_ne hc
  have d7 := LH hc; clear hc
  have hc : ¬ kd = 8 := by omega
  have c8 := int_ne hc
  have d8 := LH hc; clear hc
  by_cases hc : kd = 9
  · subst hc
    clear h15 hp
    as_aux_lemma =>
     cases r1 : inR 0 (G.length : Int) de
     · have r1' : decide (0 <= de /\ de <= (G.length : Int)) = false := r1
       have HA := LH r1
       clear r1
       go_wp2_with fail
       refine (l1In_any _ _ _ _).mono ?_
       rw [r1']
       rintro e wq ⟨rfl, hq⟩
       subst wq
       clear r1'
       go_upto_region 19 with fail
       have CIN : Hid True := LH trivial
       refine wp_region_quiet_below (by kernel_rfl) (by kernel_rfl) ?_
       repeat (go_big_quiet_step (fail))
       refine wpQuiet_nil ?_
       intro _ hw'
       obtain ⟨pw, hw''⟩ := hw'
       subst hw''
       have y2 := regx W2 pw
       generalize hW2 : «Sort».grow (redrawn W2 pw.d) pw.os = W3 at *
       clear hW2
       go_wp2_with fail
       go_meet
       refine ⟨_, _, _, rfl, rfl, rfl, LH (by simp [HZT.out, HZN.out, HZD.out, eI, gI, tI, nI, dI, kI, txK, nuK, frAt_last, HA.out] <;> (first | done | omega | (constructor <;> intro h <;> simp_all <;> omega))), (by rw [frIn_ne (by simp)]; exact RS2.out _ (x1.trans y2)), (by rw [frIn_ne (by simp)]; exact RP2.out _ (x1.trans y2)), y2⟩
     have r1' : decide (0 <= de /\ de <= (G.length : Int)) = true := r1
     have hr := inR_iff.1 r1
     obtain ⟨j, hj⟩ : ∃ j : Nat, (G.length : Int) - de = j := ⟨((G.length : Int) - de).toNat, by omega⟩
     have hjl : j < G.length + 1 := by omega
     have hji : (j : Int) < (G.length : Int) + 1 := by omega
     have hfr := frAt_ok HF.out de
     have hfj := frAt_get (f := (f0p, f0s)) hr.1 hr.2 hj
     have HA := LH r1
     obtain ⟨f, hf⟩ : ∃ f, frAt (G ++ [(f0p, f0s)]) de = f := ⟨_, rfl⟩
     rw [hf] at hfr hfj
     obtain ⟨fp, fs⟩ := f
     have HFR := LH hf; clear hf
     obtain ⟨h30, h31, h32⟩ := hfr
     simp only at h30 h31 h32
     have qs : W2.cell? ⟨bs, os + j, none⟩ = some (.int .i64 fs) := Ext.cell x1 (HCS.out j fs (by rw [List.getElem?_map, hfj]; rfl))
     have qp : W2.cell? ⟨bp, op + j, none⟩ = some (.int .i64 fp) := Ext.cell x1 (HCP.out j fp (by rw [List.getElem?_map, hfj]; rfl))
     have zq : bs < W2.heap.size := lt_of_cell qs
     clear r1 hr hfj
     go_wp2_with fail
     refine (l1In_any _ _ _ _).mono ?_
     rw [r1']
     rintro e wq ⟨rfl, hq⟩
     subst wq
     clear r1'
     go_upto_region 19 with fail
     cases r2 : inR 0 (fs - 1) nu
     · have CIN : Hid (∀ W, Calls Tryz.prog 44 #[.int .i64 nu, .int .i64 0, .int .i64 (fs - 1)] W fun e w' => e = .returned (.bool false) /\ Ext W w') := LH fun W => (l1In_any nu 0 (fs - 1) W).mono fun e w' h => ⟨by rw [h.1, show decide (0 <= nu /\ nu <= fs - 1) = _ from r2], by rw [h.2]; exact XR _⟩
       have HR2 := LH r2; clear r2
       have k0 := reg (XR _) m0
       have k2 := reg (XR _) m2
       have k3 := reg (XR _) m3
       have k5 := reg (XR _) qs
       have k6 := reg (XR _) qp
       have HN9 : Hid (¬ (fp <= nu /\ nu <= fs - 1)) := LH (fun g => by have h := HR2.out; rw [inR_iff.2 ⟨by omega, g.2⟩] at h; cases h)
       have HN8 : Hid (inR fp (fs - 1) nu = false) := LH (by unfold inR; exact decide_eq_false HN9.out)
       refine wp_region_quiet_below (by kernel_rfl) (by kernel_rfl) ?_
       repeat (go_big_quiet_step ((go_at_call 44; exact Calls.regrown_of (CIN.out _))))
       refine wpQuiet_nil ?_
       clear k0 k2 k3 k5 k6
       intro _ hw'
       obtain ⟨pw, hw''⟩ := hw'
       subst hw''
       have y2 := regx W2 pw
       generalize hW2 : «Sort».grow (redrawn W2 pw.d) pw.os = W3 at *
       clear hW2
       go_wp2_with fail
       go_meet
       refine ⟨_, _, _, rfl, rfl, rfl, LH (by simp [HZT.out, HZN.out, HZD.out, eI, gI, tI, nI, dI, kI, txK, nuK, frAt_last, HA.out, HFR.out, HN8.out] <;> (first | done | omega | (constructor <;> intro h <;> simp_all <;> omega))), (by rw [frIn_ne (by simp)]; exact RS2.out _ (x1.trans y2)), (by rw [frIn_ne (by simp)]; exact RP2.out _ (x1.trans y2)), y2⟩
     have CIN : Hid (∀ W, Calls Tryz.prog 44 #[.int .i64 nu, .int .i64 0, .int .i64 (fs - 1)] W fun e w' => e = .returned (.bool true) /\ Ext W w') := LH fun W => (l1In_any nu 0 (fs - 1) W).mono fun e w' h => ⟨by rw [h.1, show decide (0 <= nu /\ nu <= fs - 1) = _ from r2], by rw [h.2]; exact XR _⟩
     have HR2 := LH r2; clear r2
     have k0 := reg (XR _) m0
     have k2 := reg (XR _) m2
     have k3 := reg (XR _) m3
     have k5 := reg (XR _) qs
     have k6 := reg (XR _) qp
     by_cases hk0 : (kids.length : Int) = 1
     rotate_left
     · have kk := int_ne hk0
       have HK0 := LH hk0; clear hk0
       refine wp_region_quiet_below (by kernel_rfl) (by kernel_rfl) ?_
       repeat (go_big_quiet_step ((go_at_call 44; exact Calls.regrown_of (CIN.out _))))
       refine wpQuiet_nil ?_
       clear k0 k2 k3 k5 k6
       intro _ hw'
       obtain ⟨pw, hw''⟩ := hw'
       subst hw''
       have y2 := regx W2 pw
       generalize hW2 : «Sort».grow (redrawn W2 pw.d) pw.os = W3 at *
       clear hW2
       go_wp2_with fail
       go_meet
       refine ⟨_, _, _, rfl, rfl, rfl, LH ⟨fun h => by simp at h, fun h => absurd h.2.1 (by simpa [kI] using HK0.out)⟩, (by rw [frIn_ne (by simp)]; exact RS2.out _ (x1.trans y2)), (by rw [frIn_ne (by simp)]; exact RP2.out _ (x1.trans y2)), y2⟩
     have kk := int_eq hk0
     have HK0 := LH hk0; clear hk0
     by_cases hp9 : fp <= nu
     all_goals
      have HN8 : Hid (inR fp (fs - 1) nu = decide (fp <= nu)) := LH (by have h := inR_iff.1 HR2.out; unfold inR; rw [decide_eq_decide]; constructor <;> intro g <;> omega)
      have HP9 := LH hp9
      refine wp_region_quiet_below (by kernel_rfl) (by kernel_rfl) ?_
      repeat (go_big_quiet_step ((go_at_call 44; exact Calls.regrown_of (CIN.out _))))
      refine wpQuiet_nil ?_
      clear k0 k2 k3 k5 k6
      intro _ hw'
      obtain ⟨pw, hw''⟩ := hw'
      subst hw''
      have y2 := regx W2 pw
      generalize hW2 : «Sort».grow (redrawn W2 pw.d) pw.os = W3 at *
      clear hW2
      go_wp2_with fail
      go_meet
      refine ⟨_, _, _, rfl, rfl, rfl, LH (by simp [HZT.out, HZN.out, HZD.out, eI, gI, tI, nI, dI, kI, txK, nuK, frAt_last, HA.out, HFR.out, HN8.out, HK0.out, HP9.out] <;> (first | done | omega | (constructor <;> intro h <;> simp_all <;> omega))), (by rw [frIn_ne (by simp)]; exact RS2.out _ (x1.trans y2)), (by rw [frIn_ne (by simp)]; exact RP2.out _ (x1.trans y2)), y2⟩
  have c9 := int_ne hc
  have d9 := LH hc; clear hc
  by_cases hc : kd = 10
  · subst hc
    clear h15 hp
    as_aux_lemma =>
     cases ha : nameB t
     all_goals
      have HA := LH ha
      go_wp2_with fail
      refine (spec_IsName_any t _ (by omega)).mono ?_
      rw [ha]
      rintro e w3 ⟨rfl, hx3⟩
      clear ha
      replace m0 := Ext.cell hx3 m0
      go_wp2_with fail
      go_meet
      refine ⟨_, _, _, rfl, rfl, rfl, LH (by simp [HZT.out, HZN.out, HZD.out, eI, gI, tI, nI, dI, kI, txK, nuK, frAt_last, HA.out] <;> (first | done | omega | (constructor <;> intro h <;> simp_all <;> omega))), (by rw [frIn_ne (by simp)]; exact RS2.out _ (x1.trans hx3)), (by rw [frIn_ne (by simp)]; exact RP2.out _ (x1.trans hx3)), hx3⟩
  have c10 := int_ne hc
  have d10 := LH hc; clear hc
  by_cases hc : kd = 11
  · subst hc
    clear h15 hp
    as_aux_lemma =>
     cases ha : nameB t
     all_goals
      have HA := LH ha
      go_wp2_with fail
      refine (spec_IsName_any t _ (by omega)).mono ?_
      rw [ha]
      rintro e w3 ⟨rfl, hx3⟩
      clear ha
      replace m0 := Ext.cell hx3 m0
      go_wp2_with fail
      go_meet
      refine ⟨_, _, _, rfl, rfl, rfl, LH (by simp [HZT.out, HZN.out, HZD.out, eI, gI, tI, nI, dI, kI, txK, nuK, frAt_last, HA.out] <;> (first | done | omega | (constructor <;> intro h <;> simp_all <;> omega))), (by rw [frIn_ne (by simp)]; exact RS2.out _ (x1.trans hx3)), (by rw [frIn_ne (by simp)]; exact RP2.out _ (x1.trans hx3)), hx3⟩
  have c11 := int_ne hc
  have d11 := LH hc; clear hc
  by_cases hc : kd = 12
  · subst hc
    clear h15 hp
    as_aux_lemma =>
     cases ha : inR 0 (K - 1) nu
     all_goals
      have ha' : decide (0 <= nu /\ nu <= (K - 1)) = _ := ha
      have HA := LH ha; clear ha
      go_wp2_with fail
      refine (l1In_any _ _ _ _).mono ?_
      rw [ha']
      rintro e wq ⟨rfl, hq⟩
      subst wq
      clear ha'
      go_wp2_with fail
      go_meet
      refine ⟨_, _, _, rfl, rfl, rfl, LH (by simp [HZT.out, HZN.out, HZD.out, eI, gI, tI, nI, dI, kI, txK, nuK, frAt_last, HA.out] <;> (first | done | omega | (constructor <;> intro h <;> simp_all <;> omega))), (by rw [frIn_ne (by simp)]; exact RS2.out _ (x1)), (by rw [frIn_ne (by simp)]; exact RP2.out _ (x1)), XR _⟩
  have c12 := int_ne hc
  have d12 := LH hc; clear hc
  by_cases hc : kd = 13
  · subst hc
    clear h15 hp
    as_aux_lemma =>
     by_cases ha : 0 <= argsB t
     rotate_left
     · have HS : selB t = false := by
        cases h : selB t
        · rfl
        · exact absurd (sel_args.1 h) ha
       have HSS := LH HS; clear HS
       have ha2 : argsB t < 0 := by omega
       clear ha
       go_wp2_with fail
       refine (spec_CountArgs_any t _ hts).mono ?_
       rintro e w3 ⟨rfl, hx3⟩
       replace m0 := Ext.cell hx3 m0
       replace m1 := Ext.cell hx3 m1
       replace m2 := Ext.cell hx3 m2
       go_wp2_with fail
       go_meet
       refine ⟨_, _, _, rfl, rfl, rfl, LH (by simp [HZT.out, HZN.out, HZD.out, eI, gI, tI, nI, dI, kI, txK, nuK, frAt_last, HSS.out] <;> (first | done | omega | (constructor <;> intro h <;> simp_all <;> omega))), (by rw [frIn_ne (by simp)]; exact RS2.out _ (x1.trans (hx3))), (by rw [frIn_ne (by simp)]; exact RP2.out _ (x1.trans (hx3))), hx3⟩
     have HS : selB t = true := sel_args.2 ha
     have HSS := LH HS; clear HS
     go_wp2_with fail
     refine (spec_CountArgs_any t _ hts).mono ?_
     rintro e w3 ⟨rfl, hx3⟩
     replace m0 := Ext.cell hx3 m0
     replace m1 := Ext.cell hx3 m1
     replace m2 := Ext.cell hx3 m2
     go_wp2_with fail
     refine (spec_CountArgs_any t _ hts).mono ?_
     rintro e w4 ⟨rfl, hx4⟩
     replace m2 := Ext.cell hx4 m2
     go_wp2_with fail
     go_meet
     refine ⟨_, _, _, rfl, rfl, rfl, LH (by simp [HZT.out, HZN.out, HZD.out, eI, gI, tI, nI, dI, kI, txK, nuK, frAt_last, HSS.out] <;> (first | done | omega | (constructor <;> intro h <;> simp_all <;> omega))), (by rw [frIn_ne (by simp)]; exact RS2.out _ (x1.trans (hx3.trans hx4))), (by rw [frIn_ne (by simp)]; exact RP2.out _ (x1.trans (hx3.trans hx4))), hx3.trans hx4⟩
  have c13 := int_ne hc
  have d13 := LH hc; clear hc
  by_cases hc : kd = 14
  · subst hc
    clear h15 hp
    as_aux_lemma =>
     by_cases ha : 0 <= argsB t
     rotate_left
     · have HS : selB t = false := by
        cases h : selB t
        · rfl
        · exact absurd (sel_args.1 h) ha
       have HSS := LH HS; clear HS
       have ha2 : argsB t < 0 := by omega
       clear ha
       go_wp2_with fail
       refine (spec_CountArgs_any t _ hts).mono ?_
       rintro e w3 ⟨rfl, hx3⟩
       replace m0 := Ext.cell hx3 m0
       replace m1 := Ext.cell hx3 m1
       replace m2 := Ext.cell hx3 m2
       cases hr : inR 0 (K - 1) nu
       all_goals
        have hr' : decide (0 <= nu /\ nu <= K - 1) = _ := hr
        have HRR := LH hr; clear hr
        go_wp2_with fail
        refine (l1In_any _ _ _ _).mono ?_
        rw [hr']
        rintro e wq ⟨rfl, hq⟩
        subst wq
        clear hr'
        go_wp2_with fail
        go_meet
        refine ⟨_, _, _, rfl, rfl, rfl, LH (by simp [HZT.out, HZN.out, HZD.out, eI, gI, tI, nI, dI, kI, txK, nuK, frAt_last, HSS.out, HRR.out] <;> (first | done | omega | (constructor <;> intro h <;> simp_all <;> omega))), (by rw [frIn_ne (by simp)]; exact RS2.out _ (x1.trans (hx3))), (by rw [frIn_ne (by simp)]; exact RP2.out _ (x1.trans (hx3))), hx3⟩
     have HS : selB t = true := sel_args.2 ha
     have HSS := LH HS; clear HS
     go_wp2_with fail
     refine (spec_CountArgs_any t _ hts).mono ?_
     rintro e w3 ⟨rfl, hx3⟩
     replace m0 := Ext.cell hx3 m0
     replace m1 := Ext.cell hx3 m1
     replace m2 := Ext.cell hx3 m2
     go_wp2_with fail
     refine (spec_CountArgs_any t _ hts).mono ?_
     rintro e w4 ⟨rfl, hx4⟩
     replace m2 := Ext.cell hx4 m2
     cases hr : inR 0 (K - 1) nu
     all_goals
      have hr' : decide (0 <= nu /\ nu <= K - 1) = _ := hr
      have HRR := LH hr; clear hr
      go_wp2_with fail
      refine (l1In_any _ _ _ _).mono ?_
      rw [hr']
      rintro e wq ⟨rfl, hq⟩
      subst wq
      clear hr'
      go_wp2_with fail
      go_meet
      refine ⟨_, _, _, rfl, rfl, rfl, LH (by simp [HZT.out, HZN.out, HZD.out, eI, gI, tI, nI, dI, kI, txK, nuK, frAt_last, HSS.out, HRR.out] <;> (first | done | omega | (constructor <;> intro h <;> simp_all <;> omega))), (by rw [frIn_ne (by simp)]; exact RS2.out _ (x1.trans (hx3.trans hx4))), (by rw [frIn_ne (by simp)]; exact RP2.out _ (x1.trans (hx3.trans hx4))), hx3.trans hx4⟩
  have c14 := int_ne hc
  have d14 := LH hc; clear hc
  have hc : ¬ kd = 16 := by omega
  have c16 := int_ne hc
  have d16 := LH hc; clear hc
  by_cases hc : kd = 17
  · subst hc
    clear h15 hp
    as_aux_lemma =>
     cases zT
     · have HT : Hid (t ≠ ⟨#[]⟩) := LH (fun h => by have e := HZT.out.2 h; cases e)
       clear HZT
       go_wp2_with fail
       go_meet
       refine ⟨_, _, _, rfl, rfl, rfl, LH (by simp [HT.out, HZN.out, HZD.out, eI, gI, tI, nI, dI, kI, txK, nuK, frAt_last] <;> (first | done | omega | (constructor <;> intro h <;> simp_all <;> omega))), (by rw [frIn_ne (by simp)]; exact RS2.out _ (x1)), (by rw [frIn_ne (by simp)]; exact RP2.out _ (x1)), XR _⟩
     have HT : Hid (t = ⟨#[]⟩) := LH (HZT.out.1 rfl)
     clear HZT
     go_wp2_with fail
     go_meet
     refine ⟨_, _, _, rfl, rfl, rfl, LH (by simp [HT.out, HZN.out, HZD.out, eI, gI, tI, nI, dI, kI, txK, nuK, frAt_last] <;> (first | done | omega | (constructor <;> intro h <;> simp_all <;> omega))), (by rw [frIn_ne (by simp)]; exact RS2.out _ (x1)), (by rw [frIn_ne (by simp)]; exact RP2.out _ (x1)), XR _⟩
  have c17 := int_ne hc
  have d17 := LH hc; clear hc
  by_cases hc : kd = 18
  · subst hc
    clear h15 hp
    as_aux_lemma =>
     cases zT
     · have HT : Hid (t ≠ ⟨#[]⟩) := LH (fun h => by have e := HZT.out.2 h; cases e)
       clear HZT
       go_wp2_with fail
       go_meet
       refine ⟨_, _, _, rfl, rfl, rfl, LH (by simp [HT.out, HZN.out, HZD.out, eI, gI, tI, nI, dI, kI, txK, nuK, frAt_last] <;> (first | done | omega | (constructor <;> intro h <;> simp_all <;> omega))), (by rw [frIn_ne (by simp)]; exact RS2.out _ (x1)), (by rw [frIn_ne (by simp)]; exact RP2.out _ (x1)), XR _⟩
     have HT : Hid (t = ⟨#[]⟩) := LH (HZT.out.1 rfl)
     clear HZT
     go_wp2_with fail
     go_meet
     refine ⟨_, _, _, rfl, rfl, rfl, LH (by simp [HT.out, HZN.out, HZD.out, eI, gI, tI, nI, dI, kI, txK, nuK, frAt_last] <;> (first | done | omega | (constructor <;> intro h <;> simp_all <;> omega))), (by rw [frIn_ne (by simp)]; exact RS2.out _ (x1)), (by rw [frIn_ne (by simp)]; exact RP2.out _ (x1)), XR _⟩
  have c18 := int_ne hc
  have d18 := LH hc; clear hc
  by_cases hc : kd = 19
  · subst hc
    clear h15 hp
    as_aux_lemma =>
     cases zT
     · have HT : Hid (t ≠ ⟨#[]⟩) := LH (fun h => by have e := HZT.out.2 h; cases e)
       clear HZT
       go_wp2_with fail
       go_meet
       refine ⟨_, _, _, rfl, rfl, rfl, LH (by simp [HT.out, HZN.out, HZD.out, eI, gI, tI, nI, dI, kI, txK, nuK, frAt_last] <;> (first | done | omega | (constructor <;> intro h <;> simp_all <;> omega))), (by rw [frIn_ne (by simp)]; exact RS2.out _ (x1)), (by rw [frIn_ne (by simp)]; exact RP2.out _ (x1)), XR _⟩
     have HT : Hid (t = ⟨#[]⟩) := LH (HZT.out.1 rfl)
     clear HZT
     go_wp2_with fail
     go_meet
     refine ⟨_, _, _, rfl, rfl, rfl, LH (by simp [HT.out, HZN.out, HZD.out, eI, gI, tI, nI, dI, kI, txK, nuK, frAt_last] <;> (first | done | omega | (constructor <;> intro h <;> simp_all <;> omega))), (by rw [frIn_ne (by simp)]; exact RS2.out _ (x1)), (by rw [frIn_ne (by simp)]; exact RP2.out _ (x1)), XR _⟩
  have c19 := int_ne hc
  have d19 := LH hc; clear hc
  by_cases hc : kd = 20
  · subst hc
    clear h15 hp
    as_aux_lemma =>
     cases ha : inR 0 1 nu
     all_goals
      have ha' : decide (0 <= nu /\ nu <= 1) = _ := ha
      have HA := LH ha; clear ha
      go_wp2_with fail
      refine (l1In_any _ _ _ _).mono ?_
      rw [ha']
      rintro e wq ⟨rfl, hq⟩
      subst wq
      clear ha'
      go_wp2_with fail
      go_meet
      refine ⟨_, _, _, rfl, rfl, rfl, LH (by simp [HZT.out, HZN.out, HZD.out, eI, gI, tI, nI, dI, kI, txK, nuK, frAt_last, HA.out] <;> (first | done | omega | (constructor <;> intro h <;> simp_all <;> omega))), (by rw [frIn_ne (by simp)]; exact RS2.out _ (x1)), (by rw [frIn_ne (by simp)]; exact RP2.out _ (x1)), XR _⟩
  have c20 := int_ne hc
  have d20 := LH hc; clear hc
  by_cases hc : kd = 21
  · subst hc
    clear h15 hp
    as_aux_lemma =>
     have qs : W2.cell? ⟨bs, os + G.length, none⟩ = some (.int .i64 f0s) := Ext.cell x1 (HCS.out G.length f0s (by simp))
     have qp : W2.cell? ⟨bp, op + G.length, none⟩ = some (.int .i64 f0p) := Ext.cell x1 (HCP.out G.length f0p (by simp))
     cases ha : inR f0p (f0s - 1) nu
     all_goals
      have CIN : Hid (∀ W, Calls Tryz.prog 44 #[.int .i64 nu, .int .i64 f0p, .int .i64 (f0s - 1)] W fun e w' => e = .returned (.bool _) /\ Ext W w') := LH fun W => (l1In_any nu f0p (f0s - 1) W).mono fun e w' h => ⟨by rw [h.1, show decide (f0p <= nu /\ nu <= f0s - 1) = _ from ha], by rw [h.2]; exact XR _⟩
      have HA := LH ha; clear ha
      go_upto_region 53 with fail
      have k2 := reg (XR _) m2
      have k5 := reg (XR _) qs
      have k6 := reg (XR _) qp
      refine wp_region_quiet_below (by kernel_rfl) (by kernel_rfl) ?_
      repeat (go_big_quiet_step ((go_at_call 44; exact Calls.regrown_of (CIN.out _))))
      refine wpQuiet_nil ?_
      clear k2 k5 k6
      intro _ hw'
      obtain ⟨pw, hw''⟩ := hw'
      subst hw''
      have y2 := regx W2 pw
      generalize hW2 : «Sort».grow (redrawn W2 pw.d) pw.os = W3 at *
      clear hW2
      go_wp2_with fail
      go_meet
      refine ⟨_, _, _, rfl, rfl, rfl, LH (by simp [HZT.out, HZN.out, HZD.out, eI, gI, tI, nI, dI, kI, txK, nuK, frAt_last, HA.out] <;> (first | done | omega | (constructor <;> intro h <;> simp_all <;> omega))), (by rw [frIn_ne (by simp)]; exact RS2.out _ (x1.trans y2)), (by rw [frIn_ne (by simp)]; exact RP2.out _ (x1.trans y2)), y2⟩
  have c21 := int_ne hc
  have d21 := LH hc; clear hc
  clear hp
  have c15 := int_ne h15
  have NE : Hid (¬ okN (n + 1) K (G ++ [(f0p, f0s)]) ⟨kd, t, nu, de, kids⟩) := LH (not_okN (fun h => by
   have h1 := h.1
   simp only at h1
   have e1 := d1.out
   have e2 := d2.out
   have e3 := d3.out
   have e4 := d4.out
   have e5 := d5.out
   have e6 := d6.out
   have e7 := d7.out
   have e8 := d8.out
   have e9 := d9.out
   have e10 := d10.out
   have e11 := d11.out
   have e12 := d12.out
   have e13 := d13.out
   have e14 := d14.out
   have e16 := d16.out
   have e17 := d17.out
   have e18 := d18.out
   have e19 := d19.out
   have e20 := d20.out
   have e21 := d21.out
   omega) h15)
  clear h15
  go_wp2_with fail
  go_ret
  exact ⟨ret_bool (prB_ff NE.out).symm, x1⟩
 case rest =>
 as_aux_lemma =>
  obtain ⟨sT, sN, sD, rfl, rfl, rfl, hE, hrs, hrp, hx⟩ := hcut
  have HR : Hid (okN (n + 1) K (G ++ [(f0p, f0s)]) ⟨kd, t, nu, de, kids⟩ ↔ (sT = true /\ sN = true /\ sD = true) /\ kidsP n K (frIn (G ++ [(f0p, f0s)]) ⟨kd, t, nu, de, kids⟩) kids) := LH (by
   rw [okN_node h15, hE.out]
   exact ⟨fun h => ⟨⟨h.1, h.2.1⟩, h.2.2⟩, fun h => ⟨h.1.1, h.1.2, h.2⟩⟩)
  have HFI : Hid (sT = true /\ sN = true /\ sD = true -> FrOk (frIn (G ++ [(f0p, f0s)]) ⟨kd, t, nu, de, kids⟩)) := LH (fun g => frOk_in HF.out (fun h16 => by
   have h := (hE.out.1 g).1.2.2 h16
   have a := inR_iff.1 h.1
   have b := inR_iff.1 h.2
   exact ⟨b.1, b.2, a.2⟩))
  have hFl : (frIn (G ++ [(f0p, f0s)]) ⟨kd, t, nu, de, kids⟩).length + n <= 1000 := by unfold frIn; split <;> simp <;> omega
  generalize frIn (G ++ [(f0p, f0s)]) ⟨kd, t, nu, de, kids⟩ = F' at *
  replace m0 := Ext.cell hx m0
  replace m1 := Ext.cell hx m1
  replace m2 := Ext.cell hx m2
  replace m3 := Ext.cell hx m3
  replace m4 := Ext.cell hx m4
  have E2 := x1.trans hx
  have HRS := LH hrs; have HRP := LH hrp
  clear hrs hrp hE hx h15
  cases sT
  · have NE : Hid (¬ okN (n + 1) K (G ++ [(f0p, f0s)]) ⟨kd, t, nu, de, kids⟩) := LH (fun h => by have := (HR.out.1 h).1.1; cases this)
    go_wp2_with fail
    go_ret
    exact ⟨ret_bool (prB_ff NE.out).symm, E2⟩
  cases sN
  · have NE : Hid (¬ okN (n + 1) K (G ++ [(f0p, f0s)]) ⟨kd, t, nu, de, kids⟩) := LH (fun h => by have := (HR.out.1 h).1.2.1; cases this)
    go_wp2_with fail
    go_ret
    exact ⟨ret_bool (prB_ff NE.out).symm, E2⟩
  cases sD
  · have NE : Hid (¬ okN (n + 1) K (G ++ [(f0p, f0s)]) ⟨kd, t, nu, de, kids⟩) := LH (fun h => by have := (HR.out.1 h).1.2.2; cases this)
    go_wp2_with fail
    go_ret
    exact ⟨ret_bool (prB_ff NE.out).symm, E2⟩
  have HK : Hid (∀ (vs vp : Value) W, Ext w W -> Rep W (slD F') [vs] -> Rep W (paD F') [vp] -> Calls Tryz.prog 101 #[.agg #[.int .i64 kd, .string t, .int .i64 nu, .int .i64 de, .slice ak kids.length ck], .int .i64 K, vs, vp] W fun e w' => e = .returned (.bool (prB (okN (n + 1) K (G ++ [(f0p, f0s)]) ⟨kd, t, nu, de, kids⟩))) /\ Ext W w') := LH fun vs vp W h h1 h2 => by
   have h0 := l8Kids_at n IH ⟨kd, t, nu, de, kids⟩ _ K F' vs vp W (fun z hz => by
    have h1 := MCore.deep_kid (x := ⟨kd, t, nu, de, kids⟩) hz
    have h2 := MCore.bulk_kid (x := ⟨kd, t, nu, de, kids⟩) hz
    have h3 := HD.out; have h4 := HB.out
    exact ⟨by omega, by omega⟩) hFl (HFI.out ⟨rfl, rfl, rfl⟩) hK0 hK1 (MCore.shut (x := ⟨kd, t, nu, de, kids⟩) (Rep.ext h RK.out).choose_spec).rep h1 h2
   have e : prB (kidsP n K F' kids) = prB (okN (n + 1) K (G ++ [(f0p, f0s)]) ⟨kd, t, nu, de, kids⟩) := by
    congr 1
    exact propext ⟨fun h => HR.out.2 ⟨⟨rfl, rfl, rfl⟩, h⟩, fun h => (HR.out.1 h).2⟩
   rw [<- e]
   exact h0
  go_wp2_with fail
  refine (HK.out _ _ _ E2 HRS.out HRP.out).mono ?_
  clear m0 m1 m2 m3 m4
  rintro e w3 ⟨rfl, hx3⟩
  go_wp2_with fail
  go_ret
  exact ⟨rfl, E2.trans hx3⟩
end Go.Proofs.YtlaclfeljimffaaGreatDoor
