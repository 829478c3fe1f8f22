/-
  CONTRACTS: a right node of a core tree, of the reference.
  Conditions: those that each lemma states.
-/
import Derived.Test.YtlaclfeljimffaaGreatDoorRows
import Derived.Test.YtlaclfeljimffaaGreatDoorP33
namespace Go.Proofs.YtlaclfeljimffaaGreatDoor
open Go.RowKit
set_option maxHeartbeats 8000000
set_option maxRecDepth 100000
set_option linter.unusedSimpArgs false
set_option linter.unusedVariables false
theorem l8Right_c (n : Nat) (IH : Hid (CoreAtS n)) (kd : Int) (t : ByteArray) (nu de : Int) (kids : List MCore) (ak : Option Addr) (ck : Nat) (K : Int) (F : Fr) (vs vp : Value) (w : World)
 (hd : (MCore.mk kd t nu de kids).deep <= n + 1) (hF : F.length + (n + 1) <= 1000) (hFo : FrOk F) (hK0 : 0 <= K) (hK1 : K <= 1000) (hb : (MCore.mk kd t nu de kids).d.bulk <= 1048576)
 (rk : Rep w (MCores kids) [.slice ak kids.length ck]) (rs : Rep w (slD F) [vs]) (rp : Rep w (paD F) [vp]) (h15 : kd ≠ 15) (hp : kd = 16 /\ inR 0 de nu = false) :
 Calls Tryz.prog 73 #[.agg #[.int .i64 kd, .string t, .int .i64 nu, .int .i64 de, .slice ak kids.length ck], .int .i64 K, vs, vp] w fun e w' => e = .returned (.bool (prB (okN (n + 1) K F ⟨kd, t, nu, de, kids⟩))) /\ Ext w w' := by
 have HP := LH hp; clear hp
 have HF := LH hFo
 have RS := LH rs; have RP := LH rp
 obtain ⟨bs, os, cs, rfl, hls, hms, zs, hcs⟩ := ints_open rs (by simp [hFo.1])
 obtain ⟨bp, op, cp, rfl, hlp, hmp, zp, hcp⟩ := ints_open rp (by simp [hFo.1])
 obtain ⟨G, f0, rfl⟩ : ∃ G f0, F = G ++ [f0] := ⟨F.dropLast, F.getLast hFo.1, (List.dropLast_concat_getLast hFo.1).symm⟩
 clear rs rp hFo
 have hks := Nat.le_trans (MCore.bulk_kids ⟨kd, t, nu, de, kids⟩) hb
 have hts := Nat.le_trans (MCore.bulk_text ⟨kd, t, nu, de, kids⟩) hb
 simp only [List.length_map, List.length_append, List.length_singleton] at hF hls hms hlp hmp hks hts
 obtain ⟨f0p, f0s⟩ := f0
 obtain ⟨g0, g1, g2⟩ := HF.out.2 (f0p, f0s) (by simp)
 simp only at g0 g1 g2
 have HCS := LH hcs; have HCP := LH hcp
 clear hcs hcp
 have HB := LH hb; clear hb
 have HD := LH hd; clear hd
 have RK := LH rk; clear rk
 unfold maxLen at hms hmp
 have hlm : ∀ g : Int × Int -> Int, (((G ++ [(f0p, f0s)]).map g).length) = G.length + 1 := fun g => by simp
 rw [hlm, hlm]
 clear hlm
 go_enter Tryz.func73, Tryz.ntmps73
 go_upto_region 2 with fail
 generalize hS : World.alloc w _ = W1
 have x1 : Ext w W1 := by rw [<- hS]; exact (XR _).alloc _
 have m0 : W1.cell? ⟨w.heap.size, 0, none⟩ = some (.int .i64 kd) := by rw [<- hS]; simp
 have m1 : W1.cell? ⟨w.heap.size, 1, none⟩ = some (.string t) := by rw [<- hS]; simp
 have m2 : W1.cell? ⟨w.heap.size, 2, none⟩ = some (.int .i64 nu) := by rw [<- hS]; simp
 have m3 : W1.cell? ⟨w.heap.size, 3, none⟩ = some (.int .i64 de) := by rw [<- hS]; simp
 have m4 : W1.cell? ⟨w.heap.size, 4, none⟩ = some (.slice ak kids.length ck) := by rw [<- hS]; simp
 clear hS
 have k1 := reg (XR _) m1
 have k2 := reg (XR _) m2
 have k3 := reg (XR _) m3
 refine wp_region_quiet_below (by kernel_rfl) (by kernel_rfl) ?_
 repeat (go_big_quiet_step (fail))
 refine wpQuiet_nil ?_
 clear k1 k2 k3
 intro _ hw'
 obtain ⟨pw, hw''⟩ := hw'
 subst hw''
 have y1 := regx W1 pw
 generalize hW2 : «Sort».grow (redrawn W1 pw.d) pw.os = W2 at *
 clear hW2
 replace m0 := Ext.cell y1 m0
 replace m1 := Ext.cell y1 m1
 replace m2 := Ext.cell y1 m2
 replace m3 := Ext.cell y1 m3
 replace m4 := Ext.cell y1 m4
 replace x1 := x1.trans y1
 clear y1
 generalize hT : t.toList.isEmpty = zT
 generalize hN : (nu == 0) = zN
 generalize hD : (de == 0) = zD
 have HZT : Hid (zT = true ↔ t = ⟨#[]⟩) := LH (by
  rw [<- hT]
  constructor
  · intro h
    refine toList_inj ?_
    have : t.toList = [] := by simpa using h
    rw [this]; simp [ByteArray.toList_eq]
  · intro h; subst h; simp [ByteArray.toList_eq])
 have HZN : Hid (zN = true ↔ nu = 0) := LH (by rw [<- hN]; simp)
 have HZD : Hid (zD = true ↔ de = 0) := LH (by rw [<- hD]; simp)
 clear hT hN hD
 have hab := argsB_bd t
 have RS2 : Hid (∀ W, Ext w W -> Rep W (slD (G ++ [(f0p, f0s)])) [.slice (some ⟨bs, os, none⟩) (G.length + 1) cs]) := LH fun W h => by
  have := Rep.ext h RS.out
  simpa only [List.length_map, List.length_append, List.length_singleton] using this
 have RP2 : Hid (∀ W, Ext w W -> Rep W (paD (G ++ [(f0p, f0s)])) [.slice (some ⟨bp, op, none⟩) (G.length + 1) cp]) := LH fun W h => by
  have := Rep.ext h RP.out
  simpa only [List.length_map, List.length_append, List.length_singleton] using this
 go_upto_block 0 with fail
 go_cut [10, 11, 12, 2, 3] (fun tv nv dv sv pv wx => ∃ sT sN sD : Bool, tv = .bool sT /\ nv = .bool sN /\ dv = .bool sD /\ Hid ((sT = true /\ sN = true /\ sD = true) ↔ (eI K (G ++ [(f0p, f0s)]) ⟨kd, t, nu, de, kids⟩ /\ gI ⟨kd, t, nu, de, kids⟩ (tI ⟨kd, t, nu, de, kids⟩) (nI K (G ++ [(f0p, f0s)]) ⟨kd, t, nu, de, kids⟩) (dI ⟨kd, t, nu, de, kids⟩) (kI ⟨kd, t, nu, de, kids⟩))) /\ Rep wx (slD (frIn (G ++ [(f0p, f0s)]) ⟨kd, t, nu, de, kids⟩)) [sv] /\ Rep wx (paD (frIn (G ++ [(f0p, f0s)]) ⟨kd, t, nu, de, kids⟩)) [pv] /\ Ext W2 wx)
 case first =>
  obtain ⟨hp, r2⟩ := HP.out
  subst hp
  clear h15
  as_aux_lemma =>
   have r1' : decide (0 <= de /\ de <= 30) = inR 0 30 de := rfl
   have r2' : decide (0 <= nu /\ nu <= de) = _ := r2
   have HR16 := LH r2; clear r2
   go_wp2_with fail
   refine (l1In_any _ _ _ _).mono ?_
   rw [r1']
   rintro e wq ⟨rfl, hq⟩
   subst wq
   clear r1'
   go_wp2_with fail
   refine (l1In_any _ _ _ _).mono ?_
   rw [r2']
   rintro e wq ⟨rfl, hq⟩
   subst wq
   clear r2'
   go_upto_region 42 with fail
   go_cut [2] (fun v wx => Rep wx (slD ((G ++ [(f0p, f0s)]) ++ [(nu, de)])) [v] /\ Ext W2 wx)
   case first =>
    as_aux_lemma =>
     have KS : Hid (∀ w'', Ext W2 w'' -> w''.cell? ⟨w.heap.size, 3, none⟩ = some (.int .i64 de) /\ Ext W2 w'') := LH fun w'' h => ⟨Ext.cell h m3, h⟩
     have HA0 : AccN W2.heap.size (W2.alloc (.cells #[] 3)) (.slice (some ⟨W2.heap.size, 0, none⟩) 0 0) [] := Acc.empty _ _ (Nat.le_refl _)
     have HA1 : AccN (W2.heap.size + 1) ((W2.alloc (.cells #[.int .i64 de] 3)).alloc (.cells #[] 3)) (.slice (some ⟨W2.heap.size + 1, 0, none⟩) 0 0) [] := Acc.empty_at (own_new2 W2 (.cells #[.int .i64 de] 3) #[] _) (Nat.le_refl _)
     have HB0 : Ext W2 (W2.alloc (.cells #[] 3)).drew := Ext.drew ((XR W2).alloc _)
     have HB2 : Ext W2 ((W2.alloc (.cells #[] 3)).alloc (.cells #[.int .i64 de] 3)).drew := Ext.drew (((XR W2).alloc _).alloc _)
     have HB3 : Ext W2 ((W2.alloc (.cells #[.int .i64 de] 3)).alloc (.cells #[] 3)).drew := Ext.drew (((XR W2).alloc _).alloc _)
     have HV3 : Below (W2.heap.size + 1) (W2.alloc (.cells #[.int .i64 de] 3)) ((W2.alloc (.cells #[.int .i64 de] 3)).alloc (.cells #[] 3)).drew := (by have h : Ext (W2.alloc (.cells #[.int .i64 de] 3)) ((W2.alloc (.cells #[.int .i64 de] 3)).alloc (.cells #[] 3)).drew := Ext.drew ((XR _).alloc _); rw [<- show (W2.alloc (.cells #[.int .i64 de] 3)).heap.size = W2.heap.size + 1 from by simp]; exact h)
     have HD0 := HA0.ext (Ext.drew (XR _))
     have HD2 : AccN W2.heap.size ((W2.alloc (.cells #[] 3)).alloc (.cells #[.int .i64 de] 3)).drew (.slice (some ⟨W2.heap.size, 0, none⟩) 0 0) [] := HA0.ext (Ext.drew ((XR _).alloc _))
     have HD3 : AccN (W2.heap.size + 1) ((W2.alloc (.cells #[.int .i64 de] 3)).alloc (.cells #[] 3)).drew (.slice (some ⟨W2.heap.size + 1, 0, none⟩) 0 0) [] := HA1.ext (Ext.drew (XR _))
     have HZ0 := HB0.size
     have HZ2 := HB2.size
     have HZ3 : W2.heap.size + 1 <= ((W2.alloc (.cells #[.int .i64 de] 3)).alloc (.cells #[] 3)).drew.heap.size := by simp
     have HZ4 : W2.heap.size + 1 < ((W2.alloc (.cells #[] 3)).alloc (.cells #[.int .i64 de] 3)).drew.heap.size := by simp
     have HC2 : ((W2.alloc (.cells #[] 3)).alloc (.cells #[.int .i64 de] 3)).drew.cell? ⟨W2.heap.size + 1, 0, none⟩ = some (.int .i64 de) := by simp
     have HC3 : ((W2.alloc (.cells #[.int .i64 de] 3)).alloc (.cells #[] 3)).drew.cell? ⟨W2.heap.size, 0, none⟩ = some (.int .i64 de) := by simp
     have HR0 : Rep (W2.alloc (.cells #[] 3)).drew (ints ((G ++ [(f0p, f0s)]).map (·.2))) _ := RS2.out _ (x1.trans HB0)
     have HR2 : Rep ((W2.alloc (.cells #[] 3)).alloc (.cells #[.int .i64 de] 3)).drew (ints ((G ++ [(f0p, f0s)]).map (·.2))) _ := RS2.out _ (x1.trans HB2)
     have HR3 : Rep ((W2.alloc (.cells #[.int .i64 de] 3)).alloc (.cells #[] 3)).drew (ints ((G ++ [(f0p, f0s)]).map (·.2))) _ := RS2.out _ (x1.trans HB3)
     have HLE : Hid (([] : List Int).length + ((G ++ [(f0p, f0s)]).map (·.2)).length <= 1073741824) := LH (by simp; omega)
     have HLE2 : Hid ((([] : List Int) ++ ((G ++ [(f0p, f0s)]).map (·.2))).length + [(de : Int)].length <= 1073741824) := LH (by simp; omega)
     have HLN : Hid (([] : List Int).length + ((G ++ [(f0p, f0s)]).map (·.2)).length = G.length + 1) := LH (by simp)
     have QC2 := LH HC2; have QC3 := LH HC3; have QZ3 := LH HZ3; have QZ4 := LH HZ4; have QZ0 := LH HZ0; have QZ2 := LH HZ2
     clear HA0 HA1 HC2 HC3 HZ3 HZ4 HZ0 HZ2
     go_region_held3 (fun w'' => w''.cell? ⟨w.heap.size, 3, none⟩ = some (.int .i64 de) /\ Ext W2 w'')
      (first | exact KS.out _ hb2 | exact KS.out _ (Ext.alloc hb1 _) | exact KS.out _ hb1 | exact KS.out _ HB0 | exact KS.out _ HB2 | exact KS.out _ HB3 | exact KS.out _ (by repeat (first | exact XR _ | exact Ext.drew (XR _) | refine Ext.drew ?_ | refine Ext.alloc ?_ _)))
      (first
       | (refine step_append_ints (by rfl) _ _ (by rfl) _ (.slice a4 (([] : List Int).length + ((G ++ [(f0p, f0s)]).map (·.2)).length) c4) ([] ++ ((G ++ [(f0p, f0s)]).map (·.2))) (by rfl) ac1 [de] _ 1 1 (by rfl) HDW HLE2.out hz1 ?_; intro a5 c5 w5 ac2 hg2; have hb2 := hbf w5 _ _ ac1 hg2)
       | (have hb1a : Ext W2 (w4.alloc (.cells #[.int .i64 de] 3)) := Ext.alloc hb1 _; have hc1 := AccN.ext' ac1 (Ext.alloc (XR w4) (.cells #[.int .i64 de] 3)); refine step_append_ints (by rfl) _ _ (by rfl) W2.heap.size (.slice a4 (G.length + 1) c4) ([] ++ ((G ++ [(f0p, f0s)]).map (·.2))) (by rfl) hc1 [de] (some ⟨w4.heap.size, 0, none⟩) 1 1 (by rfl) (int_row w4 de) HLE2.out hb1a.size ?_; intro a5 c5 w5 ac2 hg2; have hb2 := AccN.below hc1 hb1a hg2 hb1a.size)
       | (refine step_append_ints (by rfl) _ _ (by rfl) W2.heap.size (.slice (some ⟨W2.heap.size, 0, none⟩) 0 0) [] (by rfl) HD0 ((G ++ [(f0p, f0s)]).map (·.2)) _ _ _ (by rfl) HR0 HLE.out QZ0.out ?_; intro a4 c4 w4 ac1 hg1; have hb1 := AccN.below HD0 HB0 hg1 QZ0.out; rw [HLN.out] at ac1)
       | (refine step_append_ints (by rfl) _ _ (by rfl) W2.heap.size (.slice (some ⟨W2.heap.size, 0, none⟩) 0 0) [] (by rfl) HD2 ((G ++ [(f0p, f0s)]).map (·.2)) _ _ _ (by rfl) HR2 HLE.out QZ2.out ?_; intro a4 c4 w4 ac1 hg1; have hb1 := AccN.below HD2 HB2 hg1 QZ2.out; have hz1 := hb1.size; have HDW := int_at (far_cell hg1 QZ4.out QC2.out); have hbf : ∀ w5 a5 c5, AccN W2.heap.size w4 (.slice a5 (([] : List Int).length + ((G ++ [(f0p, f0s)]).map (·.2)).length) c5) ([] ++ ((G ++ [(f0p, f0s)]).map (·.2))) -> w4.grownBy w5 (Value.slice a5 (([] : List Int).length + ((G ++ [(f0p, f0s)]).map (·.2)).length) c5).ownBlock -> Ext W2 w5 := fun w5 _ _ h1 h2 => AccN.below h1 hb1 h2 hz1)
       | (refine step_append_ints (by rfl) _ _ (by rfl) (W2.heap.size + 1) (.slice (some ⟨W2.heap.size + 1, 0, none⟩) 0 0) [] (by rfl) HD3 ((G ++ [(f0p, f0s)]).map (·.2)) _ _ _ (by rfl) HR3 HLE.out QZ3.out ?_; intro a4 c4 w4 ac1 hg1; have hv1 := AccN.below HD3 HV3 hg1 QZ3.out; have hz1 : W2.heap.size + 1 <= w4.heap.size := (by simpa using hv1.size); have hb1 := low_below hv1; have HDW := int_at (low_cell hv1 de); have hbf : ∀ w5 a5 c5, AccN (W2.heap.size + 1) w4 (.slice a5 (([] : List Int).length + ((G ++ [(f0p, f0s)]).map (·.2)).length) c5) ([] ++ ((G ++ [(f0p, f0s)]).map (·.2))) -> w4.grownBy w5 (Value.slice a5 (([] : List Int).length + ((G ++ [(f0p, f0s)]).map (·.2)).length) c5).ownBlock -> Ext W2 w5 := fun w5 _ _ h1 h2 => low_below (AccN.below h1 hv1 h2 hz1)))
     all_goals
      as_aux_lemma =>
      go_wp2_with fail
      go_meet
      obtain ⟨a6, c6, gp6, e6, h6, -⟩ := AccN.rep ac2
      refine ⟨?_, hb2⟩
      rw [show slD ((G ++ [(f0p, f0s)]) ++ [(nu, de)]) = ints (([] ++ ((G ++ [(f0p, f0s)]).map (·.2))) ++ [de]) from by simp [slD]]
      injection e6
      subst_vars
      have h7 := h6.rep
      have hl7 : ((([] : List Int) ++ ((G ++ [(f0p, f0s)]).map (·.2))) ++ [(de : Int)]).length = G.length + 1 + 1 := by simp
      first | exact h7 | (rw [hl7] at h7; exact h7)
   case rest =>
   obtain ⟨hrs, hx4⟩ := hcut
   replace m2 := Ext.cell hx4 m2
   have x5 := x1.trans hx4
   have HRS := LH hrs; clear hrs
   go_upto_region 43 with fail
   have KS : Hid (∀ w'', Ext wc w'' -> w''.cell? ⟨w.heap.size, 2, none⟩ = some (.int .i64 nu) /\ Ext wc w'') := LH fun w'' h => ⟨Ext.cell h m2, h⟩
   have HA0 : AccN wc.heap.size (wc.alloc (.cells #[] 3)) (.slice (some ⟨wc.heap.size, 0, none⟩) 0 0) [] := Acc.empty _ _ (Nat.le_refl _)
   have HA1 : AccN (wc.heap.size + 1) ((wc.alloc (.cells #[.int .i64 nu] 3)).alloc (.cells #[] 3)) (.slice (some ⟨wc.heap.size + 1, 0, none⟩) 0 0) [] := Acc.empty_at (own_new2 wc (.cells #[.int .i64 nu] 3) #[] _) (Nat.le_refl _)
   have HB0 : Ext wc (wc.alloc (.cells #[] 3)).drew := Ext.drew ((XR wc).alloc _)
   have HB2 : Ext wc ((wc.alloc (.cells #[] 3)).alloc (.cells #[.int .i64 nu] 3)).drew := Ext.drew (((XR wc).alloc _).alloc _)
   have HB3 : Ext wc ((wc.alloc (.cells #[.int .i64 nu] 3)).alloc (.cells #[] 3)).drew := Ext.drew (((XR wc).alloc _).alloc _)
   have HV3 : Below (wc.heap.size + 1) (wc.alloc (.cells #[.int .i64 nu] 3)) ((wc.alloc (.cells #[.int .i64 nu] 3)).alloc (.cells #[] 3)).drew := (by have h : Ext (wc.alloc (.cells #[.int .i64 nu] 3)) ((wc.alloc (.cells #[.int .i64 nu] 3)).alloc (.cells #[] 3)).drew := Ext.drew ((XR _).alloc _); rw [<- show (wc.alloc (.cells #[.int .i64 nu] 3)).heap.size = wc.heap.size + 1 from by simp]; exact h)
   have HD0 := HA0.ext (Ext.drew (XR _))
   have HD2 : AccN wc.heap.size ((wc.alloc (.cells #[] 3)).alloc (.cells #[.int .i64 nu] 3)).drew (.slice (some ⟨wc.heap.size, 0, none⟩) 0 0) [] := HA0.ext (Ext.drew ((XR _).alloc _))
   have HD3 : AccN (wc.heap.size + 1) ((wc.alloc (.cells #[.int .i64 nu] 3)).alloc (.cells #[] 3)).drew (.slice (some ⟨wc.heap.size + 1, 0, none⟩) 0 0) [] := HA1.ext (Ext.drew (XR _))
   have HZ0 := HB0.size
   have HZ2 := HB2.size
   have HZ3 : wc.heap.size + 1 <= ((wc.alloc (.cells #[.int .i64 nu] 3)).alloc (.cells #[] 3)).drew.heap.size := by simp
   have HZ4 : wc.heap.size + 1 < ((wc.alloc (.cells #[] 3)).alloc (.cells #[.int .i64 nu] 3)).drew.heap.size := by simp
   have HC2 : ((wc.alloc (.cells #[] 3)).alloc (.cells #[.int .i64 nu] 3)).drew.cell? ⟨wc.heap.size + 1, 0, none⟩ = some (.int .i64 nu) := by simp
   have HC3 : ((wc.alloc (.cells #[.int .i64 nu] 3)).alloc (.cells #[] 3)).drew.cell? ⟨wc.heap.size, 0, none⟩ = some (.int .i64 nu) := by simp
   have HR0 : Rep (wc.alloc (.cells #[] 3)).drew (ints ((G ++ [(f0p, f0s)]).map (·.1))) _ := RP2.out _ (x5.trans HB0)
   have HR2 : Rep ((wc.alloc (.cells #[] 3)).alloc (.cells #[.int .i64 nu] 3)).drew (ints ((G ++ [(f0p, f0s)]).map (·.1))) _ := RP2.out _ (x5.trans HB2)
   have HR3 : Rep ((wc.alloc (.cells #[.int .i64 nu] 3)).alloc (.cells #[] 3)).drew (ints ((G ++ [(f0p, f0s)]).map (·.1))) _ := RP2.out _ (x5.trans HB3)
   have HLE : Hid (([] : List Int).length + ((G ++ [(f0p, f0s)]).map (·.1)).length <= 1073741824) := LH (by simp; omega)
   have HLE2 : Hid ((([] : List Int) ++ ((G ++ [(f0p, f0s)]).map (·.1))).length + [(nu : Int)].length <= 1073741824) := LH (by simp; omega)
   have HLN : Hid (([] : List Int).length + ((G ++ [(f0p, f0s)]).map (·.1)).length = G.length + 1) := LH (by simp)
   have QC2 := LH HC2; have QC3 := LH HC3; have QZ3 := LH HZ3; have QZ4 := LH HZ4; have QZ0 := LH HZ0; have QZ2 := LH HZ2
   clear HA0 HA1 HC2 HC3 HZ3 HZ4 HZ0 HZ2
   go_region_held3 (fun w'' => w''.cell? ⟨w.heap.size, 2, none⟩ = some (.int .i64 nu) /\ Ext wc w'')
    (first | exact KS.out _ hb2 | exact KS.out _ (Ext.alloc hb1 _) | exact KS.out _ hb1 | exact KS.out _ HB0 | exact KS.out _ HB2 | exact KS.out _ HB3 | exact KS.out _ (by repeat (first | exact XR _ | exact Ext.drew (XR _) | refine Ext.drew ?_ | refine Ext.alloc ?_ _)))
    (first
     | (refine step_append_ints (by rfl) _ _ (by rfl) _ (.slice a4 (([] : List Int).length + ((G ++ [(f0p, f0s)]).map (·.1)).length) c4) ([] ++ ((G ++ [(f0p, f0s)]).map (·.1))) (by rfl) ac1 [nu] _ 1 1 (by rfl) HDW HLE2.out hz1 ?_; intro a5 c5 w5 ac2 hg2; have hb2 := hbf w5 _ _ ac1 hg2)
     | (have hb1a : Ext wc (w4.alloc (.cells #[.int .i64 nu] 3)) := Ext.alloc hb1 _; have hc1 := AccN.ext' ac1 (Ext.alloc (XR w4) (.cells #[.int .i64 nu] 3)); refine step_append_ints (by rfl) _ _ (by rfl) wc.heap.size (.slice a4 (G.length + 1) c4) ([] ++ ((G ++ [(f0p, f0s)]).map (·.1))) (by rfl) hc1 [nu] (some ⟨w4.heap.size, 0, none⟩) 1 1 (by rfl) (int_row w4 nu) HLE2.out hb1a.size ?_; intro a5 c5 w5 ac2 hg2; have hb2 := AccN.below hc1 hb1a hg2 hb1a.size)
     | (refine step_append_ints (by rfl) _ _ (by rfl) wc.heap.size (.slice (some ⟨wc.heap.size, 0, none⟩) 0 0) [] (by rfl) HD0 ((G ++ [(f0p, f0s)]).map (·.1)) _ _ _ (by rfl) HR0 HLE.out QZ0.out ?_; intro a4 c4 w4 ac1 hg1; have hb1 := AccN.below HD0 HB0 hg1 QZ0.out; rw [HLN.out] at ac1)
     | (refine step_append_ints (by rfl) _ _ (by rfl) wc.heap.size (.slice (some ⟨wc.heap.size, 0, none⟩) 0 0) [] (by rfl) HD2 ((G ++ [(f0p, f0s)]).map (·.1)) _ _ _ (by rfl) HR2 HLE.out QZ2.out ?_; intro a4 c4 w4 ac1 hg1; have hb1 := AccN.below HD2 HB2 hg1 QZ2.out; have hz1 := hb1.size; have HDW := int_at (far_cell hg1 QZ4.out QC2.out); have hbf : ∀ w5 a5 c5, AccN wc.heap.size w4 (.slice a5 (([] : List Int).length + ((G ++ [(f0p, f0s)]).map (·.1)).length) c5) ([] ++ ((G ++ [(f0p, f0s)]).map (·.1))) -> w4.grownBy w5 (Value.slice a5 (([] : List Int).length + ((G ++ [(f0p, f0s)]).map (·.1)).length) c5).ownBlock -> Ext wc w5 := fun w5 _ _ h1 h2 => AccN.below h1 hb1 h2 hz1)
     | (refine step_append_ints (by rfl) _ _ (by rfl) (wc.heap.size + 1) (.slice (some ⟨wc.heap.size + 1, 0, none⟩) 0 0) [] (by rfl) HD3 ((G ++ [(f0p, f0s)]).map (·.1)) _ _ _ (by rfl) HR3 HLE.out QZ3.out ?_; intro a4 c4 w4 ac1 hg1; have hv1 := AccN.below HD3 HV3 hg1 QZ3.out; have hz1 : wc.heap.size + 1 <= w4.heap.size := (by simpa using hv1.size); have hb1 := low_below hv1; have HDW := int_at (low_cell hv1 nu); have hbf : ∀ w5 a5 c5, AccN (wc.heap.size + 1) w4 (.slice a5 (([] : List Int).length + ((G ++ [(f0p, f0s)]).map (·.1)).length) c5) ([] ++ ((G ++ [(f0p, f0s)]).map (·.1))) -> w4.grownBy w5 (Value.slice a5 (([] : List Int).length + ((G ++ [(f0p, f0s)]).map (·.1)).length) c5).ownBlock -> Ext wc w5 := fun w5 _ _ h1 h2 => low_below (AccN.below h1 hv1 h2 hz1)))
   all_goals
    as_aux_lemma =>
    go_wp2_with fail
    go_meet
    obtain ⟨a6, c6, gp6, e6, h6, -⟩ := AccN.rep ac2
    injection e6
    subst_vars
    have h7 := h6.rep
    have hl7 : ((([] : List Int) ++ ((G ++ [(f0p, f0s)]).map (·.1))) ++ [(nu : Int)]).length = G.length + 1 + 1 := by simp
    refine ⟨_, _, _, rfl, rfl, rfl, LH (by simp [HZT.out, HZN.out, HZD.out, eI, gI, tI, nI, dI, kI, txK, nuK, frAt_last, HR16.out] <;> (first | done | omega | (constructor <;> intro h <;> simp_all <;> omega))), ?_, ?_, hx4.trans hb2⟩
    · rw [show frIn (G ++ [(f0p, f0s)]) ⟨16, t, nu, de, kids⟩ = (G ++ [(f0p, f0s)]) ++ [(nu, de)] from if_pos rfl]; exact Rep.ext hb2 HRS.out
    · rw [show frIn (G ++ [(f0p, f0s)]) ⟨16, t, nu, de, kids⟩ = (G ++ [(f0p, f0s)]) ++ [(nu, de)] from if_pos rfl, show paD ((G ++ [(f0p, f0s)]) ++ [(nu, de)]) = ints (([] ++ ((G ++ [(f0p, f0s)]).map (·.1))) ++ [nu]) from by simp [paD]]
      first | exact h7 | (rw [hl7] at h7; exact h7)
 case rest =>
 as_aux_lemma =>
  obtain ⟨sT, sN, sD, rfl, rfl, rfl, hE, hrs, hrp, hx⟩ := hcut
  have HR : Hid (okN (n + 1) K (G ++ [(f0p, f0s)]) ⟨kd, t, nu, de, kids⟩ ↔ (sT = true /\ sN = true /\ sD = true) /\ kidsP n K (frIn (G ++ [(f0p, f0s)]) ⟨kd, t, nu, de, kids⟩) kids) := LH (by
   rw [okN_node h15, hE.out]
   exact ⟨fun h => ⟨⟨h.1, h.2.1⟩, h.2.2⟩, fun h => ⟨h.1.1, h.1.2, h.2⟩⟩)
  have HFI : Hid (sT = true /\ sN = true /\ sD = true -> FrOk (frIn (G ++ [(f0p, f0s)]) ⟨kd, t, nu, de, kids⟩)) := LH (fun g => frOk_in HF.out (fun h16 => by
   have h := (hE.out.1 g).1.2.2 h16
   have a := inR_iff.1 h.1
   have b := inR_iff.1 h.2
   exact ⟨b.1, b.2, a.2⟩))
  have hFl : (frIn (G ++ [(f0p, f0s)]) ⟨kd, t, nu, de, kids⟩).length + n <= 1000 := by unfold frIn; split <;> simp <;> omega
  generalize frIn (G ++ [(f0p, f0s)]) ⟨kd, t, nu, de, kids⟩ = F' at *
  replace m0 := Ext.cell hx m0
  replace m1 := Ext.cell hx m1
  replace m2 := Ext.cell hx m2
  replace m3 := Ext.cell hx m3
  replace m4 := Ext.cell hx m4
  have E2 := x1.trans hx
  have HRS := LH hrs; have HRP := LH hrp
  clear hrs hrp hE hx h15
  cases sT
  · have NE : Hid (¬ okN (n + 1) K (G ++ [(f0p, f0s)]) ⟨kd, t, nu, de, kids⟩) := LH (fun h => by have := (HR.out.1 h).1.1; cases this)
    go_wp2_with fail
    go_ret
    exact ⟨ret_bool (prB_ff NE.out).symm, E2⟩
  cases sN
  · have NE : Hid (¬ okN (n + 1) K (G ++ [(f0p, f0s)]) ⟨kd, t, nu, de, kids⟩) := LH (fun h => by have := (HR.out.1 h).1.2.1; cases this)
    go_wp2_with fail
    go_ret
    exact ⟨ret_bool (prB_ff NE.out).symm, E2⟩
  cases sD
  · have NE : Hid (¬ okN (n + 1) K (G ++ [(f0p, f0s)]) ⟨kd, t, nu, de, kids⟩) := LH (fun h => by have := (HR.out.1 h).1.2.2; cases this)
    go_wp2_with fail
    go_ret
    exact ⟨ret_bool (prB_ff NE.out).symm, E2⟩
  have HK : Hid (∀ (vs vp : Value) W, Ext w W -> Rep W (slD F') [vs] -> Rep W (paD F') [vp] -> Calls Tryz.prog 101 #[.agg #[.int .i64 kd, .string t, .int .i64 nu, .int .i64 de, .slice ak kids.length ck], .int .i64 K, vs, vp] W fun e w' => e = .returned (.bool (prB (okN (n + 1) K (G ++ [(f0p, f0s)]) ⟨kd, t, nu, de, kids⟩))) /\ Ext W w') := LH fun vs vp W h h1 h2 => by
   have h0 := l8Kids_at n IH ⟨kd, t, nu, de, kids⟩ _ K F' vs vp W (fun z hz => by
    have h1 := MCore.deep_kid (x := ⟨kd, t, nu, de, kids⟩) hz
    have h2 := MCore.bulk_kid (x := ⟨kd, t, nu, de, kids⟩) hz
    have h3 := HD.out; have h4 := HB.out
    exact ⟨by omega, by omega⟩) hFl (HFI.out ⟨rfl, rfl, rfl⟩) hK0 hK1 (MCore.shut (x := ⟨kd, t, nu, de, kids⟩) (Rep.ext h RK.out).choose_spec).rep h1 h2
   have e : prB (kidsP n K F' kids) = prB (okN (n + 1) K (G ++ [(f0p, f0s)]) ⟨kd, t, nu, de, kids⟩) := by
    congr 1
    exact propext ⟨fun h => HR.out.2 ⟨⟨rfl, rfl, rfl⟩, h⟩, fun h => (HR.out.1 h).2⟩
   rw [<- e]
   exact h0
  go_wp2_with fail
  refine (HK.out _ _ _ E2 HRS.out HRP.out).mono ?_
  clear m0 m1 m2 m3 m4
  rintro e w3 ⟨rfl, hx3⟩
  go_wp2_with fail
  go_ret
  exact ⟨rfl, E2.trans hx3⟩
end Go.Proofs.YtlaclfeljimffaaGreatDoor
