/-
  CONTRACTS: what the classes of a system are, of the reference.
  Conditions: those that each lemma states.
-/
import Derived.Test.YtlaclfeljimffaaGreatDoorRows
import Derived.Lib.QuietBelow
import Derived.BigQuiet
import Derived.Test.YtlaclfeljimffaaGreatDoorP17
namespace Go.Proofs.YtlaclfeljimffaaGreatDoor
open Go.RowKit
set_option maxHeartbeats 8000000
set_option maxRecDepth 100000
set_option linter.unusedSimpArgs false
set_option linter.unusedVariables false
theorem l8IsClasses_any (l : List MClassInfo) (va : Value) (w : World) (ra : Rep w (MClassInfos l) [va]) (hz : ∀ c, c ∈ l -> c.name.size <= 1048576 /\ ∀ s, s ∈ c.fields -> s.size <= 1048576) :
 Calls Tryz.prog 40 #[va] w fun e w' => e = .returned (.bool (clsB l)) /\ Ext w w' := by
 obtain ⟨ao, ca, bl, ol, h1, hla, hma, pa, ha⟩ := Rep.slmap ra
 simp only [List.cons.injEq, and_true] at h1
 subst h1
 clear ra
 unfold maxLen at hma
 have HZ := LH hz; clear hz
 by_cases hl16 : 16 <= l.length
 rotate_left
 · have hN : Hid (clsB l = false) := LH (clsB_ff fun h => hl16 h.1.1)
   have g : (l.length : Int) < 16 := by omega
   go_enter Tryz.func40, Tryz.ntmps40
   go_wp2_with fail
   go_ret
   exact ⟨ret_bool hN.out.symm, XR _⟩
 have gl : ¬ (l.length : Int) < 16 := by omega
 by_cases hl24 : l.length <= 24
 rotate_left
 · have hN : Hid (clsB l = false) := LH (clsB_ff fun h => hl24 h.1.2)
   have g : (24 : Int) < l.length := by omega
   go_enter Tryz.func40, Tryz.ntmps40
   go_wp2_with fail
   go_ret
   exact ⟨ret_bool hN.out.symm, XR _⟩
 have gl2 : ¬ (24 : Int) < l.length := by omega
 have HL : Hid (16 <= l.length /\ l.length <= 24) := LH ⟨hl16, hl24⟩
 obtain rfl := pa (by omega)
 go_enter Tryz.func40, Tryz.ntmps40
 go_wp2_with fail
 refine (l8Infos_any w.heap.size _ (by simp)).mono ?_
 rintro e w2 ⟨ai, ni, ci, fi, rfl, hri, hfi, hxi⟩
 obtain ⟨ai', ci', bi, oi, h1, -, -, pi, hi⟩ := Rep.slmap hri.rep
 simp only [List.cons.injEq, and_true, Value.slice.injEq, infosL_length] at h1
 obtain ⟨rfl, rfl, rfl⟩ := h1
 obtain rfl := pi (by decide)
 have e2 : Ext w w2 := ((XR w).alloc _).trans hxi
 clear hri hfi pi hxi gl gl2
 go_wp2_with fail
 go_loopw [5] (fun iv wr => ∃ k : Nat, k <= l.length /\ iv = .int .i64 k /\ Ext w2 wr /\ Hid (∀ i c, i < k -> l[i]? = some c -> ClsAt l i c)) (fun iv _ => l.length - (intOf iv).toNat)
 case atStart => exact ⟨0, Nat.zero_le _, rfl, XR _, LH fun i c hi => by omega⟩
 case round =>
  obtain ⟨k, hk, rfl, hx2, hR⟩ := hrel
  obtain ⟨wo, hwo⟩ : ∃ x, x = wr := ⟨_, rfl⟩
  subst hwo
  have hx := e2.trans hx2
  by_cases hlt : k < l.length
  rotate_left
  · have hY : Hid (clsB l = true) := LH (clsB_tt ⟨HL.out, fun i c hc => hR.out i c (by have := (List.getElem?_eq_some_iff.1 hc).1; omega) hc⟩)
    go_wp2_with fail
    go_ret
    exact ⟨ret_bool hY.out.symm, hx⟩
  obtain ⟨c, hc⟩ : ∃ c, c = l[k] := ⟨_, rfl⟩
  have hck : l[k]? = some c := by rw [hc]; simp [hlt]
  have hcz := HZ.out c (by rw [hc]; exact List.getElem_mem _)
  clear hc
  obtain ⟨es, les, ces, res⟩ := ha k c hck
  obtain ⟨af, cf, rfl, rf⟩ := MClassInfo.op_en res
  have q0 := hx.cell (show w.cell? ⟨bl, ol + k * 3, none⟩ = some _ from ces 0 (by omega))
  have q1 := hx.cell (show w.cell? ⟨bl, ol + k * 3 + 1, none⟩ = some _ from ces 1 (by omega))
  have q2 := hx.cell (show w.cell? ⟨bl, ol + k * 3 + 2, none⟩ = some _ from ces 2 (by omega))
  have RF := LH rf
  have NO : Hid (¬ ClsAt l k c -> clsB l = false) := LH fun h => clsB_ff fun hh => h (hh.2 k c hck)
  have HCK := LH hck
  have HCZ := LH hcz
  clear hck hcz les ces res rf
  obtain ⟨nm, par, fs⟩ := c
  simp only at q0 q1 q2 NO HCK HCZ RF
  have REL : Hid (ClsAt l k ⟨nm, par, fs⟩ -> ∀ i c, i < k + 1 -> l[i]? = some c -> ClsAt l i c) := LH fun h i c hi hc => by
   by_cases h2 : i < k
   · exact hR.out i c h2 hc
   · obtain rfl : i = k := by omega
     have := HCK.out
     rw [this] at hc; injection hc with hc; subst hc; exact h
  have S0 : ∀ (W : World) (X0 : Ext wo W), True := fun _ _ => trivial
  clear S0
  by_cases h16 : k < 16
  · have g16 : (k : Int) < 16 := by omega
    go_wp2_with fail
    generalize hS : World.alloc wo _ = W1
    have x1 : Ext wo W1 := by rw [<- hS]; exact (XR _).alloc _
    have M0 : W1.cell? ⟨wo.heap.size, 0, none⟩ = some (.string nm) := by rw [<- hS]; simp
    have M1 : W1.cell? ⟨wo.heap.size, 1, none⟩ = some (.int .i64 par) := by rw [<- hS]; simp
    have M2 : W1.cell? ⟨wo.heap.size, 2, none⟩ = some (.slice af fs.length cf) := by rw [<- hS]; simp
    clear hS q0 q1 q2
    obtain ⟨ei, lei, cei, rei⟩ := hi k _ (infosL_get h16)
    obtain ⟨ag, cg, rfl, rg⟩ := MClassInfo.op_en rei
    obtain ⟨ia, hia⟩ : ∃ ia, infoAt k = ia := ⟨_, rfl⟩
    rw [hia] at cei rg
    have HI : Hid (⟨nm, par, fs⟩ = infoAt k ↔ nm = ia.name /\ par = ia.parent /\ fs = ia.fields) := LH (by
     rw [hia]
     obtain ⟨a, b, c⟩ := ia
     simp)
    have s0 : w2.cell? ⟨bi, oi + k * 3, none⟩ = some (.string ia.name) := cei 0 (by omega)
    have s1 : w2.cell? ⟨bi, oi + k * 3 + 1, none⟩ = some (.int .i64 ia.parent) := cei 1 (by omega)
    have s2 : w2.cell? ⟨bi, oi + k * 3 + 2, none⟩ = some (.slice ag ia.fields.length cg) := cei 2 (by omega)
    obtain ⟨inm, ipar, ifs⟩ := ia
    simp only at s0 s1 s2 rg
    have x21 := hx2.trans x1
    have xw1 := hx.trans x1
    have g0 := reg (XR _) M0
    have g1 := reg (XR _) M1
    have g2 := reg (XR _) M2
    have r0 := reg x21 s0
    have r1 := reg x21 s1
    have r2 := reg x21 s2
    have CT : Hid (∀ W, Ext W1 W -> Calls Tryz.prog 69 #[.slice af fs.length cf, .slice ag ifs.length cg] W fun e w' => e = .returned (.bool (eqB fs ifs)) /\ Ext W w') := LH fun W h => l3Texts_any _ _ _ _ _ (Rep.ext (xw1.trans h) RF.out) (Rep.ext (x21.trans h) rg)
    have RGH := LH rg
    clear hia rg lei cei rei s0 s1 s2
    by_cases e1 : nm = inm
    rotate_left
    · have t1 := str_nen e1
      have E1 := LH e1; clear e1
      refine wp_region_quiet_below (by kernel_rfl) (by kernel_rfl) ?_
      repeat (go_big_quiet_step (fail))
      refine wpQuiet_nil ?_
      clear g0 g1 g2 r0 r1 r2
      intro _ hw'
      obtain ⟨pw, hw''⟩ := hw'
      subst hw''
      have XW3 := regx W1 pw
      generalize hWR : «Sort».grow (redrawn W1 pw.d) pw.os = W3 at *
      clear hWR
      go_wp2_with fail
      go_ret
      exact ⟨ret_bool (NO.out (fun h => E1.out (HI.out.1 (h.1 h16)).1)).symm, xw1.trans XW3⟩
    have t1 := str_eqn e1
    by_cases e2 : par = ipar
    rotate_left
    · have t2 := int_nen e2
      have E2 := LH e2; clear e2
      refine wp_region_quiet_below (by kernel_rfl) (by kernel_rfl) ?_
      repeat (go_big_quiet_step (fail))
      refine wpQuiet_nil ?_
      clear g0 g1 g2 r0 r1 r2
      intro _ hw'
      obtain ⟨pw, hw''⟩ := hw'
      subst hw''
      have XW3 := regx W1 pw
      generalize hWR : «Sort».grow (redrawn W1 pw.d) pw.os = W3 at *
      clear hWR
      go_wp2_with fail
      go_ret
      exact ⟨ret_bool (NO.out (fun h => E2.out (HI.out.1 (h.1 h16)).2.1)).symm, xw1.trans XW3⟩
    have t2 := int_eqn e2
    have E1 := LH e1; have E2 := LH e2
    clear e1 e2
    cases e3 : eqB fs ifs
    · have t3 : Hid (¬ fs = ifs) := LH (fun h => by have := eqB_tt h; rw [e3] at this; cases this)
      rw [e3] at CT
      clear e3
      refine wp_region_quiet_below (by kernel_rfl) (by kernel_rfl) ?_
      repeat (go_big_quiet_step ((go_at_call 69; exact Calls.regrown_of (CT.out _ (below_regrown _ _ _)))))
      refine wpQuiet_nil ?_
      clear g0 g1 g2 r0 r1 r2
      intro _ hw'
      obtain ⟨pw, hw''⟩ := hw'
      subst hw''
      have XW3 := regx W1 pw
      generalize hWR : «Sort».grow (redrawn W1 pw.d) pw.os = W3 at *
      clear hWR
      go_wp2_with fail
      go_ret
      exact ⟨ret_bool (NO.out (fun h => t3.out (HI.out.1 (h.1 h16)).2.2)).symm, xw1.trans XW3⟩
    · have t3 := LH (eqB_iff.1 e3)
      rw [e3] at CT
      clear e3
      refine wp_region_quiet_below (by kernel_rfl) (by kernel_rfl) ?_
      repeat (go_big_quiet_step ((go_at_call 69; exact Calls.regrown_of (CT.out _ (below_regrown _ _ _)))))
      refine wpQuiet_nil ?_
      clear g0 g1 g2 r0 r1 r2
      intro _ hw'
      obtain ⟨pw, hw''⟩ := hw'
      subst hw''
      have XW3 := regx W1 pw
      generalize hWR : «Sort».grow (redrawn W1 pw.d) pw.os = W3 at *
      clear hWR
      go_wp2_with fail
      go_roundw
      case rel => exact ⟨k + 1, by omega, by go_num, x21.trans XW3, LH (REL.out ⟨fun _ => HI.out.2 ⟨E1.out, E2.out, t3.out⟩, fun h => by omega⟩)⟩
      case measure => simp [intOf]; omega
  have g16 : ¬ (k : Int) < 16 := by omega
  have k16 : 16 <= k := by omega
  have NO : Hid (¬ (nameB nm = true /\ (0 <= par /\ par <= (k : Int) - 1) /\ ¬ (5 <= par /\ par <= 15) /\ fs.length <= 8 /\ (∀ j e, j < k -> l[j]? = some e -> e.name ≠ nm) /\ (∀ p, l[par.toNat]? = some p -> p.fields.length <= fs.length /\ fs.take p.fields.length = p.fields) /\ (∀ j s, fs[j]? = some s -> nameB s = true /\ s ∉ fs.take j)) -> clsB l = false) := LH fun h => NO.out fun hh => h (hh.2 k16)
  have REL : Hid ((nameB nm = true /\ (0 <= par /\ par <= (k : Int) - 1) /\ ¬ (5 <= par /\ par <= 15) /\ fs.length <= 8 /\ (∀ j e, j < k -> l[j]? = some e -> e.name ≠ nm) /\ (∀ p, l[par.toNat]? = some p -> p.fields.length <= fs.length /\ fs.take p.fields.length = p.fields) /\ (∀ j s, fs[j]? = some s -> nameB s = true /\ s ∉ fs.take j)) -> ∀ i c, i < k + 1 -> l[i]? = some c -> ClsAt l i c) := LH fun h => REL.out ⟨fun h6 => by omega, fun _ => h⟩
  have hnz : nm.size <= 9223372036854775806 := by have := HCZ.out.1; omega
  go_wp2_with fail
  generalize hS : World.alloc wo _ = W1
  have xo : Ext wo W1 := by rw [<- hS]; exact (XR _).alloc _
  have M0 : W1.cell? ⟨wo.heap.size, 0, none⟩ = some (.string nm) := by rw [<- hS]; simp
  have M1 : W1.cell? ⟨wo.heap.size, 1, none⟩ = some (.int .i64 par) := by rw [<- hS]; simp
  have M2 : W1.cell? ⟨wo.heap.size, 2, none⟩ = some (.slice af fs.length cf) := by rw [<- hS]; simp
  clear hS q0 q1 q2
  have x1 := hx.trans xo
  have y1 := hx2.trans xo
  clear xo
  refine (spec_IsName_any nm _ hnz).mono ?_
  cases hn : nameB nm
  · have HN := LH hn; clear hn
    rintro e w3 ⟨rfl, hx3⟩
    go_wp2_with fail
    go_ret
    exact ⟨ret_bool (NO.out (fun h => by rw [HN.out] at h; cases h.1)).symm, x1.trans hx3⟩
  have HN := LH hn; clear hn
  rintro e w3 ⟨rfl, hx3⟩
  replace M0 := Ext.cell hx3 M0
  replace M1 := Ext.cell hx3 M1
  replace M2 := Ext.cell hx3 M2
  replace x1 := x1.trans hx3
  replace y1 := y1.trans hx3
  clear hx3
  go_wp2_with fail
  refine (l1In_any _ _ _ _).mono ?_
  by_cases hp : 0 <= par /\ par <= (k : Int) - 1
  rotate_left
  · have hpd : decide ((0 : Int) <= par /\ par <= (k : Int) - 1) = false := decide_eq_false hp
    have HP := LH hp; clear hp
    rw [hpd]
    rintro e w4 ⟨rfl, hw4⟩
    subst w4
    go_wp2_with fail
    go_ret
    exact ⟨ret_bool (NO.out (fun h => HP.out h.2.1)).symm, x1⟩
  have hpd : decide ((0 : Int) <= par /\ par <= (k : Int) - 1) = true := decide_eq_true hp
  rw [hpd]
  rintro e w4 ⟨rfl, hw4⟩
  subst w4
  clear hpd
  by_cases hp5 : 5 <= par /\ par <= 15
  · have u1 : (4 : Int) < par := by omega
    have u2 : par < 16 := by omega
    have HP5 := LH hp5; clear hp5
    go_wp2_with fail
    go_ret
    exact ⟨ret_bool (NO.out (fun h => h.2.2.1 HP5.out)).symm, x1⟩
  have HP5 := LH hp5
  have hp45 : par <= 4 ∨ 16 <= par := by omega
  obtain ⟨pn, rfl⟩ : ∃ q : Nat, par = q := ⟨par.toNat, by omega⟩
  have hpn : pn < k := by omega
  have hpl : pn < l.length := by omega
  have HP := LH hp
  clear hp hp5
  by_cases h8 : fs.length <= 8
  rotate_left
  · have g8 : (8 : Int) < fs.length := by omega
    rcases hp45 with hp4 | hp4
    · have u1 : ¬ (4 : Int) < (pn : Int) := by omega
      go_wp2_with fail
      go_ret
      exact ⟨ret_bool (NO.out (fun h => h8 h.2.2.2.1)).symm, x1⟩
    · have u1 : (4 : Int) < (pn : Int) := by omega
      have u2 : ¬ (pn : Int) < 16 := by omega
      go_wp2_with fail
      go_ret
      exact ⟨ret_bool (NO.out (fun h => h8 h.2.2.2.1)).symm, x1⟩
  have g8 : ¬ (8 : Int) < fs.length := by omega
  have H8 := LH h8
  clear h8
  have hpl2 : (pn : Int) < l.length := by omega
  have hp0 : (0 : Int) <= pn := by omega
  rcases hp45 with hp4 | hp4
  all_goals
   first
    | have u1 : ¬ (4 : Int) < (pn : Int) := by omega
    | (have u1 : (4 : Int) < (pn : Int) := by omega
       have u2 : ¬ (pn : Int) < 16 := by omega)
   go_wp2_with fail
   go_loopw [7] (fun jv wr => ∃ j : Nat, j <= k /\ jv = .int .i64 j /\ Ext w3 wr /\ Hid (∀ i e, i < j -> l[i]? = some e -> e.name ≠ nm)) (fun jv _ => k - (intOf jv).toNat)
   case atStart => exact ⟨0, Nat.zero_le _, rfl, XR _, LH fun i e hi => by omega⟩
   case round =>
    obtain ⟨j, hj, rfl, hxj, hJ⟩ := hrel
    have N0 := Ext.cell hxj M0
    have N1 := Ext.cell hxj M1
    have N2 := Ext.cell hxj M2
    have xj := x1.trans hxj
    by_cases hjk : j < k
    · obtain ⟨e, he⟩ : ∃ e, e = l[j] := ⟨_, rfl⟩
      have hej : l[j]? = some e := by rw [he]; simp [show j < l.length by omega]
      clear he
      obtain ⟨es, les, ces, res⟩ := ha j e hej
      obtain ⟨ae, ce, rfl, -⟩ := MClassInfo.op_en res
      have q0 := reg xj (show w.cell? ⟨bl, ol + j * 3, none⟩ = some _ from ces 0 (by omega))
      have g0 := reg (XR _) N0
      have HEJ := LH hej
      clear les ces res hej N1 N2
      have jl : (j : Int) < l.length := by omega
      have jk : (j : Int) < k := by omega
      by_cases hq : e.name = nm
      · have tq := str_eq hq
        have HQ := LH hq; clear hq
        go_wp2_with fail
        refine wp_region_quiet_below (by kernel_rfl) (by kernel_rfl) ?_
        repeat (go_big_quiet_step (fail))
        refine wpQuiet_nil ?_
        clear q0 g0
        intro _ hw'
        obtain ⟨pw, hw''⟩ := hw'
        subst hw''
        have XW4 := regx wr pw
        generalize hWR : «Sort».grow (redrawn wr pw.d) pw.os = W4 at *
        clear hWR
        go_wp2_with fail
        go_ret
        exact ⟨ret_bool (NO.out (fun h => h.2.2.2.2.1 j e hjk HEJ.out HQ.out)).symm, xj.trans XW4⟩
      · have tq := str_ne hq
        have HQ := LH hq; clear hq
        go_wp2_with fail
        refine wp_region_quiet_below (by kernel_rfl) (by kernel_rfl) ?_
        repeat (go_big_quiet_step (fail))
        refine wpQuiet_nil ?_
        clear q0 g0
        intro _ hw'
        obtain ⟨pw, hw''⟩ := hw'
        subst hw''
        have XW4 := regx wr pw
        generalize hWR : «Sort».grow (redrawn wr pw.d) pw.os = W4 at *
        clear hWR
        go_wp2_with fail
        go_roundw
        case rel => exact ⟨j + 1, by omega, by go_num, hxj.trans XW4, LH fun i e2 hi he2 => by
         by_cases h2 : i < j
         · exact hJ.out i e2 h2 he2
         · obtain rfl : i = j := by omega
           rw [HEJ.out] at he2; injection he2 with he2; subst he2; exact HQ.out⟩
        case measure => simp [intOf]; omega
    have jk : ¬ (j : Int) < k := by omega
    obtain rfl : j = k := by omega
    obtain ⟨e, he⟩ : ∃ e, e = l[pn] := ⟨_, rfl⟩
    have hej : l[pn]? = some e := by rw [he]; simp [hpl]
    clear he
    obtain ⟨es, les, ces, res⟩ := ha pn e hej
    obtain ⟨ae, ce, rfl, re⟩ := MClassInfo.op_en res
    have q2 := xj.cell (show w.cell? ⟨bl, ol + pn * 3 + 2, none⟩ = some _ from ces 2 (by omega))
    have RE := LH re
    have HPE : Hid (∀ (P : List ByteArray -> Prop), P e.fields -> ∀ p, l[(pn : Int).toNat]? = some p -> P p.fields) := LH fun P hP p hp => by
     rw [Int.toNat_natCast, hej] at hp; injection hp with hp; subst hp; exact hP
    have HEP : Hid (l[(pn : Int).toNat]? = some e) := LH (by rw [Int.toNat_natCast]; exact hej)
    clear les ces res hej re
    obtain ⟨enm, epar, pfs⟩ := e
    simp only at q2 RE HPE
    go_wp2_with fail
    have k0 := reg (XR _) q2
    have k1 := reg (XR _) N1
    have k2 := reg (XR _) N2
    by_cases hlp : pfs.length <= fs.length
    rotate_left
    · have tl : (fs.length : Int) < pfs.length := by omega
      refine wp_region_quiet_below (by kernel_rfl) (by kernel_rfl) ?_
      repeat (go_big_quiet_step (fail))
      refine wpQuiet_nil ?_
      clear k0 k1 k2
      intro _ hw'
      obtain ⟨pw, hw''⟩ := hw'
      subst hw''
      have XW4 := regx wr pw
      generalize hWR : «Sort».grow (redrawn wr pw.d) pw.os = W4 at *
      clear hWR
      go_wp2_with fail
      go_ret
      exact ⟨ret_bool (NO.out (fun h => hlp (h.2.2.2.2.2.1 _ HEP.out).1)).symm, xj.trans XW4⟩
    have tl : ¬ (fs.length : Int) < pfs.length := by omega
    have hcf : fs.length <= cf /\ cf <= maxLen /\ (af = none -> cf = 0) := by
     obtain ⟨fp, h⟩ := RF.out
     obtain ⟨_, _, h1, h2, h3, h4, -⟩ := RepF.sl_iff.1 h
     simp only [List.cons.injEq, and_true, Value.slice.injEq, List.length_map] at h1 h2
     obtain ⟨rfl, -, rfl⟩ := h1
     exact ⟨h2, h3, h4⟩
    obtain ⟨hcf1, hcf2, hcf3⟩ := hcf
    have RTN : Hid (af = none -> pfs.length = 0 /\ cf = 0) := LH fun h => ⟨by have := hcf3 h; omega, hcf3 h⟩
    have tl3 : (pfs.length : Int) <= cf := by omega
    have tl4 : (0 : Int) <= pfs.length := by omega
    clear hcf2 hcf3
    have HQF : Hid (eqB (fs.take pfs.length) pfs = false -> clsB l = false) := LH fun hq => NO.out fun h => by
     have := eqB_tt (h.2.2.2.2.2.1 _ HEP.out).2
     rw [hq] at this; cases this
    have HQT : Hid (eqB (fs.take pfs.length) pfs = true -> (∀ p, l[(pn : Int).toNat]? = some p -> p.fields.length <= fs.length /\ fs.take p.fields.length = p.fields)) := LH fun hq p hp => HPE.out (fun L => L.length <= fs.length /\ fs.take L.length = L) ⟨hlp, eqB_iff.1 hq⟩ p hp
    have HALL := hJ
    clear HPE
    rcases af with _ | a
    · obtain ⟨hp0, hcf0⟩ := RTN.out rfl
      have hf0 : fs.length = 0 := by omega
      have CT : Hid (∀ W, Ext wr W -> Calls Tryz.prog 69 #[.slice none 0 0, .slice ae 0 ce] W fun e w' => e = .returned (.bool (eqB (fs.take pfs.length) pfs)) /\ Ext W w') := LH fun W h => by
       have h1 : Rep W (strs (fs.take pfs.length)) [.slice none 0 0] := by rw [hp0]; exact (nil_strs W).rep
       have h2 := Rep.ext (xj.trans h) RE.out
       rw [hp0] at h2
       exact l3Texts_any _ _ _ _ _ h1 h2
      have HQE : Hid (∀ i s, fs[i]? = some s -> nameB s = true /\ s ∉ fs.take i) := LH fun i s h => by
       have := (List.getElem?_eq_some_iff.1 h).1; omega
      cases hq : eqB (fs.take pfs.length) pfs
      · have HQ := LH (HQF.out hq)
        rw [hq] at CT; clear hq
        refine wp_region_quiet_below (by kernel_rfl) (by kernel_rfl) ?_
        repeat (go_big_quiet_step ((go_at_call 69; exact Calls.regrown_of (CT.out _ (below_regrown _ _ _)))))
        refine wpQuiet_nil ?_
        clear k0 k1 k2
        intro _ hw'
        obtain ⟨pw, hw''⟩ := hw'
        subst hw''
        have XW4 := regx wr pw
        generalize hWR : «Sort».grow (redrawn wr pw.d) pw.os = W4 at *
        clear hWR
        go_wp2_with fail
        go_ret
        exact ⟨ret_bool HQ.out.symm, xj.trans XW4⟩
      · have HQ := LH (HQT.out hq)
        rw [hq] at CT; clear hq
        refine wp_region_quiet_below (by kernel_rfl) (by kernel_rfl) ?_
        repeat (go_big_quiet_step ((go_at_call 69; exact Calls.regrown_of (CT.out _ (below_regrown _ _ _)))))
        refine wpQuiet_nil ?_
        clear k0 k1 k2
        intro _ hw'
        obtain ⟨pw, hw''⟩ := hw'
        subst hw''
        have XW4 := regx wr pw
        generalize hWR : «Sort».grow (redrawn wr pw.d) pw.os = W4 at *
        clear hWR
        have N2' := Ext.cell XW4 N2
        go_wp2_with fail
        refine wp_loop_rounds 1 ?_
        rw [rounds_succ]
        go_wp2_with fail
        go_roundw
        case rel => exact ⟨_ + 1, by omega, by go_num, (y1.trans hxj).trans XW4, LH (REL.out ⟨HN.out, HP.out, HP5.out, H8.out, fun i e hi he => HALL.out i e hi he, HQ.out, HQE.out⟩)⟩
        case measure => simp [intOf]; omega
    · have CT : Hid (∀ W, Ext wr W -> Calls Tryz.prog 69 #[.slice (some a) pfs.length cf, .slice ae pfs.length ce] W fun e w' => e = .returned (.bool (eqB (fs.take pfs.length) pfs)) /\ Ext W w') := LH fun W h => l3Texts_any _ _ _ _ _ (RepF.take_strs (Rep.ext (xj.trans h) RF.out) _ hlp) (Rep.ext (xj.trans h) RE.out)
      cases hq : eqB (fs.take pfs.length) pfs
      · have HQ := LH (HQF.out hq)
        rw [hq] at CT; clear hq
        refine wp_region_quiet_below (by kernel_rfl) (by kernel_rfl) ?_
        repeat (go_big_quiet_step ((go_at_call 69; exact Calls.regrown_of (CT.out _ (below_regrown _ _ _)))))
        refine wpQuiet_nil ?_
        clear k0 k1 k2
        intro _ hw'
        obtain ⟨pw, hw''⟩ := hw'
        subst hw''
        have XW4 := regx wr pw
        generalize hWR : «Sort».grow (redrawn wr pw.d) pw.os = W4 at *
        clear hWR
        go_wp2_with fail
        go_ret
        exact ⟨ret_bool HQ.out.symm, xj.trans XW4⟩
      have HQ := LH (HQT.out hq)
      rw [hq] at CT; clear hq
      refine wp_region_quiet_below (by kernel_rfl) (by kernel_rfl) ?_
      repeat (go_big_quiet_step ((go_at_call 69; exact Calls.regrown_of (CT.out _ (below_regrown _ _ _)))))
      refine wpQuiet_nil ?_
      clear k0 k1 k2
      intro _ hw'
      obtain ⟨pw, hw''⟩ := hw'
      subst hw''
      have XW4 := regx wr pw
      generalize hWR : «Sort».grow (redrawn wr pw.d) pw.os = W4 at *
      clear hWR
      have N2' := Ext.cell XW4 N2
      have x5 := xj.trans XW4
      have y5 := (y1.trans hxj).trans XW4
      obtain ⟨ao', ca', bf, of', h1, hlf, hmf, pf, hf⟩ := RF.out.strs
      simp only [List.cons.injEq, and_true, Value.slice.injEq] at h1
      obtain ⟨rfl, -, rfl⟩ := h1
      unfold maxLen at hmf
      go_wp2_with fail
      go_loopw [9] (fun qv wr => ∃ q : Nat, q <= fs.length /\ qv = .int .i64 q /\ Ext W4 wr /\ Hid (∀ i s, i < q -> fs[i]? = some s -> nameB s = true /\ s ∉ fs.take i)) (fun qv _ => fs.length - (intOf qv).toNat)
      case atStart => exact ⟨0, Nat.zero_le _, rfl, XR _, LH fun i s hi => by omega⟩
      case round =>
       obtain ⟨q, hq, rfl, hxq, hQ⟩ := hrel
       have xq := x5.trans hxq
       have N3 := Ext.cell hxq N2'
       by_cases hqk : q < fs.length
       rotate_left
       · have HQE : Hid (∀ i s, fs[i]? = some s -> nameB s = true /\ s ∉ fs.take i) := LH fun i s h => hQ.out i s (by have := (List.getElem?_eq_some_iff.1 h).1; omega) h
         go_wp2_with fail
         go_roundw
         case rel => exact ⟨_ + 1, by omega, by go_num, y5.trans hxq, LH (REL.out ⟨HN.out, HP.out, HP5.out, H8.out, fun i e hi he => HALL.out i e hi he, HQ.out, HQE.out⟩)⟩
         case measure => simp [intOf]; omega
       have e := pf (by omega)
       simp only [Option.some.injEq] at e
       subst e
       obtain ⟨s, hs⟩ : ∃ s, s = fs[q] := ⟨_, rfl⟩
       have hsq : fs[q]? = some s := by rw [hs]; simp [hqk]
       have hsz : s.size <= 9223372036854775806 := by have := HCZ.out.2 s (by rw [hs]; exact List.getElem_mem _); omega
       clear hs
       have b0 := reg xq (hf q s hsq)
       have b2 := reg (XR _) N3
       have HSQ := LH hsq; clear hsq
       have tq : (q : Int) <= cf := by omega
       have tq0 : (0 : Int) <= q := by omega
       have tq1 : (q : Int) < fs.length := by omega
       have CN : Hid (∀ W, Calls Tryz.prog 70 #[.string s] W fun e w' => e = .returned (.bool (nameB s)) /\ Ext W w') := LH fun W => spec_IsName_any s W hsz
       have CH : Hid (∀ W, Ext wr W -> Calls Tryz.prog 71 #[.slice (some ⟨bf, of', none⟩) q cf, .string s] W fun e w' => e = .returned (.bool (hasB (fs.take q) s)) /\ Ext W w') := LH fun W h => (l1Has_any (fs.take q) s _ W (RepF.take_strs (Rep.ext (xq.trans h) RF.out) q (Nat.le_of_lt hqk))).mono fun e w' ⟨h1, h2⟩ => ⟨h1, by rw [h2]; exact XR _⟩
       cases hn : nameB s
       · have HS := LH hn
         rw [hn] at CN; clear hn
         go_wp2_with fail
         refine wp_region_quiet_below (by kernel_rfl) (by kernel_rfl) ?_
         repeat (go_big_quiet_step (first | (go_at_call 70; exact Calls.regrown_of (CN.out _)) | (go_at_call 71; exact Calls.regrown_of (CH.out _ (below_regrown _ _ _)))))
         refine wpQuiet_nil ?_
         clear b0 b2
         intro _ hw'
         obtain ⟨pw, hw''⟩ := hw'
         subst hw''
         have XW6 := regx wr pw
         generalize hWR : «Sort».grow (redrawn wr pw.d) pw.os = W6 at *
         clear hWR
         go_wp2_with fail
         go_ret
         exact ⟨ret_bool (NO.out (fun h => by have h9 := (h.2.2.2.2.2.2 q s HSQ.out).1; rw [HS.out] at h9; cases h9)).symm, xq.trans XW6⟩
       have HS := LH hn
       rw [hn] at CN; clear hn
       cases hh : hasB (fs.take q) s
       rotate_left
       · have HH := LH hh
         rw [hh] at CH; clear hh
         go_wp2_with fail
         refine wp_region_quiet_below (by kernel_rfl) (by kernel_rfl) ?_
         repeat (go_big_quiet_step (first | (go_at_call 70; exact Calls.regrown_of (CN.out _)) | (go_at_call 71; exact Calls.regrown_of (CH.out _ (below_regrown _ _ _)))))
         refine wpQuiet_nil ?_
         clear b0 b2
         intro _ hw'
         obtain ⟨pw, hw''⟩ := hw'
         subst hw''
         have XW6 := regx wr pw
         generalize hWR : «Sort».grow (redrawn wr pw.d) pw.os = W6 at *
         clear hWR
         go_wp2_with fail
         go_ret
         exact ⟨ret_bool (NO.out (fun h => (h.2.2.2.2.2.2 q s HSQ.out).2 (hasB_iff.1 HH.out))).symm, xq.trans XW6⟩
       · have HH := LH hh
         rw [hh] at CH; clear hh
         go_wp2_with fail
         refine wp_region_quiet_below (by kernel_rfl) (by kernel_rfl) ?_
         repeat (go_big_quiet_step (first | (go_at_call 70; exact Calls.regrown_of (CN.out _)) | (go_at_call 71; exact Calls.regrown_of (CH.out _ (below_regrown _ _ _)))))
         refine wpQuiet_nil ?_
         clear b0 b2
         intro _ hw'
         obtain ⟨pw, hw''⟩ := hw'
         subst hw''
         have XW6 := regx wr pw
         generalize hWR : «Sort».grow (redrawn wr pw.d) pw.os = W6 at *
         clear hWR
         go_wp2_with fail
         go_roundw
         case rel => exact ⟨q + 1, by omega, by go_num, hxq.trans XW6, LH fun i s2 hi hs2 => by
          by_cases h2 : i < q
          · exact hQ.out i s2 h2 hs2
          · obtain rfl : i = q := by omega
            rw [HSQ.out] at hs2; injection hs2 with hs2; subst hs2
            exact ⟨HS.out, fun hm => by have := hasB_iff.2 hm; rw [HH.out] at this; cases this⟩⟩
         case measure => simp [intOf]; omega
end Go.Proofs.YtlaclfeljimffaaGreatDoor
