/-
  CONTRACTS: RoutineFor, of the program and of the reference.
  Conditions: those that each lemma states.
-/
import Derived.Test.YtdngmifgglbbpaaGreatDoorRows
import Derived.Test.YtdngmifgglbbpaaGreatDoorFnFind
import Derived.Test.YtdngmifgglbbpaaGreatDoorFnClassOf
import Derived.Test.YtdngmifgglbbpaaGreatDoorFnLex
import Derived.Test.YtdngmifgglbbpaaGreatDoorFnEq
import Derived.BigQuiet
namespace Go.Proofs.YtdngmifgglbbpaaGreatDoor
open Go.RowKit
set_option linter.unusedSimpArgs false
set_option linter.unusedVariables false

theorem ci_inj {a b : ByteArray} {p q : Int} {l m : List ByteArray} : (MClassInfo.mk a p l = ⟨b, q, m⟩) ↔ a = b ∧ p = q ∧ l = m := by simp
set_option maxHeartbeats 4000000 in
set_option maxRecDepth 100000 in
theorem sameClasses_any (x y : List MClassInfo) (va vb : Value) (w : World) (rx : Rep w (MClassInfos x) [va]) (ry : Rep w (MClassInfos y) [vb]) :
    Calls Tryz.prog 67 #[va, vb] w fun e w' => e = .returned (.bool (eqB x y)) ∧ Ext w w' := by
  obtain ⟨ao, ca, ba, oa, h1, hla, hma, pa, ha⟩ := Rep.slmap rx
  obtain ⟨bo, cb, bb, ob, h2, hlb, hmb, pb, hb⟩ := Rep.slmap ry
  simp only [List.cons.injEq, and_true] at h1 h2
  subst h1 h2
  clear rx ry
  unfold maxLen at hma hmb
  have HA := Lib.hid ha
  have HB := Lib.hid hb
  clear ha hb
  by_cases hlen : x.length = y.length
  rotate_left
  · have hne : ((x.length : Int) != (y.length : Int)) = true := by simp; omega
    have HL := Lib.hid hlen; clear hlen
    go_enter Tryz.func67, Tryz.ntmps67
    go_wp2_with fail
    go_ret
    exact ⟨ret_ff fun h => HL.out (by rw [h]), Ext.refl _⟩
  have hne : ((x.length : Int) != (y.length : Int)) = false := by simp [hlen]
  have HL := Lib.hid hlen; clear hlen
  go_enter Tryz.func67, Tryz.ntmps67
  go_wp2_with fail
  go_loopw [14] (fun i wr => ∃ k : Nat, k ≤ x.length ∧ i = .int .i64 k ∧ Ext w wr ∧ Hid (∀ j, j < k → x[j]? = y[j]?)) (fun i _ => x.length - (intOf i).toNat)
  case atStart => exact ⟨0, Nat.zero_le _, rfl, Ext.refl _, Lib.hid fun j hj => by omega⟩
  case round =>
    obtain ⟨k, hk, rfl, hx, heq⟩ := hrel
    by_cases hlt : k < x.length
    rotate_left
    · go_wp2_with fail
      go_ret
      have hl := HL.out
      obtain rfl : k = x.length := by omega
      refine ⟨ret_tt ?_, hx⟩
      exact List.ext_getElem? fun j => by
        by_cases hj : j < x.length
        · exact heq.out j hj
        · simp [List.getElem?_eq_none_iff.2 (show x.length ≤ j by omega), List.getElem?_eq_none_iff.2 (show y.length ≤ j by omega)]
    have hltb : k < y.length := by have := HL.out; omega
    obtain rfl := pa (by omega)
    obtain rfl := pb (by omega)
    obtain ⟨e, he⟩ : ∃ e, e = x[k] := ⟨_, rfl⟩
    have hej : x[k]? = some e := by rw [he]; simp [hlt]
    clear he
    obtain ⟨g, hg⟩ : ∃ g, g = y[k] := ⟨_, rfl⟩
    have hgj : y[k]? = some g := by rw [hg]; simp [hltb]
    clear hg
    obtain ⟨es, les, ces, res⟩ := HA.out k e hej
    obtain ⟨ae, ce, rfl, rfe⟩ := MClassInfo.op_en res
    obtain ⟨gs, lgs, cgs, rgs⟩ := HB.out k g hgj
    obtain ⟨ag, cg, rfl, rfg⟩ := MClassInfo.op_en rgs
    have s0 : wr.cell? ⟨ba, oa + k * 3, none⟩ = some _ := hx.cell (show w.cell? _ = _ from ces 0 (by omega))
    have s1 : wr.cell? ⟨ba, oa + k * 3 + 1, none⟩ = some _ := hx.cell (show w.cell? _ = _ from ces 1 (by omega))
    have s2 : wr.cell? ⟨ba, oa + k * 3 + 2, none⟩ = some _ := hx.cell (show w.cell? _ = _ from ces 2 (by omega))
    have t0 : wr.cell? ⟨bb, ob + k * 3, none⟩ = some _ := hx.cell (show w.cell? _ = _ from cgs 0 (by omega))
    have t1 : wr.cell? ⟨bb, ob + k * 3 + 1, none⟩ = some _ := hx.cell (show w.cell? _ = _ from cgs 1 (by omega))
    have t2 : wr.cell? ⟨bb, ob + k * 3 + 2, none⟩ = some _ := hx.cell (show w.cell? _ = _ from cgs 2 (by omega))
    have RFE := Lib.hid (Rep.ext hx rfe)
    have RFG := Lib.hid (Rep.ext hx rfg)
    have NE : Hid (¬ e = g → ¬ x = y) := Lib.hid fun h h2 => h (by subst h2; rw [hej] at hgj; injection hgj)
    have EQ : Hid (e = g → ∀ j, j < k + 1 → x[j]? = y[j]?) := Lib.hid fun h j hj => by
      by_cases h2 : j < k
      · exact heq.out j h2
      · obtain rfl : j = k := by omega
        rw [hej, hgj, h]
    have hki : (k : Int) < x.length := by omega
    have hkj : (k : Int) < y.length := by omega
    clear les ces res lgs cgs rgs rfe rfg hej hgj heq
    have HX := Lib.hid hx
    clear hx
    obtain ⟨nm, par, fs⟩ := e
    obtain ⟨gm, gar, gs⟩ := g
    simp only at s0 s1 s2 t0 t1 t2 RFE RFG
    have g0 := reg (Ext.refl _) s0
    have g1 := reg (Ext.refl _) s1
    have g2 := reg (Ext.refl _) s2
    have r0 := reg (Ext.refl _) t0
    have r1 := reg (Ext.refl _) t1
    have r2 := reg (Ext.refl _) t2
    go_wp2_with fail
    by_cases e1 : nm = gm
    rotate_left
    · have u1 := str_nen e1
      have E1 := Lib.hid e1; clear e1
      refine wp_region_quiet_below (by kernel_rfl) (by kernel_rfl) ?_
      repeat (go_big_quiet_step (fail))
      refine wpQuiet_nil ?_
      clear g0 g1 g2 r0 r1 r2
      intro _ hw'
      obtain ⟨pw, hw''⟩ := hw'
      subst hw''
      go_wp2_with fail
      go_ret
      exact ⟨ret_ff (NE.out fun h => E1.out (ci_inj.1 h).1), HX.out.trans (regx _ _)⟩
    have u1 := str_eqn e1
    have E1 := Lib.hid e1; clear e1
    by_cases e2 : par = gar
    rotate_left
    · have u2 := int_nen e2
      have E2 := Lib.hid e2; clear e2
      refine wp_region_quiet_below (by kernel_rfl) (by kernel_rfl) ?_
      repeat (go_big_quiet_step (fail))
      refine wpQuiet_nil ?_
      clear g0 g1 g2 r0 r1 r2
      intro _ hw'
      obtain ⟨pw, hw''⟩ := hw'
      subst hw''
      go_wp2_with fail
      go_ret
      exact ⟨ret_ff (NE.out fun h => E2.out (ci_inj.1 h).2.1), HX.out.trans (regx _ _)⟩
    have u2 := int_eqn e2
    have E2 := Lib.hid e2; clear e2
    by_cases e3 : fs.length = gs.length
    rotate_left
    · have u3 : ((fs.length : Int) != (gs.length : Int)) = true := by simp; omega
      have E3 := Lib.hid e3; clear e3
      refine wp_region_quiet_below (by kernel_rfl) (by kernel_rfl) ?_
      repeat (go_big_quiet_step (fail))
      refine wpQuiet_nil ?_
      clear g0 g1 g2 r0 r1 r2
      intro _ hw'
      obtain ⟨pw, hw''⟩ := hw'
      subst hw''
      go_wp2_with fail
      go_ret
      exact ⟨ret_ff (NE.out fun h => E3.out (by rw [(ci_inj.1 h).2.2])), HX.out.trans (regx _ _)⟩
    have u3 : ((fs.length : Int) != (gs.length : Int)) = false := by simp [e3]
    have E3 := Lib.hid e3; clear e3
    refine wp_region_quiet_below (by kernel_rfl) (by kernel_rfl) ?_
    repeat (go_big_quiet_step (fail))
    refine wpQuiet_nil ?_
    clear g0 g1 g2 r0 r1 r2
    intro _ hw'
    obtain ⟨pw, hw''⟩ := hw'
    subst hw''
    have XW3 := regx wr pw
    generalize hWR : «Sort».grow (redrawn wr pw.d) pw.os = W3 at *
    clear hWR
    replace s2 := Ext.cell XW3 s2
    replace t2 := Ext.cell XW3 t2
    clear s0 s1 t0 t1 u1 u2 u3
    obtain ⟨fo, fc, fb, fof, h1, hlf, hmf, pf, hf⟩ := Rep.strs RFE.out
    obtain ⟨go, gc, gb, gof, h2, hlg, hmg, pg, hg⟩ := Rep.strs RFG.out
    simp only [List.cons.injEq, and_true, Value.slice.injEq] at h1 h2
    obtain ⟨rfl, -, rfl⟩ := h1
    obtain ⟨rfl, -, rfl⟩ := h2
    unfold maxLen at hmf hmg
    have HF := Lib.hid hf
    have HG := Lib.hid hg
    clear hf hg
    go_wp2_with fail
    go_loopw [62] (fun i w5 => ∃ m : Nat, m ≤ fs.length ∧ i = .int .i64 m ∧ Ext W3 w5 ∧ Hid (∀ j, j < m → fs[j]? = gs[j]?)) (fun i _ => fs.length - (intOf i).toNat)
    case atStart => exact ⟨0, Nat.zero_le _, rfl, Ext.refl _, Lib.hid fun j hj => by omega⟩
    case round =>
      obtain ⟨m, hm, rfl, hx5, heq5⟩ := hrel
      by_cases hlt5 : m < fs.length
      rotate_left
      · have HFE : Hid (fs = gs) := Lib.hid (List.ext_getElem? fun j => by
          have := E3.out
          by_cases hj : j < fs.length
          · exact heq5.out j (by omega)
          · simp [List.getElem?_eq_none_iff.2 (show fs.length ≤ j by omega), List.getElem?_eq_none_iff.2 (show gs.length ≤ j by omega)])
        have HQ := Lib.hid (EQ.out (ci_inj.2 ⟨E1.out, E2.out, HFE.out⟩))
        have HX5 := Lib.hid ((HX.out.trans XW3).trans hx5)
        go_wp2_with fail
        go_roundw
        case rel => exact ⟨k + 1, by omega, by go_num, HX5.out, HQ⟩
        case measure => simp [intOf]; omega
      have hlt6 : m < gs.length := by have := E3.out; omega
      obtain rfl := pf (by omega)
      obtain rfl := pg (by omega)
      have hm1 : (m : Int) < fs.length := by omega
      have hm2 : (m : Int) < gs.length := by omega
      have a0 := reg (XW3.trans hx5) (HF.out m fs[m] (by simp [hlt5]))
      have b0 := reg (XW3.trans hx5) (HG.out m gs[m] (by simp [hlt6]))
      have c0 := reg hx5 s2
      have d0 := reg hx5 t2
      have HX5 := Lib.hid ((HX.out.trans XW3).trans hx5)
      obtain ⟨fm, hfm⟩ : ∃ z, fs[m] = z := ⟨_, rfl⟩
      obtain ⟨gm2, hgm⟩ : ∃ z, gs[m] = z := ⟨_, rfl⟩
      have HFM : Hid (fs[m]? = some fm ∧ gs[m]? = some gm2) := Lib.hid ⟨by rw [← hfm]; simp [hlt5], by rw [← hgm]; simp [hlt6]⟩
      rw [hfm] at a0
      rw [hgm] at b0
      clear hfm hgm
      by_cases hs : fm = gm2
      · have ht := str_eqn hs
        have HS := Lib.hid hs; clear hs
        go_wp2_with fail
        refine wp_region_quiet_below (by kernel_rfl) (by kernel_rfl) ?_
        repeat (go_big_quiet_step (fail))
        refine wpQuiet_nil ?_
        clear a0 b0 c0 d0
        intro _ hw'
        obtain ⟨pw, hw''⟩ := hw'
        subst hw''
        go_wp2_with fail
        go_roundw
        case rel => exact ⟨m + 1, by omega, by go_num, hx5.trans (regx _ _), Lib.hid fun j hj => by
          by_cases h : j < m
          · exact heq5.out j h
          · obtain rfl : j = m := by omega
            rw [HFM.out.1, HFM.out.2, HS.out]⟩
        case measure => simp [intOf]; omega
      · have ht := str_nen hs
        have HS := Lib.hid hs; clear hs
        go_wp2_with fail
        refine wp_region_quiet_below (by kernel_rfl) (by kernel_rfl) ?_
        repeat (go_big_quiet_step (fail))
        refine wpQuiet_nil ?_
        clear a0 b0 c0 d0
        intro _ hw'
        obtain ⟨pw, hw''⟩ := hw'
        subst hw''
        go_wp2_with fail
        go_ret
        exact ⟨ret_ff (NE.out fun h => HS.out (by have := (ci_inj.1 h).2.2; subst this; have h1 := HFM.out.1; rw [HFM.out.2] at h1; injection h1 with h1; exact h1.symm)), HX5.out.trans (regx _ _)⟩

set_option maxHeartbeats 4000000 in
set_option maxRecDepth 100000 in
theorem l12Same_any (x y : List MClassInfo) (va vb : Value) (w : World) (rx : Rep w (MClassInfos x) [va]) (ry : Rep w (MClassInfos y) [vb]) :
    Calls Tryz.prog 62 #[va, vb] w fun e w' => e = .returned (.bool (eqB x y)) ∧ Ext w w' := by
  obtain ⟨ao, ca, ba, oa, h1, hla, hma, pa, ha⟩ := Rep.slmap rx
  obtain ⟨bo, cb, bb, ob, h2, hlb, hmb, pb, hb⟩ := Rep.slmap ry
  simp only [List.cons.injEq, and_true] at h1 h2
  subst h1 h2
  clear rx ry
  unfold maxLen at hma hmb
  have HA := Lib.hid ha
  have HB := Lib.hid hb
  clear ha hb
  by_cases hlen : x.length = y.length
  rotate_left
  · have hne : ((x.length : Int) != (y.length : Int)) = true := by simp; omega
    have HL := Lib.hid hlen; clear hlen
    go_enter Tryz.func62, Tryz.ntmps62
    go_wp2_with fail
    go_ret
    exact ⟨ret_ff fun h => HL.out (by rw [h]), Ext.refl _⟩
  have hne : ((x.length : Int) != (y.length : Int)) = false := by simp [hlen]
  have HL := Lib.hid hlen; clear hlen
  go_enter Tryz.func62, Tryz.ntmps62
  go_wp2_with fail
  go_loopw [5] (fun i wr => ∃ k : Nat, k ≤ x.length ∧ i = .int .i64 k ∧ Ext w wr ∧ Hid (∀ j, j < k → x[j]? = y[j]?)) (fun i _ => x.length - (intOf i).toNat)
  case atStart => exact ⟨0, Nat.zero_le _, rfl, Ext.refl _, Lib.hid fun j hj => by omega⟩
  case round =>
    obtain ⟨k, hk, rfl, hx, heq⟩ := hrel
    by_cases hlt : k < x.length
    rotate_left
    · go_wp2_with fail
      go_ret
      have hl := HL.out
      obtain rfl : k = x.length := by omega
      refine ⟨ret_tt ?_, hx⟩
      exact List.ext_getElem? fun j => by
        by_cases hj : j < x.length
        · exact heq.out j hj
        · simp [List.getElem?_eq_none_iff.2 (show x.length ≤ j by omega), List.getElem?_eq_none_iff.2 (show y.length ≤ j by omega)]
    have hltb : k < y.length := by have := HL.out; omega
    obtain rfl := pa (by omega)
    obtain rfl := pb (by omega)
    obtain ⟨e, he⟩ : ∃ e, e = x[k] := ⟨_, rfl⟩
    have hej : x[k]? = some e := by rw [he]; simp [hlt]
    clear he
    obtain ⟨g, hg⟩ : ∃ g, g = y[k] := ⟨_, rfl⟩
    have hgj : y[k]? = some g := by rw [hg]; simp [hltb]
    clear hg
    obtain ⟨es, les, ces, res⟩ := HA.out k e hej
    obtain ⟨ae, ce, rfl, rfe⟩ := MClassInfo.op_en res
    obtain ⟨gs, lgs, cgs, rgs⟩ := HB.out k g hgj
    obtain ⟨ag, cg, rfl, rfg⟩ := MClassInfo.op_en rgs
    have s0 : wr.cell? ⟨ba, oa + k * 3, none⟩ = some _ := hx.cell (show w.cell? _ = _ from ces 0 (by omega))
    have s1 : wr.cell? ⟨ba, oa + k * 3 + 1, none⟩ = some _ := hx.cell (show w.cell? _ = _ from ces 1 (by omega))
    have s2 : wr.cell? ⟨ba, oa + k * 3 + 2, none⟩ = some _ := hx.cell (show w.cell? _ = _ from ces 2 (by omega))
    have t0 : wr.cell? ⟨bb, ob + k * 3, none⟩ = some _ := hx.cell (show w.cell? _ = _ from cgs 0 (by omega))
    have t1 : wr.cell? ⟨bb, ob + k * 3 + 1, none⟩ = some _ := hx.cell (show w.cell? _ = _ from cgs 1 (by omega))
    have t2 : wr.cell? ⟨bb, ob + k * 3 + 2, none⟩ = some _ := hx.cell (show w.cell? _ = _ from cgs 2 (by omega))
    have RFE := Lib.hid (Rep.ext hx rfe)
    have RFG := Lib.hid (Rep.ext hx rfg)
    have NE : Hid (¬ e = g → ¬ x = y) := Lib.hid fun h h2 => h (by subst h2; rw [hej] at hgj; injection hgj)
    have EQ : Hid (e = g → ∀ j, j < k + 1 → x[j]? = y[j]?) := Lib.hid fun h j hj => by
      by_cases h2 : j < k
      · exact heq.out j h2
      · obtain rfl : j = k := by omega
        rw [hej, hgj, h]
    have hki : (k : Int) < x.length := by omega
    have hkj : (k : Int) < y.length := by omega
    clear les ces res lgs cgs rgs rfe rfg hej hgj heq
    have HX := Lib.hid hx
    clear hx
    obtain ⟨nm, par, fs⟩ := e
    obtain ⟨gm, gar, gs⟩ := g
    simp only at s0 s1 s2 t0 t1 t2 RFE RFG
    have CT : Hid (∀ W, Ext wr W → Calls Tryz.prog 110 #[.slice ae fs.length ce, .slice ag gs.length cg] W fun e w' => e = .returned (.bool (eqB fs gs)) ∧ Ext W w') := Lib.hid fun W h => l3Texts_any _ _ _ _ _ (Rep.ext h RFE.out) (Rep.ext h RFG.out)
    have g0 := reg (Ext.refl _) s0
    have g1 := reg (Ext.refl _) s1
    have g2 := reg (Ext.refl _) s2
    have r0 := reg (Ext.refl _) t0
    have r1 := reg (Ext.refl _) t1
    have r2 := reg (Ext.refl _) t2
    go_wp2_with fail
    by_cases e1 : nm = gm
    rotate_left
    · have u1 := str_nen e1
      have E1 := Lib.hid e1; clear e1
      refine wp_region_quiet_below (by kernel_rfl) (by kernel_rfl) ?_
      repeat (go_big_quiet_step (fail))
      refine wpQuiet_nil ?_
      clear g0 g1 g2 r0 r1 r2
      intro _ hw'
      obtain ⟨pw, hw''⟩ := hw'
      subst hw''
      go_wp2_with fail
      go_ret
      exact ⟨ret_ff (NE.out fun h => E1.out (ci_inj.1 h).1), HX.out.trans (regx _ _)⟩
    have u1 := str_eqn e1
    have E1 := Lib.hid e1; clear e1
    by_cases e2 : par = gar
    rotate_left
    · have u2 := int_nen e2
      have E2 := Lib.hid e2; clear e2
      refine wp_region_quiet_below (by kernel_rfl) (by kernel_rfl) ?_
      repeat (go_big_quiet_step (fail))
      refine wpQuiet_nil ?_
      clear g0 g1 g2 r0 r1 r2
      intro _ hw'
      obtain ⟨pw, hw''⟩ := hw'
      subst hw''
      go_wp2_with fail
      go_ret
      exact ⟨ret_ff (NE.out fun h => E2.out (ci_inj.1 h).2.1), HX.out.trans (regx _ _)⟩
    have u2 := int_eqn e2
    have E2 := Lib.hid e2; clear e2
    cases e3 : eqB fs gs
    · have E3 : Hid (¬ fs = gs) := Lib.hid (fun h => by have := eqB_tt h; rw [e3] at this; cases this)
      rw [e3] at CT
      clear e3
      refine wp_region_quiet_below (by kernel_rfl) (by kernel_rfl) ?_
      repeat (go_big_quiet_step ((go_at_call 110; exact Calls.regrown_of (CT.out _ (below_regrown _ _ _)))))
      refine wpQuiet_nil ?_
      clear g0 g1 g2 r0 r1 r2
      intro _ hw'
      obtain ⟨pw, hw''⟩ := hw'
      subst hw''
      go_wp2_with fail
      go_ret
      exact ⟨ret_ff (NE.out fun h => E3.out (ci_inj.1 h).2.2), HX.out.trans (regx _ _)⟩
    have E3 := Lib.hid (eqB_iff.1 e3)
    rw [e3] at CT
    clear e3
    have HQ := Lib.hid (EQ.out (ci_inj.2 ⟨E1.out, E2.out, E3.out⟩))
    refine wp_region_quiet_below (by kernel_rfl) (by kernel_rfl) ?_
    repeat (go_big_quiet_step ((go_at_call 110; exact Calls.regrown_of (CT.out _ (below_regrown _ _ _)))))
    refine wpQuiet_nil ?_
    clear g0 g1 g2 r0 r1 r2
    intro _ hw'
    obtain ⟨pw, hw''⟩ := hw'
    subst hw''
    go_wp2_with fail
    go_roundw
    case rel => exact ⟨k + 1, by omega, by go_num, HX.out.trans (regx _ _), HQ⟩
    case measure => simp [intOf]; omega

/-- What is found for a value. -/
noncomputable def rfV (x : MSystem) (s : MStore) (v : MValue) (sel : ByteArray) : Int := if v.kind = 5 then findV x true sel v.number else findV x false sel (clsV s.objects v)
noncomputable def routV (x : MSystem) (s : MStore) (v : MValue) (sel : ByteArray) : Int := if prB (SysP x) = true ∧ storeB 1000 s = true ∧ eqB x.classes s.classes = true ∧ fitB s.classes.length s.objects.length 1000 v = true then rfV x s v sel else -1
theorem routV_no {x : MSystem} {s : MStore} {v : MValue} {sel : ByteArray} (h : ¬ (prB (SysP x) = true ∧ storeB 1000 s = true ∧ eqB x.classes s.classes = true ∧ fitB s.classes.length s.objects.length 1000 v = true)) : (-1 : Int) = routV x s v sel := by unfold routV; rw [if_neg h]
theorem routV_yes {x : MSystem} {s : MStore} {v : MValue} {sel : ByteArray} (h : prB (SysP x) = true ∧ storeB 1000 s = true ∧ eqB x.classes s.classes = true ∧ fitB s.classes.length s.objects.length 1000 v = true) : rfV x s v sel = routV x s v sel := by unfold routV; rw [if_pos h]
theorem cls_in {s : MStore} {v : MValue} (hs : StoreOk 1000 s) (hf : FitP s.classes.length s.objects.length 1000 v) (h5 : v.kind ≠ 5) : 0 ≤ clsV s.objects v ∧ clsV s.objects v < s.classes.length := by
  have h16 := hs.1.1.1
  by_cases h6 : v.kind = 6
  · obtain ⟨m, hm, hlt⟩ := num_fit hf h6
    have ho := hs.2.2.2.2.2.2 s.objects[m] (List.getElem_mem hlt)
    have hv : clsV s.objects v = s.objects[m].cls := by
      unfold clsV
      rw [if_pos h6, hm]
      simp [List.getD, hlt]
    rw [hv]
    rcases ho.2 with h | h | h <;> omega
  · unfold clsV
    rw [if_neg h6]
    rcases kinds_fit hf with h | h | h | h | h | h | h | h
    · rw [h]; simp; omega
    · rw [h]; simp; omega
    · rw [h]; simp; omega
    · rw [h]; simp; omega
    · rw [h]; simp; omega
    · exact absurd h h5
    · exact absurd h h6
    · rw [h]; simp; omega
theorem num5 {nc no : Nat} {bk : Int} {v : MValue} (h : FitP nc no bk v) (h5 : v.kind = 5) : 0 ≤ v.number ∧ v.number < nc := by
  have h1 := h.2.1 h5
  have h0 : 0 ≤ v.number := by rcases h.1 with h | h | h | h | h | h <;> omega
  exact ⟨h0, h1⟩
theorem findRoutine_v (x : MSystem) (cx : List Value) (k : Int) (cls : Bool) (sel : ByteArray) (w : World) (rx : Rep w x.d cx) (hok : ClsOk x.classes) (hn : x.routines.length ≤ 96) (hk0 : 0 ≤ k) (hk1 : k < x.classes.length) :
    Calls Tryz.prog 57 #[.agg cx.toArray, .int .i64 k, .bool cls, .string sel] w fun e w' => e = .returned (.int .i64 (findV x cls sel k)) ∧ Ext w w' :=
  (findRoutine_any x cx k cls sel w rx hok hn hk0 hk1).mono fun e w' ⟨⟨v, he, hv⟩, hx⟩ => ⟨by rw [he, findV_eq hv], hx⟩
theorem l12Lookup_v (x : MSystem) (B : Nat) (ac : Option Addr) (cc : Nat) (ar : Option Addr) (cr : Nat) (k : Int) (cls : Bool) (sel : ByteArray) (w : World) (m0 : w.cell? ⟨B, 0, none⟩ = some (.slice ac x.classes.length cc)) (m1 : w.cell? ⟨B, 1, none⟩ = some (.slice ar x.routines.length cr)) (rc : Rep w (MClassInfos x.classes) [.slice ac x.classes.length cc]) (rr : Rep w (MRoutines x.routines) [.slice ar x.routines.length cr]) (hok : ClsOk x.classes) (hk0 : 0 ≤ k) (hk1 : k < x.classes.length) :
    Calls Tryz.prog 56 #[.pointer (some ⟨B, 0, none⟩), .int .i64 k, .bool cls, .string sel] w fun e w' => e = .returned (.int .i64 (findV x cls sel k)) ∧ Ext w w' :=
  (l12Lookup_any x B ac cc ar cr k cls sel w m0 m1 rc rr hok hk0 hk1).mono fun e w' ⟨⟨v, he, hv⟩, hx⟩ => ⟨by rw [he, findV_eq hv], hx⟩

set_option maxHeartbeats 4000000 in
set_option maxRecDepth 100000 in
theorem routineFor_any (x : MSystem) (s : MStore) (v : MValue) (sel : ByteArray) (ac : Option Addr) (cc : Nat) (ar : Option Addr) (cr : Nat) (am : Option Addr) (cm : Nat) (ad : Option Addr) (cd : Nat) (ao : Option Addr) (co : Nat) (au : Option Addr) (cu : Nat) (w : World) (rx : Rep w x.d [.slice ac x.classes.length cc, .slice ar x.routines.length cr, .string x.main.selector, .int .i64 x.main.owner, .bool x.main.cls, .int .i64 x.main.params, .int .i64 x.main.slots, .int .i64 x.main.body.kind, .string x.main.body.text, .int .i64 x.main.body.number, .int .i64 x.main.body.depth, .slice am x.main.body.kids.length cm]) (rb : Rep w (MObjects s.objects) [.slice ao s.objects.length co]) (hok : ClsOk x.classes) (hn : x.routines.length ≤ 96) (hs : StoreOk 1000 s) (he : x.classes = s.classes) (hf : FitP s.classes.length s.objects.length 1000 v) :
    Calls Tryz.prog 69 #[.agg #[.slice ac x.classes.length cc, .slice ar x.routines.length cr, .string x.main.selector, .int .i64 x.main.owner, .bool x.main.cls, .int .i64 x.main.params, .int .i64 x.main.slots, .int .i64 x.main.body.kind, .string x.main.body.text, .int .i64 x.main.body.number, .int .i64 x.main.body.depth, .slice am x.main.body.kids.length cm], .agg #[.slice ad s.classes.length cd, .slice ao s.objects.length co, .slice au s.output.length cu, .int .i64 s.ticks, .int .i64 s.budget, .int .i64 s.made], .agg #[.int .i64 v.kind, .int .i64 v.number, .string v.text], .string sel] w fun e w' => e = .returned (.int .i64 (rfV x s v sel)) ∧ Ext w w' := by
  have RX := Lib.hid rx
  have RB := Lib.hid rb
  have HOK := Lib.hid hok
  have HS := Lib.hid hs
  have HE := Lib.hid he
  have HF := Lib.hid hf
  clear rx rb hok hs he hf
  go_enter Tryz.func69, Tryz.ntmps69
  go_upto_region 1 with fail
  generalize hS : World.alloc (World.alloc (World.alloc w _) _) _ = W1
  have x1 : Ext w W1 := by rw [← hS]; exact (((Ext.refl _).alloc _).alloc _).alloc _
  have O1 : Own W1 w.heap.size 41 #[.slice ac x.classes.length cc, .slice ar x.routines.length cr, .string x.main.selector, .int .i64 x.main.owner, .bool x.main.cls, .int .i64 x.main.params, .int .i64 x.main.slots, .int .i64 x.main.body.kind, .string x.main.body.text, .int .i64 x.main.body.number, .int .i64 x.main.body.depth, .slice am x.main.body.kids.length cm] := by rw [← hS]; exact (own_new w _ _).ext (((Ext.refl _).alloc _).alloc _)
  have O2 : Own W1 (w.heap.size + 1) 58 #[.slice ad s.classes.length cd, .slice ao s.objects.length co, .slice au s.output.length cu, .int .i64 s.ticks, .int .i64 s.budget, .int .i64 s.made] := by rw [← hS]; exact (own_new2 w _ _ _).ext ((Ext.refl _).alloc _)
  have O3 : Own W1 (w.heap.size + 1 + 1) 60 #[.int .i64 v.kind, .int .i64 v.number, .string v.text] := by rw [← hS]; exact own_new3 w _ _ _ _
  have m0 : W1.cell? ⟨w.heap.size, 0, none⟩ = some (.slice ac x.classes.length cc) := by rw [O1.cell]; rfl
  have m1 : W1.cell? ⟨w.heap.size, 1, none⟩ = some (.slice ar x.routines.length cr) := by rw [O1.cell]; rfl
  have m2 : W1.cell? ⟨w.heap.size, 2, none⟩ = some (.string x.main.selector) := by rw [O1.cell]; rfl
  have m3 : W1.cell? ⟨w.heap.size, 3, none⟩ = some (.int .i64 x.main.owner) := by rw [O1.cell]; rfl
  have m4 : W1.cell? ⟨w.heap.size, 4, none⟩ = some (.bool x.main.cls) := by rw [O1.cell]; rfl
  have m5 : W1.cell? ⟨w.heap.size, 5, none⟩ = some (.int .i64 x.main.params) := by rw [O1.cell]; rfl
  have m6 : W1.cell? ⟨w.heap.size, 6, none⟩ = some (.int .i64 x.main.slots) := by rw [O1.cell]; rfl
  have m7 : W1.cell? ⟨w.heap.size, 7, none⟩ = some (.int .i64 x.main.body.kind) := by rw [O1.cell]; rfl
  have m8 : W1.cell? ⟨w.heap.size, 8, none⟩ = some (.string x.main.body.text) := by rw [O1.cell]; rfl
  have m9 : W1.cell? ⟨w.heap.size, 9, none⟩ = some (.int .i64 x.main.body.number) := by rw [O1.cell]; rfl
  have m10 : W1.cell? ⟨w.heap.size, 10, none⟩ = some (.int .i64 x.main.body.depth) := by rw [O1.cell]; rfl
  have m11 : W1.cell? ⟨w.heap.size, 11, none⟩ = some (.slice am x.main.body.kids.length cm) := by rw [O1.cell]; rfl
  have n0 : W1.cell? ⟨w.heap.size + 1, 0, none⟩ = some (.slice ad s.classes.length cd) := by rw [O2.cell]; rfl
  have n1 : W1.cell? ⟨w.heap.size + 1, 1, none⟩ = some (.slice ao s.objects.length co) := by rw [O2.cell]; rfl
  have n2 : W1.cell? ⟨w.heap.size + 1, 2, none⟩ = some (.slice au s.output.length cu) := by rw [O2.cell]; rfl
  have n3 : W1.cell? ⟨w.heap.size + 1, 3, none⟩ = some (.int .i64 s.ticks) := by rw [O2.cell]; rfl
  have n4 : W1.cell? ⟨w.heap.size + 1, 4, none⟩ = some (.int .i64 s.budget) := by rw [O2.cell]; rfl
  have n5 : W1.cell? ⟨w.heap.size + 1, 5, none⟩ = some (.int .i64 s.made) := by rw [O2.cell]; rfl
  have k0 : W1.cell? ⟨w.heap.size + 1 + 1, 0, none⟩ = some (.int .i64 v.kind) := by rw [O3.cell]; rfl
  have k1 : W1.cell? ⟨w.heap.size + 1 + 1, 1, none⟩ = some (.int .i64 v.number) := by rw [O3.cell]; rfl
  have k2 : W1.cell? ⟨w.heap.size + 1 + 1, 2, none⟩ = some (.string v.text) := by rw [O3.cell]; rfl
  clear hS O1 O2 O3
  by_cases h5 : v.kind = 5
  · have HV : Hid (findV x true sel v.number = rfV x s v sel) := Lib.hid (by unfold rfV; rw [if_pos h5])
    have HN := Lib.hid (num5 HF.out h5)
    have t5 := int_eq h5
    clear h5
    go_wp2_with fail
    refine (findRoutine_v x _ v.number true sel _ (Rep.ext x1 RX.out) HOK.out hn HN.out.1 (by rw [HE.out]; exact HN.out.2)).mono ?_
    rintro e w2 ⟨rfl, hx2⟩
    go_wp2_with fail
    go_ret
    exact ⟨retI HV.out, x1.trans hx2⟩
  · have HV : Hid (findV x false sel (clsV s.objects v) = rfV x s v sel) := Lib.hid (by unfold rfV; rw [if_neg h5])
    have HN := Lib.hid (cls_in HS.out HF.out h5)
    have t5 := int_ne h5
    clear h5
    go_wp2_with fail
    have CC : Hid (∀ W, Ext W1 W → Calls Tryz.prog 135 #[.agg #[.slice ad s.classes.length cd, .slice ao s.objects.length co, .slice au s.output.length cu, .int .i64 s.ticks, .int .i64 s.budget, .int .i64 s.made], .agg #[.int .i64 v.kind, .int .i64 v.number, .string v.text]] W fun e w' => e = .returned (.int .i64 (clsV s.objects v)) ∧ Ext W w') := Lib.hid fun W h => classOf_any s v ad cd ao co au cu W (Rep.ext (x1.trans h) RB.out) HF.out
    have CF : Hid (∀ W, Ext W1 W → Calls Tryz.prog 57 #[.agg #[.slice ac x.classes.length cc, .slice ar x.routines.length cr, .string x.main.selector, .int .i64 x.main.owner, .bool x.main.cls, .int .i64 x.main.params, .int .i64 x.main.slots, .int .i64 x.main.body.kind, .string x.main.body.text, .int .i64 x.main.body.number, .int .i64 x.main.body.depth, .slice am x.main.body.kids.length cm], .int .i64 (clsV s.objects v), .bool false, .string sel] W fun e w' => e = .returned (.int .i64 (findV x false sel (clsV s.objects v))) ∧ Ext W w') := Lib.hid fun W h => findRoutine_v x _ _ false sel W (Rep.ext (x1.trans h) RX.out) HOK.out hn HN.out.1 (by rw [HE.out]; exact HN.out.2)
    have gm0 := reg (Ext.refl _) m0
    have gm1 := reg (Ext.refl _) m1
    have gm2 := reg (Ext.refl _) m2
    have gm3 := reg (Ext.refl _) m3
    have gm4 := reg (Ext.refl _) m4
    have gm5 := reg (Ext.refl _) m5
    have gm6 := reg (Ext.refl _) m6
    have gm7 := reg (Ext.refl _) m7
    have gm8 := reg (Ext.refl _) m8
    have gm9 := reg (Ext.refl _) m9
    have gm10 := reg (Ext.refl _) m10
    have gm11 := reg (Ext.refl _) m11
    have gn0 := reg (Ext.refl _) n0
    have gn1 := reg (Ext.refl _) n1
    have gn2 := reg (Ext.refl _) n2
    have gn3 := reg (Ext.refl _) n3
    have gn4 := reg (Ext.refl _) n4
    have gn5 := reg (Ext.refl _) n5
    have gk0 := reg (Ext.refl _) k0
    have gk1 := reg (Ext.refl _) k1
    have gk2 := reg (Ext.refl _) k2
    refine wp_region_quiet_below (by kernel_rfl) (by kernel_rfl) ?_
    repeat (go_big_quiet_step ((first | (go_at_call 135; exact Calls.regrown_of (CC.out _ (below_regrown _ _ _))) | (go_at_call 57; exact Calls.regrown_of (CF.out _ (below_regrown _ _ _))))))
    refine wpQuiet_nil ?_
    clear gm0 gm1 gm2 gm3 gm4 gm5 gm6 gm7 gm8 gm9 gm10 gm11 gn0 gn1 gn2 gn3 gn4 gn5 gk0 gk1 gk2
    intro _ hw'
    obtain ⟨pw, hw''⟩ := hw'
    subst hw''
    go_wp2_with fail
    go_ret
    exact ⟨retI HV.out, x1.trans (regx _ _)⟩

set_option maxHeartbeats 4000000 in
set_option maxRecDepth 100000 in
theorem l12For_any (x : MSystem) (s : MStore) (v : MValue) (sel : ByteArray) (B B2 : Nat) (ac : Option Addr) (cc : Nat) (ar : Option Addr) (cr : Nat) (ao : Option Addr) (co : Nat) (w : World) (m0 : w.cell? ⟨B, 0, none⟩ = some (.slice ac x.classes.length cc)) (m1 : w.cell? ⟨B, 1, none⟩ = some (.slice ar x.routines.length cr)) (n1 : w.cell? ⟨B2, 1, none⟩ = some (.slice ao s.objects.length co)) (rc : Rep w (MClassInfos x.classes) [.slice ac x.classes.length cc]) (rr : Rep w (MRoutines x.routines) [.slice ar x.routines.length cr]) (rb : Rep w (MObjects s.objects) [.slice ao s.objects.length co]) (hok : ClsOk x.classes) (hs : StoreOk 1000 s) (he : x.classes = s.classes) (hf : FitP s.classes.length s.objects.length 1000 v) :
    Calls Tryz.prog 63 #[.pointer (some ⟨B, 0, none⟩), .pointer (some ⟨B2, 0, none⟩), .agg #[.int .i64 v.kind, .int .i64 v.number, .string v.text], .string sel] w fun e w' => e = .returned (.int .i64 (rfV x s v sel)) ∧ Ext w w' := by
  have RC := Lib.hid rc
  have RR := Lib.hid rr
  have RB := Lib.hid rb
  have HOK := Lib.hid hok
  have HS := Lib.hid hs
  have HE := Lib.hid he
  have HF := Lib.hid hf
  clear rc rr rb hok hs he hf
  go_enter Tryz.func63, Tryz.ntmps63
  go_upto_region 1 with fail
  generalize hS : World.alloc w _ = W1
  have x1 : Ext w W1 := by rw [← hS]; exact (Ext.refl _).alloc _
  have k0 : W1.cell? ⟨w.heap.size, 0, none⟩ = some (.int .i64 v.kind) := by rw [← hS]; simp
  have k1 : W1.cell? ⟨w.heap.size, 1, none⟩ = some (.int .i64 v.number) := by rw [← hS]; simp
  have k2 : W1.cell? ⟨w.heap.size, 2, none⟩ = some (.string v.text) := by rw [← hS]; simp
  clear hS
  replace m0 := Ext.cell x1 m0
  replace m1 := Ext.cell x1 m1
  replace n1 := Ext.cell x1 n1
  by_cases h5 : v.kind = 5
  · have HV : Hid (findV x true sel v.number = rfV x s v sel) := Lib.hid (by unfold rfV; rw [if_pos h5])
    have HN := Lib.hid (num5 HF.out h5)
    have t5 := int_eq h5
    clear h5
    go_wp2_with fail
    refine (l12Lookup_v x B ac cc ar cr v.number true sel _ m0 m1 (Rep.ext x1 RC.out) (Rep.ext x1 RR.out) HOK.out HN.out.1 (by rw [HE.out]; exact HN.out.2)).mono ?_
    rintro e w2 ⟨rfl, hx2⟩
    go_wp2_with fail
    go_ret
    exact ⟨retI HV.out, x1.trans hx2⟩
  · have HV : Hid (findV x false sel (clsV s.objects v) = rfV x s v sel) := Lib.hid (by unfold rfV; rw [if_neg h5])
    have HN := Lib.hid (cls_in HS.out HF.out h5)
    have t5 := int_ne h5
    clear h5
    go_wp2_with fail
    refine (l9Class_any s v B2 ao co _ n1 (Rep.ext x1 RB.out) HF.out).mono ?_
    rintro e w2 ⟨rfl, hx2⟩
    replace m0 := Ext.cell hx2 m0
    replace m1 := Ext.cell hx2 m1
    go_wp2_with fail
    refine (l12Lookup_v x B ac cc ar cr _ false sel _ m0 m1 (Rep.ext (x1.trans hx2) RC.out) (Rep.ext (x1.trans hx2) RR.out) HOK.out HN.out.1 (by rw [HE.out]; exact HN.out.2)).mono ?_
    rintro e w3 ⟨rfl, hx3⟩
    go_wp2_with fail
    go_ret
    exact ⟨retI HV.out, (x1.trans hx2).trans hx3⟩

set_option maxHeartbeats 4000000 in
set_option maxRecDepth 100000 in
theorem impl_RoutineFor_any (x : MSystem) (s : MStore) (v : MValue) (sel : ByteArray) (cx cs cv : List Value) (w : World) (rx : Rep w x.d cx) (rs : Rep w s.d cs) (rv : Rep w v.d cv) (hzx : SysSz x) (hzs : StoreSz s) (hzv : v.text.size ≤ 1048576) (hM : MaxOk w) :
    Calls Tryz.prog 21 #[.agg cx.toArray, .agg cs.toArray, .agg cv.toArray, .string sel] w fun e w' => e = .returned (.int .i64 (routV x s v sel)) ∧ Ext w w' := by
  have RX := Lib.hid rx
  have RS := Lib.hid rs
  have RV := Lib.hid rv
  have HZX := Lib.hid hzx
  have HZS := Lib.hid hzs
  clear hzx hzs
  obtain ⟨ac, cc, ar, cr, am, cm, rfl, rc, rr, -, rm⟩ := MSystem.op_en rx
  obtain ⟨ad, cd, ao, co, au, cu, rfl, rcd, rob, ru⟩ := MStore.op_en rs
  have hcv := MValue.op_en rv
  subst hcv
  have RC := Lib.hid rc
  have RR := Lib.hid rr
  have RD := Lib.hid rcd
  have RO := Lib.hid rob
  have RU := Lib.hid ru
  clear rx rs rv rc rr rm rcd rob ru
  go_enter Tryz.func21, Tryz.ntmps21
  go_upto_region 1 with fail
  generalize hS : World.alloc (World.alloc (World.alloc w _) _) _ = W1
  have x1 : Ext w W1 := by rw [← hS]; exact (((Ext.refl _).alloc _).alloc _).alloc _
  have O1 : Own W1 w.heap.size 41 #[.slice ac x.classes.length cc, .slice ar x.routines.length cr, .string x.main.selector, .int .i64 x.main.owner, .bool x.main.cls, .int .i64 x.main.params, .int .i64 x.main.slots, .int .i64 x.main.body.kind, .string x.main.body.text, .int .i64 x.main.body.number, .int .i64 x.main.body.depth, .slice am x.main.body.kids.length cm] := by rw [← hS]; exact (own_new w _ _).ext (((Ext.refl _).alloc _).alloc _)
  have O2 : Own W1 (w.heap.size + 1) 58 #[.slice ad s.classes.length cd, .slice ao s.objects.length co, .slice au s.output.length cu, .int .i64 s.ticks, .int .i64 s.budget, .int .i64 s.made] := by rw [← hS]; exact (own_new2 w _ _ _).ext ((Ext.refl _).alloc _)
  have O3 : Own W1 (w.heap.size + 1 + 1) 60 #[.int .i64 v.kind, .int .i64 v.number, .string v.text] := by rw [← hS]; exact own_new3 w _ _ _ _
  have m0 : W1.cell? ⟨w.heap.size, 0, none⟩ = some (.slice ac x.classes.length cc) := by rw [O1.cell]; rfl
  have m1 : W1.cell? ⟨w.heap.size, 1, none⟩ = some (.slice ar x.routines.length cr) := by rw [O1.cell]; rfl
  have m2 : W1.cell? ⟨w.heap.size, 2, none⟩ = some (.string x.main.selector) := by rw [O1.cell]; rfl
  have m3 : W1.cell? ⟨w.heap.size, 3, none⟩ = some (.int .i64 x.main.owner) := by rw [O1.cell]; rfl
  have m4 : W1.cell? ⟨w.heap.size, 4, none⟩ = some (.bool x.main.cls) := by rw [O1.cell]; rfl
  have m5 : W1.cell? ⟨w.heap.size, 5, none⟩ = some (.int .i64 x.main.params) := by rw [O1.cell]; rfl
  have m6 : W1.cell? ⟨w.heap.size, 6, none⟩ = some (.int .i64 x.main.slots) := by rw [O1.cell]; rfl
  have m7 : W1.cell? ⟨w.heap.size, 7, none⟩ = some (.int .i64 x.main.body.kind) := by rw [O1.cell]; rfl
  have m8 : W1.cell? ⟨w.heap.size, 8, none⟩ = some (.string x.main.body.text) := by rw [O1.cell]; rfl
  have m9 : W1.cell? ⟨w.heap.size, 9, none⟩ = some (.int .i64 x.main.body.number) := by rw [O1.cell]; rfl
  have m10 : W1.cell? ⟨w.heap.size, 10, none⟩ = some (.int .i64 x.main.body.depth) := by rw [O1.cell]; rfl
  have m11 : W1.cell? ⟨w.heap.size, 11, none⟩ = some (.slice am x.main.body.kids.length cm) := by rw [O1.cell]; rfl
  have n0 : W1.cell? ⟨w.heap.size + 1, 0, none⟩ = some (.slice ad s.classes.length cd) := by rw [O2.cell]; rfl
  have n1 : W1.cell? ⟨w.heap.size + 1, 1, none⟩ = some (.slice ao s.objects.length co) := by rw [O2.cell]; rfl
  have n2 : W1.cell? ⟨w.heap.size + 1, 2, none⟩ = some (.slice au s.output.length cu) := by rw [O2.cell]; rfl
  have n3 : W1.cell? ⟨w.heap.size + 1, 3, none⟩ = some (.int .i64 s.ticks) := by rw [O2.cell]; rfl
  have n4 : W1.cell? ⟨w.heap.size + 1, 4, none⟩ = some (.int .i64 s.budget) := by rw [O2.cell]; rfl
  have n5 : W1.cell? ⟨w.heap.size + 1, 5, none⟩ = some (.int .i64 s.made) := by rw [O2.cell]; rfl
  have k0 : W1.cell? ⟨w.heap.size + 1 + 1, 0, none⟩ = some (.int .i64 v.kind) := by rw [O3.cell]; rfl
  have k1 : W1.cell? ⟨w.heap.size + 1 + 1, 1, none⟩ = some (.int .i64 v.number) := by rw [O3.cell]; rfl
  have k2 : W1.cell? ⟨w.heap.size + 1 + 1, 2, none⟩ = some (.string v.text) := by rw [O3.cell]; rfl
  clear hS O1 O2 O3
  go_wp2_with fail
  refine (impl_IsSystem_any x _ _ (Rep.ext x1 RX.out) HZX.out (hM.ext x1)).mono ?_
  rintro e w2 ⟨rfl, hx2⟩
  replace m0 := Ext.cell hx2 m0
  replace m1 := Ext.cell hx2 m1
  replace m2 := Ext.cell hx2 m2
  replace m3 := Ext.cell hx2 m3
  replace m4 := Ext.cell hx2 m4
  replace m5 := Ext.cell hx2 m5
  replace m6 := Ext.cell hx2 m6
  replace m7 := Ext.cell hx2 m7
  replace m8 := Ext.cell hx2 m8
  replace m9 := Ext.cell hx2 m9
  replace m10 := Ext.cell hx2 m10
  replace m11 := Ext.cell hx2 m11
  replace n0 := Ext.cell hx2 n0
  replace n1 := Ext.cell hx2 n1
  replace n2 := Ext.cell hx2 n2
  replace n3 := Ext.cell hx2 n3
  replace n4 := Ext.cell hx2 n4
  replace n5 := Ext.cell hx2 n5
  replace k0 := Ext.cell hx2 k0
  replace k1 := Ext.cell hx2 k1
  replace k2 := Ext.cell hx2 k2
  have e2 := x1.trans hx2
  clear hx2
  cases g0 : prB (SysP x)
  · have HV := Lib.hid (routV_no (sel := sel) (x := x) (s := s) (v := v) (fun h => by have := h.1; rw [g0] at this; cases this))
    clear g0
    go_wp2_with fail
    go_ret
    exact ⟨retI HV.out, e2⟩
  have G0 := Lib.hid g0; clear g0
  go_wp2_with fail
  refine (storeOk_any s _ 1000 _ (Rep.ext e2 RS.out) HZS.out (hM.ext e2)).mono ?_
  rintro e w3 ⟨rfl, hx3⟩
  replace m0 := Ext.cell hx3 m0
  replace m1 := Ext.cell hx3 m1
  replace m2 := Ext.cell hx3 m2
  replace m3 := Ext.cell hx3 m3
  replace m4 := Ext.cell hx3 m4
  replace m5 := Ext.cell hx3 m5
  replace m6 := Ext.cell hx3 m6
  replace m7 := Ext.cell hx3 m7
  replace m8 := Ext.cell hx3 m8
  replace m9 := Ext.cell hx3 m9
  replace m10 := Ext.cell hx3 m10
  replace m11 := Ext.cell hx3 m11
  replace n0 := Ext.cell hx3 n0
  replace n1 := Ext.cell hx3 n1
  replace n2 := Ext.cell hx3 n2
  replace n3 := Ext.cell hx3 n3
  replace n4 := Ext.cell hx3 n4
  replace n5 := Ext.cell hx3 n5
  replace k0 := Ext.cell hx3 k0
  replace k1 := Ext.cell hx3 k1
  replace k2 := Ext.cell hx3 k2
  have e3 := e2.trans hx3
  clear hx3
  cases g1 : storeB 1000 s
  · have HV := Lib.hid (routV_no (sel := sel) (x := x) (s := s) (v := v) (fun h => by have := h.2.1; rw [g1] at this; cases this))
    clear g1
    go_wp2_with fail
    go_ret
    exact ⟨retI HV.out, e3⟩
  have G1 := Lib.hid g1; clear g1
  go_wp2_with fail
  refine (sameClasses_any x.classes s.classes _ _ _ (Rep.ext e3 RC.out) (Rep.ext e3 RD.out)).mono ?_
  rintro e w4 ⟨rfl, hx4⟩
  replace m0 := Ext.cell hx4 m0
  replace m1 := Ext.cell hx4 m1
  replace m2 := Ext.cell hx4 m2
  replace m3 := Ext.cell hx4 m3
  replace m4 := Ext.cell hx4 m4
  replace m5 := Ext.cell hx4 m5
  replace m6 := Ext.cell hx4 m6
  replace m7 := Ext.cell hx4 m7
  replace m8 := Ext.cell hx4 m8
  replace m9 := Ext.cell hx4 m9
  replace m10 := Ext.cell hx4 m10
  replace m11 := Ext.cell hx4 m11
  replace n0 := Ext.cell hx4 n0
  replace n1 := Ext.cell hx4 n1
  replace n2 := Ext.cell hx4 n2
  replace n3 := Ext.cell hx4 n3
  replace n4 := Ext.cell hx4 n4
  replace n5 := Ext.cell hx4 n5
  replace k0 := Ext.cell hx4 k0
  replace k1 := Ext.cell hx4 k1
  replace k2 := Ext.cell hx4 k2
  have e4 := e3.trans hx4
  clear hx4
  cases g2 : eqB x.classes s.classes
  · have HV := Lib.hid (routV_no (sel := sel) (x := x) (s := s) (v := v) (fun h => by have := h.2.2.1; rw [g2] at this; cases this))
    clear g2
    go_wp2_with fail
    go_ret
    exact ⟨retI HV.out, e4⟩
  have G2 := Lib.hid g2; clear g2
  go_wp2_with fail
  refine (exists_any v _ _ _ _ _ _ _ _ _ _ _ _ _ 1000 _ (Rep.ext e4 RV.out) hzv (hM.ext e4)).mono ?_
  rintro e w5 ⟨rfl, hx5⟩
  replace m0 := Ext.cell hx5 m0
  replace m1 := Ext.cell hx5 m1
  replace m2 := Ext.cell hx5 m2
  replace m3 := Ext.cell hx5 m3
  replace m4 := Ext.cell hx5 m4
  replace m5 := Ext.cell hx5 m5
  replace m6 := Ext.cell hx5 m6
  replace m7 := Ext.cell hx5 m7
  replace m8 := Ext.cell hx5 m8
  replace m9 := Ext.cell hx5 m9
  replace m10 := Ext.cell hx5 m10
  replace m11 := Ext.cell hx5 m11
  replace n0 := Ext.cell hx5 n0
  replace n1 := Ext.cell hx5 n1
  replace n2 := Ext.cell hx5 n2
  replace n3 := Ext.cell hx5 n3
  replace n4 := Ext.cell hx5 n4
  replace n5 := Ext.cell hx5 n5
  replace k0 := Ext.cell hx5 k0
  replace k1 := Ext.cell hx5 k1
  replace k2 := Ext.cell hx5 k2
  have e5 := e4.trans hx5
  clear hx5
  cases g3 : fitB s.classes.length s.objects.length 1000 v
  · have HV := Lib.hid (routV_no (sel := sel) (x := x) (s := s) (v := v) (fun h => by have := h.2.2.2; rw [g3] at this; cases this))
    clear g3
    go_wp2_with fail
    go_ret
    exact ⟨retI HV.out, e5⟩
  have G3 := Lib.hid g3; clear g3
  have HV := Lib.hid (routV_yes (sel := sel) ⟨G0.out, G1.out, G2.out, G3.out⟩)
  have HP := prB_iff.1 G0.out
  have HOK := Lib.hid (clsB_iff.1 HP.1)
  have hn := HP.2.2.2.1
  clear HP
  go_wp2_with fail
  refine (routineFor_any x s v sel _ _ _ _ _ _ _ _ _ _ _ _ _ (Rep.ext e5 RX.out) (Rep.ext e5 RO.out) HOK.out hn (storeB_iff.1 G1.out) (eqB_iff.1 G2.out) (fitB_iff.1 G3.out)).mono ?_
  rintro e w6 ⟨rfl, hx6⟩
  go_wp2_with fail
  go_ret
  exact ⟨retI HV.out, e5.trans hx6⟩

set_option maxHeartbeats 4000000 in
set_option maxRecDepth 100000 in
theorem spec_RoutineFor_any (x : MSystem) (s : MStore) (v : MValue) (sel : ByteArray) (cx cs cv : List Value) (w : World) (rx : Rep w x.d cx) (rs : Rep w s.d cs) (rv : Rep w v.d cv) (hzx : SysSz x) (hzs : StoreSz s) (hzv : v.text.size ≤ 1048576) :
    Calls Tryz.prog 18 #[.agg cx.toArray, .agg cs.toArray, .agg cv.toArray, .string sel] w fun e w' => e = .returned (.int .i64 (routV x s v sel)) ∧ Ext w w' := by
  have RX := Lib.hid rx
  have RS := Lib.hid rs
  have RV := Lib.hid rv
  have HZX := Lib.hid hzx
  have HZS := Lib.hid hzs
  clear hzx hzs
  obtain ⟨ac, cc, ar, cr, am, cm, rfl, rc, rr, -, rm⟩ := MSystem.op_en rx
  obtain ⟨ad, cd, ao, co, au, cu, rfl, rcd, rob, ru⟩ := MStore.op_en rs
  have hcv := MValue.op_en rv
  subst hcv
  have RC := Lib.hid rc
  have RR := Lib.hid rr
  have RD := Lib.hid rcd
  have RO := Lib.hid rob
  have RU := Lib.hid ru
  clear rx rs rv rc rr rm rcd rob ru
  go_enter Tryz.func18, Tryz.ntmps18
  go_upto_region 1 with fail
  generalize hS : World.alloc (World.alloc (World.alloc w _) _) _ = W1
  have x1 : Ext w W1 := by rw [← hS]; exact (((Ext.refl _).alloc _).alloc _).alloc _
  have O1 : Own W1 w.heap.size 41 #[.slice ac x.classes.length cc, .slice ar x.routines.length cr, .string x.main.selector, .int .i64 x.main.owner, .bool x.main.cls, .int .i64 x.main.params, .int .i64 x.main.slots, .int .i64 x.main.body.kind, .string x.main.body.text, .int .i64 x.main.body.number, .int .i64 x.main.body.depth, .slice am x.main.body.kids.length cm] := by rw [← hS]; exact (own_new w _ _).ext (((Ext.refl _).alloc _).alloc _)
  have O2 : Own W1 (w.heap.size + 1) 58 #[.slice ad s.classes.length cd, .slice ao s.objects.length co, .slice au s.output.length cu, .int .i64 s.ticks, .int .i64 s.budget, .int .i64 s.made] := by rw [← hS]; exact (own_new2 w _ _ _).ext ((Ext.refl _).alloc _)
  have O3 : Own W1 (w.heap.size + 1 + 1) 60 #[.int .i64 v.kind, .int .i64 v.number, .string v.text] := by rw [← hS]; exact own_new3 w _ _ _ _
  have m0 : W1.cell? ⟨w.heap.size, 0, none⟩ = some (.slice ac x.classes.length cc) := by rw [O1.cell]; rfl
  have m1 : W1.cell? ⟨w.heap.size, 1, none⟩ = some (.slice ar x.routines.length cr) := by rw [O1.cell]; rfl
  have m2 : W1.cell? ⟨w.heap.size, 2, none⟩ = some (.string x.main.selector) := by rw [O1.cell]; rfl
  have m3 : W1.cell? ⟨w.heap.size, 3, none⟩ = some (.int .i64 x.main.owner) := by rw [O1.cell]; rfl
  have m4 : W1.cell? ⟨w.heap.size, 4, none⟩ = some (.bool x.main.cls) := by rw [O1.cell]; rfl
  have m5 : W1.cell? ⟨w.heap.size, 5, none⟩ = some (.int .i64 x.main.params) := by rw [O1.cell]; rfl
  have m6 : W1.cell? ⟨w.heap.size, 6, none⟩ = some (.int .i64 x.main.slots) := by rw [O1.cell]; rfl
  have m7 : W1.cell? ⟨w.heap.size, 7, none⟩ = some (.int .i64 x.main.body.kind) := by rw [O1.cell]; rfl
  have m8 : W1.cell? ⟨w.heap.size, 8, none⟩ = some (.string x.main.body.text) := by rw [O1.cell]; rfl
  have m9 : W1.cell? ⟨w.heap.size, 9, none⟩ = some (.int .i64 x.main.body.number) := by rw [O1.cell]; rfl
  have m10 : W1.cell? ⟨w.heap.size, 10, none⟩ = some (.int .i64 x.main.body.depth) := by rw [O1.cell]; rfl
  have m11 : W1.cell? ⟨w.heap.size, 11, none⟩ = some (.slice am x.main.body.kids.length cm) := by rw [O1.cell]; rfl
  have n0 : W1.cell? ⟨w.heap.size + 1, 0, none⟩ = some (.slice ad s.classes.length cd) := by rw [O2.cell]; rfl
  have n1 : W1.cell? ⟨w.heap.size + 1, 1, none⟩ = some (.slice ao s.objects.length co) := by rw [O2.cell]; rfl
  have n2 : W1.cell? ⟨w.heap.size + 1, 2, none⟩ = some (.slice au s.output.length cu) := by rw [O2.cell]; rfl
  have n3 : W1.cell? ⟨w.heap.size + 1, 3, none⟩ = some (.int .i64 s.ticks) := by rw [O2.cell]; rfl
  have n4 : W1.cell? ⟨w.heap.size + 1, 4, none⟩ = some (.int .i64 s.budget) := by rw [O2.cell]; rfl
  have n5 : W1.cell? ⟨w.heap.size + 1, 5, none⟩ = some (.int .i64 s.made) := by rw [O2.cell]; rfl
  have k0 : W1.cell? ⟨w.heap.size + 1 + 1, 0, none⟩ = some (.int .i64 v.kind) := by rw [O3.cell]; rfl
  have k1 : W1.cell? ⟨w.heap.size + 1 + 1, 1, none⟩ = some (.int .i64 v.number) := by rw [O3.cell]; rfl
  have k2 : W1.cell? ⟨w.heap.size + 1 + 1, 2, none⟩ = some (.string v.text) := by rw [O3.cell]; rfl
  clear hS O1 O2 O3
  go_wp2_with fail
  refine (spec_IsSystem_any x _ _ (Rep.ext x1 RX.out) HZX.out).mono ?_
  rintro e w2 ⟨rfl, hx2⟩
  replace m0 := Ext.cell hx2 m0
  replace m1 := Ext.cell hx2 m1
  replace m2 := Ext.cell hx2 m2
  replace m3 := Ext.cell hx2 m3
  replace m4 := Ext.cell hx2 m4
  replace m5 := Ext.cell hx2 m5
  replace m6 := Ext.cell hx2 m6
  replace m7 := Ext.cell hx2 m7
  replace m8 := Ext.cell hx2 m8
  replace m9 := Ext.cell hx2 m9
  replace m10 := Ext.cell hx2 m10
  replace m11 := Ext.cell hx2 m11
  replace n0 := Ext.cell hx2 n0
  replace n1 := Ext.cell hx2 n1
  replace n2 := Ext.cell hx2 n2
  replace n3 := Ext.cell hx2 n3
  replace n4 := Ext.cell hx2 n4
  replace n5 := Ext.cell hx2 n5
  replace k0 := Ext.cell hx2 k0
  replace k1 := Ext.cell hx2 k1
  replace k2 := Ext.cell hx2 k2
  have e2 := x1.trans hx2
  clear hx2
  cases g0 : prB (SysP x)
  · have HV := Lib.hid (routV_no (sel := sel) (x := x) (s := s) (v := v) (fun h => by have := h.1; rw [g0] at this; cases this))
    clear g0
    go_wp2_with fail
    go_ret
    exact ⟨retI HV.out, e2⟩
  have G0 := Lib.hid g0; clear g0
  go_wp2_with fail
  refine (l9IsStore_any s (w.heap.size + 1) _ _ _ _ _ _ 1000 _ (Rep.ext e2 RD.out) (Rep.ext e2 RO.out) (Rep.ext e2 RU.out) n0 n1 n2 n3 n4 n5 HZS.out).mono ?_
  rintro e w3 ⟨rfl, hx3⟩
  replace m0 := Ext.cell hx3 m0
  replace m1 := Ext.cell hx3 m1
  replace m2 := Ext.cell hx3 m2
  replace m3 := Ext.cell hx3 m3
  replace m4 := Ext.cell hx3 m4
  replace m5 := Ext.cell hx3 m5
  replace m6 := Ext.cell hx3 m6
  replace m7 := Ext.cell hx3 m7
  replace m8 := Ext.cell hx3 m8
  replace m9 := Ext.cell hx3 m9
  replace m10 := Ext.cell hx3 m10
  replace m11 := Ext.cell hx3 m11
  replace n0 := Ext.cell hx3 n0
  replace n1 := Ext.cell hx3 n1
  replace n2 := Ext.cell hx3 n2
  replace n3 := Ext.cell hx3 n3
  replace n4 := Ext.cell hx3 n4
  replace n5 := Ext.cell hx3 n5
  replace k0 := Ext.cell hx3 k0
  replace k1 := Ext.cell hx3 k1
  replace k2 := Ext.cell hx3 k2
  have e3 := e2.trans hx3
  clear hx3
  cases g1 : storeB 1000 s
  · have HV := Lib.hid (routV_no (sel := sel) (x := x) (s := s) (v := v) (fun h => by have := h.2.1; rw [g1] at this; cases this))
    clear g1
    go_wp2_with fail
    go_ret
    exact ⟨retI HV.out, e3⟩
  have G1 := Lib.hid g1; clear g1
  go_wp2_with fail
  refine (l9Fits_any v _ (w.heap.size + 1) _ _ _ _ _ _ 1000 _ (Rep.ext e3 RV.out) hzv n0 n1).mono ?_
  rintro e w4 ⟨rfl, hx4⟩
  replace m0 := Ext.cell hx4 m0
  replace m1 := Ext.cell hx4 m1
  replace m2 := Ext.cell hx4 m2
  replace m3 := Ext.cell hx4 m3
  replace m4 := Ext.cell hx4 m4
  replace m5 := Ext.cell hx4 m5
  replace m6 := Ext.cell hx4 m6
  replace m7 := Ext.cell hx4 m7
  replace m8 := Ext.cell hx4 m8
  replace m9 := Ext.cell hx4 m9
  replace m10 := Ext.cell hx4 m10
  replace m11 := Ext.cell hx4 m11
  replace n0 := Ext.cell hx4 n0
  replace n1 := Ext.cell hx4 n1
  replace n2 := Ext.cell hx4 n2
  replace n3 := Ext.cell hx4 n3
  replace n4 := Ext.cell hx4 n4
  replace n5 := Ext.cell hx4 n5
  replace k0 := Ext.cell hx4 k0
  replace k1 := Ext.cell hx4 k1
  replace k2 := Ext.cell hx4 k2
  have e4 := e3.trans hx4
  clear hx4
  cases g3 : fitB s.classes.length s.objects.length 1000 v
  · have HV := Lib.hid (routV_no (sel := sel) (x := x) (s := s) (v := v) (fun h => by have := h.2.2.2; rw [g3] at this; cases this))
    clear g3
    go_wp2_with fail
    go_ret
    exact ⟨retI HV.out, e4⟩
  have G3 := Lib.hid g3; clear g3
  go_wp2_with fail
  refine (l12Same_any x.classes s.classes _ _ _ (Rep.ext e4 RC.out) (Rep.ext e4 RD.out)).mono ?_
  rintro e w5 ⟨rfl, hx5⟩
  replace m0 := Ext.cell hx5 m0
  replace m1 := Ext.cell hx5 m1
  replace m2 := Ext.cell hx5 m2
  replace m3 := Ext.cell hx5 m3
  replace m4 := Ext.cell hx5 m4
  replace m5 := Ext.cell hx5 m5
  replace m6 := Ext.cell hx5 m6
  replace m7 := Ext.cell hx5 m7
  replace m8 := Ext.cell hx5 m8
  replace m9 := Ext.cell hx5 m9
  replace m10 := Ext.cell hx5 m10
  replace m11 := Ext.cell hx5 m11
  replace n0 := Ext.cell hx5 n0
  replace n1 := Ext.cell hx5 n1
  replace n2 := Ext.cell hx5 n2
  replace n3 := Ext.cell hx5 n3
  replace n4 := Ext.cell hx5 n4
  replace n5 := Ext.cell hx5 n5
  replace k0 := Ext.cell hx5 k0
  replace k1 := Ext.cell hx5 k1
  replace k2 := Ext.cell hx5 k2
  have e5 := e4.trans hx5
  clear hx5
  cases g2 : eqB x.classes s.classes
  · have HV := Lib.hid (routV_no (sel := sel) (x := x) (s := s) (v := v) (fun h => by have := h.2.2.1; rw [g2] at this; cases this))
    clear g2
    go_wp2_with fail
    go_ret
    exact ⟨retI HV.out, e5⟩
  have G2 := Lib.hid g2; clear g2
  have HV := Lib.hid (routV_yes (sel := sel) ⟨G0.out, G1.out, G2.out, G3.out⟩)
  have HP := prB_iff.1 G0.out
  have HOK := Lib.hid (clsB_iff.1 HP.1)
  have hn := HP.2.2.2.1
  clear HP
  go_wp2_with fail
  refine (l12For_any x s v sel w.heap.size (w.heap.size + 1) _ _ _ _ _ _ _ m0 m1 n1 (Rep.ext e5 RC.out) (Rep.ext e5 RR.out) (Rep.ext e5 RO.out) HOK.out (storeB_iff.1 G1.out) (eqB_iff.1 G2.out) (fitB_iff.1 G3.out)).mono ?_
  rintro e w6 ⟨rfl, hx6⟩
  go_wp2_with fail
  go_ret
  exact ⟨retI HV.out, e5.trans hx6⟩

end Go.Proofs.YtdngmifgglbbpaaGreatDoor
