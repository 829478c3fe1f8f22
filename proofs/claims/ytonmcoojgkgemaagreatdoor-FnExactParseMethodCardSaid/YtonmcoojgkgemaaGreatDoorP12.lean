/-
  SEVERAL TEXTS IN ONE: CONTRACTS: the readings of the marks; CONTRACTS: the readings of the marks, of structs; CONTRACTS: l3Block, l5Body, blockOf, EqualMethods.
  Conditions: those that each lemma states.
-/
import Derived.Test.YtonmcoojgkgemaaGreatDoorRows
import Derived.Deep.RegionHeld3
import Derived.Deep.RegionHeldLaw
import Derived.Test.YtonmcoojgkgemaaGreatDoorP11
import Derived.Test.YtonmcoojgkgemaaGreatDoorP02
import Derived.Test.YtonmcoojgkgemaaGreatDoorAcc
namespace Go.Proofs.YtonmcoojgkgemaaGreatDoor
open Go.RowKit
set_option linter.unusedSimpArgs false
set_option linter.unusedVariables false


theorem heldStrings_p (l : List ByteArray) (v : Value) (k0 : Int) (w : World) (hr : Rep w (mkD k0 (strs l)) [v]) (h0 : 0 ≤ k0) (h1 : k0 + (strs l).cnt ≤ 1099511627776) : Calls Tryz.prog 33 #[v, .int .i64 k0] w (fun e w' => e = .returned (.int .i64 (k0 + (strs l).cnt)) ∧ Ext w w') := by
  have e1 : (strs l).cnt = l.length := by simp [strs, D.cnt, D.cntL_strs]
  have e2 : mkD k0 (strs l) = strs (markL k0 l.length) := by simp [strs, mkD, mkL_strs]
  rw [e1] at h1 ⊢
  rw [e2] at hr
  exact heldStringS_any l.length v k0 w hr h0 h1


theorem MExpr.mk_op {w : World} {x : MExpr} {K : Int} {cs : List Value} (h : Rep w (mkD K x.d) cs) : ∃ a0 c0 a1 c1, cs = [.int .i64 (K), .string (mtext (K + 1)), .int .i64 (K + 2), .slice a0 x.names.length c0, .slice a1 x.kids.length c1] ∧ Rep w (mkD (K + 3) (strs x.names)) [.slice a0 x.names.length c0] ∧ Rep w (mkD (K + 3 + ((strs x.names).cnt : Int)) (MExprs x.kids)) [.slice a1 x.kids.length c1] := by
  obtain ⟨fp, h⟩ := h
  rw [MExpr.mk_eq] at h
  have h0 := RepF.un_st h
  obtain ⟨_, rfl, h1⟩ := RepS.un_int h0
  obtain ⟨_, rfl, h2⟩ := RepS.un_str h1
  obtain ⟨_, rfl, h3⟩ := RepS.un_int h2
  obtain ⟨a3, c3, _, f3, g3, rfl, rfl, s3, h4⟩ := RepS.un_sl (by first | exact h3 | (simp only [strs, ints, mkD] at h3; exact h3) | exact (show RepS w (.sl _ _ :: _) _ _ from h3))
  obtain ⟨a4, c4, _, f4, g4, rfl, rfl, s4, h5⟩ := RepS.un_sl (by first | exact h4 | (simp only [strs, ints, mkD] at h4; exact h4) | exact (show RepS w (.sl _ _ :: _) _ _ from h4))
  simp only [RepS] at h5
  obtain ⟨rfl, rfl⟩ := h5
  simp only [mkL_length, List.length_map] at s3
  simp only [mkL_length, List.length_map] at s4
  refine ⟨a3, c3, a4, c4, by simp [mkL_length], ⟨_, s3⟩, ⟨_, s4⟩⟩


set_option maxRecDepth 100000 in
set_option maxHeartbeats 4000000 in
theorem heldExprS_n : ∀ (n : Nat) (l : List MExpr), (MExprs l).cnt < n → ∀ (v : Value) (k0 : Int) (w : World), Rep w (mkD k0 (MExprs l)) [v] → 0 ≤ k0 → k0 + (MExprs l).cnt ≤ 1099511627776 → Calls Tryz.prog 34 #[v, .int .i64 k0] w (fun e w' => e = .returned (.int .i64 (k0 + (MExprs l).cnt)) ∧ Ext w w') := by
  intro n
  induction n with
  | zero => intro l h; exact absurd h (Nat.not_lt_zero _)
  | succ n ih =>
  intro l hn v k0 w hr h0 h1
  have IH := Lib.hid ih
  obtain ⟨ao, ca, ba, oa, e1, hla, hma, pa, ha⟩ := Rep.sl (show Rep w (.sl 5 (mkL k0 (l.map MExpr.d))) [v] from hr)
  simp only [List.cons.injEq, and_true] at e1
  subst e1
  clear hr
  rw [mkL_length, List.length_map] at hla pa ⊢
  unfold maxLen at hma
  have HB := Lib.hid h1
  clear h1
  go_enter Tryz.func34, Tryz.ntmps34
  go_wp2_with fail
  go_loopw [1, 5] (fun kv iv wr => ∃ i : Nat, i ≤ l.length ∧ iv = .int .i64 i ∧ kv = .int .i64 (k0 + (D.cntL ((l.take i).map MExpr.d) : Int)) ∧ Ext w wr) (fun _ iv _ => l.length - (intOf iv).toNat)
  case atStart => exact ⟨0, Nat.zero_le _, rfl, by simp [D.cntL], Ext.refl _⟩
  case round =>
    obtain ⟨i, hi, rfl, rfl, hx⟩ := hrel
    by_cases hlt : i < l.length
    rotate_left
    · obtain rfl : i = l.length := by omega
      go_wp2_with fail
      go_ret
      exact ⟨ret_int (by rw [List.take_length]; rfl), hx⟩
    obtain rfl := pa (by omega)
    obtain ⟨x, hxl⟩ : ∃ x, l[i]? = some x := ⟨l[i], by simp [hlt]⟩
    obtain ⟨ea, la, cc, ra⟩ := ha i _ (mkL_get k0 _ i x.d (by simp [hxl]))
    rw [← List.map_take] at ra
    obtain ⟨hc1, hc2⟩ := cnt_at (f := MExpr.d) hxl
    have hc3 := MExpr.cnt_eq x
    obtain ⟨K, hKe⟩ : ∃ K : Int, k0 + (D.cntL ((l.take i).map MExpr.d) : Int) = K := ⟨_, rfl⟩
    rw [hKe] at ra ⊢
    have hK0 : 0 ≤ K := by omega
    have hcb : K + 3 + ((strs x.names).cnt : Int) + ((MExprs x.kids).cnt : Int) ≤ 1099511627776 := by have := HB.out; simp only [MExprs, D.cnt] at this; omega
    have hn1 : (MExprs x.kids).cnt < n := by simp only [MExprs, D.cnt] at hn hc3 hc2 ⊢; omega
    have HNX : Hid (k0 + (D.cntL ((l.take (i + 1)).map MExpr.d) : Int) = K + 3 + ((strs x.names).cnt : Int) + ((MExprs x.kids).cnt : Int)) := Lib.hid (by rw [hc1, ← hKe, hc3]; push_cast; omega)
    obtain ⟨a0, c0, a1, c1, rfl, s0, s1⟩ := MExpr.mk_op ra
    have q0 : wr.cell? ⟨ba, oa + i * 5, none⟩ = some (.int .i64 (K)) := hx.cell (show w.cell? ⟨ba, oa + i * 5, none⟩ = some _ from cc 0 (by omega))
    have q1 : wr.cell? ⟨ba, oa + i * 5 + 1, none⟩ = some (.string (mtext (K + 1))) := hx.cell (show w.cell? ⟨ba, oa + i * 5 + 1, none⟩ = some _ from cc 1 (by omega))
    have q2 : wr.cell? ⟨ba, oa + i * 5 + 2, none⟩ = some (.int .i64 (K + 2)) := hx.cell (show w.cell? ⟨ba, oa + i * 5 + 2, none⟩ = some _ from cc 2 (by omega))
    have q3 : wr.cell? ⟨ba, oa + i * 5 + 3, none⟩ = some (.slice a0 x.names.length c0) := hx.cell (show w.cell? ⟨ba, oa + i * 5 + 3, none⟩ = some _ from cc 3 (by omega))
    have q4 : wr.cell? ⟨ba, oa + i * 5 + 4, none⟩ = some (.slice a1 x.kids.length c1) := hx.cell (show w.cell? ⟨ba, oa + i * 5 + 4, none⟩ = some _ from cc 4 (by omega))
    have S0 := Lib.hid s0
    have S1 := Lib.hid s1
    clear ha pa la cc ra hc1 hc2 hc3 hKe hxl s0 s1
    have HX := Lib.hid hx
    clear hx
    have t0 := int_eqn (rfl : K = K)
    have t1 := str_eqn (congrArg mtext (show K + 1 = K + 1 by omega))
    go_wp2_with fail
    have g1 := reg (Ext.refl _) q1
    refine wp_region_quiet_below (by kernel_rfl) (by kernel_rfl) ?_
    repeat (quiet_step (exact Calls.regrown_of (markText_any _ _ (by omega) (by omega))))
    refine wpQuiet_nil ?_
    clear g1
    intro _ hw'
    obtain ⟨pw, hw''⟩ := hw'
    subst hw''
    have X1 := regx wr pw
    generalize hW2 : «Sort».grow (redrawn wr pw.d) pw.os = w1 at *
    clear hW2
    replace q0 := X1.cell q0
    replace q1 := X1.cell q1
    replace q2 := X1.cell q2
    replace q3 := X1.cell q3
    replace q4 := X1.cell q4
    have t2 := int_eqn (rfl : K + 2 = K + 2)
    go_wp2_with fail
    refine (heldStrings_p x.names _ _ _ ?_ ?_ ?_).mono ?_
    · have h := Rep.ext ((HX.out).trans X1) S0.out
      simp only [Int.add_assoc, Int.reduceAdd] at h ⊢
      exact h
    · omega
    · omega
    rintro e w2 ⟨rfl, y2⟩
    replace q0 := y2.cell q0
    replace q1 := y2.cell q1
    replace q2 := y2.cell q2
    replace q3 := y2.cell q3
    replace q4 := y2.cell q4
    have p0 : ¬ (K + 1 + 1 + 1 + ((strs x.names).cnt : Int) < 0) := by omega
    have p0b : ¬ (K + 3 + ((strs x.names).cnt : Int) < 0) := by omega
    go_wp2_with fail
    refine (IH.out x.kids hn1 _ _ _ ?_ ?_ ?_).mono ?_
    · have h := Rep.ext (((HX.out).trans X1).trans y2) S1.out
      simp only [Int.add_assoc, Int.reduceAdd] at h ⊢
      exact h
    · omega
    · omega
    rintro e w3 ⟨rfl, y3⟩
    replace q0 := y3.cell q0
    replace q1 := y3.cell q1
    replace q2 := y3.cell q2
    replace q3 := y3.cell q3
    replace q4 := y3.cell q4
    have p1 : ¬ (K + 1 + 1 + 1 + ((strs x.names).cnt : Int) + ((MExprs x.kids).cnt : Int) < 0) := by omega
    have p1b : ¬ (K + 3 + ((strs x.names).cnt : Int) + ((MExprs x.kids).cnt : Int) < 0) := by omega
    have EX := Lib.hid ((((HX.out).trans X1).trans y2).trans y3)
    go_wp2_with fail
    go_roundw
    case rel => exact ⟨i + 1, by omega, by go_num, by rw [HNX.out]; congr 1; omega, EX.out⟩
    case measure => simp [intOf]; omega
theorem heldExprS_any (l : List MExpr) : ∀ (v : Value) (k0 : Int) (w : World), Rep w (mkD k0 (MExprs l)) [v] → 0 ≤ k0 → k0 + (MExprs l).cnt ≤ 1099511627776 → Calls Tryz.prog 34 #[v, .int .i64 k0] w (fun e w' => e = .returned (.int .i64 (k0 + (MExprs l).cnt)) ∧ Ext w w') := heldExprS_n _ l (Nat.lt_succ_self _)

theorem MMethod.mk_op {w : World} {x : MMethod} {K : Int} {cs : List Value} (h : Rep w (mkD K x.d) cs) : ∃ a0 c0 a1 c1 a2 c2, cs = [.string (mtext (K)), .bool ((K + 1) % 3 == 0), .slice a0 x.params.length c0, .slice a1 x.temps.length c1, .slice a2 x.body.length c2] ∧ Rep w (mkD (K + 2) (strs x.params)) [.slice a0 x.params.length c0] ∧ Rep w (mkD (K + 2 + ((strs x.params).cnt : Int)) (strs x.temps)) [.slice a1 x.temps.length c1] ∧ Rep w (mkD (K + 2 + ((strs x.params).cnt : Int) + ((strs x.temps).cnt : Int)) (MExprs x.body)) [.slice a2 x.body.length c2] := by
  obtain ⟨fp, h⟩ := h
  rw [MMethod.mk_eq] at h
  have h0 := RepF.un_st h
  obtain ⟨_, rfl, h1⟩ := RepS.un_str h0
  obtain ⟨_, rfl, h2⟩ := RepS.un_bool h1
  obtain ⟨a2, c2, _, f2, g2, rfl, rfl, s2, h3⟩ := RepS.un_sl (by first | exact h2 | (simp only [strs, ints, mkD] at h2; exact h2) | exact (show RepS w (.sl _ _ :: _) _ _ from h2))
  obtain ⟨a3, c3, _, f3, g3, rfl, rfl, s3, h4⟩ := RepS.un_sl (by first | exact h3 | (simp only [strs, ints, mkD] at h3; exact h3) | exact (show RepS w (.sl _ _ :: _) _ _ from h3))
  obtain ⟨a4, c4, _, f4, g4, rfl, rfl, s4, h5⟩ := RepS.un_sl (by first | exact h4 | (simp only [strs, ints, mkD] at h4; exact h4) | exact (show RepS w (.sl _ _ :: _) _ _ from h4))
  simp only [RepS] at h5
  obtain ⟨rfl, rfl⟩ := h5
  simp only [mkL_length, List.length_map] at s2
  simp only [mkL_length, List.length_map] at s3
  simp only [mkL_length, List.length_map] at s4
  refine ⟨a2, c2, a3, c3, a4, c4, by simp [mkL_length], ⟨_, s2⟩, ⟨_, s3⟩, ⟨_, s4⟩⟩


theorem MClassDef.mk_op {w : World} {x : MClassDef} {K : Int} {cs : List Value} (h : Rep w (mkD K x.d) cs) : ∃ a0 c0 a1 c1, cs = [.string (mtext (K)), .string (mtext (K + 1)), .slice a0 x.fields.length c0, .slice a1 x.methods.length c1] ∧ Rep w (mkD (K + 2) (strs x.fields)) [.slice a0 x.fields.length c0] ∧ Rep w (mkD (K + 2 + ((strs x.fields).cnt : Int)) (MMethods x.methods)) [.slice a1 x.methods.length c1] := by
  obtain ⟨fp, h⟩ := h
  rw [MClassDef.mk_eq] at h
  have h0 := RepF.un_st h
  obtain ⟨_, rfl, h1⟩ := RepS.un_str h0
  obtain ⟨_, rfl, h2⟩ := RepS.un_str h1
  obtain ⟨a2, c2, _, f2, g2, rfl, rfl, s2, h3⟩ := RepS.un_sl (by first | exact h2 | (simp only [strs, ints, mkD] at h2; exact h2) | exact (show RepS w (.sl _ _ :: _) _ _ from h2))
  obtain ⟨a3, c3, _, f3, g3, rfl, rfl, s3, h4⟩ := RepS.un_sl (by first | exact h3 | (simp only [strs, ints, mkD] at h3; exact h3) | exact (show RepS w (.sl _ _ :: _) _ _ from h3))
  simp only [RepS] at h4
  obtain ⟨rfl, rfl⟩ := h4
  simp only [mkL_length, List.length_map] at s2
  simp only [mkL_length, List.length_map] at s3
  refine ⟨a2, c2, a3, c3, by simp [mkL_length], ⟨_, s2⟩, ⟨_, s3⟩⟩


open Go.RowKit
set_option linter.unusedSimpArgs false
set_option linter.unusedVariables false


theorem MExpr.mt_op {w : World} {x : MExpr} {K : Int} {cs : List Value} (h : Rep w (mtD K x.d) cs) : ∃ a0 c0 a1 c1, cs = [.int .i64 x.kind, .string x.text, .int .i64 x.number, .slice a0 x.names.length c0, .slice a1 x.kids.length c1] ∧ Rep w (mkD (K) (strs x.names)) [.slice a0 x.names.length c0] ∧ Rep w (mkD (K + ((strs x.names).cnt : Int)) (MExprs x.kids)) [.slice a1 x.kids.length c1] := by
  obtain ⟨fp, h⟩ := h
  rw [MExpr.mt_eq] at h
  have h0 := RepF.un_st h
  obtain ⟨_, rfl, h1⟩ := RepS.un_int h0
  obtain ⟨_, rfl, h2⟩ := RepS.un_str h1
  obtain ⟨_, rfl, h3⟩ := RepS.un_int h2
  obtain ⟨a3, c3, _, f3, g3, rfl, rfl, s3, h4⟩ := RepS.un_sl (show RepS w (.sl _ _ :: _) _ _ from h3)
  simp only [mkL_length, List.length_map] at s3
  obtain ⟨a4, c4, _, f4, g4, rfl, rfl, s4, h5⟩ := RepS.un_sl (show RepS w (.sl _ _ :: _) _ _ from h4)
  simp only [mkL_length, List.length_map] at s4
  simp only [RepS] at h5
  obtain ⟨rfl, rfl⟩ := h5
  exact ⟨a3, c3, a4, c4, by simp [mkL_length], ⟨_, s3⟩, ⟨_, s4⟩⟩


theorem MMethod.mt_op {w : World} {x : MMethod} {K : Int} {cs : List Value} (h : Rep w (mtD K x.d) cs) : ∃ a0 c0 a1 c1 a2 c2, cs = [.string x.selector, .bool x.cls, .slice a0 x.params.length c0, .slice a1 x.temps.length c1, .slice a2 x.body.length c2] ∧ Rep w (mkD (K) (strs x.params)) [.slice a0 x.params.length c0] ∧ Rep w (mkD (K + ((strs x.params).cnt : Int)) (strs x.temps)) [.slice a1 x.temps.length c1] ∧ Rep w (mkD (K + ((strs x.params).cnt : Int) + ((strs x.temps).cnt : Int)) (MExprs x.body)) [.slice a2 x.body.length c2] := by
  obtain ⟨fp, h⟩ := h
  rw [MMethod.mt_eq] at h
  have h0 := RepF.un_st h
  obtain ⟨_, rfl, h1⟩ := RepS.un_str h0
  obtain ⟨_, rfl, h2⟩ := RepS.un_bool h1
  obtain ⟨a2, c2, _, f2, g2, rfl, rfl, s2, h3⟩ := RepS.un_sl (show RepS w (.sl _ _ :: _) _ _ from h2)
  simp only [mkL_length, List.length_map] at s2
  obtain ⟨a3, c3, _, f3, g3, rfl, rfl, s3, h4⟩ := RepS.un_sl (show RepS w (.sl _ _ :: _) _ _ from h3)
  simp only [mkL_length, List.length_map] at s3
  obtain ⟨a4, c4, _, f4, g4, rfl, rfl, s4, h5⟩ := RepS.un_sl (show RepS w (.sl _ _ :: _) _ _ from h4)
  simp only [mkL_length, List.length_map] at s4
  simp only [RepS] at h5
  obtain ⟨rfl, rfl⟩ := h5
  exact ⟨a2, c2, a3, c3, a4, c4, by simp [mkL_length], ⟨_, s2⟩, ⟨_, s3⟩, ⟨_, s4⟩⟩


set_option maxRecDepth 100000 in
set_option maxHeartbeats 4000000 in
theorem heldMethod_any (x : MMethod) (cx : List Value) (K : Int) (w : World) (hr : Rep w (mtD K x.d) cx) (h0 : 0 ≤ K) (h1 : K + x.d.tcnt ≤ 1099511627776) :
    Calls Tryz.prog 15 #[.agg cx.toArray, .int .i64 K] w (fun e w' => e = .returned (.int .i64 (K + x.d.tcnt)) ∧ Ext w w') := by
  have hc := MMethod.tcnt_eq x
  rw [hc] at h1 ⊢
  clear hc
  obtain ⟨a0, c0, a1, c1, a2, c2, rfl, r0, r1, r2⟩ := MMethod.mt_op hr
  clear hr
  go_enter Tryz.func15, Tryz.ntmps15
  go_upto_region 1 with fail
  generalize hS : World.alloc w _ = W0
  have x0 : Ext w W0 := by rw [← hS]; exact (Ext.refl _).alloc _
  have m0 : W0.cell? ⟨w.heap.size, 0, none⟩ = some (.string x.selector) := by rw [← hS]; simp
  have m1 : W0.cell? ⟨w.heap.size, 1, none⟩ = some (.bool x.cls) := by rw [← hS]; simp
  have m2 : W0.cell? ⟨w.heap.size, 2, none⟩ = some (.slice a0 x.params.length c0) := by rw [← hS]; simp
  have m3 : W0.cell? ⟨w.heap.size, 3, none⟩ = some (.slice a1 x.temps.length c1) := by rw [← hS]; simp
  have m4 : W0.cell? ⟨w.heap.size, 4, none⟩ = some (.slice a2 x.body.length c2) := by rw [← hS]; simp
  clear hS
  have R0 := Lib.hid r0; clear r0
  have R1 := Lib.hid r1; clear r1
  have R2 := Lib.hid r2; clear r2
  go_wp2_with fail
  refine (heldStrings_p x.params _ _ _ (Rep.ext (x0) R0.out) (by omega) (by omega)).mono ?_
  rintro e w0 ⟨rfl, y0⟩
  replace m0 := y0.cell m0
  replace m1 := y0.cell m1
  replace m2 := y0.cell m2
  replace m3 := y0.cell m3
  replace m4 := y0.cell m4
  have p0 : ¬ (K + ((strs x.params).cnt : Int) < 0) := by omega
  go_wp2_with fail
  refine (heldStrings_p x.temps _ _ _ (Rep.ext ((x0).trans y0) R1.out) (by omega) (by omega)).mono ?_
  rintro e w1 ⟨rfl, y1⟩
  replace m0 := y1.cell m0
  replace m1 := y1.cell m1
  replace m2 := y1.cell m2
  replace m3 := y1.cell m3
  replace m4 := y1.cell m4
  have p1 : ¬ (K + ((strs x.params).cnt : Int) + ((strs x.temps).cnt : Int) < 0) := by omega
  go_wp2_with fail
  refine (heldExprS_any x.body _ _ _ (Rep.ext (((x0).trans y0).trans y1) R2.out) (by omega) (by omega)).mono ?_
  rintro e w2 ⟨rfl, y2⟩
  replace m0 := y2.cell m0
  replace m1 := y2.cell m1
  replace m2 := y2.cell m2
  replace m3 := y2.cell m3
  replace m4 := y2.cell m4
  have p2 : ¬ (K + ((strs x.params).cnt : Int) + ((strs x.temps).cnt : Int) + ((MExprs x.body).cnt : Int) < 0) := by omega
  have EX := Lib.hid ((((x0).trans y0).trans y1).trans y2)
  go_wp2_with fail
  go_ret
  exact ⟨ret_int (by first | rfl | (push_cast; omega)), EX.out⟩

theorem MUnit.mt_op {w : World} {x : MUnit} {K : Int} {cs : List Value} (h : Rep w (mtD K x.d) cs) : ∃ a0 c0 a1 c1 a2 c2 a3 c3, cs = [.slice a0 x.classes.length c0, .string x.main.selector, .bool x.main.cls, .slice a1 x.main.params.length c1, .slice a2 x.main.temps.length c2, .slice a3 x.main.body.length c3] ∧ Rep w (mkD (K) (MClassDefs x.classes)) [.slice a0 x.classes.length c0] ∧ Rep w (mtD (K + ((MClassDefs x.classes).cnt : Int)) x.main.d) [.string x.main.selector, .bool x.main.cls, .slice a1 x.main.params.length c1, .slice a2 x.main.temps.length c2, .slice a3 x.main.body.length c3] := by
  obtain ⟨fp, h⟩ := h
  rw [MUnit.mt_eq] at h
  have h0 := RepF.un_st h
  obtain ⟨a0, c0, _, f0, g0, rfl, rfl, s0, h1⟩ := RepS.un_sl (show RepS w (.sl _ _ :: _) _ _ from h0)
  simp only [mkL_length, List.length_map] at s0
  obtain ⟨k1, _, f1, g1, rfl, rfl, s1, h2⟩ := RepS.un_sub h1
  obtain ⟨u1_0, v1_0, u1_1, v1_1, u1_2, v1_2, rfl, _, _, _⟩ := MMethod.mt_op ⟨_, s1⟩
  simp only [RepS] at h2
  obtain ⟨rfl, rfl⟩ := h2
  exact ⟨a0, c0, u1_0, v1_0, u1_1, v1_1, u1_2, v1_2, by simp [mkL_length], ⟨_, s0⟩, ⟨_, s1⟩⟩


open Go.RowKit
set_option linter.unusedSimpArgs false
set_option linter.unusedVariables false

theorem RepF.off {w : World} {d : D} {cs : List Value} {fp : List Nat} {B : Nat} (h : RepF w d cs fp) (hB : B ∉ fp) (o : Nat) (v : Value) : RepF (w.setCell ⟨B, o, none⟩ v) d cs fp :=
  h.keep d fun b hb => heap_setCell_other w ⟨B, o, none⟩ b v (show b ≠ B from fun e => hB (e ▸ hb))
/-- A method's block. -/
def blockM (p t : List ByteArray) (b : List MExpr) : MExpr := ⟨8, ⟨#[]⟩, p.length, p ++ t, b⟩

set_option maxHeartbeats 1000000 in
set_option maxRecDepth 100000 in
theorem l3Block_any (p t : List ByteArray) (b : List MExpr) (vp vt vb : Value) (w : World) (rp : Rep w (strs p) [vp]) (rt : Rep w (strs t) [vt]) (fb : List Nat) (rb : RepF w (MExprs b) [vb] fb) (hl : p.length + t.length ≤ 1048576) :
    Calls Tryz.prog 128 #[vp, vt, vb] w fun e w' => ∃ cs fp, e = .returned (.agg cs.toArray) ∧ RepF w' (blockM p t b).d cs fp ∧ (∀ k, k ∈ fp → k ∈ fb ∨ w.heap.size ≤ k) ∧ Ext w w' := by
  obtain ⟨ap, cp, bp, op, h1, hlp, hmp, pp, hp⟩ := Rep.strs rp
  obtain ⟨at', ct, bt, ot, h2, hlt, hmt, pt, ht⟩ := Rep.strs rt
  obtain ⟨ab, cb, bb, ob, h3, hlb, hmb, pb, hb⟩ := Rep.slmap rb.rep
  simp only [List.cons.injEq, and_true] at h1 h2 h3
  subst h1 h2 h3
  go_enter Tryz.func128, Tryz.ntmps128
  have hA : ∀ o : Obj, AccT (w.heap.size + 1) ((w.alloc o).alloc (.cells #[] 9)) (.slice (some ⟨w.heap.size + 1, 0, none⟩) 0 0) [] := fun o => Acc.empty_at (own_new2 w o #[] _) (Nat.le_refl _)
  go_wp2_with (at_builtin; refine wpList_append_strs rfl _ _ rfl _ (.slice (some ⟨w.heap.size + 1, 0, none⟩) 0 0) [] rfl (hA _) p _ _ _ rfl (Rep.ext (((Ext.refl w).alloc _).alloc _) rp) (by first | omega | (simp; omega)) (by simp) ?_)
  intro a1 c1 w1 ac1 hg1
  have hx1 := AccT.below (hA _) (Below.alloc (Below.refl (w.heap.size + 1) _) (by simp) _) hg1 (by simp)
  clear hg1
  have hz1 : w.heap.size + 1 ≤ w1.heap.size := by have := hx1.size; simpa using this
  go_wp2_with (at_builtin; refine wpList_append_strs rfl _ _ rfl _ _ _ rfl ac1 t _ _ _ rfl (Rep.ext (((Ext.refl w).alloc _).trans (ext_box hx1)) rt) (by first | omega | (simp; omega)) hz1 ?_)
  intro a2 c2 w2 ac2 hg2
  have hx2 := ext_box (AccT.below ac1 hx1 hg2 hz1)
  clear hg2 hx1 ac1 hz1
  obtain ⟨q1, q2⟩ := bcell hx2
  have hz : w.heap.size + 1 ≤ w2.heap.size := by have := hx2.size; simpa using this
  go_wp2_with fail
  obtain ⟨a3, c3, gp, e1, h4, hf4⟩ := ac2.rep
  simp only [List.length_append, Value.slice.injEq] at e1
  obtain ⟨rfl, -, rfl⟩ := e1
  have fin : ∀ W, Ext w W → RepF W (strs (p ++ t)) [.slice a2 (p.length + t.length) c2] gp →
      ∃ cs fp, Ending.returned (.agg #[.int .i64 8, .string ⟨#[]⟩, .int .i64 p.length, .slice a2 (p.length + t.length) c2, .slice ab b.length cb]) = .returned (.agg cs.toArray) ∧ RepF W (blockM p t b).d cs fp ∧ (∀ k, k ∈ fp → k ∈ fb ∨ w.heap.size ≤ k) ∧ Ext w W := by
    intro W hE hN
    refine ⟨_, _, rfl, MExpr.shut (x := blockM p t b) hN (rb.ext hE), fun k hk => ?_, hE⟩
    simp only [List.append_nil, List.mem_append] at hk
    rcases hk with hk | hk
    · have := hf4.ge k hk; exact Or.inr (by omega)
    · exact Or.inl hk
  refine bodyPost_ret (v := .agg #[.int .i64 8, .string ⟨#[]⟩, .int .i64 p.length, .slice a2 (p.length + t.length) c2, .slice ab b.length cb]) (by simp [results, Tryz.results128, go_sem, q1, hz]) rfl (fin _ ?_ ?_)
  · iterate 5 refine Ext.setCell ?_ (Nat.le_refl _) _
    exact ((Ext.refl w).alloc _).trans hx2
  · iterate 5 refine RepF.low ?_ hf4.ge (Nat.lt_succ_self _) _
    simpa only [List.length_append] using h4

set_option maxHeartbeats 1000000 in
theorem l5Body_any (x : MMethod) (cx : List Value) (w : World) (rx : Rep w x.d cx) (hl : x.params.length + x.temps.length ≤ 1048576) :
    Calls Tryz.prog 82 #[.agg cx.toArray] w fun e w' => ∃ cs, e = .returned (.agg cs.toArray) ∧ Rep w' (blockM x.params x.temps x.body).d cs ∧ Ext w w' := by
  obtain ⟨a1, c1, a2, c2, a3, c3, rfl, r1, r2, r3⟩ := MMethod.op_en rx
  obtain ⟨fb, r3⟩ := r3
  go_enter Tryz.func82, Tryz.ntmps82
  go_wp2_with fail
  refine (l3Block_any _ _ _ _ _ _ _ (Rep.ext (((Ext.refl w).alloc _).alloc _) r1) (Rep.ext (((Ext.refl w).alloc _).alloc _) r2) fb (RepF.ext (((Ext.refl w).alloc _).alloc _) r3) hl).mono ?_
  rintro e w1 ⟨cs, fp, rfl, h1, hfp, hx1⟩
  obtain ⟨b1, d1, b2, d2, rfl, k1, k2⟩ := MExpr.op_en h1.rep
  obtain ⟨q1, q2⟩ := bcell hx1
  have hz : w.heap.size < w1.heap.size ∧ w.heap.size + 1 < w1.heap.size := by have := hx1.size; simp at this; omega
  go_wp2_with fail
  refine bodyPost_ret (v := .agg #[.int .i64 (blockM x.params x.temps x.body).kind, .string (blockM x.params x.temps x.body).text, .int .i64 (blockM x.params x.temps x.body).number, .slice b1 (blockM x.params x.temps x.body).names.length d1, .slice b2 (blockM x.params x.temps x.body).kids.length d2]) (by simp [results, Tryz.results82, go_sem, q1, hz]) rfl ⟨[.int .i64 (blockM x.params x.temps x.body).kind, .string (blockM x.params x.temps x.body).text, .int .i64 (blockM x.params x.temps x.body).number, .slice b1 (blockM x.params x.temps x.body).names.length d1, .slice b2 (blockM x.params x.temps x.body).kids.length d2], rfl, ⟨fp, ?_⟩, ?_⟩
  · have hoff : w.heap.size + 1 ∉ fp := fun hk => by
      rcases hfp _ hk with h | h
      · have := r3.lt _ _ h; omega
      · simp at h; omega
    iterate 5 refine RepF.off ?_ hoff _ _
    exact h1
  · iterate 5 refine Ext.setCell ?_ (Nat.le_succ _) _
    exact (((Ext.refl w).alloc _).alloc _).trans hx1

set_option maxHeartbeats 1000000 in
theorem blockOf_any (x : MMethod) (cx : List Value) (w : World) (rx : Rep w x.d cx) (hl : x.params.length + x.temps.length ≤ 1048576) :
    Calls Tryz.prog 79 #[.agg cx.toArray] w fun e w' => ∃ cs, e = .returned (.agg cs.toArray) ∧ Rep w' (blockM x.params x.temps x.body).d cs ∧ Ext w w' := by
  obtain ⟨a1, c1, a2, c2, a3, c3, rfl, r1, r2, r3⟩ := MMethod.op_en rx
  go_enter Tryz.func79, Tryz.ntmps79
  have hA : ∀ o o2 : Obj, AccT (w.heap.size + 1 + 1) (((w.alloc o).alloc o2).alloc (.cells #[] 9)) (.slice (some ⟨w.heap.size + 1 + 1, 0, none⟩) 0 0) [] := fun o o2 => Acc.empty_at (own_new3 w o o2 #[] _) (Nat.le_refl _)
  obtain ⟨W0, hW0⟩ : ∃ W0, W0 = ((w.alloc (.cells #[.string x.selector, .bool x.cls, .slice a1 x.params.length c1, .slice a2 x.temps.length c2, .slice a3 x.body.length c3] 32)).alloc (.cells #[.int .i64 0, .string ⟨#[]⟩, .int .i64 0, .slice none 0 0, .slice none 0 0] 25)) := ⟨_, rfl⟩
  have E0 : Ext w W0 := by rw [hW0]; exact ((Ext.refl w).alloc _).alloc _
  have KS : Hid (∀ w', Below (w.heap.size + 1 + 1) W0 w' → w'.cell? ⟨w.heap.size, 2, none⟩ = some (.slice a1 x.params.length c1) ∧ w'.cell? ⟨w.heap.size, 3, none⟩ = some (.slice a2 x.temps.length c2) ∧ Below (w.heap.size + 1 + 1) W0 w') := Lib.hid fun w' h => ⟨by
    rw [h.cell (by show w.heap.size < _; omega), hW0]; simp, by
    rw [h.cell (by show w.heap.size < _; omega), hW0]; simp, h⟩
  have KE : ∀ w', Below (w.heap.size + 1 + 1) W0 w' → Ext w w' := fun w' h => E0.trans (by subst hW0; exact ext_box2 h)
  have HA : AccT (w.heap.size + 1 + 1) (W0.alloc (.cells #[] 9)) (.slice (some ⟨w.heap.size + 1 + 1, 0, none⟩) 0 0) [] := by rw [hW0]; exact hA _ _
  have zW : W0.heap.size = w.heap.size + 1 + 1 := by rw [hW0]; simp
  clear hA
  subst hW0
  have HD := HA.ext (Ext.drew (Ext.refl _))
  have HB := Below.drew (Below.alloc (Below.refl (w.heap.size + 1 + 1) _) (Nat.le_of_eq zW.symm) (.cells #[] 9))
  have HZ := HB.size
  rw [zW] at HZ
  have hb0 := HB
  have HR1 := Rep.ext (KE _ HB) r1
  go_wp2_with fail
  go_region_held3 (fun w' => w'.cell? ⟨w.heap.size, 2, none⟩ = some (.slice a1 x.params.length c1) ∧ w'.cell? ⟨w.heap.size, 3, none⟩ = some (.slice a2 x.temps.length c2) ∧ Below (w.heap.size + 1 + 1) ((w.alloc (.cells #[.string x.selector, .bool x.cls, .slice a1 x.params.length c1, .slice a2 x.temps.length c2, .slice a3 x.body.length c3] 32)).alloc (.cells #[.int .i64 0, .string ⟨#[]⟩, .int .i64 0, .slice none 0 0, .slice none 0 0] 25)) w')
    (first | exact KS.out _ hb2 | exact KS.out _ hb1 | exact KS.out _ HB | exact KS.out _ (Below.drew (Below.refl _ _)))
    (first
      | (refine step_append_strs rfl _ _ rfl (w.heap.size + 1 + 1) (.slice (some ⟨w.heap.size + 1 + 1, 0, none⟩) 0 0) [] rfl HD x.params _ _ _ rfl HR1 (by first | omega | (simp; omega)) HZ ?_; intro a4 c4 w1 ac1 hg1; have hb1 := AccT.below HD HB hg1 HZ; simp only [List.length_nil, Nat.zero_add, List.nil_append] at ac1 ⊢)
      | (go_loud (have hz1 : w.heap.size + 1 + 1 ≤ w1.heap.size := by (have := hb1.size; rw [zW] at this; exact this)
                  refine step_append_strs rfl _ _ rfl (w.heap.size + 1 + 1) _ x.params rfl ac1 x.temps _ _ _ rfl (Rep.ext (KE _ hb1) r2) (by omega) hz1 ?_; intro a5 c5 w2 ac2 hg2; have hb2 := AccT.below ac1 hb1 hg2 hz1)))
  clear hb1 KS HR1 HD HB HZ HA
  have E2 := KE _ hb2
  obtain ⟨q1, q2⟩ := bcell (ext_box2 hb2)
  have hz : w.heap.size + 1 + 1 ≤ w2.heap.size := by have := hb2.size; rw [zW] at this; exact this
  clear KE zW hb2
  go_wp2_with fail
  obtain ⟨a6, c6, gp, e1, h4, hf4⟩ := ac2.rep
  simp only [List.length_append, Value.slice.injEq] at e1
  obtain ⟨rfl, -, rfl⟩ := e1
  have fin : ∀ W, Ext w W → RepF W (strs (x.params ++ x.temps)) [.slice a5 (x.params.length + x.temps.length) c5] gp →
      ∃ cs, Ending.returned (.agg #[.int .i64 8, .string ⟨#[]⟩, .int .i64 x.params.length, .slice a5 (x.params.length + x.temps.length) c5, .slice a3 x.body.length c3]) = .returned (.agg cs.toArray) ∧ Rep W (blockM x.params x.temps x.body).d cs ∧ Ext w W := by
    intro W hE hN
    obtain ⟨fb, hb'⟩ := Rep.ext hE r3
    exact ⟨_, rfl, (MExpr.shut (x := blockM x.params x.temps x.body) hN hb').rep, hE⟩
  refine bodyPost_ret (v := .agg #[.int .i64 8, .string ⟨#[]⟩, .int .i64 x.params.length, .slice a5 (x.params.length + x.temps.length) c5, .slice a3 x.body.length c3]) (by simp [results, Tryz.results79, go_sem, q1, hz]) rfl (fin _ ?_ ?_)
  · iterate 5 refine Ext.setCell ?_ (Nat.le_succ _) _
    exact E2
  · iterate 5 refine RepF.low ?_ hf4.ge (Nat.lt_succ_self _) _
    simpa only [List.length_append] using h4

theorem bulk_method {x : MMethod} (h : x.d.bulk ≤ 1048576) : x.params.length + x.temps.length ≤ 1048576 := by
  simp only [MMethod.d, D.bulk, D.bulkL, strs, List.length_map] at h
  omega
end Go.Proofs.YtonmcoojgkgemaaGreatDoor
