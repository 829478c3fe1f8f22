/-
  SEVERAL TEXTS IN ONE: CONTRACTS: the readings of the marks; CONTRACTS: the readings of the marks, of structs; CONTRACTS: l3Block, l5Body, blockOf, EqualMethods; CONTRACTS: SizeOfExpr, DepthOfExpr, of the program and of the reference; PLAIN: what the parsers read, by fuel; what holds for all fuels that are great enough.
  Conditions: those that each lemma states.
-/
import Derived.Test.YtlcebafhbceejaaGreatDoorRows
import Derived.Deep.RegionHeld3
import Derived.Deep.RegionHeldLaw
import Derived.Test.YtlcebafhbceejaaGreatDoorP08
import Derived.Test.YtlcebafhbceejaaGreatDoorP02
namespace Go.Proofs.YtlcebafhbceejaaGreatDoor
open Go.RowKit
set_option maxHeartbeats 8000000
set_option maxRecDepth 100000
set_option linter.unusedSimpArgs false
set_option linter.unusedVariables false
theorem heldStrings_p (l : List ByteArray) (v : Value) (k0 : Int) (w : World) (hr : Rep w (mkD k0 (strs l)) [v]) (h0 : 0 <= k0) (h1 : k0 + (strs l).cnt <= 1099511627776) : Calls Tryz.prog 58 #[v, .int .i64 k0] w (fun e w' => e = .returned (.int .i64 (k0 + (strs l).cnt)) /\ Ext w w') := by
 have e1 : (strs l).cnt = l.length := by simp [strs, D.cnt, D.cntL_strs]
 have e2 : mkD k0 (strs l) = strs (markL k0 l.length) := by simp [strs, mkD, mkL_strs]
 rw [e1] at h1 ⊢
 rw [e2] at hr
 exact heldStringS_any l.length v k0 w hr h0 h1
theorem MExpr.mk_op {w : World} {x : MExpr} {K : Int} {cs : List Value} (h : Rep w (mkD K x.d) cs) : ∃ a0 c0 a1 c1, cs = [.int .i64 (K), .string (mtext (K + 1)), .int .i64 (K + 2), .slice a0 x.names.length c0, .slice a1 x.kids.length c1] /\ Rep w (mkD (K + 3) (strs x.names)) [.slice a0 x.names.length c0] /\ Rep w (mkD (K + 3 + ((strs x.names).cnt : Int)) (MExprs x.kids)) [.slice a1 x.kids.length c1] := by
 obtain ⟨fp, h⟩ := h
 rw [MExpr.mk_eq] at h
 have h0 := RepF.un_st h
 obtain ⟨_, rfl, h1⟩ := RepS.un_int h0
 obtain ⟨_, rfl, h2⟩ := RepS.un_str h1
 obtain ⟨_, rfl, h3⟩ := RepS.un_int h2
 obtain ⟨a3, c3, _, f3, g3, rfl, rfl, s3, h4⟩ := RepS.un_sl (by first | exact h3 | (simp only [strs, ints, mkD] at h3; exact h3) | exact (show RepS w (.sl _ _ :: _) _ _ from h3))
 obtain ⟨a4, c4, _, f4, g4, rfl, rfl, s4, h5⟩ := RepS.un_sl (by first | exact h4 | (simp only [strs, ints, mkD] at h4; exact h4) | exact (show RepS w (.sl _ _ :: _) _ _ from h4))
 simp only [RepS] at h5
 obtain ⟨rfl, rfl⟩ := h5
 simp only [mkL_length, List.length_map] at s3
 simp only [mkL_length, List.length_map] at s4
 refine ⟨a3, c3, a4, c4, by simp [mkL_length], ⟨_, s3⟩, ⟨_, s4⟩⟩
theorem heldExprS_n : ∀ (n : Nat) (l : List MExpr), (MExprs l).cnt < n -> ∀ (v : Value) (k0 : Int) (w : World), Rep w (mkD k0 (MExprs l)) [v] -> 0 <= k0 -> k0 + (MExprs l).cnt <= 1099511627776 -> Calls Tryz.prog 60 #[v, .int .i64 k0] w (fun e w' => e = .returned (.int .i64 (k0 + (MExprs l).cnt)) /\ Ext w w') := by
 intro n
 induction n with
 | zero => intro l h; exact absurd h (Nat.not_lt_zero _)
 | succ n ih =>
 intro l hn v k0 w hr h0 h1
 have IH := LH ih
 obtain ⟨ao, ca, ba, oa, e1, hla, hma, pa, ha⟩ := Rep.sl (show Rep w (.sl 5 (mkL k0 (l.map MExpr.d))) [v] from hr)
 simp only [List.cons.injEq, and_true] at e1
 subst e1
 clear hr
 rw [mkL_length, List.length_map] at hla pa ⊢
 unfold maxLen at hma
 have HB := LH h1
 clear h1
 go_enter Tryz.func60, Tryz.ntmps60
 go_wp2_with fail
 go_loopw [1, 5] (fun kv iv wr => ∃ i : Nat, i <= l.length /\ iv = .int .i64 i /\ kv = .int .i64 (k0 + (D.cntL ((l.take i).map MExpr.d) : Int)) /\ Ext w wr) (fun _ iv _ => l.length - (intOf iv).toNat)
 case atStart => exact ⟨0, Nat.zero_le _, rfl, by simp [D.cntL], XR _⟩
 case round =>
  obtain ⟨i, hi, rfl, rfl, hx⟩ := hrel
  by_cases hlt : i < l.length
  rotate_left
  · obtain rfl : i = l.length := by omega
    go_wp2_with fail
    go_ret
    exact ⟨ret_int (by rw [List.take_length]; rfl), hx⟩
  obtain rfl := pa (by omega)
  obtain ⟨x, hxl⟩ : ∃ x, l[i]? = some x := ⟨l[i], by simp [hlt]⟩
  obtain ⟨ea, la, cc, ra⟩ := ha i _ (mkL_get k0 _ i x.d (by simp [hxl]))
  rw [<- List.map_take] at ra
  obtain ⟨hc1, hc2⟩ := cnt_at (f := MExpr.d) hxl
  have hc3 := MExpr.cnt_eq x
  obtain ⟨K, hKe⟩ : ∃ K : Int, k0 + (D.cntL ((l.take i).map MExpr.d) : Int) = K := ⟨_, rfl⟩
  rw [hKe] at ra ⊢
  have hK0 : 0 <= K := by omega
  have hcb : K + 3 + ((strs x.names).cnt : Int) + ((MExprs x.kids).cnt : Int) <= 1099511627776 := by have := HB.out; simp only [MExprs, D.cnt] at this; omega
  have hn1 : (MExprs x.kids).cnt < n := by simp only [MExprs, D.cnt] at hn hc3 hc2 ⊢; omega
  have HNX : Hid (k0 + (D.cntL ((l.take (i + 1)).map MExpr.d) : Int) = K + 3 + ((strs x.names).cnt : Int) + ((MExprs x.kids).cnt : Int)) := LH (by rw [hc1, <- hKe, hc3]; push_cast; omega)
  obtain ⟨a0, c0, a1, c1, rfl, s0, s1⟩ := MExpr.mk_op ra
  have q0 : wr.cell? ⟨ba, oa + i * 5, none⟩ = some (.int .i64 (K)) := hx.cell (show w.cell? ⟨ba, oa + i * 5, none⟩ = some _ from cc 0 (by omega))
  have q1 : wr.cell? ⟨ba, oa + i * 5 + 1, none⟩ = some (.string (mtext (K + 1))) := hx.cell (show w.cell? ⟨ba, oa + i * 5 + 1, none⟩ = some _ from cc 1 (by omega))
  have q2 : wr.cell? ⟨ba, oa + i * 5 + 2, none⟩ = some (.int .i64 (K + 2)) := hx.cell (show w.cell? ⟨ba, oa + i * 5 + 2, none⟩ = some _ from cc 2 (by omega))
  have q3 : wr.cell? ⟨ba, oa + i * 5 + 3, none⟩ = some (.slice a0 x.names.length c0) := hx.cell (show w.cell? ⟨ba, oa + i * 5 + 3, none⟩ = some _ from cc 3 (by omega))
  have q4 : wr.cell? ⟨ba, oa + i * 5 + 4, none⟩ = some (.slice a1 x.kids.length c1) := hx.cell (show w.cell? ⟨ba, oa + i * 5 + 4, none⟩ = some _ from cc 4 (by omega))
  have S0 := LH s0
  have S1 := LH s1
  clear ha pa la cc ra hc1 hc2 hc3 hKe hxl s0 s1
  have HX := LH hx
  clear hx
  have t0 := int_eqn (rfl : K = K)
  have t1 := str_eqn (congrArg mtext (show K + 1 = K + 1 by omega))
  go_wp2_with fail
  have g1 := reg (XR _) q1
  refine wp_region_quiet_below (by kernel_rfl) (by kernel_rfl) ?_
  repeat (quiet_step (exact Calls.regrown_of (markText_any _ _ (by omega) (by omega))))
  refine wpQuiet_nil ?_
  clear g1
  intro _ hw'
  obtain ⟨pw, hw''⟩ := hw'
  subst hw''
  have X1 := regx wr pw
  generalize hW2 : «Sort».grow (redrawn wr pw.d) pw.os = w1 at *
  clear hW2
  replace q0 := X1.cell q0
  replace q1 := X1.cell q1
  replace q2 := X1.cell q2
  replace q3 := X1.cell q3
  replace q4 := X1.cell q4
  have t2 := int_eqn (rfl : K + 2 = K + 2)
  go_wp2_with fail
  refine (heldStrings_p x.names _ _ _ ?_ ?_ ?_).mono ?_
  · have h := Rep.ext ((HX.out).trans X1) S0.out
    simp only [Int.add_assoc, Int.reduceAdd] at h ⊢
    exact h
  · omega
  · omega
  rintro e w2 ⟨rfl, y2⟩
  replace q0 := y2.cell q0
  replace q1 := y2.cell q1
  replace q2 := y2.cell q2
  replace q3 := y2.cell q3
  replace q4 := y2.cell q4
  have p0 : ¬ (K + 1 + 1 + 1 + ((strs x.names).cnt : Int) < 0) := by omega
  have p0b : ¬ (K + 3 + ((strs x.names).cnt : Int) < 0) := by omega
  go_wp2_with fail
  refine (IH.out x.kids hn1 _ _ _ ?_ ?_ ?_).mono ?_
  · have h := Rep.ext (((HX.out).trans X1).trans y2) S1.out
    simp only [Int.add_assoc, Int.reduceAdd] at h ⊢
    exact h
  · omega
  · omega
  rintro e w3 ⟨rfl, y3⟩
  replace q0 := y3.cell q0
  replace q1 := y3.cell q1
  replace q2 := y3.cell q2
  replace q3 := y3.cell q3
  replace q4 := y3.cell q4
  have p1 : ¬ (K + 1 + 1 + 1 + ((strs x.names).cnt : Int) + ((MExprs x.kids).cnt : Int) < 0) := by omega
  have p1b : ¬ (K + 3 + ((strs x.names).cnt : Int) + ((MExprs x.kids).cnt : Int) < 0) := by omega
  have EX := LH ((((HX.out).trans X1).trans y2).trans y3)
  go_wp2_with fail
  go_roundw
  case rel => exact ⟨i + 1, by omega, by go_num, by rw [HNX.out]; congr 1; omega, EX.out⟩
  case measure => simp [intOf]; omega
theorem heldExprS_any (l : List MExpr) : ∀ (v : Value) (k0 : Int) (w : World), Rep w (mkD k0 (MExprs l)) [v] -> 0 <= k0 -> k0 + (MExprs l).cnt <= 1099511627776 -> Calls Tryz.prog 60 #[v, .int .i64 k0] w (fun e w' => e = .returned (.int .i64 (k0 + (MExprs l).cnt)) /\ Ext w w') := heldExprS_n _ l (Nat.lt_succ_self _)
theorem MMethod.mk_op {w : World} {x : MMethod} {K : Int} {cs : List Value} (h : Rep w (mkD K x.d) cs) : ∃ a0 c0 a1 c1 a2 c2, cs = [.string (mtext (K)), .bool ((K + 1) % 3 == 0), .slice a0 x.params.length c0, .slice a1 x.temps.length c1, .slice a2 x.body.length c2] /\ Rep w (mkD (K + 2) (strs x.params)) [.slice a0 x.params.length c0] /\ Rep w (mkD (K + 2 + ((strs x.params).cnt : Int)) (strs x.temps)) [.slice a1 x.temps.length c1] /\ Rep w (mkD (K + 2 + ((strs x.params).cnt : Int) + ((strs x.temps).cnt : Int)) (MExprs x.body)) [.slice a2 x.body.length c2] := by
 obtain ⟨fp, h⟩ := h
 rw [MMethod.mk_eq] at h
 have h0 := RepF.un_st h
 obtain ⟨_, rfl, h1⟩ := RepS.un_str h0
 obtain ⟨_, rfl, h2⟩ := RepS.un_bool h1
 obtain ⟨a2, c2, _, f2, g2, rfl, rfl, s2, h3⟩ := RepS.un_sl (by first | exact h2 | (simp only [strs, ints, mkD] at h2; exact h2) | exact (show RepS w (.sl _ _ :: _) _ _ from h2))
 obtain ⟨a3, c3, _, f3, g3, rfl, rfl, s3, h4⟩ := RepS.un_sl (by first | exact h3 | (simp only [strs, ints, mkD] at h3; exact h3) | exact (show RepS w (.sl _ _ :: _) _ _ from h3))
 obtain ⟨a4, c4, _, f4, g4, rfl, rfl, s4, h5⟩ := RepS.un_sl (by first | exact h4 | (simp only [strs, ints, mkD] at h4; exact h4) | exact (show RepS w (.sl _ _ :: _) _ _ from h4))
 simp only [RepS] at h5
 obtain ⟨rfl, rfl⟩ := h5
 simp only [mkL_length, List.length_map] at s2
 simp only [mkL_length, List.length_map] at s3
 simp only [mkL_length, List.length_map] at s4
 refine ⟨a2, c2, a3, c3, a4, c4, by simp [mkL_length], ⟨_, s2⟩, ⟨_, s3⟩, ⟨_, s4⟩⟩
theorem heldMethodS_any (l : List MMethod) : ∀ (v : Value) (k0 : Int) (w : World), Rep w (mkD k0 (MMethods l)) [v] -> 0 <= k0 -> k0 + (MMethods l).cnt <= 1099511627776 -> Calls Tryz.prog 59 #[v, .int .i64 k0] w (fun e w' => e = .returned (.int .i64 (k0 + (MMethods l).cnt)) /\ Ext w w') := by
 intro v k0 w hr h0 h1
 obtain ⟨ao, ca, ba, oa, e1, hla, hma, pa, ha⟩ := Rep.sl (show Rep w (.sl 5 (mkL k0 (l.map MMethod.d))) [v] from hr)
 simp only [List.cons.injEq, and_true] at e1
 subst e1
 clear hr
 rw [mkL_length, List.length_map] at hla pa ⊢
 unfold maxLen at hma
 have HB := LH h1
 clear h1
 go_enter Tryz.func59, Tryz.ntmps59
 go_wp2_with fail
 go_loopw [1, 5] (fun kv iv wr => ∃ i : Nat, i <= l.length /\ iv = .int .i64 i /\ kv = .int .i64 (k0 + (D.cntL ((l.take i).map MMethod.d) : Int)) /\ Ext w wr) (fun _ iv _ => l.length - (intOf iv).toNat)
 case atStart => exact ⟨0, Nat.zero_le _, rfl, by simp [D.cntL], XR _⟩
 case round =>
  obtain ⟨i, hi, rfl, rfl, hx⟩ := hrel
  by_cases hlt : i < l.length
  rotate_left
  · obtain rfl : i = l.length := by omega
    go_wp2_with fail
    go_ret
    exact ⟨ret_int (by rw [List.take_length]; rfl), hx⟩
  obtain rfl := pa (by omega)
  obtain ⟨x, hxl⟩ : ∃ x, l[i]? = some x := ⟨l[i], by simp [hlt]⟩
  obtain ⟨ea, la, cc, ra⟩ := ha i _ (mkL_get k0 _ i x.d (by simp [hxl]))
  rw [<- List.map_take] at ra
  obtain ⟨hc1, hc2⟩ := cnt_at (f := MMethod.d) hxl
  have hc3 := MMethod.cnt_eq x
  obtain ⟨K, hKe⟩ : ∃ K : Int, k0 + (D.cntL ((l.take i).map MMethod.d) : Int) = K := ⟨_, rfl⟩
  rw [hKe] at ra ⊢
  have hK0 : 0 <= K := by omega
  have hcb : K + 2 + ((strs x.params).cnt : Int) + ((strs x.temps).cnt : Int) + ((MExprs x.body).cnt : Int) <= 1099511627776 := by have := HB.out; simp only [MMethods, D.cnt] at this; omega
  have HNX : Hid (k0 + (D.cntL ((l.take (i + 1)).map MMethod.d) : Int) = K + 2 + ((strs x.params).cnt : Int) + ((strs x.temps).cnt : Int) + ((MExprs x.body).cnt : Int)) := LH (by rw [hc1, <- hKe, hc3]; push_cast; omega)
  obtain ⟨a0, c0, a1, c1, a2, c2, rfl, s0, s1, s2⟩ := MMethod.mk_op ra
  have q0 : wr.cell? ⟨ba, oa + i * 5, none⟩ = some (.string (mtext (K))) := hx.cell (show w.cell? ⟨ba, oa + i * 5, none⟩ = some _ from cc 0 (by omega))
  have q1 : wr.cell? ⟨ba, oa + i * 5 + 1, none⟩ = some (.bool ((K + 1) % 3 == 0)) := hx.cell (show w.cell? ⟨ba, oa + i * 5 + 1, none⟩ = some _ from cc 1 (by omega))
  have q2 : wr.cell? ⟨ba, oa + i * 5 + 2, none⟩ = some (.slice a0 x.params.length c0) := hx.cell (show w.cell? ⟨ba, oa + i * 5 + 2, none⟩ = some _ from cc 2 (by omega))
  have q3 : wr.cell? ⟨ba, oa + i * 5 + 3, none⟩ = some (.slice a1 x.temps.length c1) := hx.cell (show w.cell? ⟨ba, oa + i * 5 + 3, none⟩ = some _ from cc 3 (by omega))
  have q4 : wr.cell? ⟨ba, oa + i * 5 + 4, none⟩ = some (.slice a2 x.body.length c2) := hx.cell (show w.cell? ⟨ba, oa + i * 5 + 4, none⟩ = some _ from cc 4 (by omega))
  have S0 := LH s0
  have S1 := LH s1
  have S2 := LH s2
  clear ha pa la cc ra hc1 hc2 hc3 hKe hxl s0 s1 s2
  have HX := LH hx
  clear hx
  have t0 := str_eqn (congrArg mtext (show K = K by omega))
  go_wp2_with fail
  have g0 := reg (XR _) q0
  refine wp_region_quiet_below (by kernel_rfl) (by kernel_rfl) ?_
  repeat (quiet_step (exact Calls.regrown_of (markText_any _ _ (by omega) (by omega))))
  refine wpQuiet_nil ?_
  clear g0
  intro _ hw'
  obtain ⟨pw, hw''⟩ := hw'
  subst hw''
  have X1 := regx wr pw
  generalize hW2 : «Sort».grow (redrawn wr pw.d) pw.os = w1 at *
  clear hW2
  replace q0 := X1.cell q0
  replace q1 := X1.cell q1
  replace q2 := X1.cell q2
  replace q3 := X1.cell q3
  replace q4 := X1.cell q4
  have t1 : ∀ b : Bool, (b != b) = false := fun b => by cases b <;> rfl
  go_wp2_with fail
  refine (heldStrings_p x.params _ _ _ ?_ ?_ ?_).mono ?_
  · have h := Rep.ext ((HX.out).trans X1) S0.out
    simp only [Int.add_assoc, Int.reduceAdd] at h ⊢
    exact h
  · omega
  · omega
  rintro e w2 ⟨rfl, y2⟩
  replace q0 := y2.cell q0
  replace q1 := y2.cell q1
  replace q2 := y2.cell q2
  replace q3 := y2.cell q3
  replace q4 := y2.cell q4
  have p0 : ¬ (K + 1 + 1 + ((strs x.params).cnt : Int) < 0) := by omega
  have p0b : ¬ (K + 2 + ((strs x.params).cnt : Int) < 0) := by omega
  go_wp2_with fail
  refine (heldStrings_p x.temps _ _ _ ?_ ?_ ?_).mono ?_
  · have h := Rep.ext (((HX.out).trans X1).trans y2) S1.out
    simp only [Int.add_assoc, Int.reduceAdd] at h ⊢
    exact h
  · omega
  · omega
  rintro e w3 ⟨rfl, y3⟩
  replace q0 := y3.cell q0
  replace q1 := y3.cell q1
  replace q2 := y3.cell q2
  replace q3 := y3.cell q3
  replace q4 := y3.cell q4
  have p1 : ¬ (K + 1 + 1 + ((strs x.params).cnt : Int) + ((strs x.temps).cnt : Int) < 0) := by omega
  have p1b : ¬ (K + 2 + ((strs x.params).cnt : Int) + ((strs x.temps).cnt : Int) < 0) := by omega
  go_wp2_with fail
  refine (heldExprS_any x.body _ _ _ ?_ ?_ ?_).mono ?_
  · have h := Rep.ext ((((HX.out).trans X1).trans y2).trans y3) S2.out
    simp only [Int.add_assoc, Int.reduceAdd] at h ⊢
    exact h
  · omega
  · omega
  rintro e w4 ⟨rfl, y4⟩
  replace q0 := y4.cell q0
  replace q1 := y4.cell q1
  replace q2 := y4.cell q2
  replace q3 := y4.cell q3
  replace q4 := y4.cell q4
  have p2 : ¬ (K + 1 + 1 + ((strs x.params).cnt : Int) + ((strs x.temps).cnt : Int) + ((MExprs x.body).cnt : Int) < 0) := by omega
  have p2b : ¬ (K + 2 + ((strs x.params).cnt : Int) + ((strs x.temps).cnt : Int) + ((MExprs x.body).cnt : Int) < 0) := by omega
  have EX := LH (((((HX.out).trans X1).trans y2).trans y3).trans y4)
  go_wp2_with fail
  go_roundw
  case rel => exact ⟨i + 1, by omega, by go_num, by rw [HNX.out]; congr 1; omega, EX.out⟩
  case measure => simp [intOf]; omega
theorem MClassDef.mk_op {w : World} {x : MClassDef} {K : Int} {cs : List Value} (h : Rep w (mkD K x.d) cs) : ∃ a0 c0 a1 c1, cs = [.string (mtext (K)), .string (mtext (K + 1)), .slice a0 x.fields.length c0, .slice a1 x.methods.length c1] /\ Rep w (mkD (K + 2) (strs x.fields)) [.slice a0 x.fields.length c0] /\ Rep w (mkD (K + 2 + ((strs x.fields).cnt : Int)) (MMethods x.methods)) [.slice a1 x.methods.length c1] := by
 obtain ⟨fp, h⟩ := h
 rw [MClassDef.mk_eq] at h
 have h0 := RepF.un_st h
 obtain ⟨_, rfl, h1⟩ := RepS.un_str h0
 obtain ⟨_, rfl, h2⟩ := RepS.un_str h1
 obtain ⟨a2, c2, _, f2, g2, rfl, rfl, s2, h3⟩ := RepS.un_sl (by first | exact h2 | (simp only [strs, ints, mkD] at h2; exact h2) | exact (show RepS w (.sl _ _ :: _) _ _ from h2))
 obtain ⟨a3, c3, _, f3, g3, rfl, rfl, s3, h4⟩ := RepS.un_sl (by first | exact h3 | (simp only [strs, ints, mkD] at h3; exact h3) | exact (show RepS w (.sl _ _ :: _) _ _ from h3))
 simp only [RepS] at h4
 obtain ⟨rfl, rfl⟩ := h4
 simp only [mkL_length, List.length_map] at s2
 simp only [mkL_length, List.length_map] at s3
 refine ⟨a2, c2, a3, c3, by simp [mkL_length], ⟨_, s2⟩, ⟨_, s3⟩⟩
theorem heldClassDefS_any (l : List MClassDef) : ∀ (v : Value) (k0 : Int) (w : World), Rep w (mkD k0 (MClassDefs l)) [v] -> 0 <= k0 -> k0 + (MClassDefs l).cnt <= 1099511627776 -> Calls Tryz.prog 28 #[v, .int .i64 k0] w (fun e w' => e = .returned (.int .i64 (k0 + (MClassDefs l).cnt)) /\ Ext w w') := by
 intro v k0 w hr h0 h1
 obtain ⟨ao, ca, ba, oa, e1, hla, hma, pa, ha⟩ := Rep.sl (show Rep w (.sl 4 (mkL k0 (l.map MClassDef.d))) [v] from hr)
 simp only [List.cons.injEq, and_true] at e1
 subst e1
 clear hr
 rw [mkL_length, List.length_map] at hla pa ⊢
 unfold maxLen at hma
 have HB := LH h1
 clear h1
 go_enter Tryz.func28, Tryz.ntmps28
 go_wp2_with fail
 go_loopw [1, 5] (fun kv iv wr => ∃ i : Nat, i <= l.length /\ iv = .int .i64 i /\ kv = .int .i64 (k0 + (D.cntL ((l.take i).map MClassDef.d) : Int)) /\ Ext w wr) (fun _ iv _ => l.length - (intOf iv).toNat)
 case atStart => exact ⟨0, Nat.zero_le _, rfl, by simp [D.cntL], XR _⟩
 case round =>
  obtain ⟨i, hi, rfl, rfl, hx⟩ := hrel
  by_cases hlt : i < l.length
  rotate_left
  · obtain rfl : i = l.length := by omega
    go_wp2_with fail
    go_ret
    exact ⟨ret_int (by rw [List.take_length]; rfl), hx⟩
  obtain rfl := pa (by omega)
  obtain ⟨x, hxl⟩ : ∃ x, l[i]? = some x := ⟨l[i], by simp [hlt]⟩
  obtain ⟨ea, la, cc, ra⟩ := ha i _ (mkL_get k0 _ i x.d (by simp [hxl]))
  rw [<- List.map_take] at ra
  obtain ⟨hc1, hc2⟩ := cnt_at (f := MClassDef.d) hxl
  have hc3 := MClassDef.cnt_eq x
  obtain ⟨K, hKe⟩ : ∃ K : Int, k0 + (D.cntL ((l.take i).map MClassDef.d) : Int) = K := ⟨_, rfl⟩
  rw [hKe] at ra ⊢
  have hK0 : 0 <= K := by omega
  have hcb : K + 2 + ((strs x.fields).cnt : Int) + ((MMethods x.methods).cnt : Int) <= 1099511627776 := by have := HB.out; simp only [MClassDefs, D.cnt] at this; omega
  have HNX : Hid (k0 + (D.cntL ((l.take (i + 1)).map MClassDef.d) : Int) = K + 2 + ((strs x.fields).cnt : Int) + ((MMethods x.methods).cnt : Int)) := LH (by rw [hc1, <- hKe, hc3]; push_cast; omega)
  obtain ⟨a0, c0, a1, c1, rfl, s0, s1⟩ := MClassDef.mk_op ra
  have q0 : wr.cell? ⟨ba, oa + i * 4, none⟩ = some (.string (mtext (K))) := hx.cell (show w.cell? ⟨ba, oa + i * 4, none⟩ = some _ from cc 0 (by omega))
  have q1 : wr.cell? ⟨ba, oa + i * 4 + 1, none⟩ = some (.string (mtext (K + 1))) := hx.cell (show w.cell? ⟨ba, oa + i * 4 + 1, none⟩ = some _ from cc 1 (by omega))
  have q2 : wr.cell? ⟨ba, oa + i * 4 + 2, none⟩ = some (.slice a0 x.fields.length c0) := hx.cell (show w.cell? ⟨ba, oa + i * 4 + 2, none⟩ = some _ from cc 2 (by omega))
  have q3 : wr.cell? ⟨ba, oa + i * 4 + 3, none⟩ = some (.slice a1 x.methods.length c1) := hx.cell (show w.cell? ⟨ba, oa + i * 4 + 3, none⟩ = some _ from cc 3 (by omega))
  have S0 := LH s0
  have S1 := LH s1
  clear ha pa la cc ra hc1 hc2 hc3 hKe hxl s0 s1
  have HX := LH hx
  clear hx
  have t0 := str_eqn (congrArg mtext (show K = K by omega))
  go_wp2_with fail
  have g0 := reg (XR _) q0
  refine wp_region_quiet_below (by kernel_rfl) (by kernel_rfl) ?_
  repeat (quiet_step (exact Calls.regrown_of (markText_any _ _ (by omega) (by omega))))
  refine wpQuiet_nil ?_
  clear g0
  intro _ hw'
  obtain ⟨pw, hw''⟩ := hw'
  subst hw''
  have X1 := regx wr pw
  generalize hW2 : «Sort».grow (redrawn wr pw.d) pw.os = w1 at *
  clear hW2
  replace q0 := X1.cell q0
  replace q1 := X1.cell q1
  replace q2 := X1.cell q2
  replace q3 := X1.cell q3
  have t1 := str_eqn (congrArg mtext (show K + 1 = K + 1 by omega))
  go_wp2_with fail
  have g1 := reg (XR _) q1
  refine wp_region_quiet_below (by kernel_rfl) (by kernel_rfl) ?_
  repeat (quiet_step (exact Calls.regrown_of (markText_any _ _ (by omega) (by omega))))
  refine wpQuiet_nil ?_
  clear g1
  intro _ hw'
  obtain ⟨pw, hw''⟩ := hw'
  subst hw''
  have X2 := regx w1 pw
  generalize hW2 : «Sort».grow (redrawn w1 pw.d) pw.os = w2 at *
  clear hW2
  replace q0 := X2.cell q0
  replace q1 := X2.cell q1
  replace q2 := X2.cell q2
  replace q3 := X2.cell q3
  go_wp2_with fail
  refine (heldStrings_p x.fields _ _ _ ?_ ?_ ?_).mono ?_
  · have h := Rep.ext (((HX.out).trans X1).trans X2) S0.out
    simp only [Int.add_assoc, Int.reduceAdd] at h ⊢
    exact h
  · omega
  · omega
  rintro e w3 ⟨rfl, y3⟩
  replace q0 := y3.cell q0
  replace q1 := y3.cell q1
  replace q2 := y3.cell q2
  replace q3 := y3.cell q3
  have p0 : ¬ (K + 1 + 1 + ((strs x.fields).cnt : Int) < 0) := by omega
  have p0b : ¬ (K + 2 + ((strs x.fields).cnt : Int) < 0) := by omega
  go_wp2_with fail
  refine (heldMethodS_any x.methods _ _ _ ?_ ?_ ?_).mono ?_
  · have h := Rep.ext ((((HX.out).trans X1).trans X2).trans y3) S1.out
    simp only [Int.add_assoc, Int.reduceAdd] at h ⊢
    exact h
  · omega
  · omega
  rintro e w4 ⟨rfl, y4⟩
  replace q0 := y4.cell q0
  replace q1 := y4.cell q1
  replace q2 := y4.cell q2
  replace q3 := y4.cell q3
  have p1 : ¬ (K + 1 + 1 + ((strs x.fields).cnt : Int) + ((MMethods x.methods).cnt : Int) < 0) := by omega
  have p1b : ¬ (K + 2 + ((strs x.fields).cnt : Int) + ((MMethods x.methods).cnt : Int) < 0) := by omega
  have EX := LH (((((HX.out).trans X1).trans X2).trans y3).trans y4)
  go_wp2_with fail
  go_roundw
  case rel => exact ⟨i + 1, by omega, by go_num, by rw [HNX.out]; congr 1; omega, EX.out⟩
  case measure => simp [intOf]; omega
theorem MMethod.mt_op {w : World} {x : MMethod} {K : Int} {cs : List Value} (h : Rep w (mtD K x.d) cs) : ∃ a0 c0 a1 c1 a2 c2, cs = [.string x.selector, .bool x.cls, .slice a0 x.params.length c0, .slice a1 x.temps.length c1, .slice a2 x.body.length c2] /\ Rep w (mkD (K) (strs x.params)) [.slice a0 x.params.length c0] /\ Rep w (mkD (K + ((strs x.params).cnt : Int)) (strs x.temps)) [.slice a1 x.temps.length c1] /\ Rep w (mkD (K + ((strs x.params).cnt : Int) + ((strs x.temps).cnt : Int)) (MExprs x.body)) [.slice a2 x.body.length c2] := by
 obtain ⟨fp, h⟩ := h
 rw [MMethod.mt_eq] at h
 have h0 := RepF.un_st h
 obtain ⟨_, rfl, h1⟩ := RepS.un_str h0
 obtain ⟨_, rfl, h2⟩ := RepS.un_bool h1
 obtain ⟨a2, c2, _, f2, g2, rfl, rfl, s2, h3⟩ := RepS.un_sl (show RepS w (.sl _ _ :: _) _ _ from h2)
 simp only [mkL_length, List.length_map] at s2
 obtain ⟨a3, c3, _, f3, g3, rfl, rfl, s3, h4⟩ := RepS.un_sl (show RepS w (.sl _ _ :: _) _ _ from h3)
 simp only [mkL_length, List.length_map] at s3
 obtain ⟨a4, c4, _, f4, g4, rfl, rfl, s4, h5⟩ := RepS.un_sl (show RepS w (.sl _ _ :: _) _ _ from h4)
 simp only [mkL_length, List.length_map] at s4
 simp only [RepS] at h5
 obtain ⟨rfl, rfl⟩ := h5
 exact ⟨a2, c2, a3, c3, a4, c4, by simp [mkL_length], ⟨_, s2⟩, ⟨_, s3⟩, ⟨_, s4⟩⟩
theorem heldMethod_any (x : MMethod) (cx : List Value) (K : Int) (w : World) (hr : Rep w (mtD K x.d) cx) (h0 : 0 <= K) (h1 : K + x.d.tcnt <= 1099511627776) :
 Calls Tryz.prog 29 #[.agg cx.toArray, .int .i64 K] w (fun e w' => e = .returned (.int .i64 (K + x.d.tcnt)) /\ Ext w w') := by
 have hc := MMethod.tcnt_eq x
 rw [hc] at h1 ⊢
 clear hc
 obtain ⟨a0, c0, a1, c1, a2, c2, rfl, r0, r1, r2⟩ := MMethod.mt_op hr
 clear hr
 go_enter Tryz.func29, Tryz.ntmps29
 go_upto_region 1 with fail
 generalize hS : World.alloc w _ = W0
 have x0 : Ext w W0 := by rw [<- hS]; exact (XR _).alloc _
 have m0 : W0.cell? ⟨w.heap.size, 0, none⟩ = some (.string x.selector) := by rw [<- hS]; simp
 have m1 : W0.cell? ⟨w.heap.size, 1, none⟩ = some (.bool x.cls) := by rw [<- hS]; simp
 have m2 : W0.cell? ⟨w.heap.size, 2, none⟩ = some (.slice a0 x.params.length c0) := by rw [<- hS]; simp
 have m3 : W0.cell? ⟨w.heap.size, 3, none⟩ = some (.slice a1 x.temps.length c1) := by rw [<- hS]; simp
 have m4 : W0.cell? ⟨w.heap.size, 4, none⟩ = some (.slice a2 x.body.length c2) := by rw [<- hS]; simp
 clear hS
 have R0 := LH r0; clear r0
 have R1 := LH r1; clear r1
 have R2 := LH r2; clear r2
 go_wp2_with fail
 refine (heldStrings_p x.params _ _ _ (Rep.ext (x0) R0.out) (by omega) (by omega)).mono ?_
 rintro e w0 ⟨rfl, y0⟩
 replace m0 := y0.cell m0
 replace m1 := y0.cell m1
 replace m2 := y0.cell m2
 replace m3 := y0.cell m3
 replace m4 := y0.cell m4
 have p0 : ¬ (K + ((strs x.params).cnt : Int) < 0) := by omega
 go_wp2_with fail
 refine (heldStrings_p x.temps _ _ _ (Rep.ext ((x0).trans y0) R1.out) (by omega) (by omega)).mono ?_
 rintro e w1 ⟨rfl, y1⟩
 replace m0 := y1.cell m0
 replace m1 := y1.cell m1
 replace m2 := y1.cell m2
 replace m3 := y1.cell m3
 replace m4 := y1.cell m4
 have p1 : ¬ (K + ((strs x.params).cnt : Int) + ((strs x.temps).cnt : Int) < 0) := by omega
 go_wp2_with fail
 refine (heldExprS_any x.body _ _ _ (Rep.ext (((x0).trans y0).trans y1) R2.out) (by omega) (by omega)).mono ?_
 rintro e w2 ⟨rfl, y2⟩
 replace m0 := y2.cell m0
 replace m1 := y2.cell m1
 replace m2 := y2.cell m2
 replace m3 := y2.cell m3
 replace m4 := y2.cell m4
 have p2 : ¬ (K + ((strs x.params).cnt : Int) + ((strs x.temps).cnt : Int) + ((MExprs x.body).cnt : Int) < 0) := by omega
 have EX := LH ((((x0).trans y0).trans y1).trans y2)
 go_wp2_with fail
 go_ret
 exact ⟨ret_int (by first | rfl | (push_cast; omega)), EX.out⟩
theorem MUnit.mt_op {w : World} {x : MUnit} {K : Int} {cs : List Value} (h : Rep w (mtD K x.d) cs) : ∃ a0 c0 a1 c1 a2 c2 a3 c3, cs = [.slice a0 x.classes.length c0, .string x.main.selector, .bool x.main.cls, .slice a1 x.main.params.length c1, .slice a2 x.main.temps.length c2, .slice a3 x.main.body.length c3] /\ Rep w (mkD (K) (MClassDefs x.classes)) [.slice a0 x.classes.length c0] /\ Rep w (mtD (K + ((MClassDefs x.classes).cnt : Int)) x.main.d) [.string x.main.selector, .bool x.main.cls, .slice a1 x.main.params.length c1, .slice a2 x.main.temps.length c2, .slice a3 x.main.body.length c3] := by
 obtain ⟨fp, h⟩ := h
 rw [MUnit.mt_eq] at h
 have h0 := RepF.un_st h
 obtain ⟨a0, c0, _, f0, g0, rfl, rfl, s0, h1⟩ := RepS.un_sl (show RepS w (.sl _ _ :: _) _ _ from h0)
 simp only [mkL_length, List.length_map] at s0
 obtain ⟨k1, _, f1, g1, rfl, rfl, s1, h2⟩ := RepS.un_sub h1
 obtain ⟨u1_0, v1_0, u1_1, v1_1, u1_2, v1_2, rfl, _, _, _⟩ := MMethod.mt_op ⟨_, s1⟩
 simp only [RepS] at h2
 obtain ⟨rfl, rfl⟩ := h2
 exact ⟨a0, c0, u1_0, v1_0, u1_1, v1_1, u1_2, v1_2, by simp [mkL_length], ⟨_, s0⟩, ⟨_, s1⟩⟩
theorem heldUnit_any (x : MUnit) (cx : List Value) (K : Int) (w : World) (hr : Rep w (mtD K x.d) cx) (h0 : 0 <= K) (h1 : K + x.d.tcnt <= 1099511627776) :
 Calls Tryz.prog 8 #[.agg cx.toArray, .int .i64 K] w (fun e w' => e = .returned (.int .i64 (K + x.d.tcnt)) /\ Ext w w') := by
 have hc := MUnit.tcnt_eq x
 rw [hc] at h1 ⊢
 clear hc
 obtain ⟨a0, c0, a1, c1, a2, c2, a3, c3, rfl, r0, r1⟩ := MUnit.mt_op hr
 clear hr
 go_enter Tryz.func8, Tryz.ntmps8
 go_upto_region 1 with fail
 generalize hS : World.alloc w _ = W0
 have x0 : Ext w W0 := by rw [<- hS]; exact (XR _).alloc _
 have m0 : W0.cell? ⟨w.heap.size, 0, none⟩ = some (.slice a0 x.classes.length c0) := by rw [<- hS]; simp
 have m1 : W0.cell? ⟨w.heap.size, 1, none⟩ = some (.string x.main.selector) := by rw [<- hS]; simp
 have m2 : W0.cell? ⟨w.heap.size, 2, none⟩ = some (.bool x.main.cls) := by rw [<- hS]; simp
 have m3 : W0.cell? ⟨w.heap.size, 3, none⟩ = some (.slice a1 x.main.params.length c1) := by rw [<- hS]; simp
 have m4 : W0.cell? ⟨w.heap.size, 4, none⟩ = some (.slice a2 x.main.temps.length c2) := by rw [<- hS]; simp
 have m5 : W0.cell? ⟨w.heap.size, 5, none⟩ = some (.slice a3 x.main.body.length c3) := by rw [<- hS]; simp
 clear hS
 have R0 := LH r0; clear r0
 have R1 := LH r1; clear r1
 go_wp2_with fail
 refine (heldClassDefS_any x.classes _ _ _ (Rep.ext (x0) R0.out) (by omega) (by omega)).mono ?_
 rintro e w0 ⟨rfl, y0⟩
 replace m0 := y0.cell m0
 replace m1 := y0.cell m1
 replace m2 := y0.cell m2
 replace m3 := y0.cell m3
 replace m4 := y0.cell m4
 replace m5 := y0.cell m5
 have p0 : ¬ (K + ((MClassDefs x.classes).cnt : Int) < 0) := by omega
 go_wp2_with fail
 refine (heldMethod_any x.main _ _ _ (Rep.ext ((x0).trans y0) R1.out) (by omega) (by omega)).mono ?_
 rintro e w1 ⟨rfl, y1⟩
 replace m0 := y1.cell m0
 replace m1 := y1.cell m1
 replace m2 := y1.cell m2
 replace m3 := y1.cell m3
 replace m4 := y1.cell m4
 replace m5 := y1.cell m5
 have p1 : ¬ (K + ((MClassDefs x.classes).cnt : Int) + ((x.main.d).tcnt : Int) < 0) := by omega
 have EX := LH (((x0).trans y0).trans y1)
 go_wp2_with fail
 go_ret
 exact ⟨ret_int (by first | rfl | (push_cast; omega)), EX.out⟩
theorem RepF.off {w : World} {d : D} {cs : List Value} {fp : List Nat} {B : Nat} (h : RepF w d cs fp) (hB : B ∉ fp) (o : Nat) (v : Value) : RepF (w.setCell ⟨B, o, none⟩ v) d cs fp :=
 h.keep d fun b hb => heap_setCell_other w ⟨B, o, none⟩ b v (show b ≠ B from fun e => hB (e ▸ hb))
def blockM (p t : List ByteArray) (b : List MExpr) : MExpr := ⟨8, ⟨#[]⟩, p.length, p ++ t, b⟩
theorem l3Block_any (p t : List ByteArray) (b : List MExpr) (vp vt vb : Value) (w : World) (rp : Rep w (strs p) [vp]) (rt : Rep w (strs t) [vt]) (fb : List Nat) (rb : RepF w (MExprs b) [vb] fb) (hl : p.length + t.length <= 1048576) :
 Calls Tryz.prog 79 #[vp, vt, vb] w fun e w' => ∃ cs fp, e = .returned (.agg cs.toArray) /\ RepF w' (blockM p t b).d cs fp /\ (∀ k, k ∈ fp -> k ∈ fb ∨ w.heap.size <= k) /\ Ext w w' := by
 obtain ⟨ap, cp, bp, op, h1, hlp, hmp, pp, hp⟩ := Rep.strs rp
 obtain ⟨at', ct, bt, ot, h2, hlt, hmt, pt, ht⟩ := Rep.strs rt
 obtain ⟨ab, cb, bb, ob, h3, hlb, hmb, pb, hb⟩ := Rep.slmap rb.rep
 simp only [List.cons.injEq, and_true] at h1 h2 h3
 subst h1 h2 h3
 go_enter Tryz.func79, Tryz.ntmps79
 have hA : ∀ o : Obj, AccT (w.heap.size + 1) ((w.alloc o).alloc (.cells #[] 9)) (.slice (some ⟨w.heap.size + 1, 0, none⟩) 0 0) [] := fun o => Acc.empty_at (own_new2 w o #[] _) (Nat.le_refl _)
 go_wp2_with (at_builtin; refine wpList_append_strs rfl _ _ rfl _ (.slice (some ⟨w.heap.size + 1, 0, none⟩) 0 0) [] rfl (hA _) p _ _ _ rfl (Rep.ext (((XR w).alloc _).alloc _) rp) (by first | omega | (simp; omega)) (by simp) ?_)
 intro a1 c1 w1 ac1 hg1
 have hx1 := AccT.below (hA _) (Below.alloc (Below.refl (w.heap.size + 1) _) (by simp) _) hg1 (by simp)
 clear hg1
 have hz1 : w.heap.size + 1 <= w1.heap.size := by have := hx1.size; simpa using this
 go_wp2_with (at_builtin; refine wpList_append_strs rfl _ _ rfl _ _ _ rfl ac1 t _ _ _ rfl (Rep.ext (((XR w).alloc _).trans (ext_box hx1)) rt) (by first | omega | (simp; omega)) hz1 ?_)
 intro a2 c2 w2 ac2 hg2
 have hx2 := ext_box (AccT.below ac1 hx1 hg2 hz1)
 clear hg2 hx1 ac1 hz1
 obtain ⟨q1, q2⟩ := bcell hx2
 have hz : w.heap.size + 1 <= w2.heap.size := by have := hx2.size; simpa using this
 go_wp2_with fail
 obtain ⟨a3, c3, gp, e1, h4, hf4⟩ := ac2.rep
 simp only [List.length_append, Value.slice.injEq] at e1
 obtain ⟨rfl, -, rfl⟩ := e1
 have fin : ∀ W, Ext w W -> RepF W (strs (p ++ t)) [.slice a2 (p.length + t.length) c2] gp ->
  ∃ cs fp, Ending.returned (.agg #[.int .i64 8, .string ⟨#[]⟩, .int .i64 p.length, .slice a2 (p.length + t.length) c2, .slice ab b.length cb]) = .returned (.agg cs.toArray) /\ RepF W (blockM p t b).d cs fp /\ (∀ k, k ∈ fp -> k ∈ fb ∨ w.heap.size <= k) /\ Ext w W := by
  intro W hE hN
  refine ⟨_, _, rfl, MExpr.shut (x := blockM p t b) hN (rb.ext hE), fun k hk => ?_, hE⟩
  simp only [List.append_nil, List.mem_append] at hk
  rcases hk with hk | hk
  · have := hf4.ge k hk; exact Or.inr (by omega)
  · exact Or.inl hk
 refine bodyPost_ret (v := .agg #[.int .i64 8, .string ⟨#[]⟩, .int .i64 p.length, .slice a2 (p.length + t.length) c2, .slice ab b.length cb]) (by simp [results, Tryz.results79, go_sem, q1, hz]) rfl (fin _ ?_ ?_)
 · iterate 5 refine Ext.setCell ?_ (Nat.le_refl _) _
   exact ((XR w).alloc _).trans hx2
 · iterate 5 refine RepF.low ?_ hf4.ge (Nat.lt_succ_self _) _
   simpa only [List.length_append] using h4
theorem l5Body_any (x : MMethod) (cx : List Value) (w : World) (rx : Rep w x.d cx) (hl : x.params.length + x.temps.length <= 1048576) :
 Calls Tryz.prog 36 #[.agg cx.toArray] w fun e w' => ∃ cs, e = .returned (.agg cs.toArray) /\ Rep w' (blockM x.params x.temps x.body).d cs /\ Ext w w' := by
 obtain ⟨a1, c1, a2, c2, a3, c3, rfl, r1, r2, r3⟩ := MMethod.op_en rx
 obtain ⟨fb, r3⟩ := r3
 go_enter Tryz.func36, Tryz.ntmps36
 go_wp2_with fail
 refine (l3Block_any _ _ _ _ _ _ _ (Rep.ext (((XR w).alloc _).alloc _) r1) (Rep.ext (((XR w).alloc _).alloc _) r2) fb (RepF.ext (((XR w).alloc _).alloc _) r3) hl).mono ?_
 rintro e w1 ⟨cs, fp, rfl, h1, hfp, hx1⟩
 obtain ⟨b1, d1, b2, d2, rfl, k1, k2⟩ := MExpr.op_en h1.rep
 obtain ⟨q1, q2⟩ := bcell hx1
 have hz : w.heap.size < w1.heap.size /\ w.heap.size + 1 < w1.heap.size := by have := hx1.size; simp at this; omega
 go_wp2_with fail
 refine bodyPost_ret (v := .agg #[.int .i64 (blockM x.params x.temps x.body).kind, .string (blockM x.params x.temps x.body).text, .int .i64 (blockM x.params x.temps x.body).number, .slice b1 (blockM x.params x.temps x.body).names.length d1, .slice b2 (blockM x.params x.temps x.body).kids.length d2]) (by simp [results, Tryz.results36, go_sem, q1, hz]) rfl ⟨[.int .i64 (blockM x.params x.temps x.body).kind, .string (blockM x.params x.temps x.body).text, .int .i64 (blockM x.params x.temps x.body).number, .slice b1 (blockM x.params x.temps x.body).names.length d1, .slice b2 (blockM x.params x.temps x.body).kids.length d2], rfl, ⟨fp, ?_⟩, ?_⟩
 · have hoff : w.heap.size + 1 ∉ fp := fun hk => by
    rcases hfp _ hk with h | h
    · have := r3.lt _ _ h; omega
    · simp at h; omega
   iterate 5 refine RepF.off ?_ hoff _ _
   exact h1
 · iterate 5 refine Ext.setCell ?_ (Nat.le_succ _) _
   exact (((XR w).alloc _).alloc _).trans hx1
theorem blockOf_any (x : MMethod) (cx : List Value) (w : World) (rx : Rep w x.d cx) (hl : x.params.length + x.temps.length <= 1048576) :
 Calls Tryz.prog 102 #[.agg cx.toArray] w fun e w' => ∃ cs, e = .returned (.agg cs.toArray) /\ Rep w' (blockM x.params x.temps x.body).d cs /\ Ext w w' := by
 obtain ⟨a1, c1, a2, c2, a3, c3, rfl, r1, r2, r3⟩ := MMethod.op_en rx
 go_enter Tryz.func102, Tryz.ntmps102
 have hA : ∀ o o2 : Obj, AccT (w.heap.size + 1 + 1) (((w.alloc o).alloc o2).alloc (.cells #[] 9)) (.slice (some ⟨w.heap.size + 1 + 1, 0, none⟩) 0 0) [] := fun o o2 => Acc.empty_at (own_new3 w o o2 #[] _) (Nat.le_refl _)
 obtain ⟨W0, hW0⟩ : ∃ W0, W0 = ((w.alloc (.cells #[.string x.selector, .bool x.cls, .slice a1 x.params.length c1, .slice a2 x.temps.length c2, .slice a3 x.body.length c3] 26)).alloc (.cells #[.int .i64 0, .string ⟨#[]⟩, .int .i64 0, .slice none 0 0, .slice none 0 0] 70)) := ⟨_, rfl⟩
 have E0 : Ext w W0 := by rw [hW0]; exact ((XR w).alloc _).alloc _
 have KS : Hid (∀ w', Below (w.heap.size + 1 + 1) W0 w' -> w'.cell? ⟨w.heap.size, 2, none⟩ = some (.slice a1 x.params.length c1) /\ w'.cell? ⟨w.heap.size, 3, none⟩ = some (.slice a2 x.temps.length c2) /\ Below (w.heap.size + 1 + 1) W0 w') := LH fun w' h => ⟨by
  rw [h.cell (by show w.heap.size < _; omega), hW0]; simp, by
  rw [h.cell (by show w.heap.size < _; omega), hW0]; simp, h⟩
 have KE : ∀ w', Below (w.heap.size + 1 + 1) W0 w' -> Ext w w' := fun w' h => E0.trans (by subst hW0; exact ext_box2 h)
 have HA : AccT (w.heap.size + 1 + 1) (W0.alloc (.cells #[] 9)) (.slice (some ⟨w.heap.size + 1 + 1, 0, none⟩) 0 0) [] := by rw [hW0]; exact hA _ _
 have zW : W0.heap.size = w.heap.size + 1 + 1 := by rw [hW0]; simp
 clear hA
 subst hW0
 have HD := HA.ext (Ext.drew (XR _))
 have HB := Below.drew (Below.alloc (Below.refl (w.heap.size + 1 + 1) _) (Nat.le_of_eq zW.symm) (.cells #[] 9))
 have HZ := HB.size
 rw [zW] at HZ
 have hb0 := HB
 have HR1 := Rep.ext (KE _ HB) r1
 go_wp2_with fail
 go_region_held3 (fun w' => w'.cell? ⟨w.heap.size, 2, none⟩ = some (.slice a1 x.params.length c1) /\ w'.cell? ⟨w.heap.size, 3, none⟩ = some (.slice a2 x.temps.length c2) /\ Below (w.heap.size + 1 + 1) ((w.alloc (.cells #[.string x.selector, .bool x.cls, .slice a1 x.params.length c1, .slice a2 x.temps.length c2, .slice a3 x.body.length c3] 26)).alloc (.cells #[.int .i64 0, .string ⟨#[]⟩, .int .i64 0, .slice none 0 0, .slice none 0 0] 70)) w')
  (first | exact KS.out _ hb2 | exact KS.out _ hb1 | exact KS.out _ HB | exact KS.out _ (Below.drew (Below.refl _ _)))
  (first
   | (refine step_append_strs rfl _ _ rfl (w.heap.size + 1 + 1) (.slice (some ⟨w.heap.size + 1 + 1, 0, none⟩) 0 0) [] rfl HD x.params _ _ _ rfl HR1 (by first | omega | (simp; omega)) HZ ?_; intro a4 c4 w1 ac1 hg1; have hb1 := AccT.below HD HB hg1 HZ; simp only [List.length_nil, Nat.zero_add, List.nil_append] at ac1 ⊢)
   | (go_loud (have hz1 : w.heap.size + 1 + 1 <= w1.heap.size := by (have := hb1.size; rw [zW] at this; exact this)
               refine step_append_strs rfl _ _ rfl (w.heap.size + 1 + 1) _ x.params rfl ac1 x.temps _ _ _ rfl (Rep.ext (KE _ hb1) r2) (by omega) hz1 ?_; intro a5 c5 w2 ac2 hg2; have hb2 := AccT.below ac1 hb1 hg2 hz1)))
 clear hb1 KS HR1 HD HB HZ HA
 have E2 := KE _ hb2
 obtain ⟨q1, q2⟩ := bcell (ext_box2 hb2)
 have hz : w.heap.size + 1 + 1 <= w2.heap.size := by have := hb2.size; rw [zW] at this; exact this
 clear KE zW hb2
 go_wp2_with fail
 obtain ⟨a6, c6, gp, e1, h4, hf4⟩ := ac2.rep
 simp only [List.length_append, Value.slice.injEq] at e1
 obtain ⟨rfl, -, rfl⟩ := e1
 have fin : ∀ W, Ext w W -> RepF W (strs (x.params ++ x.temps)) [.slice a5 (x.params.length + x.temps.length) c5] gp ->
  ∃ cs, Ending.returned (.agg #[.int .i64 8, .string ⟨#[]⟩, .int .i64 x.params.length, .slice a5 (x.params.length + x.temps.length) c5, .slice a3 x.body.length c3]) = .returned (.agg cs.toArray) /\ Rep W (blockM x.params x.temps x.body).d cs /\ Ext w W := by
  intro W hE hN
  obtain ⟨fb, hb'⟩ := Rep.ext hE r3
  exact ⟨_, rfl, (MExpr.shut (x := blockM x.params x.temps x.body) hN hb').rep, hE⟩
 refine bodyPost_ret (v := .agg #[.int .i64 8, .string ⟨#[]⟩, .int .i64 x.params.length, .slice a5 (x.params.length + x.temps.length) c5, .slice a3 x.body.length c3]) (by simp [results, Tryz.results102, go_sem, q1, hz]) rfl (fin _ ?_ ?_)
 · iterate 5 refine Ext.setCell ?_ (Nat.le_succ _) _
   exact E2
 · iterate 5 refine RepF.low ?_ hf4.ge (Nat.lt_succ_self _) _
   simpa only [List.length_append] using h4
theorem bulk_method {x : MMethod} (h : x.d.bulk <= 1048576) : x.params.length + x.temps.length <= 1048576 := by
 simp only [MMethod.d, D.bulk, D.bulkL, strs, List.length_map] at h
 omega
mutual
def MExpr.size : MExpr -> Nat
 | ⟨_, _, _, _, ks⟩ => 1 + MExpr.sizeL ks
def MExpr.sizeL : List MExpr -> Nat
 | [] => 0
 | k :: ks => k.size + MExpr.sizeL ks
end
mutual
def MExpr.depth : MExpr -> Nat
 | ⟨_, _, _, _, ks⟩ => 1 + MExpr.depthL ks
def MExpr.depthL : List MExpr -> Nat
 | [] => 0
 | k :: ks => max k.depth (MExpr.depthL ks)
end
theorem MExpr.size_eq (x : MExpr) : x.size = 1 + MExpr.sizeL x.kids := by cases x; simp only [MExpr.size]
theorem MExpr.depth_eq (x : MExpr) : x.depth = 1 + MExpr.depthL x.kids := by cases x; simp only [MExpr.depth]
theorem MExpr.sizeL_append : ∀ (xs ys : List MExpr), MExpr.sizeL (xs ++ ys) = MExpr.sizeL xs + MExpr.sizeL ys
 | [], ys => by simp [MExpr.sizeL]
 | x :: xs, ys => by simp [MExpr.sizeL, MExpr.sizeL_append xs ys]; omega
theorem MExpr.depthL_append : ∀ (xs ys : List MExpr), MExpr.depthL (xs ++ ys) = max (MExpr.depthL xs) (MExpr.depthL ys)
 | [], ys => by simp [MExpr.depthL]
 | x :: xs, ys => by simp only [List.cons_append, MExpr.depthL, MExpr.depthL_append xs ys]; omega
theorem MExpr.sizeL_succ {a : List MExpr} {k : Nat} (h : k < a.length) : MExpr.sizeL (a.take (k + 1)) = MExpr.sizeL (a.take k) + a[k].size := by
 rw [List.take_succ_eq_append_getElem h, MExpr.sizeL_append]; simp [MExpr.sizeL]
theorem MExpr.depthL_succ {a : List MExpr} {k : Nat} (h : k < a.length) : MExpr.depthL (a.take (k + 1)) = max (MExpr.depthL (a.take k)) a[k].depth := by
 rw [List.take_succ_eq_append_getElem h, MExpr.depthL_append]; simp [MExpr.depthL]
mutual
theorem MExpr.size_le : ∀ (x : MExpr), x.size <= 1 + x.d.bulk
 | ⟨k, t, n, ns, ks⟩ => by
  have := MExpr.sizeL_le ks
  rw [MExpr.d_eq]
  simp only [MExpr.size, D.bulk, D.bulkL, MExprs]
  simp only [List.length_map]
  omega
theorem MExpr.sizeL_le : ∀ (l : List MExpr), MExpr.sizeL l <= l.length + D.bulkL (l.map MExpr.d)
 | [] => by simp [MExpr.sizeL]
 | x :: xs => by
  have := MExpr.size_le x
  have := MExpr.sizeL_le xs
  simp only [MExpr.sizeL, List.map_cons, D.bulkL, List.length_cons]
  omega
end
mutual
theorem MExpr.depth_le : ∀ (x : MExpr), x.depth <= x.size
 | ⟨k, t, n, ns, ks⟩ => by
  have := MExpr.depthL_le ks
  simp only [MExpr.size, MExpr.depth]; omega
theorem MExpr.depthL_le : ∀ (l : List MExpr), MExpr.depthL l <= MExpr.sizeL l
 | [] => by simp [MExpr.sizeL, MExpr.depthL]
 | x :: xs => by
  have := MExpr.depth_le x
  have := MExpr.depthL_le xs
  simp only [MExpr.sizeL, MExpr.depthL]; omega
end
theorem MExpr.sizeL_take (a : List MExpr) (k : Nat) : MExpr.sizeL (a.take k) <= MExpr.sizeL a := by
 have := MExpr.sizeL_append (a.take k) (a.drop k)
 rw [List.take_append_drop] at this; omega
theorem MExpr.size_mem {a : List MExpr} {x : MExpr} (h : x ∈ a) : x.size <= MExpr.sizeL a := by
 induction a with
 | nil => simp at h
 | cons y ys ih =>
  simp only [MExpr.sizeL]
  rcases List.mem_cons.1 h with rfl | h
  · omega
  · have := ih h; omega
theorem impl_SizeOfExpr_lt : ∀ (n : Nat) (x : MExpr) (cx : List Value) (w : World), SizeOf.sizeOf x < n -> x.size <= 1048577 -> Rep w x.d cx ->
 Calls Tryz.prog 123 #[.agg cx.toArray] w fun e w' => e = .returned (.int .i64 x.size) /\ Ext w w' := by
 intro n
 induction n with
 | zero => intro x cx w h; omega
 | succ n ih =>
  intro x cx w hn hsz rx
  obtain ⟨an, cn, ak, ck, rfl, -, sx⟩ := MExpr.op_en rx
  have hk : Hid (∀ z, z ∈ x.kids -> SizeOf.sizeOf z < n) := LH fun z hz => by have := MExpr.kid_lt hz; omega
  clear rx hn
  have IH := LH ih; clear ih
  obtain ⟨ao, ca, ba, oa, h1, hla, hma, pa, ha⟩ := Rep.slmap sx
  simp only [List.cons.injEq, and_true, Value.slice.injEq] at h1
  obtain ⟨rfl, -, rfl⟩ := h1
  clear sx
  unfold maxLen at hma
  rw [MExpr.size_eq] at hsz
  have Hsz := LH hsz; clear hsz
  go_enter Tryz.func123, Tryz.ntmps123
  go_wp2_with fail
  go_loopw [3, 9] (fun v i wr => ∃ (k : Nat) (q : Nat), k <= x.kids.length /\ i = .int .i64 k /\ v = .int .i64 q /\ q <= 1048577 /\ Ext w wr /\ Hid (q = 1 + MExpr.sizeL (x.kids.take k))) (fun _ i _ => x.kids.length - (intOf i).toNat)
  case atStart => exact ⟨0, 1, Nat.zero_le _, rfl, rfl, by omega, (XR w).alloc _, LH (by simp [MExpr.sizeL])⟩
  case round =>
   obtain ⟨k, q, hk', rfl, rfl, hq, hx, hq'⟩ := hrel
   by_cases hlt : k < x.kids.length
   · obtain rfl := pa (by omega)
     obtain ⟨ea, la, c1, ra⟩ := ha k x.kids[k] (by simp [hlt])
     obtain ⟨aa0, cc0, aa1, cc1, rfl, -, -⟩ := MExpr.op_en ra
     have a0 := hx.cell (show w.cell? ⟨ba, oa + k * 5, none⟩ = some _ from c1 0 (by omega))
     have a1 := hx.cell (show w.cell? ⟨ba, oa + k * 5 + 1, none⟩ = some _ from c1 1 (by omega))
     have a2 := hx.cell (show w.cell? ⟨ba, oa + k * 5 + 2, none⟩ = some _ from c1 2 (by omega))
     have a3 := hx.cell (show w.cell? ⟨ba, oa + k * 5 + 3, none⟩ = some _ from c1 3 (by omega))
     have a4 := hx.cell (show w.cell? ⟨ba, oa + k * 5 + 4, none⟩ = some _ from c1 4 (by omega))
     clear c1 la ha pa
     have hs1 := MExpr.sizeL_succ hlt
     have hs2 := MExpr.sizeL_take x.kids (k + 1)
     have hs3 : x.kids[k].size <= 1048577 := by have := MExpr.size_mem (List.getElem_mem hlt); have := Hsz.out; omega
     have hs4 : q + x.kids[k].size <= 1048577 := by have := Hsz.out; have := hq'.out; omega
     have HS := LH hs1; clear hs1 hs2
     go_wp2_with fail
     refine (IH.out x.kids[k] _ _ (hk.out _ (List.getElem_mem hlt)) hs3 (Rep.ext (hx.alloc _) ra)).mono ?_
     clear a0 a1 a2 a3 a4
     rintro e w2 ⟨rfl, hx2⟩
     go_wp2_with fail
     go_roundw
     case rel => exact ⟨k + 1, q + x.kids[k].size, by omega, by go_num, by go_num, hs4, (hx.alloc _).trans hx2, LH (by rw [HS.out, hq'.out]; omega)⟩
     case measure => simp [intOf]; omega
   · go_wp2_with fail
     go_ret
     obtain rfl : k = x.kids.length := by omega
     exact ⟨ret_int (by have := hq'.out; rw [List.take_length] at this; rw [MExpr.size_eq, this]), hx⟩
theorem bulk_size {x : MExpr} (h : x.d.bulk <= 1048576) : x.size <= 1048577 := by have := MExpr.size_le x; omega
theorem impl_SizeOfExpr_any (x : MExpr) (cx : List Value) (w : World) (rx : Rep w x.d cx) (hb : x.size <= 1048577) :
 Calls Tryz.prog 123 #[.agg cx.toArray] w fun e w' => e = .returned (.int .i64 x.size) /\ Ext w w' := impl_SizeOfExpr_lt _ x cx w (Nat.lt_succ_self _) hb rx
theorem l1Max_any (a b : Int) (w : World) : Calls Tryz.prog 112 #[.int .i64 a, .int .i64 b] w fun e w' => e = .returned (.int .i64 (max a b)) /\ w' = w := by
 by_cases h : b < a
 · go_enter Tryz.func112, Tryz.ntmps112
   go_wp2
   go_ret
   exact ⟨ret_int (by omega), rfl⟩
 · go_enter Tryz.func112, Tryz.ntmps112
   go_wp2
   go_ret
   exact ⟨ret_int (by omega), rfl⟩
theorem l3Depth_lt : ∀ (n : Nat) (x : MExpr) (cx : List Value) (w : World), SizeOf.sizeOf x < n -> x.size <= 1048577 -> Rep w x.d cx ->
 Calls Tryz.prog 77 #[.agg cx.toArray] w fun e w' => e = .returned (.int .i64 x.depth) /\ Ext w w' := by
 intro n
 induction n with
 | zero => intro x cx w h; omega
 | succ n ih =>
  intro x cx w hn hsz rx
  obtain ⟨an, cn, ak, ck, rfl, -, sx⟩ := MExpr.op_en rx
  have hk : Hid (∀ z, z ∈ x.kids -> SizeOf.sizeOf z < n) := LH fun z hz => by have := MExpr.kid_lt hz; omega
  clear rx hn
  have IH := LH ih; clear ih
  obtain ⟨ao, ca, ba, oa, h1, hla, hma, pa, ha⟩ := Rep.slmap sx
  simp only [List.cons.injEq, and_true, Value.slice.injEq] at h1
  obtain ⟨rfl, -, rfl⟩ := h1
  clear sx
  unfold maxLen at hma
  rw [MExpr.size_eq] at hsz
  have Hsz := LH hsz; clear hsz
  go_enter Tryz.func77, Tryz.ntmps77
  go_wp2_with fail
  go_loopw [3, 4] (fun v i wr => ∃ (k : Nat) (q : Nat), k <= x.kids.length /\ i = .int .i64 k /\ v = .int .i64 q /\ q <= 1048577 /\ Ext w wr /\ wr.cell? ⟨w.heap.size, 4, none⟩ = some (.slice ak x.kids.length ck) /\ Hid (q = MExpr.depthL (x.kids.take k))) (fun _ i _ => x.kids.length - (intOf i).toNat)
  case atStart => exact ⟨0, 0, Nat.zero_le _, rfl, rfl, by omega, (XR w).alloc _, by simp, LH (by simp [MExpr.depthL])⟩
  case round =>
   obtain ⟨k, q, hk', rfl, rfl, hq, hx, m0, hq'⟩ := hrel
   by_cases hlt : k < x.kids.length
   · obtain rfl := pa (by omega)
     obtain ⟨ea, la, c1, ra⟩ := ha k x.kids[k] (by simp [hlt])
     obtain ⟨aa0, cc0, aa1, cc1, rfl, -, -⟩ := MExpr.op_en ra
     have a0 := hx.cell (show w.cell? ⟨ba, oa + k * 5, none⟩ = some _ from c1 0 (by omega))
     have a1 := hx.cell (show w.cell? ⟨ba, oa + k * 5 + 1, none⟩ = some _ from c1 1 (by omega))
     have a2 := hx.cell (show w.cell? ⟨ba, oa + k * 5 + 2, none⟩ = some _ from c1 2 (by omega))
     have a3 := hx.cell (show w.cell? ⟨ba, oa + k * 5 + 3, none⟩ = some _ from c1 3 (by omega))
     have a4 := hx.cell (show w.cell? ⟨ba, oa + k * 5 + 4, none⟩ = some _ from c1 4 (by omega))
     clear c1 la ha pa
     have hs3 : x.kids[k].size <= 1048577 := by have := MExpr.size_mem (List.getElem_mem hlt); have := Hsz.out; omega
     have hs4 : max (q : Int) x.kids[k].depth <= 1048577 /\ 0 <= max (q : Int) x.kids[k].depth := by have := MExpr.depth_le x.kids[k]; omega
     obtain ⟨hs4, hs5⟩ := hs4
     have HS := LH (MExpr.depthL_succ hlt)
     go_wp2_with fail
     refine (IH.out x.kids[k] _ wr (hk.out _ (List.getElem_mem hlt)) hs3 (Rep.ext hx ra)).mono ?_
     clear a0 a1 a2 a3 a4
     rintro e w2 ⟨rfl, hx2⟩
     go_wp2_with fail
     refine (l1Max_any _ _ _).mono ?_
     rintro e w3 ⟨rfl, rfl⟩
     go_wp2_with fail
     go_roundw
     case rel => exact ⟨k + 1, max q x.kids[k].depth, by omega, by go_num, by rw [show ((max q x.kids[k].depth : Nat) : Int) = max (q : Int) x.kids[k].depth from by omega], by omega, hx.trans hx2, Ext.cell hx2 m0, LH (by rw [HS.out, hq'.out])⟩
     case measure => simp [intOf]; omega
   · go_wp2_with fail
     go_ret
     obtain rfl : k = x.kids.length := by omega
     exact ⟨ret_int (by have := hq'.out; rw [List.take_length] at this; rw [MExpr.depth_eq, this]; omega), hx⟩
theorem impl_DepthOfExpr_lt : ∀ (n : Nat) (x : MExpr) (cx : List Value) (w : World), SizeOf.sizeOf x < n -> x.size <= 1048577 -> Rep w x.d cx ->
 Calls Tryz.prog 124 #[.agg cx.toArray] w fun e w' => e = .returned (.int .i64 x.depth) /\ Ext w w' := by
 intro n
 induction n with
 | zero => intro x cx w h; omega
 | succ n ih =>
  intro x cx w hn hsz rx
  obtain ⟨an, cn, ak, ck, rfl, -, sx⟩ := MExpr.op_en rx
  have hk : Hid (∀ z, z ∈ x.kids -> SizeOf.sizeOf z < n) := LH fun z hz => by have := MExpr.kid_lt hz; omega
  clear rx hn
  have IH := LH ih; clear ih
  obtain ⟨ao, ca, ba, oa, h1, hla, hma, pa, ha⟩ := Rep.slmap sx
  simp only [List.cons.injEq, and_true, Value.slice.injEq] at h1
  obtain ⟨rfl, -, rfl⟩ := h1
  clear sx
  unfold maxLen at hma
  rw [MExpr.size_eq] at hsz
  have Hsz := LH hsz; clear hsz
  go_enter Tryz.func124, Tryz.ntmps124
  go_wp2_with fail
  go_loopw [3, 9] (fun v i wr => ∃ (k : Nat) (q : Nat), k <= x.kids.length /\ i = .int .i64 k /\ v = .int .i64 q /\ q <= 1048577 /\ Ext w wr /\ Hid (q = MExpr.depthL (x.kids.take k))) (fun _ i _ => x.kids.length - (intOf i).toNat)
  case atStart => exact ⟨0, 0, Nat.zero_le _, rfl, rfl, by omega, (XR w).alloc _, LH (by simp [MExpr.depthL])⟩
  case round =>
   obtain ⟨k, q, hk', rfl, rfl, hq, hx, hq'⟩ := hrel
   by_cases hlt : k < x.kids.length
   · obtain rfl := pa (by omega)
     obtain ⟨ea, la, c1, ra⟩ := ha k x.kids[k] (by simp [hlt])
     obtain ⟨aa0, cc0, aa1, cc1, rfl, -, -⟩ := MExpr.op_en ra
     have a0 := hx.cell (show w.cell? ⟨ba, oa + k * 5, none⟩ = some _ from c1 0 (by omega))
     have a1 := hx.cell (show w.cell? ⟨ba, oa + k * 5 + 1, none⟩ = some _ from c1 1 (by omega))
     have a2 := hx.cell (show w.cell? ⟨ba, oa + k * 5 + 2, none⟩ = some _ from c1 2 (by omega))
     have a3 := hx.cell (show w.cell? ⟨ba, oa + k * 5 + 3, none⟩ = some _ from c1 3 (by omega))
     have a4 := hx.cell (show w.cell? ⟨ba, oa + k * 5 + 4, none⟩ = some _ from c1 4 (by omega))
     clear c1 la ha pa
     have hs3 : x.kids[k].size <= 1048577 := by have := MExpr.size_mem (List.getElem_mem hlt); have := Hsz.out; omega
     have hs5 : x.kids[k].depth <= 1048577 := by have := MExpr.depth_le x.kids[k]; omega
     have HS := LH (MExpr.depthL_succ hlt)
     by_cases hm : (q : Int) < x.kids[k].depth
     all_goals
      go_wp2_with fail
      refine (IH.out x.kids[k] _ _ (hk.out _ (List.getElem_mem hlt)) hs3 (Rep.ext (hx.alloc _) ra)).mono ?_
      clear a0 a1 a2 a3 a4
      rintro e w2 ⟨rfl, hx2⟩
      go_wp2_with fail
      go_roundw
      case rel => exact ⟨k + 1, max q x.kids[k].depth, by omega, by go_num, by go_num, by omega, (hx.alloc _).trans hx2, LH (by rw [HS.out, hq'.out])⟩
      case measure => simp [intOf]; omega
   · go_wp2_with fail
     go_ret
     obtain rfl : k = x.kids.length := by omega
     exact ⟨ret_int (by have := hq'.out; rw [List.take_length] at this; rw [MExpr.depth_eq, this]; omega), hx⟩
theorem impl_DepthOfExpr_any (x : MExpr) (cx : List Value) (w : World) (rx : Rep w x.d cx) (hb : x.size <= 1048577) :
 Calls Tryz.prog 124 #[.agg cx.toArray] w fun e w' => e = .returned (.int .i64 x.depth) /\ Ext w w' := impl_DepthOfExpr_lt _ x cx w (Nat.lt_succ_self _) hb rx
def tkB (ts : List MToken) (a : Nat) (k : Int) : Bool := match ts[a]? with | some t => t.kind == k | none => false
noncomputable def tkxB (ts : List MToken) (a : Nat) (k : Int) (s : ByteArray) : Bool := match ts[a]? with | some t => t.kind == k && eqB t.text s | none => false
def tkT (ts : List MToken) (a : Nat) : ByteArray := match ts[a]? with | some t => t.text | none => ⟨#[]⟩
def tkN (ts : List MToken) (a : Nat) : Int := match ts[a]? with | some t => t.number | none => 0
def asgM : ByteArray := ⟨#[58, 61]⟩
def lparM : ByteArray := ⟨#[40]⟩
def rparM : ByteArray := ⟨#[41]⟩
def lbrM : ByteArray := ⟨#[91]⟩
def rbrM : ByteArray := ⟨#[93]⟩
def semiM : ByteArray := ⟨#[59]⟩
def colM : ByteArray := ⟨#[58]⟩
def barM : ByteArray := ⟨#[124]⟩
def retM : ByteArray := ⟨#[94]⟩
def dotM : ByteArray := ⟨#[46]⟩
def eName (s : ByteArray) : MExpr := ⟨4, s, 0, [], []⟩
def eInt (n : Int) : MExpr := ⟨1, ⟨#[]⟩, n, [], []⟩
def eText (s : ByteArray) : MExpr := ⟨2, s, 0, [], []⟩
def eSym (s : ByteArray) : MExpr := ⟨3, s, 0, [], []⟩
def eAsg (s : ByteArray) (e : MExpr) : MExpr := ⟨5, s, 0, [], [e]⟩
def eMsg (s : ByteArray) (l : List MExpr) : MExpr := ⟨6, s, 0, [], l⟩
def eCasc (l : List MExpr) : MExpr := ⟨7, ⟨#[]⟩, 0, [], l⟩
def eRet (e : MExpr) : MExpr := ⟨9, ⟨#[]⟩, 0, [], [e]⟩
def pNames (ts : List MToken) : Nat -> List ByteArray -> Nat -> Option (List ByteArray × Nat)
 | 0, _, _ => none
 | n + 1, l, a => if tkB ts a 1 = true then pNames ts n (l ++ [tkT ts a]) (a + 1) else some (l, a)
noncomputable def pVars (ts : List MToken) (n : Nat) (a : Nat) : Option (List ByteArray × Nat) :=
 if tkxB ts a 7 barM = true then (pNames ts n [] (a + 1)).bind fun r => if tkxB ts r.2 7 barM = true then some (r.1, r.2 + 1) else none else some ([], a)
noncomputable def pPars (ts : List MToken) : Nat -> List ByteArray -> Nat -> Option (List ByteArray × Nat)
 | 0, _, _ => none
 | n + 1, l, a => if tkxB ts a 7 colM = true then (if tkB ts (a + 1) 1 = true then pPars ts n (l ++ [tkT ts (a + 1)]) (a + 2) else none) else some (l, a)
noncomputable def beginsB (ts : List MToken) (a : Nat) : Bool := tkB ts a 1 || tkB ts a 3 || tkB ts a 4 || tkB ts a 5 || tkxB ts a 7 lparM || tkxB ts a 7 lbrM
mutual
noncomputable def pExpr (ts : List MToken) : Nat -> Nat -> Option (MExpr × Nat)
 | 0, _ => none
 | n + 1, a => if (tkB ts a 1 && tkxB ts (a + 1) 7 asgM) = true then (pExpr ts n (a + 2)).bind fun r => some (eAsg (tkT ts a) r.1, r.2)
  else (pBinary ts n a).bind fun r => pWord ts n r.1 r.2.1 r.2.2
noncomputable def pWord (ts : List MToken) : Nat -> MExpr -> Bool -> Nat -> Option (MExpr × Nat)
 | 0, _, _, _ => none
 | n + 1, e, s, a => if tkB ts a 2 = true then (pKeys ts n ⟨#[]⟩ [] a).bind fun r => pSemi ts n (eMsg r.1 (e :: r.2.1)) true r.2.2 else pSemi ts n e s a
noncomputable def pSemi (ts : List MToken) : Nat -> MExpr -> Bool -> Nat -> Option (MExpr × Nat)
 | 0, _, _, _ => none
 | n + 1, e, s, a => if tkxB ts a 7 semiM = true then (if s = true then pCasc ts n (e.kids.take 1 ++ [eMsg e.text (e.kids.drop 1)]) a else none) else some (e, a)
noncomputable def pCasc (ts : List MToken) : Nat -> List MExpr -> Nat -> Option (MExpr × Nat)
 | 0, _, _ => none
 | n + 1, l, a => if tkxB ts a 7 semiM = true then (pMsg ts n (a + 1)).bind fun r => pCasc ts n (l ++ [r.1]) r.2 else some (eCasc l, a)
noncomputable def pMsg (ts : List MToken) : Nat -> Nat -> Option (MExpr × Nat)
 | 0, _ => none
 | n + 1, a => if tkB ts a 1 = true then some (eMsg (tkT ts a) [], a + 1)
  else if tkB ts a 6 = true then (pUnary ts n (a + 1)).bind fun r => some (eMsg (tkT ts a) [r.1], r.2.2)
  else if tkB ts a 2 = true then (pKeys ts n ⟨#[]⟩ [] a).bind fun r => some (eMsg r.1 r.2.1, r.2.2)
  else none
noncomputable def pKeys (ts : List MToken) : Nat -> ByteArray -> List MExpr -> Nat -> Option (ByteArray × List MExpr × Nat)
 | 0, _, _, _ => none
 | n + 1, s, l, a => if tkB ts a 2 = true then (pBinary ts n (a + 1)).bind fun r => pKeys ts n (s ++ tkT ts a) (l ++ [r.1]) r.2.2 else some (s, l, a)
noncomputable def pBinary (ts : List MToken) : Nat -> Nat -> Option (MExpr × Bool × Nat)
 | 0, _ => none
 | n + 1, a => (pUnary ts n a).bind fun r => pBin ts n r.1 r.2.1 r.2.2
noncomputable def pBin (ts : List MToken) : Nat -> MExpr -> Bool -> Nat -> Option (MExpr × Bool × Nat)
 | 0, _, _, _ => none
 | n + 1, e, s, a => if tkB ts a 6 = true then (pUnary ts n (a + 1)).bind fun r => pBin ts n (eMsg (tkT ts a) [e, r.1]) true r.2.2 else some (e, s, a)
noncomputable def pUnary (ts : List MToken) : Nat -> Nat -> Option (MExpr × Bool × Nat)
 | 0, _ => none
 | n + 1, a => (pPrim ts n a).bind fun r => pUn ts n r.1 false r.2
noncomputable def pUn (ts : List MToken) : Nat -> MExpr -> Bool -> Nat -> Option (MExpr × Bool × Nat)
 | 0, _, _, _ => none
 | n + 1, e, s, a => if tkB ts a 1 = true then pUn ts n (eMsg (tkT ts a) [e]) true (a + 1) else some (e, s, a)
noncomputable def pPrim (ts : List MToken) : Nat -> Nat -> Option (MExpr × Nat)
 | 0, _ => none
 | n + 1, a => if tkB ts a 1 = true then some (eName (tkT ts a), a + 1)
  else if tkB ts a 3 = true then some (eInt (tkN ts a), a + 1)
  else if tkB ts a 4 = true then some (eText (tkT ts a), a + 1)
  else if tkB ts a 5 = true then some (eSym (tkT ts a), a + 1)
  else if tkxB ts a 7 lparM = true then (pExpr ts n (a + 1)).bind fun r => if tkxB ts r.2 7 rparM = true then some (r.1, r.2 + 1) else none
  else if tkxB ts a 7 lbrM = true then pBlock ts n (a + 1)
  else none
noncomputable def pBlock (ts : List MToken) : Nat -> Nat -> Option (MExpr × Nat)
 | 0, _ => none
 | n + 1, a => (pBody ts n a).bind fun r => if tkxB ts r.2 7 rbrM = true then some (r.1, r.2 + 1) else none
noncomputable def pBody (ts : List MToken) : Nat -> Nat -> Option (MExpr × Nat)
 | 0, _ => none
 | n + 1, a => (pPars ts n [] a).bind fun p => if (p.1.length ≠ 0 /\ tkxB ts p.2 7 barM = false) then none else
  (pVars ts n (if p.1.length ≠ 0 then p.2 + 1 else p.2)).bind fun v => (pStmts ts n [] v.2).bind fun b => some (blockM p.1 v.1 b.1, b.2)
noncomputable def pStmts (ts : List MToken) : Nat -> List MExpr -> Nat -> Option (List MExpr × Nat)
 | 0, _, _ => none
 | n + 1, l, a => if tkxB ts a 7 retM = true then (pExpr ts n (a + 1)).bind fun r => some (l ++ [eRet r.1], if tkxB ts r.2 7 dotM = true then r.2 + 1 else r.2)
  else if beginsB ts a = true then (pExpr ts n a).bind fun r => if tkxB ts r.2 7 dotM = true then pStmts ts n (l ++ [r.1]) (r.2 + 1) else some (l ++ [r.1], r.2)
  else some (l, a)
end
def Ev {α : Type} (f : Nat -> Option α) (r : Option α) : Prop := ∃ n0, ∀ n, n0 <= n -> f n = r
theorem Ev.uniq {α : Type} {f : Nat -> Option α} {r s : Option α} (h : Ev f r) (k : Ev f s) : r = s := by
 obtain ⟨n, h⟩ := h
 obtain ⟨m, k⟩ := k
 rw [<- h (max n m) (Nat.le_max_left _ _), <- k (max n m) (Nat.le_max_right _ _)]
theorem Ev.const {α : Type} (r : Option α) : Ev (fun _ => r) r := ⟨0, fun _ _ => rfl⟩
theorem Ev.step {α : Type} {f g : Nat -> Option α} {r : Option α} (hf : ∀ n, f (n + 1) = g n) (h : Ev g r) : Ev f r := by
 obtain ⟨n0, h⟩ := h
 refine ⟨n0 + 1, fun n hn => ?_⟩
 obtain ⟨m, rfl⟩ : ∃ m, n = m + 1 := ⟨n - 1, by omega⟩
 rw [hf, h m (by omega)]
theorem Ev.bind {α β : Type} {f : Nat -> Option α} {g : Nat -> α -> Option β} {x : α} {r : Option β} (h : Ev f (some x)) (k : Ev (fun n => g n x) r) : Ev (fun n => (f n).bind (g n)) r := by
 obtain ⟨n, h⟩ := h
 obtain ⟨m, k⟩ := k
 refine ⟨max n m, fun i hi => ?_⟩
 show (f i).bind (g i) = r
 rw [h i (Nat.le_trans (Nat.le_max_left _ _) hi)]
 exact k i (Nat.le_trans (Nat.le_max_right _ _) hi)
theorem Ev.bind_none {α β : Type} {f : Nat -> Option α} {g : Nat -> α -> Option β} (h : Ev f none) : Ev (fun n => (f n).bind (g n)) none := by
 obtain ⟨n, h⟩ := h
 exact ⟨n, fun i hi => by show (f i).bind (g i) = none; rw [h i hi]; rfl⟩
structure Got {α : Type} (bad : Bool) (F : Nat -> Option α) (bad' : Bool) (y : α) : Prop where
 keep : bad = true -> bad' = true
 no : bad = false -> bad' = true -> Ev F none
 yes : bad = false -> bad' = false -> Ev F (some y)
theorem Got.dead {α : Type} (F : Nat -> Option α) (y : α) : Got true F true y := ⟨fun _ => rfl, fun h => (by cases h), fun h => (by cases h)⟩
theorem Got.ok {α : Type} {b : Bool} {F : Nat -> Option α} {y : α} (h : Ev F (some y)) : Got b F b y := ⟨fun h => h, fun e k => (by rw [e] at k; cases k), fun _ _ => h⟩
theorem Got.bad {α : Type} {b : Bool} {F : Nat -> Option α} (y : α) (h : Ev F none) : Got b F true y := ⟨fun _ => rfl, fun _ _ => h, fun _ k => (by cases k)⟩
structure Todo {β : Type} (bad : Bool) (G : Nat -> Option β) (b : Bool) (F : Nat -> Option β) : Prop where
 keep : bad = true -> b = true
 no : bad = false -> b = true -> Ev G none
 yes : bad = false -> b = false -> ∀ r, Ev F r -> Ev G r
theorem Todo.refl {β : Type} (b : Bool) (G : Nat -> Option β) : Todo b G b G := ⟨fun h => h, fun h k => (by rw [h] at k; cases k), fun _ _ _ h => h⟩
theorem Todo.trans {β : Type} {b0 b1 b2 : Bool} {G F H : Nat -> Option β} (h : Todo b0 G b1 F) (k : Todo b1 F b2 H) : Todo b0 G b2 H where
 keep e := k.keep (h.keep e)
 no e e2 := by
  cases b1 with
  | true => exact h.no e rfl
  | false => exact h.yes e rfl _ (k.no rfl e2)
 yes e e2 r hr := by
  cases b1 with
  | true => have := k.keep rfl; rw [this] at e2; cases e2
  | false => exact h.yes e rfl _ (k.yes rfl e2 r hr)
theorem Todo.step {β : Type} {b0 b : Bool} {G F H : Nat -> Option β} (h : Todo b0 G b F) (hF : ∀ n, F (n + 1) = H n) : Todo b0 G b H := ⟨h.keep, h.no, fun e e2 r hr => h.yes e e2 r (Ev.step hF hr)⟩
theorem Todo.done {β : Type} {b0 b : Bool} {G F : Nat -> Option β} {y : β} (h : Todo b0 G b F) (hF : ∀ n, F (n + 1) = some y) : Got b0 G b y := ⟨h.keep, h.no, fun e e2 => h.yes e e2 _ (Ev.step hF (Ev.const _))⟩
theorem Todo.fail {β : Type} {b0 b : Bool} {G F : Nat -> Option β} (y : β) (h : Todo b0 G b F) (hF : ∀ n, F (n + 1) = none) : Got b0 G true y where
 keep _ := rfl
 no e _ := by
  cases b with
  | true => exact h.no e rfl
  | false => exact h.yes e rfl _ (Ev.step hF (Ev.const _))
 yes _ e := by cases e
theorem Todo.dead {β : Type} {b0 : Bool} {G F : Nat -> Option β} (y : β) (h : Todo b0 G true F) : Got b0 G true y := ⟨fun _ => rfl, fun e _ => h.no e rfl, fun _ e => (by cases e)⟩
theorem Todo.bad {β : Type} {b0 : Bool} {G F H : Nat -> Option β} (h : Todo b0 G true F) : Todo b0 G true H := ⟨fun _ => rfl, h.no, fun _ e => (by cases e)⟩
theorem Todo.badly {β : Type} {b0 b : Bool} {G F H : Nat -> Option β} (h : Todo b0 G b F) (hF : ∀ n, F (n + 1) = none) : Todo b0 G true H where
 keep _ := rfl
 no e _ := by
  cases b with
  | true => exact h.no e rfl
  | false => exact h.yes e rfl _ (Ev.step hF (Ev.const _))
 yes _ e := by cases e
theorem Todo.call {α β : Type} {b0 b b' : Bool} {G F : Nat -> Option β} {f : Nat -> Option α} {g : Nat -> α -> Option β} {y : α} (h : Todo b0 G b F) (c : Got b f b' y) (hF : ∀ n, F (n + 1) = (f n).bind (g n)) : Todo b0 G b' (fun n => g n y) :=
 h.trans ⟨c.keep, fun e e2 => Ev.step hF (Ev.bind_none (c.no e e2)), fun e e2 r hr => Ev.step hF (Ev.bind (c.yes e e2) hr)⟩
theorem Todo.got {β : Type} {b0 b b' : Bool} {G F : Nat -> Option β} {y : β} (h : Todo b0 G b F) (c : Got b F b' y) : Got b0 G b' y where
 keep e := c.keep (h.keep e)
 no e e2 := by
  cases b with
  | true => exact h.no e rfl
  | false => exact h.yes e rfl _ (c.no rfl e2)
 yes e e2 := by
  cases b with
  | true => have := c.keep rfl; rw [this] at e2; cases e2
  | false => exact h.yes e rfl _ (c.yes rfl e2)
def tkK (ts : List MToken) (a : Nat) : Int := match ts[a]? with | some t => t.kind | none => 0
theorem tkB_eq {ts : List MToken} {a : Nat} {k : Int} (hk : k ≠ 0) : tkB ts a k = (tkK ts a == k) := by
 unfold tkB tkK
 cases ts[a]? with
 | some t => rfl
 | none => simp; exact fun h => hk h.symm
theorem tkxB_eq {ts : List MToken} {a : Nat} {k : Int} {s : ByteArray} (hk : k ≠ 0) : tkxB ts a k s = (tkK ts a == k && eqB (tkT ts a) s) := by
 unfold tkxB tkK tkT
 cases ts[a]? with
 | some t => rfl
 | none =>
  have : ((0 : Int) == k) = false := by simp; exact fun h => hk h.symm
  simp [this]
theorem tkK_some {ts : List MToken} {a : Nat} {t : MToken} (h : ts[a]? = some t) : tkK ts a = t.kind /\ tkT ts a = t.text /\ tkN ts a = t.number := by
 unfold tkK tkT tkN
 rw [h]
 exact ⟨rfl, rfl, rfl⟩
theorem tkK_none {ts : List MToken} {a : Nat} (h : ts.length <= a) : tkK ts a = 0 /\ tkT ts a = ⟨#[]⟩ /\ tkN ts a = 0 := by
 unfold tkK tkT tkN
 rw [List.getElem?_eq_none h]
 exact ⟨rfl, rfl, rfl⟩
theorem tkK_lt {ts : List MToken} {a : Nat} (h : tkK ts a ≠ 0) : a < ts.length := by
 apply Decidable.byContradiction
 intro hn
 exact h (tkK_none (by omega)).1
end Go.Proofs.YtlcebafhbceejaaGreatDoor
