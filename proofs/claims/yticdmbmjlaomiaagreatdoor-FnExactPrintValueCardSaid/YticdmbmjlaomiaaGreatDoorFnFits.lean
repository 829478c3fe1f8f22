/-
  CONTRACTS: values that stand in a store, of the program and of the reference.
  Conditions: those that each lemma states.
-/
import Derived.Test.YticdmbmjlaomiaaGreatDoorRows
import Derived.Test.YticdmbmjlaomiaaGreatDoorFnCls8
namespace Go.Proofs.YticdmbmjlaomiaaGreatDoor
open Go.RowKit
set_option linter.unusedSimpArgs false
set_option linter.unusedVariables false

/-- A value in a store with so many classes, objects and blocks. -/
def FitP (nc no : Nat) (bk : Int) (v : MValue) : Prop := ValOk v ∧ (v.kind = 5 → v.number < nc) ∧ (v.kind = 6 → v.number < no) ∧ (v.kind = 7 → v.number < bk)
noncomputable def fitB (nc no : Nat) (bk : Int) (v : MValue) : Bool := eqB (FitP nc no bk v) True
theorem fitB_tt {nc no : Nat} {bk : Int} {v : MValue} (h : FitP nc no bk v) : fitB nc no bk v = true := eqB_tt (by simp [h])
theorem fitB_ff {nc no : Nat} {bk : Int} {v : MValue} (h : ¬ FitP nc no bk v) : fitB nc no bk v = false := eqB_ff (by simp [h])
theorem fitB_iff {nc no : Nat} {bk : Int} {v : MValue} : fitB nc no bk v = true ↔ FitP nc no bk v := by simp [fitB, eqB_iff]
theorem fit_of {nc no : Nat} {bk : Int} {v : MValue} {b : Bool} (hv : ValOk v) (h : b = true ↔ (v.kind = 5 → v.number < nc) ∧ (v.kind = 6 → v.number < no) ∧ (v.kind = 7 → v.number < bk)) : fitB nc no bk v = b := by
  rw [Bool.eq_iff_iff, fitB_iff, h]
  exact ⟨fun h => h.2, fun h => ⟨hv, h⟩⟩

set_option maxHeartbeats 2000000 in
theorem exists_any (x : MValue) (cx : List Value) (a1 : Option Addr) (n1 c1 : Nat) (a2 : Option Addr) (n2 c2 : Nat) (a3 : Option Addr) (n3 c3 : Nat) (i1 i2 i3 bk : Int) (w : World) (rx : Rep w x.d cx) (hs : x.text.size ≤ 1048576) (hM : MaxOk w) :
    Calls Tryz.prog 54 #[.agg #[.slice a1 n1 c1, .slice a2 n2 c2, .slice a3 n3 c3, .int .i64 i1, .int .i64 i2, .int .i64 i3], .agg cx.toArray, .int .i64 bk] w fun e w' => e = .returned (.bool (fitB n1 n2 bk x)) ∧ Ext w w' := by
  have RX := Lib.hid rx
  obtain rfl := MValue.op_en rx
  clear rx
  obtain ⟨K, n, t⟩ := x
  simp only at *
  go_enter Tryz.func54, Tryz.ntmps54
  go_wp2_with fail
  generalize hS : World.alloc (World.alloc w _) _ = W1
  have x1 : Ext w W1 := by rw [← hS]; exact ((Ext.refl _).alloc _).alloc _
  have M0 : W1.cell? ⟨w.heap.size + 1, 0, none⟩ = some (.int .i64 K) := by rw [← hS]; simp
  have M1 : W1.cell? ⟨w.heap.size + 1, 1, none⟩ = some (.int .i64 n) := by rw [← hS]; simp
  have N0 : W1.cell? ⟨w.heap.size, 0, none⟩ = some (.slice a1 n1 c1) := by rw [← hS]; simp
  have N1 : W1.cell? ⟨w.heap.size, 1, none⟩ = some (.slice a2 n2 c2) := by rw [← hS]; simp
  clear hS
  refine (impl_IsValue_any ⟨K, n, t⟩ [.int .i64 K, .int .i64 n, .string t] _ (Rep.ext x1 RX.out) hs (hM.ext x1)).mono ?_
  cases hv : valueB ⟨K, n, t⟩
  · have HN : Hid (fitB n1 n2 bk ⟨K, n, t⟩ = false) := Lib.hid (fitB_ff fun h => by rw [valueB_tt h.1] at hv; cases hv)
    clear hv
    rintro e w2 ⟨rfl, hx2⟩
    go_wp2_with fail
    go_ret
    exact ⟨ret_bool HN.out.symm, x1.trans hx2⟩
  have HV := Lib.hid (valueB_iff.1 hv); clear hv
  rintro e w2 ⟨rfl, hx2⟩
  replace M0 := Ext.cell hx2 M0
  replace M1 := Ext.cell hx2 M1
  replace N0 := Ext.cell hx2 N0
  replace N1 := Ext.cell hx2 N1
  have xx := x1.trans hx2
  clear x1 hx2
  by_cases h5 : K = 5
  · subst h5
    have HN : Hid (fitB n1 n2 bk ⟨5, n, t⟩ = decide (n < (n1 : Int))) := Lib.hid (fit_of HV.out (by simp))
    go_wp2_with fail
    go_ret
    exact ⟨ret_bool HN.out.symm, xx⟩
  have t5 : (K == 5) = false := int_ne h5
  by_cases h6 : K = 6
  · subst h6
    have HN : Hid (fitB n1 n2 bk ⟨6, n, t⟩ = decide (n < (n2 : Int))) := Lib.hid (fit_of HV.out (by simp))
    clear h5
    go_wp2_with fail
    go_ret
    exact ⟨ret_bool HN.out.symm, xx⟩
  have t6 : (K == 6) = false := int_ne h6
  by_cases h7 : K = 7
  · subst h7
    have HN : Hid (fitB n1 n2 bk ⟨7, n, t⟩ = decide (n < bk)) := Lib.hid (fit_of HV.out (by simp))
    clear h5 h6
    go_wp2_with fail
    go_ret
    exact ⟨ret_bool HN.out.symm, xx⟩
  have t7 : (K == 7) = false := int_ne h7
  have HN : Hid (fitB n1 n2 bk ⟨K, n, t⟩ = true) := Lib.hid (fit_of HV.out (by simp [h5, h6, h7]))
  clear h5 h6 h7
  go_wp2_with fail
  go_ret
  exact ⟨ret_bool HN.out.symm, xx⟩

set_option maxHeartbeats 2000000 in
theorem l9Fits_any (x : MValue) (cx : List Value) (B : Nat) (a1 : Option Addr) (n1 c1 : Nat) (a2 : Option Addr) (n2 c2 : Nat) (bk : Int) (w : World) (rx : Rep w x.d cx) (hs : x.text.size ≤ 1048576) (b0 : w.cell? ⟨B, 0, none⟩ = some (.slice a1 n1 c1)) (b1 : w.cell? ⟨B, 1, none⟩ = some (.slice a2 n2 c2)) :
    Calls Tryz.prog 48 #[.pointer (some ⟨B, 0, none⟩), .agg cx.toArray, .int .i64 bk] w fun e w' => e = .returned (.bool (fitB n1 n2 bk x)) ∧ Ext w w' := by
  have RX := Lib.hid rx
  obtain rfl := MValue.op_en rx
  clear rx
  obtain ⟨K, n, t⟩ := x
  simp only at *
  go_enter Tryz.func48, Tryz.ntmps48
  go_wp2_with fail
  generalize hS : World.alloc w _ = W1
  have x1 : Ext w W1 := by rw [← hS]; exact (Ext.refl _).alloc _
  have M0 : W1.cell? ⟨w.heap.size, 0, none⟩ = some (.int .i64 K) := by rw [← hS]; simp
  have M1 : W1.cell? ⟨w.heap.size, 1, none⟩ = some (.int .i64 n) := by rw [← hS]; simp
  clear hS
  refine (spec_IsValue_any ⟨K, n, t⟩ [.int .i64 K, .int .i64 n, .string t] _ (Rep.ext x1 RX.out) hs).mono ?_
  cases hv : valueB ⟨K, n, t⟩
  · have HN : Hid (fitB n1 n2 bk ⟨K, n, t⟩ = false) := Lib.hid (fitB_ff fun h => by rw [valueB_tt h.1] at hv; cases hv)
    clear hv
    rintro e w2 ⟨rfl, hx2⟩
    go_wp2_with fail
    go_ret
    exact ⟨ret_bool HN.out.symm, x1.trans hx2⟩
  have HV := Lib.hid (valueB_iff.1 hv); clear hv
  rintro e w2 ⟨rfl, hx2⟩
  have xx := x1.trans hx2
  replace M0 := Ext.cell hx2 M0
  replace M1 := Ext.cell hx2 M1
  have N0 := Ext.cell xx b0
  have N1 := Ext.cell xx b1
  clear x1 hx2 b0 b1
  by_cases h5 : K = 5
  · subst h5
    have HN : Hid (fitB n1 n2 bk ⟨5, n, t⟩ = decide (n < (n1 : Int))) := Lib.hid (fit_of HV.out (by simp))
    have g1 := reg (Ext.refl _) M1
    have g2 := reg (Ext.refl _) N0
    go_wp2_with fail
    refine wp_region_quiet_below (by kernel_rfl) (by kernel_rfl) ?_
    repeat (go_big_quiet_step (fail))
    refine wpQuiet_nil ?_
    clear g1 g2
    intro _ hw'
    obtain ⟨pw, hw''⟩ := hw'
    subst hw''
    have X4 := regx w2 pw
    generalize hWR : «Sort».grow (redrawn w2 pw.d) pw.os = W4 at *
    clear hWR
    go_wp2_with fail
    go_ret
    exact ⟨ret_bool HN.out.symm, xx.trans X4⟩
  have t5 : (K == 5) = false := int_ne h5
  by_cases h6 : K = 6
  · subst h6
    have HN : Hid (fitB n1 n2 bk ⟨6, n, t⟩ = decide (n < (n2 : Int))) := Lib.hid (fit_of HV.out (by simp))
    clear h5
    have g1 := reg (Ext.refl _) M1
    have g2 := reg (Ext.refl _) N1
    go_wp2_with fail
    refine wp_region_quiet_below (by kernel_rfl) (by kernel_rfl) ?_
    repeat (go_big_quiet_step (fail))
    refine wpQuiet_nil ?_
    clear g1 g2
    intro _ hw'
    obtain ⟨pw, hw''⟩ := hw'
    subst hw''
    have X4 := regx w2 pw
    generalize hWR : «Sort».grow (redrawn w2 pw.d) pw.os = W4 at *
    clear hWR
    go_wp2_with fail
    go_ret
    exact ⟨ret_bool HN.out.symm, xx.trans X4⟩
  have t6 : (K == 6) = false := int_ne h6
  by_cases h7 : K = 7
  · subst h7
    have HN : Hid (fitB n1 n2 bk ⟨7, n, t⟩ = decide (n < bk)) := Lib.hid (fit_of HV.out (by simp))
    clear h5 h6
    go_wp2_with fail
    go_ret
    exact ⟨ret_bool HN.out.symm, xx⟩
  have t7 : (K == 7) = false := int_ne h7
  have HN : Hid (fitB n1 n2 bk ⟨K, n, t⟩ = true) := Lib.hid (fit_of HV.out (by simp [h5, h6, h7]))
  clear h5 h6 h7
  go_wp2_with fail
  go_ret
  exact ⟨ret_bool HN.out.symm, xx⟩

set_option maxHeartbeats 1000000 in
theorem isBelow_any (l : List MClassInfo) (va : Value) (k : Nat) (w : World) (ra : Rep w (MClassInfos l) [va]) (hok : ClsOk l) (hk : k < l.length) :
    Calls Tryz.prog 227 #[va, .int .i64 k, .int .i64 1] w fun e w' => e = .returned (.bool (isaB l k)) ∧ w' = w := by
  obtain ⟨ao, ca, bl, ol, h1, hla, hma, pa, ha⟩ := Rep.slmap ra
  simp only [List.cons.injEq, and_true] at h1
  subst h1
  clear ra
  unfold maxLen at hma
  have HOK := Lib.hid hok; clear hok
  obtain rfl := pa (by omega)
  go_enter Tryz.func227, Tryz.ntmps227
  go_wp2_with fail
  go_loop [1] (fun kv => ∃ j : Int, -1 ≤ j ∧ j < l.length ∧ kv = .int .i64 j ∧ Hid (isaB l k = isaB l j)) (fun kv => (intOf kv + 1).toNat)
  case atStart => exact ⟨k, by omega, by omega, rfl, Lib.hid rfl⟩
  case round =>
    obtain ⟨j, hj0, hj1, rfl, hR⟩ := hrel
    by_cases h0 : 0 ≤ j
    rotate_left
    · have t0 : ¬ (0 : Int) ≤ j := h0
      have t1 : (j == 1) = false := int_ne (by omega)
      have HN : Hid (isaB l k = false) := Lib.hid (by rw [hR.out]; exact isaB_neg h0)
      go_wp2_with fail
      go_ret
      exact ⟨ret_bool HN.out.symm, rfl⟩
    by_cases h1 : j = 1
    · have t1 : (j == 1) = true := int_eq h1
      have t2 : (j != 1) = false := int_eqn h1
      have HN : Hid (isaB l k = true) := Lib.hid (by rw [hR.out, h1]; exact isaB_one l)
      clear h1
      go_wp2_with fail
      go_ret
      exact ⟨ret_bool HN.out.symm, rfl⟩
    obtain ⟨m, rfl⟩ : ∃ m : Nat, j = m := ⟨j.toNat, by omega⟩
    have t1 : ((m : Int) != 1) = true := int_nen h1
    have hm : m < l.length := by omega
    obtain ⟨c, hc⟩ : ∃ c, c = l[m] := ⟨_, rfl⟩
    have hcm : l[m]? = some c := by rw [hc]; simp [hm]
    clear hc
    obtain ⟨es, les, ces, res⟩ := ha m c hcm
    obtain ⟨af, cf, rfl, -⟩ := MClassInfo.op_en res
    have q1 : w.cell? ⟨bl, ol + m * 3 + 1, none⟩ = some _ := ces 1 (by omega)
    have hp := HOK.out.parent hcm
    have HN : Hid (isaB l k = isaB l c.parent) := Lib.hid (by rw [hR.out]; exact isaB_up (by omega) h1 (by rw [Int.toNat_natCast]; exact hcm))
    clear les ces res h1 hcm
    obtain ⟨nm, par, fs⟩ := c
    simp only at q1 hp HN
    go_wp2_with fail
    go_round
    case rel => exact ⟨par, by omega, by omega, rfl, HN⟩
    case measure => simp [intOf]; omega

theorem isaB_out {l : List MClassInfo} {k : Int} (h1 : ¬ k = 1) (h : ¬ k < l.length) : isaB l k = false := eqB_ff (by
  simp only [eq_iff_iff, iff_true]
  intro e
  cases e with
  | here => exact h1 rfl
  | up h0 hc _ =>
    have := (List.getElem?_eq_some_iff.1 hc).1
    omega)
set_option maxHeartbeats 1000000 in
theorem l9IsA_any (l : List MClassInfo) (va : Value) (k : Int) (w : World) (ra : Rep w (MClassInfos l) [va]) (hok : ClsOk l) :
    Calls Tryz.prog 222 #[va, .int .i64 k, .int .i64 1] w fun e w' => e = .returned (.bool (isaB l k)) ∧ w' = w := by
  obtain ⟨ao, ca, bl, ol, h1, hla, hma, pa, ha⟩ := Rep.slmap ra
  simp only [List.cons.injEq, and_true] at h1
  subst h1
  clear ra
  unfold maxLen at hma
  have hlen := hok.1.1
  have HOK := Lib.hid hok; clear hok
  obtain rfl := pa (by omega)
  by_cases hin : 0 ≤ k ∧ k < l.length
  rotate_left
  · have HI : Hid (isaB l k = false) := Lib.hid (by
      by_cases h0 : 0 ≤ k
      · exact isaB_out (by omega) (by omega)
      · exact isaB_neg h0)
    go_enter Tryz.func222, Tryz.ntmps222
    by_cases h0 : 0 ≤ k
    · have t1 : ¬ k < (l.length : Int) := by omega
      clear hin
      go_wp2_with fail
      refine wp_loop_rounds 1 ?_
      rw [rounds_succ]
      go_wp2_with fail
      go_ret
      exact ⟨ret_bool HI.out.symm, rfl⟩
    · clear hin
      go_wp2_with fail
      refine wp_loop_rounds 1 ?_
      rw [rounds_succ]
      go_wp2_with fail
      go_ret
      exact ⟨ret_bool HI.out.symm, rfl⟩
  go_enter Tryz.func222, Tryz.ntmps222
  go_wp2_with fail
  go_loop [1] (fun kv => ∃ j : Int, -1 ≤ j ∧ j < l.length ∧ kv = .int .i64 j ∧ Hid (isaB l k = isaB l j)) (fun kv => (intOf kv + 1).toNat)
  case atStart => exact ⟨k, by omega, by omega, rfl, Lib.hid rfl⟩
  case round =>
    obtain ⟨j, hj0, hj1, rfl, hR⟩ := hrel
    by_cases h0 : 0 ≤ j
    rotate_left
    · have t0 : ¬ (0 : Int) ≤ j := h0
      have HN : Hid (isaB l k = false) := Lib.hid (by rw [hR.out]; exact isaB_neg h0)
      go_wp2_with fail
      go_ret
      exact ⟨ret_bool HN.out.symm, rfl⟩
    by_cases h1 : j = 1
    · have t1 : (j == 1) = true := int_eq h1
      have HN : Hid (isaB l k = true) := Lib.hid (by rw [hR.out, h1]; exact isaB_one l)
      clear h1
      go_wp2_with fail
      go_ret
      exact ⟨ret_bool HN.out.symm, rfl⟩
    obtain ⟨m, rfl⟩ : ∃ m : Nat, j = m := ⟨j.toNat, by omega⟩
    have t1 : ((m : Int) == 1) = false := int_ne h1
    have hm : m < l.length := by omega
    obtain ⟨c, hc⟩ : ∃ c, c = l[m] := ⟨_, rfl⟩
    have hcm : l[m]? = some c := by rw [hc]; simp [hm]
    clear hc
    obtain ⟨es, les, ces, res⟩ := ha m c hcm
    obtain ⟨af, cf, rfl, -⟩ := MClassInfo.op_en res
    have q1 : w.cell? ⟨bl, ol + m * 3 + 1, none⟩ = some _ := ces 1 (by omega)
    have hp := HOK.out.parent hcm
    have HN : Hid (isaB l k = isaB l c.parent) := Lib.hid (by rw [hR.out]; exact isaB_up (by omega) h1 (by rw [Int.toNat_natCast]; exact hcm))
    clear les ces res h1 hcm
    obtain ⟨nm, par, fs⟩ := c
    simp only at q1 hp HN
    go_wp2_with fail
    go_round
    case rel => exact ⟨par, by omega, by omega, rfl, HN⟩
    case measure => simp [intOf]; omega

end Go.Proofs.YticdmbmjlaomiaaGreatDoor
