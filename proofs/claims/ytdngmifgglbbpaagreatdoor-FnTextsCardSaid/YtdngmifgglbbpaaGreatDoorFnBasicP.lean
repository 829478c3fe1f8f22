/-
  CONTRACTS: BasicMessage, of the program.
  Conditions: those that each lemma states.
-/
import Derived.Test.YtdngmifgglbbpaaGreatDoorRows
import Derived.Test.YtdngmifgglbbpaaGreatDoorFnBasicM
namespace Go.Proofs.YtdngmifgglbbpaaGreatDoor
open Go.RowKit
set_option linter.unusedSimpArgs false
set_option linter.unusedVariables false

set_option maxHeartbeats 16000000 in
set_option maxRecDepth 100000 in
theorem impl_BasicMessage_any (v : MValue) (cv : List Value) (s : ByteArray) (args : List MValue) (va : Value) (w : World) (rv : Rep w v.d cv) (ra : Rep w (MValues args) [va]) (hvz : v.text.size ≤ 1048576) (hs : s.size ≤ 1048576) (hz : ∀ a, a ∈ args → a.text.size ≤ 1048576) (hM : MaxOk w) (hT : TabOk w) (hE : ErrOk w) : Calls Tryz.prog 26 #[.agg cv.toArray, .string s, va] w fun e w' => e = .returned (.agg #[.int .i64 (basicR v s args).code, .int .i64 (basicR v s args).value.kind, .int .i64 (basicR v s args).value.number, .string (basicR v s args).value.text, .string (basicR v s args).text]) ∧ Ext w w' := by
  have RV := Lib.hid rv
  have hcv := MValue.op_en rv
  subst hcv
  have RA := Lib.hid ra
  have HZ := Lib.hid hz
  clear rv hz
  have x1 : Ext w ((w.alloc (.cells #[.int .i64 (v).kind, .int .i64 (v).number, .string (v).text] 60)).alloc (.cells #[.int .i64 0, .int .i64 0, .int .i64 0, .string ByteArray.empty, .string ByteArray.empty] 71)) := ((Ext.refl w).alloc _).alloc _
  obtain ⟨ao, cap, bl, ol, h1, hla, hma, pa, ha⟩ := Rep.slmap ra
  simp only [List.cons.injEq, and_true] at h1
  subst h1
  unfold maxLen at hma
  have HA := Lib.hid ha
  clear ha
  cases g0 : valueB v
  · have HI : Hid (missR = basicR v s args) := Lib.hid (basic_no fun h => by rw [g0] at h; cases h.1)
    go_enter Tryz.func26, Tryz.ntmps26
    go_wp2_with fail
    refine (impl_IsValue_any v _ _ (Rep.ext x1 RV.out) hvz (hM.ext x1)).mono ?_
    rw [g0]
    rintro e w2 ⟨rfl, hx2⟩
    clear g0
    go_wp2_with fail
    refine (missing_any _).mono ?_
    rintro e w3 ⟨rfl, hx3⟩
    replace hx3 := hx2.trans hx3
    obtain ⟨R0, R1, R2, R3, R4⟩ := res_cells hx3
    obtain ⟨F0, F1, F2, F3, F4⟩ := res_free hx3
    rw [show (w.alloc (.cells #[.int .i64 (v).kind, .int .i64 (v).number, .string (v).text] 60)).heap.size = w.heap.size + 1 from by simp] at R0 R1 R2 R3 R4 F0 F1 F2 F3 F4
    have R5 := lt_of_cell R0
    go_wp2_with fail
    refine bodyPost_ret (v := .agg #[.int .i64 (missR).code, .int .i64 (missR).value.kind, .int .i64 (missR).value.number, .string (missR).value.text, .string (missR).text]) (by simp [results, Tryz.results26, go_sem, R0, R1, R2, R3, R4]) rfl ⟨ret_res HI.out, ?_⟩
    (repeat refine Ext.setCell ?_ (by simp) _)
    exact (((Ext.refl w).alloc _).alloc _).trans hx3
  by_cases hk : v.kind ≤ 4
  rotate_left
  · have HI : Hid (missR = basicR v s args) := Lib.hid (basic_no fun h => hk h.2.1)
    have hk' : (4 : Int) < v.kind := by omega
    go_enter Tryz.func26, Tryz.ntmps26
    go_wp2_with fail
    refine (impl_IsValue_any v _ _ (Rep.ext x1 RV.out) hvz (hM.ext x1)).mono ?_
    rw [g0]
    rintro e w2 ⟨rfl, hx2⟩
    clear g0
    have m0 : w2.cell? ⟨w.heap.size, 0, none⟩ = some (.int .i64 v.kind) := Ext.cell hx2 (by simp)
    have m1 : w2.cell? ⟨w.heap.size, 1, none⟩ = some (.int .i64 v.number) := Ext.cell hx2 (by simp)
    have m2 : w2.cell? ⟨w.heap.size, 2, none⟩ = some (.string v.text) := Ext.cell hx2 (by simp)
    go_wp2_with fail
    refine (missing_any _).mono ?_
    rintro e w3 ⟨rfl, hx3⟩
    replace hx3 := hx2.trans hx3
    obtain ⟨R0, R1, R2, R3, R4⟩ := res_cells hx3
    obtain ⟨F0, F1, F2, F3, F4⟩ := res_free hx3
    rw [show (w.alloc (.cells #[.int .i64 (v).kind, .int .i64 (v).number, .string (v).text] 60)).heap.size = w.heap.size + 1 from by simp] at R0 R1 R2 R3 R4 F0 F1 F2 F3 F4
    have R5 := lt_of_cell R0
    go_wp2_with fail
    refine bodyPost_ret (v := .agg #[.int .i64 (missR).code, .int .i64 (missR).value.kind, .int .i64 (missR).value.number, .string (missR).value.text, .string (missR).text]) (by simp [results, Tryz.results26, go_sem, R0, R1, R2, R3, R4]) rfl ⟨ret_res HI.out, ?_⟩
    (repeat refine Ext.setCell ?_ (by simp) _)
    exact (((Ext.refl w).alloc _).alloc _).trans hx3
  by_cases hc : argsB s = args.length
  rotate_left
  · have HI : Hid (missR = basicR v s args) := Lib.hid (basic_no fun h => hc (argB_iff.1 h.2.2).1)
    have t1 := int_nen hc
    clear hc
    go_enter Tryz.func26, Tryz.ntmps26
    go_wp2_with fail
    refine (impl_IsValue_any v _ _ (Rep.ext x1 RV.out) hvz (hM.ext x1)).mono ?_
    rw [g0]
    rintro e w2 ⟨rfl, hx2⟩
    clear g0
    have m0 : w2.cell? ⟨w.heap.size, 0, none⟩ = some (.int .i64 v.kind) := Ext.cell hx2 (by simp)
    have m1 : w2.cell? ⟨w.heap.size, 1, none⟩ = some (.int .i64 v.number) := Ext.cell hx2 (by simp)
    have m2 : w2.cell? ⟨w.heap.size, 2, none⟩ = some (.string v.text) := Ext.cell hx2 (by simp)
    go_wp2_with fail
    refine (impl_CountArgs_any s _ hs (hM.ext (x1.trans hx2))).mono ?_
    rintro e w3 ⟨rfl, hx3⟩
    replace m0 := Ext.cell hx3 m0
    replace m1 := Ext.cell hx3 m1
    replace m2 := Ext.cell hx3 m2
    replace hx3 := hx2.trans hx3
    go_wp2_with fail
    refine (missing_any _).mono ?_
    rintro e w4 ⟨rfl, hx4⟩
    replace hx4 := hx3.trans hx4
    obtain ⟨R0, R1, R2, R3, R4⟩ := res_cells hx4
    obtain ⟨F0, F1, F2, F3, F4⟩ := res_free hx4
    rw [show (w.alloc (.cells #[.int .i64 (v).kind, .int .i64 (v).number, .string (v).text] 60)).heap.size = w.heap.size + 1 from by simp] at R0 R1 R2 R3 R4 F0 F1 F2 F3 F4
    have R5 := lt_of_cell R0
    go_wp2_with fail
    refine bodyPost_ret (v := .agg #[.int .i64 (missR).code, .int .i64 (missR).value.kind, .int .i64 (missR).value.number, .string (missR).value.text, .string (missR).text]) (by simp [results, Tryz.results26, go_sem, R0, R1, R2, R3, R4]) rfl ⟨ret_res HI.out, ?_⟩
    (repeat refine Ext.setCell ?_ (by simp) _)
    exact (((Ext.refl w).alloc _).alloc _).trans hx4
  have HC := Lib.hid hc
  have t1 := int_eqn hc
  have HG : Hid (ArgOk s args → applyR v s args = basicR v s args) := Lib.hid fun h => (basic_yes g0 hk (argB_tt h)).symm
  have HB : Hid (¬ ArgOk s args → missR = basicR v s args) := Lib.hid fun h => basic_no fun g => h (argB_iff.1 g.2.2)
  have HVV := Lib.hid (valueB_iff.1 g0)
  clear hc
  go_enter Tryz.func26, Tryz.ntmps26
  go_wp2_with fail
  refine (impl_IsValue_any v _ _ (Rep.ext x1 RV.out) hvz (hM.ext x1)).mono ?_
  rw [g0]
  rintro e w2 ⟨rfl, hx2⟩
  clear g0
  have m0 : w2.cell? ⟨w.heap.size, 0, none⟩ = some (.int .i64 v.kind) := Ext.cell hx2 (by simp)
  have m1 : w2.cell? ⟨w.heap.size, 1, none⟩ = some (.int .i64 v.number) := Ext.cell hx2 (by simp)
  have m2 : w2.cell? ⟨w.heap.size, 2, none⟩ = some (.string v.text) := Ext.cell hx2 (by simp)
  go_wp2_with fail
  refine (impl_CountArgs_any s _ hs (hM.ext (x1.trans hx2))).mono ?_
  rintro e w3 ⟨rfl, hx3⟩
  replace m0 := Ext.cell hx3 m0
  replace m1 := Ext.cell hx3 m1
  replace m2 := Ext.cell hx3 m2
  replace hx3 := hx2.trans hx3
  go_wp2_with fail
  clear t1
  go_loopw [27] (fun iv wr => ∃ i : Nat, i ≤ args.length ∧ iv = .int .i64 i ∧ Ext w3 wr ∧ Hid (∀ (j : Nat) a, j < i → args[j]? = some a → ValOk a)) (fun iv _ => args.length - (intOf iv).toNat)
  case atStart => exact ⟨0, Nat.zero_le _, rfl, Ext.refl _, Lib.hid fun i e hi => by omega⟩
  case round =>
    obtain ⟨i, hi, rfl, hx, hJ⟩ := hrel
    have hx4 := hx3.trans hx
    have X := x1.trans hx4
    replace m0 := Ext.cell hx m0
    replace m1 := Ext.cell hx m1
    replace m2 := Ext.cell hx m2
    by_cases hlt : i < args.length
    rotate_left
    · have HAR : Hid (ArgOk s args) := Lib.hid ⟨HC.out, fun a ha => by
        obtain ⟨j, hj, rfl⟩ := List.mem_iff_getElem.1 ha
        exact hJ.out j _ (by omega) (by simp [hj])⟩
      have HI := Lib.hid (HG.out HAR.out)
      clear HG HB
      have hkk := val_kind HVV.out hk
      have HXX := Lib.hid hx4
      obtain ⟨K, N, Y⟩ := v
      simp only at hkk hk m0 m1 m2 HI HVV ⊢
      rcases hkk with rfl | rfl | rfl | rfl | rfl
      · replace HI : Hid (missR = basicR ⟨0, N, Y⟩ s args) := Lib.hid (by rw [← HI.out]; unfold applyR; simp)
        go_wp2_with fail
        refine (missing_any _).mono ?_
        rintro e w5 ⟨rfl, hx5⟩
        replace hx5 := hx4.trans hx5
        obtain ⟨R0, R1, R2, R3, R4⟩ := res_cells hx5
        obtain ⟨F0, F1, F2, F3, F4⟩ := res_free hx5
        rw [show (w.alloc (.cells #[.int .i64 0, .int .i64 N, .string Y] 60)).heap.size = w.heap.size + 1 from by simp] at R0 R1 R2 R3 R4 F0 F1 F2 F3 F4
        have R5 := lt_of_cell R0
        go_wp2_with fail
        refine bodyPost_ret (v := .agg #[.int .i64 (missR).code, .int .i64 (missR).value.kind, .int .i64 (missR).value.number, .string (missR).value.text, .string (missR).text]) (by simp [results, Tryz.results26, go_sem, R0, R1, R2, R3, R4]) rfl ⟨ret_res HI.out, ?_⟩
        (repeat refine Ext.setCell ?_ (by simp) _)
        exact (((Ext.refl w).alloc _).alloc _).trans hx5
      · replace HI : Hid (boolR (N == 1) s args = basicR ⟨1, N, Y⟩ s args) := Lib.hid (by rw [← HI.out]; unfold applyR; simp)
        by_cases g0 : s = ⟨#[110, 111, 116]⟩
        · subst g0
          have hN := val_bool HVV.out rfl
          simp only at hN
          have HJ : Hid (doneR (boolV (N == 0)) = basicR ⟨1, N, Y⟩ ⟨#[110, 111, 116]⟩ args) := Lib.hid (by rw [← HI.out]; unfold boolR; rw [if_pos rfl]; rcases hN with rfl | rfl <;> rfl)
          clear hN
          go_wp2_with fail
          refine (boolean_any _ _).mono ?_
          rintro e w5 ⟨rfl, hx5⟩
          replace hx5 := hx4.trans hx5
          go_wp2_with fail
          refine (done_any (boolV (N == 0)) _).mono ?_
          rintro e w6 ⟨rfl, hx6⟩
          replace hx6 := hx5.trans hx6
          obtain ⟨R0, R1, R2, R3, R4⟩ := res_cells hx6
          obtain ⟨F0, F1, F2, F3, F4⟩ := res_free hx6
          rw [show (w.alloc (.cells #[.int .i64 1, .int .i64 N, .string Y] 60)).heap.size = w.heap.size + 1 from by simp] at R0 R1 R2 R3 R4 F0 F1 F2 F3 F4
          have R5 := lt_of_cell R0
          go_wp2_with fail
          refine bodyPost_ret (v := .agg #[.int .i64 (doneR (boolV (N == 0))).code, .int .i64 (doneR (boolV (N == 0))).value.kind, .int .i64 (doneR (boolV (N == 0))).value.number, .string (doneR (boolV (N == 0))).value.text, .string (doneR (boolV (N == 0))).text]) (by simp [results, Tryz.results26, go_sem, R0, R1, R2, R3, R4]) rfl ⟨ret_res HJ.out, ?_⟩
          (repeat refine Ext.setCell ?_ (by simp) _)
          exact (((Ext.refl w).alloc _).alloc _).trans hx6
        by_cases g1 : s = ⟨#[38]⟩
        · subst g1
          have hl : 1 ≤ args.length := args_ops (by simp [opsL]) HC.out
          obtain ⟨bl', ol', cap', he, -, -, q0, q1, q2⟩ := hd_cells RA.out hl
          simp only [Value.slice.injEq, Option.some.injEq, Addr.mk.injEq, and_true, true_and] at he
          obtain ⟨he, rfl⟩ := he
          obtain rfl := pa (by omega)
          simp only [Option.some.injEq, Addr.mk.injEq, and_true] at he
          obtain ⟨rfl, rfl⟩ := he
          replace q0 := X.cell q0
          replace q1 := X.cell q1
          have hl' : (0 : Int) < args.length := by omega
          obtain ⟨n, hn0⟩ : ∃ n, (hdV args).number = n := ⟨_, rfl⟩
          obtain ⟨K, hK0⟩ : ∃ K, (hdV args).kind = K := ⟨_, rfl⟩
          rw [hn0] at q1
          rw [hK0] at q0
          by_cases hK : K = 1
          rotate_left
          · have HJ : Hid (wrongR ⟨#[110, 111, 116, 32, 97, 32, 98, 111, 111, 108, 101, 97, 110]⟩ = basicR ⟨1, N, Y⟩ ⟨#[38]⟩ args) := Lib.hid (by rw [← HI.out]; unfold boolR; rw [if_neg (by decide), if_pos rfl, if_neg (fun h => hK (hK0.symm.trans h))])
            have t1 := int_nen hK
            clear hK hn0 hK0
            go_wp2_with fail
            refine (wrong_any ⟨#[110, 111, 116, 32, 97, 32, 98, 111, 111, 108, 101, 97, 110]⟩ _).mono ?_
            rintro e w5 ⟨rfl, hx5⟩
            replace hx5 := hx4.trans hx5
            obtain ⟨R0, R1, R2, R3, R4⟩ := res_cells hx5
            obtain ⟨F0, F1, F2, F3, F4⟩ := res_free hx5
            rw [show (w.alloc (.cells #[.int .i64 1, .int .i64 N, .string Y] 60)).heap.size = w.heap.size + 1 from by simp] at R0 R1 R2 R3 R4 F0 F1 F2 F3 F4
            have R5 := lt_of_cell R0
            go_wp2_with fail
            refine bodyPost_ret (v := .agg #[.int .i64 (wrongR ⟨#[110, 111, 116, 32, 97, 32, 98, 111, 111, 108, 101, 97, 110]⟩).code, .int .i64 (wrongR ⟨#[110, 111, 116, 32, 97, 32, 98, 111, 111, 108, 101, 97, 110]⟩).value.kind, .int .i64 (wrongR ⟨#[110, 111, 116, 32, 97, 32, 98, 111, 111, 108, 101, 97, 110]⟩).value.number, .string (wrongR ⟨#[110, 111, 116, 32, 97, 32, 98, 111, 111, 108, 101, 97, 110]⟩).value.text, .string (wrongR ⟨#[110, 111, 116, 32, 97, 32, 98, 111, 111, 108, 101, 97, 110]⟩).text]) (by simp [results, Tryz.results26, go_sem, R0, R1, R2, R3, R4]) rfl ⟨ret_res HJ.out, ?_⟩
            (repeat refine Ext.setCell ?_ (by simp) _)
            exact (((Ext.refl w).alloc _).alloc _).trans hx5
          have HJ : Hid (doneR (boolV ((N == 1) && (n == 1))) = basicR ⟨1, N, Y⟩ ⟨#[38]⟩ args) := Lib.hid (by rw [← HI.out]; unfold boolR; rw [if_neg (by decide), if_pos rfl, if_pos (hK0.trans hK), hn0])
          subst hK
          clear hn0 hK0
          cases hN : (N == 1)
          all_goals
            rw [hN] at HJ
            go_wp2_with fail
            refine (boolean_any _ _).mono ?_
            rintro e w5 ⟨rfl, hx5⟩
            replace hx5 := hx4.trans hx5
            go_wp2_with fail
            refine (done_any (boolV _) _).mono ?_
            rintro e w6 ⟨rfl, hx6⟩
            replace hx6 := hx5.trans hx6
            obtain ⟨R0, R1, R2, R3, R4⟩ := res_cells hx6
            obtain ⟨F0, F1, F2, F3, F4⟩ := res_free hx6
            rw [show (w.alloc (.cells #[.int .i64 1, .int .i64 N, .string Y] 60)).heap.size = w.heap.size + 1 from by simp] at R0 R1 R2 R3 R4 F0 F1 F2 F3 F4
            have R5 := lt_of_cell R0
            go_wp2_with fail
            refine bodyPost_ret (v := .agg #[.int .i64 (doneR (boolV (_ && (n == 1)))).code, .int .i64 (doneR (boolV (_ && (n == 1)))).value.kind, .int .i64 (doneR (boolV (_ && (n == 1)))).value.number, .string (doneR (boolV (_ && (n == 1)))).value.text, .string (doneR (boolV (_ && (n == 1)))).text]) (by simp [results, Tryz.results26, go_sem, R0, R1, R2, R3, R4]) rfl ⟨ret_res HJ.out, ?_⟩
            (repeat refine Ext.setCell ?_ (by simp) _)
            exact (((Ext.refl w).alloc _).alloc _).trans hx6
        have HJ : Hid (missR = basicR ⟨1, N, Y⟩ s args) := Lib.hid (by rw [← HI.out]; unfold boolR; rw [if_neg g0, if_neg g1])
        replace g0 := str_ne' g0
        replace g1 := str_ne' g1
        go_wp2_with fail
        refine (missing_any _).mono ?_
        rintro e w5 ⟨rfl, hx5⟩
        replace hx5 := hx4.trans hx5
        obtain ⟨R0, R1, R2, R3, R4⟩ := res_cells hx5
        obtain ⟨F0, F1, F2, F3, F4⟩ := res_free hx5
        rw [show (w.alloc (.cells #[.int .i64 1, .int .i64 N, .string Y] 60)).heap.size = w.heap.size + 1 from by simp] at R0 R1 R2 R3 R4 F0 F1 F2 F3 F4
        have R5 := lt_of_cell R0
        go_wp2_with fail
        refine bodyPost_ret (v := .agg #[.int .i64 (missR).code, .int .i64 (missR).value.kind, .int .i64 (missR).value.number, .string (missR).value.text, .string (missR).text]) (by simp [results, Tryz.results26, go_sem, R0, R1, R2, R3, R4]) rfl ⟨ret_res HJ.out, ?_⟩
        (repeat refine Ext.setCell ?_ (by simp) _)
        exact (((Ext.refl w).alloc _).alloc _).trans hx5
      · replace HI : Hid (intR N s args = basicR ⟨2, N, Y⟩ s args) := Lib.hid (by rw [← HI.out]; unfold applyR; simp)
        obtain ⟨n0, n1⟩ := val_int HVV.out rfl
        simp only at n0 n1
        go_wp2_with fail
        refine (integerMessage_any N s args _ _ (Rep.ext X RA.out) n0 n1 HAR.out.2 HAR.out.1).mono ?_
        rintro e w5 ⟨rfl, hx5⟩
        replace hx5 := hx4.trans hx5
        obtain ⟨R0, R1, R2, R3, R4⟩ := res_cells hx5
        obtain ⟨F0, F1, F2, F3, F4⟩ := res_free hx5
        rw [show (w.alloc (.cells #[.int .i64 2, .int .i64 N, .string Y] 60)).heap.size = w.heap.size + 1 from by simp] at R0 R1 R2 R3 R4 F0 F1 F2 F3 F4
        have R5 := lt_of_cell R0
        go_wp2_with fail
        refine bodyPost_ret (v := .agg #[.int .i64 (intR N s args).code, .int .i64 (intR N s args).value.kind, .int .i64 (intR N s args).value.number, .string (intR N s args).value.text, .string (intR N s args).text]) (by simp [results, Tryz.results26, go_sem, R0, R1, R2, R3, R4]) rfl ⟨ret_res HI.out, ?_⟩
        (repeat refine Ext.setCell ?_ (by simp) _)
        exact (((Ext.refl w).alloc _).alloc _).trans hx5
      · replace HI : Hid (textR Y s args = basicR ⟨3, N, Y⟩ s args) := Lib.hid (by rw [← HI.out]; unfold applyR; simp)
        have hX := val_text HVV.out rfl
        simp only at hX
        go_wp2_with fail
        refine (textMessage_any Y s args _ _ (Rep.ext X RA.out) hX HAR.out.2 HAR.out.1 (hM.ext X) (hT.ext X) (hE.ext X)).mono ?_
        rintro e w5 ⟨rfl, hx5⟩
        replace hx5 := hx4.trans hx5
        obtain ⟨R0, R1, R2, R3, R4⟩ := res_cells hx5
        obtain ⟨F0, F1, F2, F3, F4⟩ := res_free hx5
        rw [show (w.alloc (.cells #[.int .i64 3, .int .i64 N, .string Y] 60)).heap.size = w.heap.size + 1 from by simp] at R0 R1 R2 R3 R4 F0 F1 F2 F3 F4
        have R5 := lt_of_cell R0
        go_wp2_with fail
        refine bodyPost_ret (v := .agg #[.int .i64 (textR Y s args).code, .int .i64 (textR Y s args).value.kind, .int .i64 (textR Y s args).value.number, .string (textR Y s args).value.text, .string (textR Y s args).text]) (by simp [results, Tryz.results26, go_sem, R0, R1, R2, R3, R4]) rfl ⟨ret_res HI.out, ?_⟩
        (repeat refine Ext.setCell ?_ (by simp) _)
        exact (((Ext.refl w).alloc _).alloc _).trans hx5
      · by_cases g0 : s = ⟨#[97, 115, 83, 116, 114, 105, 110, 103]⟩
        · subst g0
          have HJ : Hid (doneR (textV Y) = basicR ⟨4, N, Y⟩ ⟨#[97, 115, 83, 116, 114, 105, 110, 103]⟩ args) := Lib.hid (by rw [← HI.out]; unfold applyR; simp)
          go_wp2_with fail
          refine (textValue_any _ _).mono ?_
          rintro e w5 ⟨rfl, hx5⟩
          replace hx5 := hx4.trans hx5
          go_wp2_with fail
          refine (done_any (textV Y) _).mono ?_
          rintro e w6 ⟨rfl, hx6⟩
          replace hx6 := hx5.trans hx6
          obtain ⟨R0, R1, R2, R3, R4⟩ := res_cells hx6
          obtain ⟨F0, F1, F2, F3, F4⟩ := res_free hx6
          rw [show (w.alloc (.cells #[.int .i64 4, .int .i64 N, .string Y] 60)).heap.size = w.heap.size + 1 from by simp] at R0 R1 R2 R3 R4 F0 F1 F2 F3 F4
          have R5 := lt_of_cell R0
          go_wp2_with fail
          refine bodyPost_ret (v := .agg #[.int .i64 (doneR (textV Y)).code, .int .i64 (doneR (textV Y)).value.kind, .int .i64 (doneR (textV Y)).value.number, .string (doneR (textV Y)).value.text, .string (doneR (textV Y)).text]) (by simp [results, Tryz.results26, go_sem, R0, R1, R2, R3, R4]) rfl ⟨ret_res HJ.out, ?_⟩
          (repeat refine Ext.setCell ?_ (by simp) _)
          exact (((Ext.refl w).alloc _).alloc _).trans hx6
        · have HJ : Hid (missR = basicR ⟨4, N, Y⟩ s args) := Lib.hid (by rw [← HI.out]; unfold applyR; simp [g0])
          replace g0 := str_ne' g0
          go_wp2_with fail
          refine (missing_any _).mono ?_
          rintro e w5 ⟨rfl, hx5⟩
          replace hx5 := hx4.trans hx5
          obtain ⟨R0, R1, R2, R3, R4⟩ := res_cells hx5
          obtain ⟨F0, F1, F2, F3, F4⟩ := res_free hx5
          rw [show (w.alloc (.cells #[.int .i64 4, .int .i64 N, .string Y] 60)).heap.size = w.heap.size + 1 from by simp] at R0 R1 R2 R3 R4 F0 F1 F2 F3 F4
          have R5 := lt_of_cell R0
          go_wp2_with fail
          refine bodyPost_ret (v := .agg #[.int .i64 (missR).code, .int .i64 (missR).value.kind, .int .i64 (missR).value.number, .string (missR).value.text, .string (missR).text]) (by simp [results, Tryz.results26, go_sem, R0, R1, R2, R3, R4]) rfl ⟨ret_res HJ.out, ?_⟩
          (repeat refine Ext.setCell ?_ (by simp) _)
          exact (((Ext.refl w).alloc _).alloc _).trans hx5
    obtain ⟨u, hv⟩ : ∃ u, u = args[i] := ⟨_, rfl⟩
    have hvi : args[i]? = some u := by rw [hv]; simp [hlt]
    have huz := HZ.out u (by rw [hv]; exact List.getElem_mem _)
    clear hv
    obtain rfl := pa (by omega)
    obtain ⟨es, les, ces, res⟩ := HA.out i u hvi
    have hcv := MValue.op_en res
    subst hcv
    have RU := Lib.hid res
    have d0 := X.cell (show w.cell? ⟨bl, ol + i * 3, none⟩ = some _ from ces 0 (by omega))
    have d1 := X.cell (show w.cell? ⟨bl, ol + i * 3 + 1, none⟩ = some _ from ces 1 (by omega))
    have d2 := X.cell (show w.cell? ⟨bl, ol + i * 3 + 2, none⟩ = some _ from ces 2 (by omega))
    have HVI := Lib.hid hvi
    have hil : (i : Int) < args.length := by omega
    clear les ces res hvi
    have STEP : Hid (ValOk u → ∀ (j : Nat) a, j < i + 1 → args[j]? = some a → ValOk a) := Lib.hid fun h j a hj ha => by
      by_cases h2 : j < i
      · exact hJ.out j a h2 ha
      · obtain rfl : j = i := by omega
        rw [HVI.out] at ha; injection ha with ha; subst ha; exact h
    have BAD : Hid (¬ ValOk u → ¬ ArgOk s args) := Lib.hid fun h g => h (g.2 u (List.mem_of_getElem? HVI.out))
    cases g : valueB u
    · have HI := Lib.hid (HB.out (BAD.out fun h => by rw [valueB_tt h] at g; cases g))
      go_wp2_with fail
      refine (impl_IsValue_any u _ _ (Rep.ext (X.alloc _) RU.out) huz (hM.ext (X.alloc _))).mono ?_
      rw [g]
      rintro e w5 ⟨rfl, hx5⟩
      clear g
      replace hx5 := (hx4.alloc _).trans hx5
      go_wp2_with fail
      refine (missing_any _).mono ?_
      rintro e w6 ⟨rfl, hx6⟩
      replace hx6 := hx5.trans hx6
      obtain ⟨R0, R1, R2, R3, R4⟩ := res_cells hx6
      obtain ⟨F0, F1, F2, F3, F4⟩ := res_free hx6
      rw [show (w.alloc (.cells #[.int .i64 (v).kind, .int .i64 (v).number, .string (v).text] 60)).heap.size = w.heap.size + 1 from by simp] at R0 R1 R2 R3 R4 F0 F1 F2 F3 F4
      have R5 := lt_of_cell R0
      go_wp2_with fail
      refine bodyPost_ret (v := .agg #[.int .i64 (missR).code, .int .i64 (missR).value.kind, .int .i64 (missR).value.number, .string (missR).value.text, .string (missR).text]) (by simp [results, Tryz.results26, go_sem, R0, R1, R2, R3, R4]) rfl ⟨ret_res HI.out, ?_⟩
      (repeat refine Ext.setCell ?_ (by simp) _)
      exact (((Ext.refl w).alloc _).alloc _).trans hx6
    have HS := Lib.hid (STEP.out (valueB_iff.1 g))
    go_wp2_with fail
    refine (impl_IsValue_any u _ _ (Rep.ext (X.alloc _) RU.out) huz (hM.ext (X.alloc _))).mono ?_
    rw [g]
    rintro e w5 ⟨rfl, hx5⟩
    clear g
    go_wp2_with fail
    go_roundw
    case rel => exact ⟨i + 1, by omega, by go_num, (hx.alloc _).trans hx5, HS⟩
    case measure => simp [intOf]; omega

end Go.Proofs.YtdngmifgglbbpaaGreatDoor
