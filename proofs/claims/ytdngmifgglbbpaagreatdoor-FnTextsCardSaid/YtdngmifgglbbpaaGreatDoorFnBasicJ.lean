/-
  CONTRACTS: messages to numbers, of the program.
  Conditions: those that each lemma states.
-/
import Derived.Test.YtdngmifgglbbpaaGreatDoorRows
import Derived.Test.YtdngmifgglbbpaaGreatDoorFnBasicI
namespace Go.Proofs.YtdngmifgglbbpaaGreatDoor
open Go.RowKit
set_option linter.unusedSimpArgs false
set_option linter.unusedVariables false

set_option maxHeartbeats 16000000 in
set_option maxRecDepth 100000 in
theorem integerMessage_any (a : Int) (s : ByteArray) (args : List MValue) (va : Value) (w : World) (ra : Rep w (MValues args) [va]) (a0 : -999999999 ≤ a) (a1 : a ≤ 999999999) (hv : ∀ v, v ∈ args → ValOk v) (hc : argsB s = args.length) : Calls Tryz.prog 78 #[.int .i64 a, .string s, va] w fun e w' => e = .returned (.agg #[.int .i64 (intR a s args).code, .int .i64 (intR a s args).value.kind, .int .i64 (intR a s args).value.number, .string (intR a s args).value.text, .string (intR a s args).text]) ∧ Ext w w' := by
  by_cases hs : s ∈ int2L
  · have hl := int2_args hs hc
    clear hc
    obtain ⟨bl, ol, cap, rfl, hla, hma, q0, q1, q2⟩ := hd_cells ra hl
    have zb := lt_of_cell q0
    unfold maxLen at hma
    have hl' : (0 : Int) < args.length := by omega
    have hv0 : ValOk (hdV args) := hv _ (by cases args with | nil => simp at hl | cons v l => simp [hdV])
    obtain ⟨n, hn0⟩ : ∃ n, (hdV args).number = n := ⟨_, rfl⟩
    obtain ⟨K, hK0⟩ : ∃ K, (hdV args).kind = K := ⟨_, rfl⟩
    rw [hn0] at q1
    rw [hK0] at q0
    clear ra hv
    by_cases hk : K = 2
    · obtain ⟨n0, n1⟩ := val_int hv0 (hK0.trans hk)
      rw [hn0] at n0 n1
      have HI : Hid (intR a s args = int2V a s n) := Lib.hid (by unfold intR; rw [if_pos (hasB_tt hs), if_pos (hK0.trans hk), hn0])
      subst hk
      clear hv0 hn0 hK0
      simp only [int2L, List.mem_cons, List.not_mem_nil, or_false] at hs
      rcases hs with rfl | rfl | rfl | rfl | rfl | rfl | rfl | rfl | rfl | rfl | rfl
      · have HV : Hid (bndR (a + n) = int2V a ⟨#[43]⟩ n) := Lib.hid (by simp [int2V])
        go_enter Tryz.func78, Tryz.ntmps78
        go_wp2_with fail
        refine (bounded_any (a + n) _).mono ?_
        rintro e w2 ⟨rfl, hx2⟩
        obtain ⟨R0, R1, R2, R3, R4⟩ := res_cells hx2
        have R5 := lt_of_cell R0
        obtain ⟨F0, F1, F2, F3, F4⟩ := res_free hx2
        go_wp2_with fail
        refine bodyPost_ret (v := .agg #[.int .i64 (bndR (a + n)).code, .int .i64 (bndR (a + n)).value.kind, .int .i64 (bndR (a + n)).value.number, .string (bndR (a + n)).value.text, .string (bndR (a + n)).text]) (by simp [results, Tryz.results78, go_sem, R0, R1, R2, R3, R4]) rfl ⟨ret_res (HV.out.trans HI.out.symm), ?_⟩
        (repeat refine Ext.setCell ?_ (by simp) _)
        exact ((Ext.refl w).alloc _).trans hx2
      · have HV : Hid (bndR (a - n) = int2V a ⟨#[45]⟩ n) := Lib.hid (by simp [int2V])
        go_enter Tryz.func78, Tryz.ntmps78
        go_wp2_with fail
        refine (bounded_any (a - n) _).mono ?_
        rintro e w2 ⟨rfl, hx2⟩
        obtain ⟨R0, R1, R2, R3, R4⟩ := res_cells hx2
        have R5 := lt_of_cell R0
        obtain ⟨F0, F1, F2, F3, F4⟩ := res_free hx2
        go_wp2_with fail
        refine bodyPost_ret (v := .agg #[.int .i64 (bndR (a - n)).code, .int .i64 (bndR (a - n)).value.kind, .int .i64 (bndR (a - n)).value.number, .string (bndR (a - n)).value.text, .string (bndR (a - n)).text]) (by simp [results, Tryz.results78, go_sem, R0, R1, R2, R3, R4]) rfl ⟨ret_res (HV.out.trans HI.out.symm), ?_⟩
        (repeat refine Ext.setCell ?_ (by simp) _)
        exact ((Ext.refl w).alloc _).trans hx2
      · have HV : Hid (bndR (a * n) = int2V a ⟨#[42]⟩ n) := Lib.hid (by simp [int2V])
        obtain ⟨mb0, mb1⟩ := mul_bd a0 a1 n0 n1
        go_enter Tryz.func78, Tryz.ntmps78
        go_wp2_with fail
        refine (bounded_any (a * n) _).mono ?_
        rintro e w2 ⟨rfl, hx2⟩
        obtain ⟨R0, R1, R2, R3, R4⟩ := res_cells hx2
        have R5 := lt_of_cell R0
        obtain ⟨F0, F1, F2, F3, F4⟩ := res_free hx2
        go_wp2_with fail
        refine bodyPost_ret (v := .agg #[.int .i64 (bndR (a * n)).code, .int .i64 (bndR (a * n)).value.kind, .int .i64 (bndR (a * n)).value.number, .string (bndR (a * n)).value.text, .string (bndR (a * n)).text]) (by simp [results, Tryz.results78, go_sem, R0, R1, R2, R3, R4]) rfl ⟨ret_res (HV.out.trans HI.out.symm), ?_⟩
        (repeat refine Ext.setCell ?_ (by simp) _)
        exact ((Ext.refl w).alloc _).trans hx2
      · by_cases hn : n = 0
        · have HV : Hid (zeroR = int2V a ⟨#[47, 47]⟩ n) := Lib.hid (by simp [int2V, hn])
          have t1 := int_eq hn
          clear hn
          go_enter Tryz.func78, Tryz.ntmps78
          go_wp2_with fail
          refine bodyPost_ret (v := .agg #[.int .i64 3, .int .i64 0, .int .i64 0, .string ⟨#[]⟩, .string ⟨#[100, 105, 118, 105, 115, 105, 111, 110, 32, 98, 121, 32, 122, 101, 114, 111]⟩]) (by simp [results, Tryz.results78, go_sem]) rfl ⟨ret_res (a := zeroR) (HV.out.trans HI.out.symm), ?_⟩
          (repeat refine Ext.setCell ?_ (by simp) _)
          exact (Ext.refl w).alloc _
        · have HV : Hid (bndR (flQ a n) = int2V a ⟨#[47, 47]⟩ n) := Lib.hid (by simp [int2V, hn])
          have t1 := int_ne hn
          go_enter Tryz.func78, Tryz.ntmps78
          go_wp2_with fail
          refine (floorDiv_any a n _ a0 a1 n0 n1 hn).mono ?_
          rintro e w2 ⟨rfl, hx2⟩
          go_wp2_with fail
          refine (bounded_any _ _).mono ?_
          rintro e w3 ⟨rfl, hx3⟩
          replace hx3 := hx2.trans hx3
          obtain ⟨R0, R1, R2, R3, R4⟩ := res_cells hx3
          have R5 := lt_of_cell R0
          obtain ⟨F0, F1, F2, F3, F4⟩ := res_free hx3
          go_wp2_with fail
          refine bodyPost_ret (v := .agg #[.int .i64 (bndR (flQ a n)).code, .int .i64 (bndR (flQ a n)).value.kind, .int .i64 (bndR (flQ a n)).value.number, .string (bndR (flQ a n)).value.text, .string (bndR (flQ a n)).text]) (by simp [results, Tryz.results78, go_sem, R0, R1, R2, R3, R4]) rfl ⟨ret_res (HV.out.trans HI.out.symm), ?_⟩
          (repeat refine Ext.setCell ?_ (by simp) _)
          exact ((Ext.refl w).alloc _).trans hx3
      · by_cases hn : n = 0
        · have HV : Hid (zeroR = int2V a ⟨#[92, 92]⟩ n) := Lib.hid (by simp [int2V, hn])
          have t1 := int_eq hn
          clear hn
          go_enter Tryz.func78, Tryz.ntmps78
          go_wp2_with fail
          refine bodyPost_ret (v := .agg #[.int .i64 3, .int .i64 0, .int .i64 0, .string ⟨#[]⟩, .string ⟨#[100, 105, 118, 105, 115, 105, 111, 110, 32, 98, 121, 32, 122, 101, 114, 111]⟩]) (by simp [results, Tryz.results78, go_sem]) rfl ⟨ret_res (a := zeroR) (HV.out.trans HI.out.symm), ?_⟩
          (repeat refine Ext.setCell ?_ (by simp) _)
          exact (Ext.refl w).alloc _
        · have HV : Hid (bndR (flR a n) = int2V a ⟨#[92, 92]⟩ n) := Lib.hid (by simp [int2V, hn])
          have t1 := int_ne hn
          go_enter Tryz.func78, Tryz.ntmps78
          go_wp2_with fail
          refine (floorDiv_any a n _ a0 a1 n0 n1 hn).mono ?_
          rintro e w2 ⟨rfl, hx2⟩
          go_wp2_with fail
          refine (bounded_any _ _).mono ?_
          rintro e w3 ⟨rfl, hx3⟩
          replace hx3 := hx2.trans hx3
          obtain ⟨R0, R1, R2, R3, R4⟩ := res_cells hx3
          have R5 := lt_of_cell R0
          obtain ⟨F0, F1, F2, F3, F4⟩ := res_free hx3
          go_wp2_with fail
          refine bodyPost_ret (v := .agg #[.int .i64 (bndR (flR a n)).code, .int .i64 (bndR (flR a n)).value.kind, .int .i64 (bndR (flR a n)).value.number, .string (bndR (flR a n)).value.text, .string (bndR (flR a n)).text]) (by simp [results, Tryz.results78, go_sem, R0, R1, R2, R3, R4]) rfl ⟨ret_res (HV.out.trans HI.out.symm), ?_⟩
          (repeat refine Ext.setCell ?_ (by simp) _)
          exact ((Ext.refl w).alloc _).trans hx3
      · have HV : Hid (doneR (boolV (decide (a < n))) = int2V a ⟨#[60]⟩ n) := Lib.hid (by simp [int2V])
        go_enter Tryz.func78, Tryz.ntmps78
        go_wp2_with fail
        refine (boolean_any _ _).mono ?_
        rintro e w2 ⟨rfl, hx2⟩
        go_wp2_with fail
        refine (done_any (boolV _) _).mono ?_
        rintro e w3 ⟨rfl, hx3⟩
        replace hx3 := hx2.trans hx3
        obtain ⟨R0, R1, R2, R3, R4⟩ := res_cells hx3
        have R5 := lt_of_cell R0
        obtain ⟨F0, F1, F2, F3, F4⟩ := res_free hx3
        go_wp2_with fail
        refine bodyPost_ret (v := .agg #[.int .i64 (doneR (boolV (decide (a < n)))).code, .int .i64 (doneR (boolV (decide (a < n)))).value.kind, .int .i64 (doneR (boolV (decide (a < n)))).value.number, .string (doneR (boolV (decide (a < n)))).value.text, .string (doneR (boolV (decide (a < n)))).text]) (by simp [results, Tryz.results78, go_sem, R0, R1, R2, R3, R4]) rfl ⟨ret_res (HV.out.trans HI.out.symm), ?_⟩
        (repeat refine Ext.setCell ?_ (by simp) _)
        exact ((Ext.refl w).alloc _).trans hx3
      · have HV : Hid (doneR (boolV (decide (n < a))) = int2V a ⟨#[62]⟩ n) := Lib.hid (by simp [int2V])
        go_enter Tryz.func78, Tryz.ntmps78
        go_wp2_with fail
        refine (boolean_any _ _).mono ?_
        rintro e w2 ⟨rfl, hx2⟩
        go_wp2_with fail
        refine (done_any (boolV _) _).mono ?_
        rintro e w3 ⟨rfl, hx3⟩
        replace hx3 := hx2.trans hx3
        obtain ⟨R0, R1, R2, R3, R4⟩ := res_cells hx3
        have R5 := lt_of_cell R0
        obtain ⟨F0, F1, F2, F3, F4⟩ := res_free hx3
        go_wp2_with fail
        refine bodyPost_ret (v := .agg #[.int .i64 (doneR (boolV (decide (n < a)))).code, .int .i64 (doneR (boolV (decide (n < a)))).value.kind, .int .i64 (doneR (boolV (decide (n < a)))).value.number, .string (doneR (boolV (decide (n < a)))).value.text, .string (doneR (boolV (decide (n < a)))).text]) (by simp [results, Tryz.results78, go_sem, R0, R1, R2, R3, R4]) rfl ⟨ret_res (HV.out.trans HI.out.symm), ?_⟩
        (repeat refine Ext.setCell ?_ (by simp) _)
        exact ((Ext.refl w).alloc _).trans hx3
      · have HV : Hid (doneR (boolV (decide (a ≤ n))) = int2V a ⟨#[60, 61]⟩ n) := Lib.hid (by simp [int2V])
        go_enter Tryz.func78, Tryz.ntmps78
        go_wp2_with fail
        refine (boolean_any _ _).mono ?_
        rintro e w2 ⟨rfl, hx2⟩
        go_wp2_with fail
        refine (done_any (boolV _) _).mono ?_
        rintro e w3 ⟨rfl, hx3⟩
        replace hx3 := hx2.trans hx3
        obtain ⟨R0, R1, R2, R3, R4⟩ := res_cells hx3
        have R5 := lt_of_cell R0
        obtain ⟨F0, F1, F2, F3, F4⟩ := res_free hx3
        go_wp2_with fail
        refine bodyPost_ret (v := .agg #[.int .i64 (doneR (boolV (decide (a ≤ n)))).code, .int .i64 (doneR (boolV (decide (a ≤ n)))).value.kind, .int .i64 (doneR (boolV (decide (a ≤ n)))).value.number, .string (doneR (boolV (decide (a ≤ n)))).value.text, .string (doneR (boolV (decide (a ≤ n)))).text]) (by simp [results, Tryz.results78, go_sem, R0, R1, R2, R3, R4]) rfl ⟨ret_res (HV.out.trans HI.out.symm), ?_⟩
        (repeat refine Ext.setCell ?_ (by simp) _)
        exact ((Ext.refl w).alloc _).trans hx3
      · have HV : Hid (doneR (boolV (decide (n ≤ a))) = int2V a ⟨#[62, 61]⟩ n) := Lib.hid (by simp [int2V])
        go_enter Tryz.func78, Tryz.ntmps78
        go_wp2_with fail
        refine (boolean_any _ _).mono ?_
        rintro e w2 ⟨rfl, hx2⟩
        go_wp2_with fail
        refine (done_any (boolV _) _).mono ?_
        rintro e w3 ⟨rfl, hx3⟩
        replace hx3 := hx2.trans hx3
        obtain ⟨R0, R1, R2, R3, R4⟩ := res_cells hx3
        have R5 := lt_of_cell R0
        obtain ⟨F0, F1, F2, F3, F4⟩ := res_free hx3
        go_wp2_with fail
        refine bodyPost_ret (v := .agg #[.int .i64 (doneR (boolV (decide (n ≤ a)))).code, .int .i64 (doneR (boolV (decide (n ≤ a)))).value.kind, .int .i64 (doneR (boolV (decide (n ≤ a)))).value.number, .string (doneR (boolV (decide (n ≤ a)))).value.text, .string (doneR (boolV (decide (n ≤ a)))).text]) (by simp [results, Tryz.results78, go_sem, R0, R1, R2, R3, R4]) rfl ⟨ret_res (HV.out.trans HI.out.symm), ?_⟩
        (repeat refine Ext.setCell ?_ (by simp) _)
        exact ((Ext.refl w).alloc _).trans hx3
      · have HV : Hid (doneR (intV (max a n)) = int2V a ⟨#[109, 97, 120, 58]⟩ n) := Lib.hid (by simp [int2V])
        go_enter Tryz.func78, Tryz.ntmps78
        go_wp2_with fail
        refine (integer_any (max a n) _).mono ?_
        rintro e w2 ⟨rfl, hx2⟩
        go_wp2_with fail
        refine (done_any (intV _) _).mono ?_
        rintro e w3 ⟨rfl, hx3⟩
        replace hx3 := hx2.trans hx3
        obtain ⟨R0, R1, R2, R3, R4⟩ := res_cells hx3
        have R5 := lt_of_cell R0
        obtain ⟨F0, F1, F2, F3, F4⟩ := res_free hx3
        go_wp2_with fail
        refine bodyPost_ret (v := .agg #[.int .i64 (doneR (intV (max a n))).code, .int .i64 (doneR (intV (max a n))).value.kind, .int .i64 (doneR (intV (max a n))).value.number, .string (doneR (intV (max a n))).value.text, .string (doneR (intV (max a n))).text]) (by simp [results, Tryz.results78, go_sem, R0, R1, R2, R3, R4]) rfl ⟨ret_res (HV.out.trans HI.out.symm), ?_⟩
        (repeat refine Ext.setCell ?_ (by simp) _)
        exact ((Ext.refl w).alloc _).trans hx3
      · have HV : Hid (doneR (intV (min a n)) = int2V a ⟨#[109, 105, 110, 58]⟩ n) := Lib.hid (by simp [int2V])
        go_enter Tryz.func78, Tryz.ntmps78
        go_wp2_with fail
        refine (integer_any (min a n) _).mono ?_
        rintro e w2 ⟨rfl, hx2⟩
        go_wp2_with fail
        refine (done_any (intV _) _).mono ?_
        rintro e w3 ⟨rfl, hx3⟩
        replace hx3 := hx2.trans hx3
        obtain ⟨R0, R1, R2, R3, R4⟩ := res_cells hx3
        have R5 := lt_of_cell R0
        obtain ⟨F0, F1, F2, F3, F4⟩ := res_free hx3
        go_wp2_with fail
        refine bodyPost_ret (v := .agg #[.int .i64 (doneR (intV (min a n))).code, .int .i64 (doneR (intV (min a n))).value.kind, .int .i64 (doneR (intV (min a n))).value.number, .string (doneR (intV (min a n))).value.text, .string (doneR (intV (min a n))).text]) (by simp [results, Tryz.results78, go_sem, R0, R1, R2, R3, R4]) rfl ⟨ret_res (HV.out.trans HI.out.symm), ?_⟩
        (repeat refine Ext.setCell ?_ (by simp) _)
        exact ((Ext.refl w).alloc _).trans hx3
    · have HI : Hid (wrongR ⟨#[110, 111, 116, 32, 97, 32, 110, 117, 109, 98, 101, 114]⟩ = intR a s args) := Lib.hid (by unfold intR; rw [if_pos (hasB_tt hs), if_neg (fun h => hk (hK0.symm.trans h))])
      have t1 := int_nen hk
      clear hv0 hn0 hK0 hk
      simp only [int2L, List.mem_cons, List.not_mem_nil, or_false] at hs
      rcases hs with rfl | rfl | rfl | rfl | rfl | rfl | rfl | rfl | rfl | rfl | rfl
      all_goals
        go_enter Tryz.func78, Tryz.ntmps78
        go_wp2_with fail
        refine (wrong_any _ _).mono ?_
        rintro e w2 ⟨rfl, hx2⟩
        obtain ⟨R0, R1, R2, R3, R4⟩ := res_cells hx2
        have R5 := lt_of_cell R0
        obtain ⟨F0, F1, F2, F3, F4⟩ := res_free hx2
        go_wp2_with fail
        refine bodyPost_ret (v := .agg #[.int .i64 (wrongR ⟨#[110, 111, 116, 32, 97, 32, 110, 117, 109, 98, 101, 114]⟩).code, .int .i64 (wrongR ⟨#[110, 111, 116, 32, 97, 32, 110, 117, 109, 98, 101, 114]⟩).value.kind, .int .i64 (wrongR ⟨#[110, 111, 116, 32, 97, 32, 110, 117, 109, 98, 101, 114]⟩).value.number, .string (wrongR ⟨#[110, 111, 116, 32, 97, 32, 110, 117, 109, 98, 101, 114]⟩).value.text, .string (wrongR ⟨#[110, 111, 116, 32, 97, 32, 110, 117, 109, 98, 101, 114]⟩).text]) (by simp [results, Tryz.results78, go_sem, R0, R1, R2, R3, R4]) rfl ⟨ret_res HI.out, ?_⟩
        (repeat refine Ext.setCell ?_ (by simp) _)
        exact ((Ext.refl w).alloc _).trans hx2
  by_cases hg : s = ⟨#[110, 101, 103, 97, 116, 101, 100]⟩
  · subst hg
    have HI : Hid (bndR (-a) = intR a ⟨#[110, 101, 103, 97, 116, 101, 100]⟩ args) := Lib.hid (by unfold intR; rw [if_neg (fun h => hs (hasB_iff.1 h)), if_pos rfl]; skip)
    clear hc hv ra
    clear hs
    go_enter Tryz.func78, Tryz.ntmps78
    go_wp2_with fail
    refine (bounded_any (-a) _).mono ?_
    rintro e w2 ⟨rfl, hx2⟩
    obtain ⟨R0, R1, R2, R3, R4⟩ := res_cells hx2
    have R5 := lt_of_cell R0
    obtain ⟨F0, F1, F2, F3, F4⟩ := res_free hx2
    go_wp2_with fail
    refine bodyPost_ret (v := .agg #[.int .i64 (bndR (-a)).code, .int .i64 (bndR (-a)).value.kind, .int .i64 (bndR (-a)).value.number, .string (bndR (-a)).value.text, .string (bndR (-a)).text]) (by simp [results, Tryz.results78, go_sem, R0, R1, R2, R3, R4]) rfl ⟨ret_res HI.out, ?_⟩
    (repeat refine Ext.setCell ?_ (by simp) _)
    exact ((Ext.refl w).alloc _).trans hx2
  by_cases hh : s = ⟨#[97, 98, 115]⟩
  · subst hh
    have HI : Hid (bndR (max a (-a)) = intR a ⟨#[97, 98, 115]⟩ args) := Lib.hid (by unfold intR; rw [if_neg (fun h => hs (hasB_iff.1 h)), if_neg (by decide), if_pos rfl]; skip)
    have h0a : -999999999 ≤ max a (-a) ∧ max a (-a) ≤ 999999999 := by omega
    clear hc hv ra
    clear hs
    go_enter Tryz.func78, Tryz.ntmps78
    go_wp2_with fail
    refine (bounded_any (max a (-a)) _).mono ?_
    rintro e w2 ⟨rfl, hx2⟩
    obtain ⟨R0, R1, R2, R3, R4⟩ := res_cells hx2
    have R5 := lt_of_cell R0
    obtain ⟨F0, F1, F2, F3, F4⟩ := res_free hx2
    go_wp2_with fail
    refine bodyPost_ret (v := .agg #[.int .i64 (bndR (max a (-a))).code, .int .i64 (bndR (max a (-a))).value.kind, .int .i64 (bndR (max a (-a))).value.number, .string (bndR (max a (-a))).value.text, .string (bndR (max a (-a))).text]) (by simp [results, Tryz.results78, go_sem, R0, R1, R2, R3, R4]) rfl ⟨ret_res HI.out, ?_⟩
    (repeat refine Ext.setCell ?_ (by simp) _)
    exact ((Ext.refl w).alloc _).trans hx2
  have HI : Hid (missR = intR a s args) := Lib.hid (by unfold intR; rw [if_neg (fun h => hs (hasB_iff.1 h)), if_neg hg, if_neg hh])
  replace hg := str_ne' hg
  replace hh := str_ne' hh
  clear hc hv ra
  simp only [int2L, List.mem_cons, List.not_mem_nil, or_false, not_or] at hs
  obtain ⟨g0, g1, g2, g3, g4, g5, g6, g7, g8, g9, g10⟩ := hs
  replace g0 := str_ne' g0
  replace g1 := str_ne' g1
  replace g2 := str_ne' g2
  replace g3 := str_ne' g3
  replace g4 := str_ne' g4
  replace g5 := str_ne' g5
  replace g6 := str_ne' g6
  replace g7 := str_ne' g7
  replace g8 := str_ne' g8
  replace g9 := str_ne' g9
  replace g10 := str_ne' g10
  go_enter Tryz.func78, Tryz.ntmps78
  go_wp2_with fail
  refine (missing_any _).mono ?_
  rintro e w2 ⟨rfl, hx2⟩
  obtain ⟨R0, R1, R2, R3, R4⟩ := res_cells hx2
  have R5 := lt_of_cell R0
  obtain ⟨F0, F1, F2, F3, F4⟩ := res_free hx2
  go_wp2_with fail
  refine bodyPost_ret (v := .agg #[.int .i64 (missR).code, .int .i64 (missR).value.kind, .int .i64 (missR).value.number, .string (missR).value.text, .string (missR).text]) (by simp [results, Tryz.results78, go_sem, R0, R1, R2, R3, R4]) rfl ⟨ret_res HI.out, ?_⟩
  (repeat refine Ext.setCell ?_ (by simp) _)
  exact ((Ext.refl w).alloc _).trans hx2

end Go.Proofs.YtdngmifgglbbpaaGreatDoor
