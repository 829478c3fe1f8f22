/-
  CONTRACTS: BasicMessage, of the program and of the reference.
  Conditions: those that each lemma states.
-/
import Derived.Test.YtnicpdflpmpajaaGreatDoorRows
import Derived.Test.YtnicpdflpmpajaaGreatDoorFnBasicJ
import Derived.Test.YtnicpdflpmpajaaGreatDoorFnBasicK
import Derived.Test.YtnicpdflpmpajaaGreatDoorFnBasicT
namespace Go.Proofs.YtnicpdflpmpajaaGreatDoor
open Go.RowKit
set_option linter.unusedSimpArgs false
set_option linter.unusedVariables false

noncomputable def boolR (a : Bool) (s : ByteArray) (args : List MValue) : MResult :=
  if s = ⟨#[110, 111, 116]⟩ then doneR (boolV (!a)) else if s = ⟨#[38]⟩ then (if (hdV args).kind = 1 then doneR (boolV (a && ((hdV args).number == 1))) else wrongR ⟨#[110, 111, 116, 32, 97, 32, 98, 111, 111, 108, 101, 97, 110]⟩) else missR
noncomputable def applyR (v : MValue) (s : ByteArray) (args : List MValue) : MResult :=
  if v.kind = 1 then boolR (v.number == 1) s args else if v.kind = 2 then intR v.number s args else if v.kind = 3 then textR v.text s args else if v.kind = 4 ∧ s = ⟨#[97, 115, 83, 116, 114, 105, 110, 103]⟩ then doneR (textV v.text) else missR
def ArgOk (s : ByteArray) (args : List MValue) : Prop := argsB s = args.length ∧ ∀ a, a ∈ args → ValOk a
noncomputable def argB (s : ByteArray) (args : List MValue) : Bool := eqB (ArgOk s args) True
theorem argB_tt {s : ByteArray} {args : List MValue} (h : ArgOk s args) : argB s args = true := eqB_tt (by simp [h])
theorem argB_ff {s : ByteArray} {args : List MValue} (h : ¬ ArgOk s args) : argB s args = false := eqB_ff (by simp [h])
theorem argB_iff {s : ByteArray} {args : List MValue} : argB s args = true ↔ ArgOk s args := by simp [argB, eqB_iff]
/-- What BasicMessage gives. -/
noncomputable def basicR (v : MValue) (s : ByteArray) (args : List MValue) : MResult := if valueB v = true ∧ v.kind ≤ 4 ∧ argB s args = true then applyR v s args else missR
theorem basic_no {v : MValue} {s : ByteArray} {args : List MValue} (h : ¬ (valueB v = true ∧ v.kind ≤ 4 ∧ argB s args = true)) : missR = basicR v s args := by unfold basicR; rw [if_neg h]
theorem basic_yes {v : MValue} {s : ByteArray} {args : List MValue} (h1 : valueB v = true) (h2 : v.kind ≤ 4) (h3 : argB s args = true) : basicR v s args = applyR v s args := by unfold basicR; rw [if_pos ⟨h1, h2, h3⟩]
theorem val_bool {v : MValue} (h : ValOk v) (hk : v.kind = 1) : v.number = 0 ∨ v.number = 1 := by
  rcases h with h | h | h | h | h | h
  · omega
  · omega
  · omega
  · omega
  · omega
  · omega
theorem val_kind {v : MValue} (h : ValOk v) (hk : v.kind ≤ 4) : v.kind = 0 ∨ v.kind = 1 ∨ v.kind = 2 ∨ v.kind = 3 ∨ v.kind = 4 := by
  rcases h with h | h | h | h | h | h <;> omega

set_option maxHeartbeats 2000000 in
set_option maxRecDepth 100000 in
theorem l10Bool_any (a : Bool) (s : ByteArray) (args : List MValue) (va : Value) (w : World) (ra : Rep w (MValues args) [va]) (hv : ∀ v, v ∈ args → ValOk v) (hc : argsB s = args.length) : Calls Tryz.prog 118 #[.bool a, .string s, va] w fun e w' => e = .returned (.agg #[.int .i64 (boolR a s args).code, .int .i64 (boolR a s args).value.kind, .int .i64 (boolR a s args).value.number, .string (boolR a s args).value.text, .string (boolR a s args).text]) ∧ Ext w w' := by
  by_cases g0 : s = ⟨#[110, 111, 116]⟩
  · subst g0
    have HI : Hid (doneR (boolV (!a)) = boolR a ⟨#[110, 111, 116]⟩ args) := Lib.hid (by unfold boolR; rw [if_pos rfl])
    clear hc hv ra
    go_enter Tryz.func118, Tryz.ntmps118
    go_wp2_with fail
    refine (l9Bool_any _ _).mono ?_
    rintro e w2 ⟨rfl, hx2⟩
    go_wp2_with fail
    refine (l10Done_any (boolV (!a)) _).mono ?_
    rintro e w3 ⟨rfl, hx3⟩
    replace hx3 := hx2.trans hx3
    obtain ⟨R0, R1, R2, R3, R4⟩ := res_cells hx3
    have R5 := lt_of_cell R0
    obtain ⟨F0, F1, F2, F3, F4⟩ := res_free hx3
    go_wp2_with fail
    refine bodyPost_ret (v := .agg #[.int .i64 (doneR (boolV (!a))).code, .int .i64 (doneR (boolV (!a))).value.kind, .int .i64 (doneR (boolV (!a))).value.number, .string (doneR (boolV (!a))).value.text, .string (doneR (boolV (!a))).text]) (by simp [results, Tryz.results118, go_sem, R0, R1, R2, R3, R4]) rfl ⟨ret_res HI.out, ?_⟩
    (repeat refine Ext.setCell ?_ (by simp) _)
    exact ((Ext.refl w).alloc _).trans hx3
  by_cases g1 : s = ⟨#[38]⟩
  · subst g1
    have hl : 1 ≤ args.length := args_ops (by simp [opsL]) hc
    clear hc
    obtain ⟨bl, ol, cap, rfl, hla, hma, q0, q1, q2⟩ := hd_cells ra hl
    have zb := lt_of_cell q0
    unfold maxLen at hma
    have hl' : (0 : Int) < args.length := by omega
    have hv0 : ValOk (hdV args) := hv _ (by cases args with | nil => simp at hl | cons v l => simp [hdV])
    obtain ⟨n, hn0⟩ : ∃ n, (hdV args).number = n := ⟨_, rfl⟩
    obtain ⟨K, hK0⟩ : ∃ K, (hdV args).kind = K := ⟨_, rfl⟩
    rw [hn0] at q1
    rw [hK0] at q0
    clear ra hv
    clear hv0
    by_cases hk : K = 1
    rotate_left
    · have HI : Hid (wrongR ⟨#[110, 111, 116, 32, 97, 32, 98, 111, 111, 108, 101, 97, 110]⟩ = boolR a ⟨#[38]⟩ args) := Lib.hid (by unfold boolR; rw [if_neg (by decide), if_pos rfl, if_neg (fun h => hk (hK0.symm.trans h))])
      have t1 := int_nen hk
      clear hk hn0 hK0
      go_enter Tryz.func118, Tryz.ntmps118
      go_wp2_with fail
      refine (l10Error_any ⟨#[110, 111, 116, 32, 97, 32, 98, 111, 111, 108, 101, 97, 110]⟩ _).mono ?_
      rintro e w2 ⟨rfl, hx2⟩
      obtain ⟨R0, R1, R2, R3, R4⟩ := res_cells hx2
      have R5 := lt_of_cell R0
      obtain ⟨F0, F1, F2, F3, F4⟩ := res_free hx2
      go_wp2_with fail
      refine bodyPost_ret (v := .agg #[.int .i64 (wrongR ⟨#[110, 111, 116, 32, 97, 32, 98, 111, 111, 108, 101, 97, 110]⟩).code, .int .i64 (wrongR ⟨#[110, 111, 116, 32, 97, 32, 98, 111, 111, 108, 101, 97, 110]⟩).value.kind, .int .i64 (wrongR ⟨#[110, 111, 116, 32, 97, 32, 98, 111, 111, 108, 101, 97, 110]⟩).value.number, .string (wrongR ⟨#[110, 111, 116, 32, 97, 32, 98, 111, 111, 108, 101, 97, 110]⟩).value.text, .string (wrongR ⟨#[110, 111, 116, 32, 97, 32, 98, 111, 111, 108, 101, 97, 110]⟩).text]) (by simp [results, Tryz.results118, go_sem, R0, R1, R2, R3, R4]) rfl ⟨ret_res HI.out, ?_⟩
      (repeat refine Ext.setCell ?_ (by simp) _)
      exact ((Ext.refl w).alloc _).trans hx2
    have HI : Hid (doneR (boolV (a && (n == 1))) = boolR a ⟨#[38]⟩ args) := Lib.hid (by unfold boolR; rw [if_neg (by decide), if_pos rfl, if_pos (hK0.trans hk), hn0])
    subst hk
    clear hn0 hK0
    cases a
    · go_enter Tryz.func118, Tryz.ntmps118
      go_wp2_with fail
      refine (l9Bool_any _ _).mono ?_
      rintro e w2 ⟨rfl, hx2⟩
      go_wp2_with fail
      refine (l10Done_any (boolV false) _).mono ?_
      rintro e w3 ⟨rfl, hx3⟩
      replace hx3 := hx2.trans hx3
      obtain ⟨R0, R1, R2, R3, R4⟩ := res_cells hx3
      have R5 := lt_of_cell R0
      obtain ⟨F0, F1, F2, F3, F4⟩ := res_free hx3
      go_wp2_with fail
      refine bodyPost_ret (v := .agg #[.int .i64 (doneR (boolV false)).code, .int .i64 (doneR (boolV false)).value.kind, .int .i64 (doneR (boolV false)).value.number, .string (doneR (boolV false)).value.text, .string (doneR (boolV false)).text]) (by simp [results, Tryz.results118, go_sem, R0, R1, R2, R3, R4]) rfl ⟨ret_res HI.out, ?_⟩
      (repeat refine Ext.setCell ?_ (by simp) _)
      exact ((Ext.refl w).alloc _).trans hx3
    · go_enter Tryz.func118, Tryz.ntmps118
      go_wp2_with fail
      refine (l9Bool_any _ _).mono ?_
      rintro e w2 ⟨rfl, hx2⟩
      go_wp2_with fail
      refine (l10Done_any (boolV (n == 1)) _).mono ?_
      rintro e w3 ⟨rfl, hx3⟩
      replace hx3 := hx2.trans hx3
      obtain ⟨R0, R1, R2, R3, R4⟩ := res_cells hx3
      have R5 := lt_of_cell R0
      obtain ⟨F0, F1, F2, F3, F4⟩ := res_free hx3
      go_wp2_with fail
      refine bodyPost_ret (v := .agg #[.int .i64 (doneR (boolV (n == 1))).code, .int .i64 (doneR (boolV (n == 1))).value.kind, .int .i64 (doneR (boolV (n == 1))).value.number, .string (doneR (boolV (n == 1))).value.text, .string (doneR (boolV (n == 1))).text]) (by simp [results, Tryz.results118, go_sem, R0, R1, R2, R3, R4]) rfl ⟨ret_res HI.out, ?_⟩
      (repeat refine Ext.setCell ?_ (by simp) _)
      exact ((Ext.refl w).alloc _).trans hx3
  have HI : Hid (missR = boolR a s args) := Lib.hid (by unfold boolR; rw [if_neg g0, if_neg g1])
  replace g0 := str_ne' g0
  replace g1 := str_ne' g1
  clear hc hv ra
  go_enter Tryz.func118, Tryz.ntmps118
  go_wp2_with fail
  refine (l10Missing_any _).mono ?_
  rintro e w2 ⟨rfl, hx2⟩
  obtain ⟨R0, R1, R2, R3, R4⟩ := res_cells hx2
  have R5 := lt_of_cell R0
  obtain ⟨F0, F1, F2, F3, F4⟩ := res_free hx2
  go_wp2_with fail
  refine bodyPost_ret (v := .agg #[.int .i64 (missR).code, .int .i64 (missR).value.kind, .int .i64 (missR).value.number, .string (missR).value.text, .string (missR).text]) (by simp [results, Tryz.results118, go_sem, R0, R1, R2, R3, R4]) rfl ⟨ret_res HI.out, ?_⟩
  (repeat refine Ext.setCell ?_ (by simp) _)
  exact ((Ext.refl w).alloc _).trans hx2

set_option maxHeartbeats 8000000 in
set_option maxRecDepth 100000 in
theorem l10Apply_any (v : MValue) (s : ByteArray) (args : List MValue) (va : Value) (w : World) (ra : Rep w (MValues args) [va]) (hvv : ValOk v) (hk4 : v.kind ≤ 4) (hv : ∀ v, v ∈ args → ValOk v) (hc : argsB s = args.length) : Calls Tryz.prog 69 #[.agg #[.int .i64 (v).kind, .int .i64 (v).number, .string (v).text], .string s, va] w fun e w' => e = .returned (.agg #[.int .i64 (applyR v s args).code, .int .i64 (applyR v s args).value.kind, .int .i64 (applyR v s args).value.number, .string (applyR v s args).value.text, .string (applyR v s args).text]) ∧ Ext w w' := by
  have hkk := val_kind hvv hk4
  obtain ⟨K, N, X⟩ := v
  simp only at hkk hk4 ⊢
  have RA := Lib.hid ra
  have HV := Lib.hid hv
  have HC := Lib.hid hc
  have HVV := Lib.hid hvv
  clear ra hv hc hvv hk4
  rcases hkk with rfl | rfl | rfl | rfl | rfl
  · have HI : Hid (missR = applyR ⟨0, N, X⟩ s args) := Lib.hid (by unfold applyR; simp)
    go_enter Tryz.func69, Tryz.ntmps69
    go_wp2_with fail
    refine (l10Missing_any _).mono ?_
    rintro e w2 ⟨rfl, hx2⟩
    obtain ⟨R0, R1, R2, R3, R4⟩ := res_cells hx2
    obtain ⟨F0, F1, F2, F3, F4⟩ := res_free hx2
    rw [show (w.alloc (.cells #[.int .i64 0, .int .i64 N, .string X] 60)).heap.size = w.heap.size + 1 from by simp] at R0 R1 R2 R3 R4 F0 F1 F2 F3 F4
    have R5 := lt_of_cell R0
    go_wp2_with fail
    refine bodyPost_ret (v := .agg #[.int .i64 (missR).code, .int .i64 (missR).value.kind, .int .i64 (missR).value.number, .string (missR).value.text, .string (missR).text]) (by simp [results, Tryz.results69, go_sem, R0, R1, R2, R3, R4]) rfl ⟨ret_res HI.out, ?_⟩
    (repeat refine Ext.setCell ?_ (by simp) _)
    exact (((Ext.refl w).alloc _).alloc _).trans hx2
  · have HI : Hid (boolR (N == 1) s args = applyR ⟨1, N, X⟩ s args) := Lib.hid (by unfold applyR; simp)
    go_enter Tryz.func69, Tryz.ntmps69
    go_wp2_with fail
    refine (l10Bool_any (N == 1) s args va _ (Rep.ext (((Ext.refl w).alloc _).alloc _) RA.out) HV.out HC.out).mono ?_
    rintro e w2 ⟨rfl, hx2⟩
    obtain ⟨R0, R1, R2, R3, R4⟩ := res_cells hx2
    obtain ⟨F0, F1, F2, F3, F4⟩ := res_free hx2
    rw [show (w.alloc (.cells #[.int .i64 1, .int .i64 N, .string X] 60)).heap.size = w.heap.size + 1 from by simp] at R0 R1 R2 R3 R4 F0 F1 F2 F3 F4
    have R5 := lt_of_cell R0
    go_wp2_with fail
    refine bodyPost_ret (v := .agg #[.int .i64 (boolR (N == 1) s args).code, .int .i64 (boolR (N == 1) s args).value.kind, .int .i64 (boolR (N == 1) s args).value.number, .string (boolR (N == 1) s args).value.text, .string (boolR (N == 1) s args).text]) (by simp [results, Tryz.results69, go_sem, R0, R1, R2, R3, R4]) rfl ⟨ret_res HI.out, ?_⟩
    (repeat refine Ext.setCell ?_ (by simp) _)
    exact (((Ext.refl w).alloc _).alloc _).trans hx2
  · have HI : Hid (intR N s args = applyR ⟨2, N, X⟩ s args) := Lib.hid (by unfold applyR; simp)
    go_enter Tryz.func69, Tryz.ntmps69
    obtain ⟨n0, n1⟩ := val_int HVV.out rfl
    simp only at n0 n1
    go_wp2_with fail
    refine (l10Int_any N s args va _ (Rep.ext (((Ext.refl w).alloc _).alloc _) RA.out) n0 n1 HV.out HC.out).mono ?_
    rintro e w2 ⟨rfl, hx2⟩
    obtain ⟨R0, R1, R2, R3, R4⟩ := res_cells hx2
    obtain ⟨F0, F1, F2, F3, F4⟩ := res_free hx2
    rw [show (w.alloc (.cells #[.int .i64 2, .int .i64 N, .string X] 60)).heap.size = w.heap.size + 1 from by simp] at R0 R1 R2 R3 R4 F0 F1 F2 F3 F4
    have R5 := lt_of_cell R0
    go_wp2_with fail
    refine bodyPost_ret (v := .agg #[.int .i64 (intR N s args).code, .int .i64 (intR N s args).value.kind, .int .i64 (intR N s args).value.number, .string (intR N s args).value.text, .string (intR N s args).text]) (by simp [results, Tryz.results69, go_sem, R0, R1, R2, R3, R4]) rfl ⟨ret_res HI.out, ?_⟩
    (repeat refine Ext.setCell ?_ (by simp) _)
    exact (((Ext.refl w).alloc _).alloc _).trans hx2
  · have HI : Hid (textR X s args = applyR ⟨3, N, X⟩ s args) := Lib.hid (by unfold applyR; simp)
    go_enter Tryz.func69, Tryz.ntmps69
    have hX := val_text HVV.out rfl
    simp only at hX
    go_wp2_with fail
    refine (l10Text_any X s args va _ (Rep.ext (((Ext.refl w).alloc _).alloc _) RA.out) hX HV.out HC.out).mono ?_
    rintro e w2 ⟨rfl, hx2⟩
    obtain ⟨R0, R1, R2, R3, R4⟩ := res_cells hx2
    obtain ⟨F0, F1, F2, F3, F4⟩ := res_free hx2
    rw [show (w.alloc (.cells #[.int .i64 3, .int .i64 N, .string X] 60)).heap.size = w.heap.size + 1 from by simp] at R0 R1 R2 R3 R4 F0 F1 F2 F3 F4
    have R5 := lt_of_cell R0
    go_wp2_with fail
    refine bodyPost_ret (v := .agg #[.int .i64 (textR X s args).code, .int .i64 (textR X s args).value.kind, .int .i64 (textR X s args).value.number, .string (textR X s args).value.text, .string (textR X s args).text]) (by simp [results, Tryz.results69, go_sem, R0, R1, R2, R3, R4]) rfl ⟨ret_res HI.out, ?_⟩
    (repeat refine Ext.setCell ?_ (by simp) _)
    exact (((Ext.refl w).alloc _).alloc _).trans hx2
  · by_cases g0 : s = ⟨#[97, 115, 83, 116, 114, 105, 110, 103]⟩
    · subst g0
      have HI : Hid (doneR (textV X) = applyR ⟨4, N, X⟩ ⟨#[97, 115, 83, 116, 114, 105, 110, 103]⟩ args) := Lib.hid (by unfold applyR; simp)
      go_enter Tryz.func69, Tryz.ntmps69
      go_wp2_with fail
      refine (l9Text_any _ _).mono ?_
      rintro e w2 ⟨rfl, hx2⟩
      go_wp2_with fail
      refine (l10Done_any (textV X) _).mono ?_
      rintro e w3 ⟨rfl, hx3⟩
      replace hx3 := hx2.trans hx3
      obtain ⟨R0, R1, R2, R3, R4⟩ := res_cells hx3
      obtain ⟨F0, F1, F2, F3, F4⟩ := res_free hx3
      rw [show (w.alloc (.cells #[.int .i64 4, .int .i64 N, .string X] 60)).heap.size = w.heap.size + 1 from by simp] at R0 R1 R2 R3 R4 F0 F1 F2 F3 F4
      have R5 := lt_of_cell R0
      go_wp2_with fail
      refine bodyPost_ret (v := .agg #[.int .i64 (doneR (textV X)).code, .int .i64 (doneR (textV X)).value.kind, .int .i64 (doneR (textV X)).value.number, .string (doneR (textV X)).value.text, .string (doneR (textV X)).text]) (by simp [results, Tryz.results69, go_sem, R0, R1, R2, R3, R4]) rfl ⟨ret_res HI.out, ?_⟩
      (repeat refine Ext.setCell ?_ (by simp) _)
      exact (((Ext.refl w).alloc _).alloc _).trans hx3
    · have HI : Hid (missR = applyR ⟨4, N, X⟩ s args) := Lib.hid (by unfold applyR; simp [g0])
      replace g0 := str_ne' g0
      go_enter Tryz.func69, Tryz.ntmps69
      go_wp2_with fail
      refine (l10Missing_any _).mono ?_
      rintro e w2 ⟨rfl, hx2⟩
      obtain ⟨R0, R1, R2, R3, R4⟩ := res_cells hx2
      obtain ⟨F0, F1, F2, F3, F4⟩ := res_free hx2
      rw [show (w.alloc (.cells #[.int .i64 4, .int .i64 N, .string X] 60)).heap.size = w.heap.size + 1 from by simp] at R0 R1 R2 R3 R4 F0 F1 F2 F3 F4
      have R5 := lt_of_cell R0
      go_wp2_with fail
      refine bodyPost_ret (v := .agg #[.int .i64 (missR).code, .int .i64 (missR).value.kind, .int .i64 (missR).value.number, .string (missR).value.text, .string (missR).text]) (by simp [results, Tryz.results69, go_sem, R0, R1, R2, R3, R4]) rfl ⟨ret_res HI.out, ?_⟩
      (repeat refine Ext.setCell ?_ (by simp) _)
      exact (((Ext.refl w).alloc _).alloc _).trans hx2

set_option maxHeartbeats 2000000 in
set_option maxRecDepth 100000 in
theorem l10Args_any (s : ByteArray) (args : List MValue) (va : Value) (w : World) (ra : Rep w (MValues args) [va]) (hs : s.size ≤ 1048576) (hz : ∀ a, a ∈ args → a.text.size ≤ 1048576) : Calls Tryz.prog 67 #[.string s, va] w fun e w' => e = .returned (.bool (argB s args)) ∧ Ext w w' := by
  have HZ := Lib.hid hz
  clear hz
  obtain ⟨ao, cap, bl, ol, h1, hla, hma, pa, ha⟩ := Rep.slmap ra
  simp only [List.cons.injEq, and_true] at h1
  subst h1
  unfold maxLen at hma
  have HA := Lib.hid ha
  clear ha
  by_cases hc : argsB s = args.length
  rotate_left
  · have HN : Hid (argB s args = false) := Lib.hid (argB_ff fun h => hc h.1)
    have t1 := int_nen hc
    clear hc
    go_enter Tryz.func67, Tryz.ntmps67
    go_wp2_with fail
    refine (spec_CountArgs_any s _ hs).mono ?_
    rintro e w2 ⟨rfl, hx2⟩
    go_wp2_with fail
    go_ret
    exact ⟨ret_bool HN.out.symm, hx2⟩
  have HC := Lib.hid hc
  have t1 := int_eqn hc
  clear hc
  go_enter Tryz.func67, Tryz.ntmps67
  go_wp2_with fail
  refine (spec_CountArgs_any s _ hs).mono ?_
  rintro e w2 ⟨rfl, hx2⟩
  go_wp2_with fail
  clear t1
  go_loopw [5] (fun iv wr => ∃ i : Nat, i ≤ args.length ∧ iv = .int .i64 i ∧ Ext w2 wr ∧ Hid (∀ (j : Nat) a, j < i → args[j]? = some a → ValOk a)) (fun iv _ => args.length - (intOf iv).toNat)
  case atStart => exact ⟨0, Nat.zero_le _, rfl, Ext.refl _, Lib.hid fun i e hi => by omega⟩
  case round =>
    obtain ⟨i, hi, rfl, hx, hJ⟩ := hrel
    have X := hx2.trans hx
    by_cases hlt : i < args.length
    rotate_left
    · have HN : Hid (argB s args = true) := Lib.hid (argB_tt ⟨HC.out, fun a ha => by
        obtain ⟨j, hj, rfl⟩ := List.mem_iff_getElem.1 ha
        exact hJ.out j _ (by omega) (by simp [hj])⟩)
      go_wp2_with fail
      go_ret
      exact ⟨ret_bool HN.out.symm, X⟩
    obtain ⟨v, hv⟩ : ∃ v, v = args[i] := ⟨_, rfl⟩
    have hvi : args[i]? = some v := by rw [hv]; simp [hlt]
    have hvz := HZ.out v (by rw [hv]; exact List.getElem_mem _)
    clear hv
    obtain rfl := pa (by omega)
    obtain ⟨es, les, ces, res⟩ := HA.out i v hvi
    have hcv := MValue.op_en res
    subst hcv
    have RV := Lib.hid res
    have d0 := X.cell (show w.cell? ⟨bl, ol + i * 3, none⟩ = some _ from ces 0 (by omega))
    have d1 := X.cell (show w.cell? ⟨bl, ol + i * 3 + 1, none⟩ = some _ from ces 1 (by omega))
    have d2 := X.cell (show w.cell? ⟨bl, ol + i * 3 + 2, none⟩ = some _ from ces 2 (by omega))
    have HVI := Lib.hid hvi
    have hil : (i : Int) < args.length := by omega
    clear les ces res hvi
    have STEP : Hid (ValOk v → ∀ (j : Nat) a, j < i + 1 → args[j]? = some a → ValOk a) := Lib.hid fun h j a hj ha => by
      by_cases h2 : j < i
      · exact hJ.out j a h2 ha
      · obtain rfl : j = i := by omega
        rw [HVI.out] at ha; injection ha with ha; subst ha; exact h
    have BAD : Hid (¬ ValOk v → ¬ ArgOk s args) := Lib.hid fun h g => h (g.2 v (List.mem_of_getElem? HVI.out))
    cases g : valueB v
    · have HN : Hid (argB s args = false) := Lib.hid (argB_ff (BAD.out fun h => by rw [valueB_tt h] at g; cases g))
      go_wp2_with fail
      refine (spec_IsValue_any v _ _ (Rep.ext X RV.out) hvz).mono ?_
      rw [g]
      rintro e w5 ⟨rfl, hx5⟩
      clear g
      go_wp2_with fail
      go_ret
      exact ⟨ret_bool HN.out.symm, X.trans hx5⟩
    have HS := Lib.hid (STEP.out (valueB_iff.1 g))
    go_wp2_with fail
    refine (spec_IsValue_any v _ _ (Rep.ext X RV.out) hvz).mono ?_
    rw [g]
    rintro e w5 ⟨rfl, hx5⟩
    clear g
    go_wp2_with fail
    go_roundw
    case rel => exact ⟨i + 1, by omega, by go_num, hx.trans hx5, HS⟩
    case measure => simp [intOf]; omega

set_option maxHeartbeats 8000000 in
set_option maxRecDepth 100000 in
theorem spec_BasicMessage_any (v : MValue) (cv : List Value) (s : ByteArray) (args : List MValue) (va : Value) (w : World) (rv : Rep w v.d cv) (ra : Rep w (MValues args) [va]) (hvz : v.text.size ≤ 1048576) (hs : s.size ≤ 1048576) (hz : ∀ a, a ∈ args → a.text.size ≤ 1048576) : Calls Tryz.prog 24 #[.agg cv.toArray, .string s, va] w fun e w' => e = .returned (.agg #[.int .i64 (basicR v s args).code, .int .i64 (basicR v s args).value.kind, .int .i64 (basicR v s args).value.number, .string (basicR v s args).value.text, .string (basicR v s args).text]) ∧ Ext w w' := by
  have RV := Lib.hid rv
  have hcv := MValue.op_en rv
  subst hcv
  have RA := Lib.hid ra
  have HZ := Lib.hid hz
  clear rv ra hz
  have x1 : Ext w ((w.alloc (.cells #[.int .i64 (v).kind, .int .i64 (v).number, .string (v).text] 60)).alloc (.cells #[.int .i64 0, .int .i64 0, .int .i64 0, .string ByteArray.empty, .string ByteArray.empty] 67)) := ((Ext.refl w).alloc _).alloc _
  cases g0 : valueB v
  · have HI : Hid (missR = basicR v s args) := Lib.hid (basic_no fun h => by rw [g0] at h; cases h.1)
    go_enter Tryz.func24, Tryz.ntmps24
    go_wp2_with fail
    refine (spec_IsValue_any v _ _ (Rep.ext x1 RV.out) hvz).mono ?_
    rw [g0]
    rintro e w2 ⟨rfl, hx2⟩
    clear g0
    go_wp2_with fail
    refine (l10Missing_any _).mono ?_
    rintro e w3 ⟨rfl, hx3⟩
    replace hx3 := hx2.trans hx3
    obtain ⟨R0, R1, R2, R3, R4⟩ := res_cells hx3
    obtain ⟨F0, F1, F2, F3, F4⟩ := res_free hx3
    rw [show (w.alloc (.cells #[.int .i64 (v).kind, .int .i64 (v).number, .string (v).text] 60)).heap.size = w.heap.size + 1 from by simp] at R0 R1 R2 R3 R4 F0 F1 F2 F3 F4
    have R5 := lt_of_cell R0
    go_wp2_with fail
    refine bodyPost_ret (v := .agg #[.int .i64 (missR).code, .int .i64 (missR).value.kind, .int .i64 (missR).value.number, .string (missR).value.text, .string (missR).text]) (by simp [results, Tryz.results24, go_sem, R0, R1, R2, R3, R4]) rfl ⟨ret_res HI.out, ?_⟩
    (repeat refine Ext.setCell ?_ (by simp) _)
    exact (((Ext.refl w).alloc _).alloc _).trans hx3
  by_cases hk : v.kind ≤ 4
  rotate_left
  · have HI : Hid (missR = basicR v s args) := Lib.hid (basic_no fun h => hk h.2.1)
    have hk' : (4 : Int) < v.kind := by omega
    go_enter Tryz.func24, Tryz.ntmps24
    go_wp2_with fail
    refine (spec_IsValue_any v _ _ (Rep.ext x1 RV.out) hvz).mono ?_
    rw [g0]
    rintro e w2 ⟨rfl, hx2⟩
    clear g0
    have m0 : w2.cell? ⟨w.heap.size, 0, none⟩ = some (.int .i64 v.kind) := Ext.cell hx2 (by simp)
    have m1 : w2.cell? ⟨w.heap.size, 1, none⟩ = some (.int .i64 v.number) := Ext.cell hx2 (by simp)
    have m2 : w2.cell? ⟨w.heap.size, 2, none⟩ = some (.string v.text) := Ext.cell hx2 (by simp)
    go_wp2_with fail
    refine (l10Missing_any _).mono ?_
    rintro e w3 ⟨rfl, hx3⟩
    replace hx3 := hx2.trans hx3
    obtain ⟨R0, R1, R2, R3, R4⟩ := res_cells hx3
    obtain ⟨F0, F1, F2, F3, F4⟩ := res_free hx3
    rw [show (w.alloc (.cells #[.int .i64 (v).kind, .int .i64 (v).number, .string (v).text] 60)).heap.size = w.heap.size + 1 from by simp] at R0 R1 R2 R3 R4 F0 F1 F2 F3 F4
    have R5 := lt_of_cell R0
    go_wp2_with fail
    refine bodyPost_ret (v := .agg #[.int .i64 (missR).code, .int .i64 (missR).value.kind, .int .i64 (missR).value.number, .string (missR).value.text, .string (missR).text]) (by simp [results, Tryz.results24, go_sem, R0, R1, R2, R3, R4]) rfl ⟨ret_res HI.out, ?_⟩
    (repeat refine Ext.setCell ?_ (by simp) _)
    exact (((Ext.refl w).alloc _).alloc _).trans hx3
  cases g1 : argB s args
  · have HI : Hid (missR = basicR v s args) := Lib.hid (basic_no fun h => by rw [g1] at h; cases h.2.2)
    go_enter Tryz.func24, Tryz.ntmps24
    go_wp2_with fail
    refine (spec_IsValue_any v _ _ (Rep.ext x1 RV.out) hvz).mono ?_
    rw [g0]
    rintro e w2 ⟨rfl, hx2⟩
    clear g0
    have m0 : w2.cell? ⟨w.heap.size, 0, none⟩ = some (.int .i64 v.kind) := Ext.cell hx2 (by simp)
    have m1 : w2.cell? ⟨w.heap.size, 1, none⟩ = some (.int .i64 v.number) := Ext.cell hx2 (by simp)
    have m2 : w2.cell? ⟨w.heap.size, 2, none⟩ = some (.string v.text) := Ext.cell hx2 (by simp)
    go_wp2_with fail
    refine (l10Args_any s args va _ (Rep.ext (x1.trans hx2) RA.out) hs HZ.out).mono ?_
    rw [g1]
    rintro e w3 ⟨rfl, hx3⟩
    replace m0 := Ext.cell hx3 m0
    replace m1 := Ext.cell hx3 m1
    replace m2 := Ext.cell hx3 m2
    replace hx3 := hx2.trans hx3
    clear g1
    go_wp2_with fail
    refine (l10Missing_any _).mono ?_
    rintro e w4 ⟨rfl, hx4⟩
    replace hx4 := hx3.trans hx4
    obtain ⟨R0, R1, R2, R3, R4⟩ := res_cells hx4
    obtain ⟨F0, F1, F2, F3, F4⟩ := res_free hx4
    rw [show (w.alloc (.cells #[.int .i64 (v).kind, .int .i64 (v).number, .string (v).text] 60)).heap.size = w.heap.size + 1 from by simp] at R0 R1 R2 R3 R4 F0 F1 F2 F3 F4
    have R5 := lt_of_cell R0
    go_wp2_with fail
    refine bodyPost_ret (v := .agg #[.int .i64 (missR).code, .int .i64 (missR).value.kind, .int .i64 (missR).value.number, .string (missR).value.text, .string (missR).text]) (by simp [results, Tryz.results24, go_sem, R0, R1, R2, R3, R4]) rfl ⟨ret_res HI.out, ?_⟩
    (repeat refine Ext.setCell ?_ (by simp) _)
    exact (((Ext.refl w).alloc _).alloc _).trans hx4
  have HI : Hid (applyR v s args = basicR v s args) := Lib.hid (basic_yes g0 hk g1).symm
  have HVV := Lib.hid (valueB_iff.1 g0)
  have HAR := Lib.hid (argB_iff.1 g1)
  go_enter Tryz.func24, Tryz.ntmps24
  go_wp2_with fail
  refine (spec_IsValue_any v _ _ (Rep.ext x1 RV.out) hvz).mono ?_
  rw [g0]
  rintro e w2 ⟨rfl, hx2⟩
  clear g0
  have m0 : w2.cell? ⟨w.heap.size, 0, none⟩ = some (.int .i64 v.kind) := Ext.cell hx2 (by simp)
  have m1 : w2.cell? ⟨w.heap.size, 1, none⟩ = some (.int .i64 v.number) := Ext.cell hx2 (by simp)
  have m2 : w2.cell? ⟨w.heap.size, 2, none⟩ = some (.string v.text) := Ext.cell hx2 (by simp)
  go_wp2_with fail
  refine (l10Args_any s args va _ (Rep.ext (x1.trans hx2) RA.out) hs HZ.out).mono ?_
  rw [g1]
  rintro e w3 ⟨rfl, hx3⟩
  replace m0 := Ext.cell hx3 m0
  replace m1 := Ext.cell hx3 m1
  replace m2 := Ext.cell hx3 m2
  replace hx3 := hx2.trans hx3
  clear g1
  go_wp2_with fail
  refine (l10Apply_any v s args va _ (Rep.ext (x1.trans hx3) RA.out) HVV.out hk HAR.out.2 HAR.out.1).mono ?_
  rintro e w4 ⟨rfl, hx4⟩
  replace hx4 := hx3.trans hx4
  obtain ⟨R0, R1, R2, R3, R4⟩ := res_cells hx4
  obtain ⟨F0, F1, F2, F3, F4⟩ := res_free hx4
  rw [show (w.alloc (.cells #[.int .i64 (v).kind, .int .i64 (v).number, .string (v).text] 60)).heap.size = w.heap.size + 1 from by simp] at R0 R1 R2 R3 R4 F0 F1 F2 F3 F4
  have R5 := lt_of_cell R0
  go_wp2_with fail
  refine bodyPost_ret (v := .agg #[.int .i64 (applyR v s args).code, .int .i64 (applyR v s args).value.kind, .int .i64 (applyR v s args).value.number, .string (applyR v s args).value.text, .string (applyR v s args).text]) (by simp [results, Tryz.results24, go_sem, R0, R1, R2, R3, R4]) rfl ⟨ret_res HI.out, ?_⟩
  (repeat refine Ext.setCell ?_ (by simp) _)
  exact (((Ext.refl w).alloc _).alloc _).trans hx4

end Go.Proofs.YtnicpdflpmpajaaGreatDoor
