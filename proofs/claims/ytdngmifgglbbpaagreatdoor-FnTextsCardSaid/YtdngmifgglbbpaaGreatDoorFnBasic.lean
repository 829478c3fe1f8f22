/-
  CONTRACTS: what BasicMessage is made of, of the program and of the reference.
  Conditions: those that each lemma states.
-/
import Derived.Test.YtdngmifgglbbpaaGreatDoorRows
import Derived.Test.YtdngmifgglbbpaaGreatDoorFnValues
import Derived.Test.YtdngmifgglbbpaaGreatDoorFnNums
namespace Go.Proofs.YtdngmifgglbbpaaGreatDoor
open Go.RowKit
set_option linter.unusedSimpArgs false
set_option linter.unusedVariables false

/-- Values and results. -/
def nilV : MValue := ⟨0, 0, ⟨#[]⟩⟩
def intV (n : Int) : MValue := ⟨2, n, ⟨#[]⟩⟩
def boolV (b : Bool) : MValue := ⟨1, if b then 1 else 0, ⟨#[]⟩⟩
def textV (s : ByteArray) : MValue := ⟨3, 0, s⟩
def symV (s : ByteArray) : MValue := ⟨4, 0, s⟩
def doneR (v : MValue) : MResult := ⟨0, v, ⟨#[]⟩⟩
def wrongR (t : ByteArray) : MResult := ⟨2, nilV, t⟩
def missR : MResult := ⟨1, nilV, ⟨#[]⟩⟩
def zeroR : MResult := ⟨3, nilV, ⟨#[100, 105, 118, 105, 115, 105, 111, 110, 32, 98, 121, 32, 122, 101, 114, 111]⟩⟩
def bndR (n : Int) : MResult := if decide (-999999999 ≤ n ∧ n ≤ 999999999) = true then doneR (intV n) else wrongR ⟨#[111, 118, 101, 114, 102, 108, 111, 119]⟩
def resA (r : MResult) : Array Value := #[.int .i64 (r).code, .int .i64 (r).value.kind, .int .i64 (r).value.number, .string (r).value.text, .string (r).text]
theorem ret_res {a b : MResult} (h : a = b) : Ending.returned (.agg #[.int .i64 (a).code, .int .i64 (a).value.kind, .int .i64 (a).value.number, .string (a).value.text, .string (a).text]) = .returned (.agg #[.int .i64 (b).code, .int .i64 (b).value.kind, .int .i64 (b).value.number, .string (b).value.text, .string (b).text]) := by rw [h]
theorem res_cells {w w2 : World} {e : TypeId} {v0 v1 v2 v3 v4 : Value} (hx : Ext (w.alloc (.cells #[v0, v1, v2, v3, v4] e)) w2) : w2.cell? ⟨w.heap.size, 0, none⟩ = some v0 ∧ w2.cell? ⟨w.heap.size, 1, none⟩ = some v1 ∧ w2.cell? ⟨w.heap.size, 2, none⟩ = some v2 ∧ w2.cell? ⟨w.heap.size, 3, none⟩ = some v3 ∧ w2.cell? ⟨w.heap.size, 4, none⟩ = some v4 :=
  ⟨hx.cell (by simp), hx.cell (by simp), hx.cell (by simp), hx.cell (by simp), hx.cell (by simp)⟩
theorem res_free {w w2 : World} {e : TypeId} {v0 v1 v2 v3 v4 : Value} (hx : Ext (w.alloc (.cells #[v0, v1, v2, v3, v4] e)) w2) : w2.frozen? ⟨w.heap.size, 0, none⟩ = false ∧ w2.frozen? ⟨w.heap.size, 1, none⟩ = false ∧ w2.frozen? ⟨w.heap.size, 2, none⟩ = false ∧ w2.frozen? ⟨w.heap.size, 3, none⟩ = false ∧ w2.frozen? ⟨w.heap.size, 4, none⟩ = false :=
  have h := (own_new w #[v0, v1, v2, v3, v4] e).ext hx
  ⟨h.frozen 0, h.frozen 1, h.frozen 2, h.frozen 3, h.frozen 4⟩

set_option maxHeartbeats 2000000 in
set_option maxRecDepth 100000 in
theorem integer_any (n : Int) (w : World) : Calls Tryz.prog 144 #[.int .i64 n] w fun e w' => e = .returned (.agg #[.int .i64 (intV n).kind, .int .i64 (intV n).number, .string (intV n).text]) ∧ Ext w w' := by
  go_enter Tryz.func144, Tryz.ntmps144
  go_wp2_with fail
  refine bodyPost_ret (v := .agg #[.int .i64 2, .int .i64 n, .string ⟨#[]⟩]) (by simp [results, Tryz.results144, go_sem]) rfl ⟨rfl, ?_⟩
  (repeat refine Ext.setCell ?_ (by simp) _)
  exact (Ext.refl w).alloc _

set_option maxHeartbeats 2000000 in
set_option maxRecDepth 100000 in
theorem l9Int_any (n : Int) (w : World) : Calls Tryz.prog 75 #[.int .i64 n] w fun e w' => e = .returned (.agg #[.int .i64 (intV n).kind, .int .i64 (intV n).number, .string (intV n).text]) ∧ Ext w w' := by
  go_enter Tryz.func75, Tryz.ntmps75
  go_wp2_with fail
  refine bodyPost_ret (v := .agg #[.int .i64 2, .int .i64 n, .string ⟨#[]⟩]) (by simp [results, Tryz.results75, go_sem]) rfl ⟨rfl, ?_⟩
  (repeat refine Ext.setCell ?_ (by simp) _)
  exact (Ext.refl w).alloc _

set_option maxHeartbeats 2000000 in
set_option maxRecDepth 100000 in
theorem textValue_any (s : ByteArray) (w : World) : Calls Tryz.prog 83 #[.string s] w fun e w' => e = .returned (.agg #[.int .i64 (textV s).kind, .int .i64 (textV s).number, .string (textV s).text]) ∧ Ext w w' := by
  go_enter Tryz.func83, Tryz.ntmps83
  go_wp2_with fail
  refine bodyPost_ret (v := .agg #[.int .i64 3, .int .i64 0, .string s]) (by simp [results, Tryz.results83, go_sem]) rfl ⟨rfl, ?_⟩
  (repeat refine Ext.setCell ?_ (by simp) _)
  exact (Ext.refl w).alloc _

set_option maxHeartbeats 2000000 in
set_option maxRecDepth 100000 in
theorem l9Text_any (s : ByteArray) (w : World) : Calls Tryz.prog 129 #[.string s] w fun e w' => e = .returned (.agg #[.int .i64 (textV s).kind, .int .i64 (textV s).number, .string (textV s).text]) ∧ Ext w w' := by
  go_enter Tryz.func129, Tryz.ntmps129
  go_wp2_with fail
  refine bodyPost_ret (v := .agg #[.int .i64 3, .int .i64 0, .string s]) (by simp [results, Tryz.results129, go_sem]) rfl ⟨rfl, ?_⟩
  (repeat refine Ext.setCell ?_ (by simp) _)
  exact (Ext.refl w).alloc _

set_option maxHeartbeats 2000000 in
set_option maxRecDepth 100000 in
theorem boolean_any (b : Bool) (w : World) : Calls Tryz.prog 81 #[.bool b] w fun e w' => e = .returned (.agg #[.int .i64 (boolV b).kind, .int .i64 (boolV b).number, .string (boolV b).text]) ∧ Ext w w' := by
  cases b
  · go_enter Tryz.func81, Tryz.ntmps81
    go_wp2_with fail
    refine bodyPost_ret (v := .agg #[.int .i64 1, .int .i64 0, .string ⟨#[]⟩]) (by simp [results, Tryz.results81, go_sem]) rfl ⟨rfl, ?_⟩
    (repeat refine Ext.setCell ?_ (by simp) _)
    exact (Ext.refl w).alloc _
  · go_enter Tryz.func81, Tryz.ntmps81
    go_wp2_with fail
    refine bodyPost_ret (v := .agg #[.int .i64 1, .int .i64 1, .string ⟨#[]⟩]) (by simp [results, Tryz.results81, go_sem]) rfl ⟨rfl, ?_⟩
    (repeat refine Ext.setCell ?_ (by simp) _)
    exact (Ext.refl w).alloc _

set_option maxHeartbeats 2000000 in
set_option maxRecDepth 100000 in
theorem l9Bool_any (b : Bool) (w : World) : Calls Tryz.prog 138 #[.bool b] w fun e w' => e = .returned (.agg #[.int .i64 (boolV b).kind, .int .i64 (boolV b).number, .string (boolV b).text]) ∧ Ext w w' := by
  cases b
  · go_enter Tryz.func138, Tryz.ntmps138
    go_wp2_with fail
    refine bodyPost_ret (v := .agg #[.int .i64 1, .int .i64 0, .string ⟨#[]⟩]) (by simp [results, Tryz.results138, go_sem]) rfl ⟨rfl, ?_⟩
    (repeat refine Ext.setCell ?_ (by simp) _)
    exact (Ext.refl w).alloc _
  · go_enter Tryz.func138, Tryz.ntmps138
    go_wp2_with fail
    refine bodyPost_ret (v := .agg #[.int .i64 1, .int .i64 1, .string ⟨#[]⟩]) (by simp [results, Tryz.results138, go_sem]) rfl ⟨rfl, ?_⟩
    (repeat refine Ext.setCell ?_ (by simp) _)
    exact (Ext.refl w).alloc _

set_option maxHeartbeats 2000000 in
set_option maxRecDepth 100000 in
theorem done_any (v : MValue) (w : World) : Calls Tryz.prog 80 #[.agg #[.int .i64 (v).kind, .int .i64 (v).number, .string (v).text]] w fun e w' => e = .returned (.agg #[.int .i64 (doneR v).code, .int .i64 (doneR v).value.kind, .int .i64 (doneR v).value.number, .string (doneR v).value.text, .string (doneR v).text]) ∧ Ext w w' := by
  go_enter Tryz.func80, Tryz.ntmps80
  go_wp2_with fail
  refine bodyPost_ret (v := .agg #[.int .i64 0, .int .i64 v.kind, .int .i64 v.number, .string v.text, .string ⟨#[]⟩]) (by simp [results, Tryz.results80, go_sem]) rfl ⟨rfl, ?_⟩
  (repeat refine Ext.setCell ?_ (by simp) _)
  exact ((Ext.refl w).alloc _).alloc _

set_option maxHeartbeats 2000000 in
set_option maxRecDepth 100000 in
theorem wrong_any (s : ByteArray) (w : World) : Calls Tryz.prog 82 #[.string s] w fun e w' => e = .returned (.agg #[.int .i64 (wrongR s).code, .int .i64 (wrongR s).value.kind, .int .i64 (wrongR s).value.number, .string (wrongR s).value.text, .string (wrongR s).text]) ∧ Ext w w' := by
  go_enter Tryz.func82, Tryz.ntmps82
  go_wp2_with fail
  refine bodyPost_ret (v := .agg #[.int .i64 2, .int .i64 0, .int .i64 0, .string ⟨#[]⟩, .string s]) (by simp [results, Tryz.results82, go_sem]) rfl ⟨rfl, ?_⟩
  (repeat refine Ext.setCell ?_ (by simp) _)
  exact (Ext.refl w).alloc _

set_option maxHeartbeats 2000000 in
set_option maxRecDepth 100000 in
theorem missing_any (w : World) : Calls Tryz.prog 77 #[] w fun e w' => e = .returned (.agg #[.int .i64 (missR).code, .int .i64 (missR).value.kind, .int .i64 (missR).value.number, .string (missR).value.text, .string (missR).text]) ∧ Ext w w' := by
  go_enter Tryz.func77, Tryz.ntmps77
  go_wp2_with fail
  refine bodyPost_ret (v := .agg #[.int .i64 1, .int .i64 0, .int .i64 0, .string ⟨#[]⟩, .string ⟨#[]⟩]) (by simp [results, Tryz.results77, go_sem]) rfl ⟨rfl, ?_⟩
  (repeat refine Ext.setCell ?_ (by simp) _)
  exact (Ext.refl w).alloc _

set_option maxHeartbeats 2000000 in
set_option maxRecDepth 100000 in
theorem bounded_any (n : Int) (w : World) : Calls Tryz.prog 143 #[.int .i64 n] w fun e w' => e = .returned (.agg #[.int .i64 (bndR n).code, .int .i64 (bndR n).value.kind, .int .i64 (bndR n).value.number, .string (bndR n).value.text, .string (bndR n).text]) ∧ Ext w w' := by
  cases h : decide (-999999999 ≤ n ∧ n ≤ 999999999)
  · have HV : Hid (wrongR ⟨#[111, 118, 101, 114, 102, 108, 111, 119]⟩ = bndR n) := Lib.hid (by unfold bndR; rw [h]; rfl)
    go_enter Tryz.func143, Tryz.ntmps143
    go_wp2_with fail
    refine (within_any _ _ _ _).mono ?_
    rw [h]
    rintro e wq ⟨rfl, hq⟩
    subst wq
    go_wp2_with fail
    refine (wrong_any ⟨#[111, 118, 101, 114, 102, 108, 111, 119]⟩ _).mono ?_
    rintro e w2 ⟨rfl, hx2⟩
    obtain ⟨R0, R1, R2, R3, R4⟩ := res_cells hx2
    have R5 := lt_of_cell R0
    obtain ⟨F0, F1, F2, F3, F4⟩ := res_free hx2
    go_wp2_with fail
    refine bodyPost_ret (v := .agg #[.int .i64 (wrongR ⟨#[111, 118, 101, 114, 102, 108, 111, 119]⟩).code, .int .i64 (wrongR ⟨#[111, 118, 101, 114, 102, 108, 111, 119]⟩).value.kind, .int .i64 (wrongR ⟨#[111, 118, 101, 114, 102, 108, 111, 119]⟩).value.number, .string (wrongR ⟨#[111, 118, 101, 114, 102, 108, 111, 119]⟩).value.text, .string (wrongR ⟨#[111, 118, 101, 114, 102, 108, 111, 119]⟩).text]) (by simp [results, Tryz.results143, go_sem, R0, R1, R2, R3, R4]) rfl ⟨ret_res HV.out, ?_⟩
    (repeat refine Ext.setCell ?_ (by simp) _)
    exact ((Ext.refl w).alloc _).trans hx2
  · have HV : Hid (doneR (intV n) = bndR n) := Lib.hid (by unfold bndR; rw [h]; rfl)
    go_enter Tryz.func143, Tryz.ntmps143
    go_wp2_with fail
    refine (within_any _ _ _ _).mono ?_
    rw [h]
    rintro e wq ⟨rfl, hq⟩
    subst wq
    go_wp2_with fail
    refine (integer_any n _).mono ?_
    rintro e w2 ⟨rfl, hx2⟩
    go_wp2_with fail
    refine (done_any (intV n) _).mono ?_
    rintro e w3 ⟨rfl, hx3⟩
    replace hx3 := hx2.trans hx3
    obtain ⟨R0, R1, R2, R3, R4⟩ := res_cells hx3
    have R5 := lt_of_cell R0
    obtain ⟨F0, F1, F2, F3, F4⟩ := res_free hx3
    go_wp2_with fail
    refine bodyPost_ret (v := .agg #[.int .i64 (doneR (intV n)).code, .int .i64 (doneR (intV n)).value.kind, .int .i64 (doneR (intV n)).value.number, .string (doneR (intV n)).value.text, .string (doneR (intV n)).text]) (by simp [results, Tryz.results143, go_sem, R0, R1, R2, R3, R4]) rfl ⟨ret_res HV.out, ?_⟩
    (repeat refine Ext.setCell ?_ (by simp) _)
    exact ((Ext.refl w).alloc _).trans hx3

/-- The quotient rounded down, and the rest. -/
def flC (a b : Int) : Bool := (a.tmod b != 0) && (decide (a.tmod b < 0) != decide (b < 0))
def flQ (a b : Int) : Int := if flC a b = true then a.tdiv b - 1 else a.tdiv b
def flR (a b : Int) : Int := if flC a b = true then a.tmod b + b else a.tmod b
theorem tdiv_le {a b : Int} (h0 : -999999999 ≤ a) (h1 : a ≤ 999999999) : -999999999 ≤ a.tdiv b ∧ a.tdiv b ≤ 999999999 := by
  have h : (a.tdiv b).natAbs = a.natAbs / b.natAbs := Int.natAbs_tdiv a b
  have h2 := Nat.div_le_self a.natAbs b.natAbs
  omega
theorem tmod_le {a b : Int} (h0 : -999999999 ≤ a) (h1 : a ≤ 999999999) : -999999999 ≤ a.tmod b ∧ a.tmod b ≤ 999999999 := by
  have h : (a.tmod b).natAbs = a.natAbs % b.natAbs := Int.natAbs_tmod a b
  have h2 := Nat.mod_le a.natAbs b.natAbs
  omega
theorem wrap_in {x : Int} (h0 : -9223372036854775808 ≤ x) (h1 : x ≤ 9223372036854775807) : IntKind.i64.wrap x = x := IntWalk.i64_in x ⟨h0, h1⟩

set_option maxHeartbeats 2000000 in
set_option maxRecDepth 100000 in
theorem floorDiv_any (a b : Int) (w : World) (a0 : -999999999 ≤ a) (a1 : a ≤ 999999999) (b0 : -999999999 ≤ b) (b1 : b ≤ 999999999) (hb : ¬ b = 0) : Calls Tryz.prog 145 #[.int .i64 a, .int .i64 b] w fun e w' => e = .returned (.tuple #[.int .i64 (flQ a b), .int .i64 (flR a b)]) ∧ Ext w w' := by
  obtain ⟨q0, q1⟩ := tdiv_le (b := b) a0 a1
  obtain ⟨r0, r1⟩ := tmod_le (b := b) a0 a1
  have hz := int_ne hb
  have HQ : IntKind.i64.wrap (a.tdiv b) = a.tdiv b := wrap_in (by omega) (by omega)
  have HC : Hid (flC a b = ((a.tmod b != 0) && (decide (a.tmod b < 0) != decide (b < 0)))) := Lib.hid rfl
  obtain ⟨q, hq⟩ : ∃ q, a.tdiv b = q := ⟨_, rfl⟩
  obtain ⟨r, hr⟩ : ∃ r, a.tmod b = r := ⟨_, rfl⟩
  have HF : Hid ((flC a b = true → q - 1 = flQ a b ∧ r + b = flR a b) ∧ (flC a b = false → q = flQ a b ∧ r = flR a b)) := Lib.hid (by constructor <;> intro h <;> simp [flQ, flR, h, hq, hr])
  rw [hq] at q0 q1
  rw [hr] at r0 r1 HC
  rw [hq] at HQ
  by_cases h1 : r = 0
  · have HE := Lib.hid (HF.out.2 (by rw [HC.out, h1]; rfl))
    have t1 := int_eqn h1
    clear h1
    go_enter Tryz.func145, Tryz.ntmps145
    go_upto_region 1 with fail
    refine wp_region_quiet_below (by kernel_rfl) (by kernel_rfl) ?_
    repeat (go_big_quiet_step (fail))
    refine wpQuiet_nil ?_
    intro _ hw'
    obtain ⟨pw, hw''⟩ := hw'
    subst hw''
    have X2 := regx w pw
    generalize hW2 : «Sort».grow (redrawn w pw.d) pw.os = W2 at *
    clear hW2
    go_wp2_with fail
    refine bodyPost_ret (v := .tuple #[.int .i64 (q), .int .i64 (r)]) (by simp [results, Tryz.results145, go_sem]) rfl ⟨by rw [HE.out.1, HE.out.2], X2⟩
  have t1 := int_nen h1
  by_cases h2 : r < 0
  · by_cases h3 : b < 0
    · have HE := Lib.hid (HF.out.2 (by rw [HC.out, decide_eq_true h2, decide_eq_true h3]; simp))
      go_enter Tryz.func145, Tryz.ntmps145
      go_upto_region 1 with fail
      refine wp_region_quiet_below (by kernel_rfl) (by kernel_rfl) ?_
      repeat (go_big_quiet_step (fail))
      refine wpQuiet_nil ?_
      intro _ hw'
      obtain ⟨pw, hw''⟩ := hw'
      subst hw''
      have X2 := regx w pw
      generalize hW2 : «Sort».grow (redrawn w pw.d) pw.os = W2 at *
      clear hW2
      go_wp2_with fail
      refine bodyPost_ret (v := .tuple #[.int .i64 (q), .int .i64 (r)]) (by simp [results, Tryz.results145, go_sem]) rfl ⟨by rw [HE.out.1, HE.out.2], X2⟩
    · have HE := Lib.hid (HF.out.1 (by rw [HC.out, decide_eq_true h2, decide_eq_false h3, t1]; rfl))
      go_enter Tryz.func145, Tryz.ntmps145
      go_upto_region 1 with fail
      refine wp_region_quiet_below (by kernel_rfl) (by kernel_rfl) ?_
      repeat (go_big_quiet_step (fail))
      refine wpQuiet_nil ?_
      intro _ hw'
      obtain ⟨pw, hw''⟩ := hw'
      subst hw''
      have X2 := regx w pw
      generalize hW2 : «Sort».grow (redrawn w pw.d) pw.os = W2 at *
      clear hW2
      go_wp2_with fail
      refine bodyPost_ret (v := .tuple #[.int .i64 (q - 1), .int .i64 (r + b)]) (by simp [results, Tryz.results145, go_sem]) rfl ⟨by rw [HE.out.1, HE.out.2], X2⟩
  · by_cases h3 : b < 0
    · have HE := Lib.hid (HF.out.1 (by rw [HC.out, decide_eq_false h2, decide_eq_true h3, t1]; rfl))
      go_enter Tryz.func145, Tryz.ntmps145
      go_upto_region 1 with fail
      refine wp_region_quiet_below (by kernel_rfl) (by kernel_rfl) ?_
      repeat (go_big_quiet_step (fail))
      refine wpQuiet_nil ?_
      intro _ hw'
      obtain ⟨pw, hw''⟩ := hw'
      subst hw''
      have X2 := regx w pw
      generalize hW2 : «Sort».grow (redrawn w pw.d) pw.os = W2 at *
      clear hW2
      go_wp2_with fail
      refine bodyPost_ret (v := .tuple #[.int .i64 (q - 1), .int .i64 (r + b)]) (by simp [results, Tryz.results145, go_sem]) rfl ⟨by rw [HE.out.1, HE.out.2], X2⟩
    · have HE := Lib.hid (HF.out.2 (by rw [HC.out, decide_eq_false h2, decide_eq_false h3]; simp))
      go_enter Tryz.func145, Tryz.ntmps145
      go_upto_region 1 with fail
      refine wp_region_quiet_below (by kernel_rfl) (by kernel_rfl) ?_
      repeat (go_big_quiet_step (fail))
      refine wpQuiet_nil ?_
      intro _ hw'
      obtain ⟨pw, hw''⟩ := hw'
      subst hw''
      have X2 := regx w pw
      generalize hW2 : «Sort».grow (redrawn w pw.d) pw.os = W2 at *
      clear hW2
      go_wp2_with fail
      refine bodyPost_ret (v := .tuple #[.int .i64 (q), .int .i64 (r)]) (by simp [results, Tryz.results145, go_sem]) rfl ⟨by rw [HE.out.1, HE.out.2], X2⟩

end Go.Proofs.YtdngmifgglbbpaaGreatDoor
