/-
  CONTRACTS: messages to numbers, of the program and of the reference.
  Conditions: those that each lemma states.
-/
import Derived.Test.YtdngmifgglbbpaaGreatDoorRows
import Derived.Test.YtdngmifgglbbpaaGreatDoorFnBasic
namespace Go.Proofs.YtdngmifgglbbpaaGreatDoor
open Go.RowKit
set_option linter.unusedSimpArgs false
set_option linter.unusedVariables false

def int2L : List ByteArray := [⟨#[43]⟩, ⟨#[45]⟩, ⟨#[42]⟩, ⟨#[47, 47]⟩, ⟨#[92, 92]⟩, ⟨#[60]⟩, ⟨#[62]⟩, ⟨#[60, 61]⟩, ⟨#[62, 61]⟩, ⟨#[109, 97, 120, 58]⟩, ⟨#[109, 105, 110, 58]⟩]
/-- A message of one argument to a number. -/
def int2V (a : Int) (s : ByteArray) (n : Int) : MResult :=
  if s = ⟨#[43]⟩ then bndR (a + n) else if s = ⟨#[45]⟩ then bndR (a - n) else if s = ⟨#[42]⟩ then bndR (a * n) else if s = ⟨#[60]⟩ then doneR (boolV (decide (a < n))) else if s = ⟨#[62]⟩ then doneR (boolV (decide (n < a))) else if s = ⟨#[60, 61]⟩ then doneR (boolV (decide (a ≤ n))) else if s = ⟨#[62, 61]⟩ then doneR (boolV (decide (n ≤ a))) else if s = ⟨#[109, 97, 120, 58]⟩ then doneR (intV (max a n)) else if s = ⟨#[109, 105, 110, 58]⟩ then doneR (intV (min a n)) else if n = 0 then zeroR else if s = ⟨#[47, 47]⟩ then bndR (flQ a n) else bndR (flR a n)
def hdV (args : List MValue) : MValue := args.headD nilV
noncomputable def intR (a : Int) (s : ByteArray) (args : List MValue) : MResult :=
  if hasB int2L s = true then (if (hdV args).kind = 2 then int2V a s (hdV args).number else wrongR ⟨#[110, 111, 116, 32, 97, 32, 110, 117, 109, 98, 101, 114]⟩) else if s = ⟨#[110, 101, 103, 97, 116, 101, 100]⟩ then bndR (-a) else if s = ⟨#[97, 98, 115]⟩ then bndR (max a (-a)) else missR
theorem bndR_in {n : Int} (h0 : -999999999 ≤ n) (h1 : n ≤ 999999999) : bndR n = doneR (intV n) := by unfold bndR; rw [if_pos (decide_eq_true ⟨h0, h1⟩)]
theorem mul_bd {a b : Int} (a0 : -999999999 ≤ a) (a1 : a ≤ 999999999) (b0 : -999999999 ≤ b) (b1 : b ≤ 999999999) : -999999998000000001 ≤ a * b ∧ a * b ≤ 999999998000000001 := by
  have h : (a * b).natAbs = a.natAbs * b.natAbs := Int.natAbs_mul a b
  have h2 : a.natAbs * b.natAbs ≤ 999999999 * 999999999 := Nat.mul_le_mul (by omega) (by omega)
  omega
/-- The first of a row of values. -/
theorem hd_cells {w : World} {args : List MValue} {va : Value} (ra : Rep w (MValues args) [va]) (h : 1 ≤ args.length) : ∃ b o cap, va = .slice (some ⟨b, o, none⟩) args.length cap ∧ args.length ≤ cap ∧ cap ≤ maxLen ∧ w.cell? ⟨b, o, none⟩ = some (.int .i64 (hdV args).kind) ∧ w.cell? ⟨b, o + 1, none⟩ = some (.int .i64 (hdV args).number) ∧ w.cell? ⟨b, o + 2, none⟩ = some (.string (hdV args).text) := by
  obtain ⟨ao, ca, bl, ol, h1, hla, hma, pa, ha⟩ := Rep.slmap ra
  simp only [List.cons.injEq, and_true] at h1
  subst h1
  obtain rfl := pa (by omega)
  cases args with
  | nil => simp at h
  | cons v l =>
    obtain ⟨es, les, ces, res⟩ := ha 0 v (by simp)
    have hc := MValue.op_en res
    subst hc
    refine ⟨_, _, _, rfl, hla, hma, ?_, ?_, ?_⟩
    · have h0 := ces 0 (by omega); simpa [hdV] using h0
    · have h0 := ces 1 (by omega); simpa [hdV] using h0
    · have h0 := ces 2 (by omega); simpa [hdV] using h0

set_option maxHeartbeats 2000000 in
set_option maxRecDepth 100000 in
theorem l1Max_any (a b : Int) (w : World) : Calls Tryz.prog 219 #[.int .i64 a, .int .i64 b] w fun e w' => e = .returned (.int .i64 (max a b)) ∧ Ext w w' := by
  by_cases h : b < a
  · have HV : Hid (a = max a b) := Lib.hid (by omega)
    go_enter Tryz.func219, Tryz.ntmps219
    go_wp2_with fail
    go_ret
    exact ⟨ret_int HV.out, Ext.refl _⟩
  · have HV : Hid (b = max a b) := Lib.hid (by omega)
    go_enter Tryz.func219, Tryz.ntmps219
    go_wp2_with fail
    go_ret
    exact ⟨ret_int HV.out, Ext.refl _⟩

theorem int2_rep {W : World} {b : Nat} (hb : W.heap.size = b) : Rep (W.alloc (.cells #[.string ⟨#[43]⟩, .string ⟨#[45]⟩, .string ⟨#[42]⟩, .string ⟨#[47, 47]⟩, .string ⟨#[92, 92]⟩, .string ⟨#[60]⟩, .string ⟨#[62]⟩, .string ⟨#[60, 61]⟩, .string ⟨#[62, 61]⟩, .string ⟨#[109, 97, 120, 58]⟩, .string ⟨#[109, 105, 110, 58]⟩] 9)) (strs int2L) [.slice (some ⟨b, 0, none⟩) 11 11] := by
  subst hb
  obtain ⟨_, _, _, fpL, eL, rL, -, hxL⟩ := gives_strs W int2L 9 (by simp [int2L, maxLen]) (by simp [int2L])
  cases eL
  exact rL.rep
theorem args_col {s : ByteArray} {n : Nat} (hc : colB s = true) (h : argsB s = n) : 1 ≤ n := by
  have hn : nameB s = false := name_single fun e => by rw [single_col e] at hc; cases hc
  unfold argsB at h
  rw [hn] at h
  split at h
  · omega
  · split at h
    · rename_i h2; cases h2
    · split at h
      · have := cutB_length 58 (stem s); omega
      · omega
theorem args_ops {s : ByteArray} {n : Nat} (hc : s ∈ opsL) (h : argsB s = n) : 1 ≤ n := by
  rw [args_op (hasB_tt hc)] at h; omega
theorem int2_args {s : ByteArray} {n : Nat} (hs : s ∈ int2L) (h : argsB s = n) : 1 ≤ n := by
  simp only [int2L, List.mem_cons, List.not_mem_nil, or_false] at hs
  rcases hs with rfl | rfl | rfl | rfl | rfl | rfl | rfl | rfl | rfl | rfl | rfl
  iterate 9 exact args_ops (by simp [opsL]) h
  all_goals exact args_col (by decide) h
theorem val_int {v : MValue} (h : ValOk v) (hk : v.kind = 2) : -999999999 ≤ v.number ∧ v.number ≤ 999999999 := by
  rcases h with h | h | h | h | h | h
  · omega
  · omega
  · exact h.2.1
  · omega
  · omega
  · omega

end Go.Proofs.YtdngmifgglbbpaaGreatDoor
