/-
  CONTRACTS: what the laws ask of BasicMessage.
  Conditions: those that each lemma states.
-/
import Derived.Test.YtdngmifgglbbpaaGreatDoorRows
import Derived.Test.YtdngmifgglbbpaaGreatDoorFnBasicP
import Derived.Test.YtdngmifgglbbpaaGreatDoorFnDrawsM
namespace Go.Proofs.YtdngmifgglbbpaaGreatDoor
open Go.RowKit
set_option linter.unusedSimpArgs false
set_option linter.unusedVariables false

theorem hd_one (y : MValue) : hdV [y] = y := rfl
theorem basic_plus {x y : MValue} (h : ¬ (x.kind = 2 ∧ y.kind = 2)) : (basicR x ⟨#[43]⟩ [y]).code ≠ 0 := by
  unfold basicR
  split
  · unfold applyR
    split
    · unfold boolR; rw [if_neg (by decide), if_neg (by decide)]; simp [missR]
    · split
      · rename_i h2
        unfold intR; rw [if_pos (hasB_tt (by simp [int2L])), hd_one, if_neg (fun h3 => h ⟨h2, h3⟩)]; simp [wrongR]
      · split
        · unfold textR; rw [if_neg (by decide), if_neg (by decide), if_neg (by decide), if_neg (by decide), if_neg (by decide), if_neg (by decide)]; simp [missR]
        · rw [if_neg (by rintro ⟨-, h⟩; revert h; decide)]; simp [missR]
  · simp [missR]
theorem basic_comma {x y : MValue} (h : ¬ (x.kind = 3 ∧ y.kind = 3)) : (basicR x ⟨#[44]⟩ [y]).code ≠ 0 := by
  unfold basicR
  split
  · unfold applyR
    split
    · unfold boolR; rw [if_neg (by decide), if_neg (by decide)]; simp [missR]
    · split
      · unfold intR; rw [if_neg (by rw [hasB_iff]; simp [int2L]), if_neg (by decide), if_neg (by decide)]; simp [missR]
      · split
        · rename_i h3
          unfold textR; rw [if_neg (by decide), if_neg (by decide), if_neg (by decide), if_neg (by decide), if_pos rfl, hd_one, if_neg (fun h4 => h ⟨h3, h4⟩)]; simp [wrongR]
        · rw [if_neg (by rintro ⟨-, h⟩; revert h; decide)]; simp [missR]
  · simp [missR]
theorem args_kw1 {s p : ByteArray} (h1 : hasB opsL s = false) (h2 : nameB s = false) (h3 : colB s = true) (h4 : cutB 58 (stem s) = [p]) (h5 : partB p = true) : argsB s = 1 := by
  have hk : kwB s = true := by
    unfold kwB
    rw [h3, h4, allB_tt (fun x hx => by rw [List.mem_singleton.1 hx]; exact h5)]
    rfl
  unfold argsB
  rw [h1, h2, hk, h4]
  rfl
theorem name_col {s : ByteArray} (h : colB s = true) : nameB s = false := name_single fun e => by rw [single_col e] at h; cases h
theorem args_max : argsB ⟨#[109, 97, 120, 58]⟩ = 1 := args_kw1 (p := ⟨#[109, 97, 120]⟩) (hasB_ff (by simp [opsL])) (name_col (by decide)) (by decide) (by decide) (by decide)
theorem args_min : argsB ⟨#[109, 105, 110, 58]⟩ = 1 := args_kw1 (p := ⟨#[109, 105, 110]⟩) (hasB_ff (by simp [opsL])) (name_col (by decide)) (by decide) (by decide) (by decide)
theorem args_at : argsB ⟨#[97, 116, 58]⟩ = 1 := args_kw1 (p := ⟨#[97, 116]⟩) (hasB_ff (by simp [opsL])) (name_col (by decide)) (by decide) (by decide) (by decide)
theorem int_ok {a : Int} (h0 : -999999999 ≤ a) (h1 : a ≤ 999999999) : ValOk (intV a) := Or.inr (Or.inr (Or.inl ⟨rfl, ⟨h0, h1⟩, rfl⟩))
theorem text_ok {s : ByteArray} (h : textB 200 s = true) : ValOk (textV s) := Or.inr (Or.inr (Or.inr (Or.inl ⟨rfl, rfl, h⟩)))
theorem arg_one {s : ByteArray} {y : MValue} (h : argsB s = 1) (hy : ValOk y) : argB s [y] = true := argB_tt ⟨by rw [h]; rfl, fun a ha => by rw [List.mem_singleton.1 ha]; exact hy⟩
theorem basic_int2 {a b : Int} {s : ByteArray} (a0 : -999999999 ≤ a) (a1 : a ≤ 999999999) (b0 : -999999999 ≤ b) (b1 : b ≤ 999999999) (hs : s ∈ int2L) (hc : argsB s = 1) : basicR (intV a) s [intV b] = int2V a s b := by
  rw [basic_yes (valueB_tt (int_ok a0 a1)) (by simp [intV]) (arg_one hc (int_ok b0 b1))]
  unfold applyR
  rw [if_neg (by simp [intV]), if_pos (by simp [intV])]
  unfold intR
  rw [if_pos (hasB_tt hs), hd_one, if_pos (by simp [intV])]
  rfl
/-- Quotient and rest, rounded down. -/
theorem fl_facts {a b : Int} (a0 : -999999999 ≤ a) (a1 : a ≤ 999999999) (b0 : -999999999 ≤ b) (b1 : b ≤ 999999999) (hb : b ≠ 0) :
    (-999999999 ≤ flQ a b ∧ flQ a b ≤ 999999999) ∧ (-999999999 ≤ flR a b ∧ flR a b ≤ 999999999) ∧ flQ a b * b + flR a b = a ∧ (flR a b ≠ 0 → (flR a b < 0 ↔ b < 0)) ∧ flR a b * flR a b < b * b := by
  have hd : a.tdiv b * b + a.tmod b = a := by rw [Int.mul_comm]; exact Int.mul_tdiv_add_tmod a b
  have hq : (a.tdiv b).natAbs = a.natAbs / b.natAbs := Int.natAbs_tdiv a b
  have hr : (a.tmod b).natAbs = a.natAbs % b.natAbs := Int.natAbs_tmod a b
  have hrl : a.natAbs % b.natAbs < b.natAbs := Nat.mod_lt _ (by omega)
  have hq1 : a.natAbs / b.natAbs ≤ a.natAbs := Nat.div_le_self _ _
  have hq2 : 2 ≤ b.natAbs → a.natAbs / b.natAbs ≤ a.natAbs / 2 := fun h => Nat.div_le_div_left h (by omega)
  have sq : ∀ r : Int, r.natAbs < b.natAbs → r * r < b * b := fun r h => by
    rw [← Int.natAbs_mul_self, ← Int.natAbs_mul_self (a := b)]
    exact_mod_cast Nat.mul_self_lt_mul_self h
  obtain ⟨q, hqv⟩ : ∃ q, a.tdiv b = q := ⟨_, rfl⟩
  obtain ⟨r, hrv⟩ : ∃ r, a.tmod b = r := ⟨_, rfl⟩
  rw [hqv] at hd hq
  rw [hrv] at hd hr
  cases hC : flC a b with
  | false =>
    unfold flQ flR
    rw [hC]
    simp only [Bool.false_eq_true, if_false]
    unfold flC at hC
    rw [hqv, hrv]
    rw [hrv] at hC
    refine ⟨by omega, by omega, hd, fun h0 => ?_, sq r (by omega)⟩
    have h1 : (r != 0) = true := by simpa using h0
    rw [h1, Bool.true_and] at hC
    have h2 : decide (r < 0) = decide (b < 0) := by simpa using hC
    exact decide_eq_decide.1 h2
  | true =>
    unfold flQ flR
    rw [hC]
    simp only [if_true]
    unfold flC at hC
    rw [hqv, hrv]
    rw [hrv] at hC
    simp only [Bool.and_eq_true, bne_iff_ne, ne_eq, decide_eq_decide] at hC
    obtain ⟨h1, h2⟩ := hC
    have hs : (r < 0 ∧ 0 < b) ∨ (0 < r ∧ b < 0) := by omega
    have h3 := hq2 (by omega)
    refine ⟨by omega, by omega, by rw [Int.sub_mul, Int.one_mul]; omega, fun _ => by omega, sq (r + b) (by omega)⟩

theorem add_one (a : Addr) (k : Nat) : (⟨a.block, a.off + 1, none⟩ : Addr).add k = a.add (k + 1) := by
  unfold Addr.add
  split
  · rename_i h; subst h; simp
  · simp; omega
set_option maxHeartbeats 1000000 in
theorem tail_any (v : Value) (w : World) (hc : Bytes w v) : Calls Tryz.prog 25 #[v] w fun e w' => (∃ v', e = .returned v' ∧ Bytes w v') ∧ w' = w := by
  have HC := Lib.hid hc
  obtain ⟨ao, n, cap, rfl, hn, hz⟩ := hc
  by_cases h0 : n = 0
  · subst h0
    clear hz
    go_enter Tryz.func25, Tryz.ntmps25
    go_wp2_with fail
    go_ret
    exact ⟨⟨_, rfl, HC.out⟩, rfl⟩
  · obtain ⟨a, rfl, hy⟩ := hz.resolve_left h0
    have HZ := Lib.hid hy
    clear hy
    have t0 : ((n : Int) == 0) = false := int_ne (by omega)
    have hn1 : (1 : Int) ≤ n := by omega
    clear hz h0
    by_cases hcap : cap = 1
    · subst hcap
      go_enter Tryz.func25, Tryz.ntmps25
      go_wp2_with fail
      go_ret
      exact ⟨⟨_, rfl, _, _, _, rfl, by omega, Or.inr ⟨a, rfl, fun k hk => HZ.out k (by omega)⟩⟩, rfl⟩
    · go_enter Tryz.func25, Tryz.ntmps25
      go_wp2_with fail
      go_ret
      exact ⟨⟨_, rfl, _, _, _, rfl, by omega, Or.inr ⟨_, rfl, fun k hk => by rw [add_one]; exact HZ.out (k + 1) (by omega)⟩⟩, rfl⟩

end Go.Proofs.YtdngmifgglbbpaaGreatDoor
