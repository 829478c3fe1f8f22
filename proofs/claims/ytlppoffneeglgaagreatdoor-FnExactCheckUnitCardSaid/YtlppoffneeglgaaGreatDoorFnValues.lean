/-
  CONTRACTS: plain texts, IsValue, of the program and of the reference.
  Conditions: those that each lemma states.
-/
import Derived.Test.YtlppoffneeglgaaGreatDoorRows
import Derived.Test.YtlppoffneeglgaaGreatDoorFnSel
namespace Go.Proofs.YtlppoffneeglgaaGreatDoor
open Go.RowKit
set_option linter.unusedSimpArgs false
set_option linter.unusedVariables false

/-- A text of at most m bytes from 32 to 126. -/
def TextOk (m : Nat) (s : ByteArray) : Prop := (∀ b, b ∈ s.data.toList → 32 ≤ b.toNat ∧ b.toNat ≤ 126) ∧ s.size ≤ m
noncomputable def textB (m : Nat) (s : ByteArray) : Bool := eqB (TextOk m s) True
theorem textB_tt {m : Nat} {s : ByteArray} (h : TextOk m s) : textB m s = true := eqB_tt (by simp [h])
theorem textB_ff {m : Nat} {s : ByteArray} (h : ¬ TextOk m s) : textB m s = false := eqB_ff (by simp [h])
theorem textB_iff {m : Nat} {s : ByteArray} : textB m s = true ↔ TextOk m s := by simp [textB, eqB_iff]
theorem byte_mem {s : ByteArray} {k : Nat} (h : k < s.size) : s[k] ∈ s.data.toList := by
  have : s.data.toList[k]'(by simpa using h) = s[k] := rfl
  rw [← this]; exact List.getElem_mem _
theorem bytes_all {s : ByteArray} {p : UInt8 → Prop} (h : ∀ k (hk : k < s.size), p s[k]) : ∀ b, b ∈ s.data.toList → p b := fun b hb => by
  obtain ⟨k, hk, rfl⟩ := List.mem_iff_getElem.1 hb
  exact h k (by simpa using hk)

set_option maxHeartbeats 400000 in
theorem l1In_any (n a b : Int) (w : World) : Calls Tryz.prog 86 #[.int .i64 n, .int .i64 a, .int .i64 b] w fun e w' => e = .returned (.bool (decide (a ≤ n ∧ n ≤ b))) ∧ w' = w := by
  go_enter Tryz.func86, Tryz.ntmps86
  go_wp2
  all_goals go_ret
  all_goals exact ⟨ret_bool (by first | rfl | (apply Bool.eq_iff_iff.2; first | (simp; done) | (simp; omega))), rfl⟩


set_option maxHeartbeats 1000000 in
theorem l3IsText_any (s : ByteArray) (w : World) (hs : s.size ≤ 9223372036854775806) :
    Calls Tryz.prog 87 #[.string s] w fun e w' => e = .returned (.bool (textB 40 s)) ∧ w' = w := by
  go_enter Tryz.func87, Tryz.ntmps87
  go_wp2_with fail
  go_loop [3] (fun i => ∃ k : Nat, k ≤ s.size ∧ i = .int .i64 k ∧ Hid (∀ j (hj : j < k) (hl : j < s.size), 32 ≤ s[j].toNat ∧ s[j].toNat ≤ 126)) (fun i => s.size - (intOf i).toNat)
  case atStart => exact ⟨0, Nat.zero_le _, rfl, Lib.hid fun j hj => by omega⟩
  case round =>
    obtain ⟨k, hk, rfl, hR⟩ := hrel
    by_cases hlt : k < s.size
    · obtain ⟨hb0, hb1⟩ := byte_bd s[k]
      by_cases hw : (32 : Int) ≤ (s[k].toNat : Int)
      rotate_left
      · have HW := Lib.hid hw
        have hw' : (s[k].toNat : Int) < 32 := by omega
        clear hw
        go_wp2_with fail
        go_ret
        exact ⟨ret_bool (by rw [textB_ff fun h => by have := h.1 _ (byte_mem hlt); have := HW.out; omega]), rfl⟩
      by_cases hv : (s[k].toNat : Int) ≤ 126
      rotate_left
      · have HV := Lib.hid hv
        have hv' : (126 : Int) < (s[k].toNat : Int) := by omega
        clear hv
        go_wp2_with fail
        go_ret
        exact ⟨ret_bool (by rw [textB_ff fun h => by have := h.1 _ (byte_mem hlt); have := HV.out; omega]), rfl⟩
      · have HW := Lib.hid hw
        have HV := Lib.hid hv
        go_wp2_with fail
        go_round
        case rel => exact ⟨k + 1, by omega, by go_num, Lib.hid fun j hj hl => by
          by_cases h : j < k
          · exact hR.out j h hl
          · obtain rfl : j = k := by omega
            have := HW.out; have := HV.out; omega⟩
        case measure => simp [intOf]; omega
    · have hall : Hid (textB 40 s = decide (s.size ≤ 40)) := Lib.hid (by
        have hA : ∀ b, b ∈ s.data.toList → 32 ≤ b.toNat ∧ b.toNat ≤ 126 := bytes_all fun j hj => hR.out j (by omega) hj
        rw [Bool.eq_iff_iff, textB_iff]; simp only [TextOk, decide_eq_true_eq]
        exact ⟨fun h => h.2, fun h => ⟨hA, h⟩⟩)
      go_wp2_with fail
      go_ret
      exact ⟨ret_bool (by rw [hall.out]; first | rfl | (apply Bool.eq_iff_iff.2; simp only [decide_eq_true_eq]; omega)), rfl⟩


set_option maxHeartbeats 1000000 in
theorem plainText_any (s : ByteArray) (w : World) (hs : s.size ≤ 9223372036854775806) :
    Calls Tryz.prog 92 #[.string s] w fun e w' => e = .returned (.bool (textB 40 s)) ∧ w' = w := by
  go_enter Tryz.func92, Tryz.ntmps92
  go_wp2_with fail
  go_loop [3] (fun i => ∃ k : Nat, k ≤ s.size ∧ i = .int .i64 k ∧ Hid (∀ j (hj : j < k) (hl : j < s.size), 32 ≤ s[j].toNat ∧ s[j].toNat ≤ 126)) (fun i => s.size - (intOf i).toNat)
  case atStart => exact ⟨0, Nat.zero_le _, rfl, Lib.hid fun j hj => by omega⟩
  case round =>
    obtain ⟨k, hk, rfl, hR⟩ := hrel
    by_cases hlt : k < s.size
    · obtain ⟨hb0, hb1⟩ := byte_bd s[k]
      cases hw : decide ((32 : Int) ≤ (s[k].toNat : Int) ∧ (s[k].toNat : Int) ≤ 126)
      · have HW := Lib.hid hw; clear hw
        go_wp2_with fail
        refine (within_any _ _ _ _).mono ?_
        rw [HW.out]
        rintro e w' ⟨rfl, rfl⟩
        go_wp2_with fail
        go_ret
        exact ⟨ret_bool (by rw [textB_ff fun h => by have := h.1 _ (byte_mem hlt); have := of_decide_eq_false HW.out; omega]), rfl⟩
      · have HW := Lib.hid hw; clear hw
        go_wp2_with fail
        refine (within_any _ _ _ _).mono ?_
        rw [HW.out]
        rintro e w' ⟨rfl, rfl⟩
        go_wp2_with fail
        go_round
        case rel => exact ⟨k + 1, by omega, by go_num, Lib.hid fun j hj hl => by
          by_cases h : j < k
          · exact hR.out j h hl
          · obtain rfl : j = k := by omega
            have := of_decide_eq_true HW.out; omega⟩
        case measure => simp [intOf]; omega
    · have hall : Hid (textB 40 s = decide (s.size ≤ 40)) := Lib.hid (by
        have hA : ∀ b, b ∈ s.data.toList → 32 ≤ b.toNat ∧ b.toNat ≤ 126 := bytes_all fun j hj => hR.out j (by omega) hj
        rw [Bool.eq_iff_iff, textB_iff]; simp only [TextOk, decide_eq_true_eq]
        exact ⟨fun h => h.2, fun h => ⟨hA, h⟩⟩)
      go_wp2_with fail
      go_ret
      exact ⟨ret_bool (by rw [hall.out]; first | rfl | (apply Bool.eq_iff_iff.2; simp only [decide_eq_true_eq]; omega)), rfl⟩


def ValOk (x : MValue) : Prop :=
  (x.kind = 0 ∧ x.number = 0 ∧ x.text = ⟨#[]⟩) ∨ (x.kind = 1 ∧ (0 ≤ x.number ∧ x.number ≤ 1) ∧ x.text = ⟨#[]⟩) ∨ (x.kind = 2 ∧ (-999999999 ≤ x.number ∧ x.number ≤ 999999999) ∧ x.text = ⟨#[]⟩) ∨
    (x.kind = 3 ∧ x.number = 0 ∧ textB 200 x.text = true) ∨ (x.kind = 4 ∧ x.number = 0 ∧ selB x.text = true) ∨ ((x.kind = 5 ∨ x.kind = 6 ∨ x.kind = 7) ∧ 0 ≤ x.number ∧ x.text = ⟨#[]⟩)
noncomputable def valueB (x : MValue) : Bool := eqB (ValOk x) True
theorem valueB_tt {x : MValue} (h : ValOk x) : valueB x = true := eqB_tt (by simp [h])
theorem valueB_ff {x : MValue} (h : ¬ ValOk x) : valueB x = false := eqB_ff (by simp [h])
theorem valueB_iff {x : MValue} : valueB x = true ↔ ValOk x := by simp [valueB, eqB_iff]

theorem bulk_value {x : MValue} (h : x.d.bulk ≤ 1048576) : x.text.size ≤ 1048576 := by
  simp only [MValue.d, D.bulk, D.bulkL] at h
  omega

end Go.Proofs.YtlppoffneeglgaaGreatDoor
