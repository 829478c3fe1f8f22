/-
  CONTRACTS: plain texts, IsValue, of the program and of the reference.
  Conditions: those that each lemma states.
-/
import Derived.Test.YticdmbmjlaomiaaGreatDoorRows
import Derived.Test.YticdmbmjlaomiaaGreatDoorFnSel
namespace Go.Proofs.YticdmbmjlaomiaaGreatDoor
open Go.RowKit
set_option linter.unusedSimpArgs false
set_option linter.unusedVariables false

/-- A text of at most m bytes from 32 to 126. -/
def TextOk (m : Nat) (s : ByteArray) : Prop := (∀ b, b ∈ s.data.toList → 32 ≤ b.toNat ∧ b.toNat ≤ 126) ∧ s.size ≤ m
noncomputable def textB (m : Nat) (s : ByteArray) : Bool := eqB (TextOk m s) True
theorem textB_tt {m : Nat} {s : ByteArray} (h : TextOk m s) : textB m s = true := eqB_tt (by simp [h])
theorem textB_ff {m : Nat} {s : ByteArray} (h : ¬ TextOk m s) : textB m s = false := eqB_ff (by simp [h])
theorem textB_iff {m : Nat} {s : ByteArray} : textB m s = true ↔ TextOk m s := by simp [textB, eqB_iff]
theorem byte_mem {s : ByteArray} {k : Nat} (h : k < s.size) : s[k] ∈ s.data.toList := by
  have : s.data.toList[k]'(by simpa using h) = s[k] := rfl
  rw [← this]; exact List.getElem_mem _
theorem bytes_all {s : ByteArray} {p : UInt8 → Prop} (h : ∀ k (hk : k < s.size), p s[k]) : ∀ b, b ∈ s.data.toList → p b := fun b hb => by
  obtain ⟨k, hk, rfl⟩ := List.mem_iff_getElem.1 hb
  exact h k (by simpa using hk)

set_option maxHeartbeats 400000 in
theorem l1In_any (n a b : Int) (w : World) : Calls Tryz.prog 127 #[.int .i64 n, .int .i64 a, .int .i64 b] w fun e w' => e = .returned (.bool (decide (a ≤ n ∧ n ≤ b))) ∧ w' = w := by
  go_enter Tryz.func127, Tryz.ntmps127
  go_wp2
  all_goals go_ret
  all_goals exact ⟨ret_bool (by first | rfl | (apply Bool.eq_iff_iff.2; first | (simp; done) | (simp; omega))), rfl⟩


set_option maxHeartbeats 1000000 in
theorem l3IsText_any (s : ByteArray) (w : World) (hs : s.size ≤ 9223372036854775806) :
    Calls Tryz.prog 305 #[.string s] w fun e w' => e = .returned (.bool (textB 40 s)) ∧ w' = w := by
  go_enter Tryz.func305, Tryz.ntmps305
  go_wp2_with fail
  go_loop [3] (fun i => ∃ k : Nat, k ≤ s.size ∧ i = .int .i64 k ∧ Hid (∀ j (hj : j < k) (hl : j < s.size), 32 ≤ s[j].toNat ∧ s[j].toNat ≤ 126)) (fun i => s.size - (intOf i).toNat)
  case atStart => exact ⟨0, Nat.zero_le _, rfl, Lib.hid fun j hj => by omega⟩
  case round =>
    obtain ⟨k, hk, rfl, hR⟩ := hrel
    by_cases hlt : k < s.size
    · obtain ⟨hb0, hb1⟩ := byte_bd s[k]
      by_cases hw : (32 : Int) ≤ (s[k].toNat : Int)
      rotate_left
      · have HW := Lib.hid hw
        have hw' : (s[k].toNat : Int) < 32 := by omega
        clear hw
        go_wp2_with fail
        go_ret
        exact ⟨ret_bool (by rw [textB_ff fun h => by have := h.1 _ (byte_mem hlt); have := HW.out; omega]), rfl⟩
      by_cases hv : (s[k].toNat : Int) ≤ 126
      rotate_left
      · have HV := Lib.hid hv
        have hv' : (126 : Int) < (s[k].toNat : Int) := by omega
        clear hv
        go_wp2_with fail
        go_ret
        exact ⟨ret_bool (by rw [textB_ff fun h => by have := h.1 _ (byte_mem hlt); have := HV.out; omega]), rfl⟩
      · have HW := Lib.hid hw
        have HV := Lib.hid hv
        go_wp2_with fail
        go_round
        case rel => exact ⟨k + 1, by omega, by go_num, Lib.hid fun j hj hl => by
          by_cases h : j < k
          · exact hR.out j h hl
          · obtain rfl : j = k := by omega
            have := HW.out; have := HV.out; omega⟩
        case measure => simp [intOf]; omega
    · have hall : Hid (textB 40 s = decide (s.size ≤ 40)) := Lib.hid (by
        have hA : ∀ b, b ∈ s.data.toList → 32 ≤ b.toNat ∧ b.toNat ≤ 126 := bytes_all fun j hj => hR.out j (by omega) hj
        rw [Bool.eq_iff_iff, textB_iff]; simp only [TextOk, decide_eq_true_eq]
        exact ⟨fun h => h.2, fun h => ⟨hA, h⟩⟩)
      go_wp2_with fail
      go_ret
      exact ⟨ret_bool (by rw [hall.out]; first | rfl | (apply Bool.eq_iff_iff.2; simp only [decide_eq_true_eq]; omega)), rfl⟩


set_option maxHeartbeats 1000000 in
theorem plainText_any (s : ByteArray) (w : World) (hs : s.size ≤ 9223372036854775806) :
    Calls Tryz.prog 283 #[.string s] w fun e w' => e = .returned (.bool (textB 40 s)) ∧ w' = w := by
  go_enter Tryz.func283, Tryz.ntmps283
  go_wp2_with fail
  go_loop [3] (fun i => ∃ k : Nat, k ≤ s.size ∧ i = .int .i64 k ∧ Hid (∀ j (hj : j < k) (hl : j < s.size), 32 ≤ s[j].toNat ∧ s[j].toNat ≤ 126)) (fun i => s.size - (intOf i).toNat)
  case atStart => exact ⟨0, Nat.zero_le _, rfl, Lib.hid fun j hj => by omega⟩
  case round =>
    obtain ⟨k, hk, rfl, hR⟩ := hrel
    by_cases hlt : k < s.size
    · obtain ⟨hb0, hb1⟩ := byte_bd s[k]
      cases hw : decide ((32 : Int) ≤ (s[k].toNat : Int) ∧ (s[k].toNat : Int) ≤ 126)
      · have HW := Lib.hid hw; clear hw
        go_wp2_with fail
        refine (within_any _ _ _ _).mono ?_
        rw [HW.out]
        rintro e w' ⟨rfl, rfl⟩
        go_wp2_with fail
        go_ret
        exact ⟨ret_bool (by rw [textB_ff fun h => by have := h.1 _ (byte_mem hlt); have := of_decide_eq_false HW.out; omega]), rfl⟩
      · have HW := Lib.hid hw; clear hw
        go_wp2_with fail
        refine (within_any _ _ _ _).mono ?_
        rw [HW.out]
        rintro e w' ⟨rfl, rfl⟩
        go_wp2_with fail
        go_round
        case rel => exact ⟨k + 1, by omega, by go_num, Lib.hid fun j hj hl => by
          by_cases h : j < k
          · exact hR.out j h hl
          · obtain rfl : j = k := by omega
            have := of_decide_eq_true HW.out; omega⟩
        case measure => simp [intOf]; omega
    · have hall : Hid (textB 40 s = decide (s.size ≤ 40)) := Lib.hid (by
        have hA : ∀ b, b ∈ s.data.toList → 32 ≤ b.toNat ∧ b.toNat ≤ 126 := bytes_all fun j hj => hR.out j (by omega) hj
        rw [Bool.eq_iff_iff, textB_iff]; simp only [TextOk, decide_eq_true_eq]
        exact ⟨fun h => h.2, fun h => ⟨hA, h⟩⟩)
      go_wp2_with fail
      go_ret
      exact ⟨ret_bool (by rw [hall.out]; first | rfl | (apply Bool.eq_iff_iff.2; simp only [decide_eq_true_eq]; omega)), rfl⟩


set_option maxHeartbeats 1000000 in
theorem lineOk_any (s : ByteArray) (w : World) (hs : s.size ≤ 9223372036854775806) :
    Calls Tryz.prog 140 #[.string s] w fun e w' => e = .returned (.bool (textB 200 s)) ∧ w' = w := by
  go_enter Tryz.func140, Tryz.ntmps140
  go_wp2_with fail
  go_loop [3] (fun i => ∃ k : Nat, k ≤ s.size ∧ i = .int .i64 k ∧ Hid (∀ j (hj : j < k) (hl : j < s.size), 32 ≤ s[j].toNat ∧ s[j].toNat ≤ 126)) (fun i => s.size - (intOf i).toNat)
  case atStart => exact ⟨0, Nat.zero_le _, rfl, Lib.hid fun j hj => by omega⟩
  case round =>
    obtain ⟨k, hk, rfl, hR⟩ := hrel
    by_cases hlt : k < s.size
    · obtain ⟨hb0, hb1⟩ := byte_bd s[k]
      cases hw : decide ((32 : Int) ≤ (s[k].toNat : Int) ∧ (s[k].toNat : Int) ≤ 126)
      · have HW := Lib.hid hw; clear hw
        go_wp2_with fail
        refine (within_any _ _ _ _).mono ?_
        rw [HW.out]
        rintro e w' ⟨rfl, rfl⟩
        go_wp2_with fail
        go_ret
        exact ⟨ret_bool (by rw [textB_ff fun h => by have := h.1 _ (byte_mem hlt); have := of_decide_eq_false HW.out; omega]), rfl⟩
      · have HW := Lib.hid hw; clear hw
        go_wp2_with fail
        refine (within_any _ _ _ _).mono ?_
        rw [HW.out]
        rintro e w' ⟨rfl, rfl⟩
        go_wp2_with fail
        go_round
        case rel => exact ⟨k + 1, by omega, by go_num, Lib.hid fun j hj hl => by
          by_cases h : j < k
          · exact hR.out j h hl
          · obtain rfl : j = k := by omega
            have := of_decide_eq_true HW.out; omega⟩
        case measure => simp [intOf]; omega
    · have hall : Hid (textB 200 s = decide (s.size ≤ 200)) := Lib.hid (by
        have hA : ∀ b, b ∈ s.data.toList → 32 ≤ b.toNat ∧ b.toNat ≤ 126 := bytes_all fun j hj => hR.out j (by omega) hj
        rw [Bool.eq_iff_iff, textB_iff]; simp only [TextOk, decide_eq_true_eq]
        exact ⟨fun h => h.2, fun h => ⟨hA, h⟩⟩)
      go_wp2_with fail
      go_ret
      exact ⟨ret_bool (by rw [hall.out]; first | rfl | (apply Bool.eq_iff_iff.2; simp only [decide_eq_true_eq]; omega)), rfl⟩


def ValOk (x : MValue) : Prop :=
  (x.kind = 0 ∧ x.number = 0 ∧ x.text = ⟨#[]⟩) ∨ (x.kind = 1 ∧ (0 ≤ x.number ∧ x.number ≤ 1) ∧ x.text = ⟨#[]⟩) ∨ (x.kind = 2 ∧ (-999999999 ≤ x.number ∧ x.number ≤ 999999999) ∧ x.text = ⟨#[]⟩) ∨
    (x.kind = 3 ∧ x.number = 0 ∧ textB 200 x.text = true) ∨ (x.kind = 4 ∧ x.number = 0 ∧ selB x.text = true) ∨ ((x.kind = 5 ∨ x.kind = 6 ∨ x.kind = 7) ∧ 0 ≤ x.number ∧ x.text = ⟨#[]⟩)
noncomputable def valueB (x : MValue) : Bool := eqB (ValOk x) True
theorem valueB_tt {x : MValue} (h : ValOk x) : valueB x = true := eqB_tt (by simp [h])
theorem valueB_ff {x : MValue} (h : ¬ ValOk x) : valueB x = false := eqB_ff (by simp [h])
theorem valueB_iff {x : MValue} : valueB x = true ↔ ValOk x := by simp [valueB, eqB_iff]

theorem bulk_value {x : MValue} (h : x.d.bulk ≤ 1048576) : x.text.size ≤ 1048576 := by
  simp only [MValue.d, D.bulk, D.bulkL] at h
  omega


set_option maxHeartbeats 1000000 in
theorem spec_IsValue_any (x : MValue) (cx : List Value) (w : World) (rx : Rep w x.d cx) (hs : x.text.size ≤ 1048576) :
    Calls Tryz.prog 128 #[.agg cx.toArray] w fun e w' => e = .returned (.bool (valueB x)) ∧ Ext w w' := by
  obtain rfl := MValue.op_en rx
  clear rx
  obtain ⟨K, n, t⟩ := x
  simp only at hs ⊢
  by_cases h0 : K = 0
  · subst h0
    by_cases hn : n = 0
    · subst hn
      by_cases ht : t = ⟨#[]⟩
      · subst ht
        have hp := Lib.hid (valueB_tt (x := ⟨0, 0, ⟨#[]⟩⟩) (by simp [ValOk]))
        go_enter Tryz.func128, Tryz.ntmps128
        go_wp2_with (fail)
        go_ret
        exact ⟨ret_bool (by rw [hp.out]), ((Ext.refl _).alloc _)⟩
      · have t0 : ¬ t.toList = [] := fun h => ht (toList_inj (by simp [h]))
        have t0' : t.toList.isEmpty = false := by simpa using t0
        have hp := Lib.hid (valueB_ff (x := ⟨0, 0, t⟩) (by simp [ValOk, ht]))
        go_enter Tryz.func128, Tryz.ntmps128
        go_wp2_with (fail)
        go_ret
        exact ⟨ret_bool (by rw [hp.out]), ((Ext.refl _).alloc _)⟩
    · have n1 := int_ne hn
      have n2 := int_nen hn
      have hp := Lib.hid (valueB_ff (x := ⟨0, n, t⟩) (by simp [ValOk, hn]))
      go_enter Tryz.func128, Tryz.ntmps128
      go_wp2_with (fail)
      go_ret
      exact ⟨ret_bool (by rw [hp.out]), ((Ext.refl _).alloc _)⟩
  by_cases h1 : K = 1
  · subst h1
    clear h0
    cases hr : decide ((0 : Int) ≤ n ∧ n ≤ 1)
    · have hr' := of_decide_eq_false hr
      have hp := Lib.hid (valueB_ff (x := ⟨1, n, t⟩) (by simp only [ValOk]; omega))
      go_enter Tryz.func128, Tryz.ntmps128
      go_wp2_with (go_at_call 127; refine (l1In_any _ _ _ _).mono ?_; rintro e w' ⟨rfl, rfl⟩)
      go_ret
      exact ⟨ret_bool (by rw [hp.out]), ((Ext.refl _).alloc _)⟩
    · have hr' := of_decide_eq_true hr
      by_cases ht : t = ⟨#[]⟩
      · subst ht
        have hp := Lib.hid (valueB_tt (x := ⟨1, n, ⟨#[]⟩⟩) (by simp [ValOk, hr']))
        go_enter Tryz.func128, Tryz.ntmps128
        go_wp2_with (go_at_call 127; refine (l1In_any _ _ _ _).mono ?_; rintro e w' ⟨rfl, rfl⟩)
        go_ret
        exact ⟨ret_bool (by rw [hp.out]), ((Ext.refl _).alloc _)⟩
      · have t0 : ¬ t.toList = [] := fun h => ht (toList_inj (by simp [h]))
        have t0' : t.toList.isEmpty = false := by simpa using t0
        have hp := Lib.hid (valueB_ff (x := ⟨1, n, t⟩) (by simp [ValOk, ht]))
        go_enter Tryz.func128, Tryz.ntmps128
        go_wp2_with (go_at_call 127; refine (l1In_any _ _ _ _).mono ?_; rintro e w' ⟨rfl, rfl⟩)
        go_ret
        exact ⟨ret_bool (by rw [hp.out]), ((Ext.refl _).alloc _)⟩
  by_cases h2 : K = 2
  · subst h2
    clear h0 h1
    cases hr : decide ((-999999999 : Int) ≤ n ∧ n ≤ 999999999)
    · have hr' := of_decide_eq_false hr
      have hp := Lib.hid (valueB_ff (x := ⟨2, n, t⟩) (by simp only [ValOk]; omega))
      go_enter Tryz.func128, Tryz.ntmps128
      go_wp2_with (go_at_call 127; refine (l1In_any _ _ _ _).mono ?_; rintro e w' ⟨rfl, rfl⟩)
      go_ret
      exact ⟨ret_bool (by rw [hp.out]), ((Ext.refl _).alloc _)⟩
    · have hr' := of_decide_eq_true hr
      by_cases ht : t = ⟨#[]⟩
      · subst ht
        have hp := Lib.hid (valueB_tt (x := ⟨2, n, ⟨#[]⟩⟩) (by simp [ValOk, hr']))
        go_enter Tryz.func128, Tryz.ntmps128
        go_wp2_with (go_at_call 127; refine (l1In_any _ _ _ _).mono ?_; rintro e w' ⟨rfl, rfl⟩)
        go_ret
        exact ⟨ret_bool (by rw [hp.out]), ((Ext.refl _).alloc _)⟩
      · have t0 : ¬ t.toList = [] := fun h => ht (toList_inj (by simp [h]))
        have t0' : t.toList.isEmpty = false := by simpa using t0
        have hp := Lib.hid (valueB_ff (x := ⟨2, n, t⟩) (by simp [ValOk, ht]))
        go_enter Tryz.func128, Tryz.ntmps128
        go_wp2_with (go_at_call 127; refine (l1In_any _ _ _ _).mono ?_; rintro e w' ⟨rfl, rfl⟩)
        go_ret
        exact ⟨ret_bool (by rw [hp.out]), ((Ext.refl _).alloc _)⟩
  by_cases h3 : K = 3
  · subst h3
    clear h0 h1 h2
    by_cases hn : n = 0
    rotate_left
    · have n1 := int_ne hn
      have n2 := int_nen hn
      have hp := Lib.hid (valueB_ff (x := ⟨3, n, t⟩) (by simp [ValOk, hn]))
      go_enter Tryz.func128, Tryz.ntmps128
      go_wp2_with (fail)
      go_ret
      exact ⟨ret_bool (by rw [hp.out]), ((Ext.refl _).alloc _)⟩
    subst hn
    by_cases hl : t.size ≤ 200
    rotate_left
    · have hl' : (200 : Int) < (t.size : Int) := by omega
      have hp := Lib.hid (valueB_ff (x := ⟨3, 0, t⟩) (by simp only [ValOk]; simp; exact textB_ff fun h => hl h.2))
      go_enter Tryz.func128, Tryz.ntmps128
      go_wp2_with fail
      go_ret
      exact ⟨ret_bool (by rw [hp.out]), ((Ext.refl _).alloc _)⟩
    have hl' : (t.size : Int) ≤ 200 := by omega
    have hv : Hid (valueB ⟨3, 0, t⟩ = textB 200 t) := Lib.hid (by rw [Bool.eq_iff_iff, valueB_iff]; simp [ValOk])
    go_enter Tryz.func128, Tryz.ntmps128
    go_wp2_with fail
    go_loop [3] (fun i => ∃ k : Nat, k ≤ t.size ∧ i = .int .i64 k ∧ Hid (∀ j (hj : j < k) (hl : j < t.size), 32 ≤ t[j].toNat ∧ t[j].toNat ≤ 126)) (fun i => t.size - (intOf i).toNat)
    case atStart => exact ⟨0, Nat.zero_le _, rfl, Lib.hid fun j hj => by omega⟩
    case round =>
      obtain ⟨k, hk, rfl, hR⟩ := hrel
      by_cases hlt : k < t.size
      · obtain ⟨hb0, hb1⟩ := byte_bd t[k]
        by_cases hw : (32 : Int) ≤ (t[k].toNat : Int)
        rotate_left
        · have HW := Lib.hid hw
          have hw' : (t[k].toNat : Int) < 32 := by omega
          clear hw
          go_wp2_with fail
          go_ret
          exact ⟨ret_bool (by rw [hv.out, textB_ff fun h => by have := h.1 _ (byte_mem hlt); have := HW.out; omega]), ((Ext.refl _).alloc _)⟩
        by_cases hu : (t[k].toNat : Int) ≤ 126
        rotate_left
        · have HV := Lib.hid hu
          have hv' : (126 : Int) < (t[k].toNat : Int) := by omega
          clear hu
          go_wp2_with fail
          go_ret
          exact ⟨ret_bool (by rw [hv.out, textB_ff fun h => by have := h.1 _ (byte_mem hlt); have := HV.out; omega]), ((Ext.refl _).alloc _)⟩
        · have HW := Lib.hid hw
          have HV := Lib.hid hu
          go_wp2_with fail
          go_round
          case rel => exact ⟨k + 1, by omega, by go_num, Lib.hid fun j hj hl => by
            by_cases h : j < k
            · exact hR.out j h hl
            · obtain rfl : j = k := by omega
              have := HW.out; have := HV.out; omega⟩
          case measure => simp [intOf]; omega
      · have hall : Hid (textB 200 t = true) := Lib.hid (textB_tt ⟨bytes_all fun j hj => hR.out j (by omega) hj, hl⟩)
        go_wp2_with fail
        go_ret
        exact ⟨ret_bool (by rw [hv.out, hall.out]), ((Ext.refl _).alloc _)⟩
  by_cases h4 : K = 4
  · subst h4
    clear h0 h1 h2 h3
    by_cases hn : n = 0
    rotate_left
    · have n1 := int_ne hn
      have n2 := int_nen hn
      have hp := Lib.hid (valueB_ff (x := ⟨4, n, t⟩) (by simp [ValOk, hn]))
      go_enter Tryz.func128, Tryz.ntmps128
      go_wp2_with (fail)
      go_ret
      exact ⟨ret_bool (by rw [hp.out]), ((Ext.refl _).alloc _)⟩
    subst hn
    have hv : Hid (valueB ⟨4, 0, t⟩ = selB t) := Lib.hid (by rw [Bool.eq_iff_iff, valueB_iff]; simp [ValOk])
    go_enter Tryz.func128, Tryz.ntmps128
    go_wp2_with fail
    refine (spec_IsSelector_any t _ hs).mono ?_
    rintro e w' ⟨rfl, hx⟩
    go_wp2_with fail
    go_ret
    exact ⟨ret_bool (by rw [hv.out]), ((Ext.refl _).alloc _).trans hx⟩
  by_cases h5 : K = 5
  · subst h5
    clear h0 h1 h2 h3 h4
    by_cases hn : 0 ≤ n
    · skip
      by_cases ht : t = ⟨#[]⟩
      · subst ht
        have hp := Lib.hid (valueB_tt (x := ⟨5, n, ⟨#[]⟩⟩) (by simp [ValOk, hn]))
        go_enter Tryz.func128, Tryz.ntmps128
        go_wp2_with (fail)
        go_ret
        exact ⟨ret_bool (by rw [hp.out]), ((Ext.refl _).alloc _)⟩
      · have t0 : ¬ t.toList = [] := fun h => ht (toList_inj (by simp [h]))
        have t0' : t.toList.isEmpty = false := by simpa using t0
        have hp := Lib.hid (valueB_ff (x := ⟨5, n, t⟩) (by simp [ValOk, ht]))
        go_enter Tryz.func128, Tryz.ntmps128
        go_wp2_with (fail)
        go_ret
        exact ⟨ret_bool (by rw [hp.out]), ((Ext.refl _).alloc _)⟩
    · have n1 : n < 0 := by omega
      have hp := Lib.hid (valueB_ff (x := ⟨5, n, t⟩) (by simp [ValOk, hn]))
      go_enter Tryz.func128, Tryz.ntmps128
      go_wp2_with (fail)
      go_ret
      exact ⟨ret_bool (by rw [hp.out]), ((Ext.refl _).alloc _)⟩
  by_cases h6 : K = 6
  · subst h6
    clear h0 h1 h2 h3 h4 h5
    by_cases hn : 0 ≤ n
    · skip
      by_cases ht : t = ⟨#[]⟩
      · subst ht
        have hp := Lib.hid (valueB_tt (x := ⟨6, n, ⟨#[]⟩⟩) (by simp [ValOk, hn]))
        go_enter Tryz.func128, Tryz.ntmps128
        go_wp2_with (fail)
        go_ret
        exact ⟨ret_bool (by rw [hp.out]), ((Ext.refl _).alloc _)⟩
      · have t0 : ¬ t.toList = [] := fun h => ht (toList_inj (by simp [h]))
        have t0' : t.toList.isEmpty = false := by simpa using t0
        have hp := Lib.hid (valueB_ff (x := ⟨6, n, t⟩) (by simp [ValOk, ht]))
        go_enter Tryz.func128, Tryz.ntmps128
        go_wp2_with (fail)
        go_ret
        exact ⟨ret_bool (by rw [hp.out]), ((Ext.refl _).alloc _)⟩
    · have n1 : n < 0 := by omega
      have hp := Lib.hid (valueB_ff (x := ⟨6, n, t⟩) (by simp [ValOk, hn]))
      go_enter Tryz.func128, Tryz.ntmps128
      go_wp2_with (fail)
      go_ret
      exact ⟨ret_bool (by rw [hp.out]), ((Ext.refl _).alloc _)⟩
  by_cases h7 : K = 7
  · subst h7
    clear h0 h1 h2 h3 h4 h5 h6
    by_cases hn : 0 ≤ n
    · skip
      by_cases ht : t = ⟨#[]⟩
      · subst ht
        have hp := Lib.hid (valueB_tt (x := ⟨7, n, ⟨#[]⟩⟩) (by simp [ValOk, hn]))
        go_enter Tryz.func128, Tryz.ntmps128
        go_wp2_with (fail)
        go_ret
        exact ⟨ret_bool (by rw [hp.out]), ((Ext.refl _).alloc _)⟩
      · have t0 : ¬ t.toList = [] := fun h => ht (toList_inj (by simp [h]))
        have t0' : t.toList.isEmpty = false := by simpa using t0
        have hp := Lib.hid (valueB_ff (x := ⟨7, n, t⟩) (by simp [ValOk, ht]))
        go_enter Tryz.func128, Tryz.ntmps128
        go_wp2_with (fail)
        go_ret
        exact ⟨ret_bool (by rw [hp.out]), ((Ext.refl _).alloc _)⟩
    · have n1 : n < 0 := by omega
      have hp := Lib.hid (valueB_ff (x := ⟨7, n, t⟩) (by simp [ValOk, hn]))
      go_enter Tryz.func128, Tryz.ntmps128
      go_wp2_with (fail)
      go_ret
      exact ⟨ret_bool (by rw [hp.out]), ((Ext.refl _).alloc _)⟩
  have k0 := int_ne h0
  have k1 := int_ne h1
  have k2 := int_ne h2
  have k3 := int_ne h3
  have k4 := int_ne h4
  have k5 := int_ne h5
  have k6 := int_ne h6
  have k7 := int_ne h7
  have hp := Lib.hid (valueB_ff (x := ⟨K, n, t⟩) (by simp [ValOk, h0, h1, h2, h3, h4, h5, h6, h7]))
  go_enter Tryz.func128, Tryz.ntmps128
  go_wp2_with (fail)
  go_ret
  exact ⟨ret_bool (by rw [hp.out]), ((Ext.refl _).alloc _)⟩

set_option maxHeartbeats 1000000 in
theorem impl_IsValue_any (x : MValue) (cx : List Value) (w : World) (rx : Rep w x.d cx) (hs : x.text.size ≤ 1048576) (hm : MaxOk w) :
    Calls Tryz.prog 142 #[.agg cx.toArray] w fun e w' => e = .returned (.bool (valueB x)) ∧ Ext w w' := by
  obtain rfl := MValue.op_en rx
  clear rx
  obtain ⟨K, n, t⟩ := x
  simp only at hs ⊢
  by_cases h0 : K = 0
  · subst h0
    by_cases hn : n = 0
    · subst hn
      by_cases ht : t = ⟨#[]⟩
      · subst ht
        have hp := Lib.hid (valueB_tt (x := ⟨0, 0, ⟨#[]⟩⟩) (by simp [ValOk]))
        go_enter Tryz.func142, Tryz.ntmps142
        go_wp2_with (fail)
        go_ret
        exact ⟨ret_bool (by rw [hp.out]), ((Ext.refl _).alloc _)⟩
      · have t0 : ¬ t.toList = [] := fun h => ht (toList_inj (by simp [h]))
        have t0' : t.toList.isEmpty = false := by simpa using t0
        have hp := Lib.hid (valueB_ff (x := ⟨0, 0, t⟩) (by simp [ValOk, ht]))
        go_enter Tryz.func142, Tryz.ntmps142
        go_wp2_with (fail)
        go_ret
        exact ⟨ret_bool (by rw [hp.out]), ((Ext.refl _).alloc _)⟩
    · have n1 := int_ne hn
      have n2 := int_nen hn
      have hp := Lib.hid (valueB_ff (x := ⟨0, n, t⟩) (by simp [ValOk, hn]))
      go_enter Tryz.func142, Tryz.ntmps142
      go_wp2_with (fail)
      go_ret
      exact ⟨ret_bool (by rw [hp.out]), ((Ext.refl _).alloc _)⟩
  by_cases h1 : K = 1
  · subst h1
    clear h0
    cases hr : decide ((0 : Int) ≤ n ∧ n ≤ 1)
    · have hr' := of_decide_eq_false hr
      have hp := Lib.hid (valueB_ff (x := ⟨1, n, t⟩) (by simp only [ValOk]; omega))
      go_enter Tryz.func142, Tryz.ntmps142
      go_wp2_with (go_at_call 139; refine (within_any _ _ _ _).mono ?_; rintro e w' ⟨rfl, rfl⟩)
      go_ret
      exact ⟨ret_bool (by rw [hp.out]), ((Ext.refl _).alloc _)⟩
    · have hr' := of_decide_eq_true hr
      by_cases ht : t = ⟨#[]⟩
      · subst ht
        have hp := Lib.hid (valueB_tt (x := ⟨1, n, ⟨#[]⟩⟩) (by simp [ValOk, hr']))
        go_enter Tryz.func142, Tryz.ntmps142
        go_wp2_with (go_at_call 139; refine (within_any _ _ _ _).mono ?_; rintro e w' ⟨rfl, rfl⟩)
        go_ret
        exact ⟨ret_bool (by rw [hp.out]), ((Ext.refl _).alloc _)⟩
      · have t0 : ¬ t.toList = [] := fun h => ht (toList_inj (by simp [h]))
        have t0' : t.toList.isEmpty = false := by simpa using t0
        have hp := Lib.hid (valueB_ff (x := ⟨1, n, t⟩) (by simp [ValOk, ht]))
        go_enter Tryz.func142, Tryz.ntmps142
        go_wp2_with (go_at_call 139; refine (within_any _ _ _ _).mono ?_; rintro e w' ⟨rfl, rfl⟩)
        go_ret
        exact ⟨ret_bool (by rw [hp.out]), ((Ext.refl _).alloc _)⟩
  by_cases h2 : K = 2
  · subst h2
    clear h0 h1
    cases hr : decide ((-999999999 : Int) ≤ n ∧ n ≤ 999999999)
    · have hr' := of_decide_eq_false hr
      have hp := Lib.hid (valueB_ff (x := ⟨2, n, t⟩) (by simp only [ValOk]; omega))
      go_enter Tryz.func142, Tryz.ntmps142
      go_wp2_with (go_at_call 139; refine (within_any _ _ _ _).mono ?_; rintro e w' ⟨rfl, rfl⟩)
      go_ret
      exact ⟨ret_bool (by rw [hp.out]), ((Ext.refl _).alloc _)⟩
    · have hr' := of_decide_eq_true hr
      by_cases ht : t = ⟨#[]⟩
      · subst ht
        have hp := Lib.hid (valueB_tt (x := ⟨2, n, ⟨#[]⟩⟩) (by simp [ValOk, hr']))
        go_enter Tryz.func142, Tryz.ntmps142
        go_wp2_with (go_at_call 139; refine (within_any _ _ _ _).mono ?_; rintro e w' ⟨rfl, rfl⟩)
        go_ret
        exact ⟨ret_bool (by rw [hp.out]), ((Ext.refl _).alloc _)⟩
      · have t0 : ¬ t.toList = [] := fun h => ht (toList_inj (by simp [h]))
        have t0' : t.toList.isEmpty = false := by simpa using t0
        have hp := Lib.hid (valueB_ff (x := ⟨2, n, t⟩) (by simp [ValOk, ht]))
        go_enter Tryz.func142, Tryz.ntmps142
        go_wp2_with (go_at_call 139; refine (within_any _ _ _ _).mono ?_; rintro e w' ⟨rfl, rfl⟩)
        go_ret
        exact ⟨ret_bool (by rw [hp.out]), ((Ext.refl _).alloc _)⟩
  by_cases h3 : K = 3
  · subst h3
    clear h0 h1 h2
    by_cases hn : n = 0
    rotate_left
    · have n1 := int_ne hn
      have n2 := int_nen hn
      have hp := Lib.hid (valueB_ff (x := ⟨3, n, t⟩) (by simp [ValOk, hn]))
      go_enter Tryz.func142, Tryz.ntmps142
      go_wp2_with (fail)
      go_ret
      exact ⟨ret_bool (by rw [hp.out]), ((Ext.refl _).alloc _)⟩
    subst hn
    have hv : Hid (valueB ⟨3, 0, t⟩ = textB 200 t) := Lib.hid (by rw [Bool.eq_iff_iff, valueB_iff]; simp [ValOk])
    go_enter Tryz.func142, Tryz.ntmps142
    go_wp2_with fail
    refine (lineOk_any t _ (by omega)).mono ?_
    rintro e w' ⟨rfl, rfl⟩
    go_wp2_with fail
    go_ret
    exact ⟨ret_bool (by rw [hv.out]), ((Ext.refl _).alloc _)⟩
  by_cases h4 : K = 4
  · subst h4
    clear h0 h1 h2 h3
    by_cases hn : n = 0
    rotate_left
    · have n1 := int_ne hn
      have n2 := int_nen hn
      have hp := Lib.hid (valueB_ff (x := ⟨4, n, t⟩) (by simp [ValOk, hn]))
      go_enter Tryz.func142, Tryz.ntmps142
      go_wp2_with (fail)
      go_ret
      exact ⟨ret_bool (by rw [hp.out]), ((Ext.refl _).alloc _)⟩
    subst hn
    have hv : Hid (valueB ⟨4, 0, t⟩ = selB t) := Lib.hid (by rw [Bool.eq_iff_iff, valueB_iff]; simp [ValOk])
    go_enter Tryz.func142, Tryz.ntmps142
    go_wp2_with fail
    refine (impl_IsSelector_any t _ hs (hm.ext ((Ext.refl _).alloc _))).mono ?_
    rintro e w' ⟨rfl, hx⟩
    go_wp2_with fail
    go_ret
    exact ⟨ret_bool (by rw [hv.out]), ((Ext.refl _).alloc _).trans hx⟩
  by_cases h5 : K = 5
  · subst h5
    clear h0 h1 h2 h3 h4
    by_cases hn : 0 ≤ n
    · skip
      by_cases ht : t = ⟨#[]⟩
      · subst ht
        have hp := Lib.hid (valueB_tt (x := ⟨5, n, ⟨#[]⟩⟩) (by simp [ValOk, hn]))
        go_enter Tryz.func142, Tryz.ntmps142
        go_wp2_with (fail)
        go_ret
        exact ⟨ret_bool (by rw [hp.out]), ((Ext.refl _).alloc _)⟩
      · have t0 : ¬ t.toList = [] := fun h => ht (toList_inj (by simp [h]))
        have t0' : t.toList.isEmpty = false := by simpa using t0
        have hp := Lib.hid (valueB_ff (x := ⟨5, n, t⟩) (by simp [ValOk, ht]))
        go_enter Tryz.func142, Tryz.ntmps142
        go_wp2_with (fail)
        go_ret
        exact ⟨ret_bool (by rw [hp.out]), ((Ext.refl _).alloc _)⟩
    · have n1 : n < 0 := by omega
      have hp := Lib.hid (valueB_ff (x := ⟨5, n, t⟩) (by simp [ValOk, hn]))
      go_enter Tryz.func142, Tryz.ntmps142
      go_wp2_with (fail)
      go_ret
      exact ⟨ret_bool (by rw [hp.out]), ((Ext.refl _).alloc _)⟩
  by_cases h6 : K = 6
  · subst h6
    clear h0 h1 h2 h3 h4 h5
    by_cases hn : 0 ≤ n
    · skip
      by_cases ht : t = ⟨#[]⟩
      · subst ht
        have hp := Lib.hid (valueB_tt (x := ⟨6, n, ⟨#[]⟩⟩) (by simp [ValOk, hn]))
        go_enter Tryz.func142, Tryz.ntmps142
        go_wp2_with (fail)
        go_ret
        exact ⟨ret_bool (by rw [hp.out]), ((Ext.refl _).alloc _)⟩
      · have t0 : ¬ t.toList = [] := fun h => ht (toList_inj (by simp [h]))
        have t0' : t.toList.isEmpty = false := by simpa using t0
        have hp := Lib.hid (valueB_ff (x := ⟨6, n, t⟩) (by simp [ValOk, ht]))
        go_enter Tryz.func142, Tryz.ntmps142
        go_wp2_with (fail)
        go_ret
        exact ⟨ret_bool (by rw [hp.out]), ((Ext.refl _).alloc _)⟩
    · have n1 : n < 0 := by omega
      have hp := Lib.hid (valueB_ff (x := ⟨6, n, t⟩) (by simp [ValOk, hn]))
      go_enter Tryz.func142, Tryz.ntmps142
      go_wp2_with (fail)
      go_ret
      exact ⟨ret_bool (by rw [hp.out]), ((Ext.refl _).alloc _)⟩
  by_cases h7 : K = 7
  · subst h7
    clear h0 h1 h2 h3 h4 h5 h6
    by_cases hn : 0 ≤ n
    · skip
      by_cases ht : t = ⟨#[]⟩
      · subst ht
        have hp := Lib.hid (valueB_tt (x := ⟨7, n, ⟨#[]⟩⟩) (by simp [ValOk, hn]))
        go_enter Tryz.func142, Tryz.ntmps142
        go_wp2_with (fail)
        go_ret
        exact ⟨ret_bool (by rw [hp.out]), ((Ext.refl _).alloc _)⟩
      · have t0 : ¬ t.toList = [] := fun h => ht (toList_inj (by simp [h]))
        have t0' : t.toList.isEmpty = false := by simpa using t0
        have hp := Lib.hid (valueB_ff (x := ⟨7, n, t⟩) (by simp [ValOk, ht]))
        go_enter Tryz.func142, Tryz.ntmps142
        go_wp2_with (fail)
        go_ret
        exact ⟨ret_bool (by rw [hp.out]), ((Ext.refl _).alloc _)⟩
    · have n1 : n < 0 := by omega
      have hp := Lib.hid (valueB_ff (x := ⟨7, n, t⟩) (by simp [ValOk, hn]))
      go_enter Tryz.func142, Tryz.ntmps142
      go_wp2_with (fail)
      go_ret
      exact ⟨ret_bool (by rw [hp.out]), ((Ext.refl _).alloc _)⟩
  have k0 := int_ne h0
  have k1 := int_ne h1
  have k2 := int_ne h2
  have k3 := int_ne h3
  have k4 := int_ne h4
  have k5 := int_ne h5
  have k6 := int_ne h6
  have k7 := int_ne h7
  have hp := Lib.hid (valueB_ff (x := ⟨K, n, t⟩) (by simp [ValOk, h0, h1, h2, h3, h4, h5, h6, h7]))
  go_enter Tryz.func142, Tryz.ntmps142
  go_wp2_with (fail)
  go_ret
  exact ⟨ret_bool (by rw [hp.out]), ((Ext.refl _).alloc _)⟩

end Go.Proofs.YticdmbmjlaomiaaGreatDoor
