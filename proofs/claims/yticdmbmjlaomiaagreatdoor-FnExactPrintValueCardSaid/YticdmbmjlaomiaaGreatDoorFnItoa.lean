/-
  CONTRACTS: FormatInt, of the program and of the reference.
  Conditions: those that each lemma states.
-/
import Derived.Test.YticdmbmjlaomiaaGreatDoorRows
import Derived.Test.YticdmbmjlaomiaaGreatDoorLem
import Derived.Test.YticdmbmjlaomiaaGreatDoorShelf
import Derived.Laws.BytesArg
import Derived.Lib.SmallJoins
namespace Go.Proofs.YticdmbmjlaomiaaGreatDoor
open Go.RowKit Go.Joins
set_option linter.unusedSimpArgs false
set_option linter.unusedVariables false

def ndig : Nat → Nat → List UInt8 → List UInt8
  | 0, _, acc => acc
  | f + 1, k, acc => if k = 0 then acc else ndig f (k / 10) (UInt8.ofNat (48 + k % 10) :: acc)
theorem ndig_fuel : ∀ (f k : Nat) (acc : List UInt8), k < f → ndig f k acc = ndig (k + 1) k acc
  | 0, k, acc, h => by omega
  | f + 1, k, acc, h => by
    by_cases h0 : k = 0
    · subst h0; simp [ndig]
    · rw [ndig, if_neg h0, ndig, if_neg h0, ndig_fuel f (k / 10) _ (by omega), ndig_fuel k (k / 10) _ (by omega)]
theorem ndig_zero (f : Nat) (acc : List UInt8) : ndig f 0 acc = acc := by cases f <;> simp [ndig]
theorem ndig_step {k : Nat} (h : 0 < k) (acc : List UInt8) : ndig (k + 1) k acc = ndig (k / 10 + 1) (k / 10) (UInt8.ofNat (48 + k % 10) :: acc) := by
  rw [ndig, if_neg (by omega), ndig_fuel k (k / 10) _ (by omega)]
theorem ndig_dec : ∀ (k : Nat) (acc : List UInt8), 0 < k → ndig (k + 1) k acc = Lib.decDigits k ++ acc := by
  intro k
  induction k using Nat.strongRecOn with
  | _ k ih =>
    intro acc hk
    rw [ndig_step hk, Lib.decDigits]
    by_cases h : k < 10
    · rw [dif_pos h, show k / 10 = 0 from by omega, ndig_zero, show k % 10 = k from by omega]; rfl
    · rw [dif_neg h, ih (k / 10) (by omega) _ (by omega)]; simp
def itoaB (n : Int) : ByteArray := ⟨(Lib.itoa n).toArray⟩

def TabOk (w : World) : Prop := Lib.TabIs Tryz.prog w "internal/strconv.uint64pow10" .u64 Lib.pow10Tab
theorem TabOk.ext {w w' : World} (h : TabOk w) (hx : Ext w w') : TabOk w' := tab_stays (g := 1) (by kernel_rfl) h hx (Nat.le_refl _)

set_option maxHeartbeats 1000000 in
theorem spec_FormatInt_any (n : Int) (w : World) (h0 : -9223372036854775808 ≤ n) (h1 : n ≤ 9223372036854775807) :
    Calls Tryz.prog 131 #[.int .i64 n] w fun e w' => e = .returned (.string (itoaB n)) ∧ Ext w w' := by
  by_cases hn : n = 0
  · subst hn
    go_enter Tryz.func131, Tryz.ntmps131
    go_wp2_with fail
    go_ret
    exact ⟨ret_str (by unfold itoaB Lib.itoa; rw [if_neg (by omega), show (0 : Int).toNat = 0 from rfl, Lib.decDigits, dif_pos (by omega)]; rfl), Ext.refl _⟩
  by_cases hp : 0 < n
  · have t0 := int_ne hn
    have t1 : ¬ n < 0 := by omega
    have HN := Lib.hid hn; clear hn
    go_enter Tryz.func131, Tryz.ntmps131
    go_wp2_with fail
    go_loopw [0, 4, 5] (fun nv ov dv wr => ∃ (k : Nat) (acc : List UInt8), nv = .int .i64 k ∧ acc.length + k ≤ 9223372036854775808 ∧ (acc = [] ∨ acc.length + k ≤ 1000000000000000000) ∧ ov = .string ⟨acc.toArray⟩ ∧ Ext w wr ∧ Hid (ndig (k + 1) k acc = ndig (n.toNat + 1) n.toNat [])) (fun nv _ _ _ => (intOf nv).toNat)
    case atStart => exact ⟨n.toNat, [], by rw [Int.toNat_of_nonneg (by omega)], by simp only [List.length_nil]; omega, Or.inl rfl, rfl, Ext.refl _, Lib.hid rfl⟩
    case round =>
      obtain ⟨k, acc, rfl, hk1, hk2, rfl, hx, hR⟩ := hrel
      by_cases hz : (0 : Int) < k
      · have hcv : ∀ W : World, W.cell? ⟨wr.heap.size, 0, none⟩ = some (.int .u8 (48 + (k : Int) % 10)) → (convert 281 9 (.slice (some ⟨wr.heap.size, 0, none⟩) 1 1)).run Tryz.prog W = .ok (.string (strOfNums [48 + (k : Int) % 10])) W := fun W h =>
          run_convert_bytes_arg (P := Tryz.prog) W 281 5 Tryz.underlying281 Tryz.underlying5 wr.heap.size 0 1 1 [48 + (k : Int) % 10] rfl (fun i hi => by
            obtain rfl : i = 0 := by omega
            exact h) 9 Tryz.underlying9
        have hcv := hcv (wr.alloc (.cells #[.int .u8 (48 + (k : Int) % 10)] 5)) (by simp)
        have e1 : (⟨acc.toArray⟩ : ByteArray).size = acc.length := by simp [ByteArray.size]
        have hsz : ¬ 9223372036854775807 < (strOfNums [48 + (k : Int) % 10]).size + (⟨acc.toArray⟩ : ByteArray).size := by
          rw [strOfNums_size, e1]
          rcases hk2 with rfl | h
          · simp
          · simp; omega
        have hne : ((k : Int) == 0) = false := int_ne (by omega)
        have hne' : ((k : Int) != 0) = true := int_nen (by omega)
        have hd : ¬ (k : Int) % 10 < 0 := by omega
        set_option maxRecDepth 100000 in
        go_wp2_with fail
        clear hcv hsz
        go_roundw
        case rel =>
          refine ⟨k / 10, UInt8.ofNat (48 + k % 10) :: acc, by go_num, by simp; omega, Or.inr (by rcases hk2 with rfl | h <;> simp <;> omega), ?_, hx.alloc _, Lib.hid ?_⟩
          · have : strOfNums [48 + (k : Int) % 10] ++ (⟨acc.toArray⟩ : ByteArray) = ⟨(UInt8.ofNat (48 + k % 10) :: acc).toArray⟩ := by
              simp only [strOfNums, List.map_cons, List.map_nil]
              rw [show (48 + (k : Int) % 10).toNat = 48 + k % 10 from by omega]
              apply ByteArray.ext
              simp
            rw [this]
          · rw [← hR.out]; exact (ndig_step (by omega) acc).symm
        case measure => simp [intOf]; omega
      · obtain rfl : k = 0 := by omega
        go_wp2_with fail
        go_ret
        have hr := hR.out
        rw [ndig_zero, ndig_dec _ _ (by omega)] at hr
        exact ⟨ret_str (by unfold itoaB Lib.itoa; rw [if_neg (by omega), hr]; simp), hx⟩
  · have t0 := int_ne hn
    have t1 : n < 0 := by omega
    have HN := Lib.hid hn; clear hn
    go_enter Tryz.func131, Tryz.ntmps131
    go_wp2_with fail
    go_loopw [0, 4, 5] (fun nv ov dv wr => ∃ (k : Nat) (acc : List UInt8), nv = .int .i64 (-(k : Int)) ∧ acc.length + k ≤ 9223372036854775808 ∧ (acc = [] ∨ acc.length + k ≤ 1000000000000000000) ∧ ov = .string ⟨acc.toArray⟩ ∧ Ext w wr ∧ Hid (ndig (k + 1) k acc = ndig (n.natAbs + 1) n.natAbs [])) (fun nv _ _ _ => (- intOf nv).toNat)
    case atStart => exact ⟨n.natAbs, [], by rw [show -(n.natAbs : Int) = n from by omega], by simp only [List.length_nil]; omega, Or.inl rfl, rfl, Ext.refl _, Lib.hid rfl⟩
    case round =>
      obtain ⟨k, acc, rfl, hk1, hk2, rfl, hx, hR⟩ := hrel
      by_cases hz : (0 : Int) < k
      · have hne : (-(k : Int) == 0) = false := int_ne (by omega)
        have hne' : (-(k : Int) != 0) = true := int_nen (by omega)
        by_cases hd : 0 < (k : Int) % 10
        · have hd' : 0 < (k : Int) % 10 := hd
          have hcv : ∀ W : World, W.cell? ⟨wr.heap.size, 0, none⟩ = some (.int .u8 (48 + (k : Int) % 10)) → (convert 281 9 (.slice (some ⟨wr.heap.size, 0, none⟩) 1 1)).run Tryz.prog W = .ok (.string (strOfNums [48 + (k : Int) % 10])) W := fun W h => by
            rw [show (48 + (k : Int) % 10) = 48 + (k : Int) % 10 from by omega]
            exact run_convert_bytes_arg (P := Tryz.prog) W 281 5 Tryz.underlying281 Tryz.underlying5 wr.heap.size 0 1 1 [48 + (k : Int) % 10] rfl (fun i hi => by
              obtain rfl : i = 0 := by omega
              exact h) 9 Tryz.underlying9
          have hcv := hcv (wr.alloc (.cells #[.int .u8 (48 + (k : Int) % 10)] 5)) (by simp)
          have e1 : (⟨acc.toArray⟩ : ByteArray).size = acc.length := by simp [ByteArray.size]
          have hsz : ¬ 9223372036854775807 < (strOfNums [48 + (k : Int) % 10]).size + (⟨acc.toArray⟩ : ByteArray).size := by
            rw [strOfNums_size, e1]
            rcases hk2 with rfl | h
            · simp
            · simp; omega
          set_option maxRecDepth 100000 in
          go_wp2_with fail
          clear hcv hsz
          go_roundw
          case rel =>
            refine ⟨k / 10, UInt8.ofNat (48 + k % 10) :: acc, by go_num, by simp; omega, Or.inr (by rcases hk2 with rfl | h <;> simp <;> omega), ?_, hx.alloc _, Lib.hid ?_⟩
            · have : strOfNums [48 + (k : Int) % 10] ++ (⟨acc.toArray⟩ : ByteArray) = ⟨(UInt8.ofNat (48 + k % 10) :: acc).toArray⟩ := by
                simp only [strOfNums, List.map_cons, List.map_nil]
                rw [show (48 + (k : Int) % 10).toNat = 48 + k % 10 from by omega]
                apply ByteArray.ext
                simp
              rw [this]
            · rw [← hR.out]; exact (ndig_step (by omega) acc).symm
          case measure => simp [intOf]; omega
        · have hd' : (k : Int) % 10 = 0 := by omega
          have hcv : ∀ W : World, W.cell? ⟨wr.heap.size, 0, none⟩ = some (.int .u8 (48)) → (convert 281 9 (.slice (some ⟨wr.heap.size, 0, none⟩) 1 1)).run Tryz.prog W = .ok (.string (strOfNums [48 + (k : Int) % 10])) W := fun W h => by
            rw [show (48 + (k : Int) % 10) = 48 from by omega]
            exact run_convert_bytes_arg (P := Tryz.prog) W 281 5 Tryz.underlying281 Tryz.underlying5 wr.heap.size 0 1 1 [48] rfl (fun i hi => by
              obtain rfl : i = 0 := by omega
              exact h) 9 Tryz.underlying9
          have hcv := hcv (wr.alloc (.cells #[.int .u8 (48)] 5)) (by simp)
          have e1 : (⟨acc.toArray⟩ : ByteArray).size = acc.length := by simp [ByteArray.size]
          have hsz : ¬ 9223372036854775807 < (strOfNums [48 + (k : Int) % 10]).size + (⟨acc.toArray⟩ : ByteArray).size := by
            rw [strOfNums_size, e1]
            rcases hk2 with rfl | h
            · simp
            · simp; omega
          set_option maxRecDepth 100000 in
          go_wp2_with fail
          clear hcv hsz
          go_roundw
          case rel =>
            refine ⟨k / 10, UInt8.ofNat (48 + k % 10) :: acc, by go_num, by simp; omega, Or.inr (by rcases hk2 with rfl | h <;> simp <;> omega), ?_, hx.alloc _, Lib.hid ?_⟩
            · have : strOfNums [48] ++ (⟨acc.toArray⟩ : ByteArray) = ⟨(UInt8.ofNat (48 + k % 10) :: acc).toArray⟩ := by
                simp only [strOfNums, List.map_cons, List.map_nil]
                rw [show (48 : Int).toNat = 48 + k % 10 from by omega]
                apply ByteArray.ext
                simp
              rw [this]
            · rw [← hR.out]; exact (ndig_step (by omega) acc).symm
          case measure => simp [intOf]; omega
      · obtain rfl : k = 0 := by omega
        have hsz : ¬ 9223372036854775807 < 1 + (⟨acc.toArray⟩ : ByteArray).size := by
          have e1 : (⟨acc.toArray⟩ : ByteArray).size = acc.length := by simp [ByteArray.size]
          rw [e1]
          rcases hk2 with rfl | h
          · simp
          · simp; omega
        go_wp2_with fail
        go_ret
        have hr := hR.out
        rw [ndig_zero, ndig_dec _ _ (by omega)] at hr
        refine ⟨ret_str ?_, hx⟩
        unfold itoaB Lib.itoa
        rw [if_pos t1, hr]
        apply ByteArray.ext
        simp

theorem impl_FormatInt_any (n : Int) (w : World) (h0 : -9223372036854775808 ≤ n) (h1 : n ≤ 9223372036854775807) (htab : Lib.TabIs Tryz.prog w "internal/strconv.uint64pow10" .u64 Lib.pow10Tab) :
    Calls Tryz.prog 143 #[.int .i64 n] w fun e w' => e = .returned (.string (itoaB n)) ∧ Ext w w' := by
  go_enter Tryz.func143, Tryz.ntmps143
  go_wp2_with fail
  refine (Tryz.strconv_Itoa n h0 h1 _ htab).mono ?_
  rintro e w1 ⟨rfl, k, os, hw⟩
  have hx : Ext w w1 := by rw [hw]; exact below_regrown w _ _
  clear hw
  go_wp2_with fail
  go_ret
  exact ⟨rfl, hx⟩

end Go.Proofs.YticdmbmjlaomiaaGreatDoor
