/-
  CONTRACTS: parts of Tokens: numbers, of the reference.
  Conditions: those that each lemma states.
-/
import Derived.Test.YtkajinmknhnpkaaDoorRows
import Derived.Test.YtkajinmknhnpkaaDoorFnTokN
import Derived.Test.YtkajinmknhnpkaaDoorNums
namespace Go.Proofs.YtkajinmknhnpkaaDoor
open Go.RowKit
set_option linter.unusedSimpArgs false
set_option linter.unusedVariables false

/-- The digits at the head. -/
def digN : List UInt8 → Nat
  | [] => 0
  | c :: r => if dgtB (c.toNat : Int) = true then digN r + 1 else 0
def headLtr : List UInt8 → Bool
  | [] => false
  | c :: _ => ltrB (c.toNat : Int)
def numT (l : List UInt8) : MToken × Nat := if 9 < digN l then noTok else if headLtr (l.drop (digN l)) = true then noTok else (⟨3, ⟨#[]⟩, (valF 0 (l.take (digN l)) : Nat)⟩, digN l)
theorem digN_all : ∀ {l : List UInt8} {j : Nat}, j ≤ l.length → (∀ c, c ∈ l.take j → dgtB (c.toNat : Int) = true) → digN l = j + digN (l.drop j)
  | l, 0, _, _ => by simp
  | [], j + 1, h, _ => by simp at h
  | c :: r, j + 1, h, hd => by
    have h1 := hd c (by simp)
    have h2 := digN_all (l := r) (j := j) (by simpa using h) (fun x hx => hd x (by simp [hx]))
    rw [digN, if_pos h1, h2, List.drop_succ_cons]; omega
theorem dgt_iff {n : Int} : dgtB n = true ↔ 48 ≤ n ∧ n ≤ 57 := by unfold dgtB; exact decide_eq_true_iff

set_option maxHeartbeats 2000000 in
theorem l2Number_any (s : ByteArray) (k : Nat) (w : World) (hs : s.size ≤ 1048576) (hk : k ≤ s.size) (hd0 : 0 < digN (s.data.toList.drop k)) :
    Calls Tryd.prog 40 #[.string s, .int .i64 k] w fun e w' => e = .returned (.tuple #[tokVal (numT (s.data.toList.drop k)).1, .int .i64 (endV k (numT (s.data.toList.drop k)).2)]) ∧ Ext w w' := by
  have p0 : (0 : Int) ≤ k := by omega
  obtain ⟨L, hL⟩ : ∃ L, L = s.data.toList.drop k := ⟨_, rfl⟩
  have hLl : L.length = s.size - k := by rw [hL]; simp
  have HLL := Lib.hid hLl; clear hLl
  rw [← hL] at hd0 ⊢
  have HL := Lib.hid hL; clear hL
  have HD0 := Lib.hid hd0; clear hd0
  go_enter Tryd.func40, Tryd.ntmps40
  go_wp2_with fail
  go_loop [6, 7] (fun ev nv => ∃ j : Nat, k + j ≤ s.size ∧ j ≤ 9 ∧ ev = .int .i64 ((k + j : Nat) : Int) ∧ nv = .int .i64 (valF 0 (L.take j) : Nat) ∧ Hid (∀ c, c ∈ L.take j → dgtB (c.toNat : Int) = true)) (fun ev _ => s.size - (intOf ev).toNat)
  case atStart => exact ⟨0, by omega, by omega, rfl, by simp [valF_nil], Lib.hid (by simp)⟩
  case round =>
    obtain ⟨j, hj, hj9, rfl, rfl, hR⟩ := hrel
    have hdg : digL (L.take j) := fun c hc => by have := dgt_iff.1 (hR.out c hc); omega
    have hvb := val_bd hdg (by rw [List.length_take]; omega)
    have HDG := Lib.hid hdg; clear hdg
    have hA := Lib.hid (digN_all (l := L) (j := j) (by rw [HLL.out]; omega) hR.out)
    by_cases hlt : k + j < s.size
    · obtain ⟨hb0, hb1⟩ := byte_bd s[k + j]
      have hdrop : L.drop j = s[k + j] :: s.data.toList.drop (k + j + 1) := by rw [HL.out, List.drop_drop, drop_cons hlt]
      have HDR := Lib.hid hdrop; clear hdrop
      have htk : L.take (j + 1) = L.take j ++ [s[k + j]] := by
        have h1 : L[j]? = some s[k + j] := by
          have := congrArg List.head? HDR.out
          rw [List.head?_drop] at this
          simpa using this
        rw [List.take_add_one, h1]; rfl
      have HTK := Lib.hid htk; clear htk
      cases hq : dgtB (s[k + j].toNat : Int)
      · have hN : Hid (digN L = j) := Lib.hid (by rw [hA.out, HDR.out, digN, if_neg (by rw [hq]; exact Bool.false_ne_true), Nat.add_zero])
        have HQ := Lib.hid hq; clear hq
        have hH : Hid (headLtr (L.drop (digN L)) = ltrB (s[k + j].toNat : Int)) := Lib.hid (by rw [hN.out, HDR.out]; rfl)
        have HX : Hid (j ≠ 0) := Lib.hid (by have := HD0.out; rw [hN.out] at this; omega)
        cases hl : ltrB (s[k + j].toNat : Int)
        · have hT : Hid (numT L = (⟨3, ⟨#[]⟩, (valF 0 (L.take j) : Nat)⟩, j)) := Lib.hid (by rw [numT, if_neg (by rw [hN.out]; omega), if_neg (by rw [hH.out, hl]; exact Bool.false_ne_true), hN.out])
          have HLt := Lib.hid hl; clear hl
          go_wp2_with fail
          refine (l2Digit_any _ _ hb0 hb1).mono ?_
          rw [HQ.out]
          rintro e w' ⟨rfl, rfl⟩
          go_wp2_with fail
          refine (l2Letter_any _ _ hb0 hb1).mono ?_
          rw [HLt.out]
          rintro e w' ⟨rfl, rfl⟩
          go_wp2_with fail
          refine bodyPost_ret (v := .tuple #[.agg #[.int .i64 3, .string ⟨#[]⟩, .int .i64 (valF 0 (L.take j) : Nat)], .int .i64 ((k + j : Nat) : Int)]) (by simp [results, Tryd.results40, go_sem]) rfl ⟨?_, ?_⟩
          · rw [hT.out]
            simp only [tokVal, endV]
            rw [if_neg HX.out]
          · (repeat (first | exact Ext.refl _ | refine Ext.alloc ?_ _ | refine Ext.setCell ?_ (by first | exact Nat.le_refl _ | (simp; done) | (simp; omega)) _))
        · have hT : Hid (numT L = noTok) := Lib.hid (by rw [numT, if_neg (by rw [hN.out]; omega), if_pos (by rw [hH.out, hl])])
          have HLt := Lib.hid hl; clear hl
          go_wp2_with fail
          refine (l2Digit_any _ _ hb0 hb1).mono ?_
          rw [HQ.out]
          rintro e w' ⟨rfl, rfl⟩
          go_wp2_with fail
          refine (l2Letter_any _ _ hb0 hb1).mono ?_
          rw [HLt.out]
          rintro e w' ⟨rfl, rfl⟩
          go_wp2_with fail
          refine bodyPost_ret (v := .tuple #[.agg #[.int .i64 0, .string ⟨#[]⟩, .int .i64 0], .int .i64 0]) (by simp [results, Tryd.results40, go_sem]) rfl ⟨?_, ?_⟩
          · rw [hT.out]; rfl
          · (repeat (first | exact Ext.refl _ | refine Ext.alloc ?_ _ | refine Ext.setCell ?_ (by first | exact Nat.le_refl _ | (simp; done) | (simp; omega)) _))
      · have hqd := dgt_iff.1 hq
        obtain ⟨d0, d1⟩ := hqd
        have hN : Hid (j + 1 ≤ digN L) := Lib.hid (by rw [hA.out, HDR.out, digN, if_pos hq]; omega)
        have HV : Hid (valF 0 (L.take (j + 1)) = valF 0 (L.take j) * 10 + (s[k + j].toNat - 48)) := Lib.hid (by rw [HTK.out, valF_append, valF_cons, valF_nil])
        have HR2 : Hid (∀ c, c ∈ L.take (j + 1) → dgtB (c.toNat : Int) = true) := Lib.hid (by
          rw [HTK.out]; intro c hc
          rcases List.mem_append.1 hc with hc | hc
          · exact hR.out c hc
          · have hc := List.mem_singleton.1 hc; rw [hc]; exact hq)
        have HQ := Lib.hid hq; clear hq
        generalize valF 0 (L.take j) = V0 at *
        by_cases h9 : j < 9
        · have t9 : ¬ (9 : Int) < (k : Int) + j + 1 - k := by omega
          go_wp2_with fail
          refine (l2Digit_any _ _ hb0 hb1).mono ?_
          rw [HQ.out]
          rintro e w' ⟨rfl, rfl⟩
          go_wp2_with fail
          go_round
          case rel => exact ⟨j + 1, by omega, by omega, by go_num, by rw [HV.out]; go_num, HR2⟩
          case measure => simp [intOf]; omega
        · have t9 : (9 : Int) < (k : Int) + j + 1 - k := by omega
          have hT : Hid (numT L = noTok) := Lib.hid (by rw [numT, if_pos (by have := hN.out; omega)])
          go_wp2_with fail
          refine (l2Digit_any _ _ hb0 hb1).mono ?_
          rw [HQ.out]
          rintro e w' ⟨rfl, rfl⟩
          go_wp2_with fail
          refine bodyPost_ret (v := .tuple #[.agg #[.int .i64 0, .string ⟨#[]⟩, .int .i64 0], .int .i64 0]) (by simp [results, Tryd.results40, go_sem]) rfl ⟨?_, ?_⟩
          · rw [hT.out]; rfl
          · (repeat (first | exact Ext.refl _ | refine Ext.alloc ?_ _ | refine Ext.setCell ?_ (by first | exact Nat.le_refl _ | (simp; done) | (simp; omega)) _))
    · have hnil : L.drop j = [] := List.drop_eq_nil_of_le (by rw [HLL.out]; omega)
      have hN : Hid (digN L = j) := Lib.hid (by rw [hA.out, hnil]; rfl)
      have hT : Hid (numT L = (⟨3, ⟨#[]⟩, (valF 0 (L.take j) : Nat)⟩, j)) := Lib.hid (by rw [numT, if_neg (by rw [hN.out]; omega), if_neg (by rw [hN.out, hnil]; exact Bool.false_ne_true), hN.out])
      have HX : Hid (j ≠ 0) := Lib.hid (by have := HD0.out; rw [hN.out] at this; omega)
      clear hnil
      go_wp2_with fail
      refine bodyPost_ret (v := .tuple #[.agg #[.int .i64 3, .string ⟨#[]⟩, .int .i64 (valF 0 (L.take j) : Nat)], .int .i64 ((k + j : Nat) : Int)]) (by simp [results, Tryd.results40, go_sem]) rfl ⟨?_, ?_⟩
      · rw [hT.out]
        simp only [tokVal, endV]
        rw [if_neg HX.out]
      · (repeat (first | exact Ext.refl _ | refine Ext.alloc ?_ _ | refine Ext.setCell ?_ (by first | exact Nat.le_refl _ | (simp; done) | (simp; omega)) _))

end Go.Proofs.YtkajinmknhnpkaaDoor
