/-
  NUMERALS: plain laws.
  Conditions: those that each lemma states.
-/
import Derived.Test.YticdmbmjlaomiaaGreatDoorFnItoa
import Derived.Lib.AtoiAll
namespace Go.Proofs.YticdmbmjlaomiaaGreatDoor
open Go.RowKit
set_option linter.unusedSimpArgs false
set_option linter.unusedVariables false

def valF (acc : Nat) (l : List UInt8) : Nat := l.foldl (fun a c => a * 10 + (c.toNat - 48)) acc
theorem valF_nil (a : Nat) : valF a [] = a := by unfold valF; rw [List.foldl_nil]
theorem valF_cons (a : Nat) (c : UInt8) (r : List UInt8) : valF a (c :: r) = valF (a * 10 + (c.toNat - 48)) r := by unfold valF; rw [List.foldl_cons]
def digL (l : List UInt8) : Prop := ∀ c, c ∈ l → 48 ≤ c.toNat ∧ c.toNat ≤ 57
theorem valF_append (l m : List UInt8) (a : Nat) : valF a (l ++ m) = valF (valF a l) m := by unfold valF; rw [List.foldl_append]
theorem valF_ge : ∀ (l : List UInt8) (a : Nat), a ≤ valF a l
  | [], a => by rw [valF_nil]; exact Nat.le_refl _
  | c :: r, a => by rw [valF_cons]; have := valF_ge r (a * 10 + (c.toNat - 48)); omega
theorem valF_lt : ∀ (l : List UInt8) (a : Nat), digL l → valF a l + 1 ≤ (a + 1) * 10 ^ l.length
  | [], a, _ => by simp [valF_nil]
  | c :: r, a, h => by
    rw [valF_cons, List.length_cons, Nat.pow_succ]
    have h1 := h c (by simp)
    have h2 := valF_lt r (a * 10 + (c.toNat - 48)) (fun x hx => h x (by simp [hx]))
    have h3 : (a * 10 + (c.toNat - 48) + 1) * 10 ^ r.length ≤ ((a + 1) * 10) * 10 ^ r.length := Nat.mul_le_mul_right _ (by omega)
    have h4 : (a + 1) * (10 ^ r.length * 10) = ((a + 1) * 10) * 10 ^ r.length := by rw [Nat.mul_comm (10 ^ r.length) 10, Nat.mul_assoc]
    omega
theorem val_bd {l : List UInt8} (h : digL l) (hl : l.length ≤ 12) : valF 0 l ≤ 999999999999 := by
  have h1 := valF_lt l 0 h
  have h2 : 10 ^ l.length ≤ 10 ^ 12 := Nat.pow_le_pow_right (by omega) hl
  have h3 : (10 : Nat) ^ 12 = 1000000000000 := by decide
  omega
theorem dec_val : ∀ (k u : Nat), u ≤ k → digL (Lib.decDigits u) ∧ valF 0 (Lib.decDigits u) = u ∧ Lib.decDigits u ≠ []
  | 0, u, h => by
    obtain rfl : u = 0 := by omega
    rw [Lib.decDigits, dif_pos (by omega)]
    exact ⟨by intro c hc; have hc := List.mem_singleton.1 hc; subst hc; decide, by decide, by simp⟩
  | k + 1, u, h => by
    by_cases hu : u < 10
    · rw [Lib.decDigits, dif_pos hu]
      have e : (UInt8.ofNat (48 + u)).toNat = 48 + u := by simp; omega
      exact ⟨by intro c hc; have hc := List.mem_singleton.1 hc; rw [hc, e]; omega, by rw [valF_cons, valF_nil, e]; omega, by simp⟩
    · rw [Lib.decDigits, dif_neg hu]
      obtain ⟨h1, h2, h3⟩ := dec_val k (u / 10) (by omega)
      have e : (UInt8.ofNat (48 + u % 10)).toNat = 48 + u % 10 := by simp; omega
      refine ⟨?_, ?_, by simp⟩
      · intro c hc
        rcases List.mem_append.1 hc with hc | hc
        · exact h1 c hc
        · have hc := List.mem_singleton.1 hc; rw [hc, e]; omega
      · rw [valF_append, h2, valF_cons, valF_nil, e]; omega
theorem parse_val : ∀ (l : List UInt8) (a : Nat), digL l → valF a l ≤ 999999999999 → Lib.parseUint10 a l = .ok (valF a l)
  | [], a, _, _ => by rw [valF_nil]; rfl
  | c :: r, a, h, hb => by
    rw [valF_cons] at hb ⊢
    have h1 := h c (by simp)
    have h2 := valF_ge r (a * 10 + (c.toNat - 48))
    rw [Lib.parseUint10, if_pos h1, if_neg (by omega), if_neg (by omega)]
    exact parse_val r _ (fun x hx => h x (by simp [hx])) hb
theorem dec_head (u : Nat) : ∃ c r, Lib.decDigits u = c :: r ∧ 48 ≤ c.toNat ∧ c.toNat ≤ 57 := by
  obtain ⟨h1, -, h3⟩ := dec_val u u (Nat.le_refl _)
  cases hd : Lib.decDigits u with
  | nil => exact absurd hd h3
  | cons c r => exact ⟨c, r, rfl, h1 c (by rw [hd]; simp)⟩
theorem atoiAll_itoa {n : Int} (h0 : -999999999999 ≤ n) (h1 : n ≤ 999999999999) : Lib.atoiAll (Lib.itoa n) = .ok n := by
  by_cases hn : n < 0
  · have e : Lib.itoa n = 45 :: Lib.decDigits n.natAbs := by rw [Lib.itoa, if_pos hn]
    obtain ⟨d1, d2, d3⟩ := dec_val n.natAbs n.natAbs (Nat.le_refl _)
    have hp : Lib.parseMag (Lib.decDigits n.natAbs) = .ok n.natAbs := by
      rw [Lib.parseMag, if_neg d3, parse_val _ 0 d1 (by rw [d2]; omega), d2]
    have h45 : (45 : UInt8).toNat = 45 := rfl
    rw [e]
    have k3 : ¬ 9223372036854775808 < n.natAbs := by omega
    have k4 : -(n.natAbs : Int) = n := by omega
    simp [Lib.atoiAll, h45, hp, k3]
    omega
  · have e : Lib.itoa n = Lib.decDigits n.toNat := by rw [Lib.itoa, if_neg hn]
    obtain ⟨d1, d2, d3⟩ := dec_val n.toNat n.toNat (Nat.le_refl _)
    obtain ⟨c, r, hd, c1, c2⟩ := dec_head n.toNat
    have hp : Lib.parseMag (c :: r) = .ok n.toNat := by
      rw [← hd, Lib.parseMag, if_neg d3, parse_val _ 0 d1 (by rw [d2]; omega), d2]
    rw [e, hd]
    have k1 : ¬ (c.toNat = 43 ∨ c.toNat = 45) := by omega
    have k2 : ¬ c.toNat = 45 := by omega
    have k3 : ¬ 9223372036854775808 ≤ n.toNat := by omega
    have k4 : (n.toNat : Int) = n := by omega
    simp only [Lib.atoiAll]
    rw [if_neg k1, hp]
    simp [k2, k3, k4]
theorem dec_len' : ∀ (k u : Nat), u < 10 ^ (k + 1) → (Lib.decDigits u).length ≤ k + 1
  | 0, u, h => by rw [Lib.decDigits, dif_pos (by simpa using h)]; simp
  | k + 1, u, h => by
    rw [Lib.decDigits]
    split
    · simp
    · have := dec_len' k (u / 10) (Nat.div_lt_of_lt_mul (by rw [Nat.pow_succ] at h; omega))
      simp; omega
theorem atoiAll_bd {l : List UInt8} {v : Int} (h : Lib.atoiAll l = .ok v) : -9223372036854775808 ≤ v ∧ v ≤ 9223372036854775807 := by
  unfold Lib.atoiAll at h
  split at h
  · cases h
  · simp only at h
    split at h
    · cases h
    · cases h
    · split at h
      · cases h
      · split at h
        · cases h
        · injection h with h
          subst h
          split <;> omega
theorem itoaB_data (n : Int) : (itoaB n).data.toList = Lib.itoa n := by simp [itoaB]
theorem itoaB_atoi {n : Int} {s : ByteArray} (h0 : -999999999999 ≤ n) (h1 : n ≤ 999999999999) (h : itoaB n = s) : Lib.atoiAll s.data.toList = .ok n := by
  rw [← h, itoaB_data]; exact atoiAll_itoa h0 h1
theorem itoaB_len {n : Int} (h0 : -999999999999 ≤ n) (h1 : n ≤ 999999999999) : (itoaB n).size ≤ 13 := by
  have e : (itoaB n).size = (Lib.itoa n).length := by rw [← itoaB_data]; simp
  rw [e, Lib.itoa]
  split
  · have := dec_len' 11 n.natAbs (by have : n.natAbs ≤ 999999999999 := by omega
                                     have e : (10 : Nat) ^ (11 + 1) = 1000000000000 := by decide
                                     omega)
    simp; omega
  · have := dec_len' 11 n.toNat (by have : n.toNat ≤ 999999999999 := by omega
                                    have e : (10 : Nat) ^ (11 + 1) = 1000000000000 := by decide
                                    omega)
    omega

def IsNum (a b : Int) (s : ByteArray) (n : Int) : Prop := a ≤ n ∧ n ≤ b ∧ itoaB n = s
noncomputable def numB (a b : Int) (s : ByteArray) : Bool := eqB (∃ n, IsNum a b s n) True
noncomputable def numV (a b : Int) (s : ByteArray) : Int := by classical exact if h : ∃ n, IsNum a b s n then h.choose else 0
theorem num_yes {a b n : Int} {s : ByteArray} (ha : -999999999999 ≤ a) (hb : b ≤ 999999999999) (h : IsNum a b s n) : numB a b s = true ∧ numV a b s = n := by
  have hx : ∃ n, IsNum a b s n := ⟨n, h⟩
  refine ⟨eqB_tt (by simp [hx]), ?_⟩
  unfold numV
  rw [dif_pos hx]
  have h2 := hx.choose_spec
  have e1 := itoaB_atoi (by have := h2.1; omega) (by have := h2.2.1; omega) h2.2.2
  have e2 := itoaB_atoi (by have := h.1; omega) (by have := h.2.1; omega) h.2.2
  rw [e1] at e2
  injection e2
theorem num_no {a b : Int} {s : ByteArray} (h : ¬ ∃ n, IsNum a b s n) : numB a b s = false ∧ numV a b s = 0 := by
  refine ⟨eqB_ff (by simpa using h), ?_⟩
  unfold numV
  rw [dif_neg h]
/-- What stands behind a minus. -/
theorem itoa_neg' {q : Int} {t : List UInt8} (h : Lib.itoa q = 45 :: t) : q < 0 ∧ t = Lib.decDigits q.natAbs := by
  unfold Lib.itoa at h
  split at h
  · injection h with _ h
    exact ⟨by assumption, h.symm⟩
  · obtain ⟨c, r, hd, c1, c2⟩ := dec_head q.toNat
    rw [hd] at h
    injection h with h _
    subst h
    exact absurd c1 (by decide)
theorem itoa_pos' {q : Int} {l : List UInt8} (h : Lib.itoa q = l) (h2 : ∀ t, l ≠ 45 :: t) : 0 ≤ q ∧ l = Lib.decDigits q.natAbs := by
  unfold Lib.itoa at h
  split at h
  · exact absurd h.symm (h2 _)
  · refine ⟨by omega, ?_⟩
    rw [← h]; congr 1; omega

end Go.Proofs.YticdmbmjlaomiaaGreatDoor
