/-
  CONTRACTS: the cursor of draws; DrawIsSelector gives one of a few texts.
  Conditions: those that each lemma states.
-/
import Derived.Test.YtkajinmknhnpkaaDoorRows
import Derived.Test.YtkajinmknhnpkaaDoorFnSel
import Derived.Test.YtkajinmknhnpkaaDoorMark
import Derived.Laws.Bits128
import Derived.Lib.QuietBelow
namespace Go.Proofs.YtkajinmknhnpkaaDoor
open Go.RowKit
set_option linter.unusedSimpArgs false
set_option linter.unusedVariables false

theorem i64_and255 (n : Int) : bits .and .i64 n 255 = n % 256 := by
  have h255 : (BitVec.ofInt 64 255).toNat = 2 ^ 8 - 1 := by decide
  have key : (BitVec.ofInt 64 n &&& BitVec.ofInt 64 255).toNat = (n % ((2 ^ 64 : Nat) : Int)).toNat % 2 ^ 8 := by
    rw [BitVec.toNat_and, BitVec.toNat_ofInt, h255, Nat.and_two_pow_sub_one_eq_mod]
  show IntKind.i64.wrap ((BitVec.ofInt 64 n &&& BitVec.ofInt 64 255).toNat : Nat) = n % 256
  rw [key, IntKind.wrap_i64]
  omega

theorem addr_zero (a : Addr) : a.add 0 = a := by unfold Addr.add; split <;> simp_all
/-- A slice of bytes. -/
def Bytes (w : World) (v : Value) : Prop := ∃ ao n cap, v = .slice ao n cap ∧ n ≤ 9223372036854775807 ∧ (n = 0 ∨ ∃ a, ao = some a ∧ ∀ k, k < n → ∃ z, w.cell? (a.add k) = some (.int .u8 z) ∧ 0 ≤ z ∧ z ≤ 255)
theorem Bytes.ext {w w' : World} {v : Value} (h : Bytes w v) (hx : Ext w w') : Bytes w' v := by
  obtain ⟨ao, n, cap, hv, hn, hc⟩ := h
  refine ⟨ao, n, cap, hv, hn, hc.imp id fun ⟨a, ha, h⟩ => ⟨a, ha, fun k hk => ?_⟩⟩
  obtain ⟨z, h1, h2⟩ := h k hk
  exact ⟨z, Ext.cell hx h1, h2⟩
theorem Touch.cell {w w' : World} {fp : List Nat} {a : Addr} {v : Value} (h : Touch w w' fp) (ha : a.block ∉ fp) (hc : w.cell? a = some v) : w'.cell? a = some v := by
  have hb := h.block a.block (lt_of_cell hc) ha
  unfold World.cell? at hc ⊢
  rw [hb]; exact hc

set_option maxRecDepth 20000 in
set_option maxHeartbeats 1000000 in
theorem l1New_any (v : Value) (w : World) (hc : Bytes w v) :
    Calls Tryd.prog 12 #[v] w fun e w' => ∃ B, e = .returned (.pointer (some ⟨B, 0, none⟩)) ∧ w.heap.size ≤ B ∧ (∃ h, Own w' B 50 #[v, .int .i64 0, .int .i64 h]) ∧ Ext w w' := by
  obtain ⟨ao, n, cap, rfl, hn, hz⟩ := hc
  go_enter Tryd.func12, Tryd.ntmps12
  go_wp2_with fail
  go_loop [3, 4] (fun hv iv => ∃ (h : Int) (k : Nat), hv = .int .i64 h ∧ iv = .int .i64 k ∧ k ≤ n ∧ k ≤ 4000) (fun _ iv => n - (intOf iv).toNat)
  case atStart => exact ⟨_, 0, rfl, rfl, Nat.zero_le _, Nat.zero_le _⟩
  case round =>
    obtain ⟨h, k, rfl, rfl, hk, hk4⟩ := hrel
    by_cases hlt : k < n
    · by_cases h4 : k < 4000
      · rcases hz with rfl | ⟨a, rfl, hz⟩
        · omega
        obtain ⟨z, hz1, hz2, hz3⟩ := hz k hlt
        go_wp2_with fail
        go_round
        case rel => exact ⟨_, k + 1, rfl, by go_num, by omega, by omega⟩
        case measure => simp [intOf]; omega
      · have f1 : (4000 : Int) ≤ k := by omega
        go_wp2_with fail
        go_ret
        exact ⟨_, rfl, Nat.le_refl _, ⟨_, own_new _ _ _⟩, (Ext.refl w).alloc _⟩
    · go_wp2_with fail
      go_ret
      exact ⟨_, rfl, Nat.le_refl _, ⟨_, own_new _ _ _⟩, (Ext.refl w).alloc _⟩

set_option maxRecDepth 20000 in
set_option maxHeartbeats 1000000 in
theorem l1Byte_any (B : Nat) (v : Value) (h : Int) (w : World) (hO : Own w B 50 #[v, .int .i64 0, .int .i64 h]) (hc : Bytes w v) (hB : ∀ (a : Addr) (n cap : Nat), 0 < n → v = .slice (some a) n cap → a.block ≠ B) :
    Calls Tryd.prog 54 #[.pointer (some ⟨B, 0, none⟩)] w fun e w' => (∃ x : Int, e = .returned (.int .i64 x) ∧ 0 ≤ x ∧ x ≤ 255) ∧ Touch w w' [B] := by
  obtain ⟨ao, n, cap, rfl, hn, hz⟩ := hc
  have c0 : w.cell? ⟨B, 0, none⟩ = some (.slice ao n cap) := by rw [hO.cell]; rfl
  have c1 : w.cell? ⟨B, 1, none⟩ = some (.int .i64 0) := by rw [hO.cell]; rfl
  have c2 : w.cell? ⟨B, 2, none⟩ = some (.int .i64 h) := by rw [hO.cell]; rfl
  have z2 := hO.frozen 2
  go_enter Tryd.func54, Tryd.ntmps54
  go_wp2_with fail
  generalize hW : World.setCell w _ _ = W1
  obtain ⟨h1, hO1⟩ : ∃ h1, Own W1 B 50 #[.slice ao n cap, .int .i64 0, .int .i64 h1] := ⟨_, by rw [← hW]; exact hO.set 2 _⟩
  have T1 : Touch w W1 [B] := by rw [← hW]; exact (Touch.of_ext (Ext.refl w) [B]).setCell (by simp) _
  clear hW c0 c1 c2 z2 hO
  have c0 : W1.cell? ⟨B, 0, none⟩ = some (.slice ao n cap) := by rw [hO1.cell]; rfl
  have c1 : W1.cell? ⟨B, 1, none⟩ = some (.int .i64 0) := by rw [hO1.cell]; rfl
  have c2 : W1.cell? ⟨B, 2, none⟩ = some (.int .i64 h1) := by rw [hO1.cell]; rfl
  have g2 := reg (Ext.refl _) c2
  refine wp_region_quiet_below (by kernel_rfl) (by kernel_rfl) ?_
  repeat (quiet_step (fail))
  refine wpQuiet_nil ?_
  clear g2
  intro _ hw'
  obtain ⟨pw, hw''⟩ := hw'
  subst hw''
  generalize hX : bits .and .i64 _ 255 = x
  rw [i64_and255] at hX
  have hx0 : 0 ≤ x := by omega
  have hx1 : x ≤ 255 := by omega
  clear hX
  have X1 := regx W1 pw
  generalize hW : «Sort».grow (redrawn W1 pw.d) pw.os = W2 at *
  clear hW
  have hO2 := hO1.ext X1
  have T2 := T1.trans (Touch.of_ext X1 [B])
  clear X1 T1 hO1 c0 c1 c2
  have c0 : W2.cell? ⟨B, 0, none⟩ = some (.slice ao n cap) := by rw [hO2.cell]; rfl
  have c1 : W2.cell? ⟨B, 1, none⟩ = some (.int .i64 0) := by rw [hO2.cell]; rfl
  have g0 := reg (Ext.refl _) c0
  have g1 := reg (Ext.refl _) c1
  by_cases hn0 : n = 0
  · have f0 : (n : Int) ≤ 0 := by omega
    have f1 : ((0 : Int) < (n : Int)) = False := by simp; omega
    go_wp2_with fail
    refine wp_region_quiet_below (by kernel_rfl) (by kernel_rfl) ?_
    repeat (quiet_step (fail))
    refine wpQuiet_nil ?_
    clear g0 g1 c0 c1
    intro _ hw'
    obtain ⟨pw, hw''⟩ := hw'
    subst hw''
    have X2 := regx W2 pw
    generalize hW : «Sort».grow (redrawn W2 pw.d) pw.os = W3 at *
    go_wp2_with fail
    go_ret
    exact ⟨⟨x, rfl, hx0, hx1⟩, T2.trans (Touch.of_ext X2 [B])⟩
  · have f0 : (0 : Int) < (n : Int) := by omega
    rcases hz with rfl | ⟨a, rfl, hz⟩
    · omega
    obtain ⟨z, hz1, hz2, hz3⟩ := hz 0 (by omega)
    have ha0 : a.add 0 = a := addr_zero a
    rw [ha0] at hz1
    have hz1 := T2.cell (a := a) (by
      have := hB a n cap (by omega) rfl
      simp [this]) hz1
    clear ha0
    go_wp2_with fail
    refine wp_region_quiet_below (by kernel_rfl) (by kernel_rfl) ?_
    repeat (quiet_step (fail))
    refine wpQuiet_nil ?_
    clear g0 g1 c0 c1
    intro _ hw'
    obtain ⟨pw, hw''⟩ := hw'
    subst hw''
    have X2 := regx W2 pw
    generalize hW : «Sort».grow (redrawn W2 pw.d) pw.os = W3 at *
    clear hW
    have hO3 := hO2.ext X2
    have T3 := T2.trans (Touch.of_ext X2 [B])
    have hz1 := X2.cell hz1
    clear X2 T2 hO2
    have c0 : W3.cell? ⟨B, 0, none⟩ = some (.slice (some a) n cap) := by rw [hO3.cell]; rfl
    have c1 : W3.cell? ⟨B, 1, none⟩ = some (.int .i64 0) := by rw [hO3.cell]; rfl
    have g0 := reg (Ext.refl _) c0
    have g1 := reg (Ext.refl _) c1
    have gz := reg (Ext.refl _) hz1
    go_wp2_with fail
    refine wp_region_quiet_below (by kernel_rfl) (by kernel_rfl) ?_
    repeat (quiet_step (fail))
    refine wpQuiet_nil ?_
    clear g0 g1 c0 c1 gz
    intro _ hw'
    obtain ⟨pw, hw''⟩ := hw'
    subst hw''
    generalize hX : bits .and .i64 _ 255 = y
    rw [i64_and255] at hX
    have hy0 : 0 ≤ y := by omega
    have hy1 : y ≤ 255 := by omega
    clear hX
    have X3 := regx W3 pw
    generalize hW : «Sort».grow (redrawn W3 pw.d) pw.os = W4 at *
    clear hW
    have hO4 := hO3.ext X3
    have T4 := T3.trans (Touch.of_ext X3 [B])
    have c1 : W4.cell? ⟨B, 1, none⟩ = some (.int .i64 0) := by rw [hO4.cell]; rfl
    have z1 := hO4.frozen 1
    go_wp2_with fail
    go_ret
    exact ⟨⟨y, rfl, hy0, hy1⟩, T4.setCell (by simp) _⟩

set_option maxHeartbeats 1000000 in
theorem l1Pick_any (B : Nat) (v : Value) (h : Int) (l : List ByteArray) (va : Value) (w : World) (hO : Own w B 50 #[v, .int .i64 0, .int .i64 h]) (hc : Bytes w v) (hB : ∀ (a : Addr) (n cap : Nat), 0 < n → v = .slice (some a) n cap → a.block ≠ B)
    (hl0 : 0 < l.length) (hl : l.length ≤ 256) (fp : List Nat) (ra : RepF w (strs l) [va] fp) (hf : B ∉ fp) :
    Calls Tryd.prog 32 #[.pointer (some ⟨B, 0, none⟩), va] w fun e w' => (∃ s, e = .returned (.string s) ∧ s ∈ l) ∧ Touch w w' [B] := by
  have ra' := ra.rep
  obtain ⟨ao, ca, ba, oa, h1, hla, hma, pa, ha⟩ := ra'.strs
  simp only [List.cons.injEq, and_true] at h1
  subst h1
  unfold maxLen at hma
  obtain rfl := pa hl0
  have hba : ba ≠ B := fun e => by
    subst e
    obtain ⟨ao, cap, hv, -, -, -, hh⟩ := RepF.sl_iff.1 ra
    simp only [List.cons.injEq, and_true, Value.slice.injEq] at hv
    obtain ⟨rfl, -, rfl⟩ := hv
    rcases hh with ⟨g, -⟩ | ⟨b, o, cells, fp', -, g1, g2, -⟩
    · have := List.map_eq_nil_iff.1 g; rw [this] at hl0; simp at hl0
    · simp only [Option.some.injEq, Addr.mk.injEq, and_true] at g1
      exact hf (by rw [g2, g1.1]; simp)
  clear ra ra' pa
  have g0 : (0 : Int) < l.length := by omega
  have g1 : (l.length : Int) ≤ 256 := by omega
  have hne : ¬ l = [] := fun e => by rw [e] at hl0; simp at hl0
  have hbel : Calls Tryd.prog 31 #[.pointer (some ⟨B, 0, none⟩), .int .i64 l.length] w fun e w' => (∃ m : Nat, e = .returned (.int .i64 m) ∧ m < l.length) ∧ Touch w w' [B] := by
    go_enter Tryd.func31, Tryd.ntmps31
    go_wp2_with fail
    refine (l1Byte_any B v h w hO hc hB).mono ?_
    rintro e w1 ⟨⟨x, rfl, hx0, hx1⟩, hT⟩
    have hnz : (l.length : Int) ≠ 0 := by omega
    have hr0 : 0 ≤ x % (l.length : Int) := Int.emod_nonneg _ hnz
    have hr1 : x % (l.length : Int) < l.length := Int.emod_lt_of_pos _ g0
    go_wp2_with fail
    go_ret
    exact ⟨⟨(x % (l.length : Int)).toNat, by rw [Int.toNat_of_nonneg hr0]; rfl, by omega⟩, hT⟩
  go_enter Tryd.func32, Tryd.ntmps32
  go_wp2_with fail
  refine hbel.mono ?_
  rintro e w1 ⟨⟨m, rfl, hm⟩, hT⟩
  have a0 := hT.cell (by simpa using hba) (ha m l[m] (by simp [hm]))
  clear ha
  go_wp2_with fail
  go_ret
  exact ⟨⟨_, rfl, List.getElem_mem hm⟩, hT⟩

end Go.Proofs.YtkajinmknhnpkaaDoor
