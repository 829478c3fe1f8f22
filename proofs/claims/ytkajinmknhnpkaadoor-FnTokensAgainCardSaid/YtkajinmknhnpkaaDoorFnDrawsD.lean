/-
  CONTRACTS: the draws of numbers and of texts to part.
  Conditions: those that each lemma states.
-/
import Derived.Test.YtkajinmknhnpkaaDoorRows
import Derived.Test.YtkajinmknhnpkaaDoorFnDraws
namespace Go.Proofs.YtkajinmknhnpkaaDoor
open Go.RowKit
set_option linter.unusedSimpArgs false
set_option linter.unusedVariables false

/-- The cursor of a draw stands in block B, over the bytes v. -/
def Cur (w : World) (B : Nat) (v : Value) : Prop := ∃ (i : Nat) (h : Int), i ≤ 9223372036854775807 ∧ Own w B 50 #[v, .int .i64 i, .int .i64 h]
theorem Cur.ext {w w' : World} {B : Nat} {v : Value} (h : Cur w B v) (hx : Ext w w') : Cur w' B v := let ⟨i, q, hi, hO⟩ := h; ⟨i, q, hi, hO.ext hx⟩
theorem Cur.lt {w : World} {B : Nat} {v : Value} (h : Cur w B v) : B < w.heap.size := let ⟨_, _, _, hO⟩ := h; hO.lt
/-- The bytes lie elsewhere. -/
def Off (v : Value) (B : Nat) : Prop := ∀ (a : Addr) (n cap : Nat), 0 < n → v = .slice (some a) n cap → a.block ≠ B
theorem Bytes.touch {w w' : World} {v : Value} {B : Nat} (h : Bytes w v) (ht : Touch w w' [B]) (hB : Off v B) : Bytes w' v := by
  obtain ⟨ao, n, cap, rfl, hn, hc⟩ := h
  refine ⟨ao, n, cap, rfl, hn, ?_⟩
  rcases hc with rfl | ⟨a, rfl, hz⟩
  · exact Or.inl rfl
  · refine Or.inr ⟨a, rfl, fun k hk => ?_⟩
    obtain ⟨z, h1, h2⟩ := hz k hk
    have e : (a.add k).block = a.block := by unfold Addr.add; split <;> rfl
    exact ⟨z, ht.cell (by rw [e]; have := hB a n cap (by omega) rfl; simp [this]) h1, h2⟩

set_option maxRecDepth 20000 in
set_option maxHeartbeats 2000000 in
theorem l1Byte_gen (B : Nat) (v : Value) (i : Nat) (h : Int) (w : World) (hi : i ≤ 9223372036854775807) (hO : Own w B 50 #[v, .int .i64 i, .int .i64 h]) (hc : Bytes w v) (hB : ∀ (a : Addr) (n cap : Nat), 0 < n → v = .slice (some a) n cap → a.block ≠ B) :
    Calls Tryd.prog 54 #[.pointer (some ⟨B, 0, none⟩)] w fun e w' => (∃ x : Int, e = .returned (.int .i64 x) ∧ 0 ≤ x ∧ x ≤ 255) ∧ Touch w w' [B] ∧ Cur w' B v := by
  obtain ⟨ao, n, cap, rfl, hn, hz⟩ := hc
  have c0 : w.cell? ⟨B, 0, none⟩ = some (.slice ao n cap) := by rw [hO.cell]; rfl
  have c1 : w.cell? ⟨B, 1, none⟩ = some (.int .i64 i) := by rw [hO.cell]; rfl
  have c2 : w.cell? ⟨B, 2, none⟩ = some (.int .i64 h) := by rw [hO.cell]; rfl
  have z2 := hO.frozen 2
  go_enter Tryd.func54, Tryd.ntmps54
  go_wp2_with fail
  generalize hW : World.setCell w _ _ = W1
  obtain ⟨h1, hO1⟩ : ∃ h1, Own W1 B 50 #[.slice ao n cap, .int .i64 i, .int .i64 h1] := ⟨_, by rw [← hW]; exact hO.set 2 _⟩
  have T1 : Touch w W1 [B] := by rw [← hW]; exact (Touch.of_ext (Ext.refl w) [B]).setCell (by simp) _
  clear hW c0 c1 c2 z2 hO
  have c0 : W1.cell? ⟨B, 0, none⟩ = some (.slice ao n cap) := by rw [hO1.cell]; rfl
  have c1 : W1.cell? ⟨B, 1, none⟩ = some (.int .i64 i) := by rw [hO1.cell]; rfl
  have c2 : W1.cell? ⟨B, 2, none⟩ = some (.int .i64 h1) := by rw [hO1.cell]; rfl
  have g2 := reg (Ext.refl _) c2
  refine wp_region_quiet_below (by kernel_rfl) (by kernel_rfl) ?_
  repeat (quiet_step (fail))
  refine wpQuiet_nil ?_
  clear g2
  intro _ hw'
  obtain ⟨pw, hw''⟩ := hw'
  subst hw''
  generalize hX : bits .and .i64 _ 255 = x
  rw [i64_and255] at hX
  have hx0 : 0 ≤ x := by omega
  have hx1 : x ≤ 255 := by omega
  clear hX
  have X1 := regx W1 pw
  generalize hW : «Sort».grow (redrawn W1 pw.d) pw.os = W2 at *
  clear hW
  have hO2 := hO1.ext X1
  have T2 := T1.trans (Touch.of_ext X1 [B])
  clear X1 T1 hO1 c0 c1 c2
  have c0 : W2.cell? ⟨B, 0, none⟩ = some (.slice ao n cap) := by rw [hO2.cell]; rfl
  have c1 : W2.cell? ⟨B, 1, none⟩ = some (.int .i64 i) := by rw [hO2.cell]; rfl
  have g0 := reg (Ext.refl _) c0
  have g1 := reg (Ext.refl _) c1
  by_cases hn0 : n ≤ i
  · have f0 : (n : Int) ≤ i := by omega
    have f1 : ((i : Int) < (n : Int)) = False := by simp; omega
    go_wp2_with fail
    refine wp_region_quiet_below (by kernel_rfl) (by kernel_rfl) ?_
    repeat (quiet_step (fail))
    refine wpQuiet_nil ?_
    clear g0 g1 c0 c1
    intro _ hw'
    obtain ⟨pw, hw''⟩ := hw'
    subst hw''
    have X2 := regx W2 pw
    generalize hW : «Sort».grow (redrawn W2 pw.d) pw.os = W3 at *
    go_wp2_with fail
    go_ret
    exact ⟨⟨x, rfl, hx0, hx1⟩, T2.trans (Touch.of_ext X2 [B]), ⟨i, _, hi, hO2.ext X2⟩⟩
  · have f0 : (i : Int) < (n : Int) := by omega
    rcases hz with rfl | ⟨a, rfl, hz⟩
    · omega
    obtain ⟨z, hz1, hz2, hz3⟩ := hz i (by omega)
    have hz1 := T2.cell (a := a.add i) (by
      have := hB a n cap (by omega) rfl
      have e : (a.add i).block = a.block := by unfold Addr.add; split <;> rfl
      rw [e]; simp [this]) hz1
    go_wp2_with fail
    refine wp_region_quiet_below (by kernel_rfl) (by kernel_rfl) ?_
    repeat (quiet_step (fail))
    refine wpQuiet_nil ?_
    clear g0 g1 c0 c1
    intro _ hw'
    obtain ⟨pw, hw''⟩ := hw'
    subst hw''
    have X2 := regx W2 pw
    generalize hW : «Sort».grow (redrawn W2 pw.d) pw.os = W3 at *
    clear hW
    have hO3 := hO2.ext X2
    have T3 := T2.trans (Touch.of_ext X2 [B])
    have hz1 := X2.cell hz1
    clear X2 T2 hO2
    have c0 : W3.cell? ⟨B, 0, none⟩ = some (.slice (some a) n cap) := by rw [hO3.cell]; rfl
    have c1 : W3.cell? ⟨B, 1, none⟩ = some (.int .i64 i) := by rw [hO3.cell]; rfl
    have g0 := reg (Ext.refl _) c0
    have g1 := reg (Ext.refl _) c1
    have gz := reg (Ext.refl _) hz1
    go_wp2_with fail
    refine wp_region_quiet_below (by kernel_rfl) (by kernel_rfl) ?_
    repeat (quiet_step (fail))
    refine wpQuiet_nil ?_
    clear g0 g1 c0 c1 gz
    intro _ hw'
    obtain ⟨pw, hw''⟩ := hw'
    subst hw''
    generalize hX : bits .and .i64 _ 255 = y
    rw [i64_and255] at hX
    have hy0 : 0 ≤ y := by omega
    have hy1 : y ≤ 255 := by omega
    clear hX
    have X3 := regx W3 pw
    generalize hW : «Sort».grow (redrawn W3 pw.d) pw.os = W4 at *
    clear hW
    have hO4 := hO3.ext X3
    have T4 := T3.trans (Touch.of_ext X3 [B])
    have c1 : W4.cell? ⟨B, 1, none⟩ = some (.int .i64 i) := by rw [hO4.cell]; rfl
    have z1 := hO4.frozen 1
    go_wp2_with fail
    go_ret
    exact ⟨⟨y, rfl, hy0, hy1⟩, T4.setCell (by simp) _, ⟨i + 1, _, by omega, by have := hO4.set 1 (.int .i64 ((i : Int) + 1)); simpa using this⟩⟩

theorem l1Byte_cur (B : Nat) (v : Value) (w : World) (hC : Cur w B v) (hc : Bytes w v) (hB : Off v B) :
    Calls Tryd.prog 54 #[.pointer (some ⟨B, 0, none⟩)] w fun e w' => (∃ x : Int, e = .returned (.int .i64 x) ∧ 0 ≤ x ∧ x ≤ 255) ∧ Touch w w' [B] ∧ Cur w' B v := by
  obtain ⟨i, h, hi, hO⟩ := hC
  exact l1Byte_gen B v i h w hi hO hc hB

set_option maxHeartbeats 1000000 in
theorem l1Below_cur (B : Nat) (v : Value) (n : Nat) (w : World) (hC : Cur w B v) (hc : Bytes w v) (hB : Off v B) (h0 : 0 < n) (h1 : n ≤ 4294967296) :
    Calls Tryd.prog 31 #[.pointer (some ⟨B, 0, none⟩), .int .i64 n] w fun e w' => (∃ m : Nat, e = .returned (.int .i64 m) ∧ m < n) ∧ Touch w w' [B] ∧ Cur w' B v := by
  have g0 : (0 : Int) < n := by omega
  have hnz : (n : Int) ≠ 0 := by omega
  have hne : ¬ n = 0 := by omega
  by_cases hs : n ≤ 256
  · have g1 : (n : Int) ≤ 256 := by omega
    go_enter Tryd.func31, Tryd.ntmps31
    go_wp2_with fail
    refine (l1Byte_cur B v w hC hc hB).mono ?_
    rintro e w1 ⟨⟨x, rfl, hx0, hx1⟩, hT, hC1⟩
    have hr0 : 0 ≤ x % (n : Int) := Int.emod_nonneg _ hnz
    have hr1 : x % (n : Int) < n := Int.emod_lt_of_pos _ g0
    go_wp2_with fail
    go_ret
    exact ⟨⟨(x % (n : Int)).toNat, by rw [Int.toNat_of_nonneg hr0]; rfl, by omega⟩, hT, hC1⟩
  · have g1 : (256 : Int) < n := by omega
    go_enter Tryd.func31, Tryd.ntmps31
    go_wp2_with fail
    refine (l1Byte_cur B v w hC hc hB).mono ?_
    rintro e w1 ⟨⟨x, rfl, hx0, hx1⟩, hT, hC1⟩
    go_wp2_with fail
    refine (l1Byte_cur B v w1 hC1 (hc.touch hT hB) hB).mono ?_
    rintro e w2 ⟨⟨y, rfl, hy0, hy1⟩, hT2, hC2⟩
    replace hT := hT.trans hT2
    go_wp2_with fail
    refine (l1Byte_cur B v w2 hC2 (hc.touch hT hB) hB).mono ?_
    rintro e w3 ⟨⟨z, rfl, hz0, hz1⟩, hT3, hC3⟩
    replace hT := hT.trans hT3
    go_wp2_with fail
    refine (l1Byte_cur B v w3 hC3 (hc.touch hT hB) hB).mono ?_
    rintro e w4 ⟨⟨u, rfl, hu0, hu1⟩, hT4, hC4⟩
    replace hT := hT.trans hT4
    have hr0 : 0 ≤ (x * 16777216 + y * 65536 + z * 256 + u) % (n : Int) := Int.emod_nonneg _ hnz
    have hr1 : (x * 16777216 + y * 65536 + z * 256 + u) % (n : Int) < n := Int.emod_lt_of_pos _ g0
    go_wp2_with fail
    go_ret
    exact ⟨⟨((x * 16777216 + y * 65536 + z * 256 + u) % (n : Int)).toNat, by rw [Int.toNat_of_nonneg hr0]; rfl, by omega⟩, hT, hC4⟩

def wholesL : List Int := [0, 1, -1, 9, 10, 999999, 1000000, 999999999999, 1000000000000, -999999999999, 9223372036854775807, -9223372036854775808]

theorem lit_ints (w : World) (l : List Int) (e : TypeId) : ∀ i z, l[i]? = some z → (w.alloc (.cells (l.map (Value.int .i64)).toArray e)).cell? ⟨w.heap.size, i, none⟩ = some (.int .i64 z) := fun i z h => by
  rw [(own_new w _ e).cell]; simp [h]
theorem lit_strs (w : World) (l : List ByteArray) (e : TypeId) : ∀ i z, l[i]? = some z → (w.alloc (.cells (l.map Value.string).toArray e)).cell? ⟨w.heap.size, i, none⟩ = some (.string z) := fun i z h => by
  rw [(own_new w _ e).cell]; simp [h]

theorem off_new {v : Value} {w : World} {B : Nat} (hc : Bytes w v) (hB : w.heap.size ≤ B) : Off v B := fun a n cap hn hv e => by
  obtain ⟨ao, n', cap', hv', hn', hz⟩ := hc
  rw [hv'] at hv
  simp only [Value.slice.injEq] at hv
  obtain ⟨rfl, rfl, rfl⟩ := hv
  rcases hz with rfl | ⟨a', ha', hz⟩
  · omega
  · obtain rfl : a = a' := by simpa using ha'
    obtain ⟨z, hz1, -⟩ := hz 0 hn
    rw [addr_zero] at hz1
    have := lt_of_cell hz1
    omega

end Go.Proofs.YtkajinmknhnpkaaDoor
