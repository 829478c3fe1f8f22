/-
  THE LAWS' MARKS: a result's memory is written over and read again.
  Conditions: those that each lemma states.
-/
import Derived.Test.YticdmbmjlaomiaaGreatDoorRows
import Derived.Test.YticdmbmjlaomiaaGreatDoorLem
namespace Go.Proofs.YticdmbmjlaomiaaGreatDoor
open Go.RowKit
set_option linter.unusedSimpArgs false
set_option linter.unusedVariables false

/-- Blocks of fp alone have been written. -/
structure Touch (w w' : World) (fp : List Nat) : Prop where
  os : w'.os = w.os
  tape : w'.tape = w.tape
  output : w'.output = w.output
  size : w.heap.size ≤ w'.heap.size
  block : ∀ k, k < w.heap.size → k ∉ fp → w'.heap[k]? = w.heap[k]?
theorem Touch.of_ext {w w' : World} (h : Ext w w') (fp : List Nat) : Touch w w' fp := ⟨h.os, h.tape, h.output, h.size, fun k hk _ => h.block k hk⟩
theorem Touch.trans {a b c : World} {fp : List Nat} (h : Touch a b fp) (k : Touch b c fp) : Touch a c fp :=
  ⟨k.os.trans h.os, k.tape.trans h.tape, k.output.trans h.output, Nat.le_trans h.size k.size, fun i hi hn => (k.block i (Nat.lt_of_lt_of_le hi h.size) hn).trans (h.block i hi hn)⟩
theorem Touch.setCell {a w : World} {fp : List Nat} (h : Touch a w fp) {b o : Nat} (hb : b ∈ fp) (v : Value) : Touch a (w.setCell ⟨b, o, none⟩ v) fp :=
  h.trans ⟨rfl, rfl, rfl, by simp [World.setCell], fun k hk hn => heap_setCell_other w ⟨b, o, none⟩ k v (show k ≠ b from fun e => hn (e ▸ hb))⟩
theorem Touch.ext {w w1 w2 : World} {fp : List Nat} (h : Ext w w1) (k : Touch w1 w2 fp) (hf : ∀ b, b ∈ fp → w.heap.size ≤ b) : Ext w w2 :=
  ⟨k.os.trans h.os, k.tape.trans h.tape, k.output.trans h.output, Nat.le_trans h.size k.size, fun i hi => (k.block i (Nat.lt_of_lt_of_le hi h.size) fun hm => by have := hf i hm; omega).trans (h.block i hi)⟩
theorem RepF.touch {w w' : World} {d : D} {cs : List Value} {fp gp : List Nat} (h : RepF w d cs gp) (k : Touch w w' fp) (hd : ∀ b, b ∈ gp → b ∉ fp) : RepF w' d cs gp :=
  h.keep d fun b hb => k.block b (h.lt d b hb) (hd b hb)

/-- What markText writes. -/
def mdig : Nat → Nat → List UInt8 → List UInt8
  | 0, _, acc => acc
  | f + 1, k, acc => if k = 0 then acc else mdig f (k / 10) (UInt8.ofNat (48 + k % 10) :: acc)
def mtext (k : Int) : ByteArray := if k ≤ 0 then ⟨#[109, 48]⟩ else ⟨(109 :: mdig (k.toNat + 1) k.toNat []).toArray⟩
theorem mdig_fuel : ∀ (f k : Nat) (acc : List UInt8), k < f → mdig f k acc = mdig (k + 1) k acc
  | 0, k, acc, h => by omega
  | f + 1, k, acc, h => by
    by_cases h0 : k = 0
    · subst h0; simp [mdig]
    · rw [mdig, if_neg h0, mdig, if_neg h0, mdig_fuel f (k / 10) _ (by omega), mdig_fuel k (k / 10) _ (by omega)]

set_option maxHeartbeats 400000 in
theorem markText_any (k0 : Int) (w : World) (h0 : 0 ≤ k0) (h1 : k0 ≤ 4611686018427387904) : Calls Tryz.prog 184 #[.int .i64 k0] w fun e w' => e = .returned (.string (mtext k0)) ∧ Ext w w' := by
  go_enter Tryz.func184, Tryz.ntmps184
  by_cases hk : k0 ≤ 0
  · go_wp2_with fail
    go_ret
    exact ⟨ret_str (by rw [mtext, if_pos hk]), Ext.refl _⟩
  go_wp2_with fail
  go_loopw [0, 3] (fun kv ov wr => ∃ (k : Nat) (acc : List UInt8), kv = .int .i64 k ∧ acc.length + k ≤ 4611686018427387904 ∧ ov = .string ⟨acc.toArray⟩ ∧ Ext w wr ∧ Hid (mdig (k + 1) k acc = mdig (k0.toNat + 1) k0.toNat [])) (fun kv _ _ => (intOf kv).toNat)
  case atStart => exact ⟨k0.toNat, [], by rw [Int.toNat_of_nonneg h0], by simp only [List.length_nil]; omega, rfl, Ext.refl _, Lib.hid rfl⟩
  case round =>
    obtain ⟨k, acc, rfl, hk1, rfl, hx, hR⟩ := hrel
    by_cases hz : (0 : Int) < k
    · have hcv : ∀ W : World, W.cell? ⟨wr.heap.size, 0, none⟩ = some (.int .u8 (48 + (k : Int) % 10)) → (convert 281 9 (.slice (some ⟨wr.heap.size, 0, none⟩) 1 1)).run Tryz.prog W = .ok (.string (strOfNums [48 + (k : Int) % 10])) W := fun W h =>
        run_convert_bytes_arg (P := Tryz.prog) W 281 5 Tryz.underlying281 Tryz.underlying5 wr.heap.size 0 1 1 [48 + (k : Int) % 10] rfl (fun i hi => by
          obtain rfl : i = 0 := by omega
          exact h) 9 Tryz.underlying9
      have hcv := hcv (wr.alloc (.cells #[.int .u8 (48 + (k : Int) % 10)] 5)) (by simp)
      have hsz : ¬ 9223372036854775807 < (strOfNums [48 + (k : Int) % 10]).size + (⟨acc.toArray⟩ : ByteArray).size := by
        have e1 : (⟨acc.toArray⟩ : ByteArray).size = acc.length := by simp [ByteArray.size]
        rw [strOfNums_size, e1]; simp; omega
      set_option maxRecDepth 100000 in
      go_wp2_with fail
      clear hcv hsz
      go_roundw
      case rel =>
        refine ⟨k / 10, UInt8.ofNat (48 + k % 10) :: acc, by go_num, by simp; omega, ?_, hx.alloc _, Lib.hid ?_⟩
        · have : strOfNums [48 + (k : Int) % 10] ++ (⟨acc.toArray⟩ : ByteArray) = ⟨(UInt8.ofNat (48 + k % 10) :: acc).toArray⟩ := by
            simp only [strOfNums, List.map_cons, List.map_nil]
            rw [show (48 + (k : Int) % 10).toNat = 48 + k % 10 from by omega]
            apply ByteArray.ext
            simp
          rw [this]
        · have : mdig (k + 1) k acc = mdig (k / 10 + 1) (k / 10) (UInt8.ofNat (48 + k % 10) :: acc) := by
            rw [mdig, if_neg (by omega), mdig_fuel k (k / 10) _ (by omega)]
          rw [← hR.out, this]
      case measure => simp [intOf]; omega
    · have hsz : ¬ 9223372036854775807 < 1 + (⟨acc.toArray⟩ : ByteArray).size := by
        have e1 : (⟨acc.toArray⟩ : ByteArray).size = acc.length := by simp [ByteArray.size]
        rw [e1]; omega
      go_wp2_with fail
      go_ret
      obtain rfl : k = 0 := by omega
      have hr := hR.out
      rw [show mdig (0 + 1) 0 acc = acc from by simp [mdig]] at hr
      refine ⟨ret_str ?_, hx⟩
      rw [mtext, if_neg (by omega), ← hr]
      apply ByteArray.ext
      simp

/-- The marks of n texts. -/
def markL (k : Int) : Nat → List ByteArray
  | 0 => []
  | n + 1 => markL k n ++ [mtext (k + n)]
theorem markL_length (k : Int) : ∀ n, (markL k n).length = n
  | 0 => rfl
  | n + 1 => by simp [markL, markL_length k n]
theorem markL_get (k : Int) : ∀ n i, i < n → (markL k n)[i]? = some (mtext (k + i))
  | 0, i, h => by omega
  | n + 1, i, h => by
    rw [markL]
    by_cases hi : i < n
    · rw [List.getElem?_append_left (by rw [markL_length]; exact hi), markL_get k n i hi]
    · obtain rfl : i = n := by omega
      rw [List.getElem?_append_right (by rw [markL_length]; omega), markL_length]; simp

theorem repR_strs_inv {w : World} : ∀ {l : List ByteArray} {cells : List Value} {fp : List Nat}, RepR w 1 (l.map D.str) cells fp → cells = l.map Value.string ∧ fp = []
  | [], cells, fp, h => by simpa [RepR] using h
  | s :: l, cells, fp, h => by
    simp only [List.map_cons, RepR, RepF] at h
    obtain ⟨c1, c2, f1, f2, rfl, rfl, -, ⟨rfl, rfl⟩, h⟩ := h
    obtain ⟨rfl, rfl⟩ := repR_strs_inv h
    exact ⟨rfl, rfl⟩

/-- A slice of texts, opened with its footprint. -/
theorem RepF.strs_own {w : World} {l : List ByteArray} {v : Value} {fp : List Nat} (h : RepF w (strs l) [v] fp) (ho : ∀ b, b ∈ fp → ∃ C e, Own w b e C) :
    ∃ ao cap, v = .slice ao l.length cap ∧ l.length ≤ cap ∧ cap ≤ maxLen ∧ ((l = [] ∧ fp = []) ∨ ∃ b o C e, l ≠ [] ∧ ao = some ⟨b, o, none⟩ ∧ fp = [b] ∧ Own w b e C ∧ o + l.length ≤ C.size) := by
  obtain ⟨ao, cap, hv, hl, hm, -, h⟩ := RepF.sl_iff.1 h
  simp only [List.length_map, List.cons.injEq, and_true] at hv hl
  refine ⟨ao, cap, hv, hl, hm, ?_⟩
  rcases h with ⟨h1, h2⟩ | ⟨b, o, cells, fp', h1, h2, rfl, hb, h4, h5⟩
  · exact Or.inl ⟨by simpa using h1, h2⟩
  · obtain ⟨rfl, rfl⟩ := repR_strs_inv h5
    obtain ⟨C, e, hO⟩ := ho b List.mem_cons_self
    have hne : l ≠ [] := by simpa using h1
    refine Or.inr ⟨b, o, C, e, hne, h2, rfl, hO, ?_⟩
    have hpos : 0 < l.length := by cases l with | nil => exact absurd rfl hne | cons _ _ => simp
    have := h4 (l.length - 1) (.string (l[l.length - 1]'(by omega))) (by simp [hpos])
    rw [hO.cell] at this
    have := (Array.getElem?_eq_some_iff.1 this).1
    omega

/-- .. and shut again. -/
theorem RepF.strs_mk {w : World} {l : List ByteArray} {b o cap : Nat} (hl : l.length ≤ cap) (hm : cap ≤ maxLen) (h0 : l ≠ []) (hb : b < w.heap.size) (hc : ∀ i s, l[i]? = some s → w.cell? ⟨b, o + i, none⟩ = some (.string s)) :
    RepF w (strs l) [.slice (some ⟨b, o, none⟩) l.length cap] [b] := by
  refine RepF.sl_iff.2 ⟨_, cap, by simp, by simpa using hl, hm, by simp, Or.inr ⟨b, o, l.map Value.string, [], by simpa using h0, rfl, rfl, hb, fun j c hj => ?_, repR_strs w l⟩⟩
  rw [List.getElem?_map, Option.map_eq_some_iff] at hj
  obtain ⟨s, hs, rfl⟩ := hj
  exact hc j s hs

def MarkPost (w : World) (d' : D) (v : Value) (fp : List Nat) (k' : Int) (e : Ending) (w' : World) : Prop :=
  e = .returned (.int .i64 k') ∧ RepF w' d' [v] fp ∧ (∀ b, b ∈ fp → ∃ C e, Own w' b e C) ∧ Touch w w' fp

set_option maxHeartbeats 1000000 in
theorem markStringS_any (l : List ByteArray) (v : Value) (fp : List Nat) (k0 : Int) (w : World) (hr : RepF w (strs l) [v] fp) (ho : ∀ b, b ∈ fp → ∃ C e, Own w b e C) (h0 : 0 ≤ k0) (h1 : k0 + l.length ≤ 1099511627776) :
    Calls Tryz.prog 103 #[v, .int .i64 k0] w (MarkPost w (strs (markL k0 l.length)) v fp (k0 + l.length)) := by
  obtain ⟨ao, cap, rfl, hl, hm, h⟩ := hr.strs_own ho
  rcases h with ⟨rfl, rfl⟩ | ⟨b, o, C, e, hne, rfl, rfl, hO, hsz⟩
  · go_enter Tryz.func103, Tryz.ntmps103
    go_wp2_with fail
    refine wp_loop_rounds 1 ?_
    rw [rounds_succ]
    go_wp2_with fail
    go_ret
    exact ⟨ret_int (by simp), hr, ho, Touch.of_ext (Ext.refl _) _⟩
  · have hpos : 0 < l.length := by cases l with | nil => exact absurd rfl hne | cons _ _ => simp
    clear hr ho
    unfold maxLen at hm
    go_enter Tryz.func103, Tryz.ntmps103
    go_wp2_with fail
    go_loopw [1, 5] (fun kv iv wr => ∃ (i : Nat) (C' : Array Value), i ≤ l.length ∧ iv = .int .i64 i ∧ kv = .int .i64 (k0 + i) ∧ Own wr b e C' ∧ Touch w wr [b] ∧ Hid (C'.size = C.size ∧ ∀ j, j < i → C'[o + j]? = some (.string (mtext (k0 + j))))) (fun _ iv _ => l.length - (intOf iv).toNat)
    case atStart => exact ⟨0, C, Nat.zero_le _, rfl, by go_num, hO, Touch.of_ext (Ext.refl _) _, Lib.hid ⟨rfl, fun j hj => by omega⟩⟩
    case round =>
      obtain ⟨i, C', hi, rfl, rfl, hO', hT, hR⟩ := hrel
      by_cases hlt : i < l.length
      · go_wp2_with fail
        refine (markText_any (k0 + i) _ (by omega) (by omega)).mono ?_
        rintro e2 w2 ⟨rfl, hx2⟩
        have hO2 := hO'.ext hx2
        obtain ⟨v0, c0⟩ := hO2.some (o + i) (by have := hR.out.1; omega)
        have f0 := hO2.frozen (o + i)
        go_wp2_with fail
        clear c0 f0
        go_roundw
        case rel =>
          refine ⟨i + 1, C'.setIfInBounds (o + i) (.string (mtext (k0 + i))), by omega, by go_num, by go_num, hO2.set _ _, (hT.trans (Touch.of_ext hx2 _)).setCell (by simp) _, Lib.hid ⟨by simp [hR.out.1], fun j hj => ?_⟩⟩
          by_cases hj2 : j < i
          · rw [Array.getElem?_setIfInBounds, if_neg (by omega)]; exact hR.out.2 j hj2
          · obtain rfl : j = i := by omega
            rw [Array.getElem?_setIfInBounds, if_pos rfl, if_pos (by have := hR.out.1; omega)]
        case measure => simp [intOf]; omega
      · go_wp2_with fail
        go_ret
        obtain rfl : i = l.length := by omega
        refine ⟨rfl, ?_, fun b' hb' => by simp at hb'; subst hb'; exact ⟨_, _, hO'⟩, hT⟩
        have hL := markL_length k0 l.length
        have hk := RepF.strs_mk (w := wr) (l := markL k0 l.length) (b := b) (o := o) (cap := cap) (by omega) (by unfold maxLen; omega) (by intro h; rw [h] at hL; simp at hL; omega) hO'.lt (fun j s hs => by
          have hj : j < l.length := by have := (List.getElem?_eq_some_iff.1 hs).1; omega
          rw [markL_get k0 _ j hj] at hs
          injection hs with hs
          subst hs
          rw [hO'.cell]; exact hR.out.2 j hj)
        rwa [hL] at hk

set_option maxHeartbeats 1000000 in
theorem heldStringS_any (n : Nat) (v : Value) (k0 : Int) (w : World) (hr : Rep w (strs (markL k0 n)) [v]) (h0 : 0 ≤ k0) (h1 : k0 + n ≤ 1099511627776) :
    Calls Tryz.prog 105 #[v, .int .i64 k0] w fun e w' => e = .returned (.int .i64 (k0 + n)) ∧ Ext w w' := by
  obtain ⟨ao, ca, ba, oa, e1, hla, hma, pa, ha⟩ := hr.strs
  simp only [List.cons.injEq, and_true] at e1
  subst e1
  clear hr
  rw [markL_length] at hla pa ⊢
  unfold maxLen at hma
  go_enter Tryz.func105, Tryz.ntmps105
  go_wp2_with fail
  go_loopw [1, 5] (fun kv iv wr => ∃ i : Nat, i ≤ n ∧ iv = .int .i64 i ∧ kv = .int .i64 (k0 + i) ∧ Ext w wr) (fun _ iv _ => n - (intOf iv).toNat)
  case atStart => exact ⟨0, Nat.zero_le _, rfl, by go_num, Ext.refl _⟩
  case round =>
    obtain ⟨i, hi, rfl, rfl, hx⟩ := hrel
    by_cases hlt : i < n
    · obtain rfl := pa (by omega)
      have a0 := reg hx (ha i _ (markL_get k0 n i hlt))
      have ht := str_eqn (rfl : mtext (k0 + i) = mtext (k0 + i))
      clear ha pa
      go_wp2_with fail
      refine wp_region_quiet_below (by kernel_rfl) (by kernel_rfl) ?_
      repeat (quiet_step (exact Calls.regrown_of (markText_any _ _ (by omega) (by omega))))
      refine wpQuiet_nil ?_
      clear a0
      intro _ hw'
      obtain ⟨pw, hw''⟩ := hw'
      subst hw''
      go_wp2_with fail
      go_roundw
      case rel => exact ⟨i + 1, by omega, by go_num, by go_num, hx.trans (regx _ _)⟩
      case measure => simp [intOf]; omega
    · go_wp2_with fail
      go_ret
      obtain rfl : i = n := by omega
      exact ⟨rfl, hx⟩

end Go.Proofs.YticdmbmjlaomiaaGreatDoor
