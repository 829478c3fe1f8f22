/-
  THE LAWS' MARKS of tokens: a result's memory is written over and read again.
  Conditions: those that each lemma states.
-/
import Derived.Test.YteecolhljoeofaaDoorRows
import Derived.Test.YteecolhljoeofaaDoorMark
import Derived.Test.YteecolhljoeofaaDoorTypes
namespace Go.Proofs.YteecolhljoeofaaDoor
open Go.RowKit
set_option linter.unusedSimpArgs false
set_option linter.unusedVariables false

def tmark (k : Int) : MToken := ⟨k, mtext (k + 1), k + 2⟩
/-- The marks of n tokens. -/
def tmarks (k : Int) : Nat → List MToken
  | 0 => []
  | n + 1 => tmarks k n ++ [tmark (k + 3 * n)]
theorem tmarks_length (k : Int) : ∀ n, (tmarks k n).length = n
  | 0 => rfl
  | n + 1 => by simp [tmarks, tmarks_length k n]
theorem tmarks_get (k : Int) : ∀ n i, i < n → (tmarks k n)[i]? = some (tmark (k + 3 * i))
  | 0, i, h => by omega
  | n + 1, i, h => by
    rw [tmarks]
    by_cases hi : i < n
    · rw [List.getElem?_append_left (by rw [tmarks_length]; exact hi), tmarks_get k n i hi]
    · obtain rfl : i = n := by omega
      rw [List.getElem?_append_right (by rw [tmarks_length]; omega), tmarks_length]; simp
def tcells : List MToken → List Value
  | [] => []
  | x :: l => .int .i64 x.kind :: .string x.text :: .int .i64 x.number :: tcells l
theorem repR_toks (w : World) : ∀ l : List MToken, RepR w 3 (l.map MToken.d) (tcells l) []
  | [] => by simp [RepR, tcells]
  | x :: l => by
    simp only [List.map_cons, RepR]
    exact ⟨[.int .i64 x.kind, .string x.text, .int .i64 x.number], _, [], [], rfl, rfl, rfl, MToken.shut, repR_toks w l⟩
theorem repR_toks_inv {w : World} : ∀ {l : List MToken} {cells : List Value} {fp : List Nat}, RepR w 3 (l.map MToken.d) cells fp → cells = tcells l ∧ fp = []
  | [], cells, fp, h => by simpa [RepR, tcells] using h
  | x :: l, cells, fp, h => by
    simp only [List.map_cons, RepR] at h
    obtain ⟨c1, c2, f1, f2, rfl, rfl, -, h1, h⟩ := h
    obtain ⟨rfl, rfl⟩ := repR_toks_inv h
    rw [MToken.d_eq] at h1
    simp only [RepF, RepS] at h1
    obtain ⟨_, _, _, _, rfl, rfl, ⟨rfl, rfl⟩, _, _, _, _, rfl, rfl, ⟨rfl, rfl⟩, _, _, _, _, rfl, rfl, ⟨rfl, rfl⟩, rfl, rfl⟩ := h1
    exact ⟨rfl, rfl⟩
theorem tcells_length : ∀ l : List MToken, (tcells l).length = 3 * l.length
  | [] => rfl
  | x :: l => by simp [tcells, tcells_length l]; omega
theorem tcells_get : ∀ (l : List MToken) (j : Nat) (c : Value), (tcells l)[j]? = some c → ∃ i x, l[i]? = some x ∧ ((j = 3 * i ∧ c = .int .i64 x.kind) ∨ (j = 3 * i + 1 ∧ c = .string x.text) ∨ (j = 3 * i + 2 ∧ c = .int .i64 x.number))
  | [], j, c, h => by simp [tcells] at h
  | x :: l, 0, c, h => by simp [tcells] at h; exact ⟨0, x, by simp, Or.inl ⟨rfl, h.symm⟩⟩
  | x :: l, 1, c, h => by simp [tcells] at h; exact ⟨0, x, by simp, Or.inr (Or.inl ⟨rfl, h.symm⟩)⟩
  | x :: l, 2, c, h => by simp [tcells] at h; exact ⟨0, x, by simp, Or.inr (Or.inr ⟨rfl, h.symm⟩)⟩
  | x :: l, j + 3, c, h => by
    have h' : (tcells l)[j]? = some c := by simpa [tcells] using h
    obtain ⟨i, y, hy, hc⟩ := tcells_get l j c h'
    refine ⟨i + 1, y, by simpa using hy, ?_⟩
    rcases hc with ⟨rfl, e⟩ | ⟨rfl, e⟩ | ⟨rfl, e⟩
    · exact Or.inl ⟨by omega, e⟩
    · exact Or.inr (Or.inl ⟨by omega, e⟩)
    · exact Or.inr (Or.inr ⟨by omega, e⟩)

set_option maxHeartbeats 1000000 in
theorem markTokenS_any (l : List MToken) (v : Value) (fp : List Nat) (k0 : Int) (w : World) (hr : RepF w (MTokens l) [v] fp) (ho : ∀ b, b ∈ fp → ∃ C e, Own w b e C) (h0 : 0 ≤ k0) (h1 : k0 + 3 * l.length ≤ 1099511627776) :
    Calls Tryd.prog 11 #[v, .int .i64 k0] w (MarkPost w (MTokens (tmarks k0 l.length)) v fp (k0 + 3 * l.length)) := by
  obtain ⟨ao, cap, hv, hl, hm, hn, h⟩ := RepF.sl_iff.1 hr
  simp only [List.cons.injEq, and_true, List.length_map] at hv hl
  subst hv
  rcases h with ⟨h, rfl⟩ | ⟨b, o, cells, fp', hne, rfl, rfl, hb, h4, h5⟩
  · obtain rfl : l = [] := by simpa using h
    go_enter Tryd.func11, Tryd.ntmps11
    go_wp2_with fail
    refine wp_loop_rounds 1 ?_
    rw [rounds_succ]
    go_wp2_with fail
    go_ret
    exact ⟨ret_int (by simp), hr, ho, Touch.of_ext (Ext.refl _) _⟩
  · have hpos : 0 < l.length := by cases l with | nil => exact absurd rfl hne | cons _ _ => simp
    obtain ⟨C, e, hO⟩ := ho b (by simp)
    obtain ⟨rfl, rfl⟩ := repR_toks_inv h5
    have hsz : o + l.length * 3 ≤ C.size := by
      have hj : l.length * 3 - 1 < (tcells l).length := by rw [tcells_length]; omega
      have h6 := h4 (l.length * 3 - 1) _ (List.getElem?_eq_getElem hj)
      rw [hO.cell] at h6
      have := (Array.getElem?_eq_some_iff.1 h6).1
      omega
    clear hr ho h4 h5 hn hne hb
    have HM := Lib.hid hm
    unfold maxLen at hm
    go_enter Tryd.func11, Tryd.ntmps11
    go_wp2_with fail
    go_loopw [1, 5] (fun kv iv wr => ∃ (i : Nat) (C' : Array Value), i ≤ l.length ∧ iv = .int .i64 i ∧ kv = .int .i64 (k0 + 3 * i) ∧ Own wr b e C' ∧ Touch w wr [b] ∧ C'.size = C.size ∧ Hid (∀ j, j < i → C'[o + j * 3]? = some (.int .i64 (k0 + 3 * j)) ∧ C'[o + j * 3 + 1]? = some (.string (mtext (k0 + 3 * j + 1))) ∧ C'[o + j * 3 + 2]? = some (.int .i64 (k0 + 3 * j + 2)))) (fun _ iv _ => l.length - (intOf iv).toNat)
    case atStart => exact ⟨0, C, Nat.zero_le _, rfl, by go_num, hO, Touch.of_ext (Ext.refl _) _, rfl, Lib.hid fun j hj => by omega⟩
    case round =>
      obtain ⟨i, C', hi, rfl, rfl, hO', hT, hS, hR⟩ := hrel
      by_cases hlt : i < l.length
      · obtain ⟨v0, c0⟩ := hO'.some (o + i * 3) (by omega)
        have f0 := hO'.frozen (o + i * 3)
        go_wp2_with fail
        refine (markText_any _ _ (by omega) (by omega)).mono ?_
        rintro e2 w2 ⟨rfl, hx2⟩
        have hO2 := (hO'.set (o + i * 3) (.int .i64 (k0 + 3 * i))).ext hx2
        have hT2 := (hT.setCell (b := b) (o := o + i * 3) (by simp) (.int .i64 (k0 + 3 * i))).trans (Touch.of_ext hx2 _)
        obtain ⟨v1, c1⟩ := hO2.some (o + i * 3 + 1) (by simp; omega)
        obtain ⟨v2, c2⟩ := hO2.some (o + i * 3 + 2) (by simp; omega)
        have f1 := hO2.frozen (o + i * 3 + 1)
        have f2 := hO2.frozen (o + i * 3 + 2)
        clear c0 f0
        go_wp2_with fail
        clear c1 c2 f1 f2
        go_roundw
        case rel =>
          refine ⟨i + 1, ((C'.setIfInBounds (o + i * 3) (.int .i64 (k0 + 3 * i))).setIfInBounds (o + i * 3 + 1) (.string (mtext (k0 + 3 * i + 1)))).setIfInBounds (o + i * 3 + 2) (.int .i64 (k0 + 3 * i + 2)), by omega, by go_num, by go_num, ?_, ?_, by simp [hS], Lib.hid fun j hj => ?_⟩
          · have := (hO2.set (o + i * 3 + 1) (.string (mtext (k0 + 3 * i + 1)))).set (o + i * 3 + 2) (.int .i64 (k0 + 3 * i + 2))
            simpa [Int.add_assoc] using this
          · have := (hT2.setCell (b := b) (o := o + i * 3 + 1) (by simp) (.string (mtext (k0 + 3 * i + 1)))).setCell (b := b) (o := o + i * 3 + 2) (by simp) (.int .i64 (k0 + 3 * i + 2))
            simpa [Int.add_assoc] using this
          · by_cases hj2 : j < i
            · obtain ⟨r0, r1, r2⟩ := hR.out j hj2
              refine ⟨?_, ?_, ?_⟩
              · rw [Array.getElem?_setIfInBounds, if_neg (by omega), Array.getElem?_setIfInBounds, if_neg (by omega), Array.getElem?_setIfInBounds, if_neg (by omega)]; exact r0
              · rw [Array.getElem?_setIfInBounds, if_neg (by omega), Array.getElem?_setIfInBounds, if_neg (by omega), Array.getElem?_setIfInBounds, if_neg (by omega)]; exact r1
              · rw [Array.getElem?_setIfInBounds, if_neg (by omega), Array.getElem?_setIfInBounds, if_neg (by omega), Array.getElem?_setIfInBounds, if_neg (by omega)]; exact r2
            · obtain rfl : j = i := by omega
              refine ⟨?_, ?_, ?_⟩
              · rw [Array.getElem?_setIfInBounds, if_neg (by omega), Array.getElem?_setIfInBounds, if_neg (by omega), Array.getElem?_setIfInBounds, if_pos rfl, if_pos (by omega)]
              · rw [Array.getElem?_setIfInBounds, if_neg (by omega), Array.getElem?_setIfInBounds, if_pos rfl, if_pos (by simp; omega)]
              · rw [Array.getElem?_setIfInBounds, if_pos rfl, if_pos (by simp; omega)]
        case measure => simp [intOf]; omega
      · go_wp2_with fail
        go_ret
        obtain rfl : i = l.length := by omega
        refine ⟨rfl, ?_, fun b' hb' => by simp at hb'; subst hb'; exact ⟨_, _, hO'⟩, hT⟩
        have hL := tmarks_length k0 l.length
        refine RepF.sl_iff.2 ⟨_, cap, by simp [hL], by simpa [hL] using hl, HM.out, by simp, Or.inr ⟨b, o, tcells (tmarks k0 l.length), [], ?_, rfl, rfl, hO'.lt, fun j c hj => ?_, repR_toks wr _⟩⟩
        · intro h
          have := congrArg List.length h
          rw [List.length_map, hL, List.length_nil] at this
          omega
        · obtain ⟨i, x, hx, hc⟩ := tcells_get _ _ _ hj
          have hi : i < l.length := by have := (List.getElem?_eq_some_iff.1 hx).1; omega
          rw [tmarks_get k0 _ i hi] at hx
          injection hx with hx
          subst hx
          obtain ⟨r0, r1, r2⟩ := hR.out i hi
          rw [hO'.cell]
          rcases hc with ⟨rfl, rfl⟩ | ⟨rfl, rfl⟩ | ⟨rfl, rfl⟩
          · rw [Nat.mul_comm]; exact r0
          · rw [← Nat.add_assoc, Nat.mul_comm]; exact r1
          · rw [← Nat.add_assoc, Nat.mul_comm]; exact r2

set_option maxHeartbeats 1000000 in
theorem heldTokenS_any (n : Nat) (v : Value) (k0 : Int) (w : World) (hr : Rep w (MTokens (tmarks k0 n)) [v]) (h0 : 0 ≤ k0) (h1 : k0 + 3 * n ≤ 1099511627776) :
    Calls Tryd.prog 12 #[v, .int .i64 k0] w fun e w' => e = .returned (.int .i64 (k0 + 3 * n)) ∧ Ext w w' := by
  obtain ⟨ao, ca, ba, oa, e1, hla, hma, pa, ha⟩ := Rep.slmap hr
  simp only [List.cons.injEq, and_true] at e1
  subst e1
  clear hr
  rw [tmarks_length] at hla pa ⊢
  unfold maxLen at hma
  go_enter Tryd.func12, Tryd.ntmps12
  go_wp2_with fail
  go_loopw [1, 5] (fun kv iv wr => ∃ i : Nat, i ≤ n ∧ iv = .int .i64 i ∧ kv = .int .i64 (k0 + 3 * i) ∧ Ext w wr) (fun _ iv _ => n - (intOf iv).toNat)
  case atStart => exact ⟨0, Nat.zero_le _, rfl, by go_num, Ext.refl _⟩
  case round =>
    obtain ⟨i, hi, rfl, rfl, hx⟩ := hrel
    by_cases hlt : i < n
    · obtain rfl := pa (by omega)
      obtain ⟨ea, la, cc, ra⟩ := ha i _ (tmarks_get k0 n i hlt)
      obtain rfl := MToken.op_en ra
      have q0 : w.cell? ⟨ba, oa + i * 3, none⟩ = some (.int .i64 (k0 + 3 * i)) := cc 0 (by omega)
      have q1 : w.cell? ⟨ba, oa + i * 3 + 1, none⟩ = some (.string (mtext (k0 + 3 * i + 1))) := cc 1 (by omega)
      have q2 : w.cell? ⟨ba, oa + i * 3 + 2, none⟩ = some (.int .i64 (k0 + 3 * i + 2)) := cc 2 (by omega)
      have a0 := hx.cell q0
      have a1 := reg hx q1
      have a2 := hx.cell q2
      have t0 := int_eqn (rfl : k0 + 3 * (i : Int) = k0 + 3 * i)
      have ht := str_eqn (rfl : mtext (k0 + 3 * i + 1) = mtext (k0 + 3 * i + 1))
      have t2 := int_eqn (rfl : k0 + 3 * (i : Int) + 2 = k0 + 3 * i + 2)
      clear ha pa la cc ra q0 q1 a2
      go_wp2_with fail
      refine wp_region_quiet_below (by kernel_rfl) (by kernel_rfl) ?_
      repeat (quiet_step (exact Calls.regrown_of (markText_any _ _ (by omega) (by omega))))
      refine wpQuiet_nil ?_
      clear a0 a1
      intro _ hw'
      obtain ⟨pw, hw''⟩ := hw'
      subst hw''
      have X1 := hx.trans (regx wr pw)
      generalize hW2 : «Sort».grow (redrawn wr pw.d) pw.os = W2 at *
      clear hW2
      have a2 := X1.cell q2
      go_wp2_with fail
      go_roundw
      case rel => exact ⟨i + 1, by omega, by go_num, by go_num, X1⟩
      case measure => simp [intOf]; omega
    · go_wp2_with fail
      go_ret
      obtain rfl : i = n := by omega
      exact ⟨rfl, hx⟩

end Go.Proofs.YteecolhljoeofaaDoor
