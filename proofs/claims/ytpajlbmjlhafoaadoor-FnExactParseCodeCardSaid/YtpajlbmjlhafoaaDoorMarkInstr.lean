/-
  THE LAWS' MARKS of instructions: a result's memory is written over and read again.
  Conditions: those that each lemma states.
-/
import Derived.Test.YtpajlbmjlhafoaaDoorRows
import Derived.Test.YtpajlbmjlhafoaaDoorMark
import Derived.Test.YtpajlbmjlhafoaaDoorTypes
namespace Go.Proofs.YtpajlbmjlhafoaaDoor
open Go.RowKit
set_option linter.unusedSimpArgs false
set_option linter.unusedVariables false

def imark (k : Int) : MInstr := ⟨k, k + 1, k + 2, mtext (k + 3)⟩
/-- The marks of n instructions. -/
def imarks (k : Int) : Nat → List MInstr
  | 0 => []
  | n + 1 => imarks k n ++ [imark (k + 4 * n)]
theorem imarks_length (k : Int) : ∀ n, (imarks k n).length = n
  | 0 => rfl
  | n + 1 => by simp [imarks, imarks_length k n]
theorem imarks_get (k : Int) : ∀ n i, i < n → (imarks k n)[i]? = some (imark (k + 4 * i))
  | 0, i, h => by omega
  | n + 1, i, h => by
    rw [imarks]
    by_cases hi : i < n
    · rw [List.getElem?_append_left (by rw [imarks_length]; exact hi), imarks_get k n i hi]
    · obtain rfl : i = n := by omega
      rw [List.getElem?_append_right (by rw [imarks_length]; omega), imarks_length]; simp
def icells : List MInstr → List Value
  | [] => []
  | x :: l => .int .i64 x.op :: .int .i64 x.a :: .int .i64 x.b :: .string x.text :: icells l
theorem repR_ins (w : World) : ∀ l : List MInstr, RepR w 4 (l.map MInstr.d) (icells l) []
  | [] => by simp [RepR, icells]
  | x :: l => by
    simp only [List.map_cons, RepR]
    exact ⟨[.int .i64 x.op, .int .i64 x.a, .int .i64 x.b, .string x.text], _, [], [], rfl, rfl, rfl, MInstr.shut, repR_ins w l⟩
theorem repR_ins_inv {w : World} : ∀ {l : List MInstr} {cells : List Value} {fp : List Nat}, RepR w 4 (l.map MInstr.d) cells fp → cells = icells l ∧ fp = []
  | [], cells, fp, h => by simpa [RepR, icells] using h
  | x :: l, cells, fp, h => by
    simp only [List.map_cons, RepR] at h
    obtain ⟨c1, c2, f1, f2, rfl, rfl, -, h1, h⟩ := h
    obtain ⟨rfl, rfl⟩ := repR_ins_inv h
    rw [MInstr.d_eq] at h1
    simp only [RepF, RepS] at h1
    obtain ⟨_, _, _, _, rfl, rfl, ⟨rfl, rfl⟩, _, _, _, _, rfl, rfl, ⟨rfl, rfl⟩, _, _, _, _, rfl, rfl, ⟨rfl, rfl⟩, _, _, _, _, rfl, rfl, ⟨rfl, rfl⟩, rfl, rfl⟩ := h1
    exact ⟨rfl, rfl⟩
theorem icells_length : ∀ l : List MInstr, (icells l).length = 4 * l.length
  | [] => rfl
  | x :: l => by simp [icells, icells_length l]; omega
theorem icells_get : ∀ (l : List MInstr) (j : Nat) (c : Value), (icells l)[j]? = some c → ∃ i x, l[i]? = some x ∧ ((j = 4 * i ∧ c = .int .i64 x.op) ∨ (j = 4 * i + 1 ∧ c = .int .i64 x.a) ∨ (j = 4 * i + 2 ∧ c = .int .i64 x.b) ∨ (j = 4 * i + 3 ∧ c = .string x.text))
  | [], j, c, h => by simp [icells] at h
  | x :: l, 0, c, h => by simp [icells] at h; exact ⟨0, x, by simp, Or.inl ⟨rfl, h.symm⟩⟩
  | x :: l, 1, c, h => by simp [icells] at h; exact ⟨0, x, by simp, Or.inr (Or.inl ⟨rfl, h.symm⟩)⟩
  | x :: l, 2, c, h => by simp [icells] at h; exact ⟨0, x, by simp, Or.inr (Or.inr (Or.inl ⟨rfl, h.symm⟩))⟩
  | x :: l, 3, c, h => by simp [icells] at h; exact ⟨0, x, by simp, Or.inr (Or.inr (Or.inr (⟨rfl, h.symm⟩)))⟩
  | x :: l, j + 4, c, h => by
    have h' : (icells l)[j]? = some c := by simpa [icells] using h
    obtain ⟨i, y, hy, hc⟩ := icells_get l j c h'
    refine ⟨i + 1, y, by simpa using hy, ?_⟩
    rcases hc with ⟨rfl, e⟩ | ⟨rfl, e⟩ | ⟨rfl, e⟩ | ⟨rfl, e⟩
    · exact Or.inl ⟨by omega, e⟩
    · exact Or.inr (Or.inl ⟨by omega, e⟩)
    · exact Or.inr (Or.inr (Or.inl ⟨by omega, e⟩))
    · exact Or.inr (Or.inr (Or.inr (⟨by omega, e⟩)))

set_option maxHeartbeats 2000000 in
theorem markInstrS_any (l : List MInstr) (v : Value) (fp : List Nat) (k0 : Int) (w : World) (hr : RepF w (MInstrs l) [v] fp) (ho : ∀ b, b ∈ fp → ∃ C e, Own w b e C) (h0 : 0 ≤ k0) (h1 : k0 + 4 * l.length ≤ 1099511627776) :
    Calls Tryd.prog 38 #[v, .int .i64 k0] w (MarkPost w (MInstrs (imarks k0 l.length)) v fp (k0 + 4 * l.length)) := by
  obtain ⟨ao, cap, hv, hl, hm, hn, h⟩ := RepF.sl_iff.1 hr
  simp only [List.cons.injEq, and_true, List.length_map] at hv hl
  subst hv
  rcases h with ⟨h, rfl⟩ | ⟨b, o, cells, fp', hne, rfl, rfl, hb, h4, h5⟩
  · obtain rfl : l = [] := by simpa using h
    go_enter Tryd.func38, Tryd.ntmps38
    go_wp2_with fail
    refine wp_loop_rounds 1 ?_
    rw [rounds_succ]
    go_wp2_with fail
    go_ret
    exact ⟨ret_int (by simp), hr, ho, Touch.of_ext (Ext.refl _) _⟩
  · have hpos : 0 < l.length := by cases l with | nil => exact absurd rfl hne | cons _ _ => simp
    obtain ⟨C, e, hO⟩ := ho b (by simp)
    obtain ⟨rfl, rfl⟩ := repR_ins_inv h5
    have hsz : o + l.length * 4 ≤ C.size := by
      have hj : l.length * 4 - 1 < (icells l).length := by rw [icells_length]; omega
      have h6 := h4 (l.length * 4 - 1) _ (List.getElem?_eq_getElem hj)
      rw [hO.cell] at h6
      have := (Array.getElem?_eq_some_iff.1 h6).1
      omega
    clear hr ho h4 h5 hn hne hb
    have HM := Lib.hid hm
    unfold maxLen at hm
    go_enter Tryd.func38, Tryd.ntmps38
    go_wp2_with fail
    go_loopw [1, 5] (fun kv iv wr => ∃ (i : Nat) (C' : Array Value), i ≤ l.length ∧ iv = .int .i64 i ∧ kv = .int .i64 (k0 + 4 * i) ∧ Own wr b e C' ∧ Touch w wr [b] ∧ C'.size = C.size ∧ Hid (∀ j, j < i → C'[o + j * 4]? = some (.int .i64 (k0 + 4 * j)) ∧ C'[o + j * 4 + 1]? = some (.int .i64 (k0 + 4 * j + 1)) ∧ C'[o + j * 4 + 2]? = some (.int .i64 (k0 + 4 * j + 2)) ∧ C'[o + j * 4 + 3]? = some (.string (mtext (k0 + 4 * j + 3))))) (fun _ iv _ => l.length - (intOf iv).toNat)
    case atStart => exact ⟨0, C, Nat.zero_le _, rfl, by go_num, hO, Touch.of_ext (Ext.refl _) _, rfl, Lib.hid fun j hj => by omega⟩
    case round =>
      obtain ⟨i, C', hi, rfl, rfl, hO', hT, hS, hR⟩ := hrel
      by_cases hlt : i < l.length
      · obtain ⟨v0, c0⟩ := hO'.some (o + i * 4) (by omega)
        obtain ⟨v1, c1⟩ := hO'.some (o + i * 4 + 1) (by omega)
        obtain ⟨v2, c2⟩ := hO'.some (o + i * 4 + 2) (by omega)
        have f0 := hO'.frozen (o + i * 4)
        have f1 := hO'.frozen (o + i * 4 + 1)
        have f2 := hO'.frozen (o + i * 4 + 2)
        go_wp2_with fail
        refine (markText_any _ _ (by omega) (by omega)).mono ?_
        rintro e2 w2 ⟨rfl, hx2⟩
        have hO1 := ((hO'.set (o + i * 4) (.int .i64 (k0 + 4 * i))).set (o + i * 4 + 1) (.int .i64 (k0 + 4 * i + 1))).set (o + i * 4 + 2) (.int .i64 (k0 + 4 * i + 2))
        have hT1 := ((hT.setCell (b := b) (o := o + i * 4) (by simp) (.int .i64 (k0 + 4 * i))).setCell (b := b) (o := o + i * 4 + 1) (by simp) (.int .i64 (k0 + 4 * i + 1))).setCell (b := b) (o := o + i * 4 + 2) (by simp) (.int .i64 (k0 + 4 * i + 2))
        simp only [Int.add_assoc] at hO1 hT1 hx2
        have hO2 := hO1.ext hx2
        have hT2 := hT1.trans (Touch.of_ext hx2 _)
        clear hO1 hT1
        obtain ⟨v3, c3⟩ := hO2.some (o + i * 4 + 3) (by simp; omega)
        have f3 := hO2.frozen (o + i * 4 + 3)
        clear c0 c1 c2 f0 f1 f2
        go_wp2_with fail
        clear c3 f3
        go_roundw
        case rel =>
          refine ⟨i + 1, ((((C').setIfInBounds (o + i * 4) (.int .i64 (k0 + 4 * i))).setIfInBounds (o + i * 4 + 1) (.int .i64 (k0 + 4 * i + 1))).setIfInBounds (o + i * 4 + 2) (.int .i64 (k0 + 4 * i + 2))).setIfInBounds (o + i * 4 + 3) (.string (mtext (k0 + 4 * i + 3))), by omega, by go_num, by go_num, ?_, ?_, by simp [hS], Lib.hid fun j hj => ?_⟩
          · have := hO2.set (o + i * 4 + 3) (.string (mtext (k0 + 4 * i + 3)))
            simpa [Int.add_assoc] using this
          · have := hT2.setCell (b := b) (o := o + i * 4 + 3) (by simp) (.string (mtext (k0 + 4 * i + 3)))
            simpa [Int.add_assoc] using this
          · by_cases hj2 : j < i
            · obtain ⟨r0, r1, r2, r3⟩ := hR.out j hj2
              refine ⟨?_, ?_, ?_, ?_⟩
              · rw [Array.getElem?_setIfInBounds, if_neg (by omega), Array.getElem?_setIfInBounds, if_neg (by omega), Array.getElem?_setIfInBounds, if_neg (by omega), Array.getElem?_setIfInBounds, if_neg (by omega)]; exact r0
              · rw [Array.getElem?_setIfInBounds, if_neg (by omega), Array.getElem?_setIfInBounds, if_neg (by omega), Array.getElem?_setIfInBounds, if_neg (by omega), Array.getElem?_setIfInBounds, if_neg (by omega)]; exact r1
              · rw [Array.getElem?_setIfInBounds, if_neg (by omega), Array.getElem?_setIfInBounds, if_neg (by omega), Array.getElem?_setIfInBounds, if_neg (by omega), Array.getElem?_setIfInBounds, if_neg (by omega)]; exact r2
              · rw [Array.getElem?_setIfInBounds, if_neg (by omega), Array.getElem?_setIfInBounds, if_neg (by omega), Array.getElem?_setIfInBounds, if_neg (by omega), Array.getElem?_setIfInBounds, if_neg (by omega)]; exact r3
            · obtain rfl : j = i := by omega
              refine ⟨?_, ?_, ?_, ?_⟩
              · rw [Array.getElem?_setIfInBounds, if_neg (by omega), Array.getElem?_setIfInBounds, if_neg (by omega), Array.getElem?_setIfInBounds, if_neg (by omega), Array.getElem?_setIfInBounds, if_pos rfl, if_pos (by omega)]
              · rw [Array.getElem?_setIfInBounds, if_neg (by omega), Array.getElem?_setIfInBounds, if_neg (by omega), Array.getElem?_setIfInBounds, if_pos rfl, if_pos (by simp; omega)]
              · rw [Array.getElem?_setIfInBounds, if_neg (by omega), Array.getElem?_setIfInBounds, if_pos rfl, if_pos (by simp; omega)]
              · rw [Array.getElem?_setIfInBounds, if_pos rfl, if_pos (by simp; omega)]
        case measure => simp [intOf]; omega
      · go_wp2_with fail
        go_ret
        obtain rfl : i = l.length := by omega
        refine ⟨rfl, ?_, fun b' hb' => by simp at hb'; subst hb'; exact ⟨_, _, hO'⟩, hT⟩
        have hL := imarks_length k0 l.length
        refine RepF.sl_iff.2 ⟨_, cap, by simp [hL], by simpa [hL] using hl, HM.out, by simp, Or.inr ⟨b, o, icells (imarks k0 l.length), [], ?_, rfl, rfl, hO'.lt, fun j c hj => ?_, repR_ins wr _⟩⟩
        · intro h
          have := congrArg List.length h
          rw [List.length_map, hL, List.length_nil] at this
          omega
        · obtain ⟨i, x, hx, hc⟩ := icells_get _ _ _ hj
          have hi : i < l.length := by have := (List.getElem?_eq_some_iff.1 hx).1; omega
          rw [imarks_get k0 _ i hi] at hx
          injection hx with hx
          subst hx
          obtain ⟨r0, r1, r2, r3⟩ := hR.out i hi
          rw [hO'.cell]
          rcases hc with ⟨rfl, rfl⟩ | ⟨rfl, rfl⟩ | ⟨rfl, rfl⟩ | ⟨rfl, rfl⟩
          · rw [Nat.mul_comm]; exact r0
          · rw [← Nat.add_assoc, Nat.mul_comm]; exact r1
          · rw [← Nat.add_assoc, Nat.mul_comm]; exact r2
          · rw [← Nat.add_assoc, Nat.mul_comm]; exact r3

set_option maxHeartbeats 1000000 in
theorem heldInstrS_any (n : Nat) (v : Value) (k0 : Int) (w : World) (hr : Rep w (MInstrs (imarks k0 n)) [v]) (h0 : 0 ≤ k0) (h1 : k0 + 4 * n ≤ 1099511627776) :
    Calls Tryd.prog 39 #[v, .int .i64 k0] w fun e w' => e = .returned (.int .i64 (k0 + 4 * n)) ∧ Ext w w' := by
  obtain ⟨ao, ca, ba, oa, e1, hla, hma, pa, ha⟩ := Rep.slmap hr
  simp only [List.cons.injEq, and_true] at e1
  subst e1
  clear hr
  rw [imarks_length] at hla pa ⊢
  unfold maxLen at hma
  go_enter Tryd.func39, Tryd.ntmps39
  go_wp2_with fail
  go_loopw [1, 5] (fun kv iv wr => ∃ i : Nat, i ≤ n ∧ iv = .int .i64 i ∧ kv = .int .i64 (k0 + 4 * i) ∧ Ext w wr) (fun _ iv _ => n - (intOf iv).toNat)
  case atStart => exact ⟨0, Nat.zero_le _, rfl, by go_num, Ext.refl _⟩
  case round =>
    obtain ⟨i, hi, rfl, rfl, hx⟩ := hrel
    by_cases hlt : i < n
    · obtain rfl := pa (by omega)
      obtain ⟨ea, la, cc, ra⟩ := ha i _ (imarks_get k0 n i hlt)
      obtain rfl := MInstr.op_en ra
      have q0 : w.cell? ⟨ba, oa + i * 4, none⟩ = some (.int .i64 (k0 + 4 * i)) := cc 0 (by omega)
      have q1 : w.cell? ⟨ba, oa + i * 4 + 1, none⟩ = some (.int .i64 (k0 + 4 * i + 1)) := cc 1 (by omega)
      have q2 : w.cell? ⟨ba, oa + i * 4 + 2, none⟩ = some (.int .i64 (k0 + 4 * i + 2)) := cc 2 (by omega)
      have q3 : w.cell? ⟨ba, oa + i * 4 + 3, none⟩ = some (.string (mtext (k0 + 4 * i + 3))) := cc 3 (by omega)
      have a0 := hx.cell q0
      have a1 := hx.cell q1
      have a2 := hx.cell q2
      have a3 := reg hx q3
      have t0 := int_eqn (rfl : k0 + 4 * (i : Int) = k0 + 4 * i)
      have t1 := int_eqn (rfl : k0 + 4 * (i : Int) + 1 = k0 + 4 * i + 1)
      have t2 := int_eqn (rfl : k0 + 4 * (i : Int) + 2 = k0 + 4 * i + 2)
      have ht := str_eqn (congrArg mtext (show k0 + 4 * (i : Int) + 3 = k0 + 4 * i + 1 + 1 + 1 by omega))
      clear ha pa la cc ra q0 q1 q2
      go_wp2_with fail
      refine wp_region_quiet_below (by kernel_rfl) (by kernel_rfl) ?_
      repeat (quiet_step (exact Calls.regrown_of (markText_any _ _ (by omega) (by omega))))
      refine wpQuiet_nil ?_
      clear a0 a1 a2 a3
      intro _ hw'
      obtain ⟨pw, hw''⟩ := hw'
      subst hw''
      have X1 := hx.trans (regx wr pw)
      generalize hW2 : «Sort».grow (redrawn wr pw.d) pw.os = W2 at *
      clear hW2
      go_wp2_with fail
      go_roundw
      case rel => exact ⟨i + 1, by omega, by go_num, by go_num, X1⟩
      case measure => simp [intOf]; omega
    · go_wp2_with fail
      go_ret
      obtain rfl : i = n := by omega
      exact ⟨rfl, hx⟩

def cmarks (k : Int) (x : MCode) : MCode := { x with instrs := imarks k x.instrs.length }
set_option maxHeartbeats 1000000 in
theorem markCode_any (x : MCode) (cx : List Value) (fp : List Nat) (k0 : Int) (w : World) (hr : RepF w x.d cx fp) (ho : ∀ b, b ∈ fp → ∃ C e, Own w b e C) (h0 : 0 ≤ k0) (h1 : k0 + 4 * x.instrs.length ≤ 1099511627776) :
    Calls Tryd.prog 17 #[.agg cx.toArray, .int .i64 k0] w fun e w' => e = .returned (.int .i64 (k0 + 4 * x.instrs.length)) ∧ RepF w' (cmarks k0 x).d cx fp ∧ (∀ b, b ∈ fp → ∃ C e, Own w' b e C) ∧ Touch w w' fp := by
  rw [MCode.d_eq] at hr
  obtain ⟨c2, rfl, h2⟩ := RepS.un_bool (RepF.un_st hr)
  obtain ⟨c3, rfl, h3⟩ := RepS.un_int h2
  obtain ⟨c4, rfl, h4⟩ := RepS.un_int h3
  obtain ⟨ao, cap, c5, f1, f2, rfl, rfl, h5, h6⟩ := RepS.un_sl h4
  simp only [RepS] at h6
  obtain ⟨rfl, rfl⟩ := h6
  simp only [List.length_map, List.append_nil] at *
  go_enter Tryd.func17, Tryd.ntmps17
  go_wp2_with fail
  refine (markInstrS_any x.instrs _ f1 k0 _ (RepF.ext ((Ext.refl w).alloc _) h5) (fun b hb => let ⟨C, e, hO⟩ := ho b hb; ⟨C, e, hO.ext ((Ext.refl w).alloc _)⟩) h0 h1).mono ?_
  rintro e w2 ⟨rfl, hr2, ho2, hT⟩
  go_wp2_with fail
  go_ret
  have hs := MCode.shut (w := w2) (x := cmarks k0 x) hr2
  simp only [List.append_nil] at hs
  exact ⟨rfl, hs, ho2, (Touch.of_ext ((Ext.refl w).alloc _) _).trans hT⟩
set_option maxHeartbeats 1000000 in
theorem heldCode_any (x : MCode) (cx : List Value) (k0 : Int) (w : World) (hr : Rep w (cmarks k0 x).d cx) (h0 : 0 ≤ k0) (h1 : k0 + 4 * x.instrs.length ≤ 1099511627776) :
    Calls Tryd.prog 18 #[.agg cx.toArray, .int .i64 k0] w fun e w' => e = .returned (.int .i64 (k0 + 4 * x.instrs.length)) ∧ Ext w w' := by
  obtain ⟨a1, c1, rfl, r1⟩ := MCode.op_en hr
  clear hr
  have R1 := Lib.hid r1; clear r1
  have hp : ¬ (k0 + 4 * (x.instrs.length : Int)) < 0 := by omega
  go_enter Tryd.func18, Tryd.ntmps18
  go_wp2_with fail
  refine (heldInstrS_any x.instrs.length _ k0 _ (Rep.ext ((Ext.refl w).alloc _) R1.out) h0 h1).mono ?_
  rintro e w2 ⟨rfl, hx2⟩
  go_wp2_with fail
  go_ret
  exact ⟨rfl, ((Ext.refl w).alloc _).trans hx2⟩

end Go.Proofs.YtpajlbmjlhafoaaDoor
