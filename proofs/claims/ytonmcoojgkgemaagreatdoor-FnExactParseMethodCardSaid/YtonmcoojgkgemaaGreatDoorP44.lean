/-
  SEVERAL TEXTS IN ONE: CONTRACTS: Tokens, of the program and of the reference; CONTRACTS: ParseExpr, of the program and of the reference.
  Conditions: those that each lemma states.
-/
import Derived.Test.YtonmcoojgkgemaaGreatDoorRows
import Derived.Deep.AppendLies
import Derived.Test.YtonmcoojgkgemaaGreatDoorP43
import Derived.Test.YtonmcoojgkgemaaGreatDoorAcc
import Derived.Test.YtonmcoojgkgemaaGreatDoorP23
import Derived.Test.YtonmcoojgkgemaaGreatDoorParU
import Derived.Test.YtonmcoojgkgemaaGreatDoorP42
import Derived.Test.YtonmcoojgkgemaaGreatDoorP31
import Derived.Test.YtonmcoojgkgemaaGreatDoorParZe
namespace Go.Proofs.YtonmcoojgkgemaaGreatDoor
open Go.RowKit
set_option linter.unusedSimpArgs false
set_option linter.unusedVariables false

theorem tokInfo : (Tryz.prog.info? 84).map (fun i => (i.zero, i.size, i.bytes)) = some (some (.agg #[.int .i64 0, .string ByteArray.empty, .int .i64 0]), 3, 32) := by kernel_rfl
/-- Tokens that a call gathers. -/
def AccK (B0 : Nat) (w : World) (v : Value) (l : List MToken) : Prop := Acc B0 w 84 3 v (l.map MToken.d) []
theorem AccK.ext {B0 : Nat} {w w' : World} {v : Value} {l : List MToken} (h : AccK B0 w v l) (hx : Ext w w') : AccK B0 w' v l := Acc.ext h hx
theorem AccK.rep {B0 : Nat} {w : World} {v : Value} {l : List MToken} (h : AccK B0 w v l) : ∃ ao cap gp, v = .slice ao l.length cap ∧ RepF w (MTokens l) [.slice ao l.length cap] gp ∧ Fresh w B0 gp := by
  obtain ⟨ao, cap, gp, h1, h2, h3⟩ := Acc.rep h
  simp only [List.length_map] at h1 h2
  exact ⟨ao, cap, gp, h1, h2, h3⟩
theorem AccK.below {B0 : Nat} {w0 w w' : World} {v : Value} {l : List MToken} (h : AccK B0 w v l) (hb : Below B0 w0 w) (hg : w.grownBy w' v.ownBlock) (hB : B0 ≤ w.heap.size) : Below B0 w0 w' := Acc.below h hb hg hB
theorem RepF.tok_row {w : World} {b : Nat} {x : MToken} (hb : b < w.heap.size) (h0 : w.cell? ⟨b, 0, none⟩ = some (.int .i64 x.kind)) (h1 : w.cell? ⟨b, 1, none⟩ = some (.string x.text)) (h2 : w.cell? ⟨b, 2, none⟩ = some (.int .i64 x.number)) :
    RepF w (MTokens [x]) [.slice (some ⟨b, 0, none⟩) 1 1] [b] := by
  refine RepF.sl_iff.2 ⟨_, 1, by simp, by simp, by unfold maxLen; omega, by simp, Or.inr ⟨b, 0, tcells [x], [], by simp, rfl, rfl, hb, fun j c hj => ?_, repR_toks w [x]⟩⟩
  rw [Nat.zero_add]
  match j with
  | 0 => simp [tcells] at hj; rw [h0, hj]
  | 1 => simp [tcells] at hj; rw [h1, hj]
  | 2 => simp [tcells] at hj; rw [h2, hj]
  | j + 3 => simp [tcells] at hj
theorem wpList_append_tok {w : World} {ops : Array Oper} {rest : List Oper} {o : Oper} {a : Act} {Q : Exit → Act → World → Prop} (hgd : o.guard = none) (s y : Operand)
    (ho : o.op = .call { callee := .builtin .append, args := #[s, y], argTypes := #[44, 44] })
    (B0 : Nat) (v : Value) (l : List MToken) (hs : a.eval s = v) (hacc : AccK B0 w v l)
    (x : MToken) (b : Nat) (hx : a.eval y = .slice (some ⟨b, 0, none⟩) 1 1) (hr : RepF w (MTokens [x]) [.slice (some ⟨b, 0, none⟩) 1 1] [b])
    (hlen : l.length ≤ 1073741824) (hbase : B0 ≤ w.heap.size)
    (h : ∀ ao' cap' w', AccK B0 w' (.slice ao' (l.length + 1) cap') (l ++ [x]) → w.grownBy w' v.ownBlock → wpList Tryz.prog ops Q rest (a.put o.dst (.slice ao' (l.length + 1) cap')) w') : wpList Tryz.prog ops Q (o :: rest) a w := by
  obtain ⟨i0, hi, hz0, hz1, hz2⟩ := info_parts tokInfo
  refine wpList_append_acc hgd s y 44 ho B0 84 i0 _ 3 32 Tryz.underlying44 hi hz0 hz1 hz2 rfl (by decide) v (l.map MToken.d) [] hs hacc ([x].map MToken.d) _ 1 1 [b] hx hr (Fresh.nil _ _) (by simp) (by simp [maxLen]; omega) (by simp; omega) hbase ?_
  intro ao' cap' w' h2 h3
  simp only [List.length_map, List.append_nil, List.tail_cons, ← List.map_append] at h2 ⊢
  exact h ao' cap' w' h2 h3

def GivesT (w : World) (O : Option (List MToken)) (e : Ending) (w' : World) : Prop :=
  ∃ ao n cap fp, e = .returned (.tuple #[.slice ao n cap, .bool O.isSome]) ∧ RepF w' (MTokens (O.getD [])) [.slice ao n cap] fp ∧ Fresh w' w.heap.size fp ∧ Ext w w'
theorem gives_none {w w' : World} {O : Option (List MToken)} (h : O = none) (hx : Ext w w') : GivesT w O (.returned (.tuple #[.slice none 0 0, .bool false])) w' := by
  subst h
  exact ⟨none, 0, 0, [], rfl, RepF.sl_iff.2 ⟨_, _, rfl, by simp, by simp, by simp, Or.inl ⟨rfl, rfl⟩⟩, Fresh.nil _ _, hx⟩
theorem gives_some {w w' : World} {O : Option (List MToken)} {l : List MToken} {ao : Option Addr} {cap : Nat} {gp : List Nat} (h : O = some l) (h1 : RepF w' (MTokens l) [.slice ao l.length cap] gp) (h2 : Fresh w' w.heap.size gp) (hx : Ext w w') :
    GivesT w O (.returned (.tuple #[.slice ao l.length cap, .bool true])) w' := by
  subst h
  exact ⟨ao, _, cap, gp, rfl, h1, h2, hx⟩
theorem suf_size (s : ByteArray) (k : Nat) : (suf s k).size = s.size - k := by unfold suf; simp

set_option maxHeartbeats 4000000 in
set_option maxRecDepth 100000 in
theorem spec_Tokens_any (s : ByteArray) (w : World) (hs : s.size ≤ 1048576) :
    Calls Tryz.prog 21 #[.string s] w (GivesT w (toksL s)) := by
  have hA : AccK w.heap.size (w.alloc (.cells #[] 84)) (.slice (some ⟨w.heap.size, 0, none⟩) 0 0) [] := Acc.empty _ _ (Nat.le_refl _)
  have HA := Lib.hid hA; clear hA
  go_enter Tryz.func21, Tryz.ntmps21
  go_wp2_with fail
  go_loopw [4, 5] (fun ov av wr => ∃ (k : Nat) (L : List MToken), k ≤ s.size ∧ av = .int .i64 k ∧ L.length ≤ 800 ∧ AccK w.heap.size wr ov L ∧ Ext w wr ∧ Hid (scanL s.data.toList [] = scanL (s.data.toList.drop k) L) ∧ Hid (4000 < s.size → k = 0)) (fun _ av _ => s.size - (intOf av).toNat)
  case atStart => exact ⟨0, [], Nat.zero_le _, rfl, by simp, HA.out, (Ext.refl w).alloc _, Lib.hid rfl, Lib.hid fun _ => rfl⟩
  case round =>
    obtain ⟨k, L, hk, rfl, hL8, hacc, hx, hR, h4⟩ := hrel
    obtain ⟨ao, cap, gp, rfl, hr4, hf4⟩ := hacc.rep
    by_cases hlt : k < s.size
    rotate_left
    · have hs4 : Hid (toksL s = some L) := Lib.hid (by
        have h40 : ¬ 4000 < s.size := fun h => by have := h4.out h; omega
        rw [toksL, if_neg h40, hR.out, drop_nil hlt, scan_nil])
      go_wp2_with fail
      go_ret2
      exact gives_some hs4.out hr4 hf4 hx
    by_cases h40 : s.size ≤ 4000
    rotate_left
    · have q4 : (4000 : Int) < s.size := by omega
      have hN : Hid (toksL s = none) := Lib.hid (by rw [toksL, if_pos (by omega)])
      go_wp2_with fail
      go_ret2
      exact gives_none hN.out hx
    have q4 : ¬ (4000 : Int) < s.size := by omega
    have HS : Hid (toksL s = scanL (s.data.toList.drop k) L) := Lib.hid (by rw [toksL, if_neg (by omega), hR.out])
    clear h4 hr4 hf4
    obtain ⟨hb0, hb1⟩ := byte_bd s[k]
    have HD : Hid (s.data.toList.drop k = s[k] :: s.data.toList.drop (k + 1)) := Lib.hid (drop_cons hlt)
    by_cases h1 : s[k] = 32
    · have HB : Hid (s[k] = 32 ∨ s[k] = 10 ∨ s[k] = 9) := Lib.hid (Or.inl h1)
      have t1 := u8_eq (n := 32) 32 rfl h1
      clear h1
      go_wp2_with fail
      go_roundw
      case rel => exact ⟨k + 1, L, by omega, by go_num, hL8, hacc, hx, Lib.hid (by rw [hR.out, HD.out, scan_blank (HB.out)]), Lib.hid fun h => absurd h (by omega)⟩
      case measure => simp [intOf]; omega
    have t1 := u8_ne (n := 32) 32 rfl h1
    by_cases h2 : s[k] = 10
    · have HB : Hid (s[k] = 32 ∨ s[k] = 10 ∨ s[k] = 9) := Lib.hid (Or.inr (Or.inl h2))
      have t2 := u8_eq (n := 10) 10 rfl h2
      clear h1 h2
      go_wp2_with fail
      go_roundw
      case rel => exact ⟨k + 1, L, by omega, by go_num, hL8, hacc, hx, Lib.hid (by rw [hR.out, HD.out, scan_blank (HB.out)]), Lib.hid fun h => absurd h (by omega)⟩
      case measure => simp [intOf]; omega
    have t2 := u8_ne (n := 10) 10 rfl h2
    by_cases h3 : s[k] = 9
    · have HB : Hid (s[k] = 32 ∨ s[k] = 10 ∨ s[k] = 9) := Lib.hid (Or.inr (Or.inr h3))
      have t3 := u8_eq (n := 9) 9 rfl h3
      clear h1 h2 h3
      go_wp2_with fail
      go_roundw
      case rel => exact ⟨k + 1, L, by omega, by go_num, hL8, hacc, hx, Lib.hid (by rw [hR.out, HD.out, scan_blank (HB.out)]), Lib.hid fun h => absurd h (by omega)⟩
      case measure => simp [intOf]; omega
    have t3 := u8_ne (n := 9) 9 rfl h3
    have HB : Hid (¬ (s[k] = 32 ∨ s[k] = 10 ∨ s[k] = 9)) := Lib.hid (by rintro (h | h | h) <;> contradiction)
    clear h1 h2 h3
    by_cases hq : s[k] = 34
    · have t5 := u8_eq (n := 34) 34 rfl hq
      have HQ := Lib.hid hq; clear hq
      go_wp2_with fail
      go_loop [5] (fun av => ∃ j : Nat, k + 1 + j ≤ s.size ∧ av = .int .i64 ((k + 1 + j : Nat) : Int) ∧ Hid (quN (s.data.toList.drop (k + 1)) = j + quN (s.data.toList.drop (k + 1 + j)))) (fun av => s.size - (intOf av).toNat)
      case atStart => exact ⟨0, by omega, by go_num, Lib.hid (by simp)⟩
      case round =>
        obtain ⟨j, hj, rfl, hJ⟩ := hrel
        by_cases hl2 : k + 1 + j < s.size
        · obtain ⟨hb2, hb3⟩ := byte_bd s[k + 1 + j]
          have HD2 : Hid (s.data.toList.drop (k + 1 + j) = s[k + 1 + j] :: s.data.toList.drop (k + 1 + j + 1)) := Lib.hid (drop_cons hl2)
          by_cases hq2 : s[k + 1 + j] = 34
          · have t6 := u8_eqn (n := 34) 34 rfl hq2
            have HN : Hid (quN (s.data.toList.drop (k + 1)) = j) := Lib.hid (by rw [hJ.out, HD2.out, quN, if_pos hq2, Nat.add_zero])
            clear hq2
            have t7 : (((k + 1 + j : Nat) : Int) == (s.size : Int)) = false := int_ne (by omega)
            go_wp2_with fail
            go_roundw
            case rel => exact ⟨k + 1 + j + 1, L, by omega, by go_num, hL8, hacc, hx, Lib.hid (by
              have h : quN (s.data.toList.drop (k + 1)) < (s.data.toList.drop (k + 1)).length := by rw [HN.out, List.length_drop, show s.data.toList.length = s.size from by simp]; omega
              rw [hR.out, HD.out, HQ.out, scan_note h, HN.out, List.drop_drop, show k + 1 + (j + 1) = k + 1 + j + 1 from by omega]), Lib.hid fun h => absurd h (by omega)⟩
            case measure => simp [intOf]; omega
          · have t6 := u8_nen (n := 34) 34 rfl hq2
            have HN : Hid (quN (s.data.toList.drop (k + 1)) = (j + 1) + quN (s.data.toList.drop (k + 1 + (j + 1)))) := Lib.hid (by rw [hJ.out, HD2.out, quN, if_neg hq2, show k + 1 + (j + 1) = k + 1 + j + 1 from by omega]; omega)
            clear hq2
            go_wp2_with fail
            go_round
            case rel => exact ⟨j + 1, by omega, by go_num, HN⟩
            case measure => simp [intOf]; omega
        · obtain rfl : j = s.size - (k + 1) := by omega
          have hN : Hid (toksL s = none) := Lib.hid (by
            have h : ¬ quN (s.data.toList.drop (k + 1)) < (s.data.toList.drop (k + 1)).length := by rw [hJ.out, List.length_drop, show s.data.toList.length = s.size from by simp]; omega
            rw [HS.out, HD.out, HQ.out, scan_open h])
          have t7 : (((k + 1 + (s.size - (k + 1)) : Nat) : Int) == (s.size : Int)) = true := int_eq (by omega)
          go_wp2_with fail
          go_ret2
          exact gives_none hN.out hx
    have t5 := u8_ne (n := 34) 34 rfl hq
    have HQ := Lib.hid hq; clear hq
    have hle := tok_le (s.data.toList.drop k)
    have hkk := tok_k s[k] (s.data.toList.drop (k + 1))
    rw [← HD.out] at hkk
    have hsc : Hid (∀ n, (tokL (s.data.toList.drop k)).2 = n → (n = 0 ∨ 800 ≤ L.length → toksL s = none) ∧ (¬ (n = 0 ∨ 800 ≤ L.length) → scanL s.data.toList [] = scanL (s.data.toList.drop (k + n)) (L ++ [(tokL (s.data.toList.drop k)).1]))) := Lib.hid (by
      rintro n rfl
      have e := HD.out
      refine ⟨fun h => ?_, fun h => ?_⟩
      · rw [HS.out]
        rw [e] at h ⊢
        exact scan_bad HB.out HQ.out h
      · rw [hR.out, ← List.drop_drop]
        rw [e] at h ⊢
        exact scan_tok HB.out HQ.out h)
    have C := Lib.hid (fun W => l2Next_any s k W hs hlt)
    obtain ⟨⟨⟨K, T, N⟩, n⟩, hX⟩ : ∃ X, tokL (s.data.toList.drop k) = X := ⟨_, rfl⟩
    rw [hX] at hle hkk hsc C
    have C2 : Hid (∀ W, Calls Tryz.prog 55 #[.string s, .int .i64 k] W fun e w' => e = .returned (.tuple #[.agg #[.int .i64 K, .string T, .int .i64 N], .int .i64 (endV k n)]) ∧ Ext W w') := C
    clear hX C
    rw [List.length_drop] at hle
    simp only at hle hkk
    have HK := Lib.hid hkk; clear hkk
    have hle : k + n ≤ s.size := by simp at hle; have e : s.data.size = s.size := rfl; omega
    by_cases hn0 : n = 0
    · have hK0 : K = 0 := by have := HK.out.1 hn0; simpa [noTok] using congrArg MToken.kind this
      have hN : Hid (toksL s = none) := Lib.hid ((hsc.out n rfl).1 (Or.inl hn0))
      subst hK0
      clear hn0
      go_wp2_with fail
      refine (C2.out _).mono ?_
      rintro e w1 ⟨rfl, hx1⟩
      go_wp2_with fail
      go_ret2
      exact gives_none hN.out ((hx.trans hx1).alloc _)
    have hK0 : K ≠ 0 := by simpa using HK.out.2 hn0
    have tk : (K == 0) = false := int_ne hK0
    have HEN : Hid (endV k n = ((k + n : Nat) : Int)) := Lib.hid (by rw [endV, if_neg hn0])
    by_cases h800 : 800 ≤ L.length
    · have hN : Hid (toksL s = none) := Lib.hid ((hsc.out n rfl).1 (Or.inr h800))
      have q8 : (800 : Int) ≤ L.length := by omega
      clear hn0
      go_wp2_with fail
      refine (C2.out _).mono ?_
      rintro e w1 ⟨rfl, hx1⟩
      go_wp2_with fail
      go_ret2
      exact gives_none hN.out ((hx.trans hx1).alloc _)
    have q8 : ¬ (800 : Int) ≤ L.length := by omega
    have hN := Lib.hid ((hsc.out n rfl).2 (by rintro (h | h) <;> omega))
    have hpos : 0 < n := by omega
    clear hn0 hsc
    go_wp2_with fail
    refine (C2.out _).mono ?_
    rw [HEN.out]
    rintro e w1 ⟨rfl, hx1⟩
    go_wp2_with (at_builtin; refine wpList_append_tok rfl _ _ rfl w.heap.size _ L rfl ((hacc.ext hx1).ext (((Ext.refl _).alloc _).alloc _)) ⟨K, T, N⟩ _ rfl (RepF.tok_row (by simp) (by simp) (by simp) (by simp)) (by omega) (by have := hx.size; have := hx1.size; simp; omega) ?_)
    intro ao' cap' w' hacc2 hg
    have hx' : Ext w w' := AccK.below ((hacc.ext hx1).ext (((Ext.refl _).alloc (.cells #[.int .i64 K, .string T, .int .i64 N] 84)).alloc (.cells #[.int .i64 K, .string T, .int .i64 N] 84))) (((hx.trans hx1).alloc _).alloc _) hg (by have := hx.size; have := hx1.size; simp; omega)
    clear hg hacc
    go_wp2_with fail
    go_roundw
    case rel => exact ⟨k + n, L ++ [⟨K, T, N⟩], hle, by go_num, by rw [List.length_append, List.length_singleton]; omega, hacc2, hx', hN, Lib.hid fun h => absurd h (by omega)⟩
    case measure => simp [intOf]; omega

def szOf : Value → Nat
  | .string s => s.size
  | _ => 0
set_option maxHeartbeats 4000000 in
set_option maxRecDepth 100000 in
theorem impl_Tokens_any (s : ByteArray) (w : World) (hs : s.size ≤ 1048576) (hM : MaxOk w) :
    Calls Tryz.prog 24 #[.string s] w (GivesT w (toksL s)) := by
  have hA : AccK w.heap.size (w.alloc (.cells #[] 84)) (.slice (some ⟨w.heap.size, 0, none⟩) 0 0) [] := Acc.empty _ _ (Nat.le_refl _)
  have HA := Lib.hid hA; clear hA
  by_cases h40 : s.size ≤ 4000
  rotate_left
  · have q4 : (4000 : Int) < s.size := by omega
    have hN : Hid (toksL s = none) := Lib.hid (by rw [toksL, if_pos (by omega)])
    go_enter Tryz.func24, Tryz.ntmps24
    go_wp2_with fail
    go_ret2
    exact gives_none hN.out (Ext.refl _)
  have q4 : ¬ (4000 : Int) < s.size := by omega
  have HS : Hid (toksL s = scanL s.data.toList []) := Lib.hid (by rw [toksL, if_neg (by omega)])
  go_enter Tryz.func24, Tryz.ntmps24
  go_wp2_with fail
  go_loopw [0, 4] (fun sv ov wr => ∃ (S : ByteArray) (L : List MToken), sv = .string S ∧ S.size ≤ 4000 ∧ L.length ≤ 800 ∧ AccK w.heap.size wr ov L ∧ Ext w wr ∧ Hid (toksL s = scanL S.data.toList L)) (fun sv _ _ => szOf sv)
  case atStart => exact ⟨s, [], rfl, h40, by simp, HA.out, (Ext.refl w).alloc _, HS⟩
  case round =>
    clear q4 h40 hs
    obtain ⟨S, L, rfl, h40, hL8, hacc, hx, hR⟩ := hrel
    obtain ⟨ao, cap, gp, rfl, hr4, hf4⟩ := hacc.rep
    by_cases hS : S = ⟨#[]⟩
    · have hs4 : Hid (toksL s = some L) := Lib.hid (by
        rw [hR.out, hS, show (⟨#[]⟩ : ByteArray).data.toList = [] from rfl, scan_nil])
      subst hS
      go_wp2_with fail
      go_ret2
      exact gives_some hs4.out hr4 hf4 hx
    have t0 := txt_ne hS
    have hlt : 0 < S.size := by
      have h : S.size ≠ 0 := fun e => hS (size_zero e)
      omega
    clear hS hr4 hf4
    obtain ⟨hb0, hb1⟩ := byte_bd S[0]
    have HD : Hid (S.data.toList = S[0] :: S.data.toList.drop 1) := Lib.hid (by
      have e := drop_cons (s := S) (k := 0) hlt
      rwa [List.drop_zero] at e)
    have p1 : (1 : Int) ≤ S.size := by omega
    by_cases h1 : S[0] = 32
    · have HB : Hid (S[0] = 32 ∨ S[0] = 10 ∨ S[0] = 9) := Lib.hid (Or.inl h1)
      have t1 := u8_eq (n := 32) 32 rfl h1
      clear h1
      go_wp2_with fail
      go_roundw
      case rel => exact ⟨suf S 1, L, rfl, by rw [suf_size]; omega, hL8, hacc, hx, Lib.hid (by rw [hR.out, HD.out, scan_blank (HB.out), suf_data])⟩
      case measure => show (suf S 1).size < S.size; rw [suf_size]; omega
    have t1 := u8_ne (n := 32) 32 rfl h1
    by_cases h2 : S[0] = 10
    · have HB : Hid (S[0] = 32 ∨ S[0] = 10 ∨ S[0] = 9) := Lib.hid (Or.inr (Or.inl h2))
      have t2 := u8_eq (n := 10) 10 rfl h2
      clear h1 h2
      go_wp2_with fail
      go_roundw
      case rel => exact ⟨suf S 1, L, rfl, by rw [suf_size]; omega, hL8, hacc, hx, Lib.hid (by rw [hR.out, HD.out, scan_blank (HB.out), suf_data])⟩
      case measure => show (suf S 1).size < S.size; rw [suf_size]; omega
    have t2 := u8_ne (n := 10) 10 rfl h2
    by_cases h3 : S[0] = 9
    · have HB : Hid (S[0] = 32 ∨ S[0] = 10 ∨ S[0] = 9) := Lib.hid (Or.inr (Or.inr h3))
      have t3 := u8_eq (n := 9) 9 rfl h3
      clear h1 h2 h3
      go_wp2_with fail
      go_roundw
      case rel => exact ⟨suf S 1, L, rfl, by rw [suf_size]; omega, hL8, hacc, hx, Lib.hid (by rw [hR.out, HD.out, scan_blank (HB.out), suf_data])⟩
      case measure => show (suf S 1).size < S.size; rw [suf_size]; omega
    have t3 := u8_ne (n := 9) 9 rfl h3
    have HB : Hid (¬ (S[0] = 32 ∨ S[0] = 10 ∨ S[0] = 9)) := Lib.hid (by rintro (h | h | h) <;> contradiction)
    clear h1 h2 h3
    by_cases hq : S[0] = 34
    · have t5 := u8_eq (n := 34) 34 rfl hq
      have HQ := Lib.hid hq; clear hq
      have hqd : Hid (Lib.indexByte (S.extract 1 S.size).data.toList ((34 : Int).toNat.toUInt8) = if quN (S.data.toList.drop 1) < (S.data.toList.drop 1).length then ((quN (S.data.toList.drop 1) : Nat) : Int) else -1) := Lib.hid (by
        rw [show S.extract 1 S.size = suf S 1 from rfl, suf_data]
        exact indexByte_quN _)
      have hlen : Hid ((S.data.toList.drop 1).length = S.size - 1) := Lib.hid (by simp)
      obtain ⟨q, hqq⟩ : ∃ q, quN (S.data.toList.drop 1) = q := ⟨_, rfl⟩
      have HN := Lib.hid hqq
      rw [hqq, hlen.out] at hqd
      clear hqq
      go_wp2_with fail
      refine (Tryz.strings_IndexByte _ _ _).mono ?_
      rw [hqd.out]
      rintro e w' ⟨rfl, rfl⟩
      by_cases hl : q < S.size - 1
      · rw [if_pos hl]
        have p2 : ¬ (q : Int) < 0 := by omega
        have p3 : (0 : Int) ≤ (q : Int) + 2 := by omega
        have p4 : (q : Int) + 2 ≤ S.size := by omega
        go_wp2_with fail
        go_roundw
        case rel => exact ⟨suf S (q + 2), L, by first | rfl | (congr 1), by rw [suf_size]; omega, hL8, hacc, hx, Lib.hid (by
          have h : quN (S.data.toList.drop 1) < (S.data.toList.drop 1).length := by rw [HN.out, hlen.out]; exact hl
          rw [hR.out, HD.out, HQ.out, scan_note h, HN.out, List.drop_drop, suf_data, show 1 + (q + 1) = q + 2 from by omega])⟩
        case measure => show (suf S (q + 2)).size < S.size; rw [suf_size]; omega
      · rw [if_neg hl]
        have hN : Hid (toksL s = none) := Lib.hid (by
          have h : ¬ quN (S.data.toList.drop 1) < (S.data.toList.drop 1).length := by rw [HN.out, hlen.out]; exact hl
          rw [hR.out, HD.out, HQ.out, scan_open h])
        go_wp2_with fail
        go_ret2
        exact gives_none hN.out hx
    have t5 := u8_ne (n := 34) 34 rfl hq
    have HQ := Lib.hid hq; clear hq
    have hle := tok_le S.data.toList
    have hsc : Hid (∀ n, (tokL S.data.toList).2 = n → (n = 0 ∨ 800 ≤ L.length → toksL s = none) ∧ (¬ (n = 0 ∨ 800 ≤ L.length) → toksL s = scanL (S.data.toList.drop n) (L ++ [(tokL S.data.toList).1]))) := Lib.hid (by
      rintro n rfl
      have e := HD.out
      refine ⟨fun h => ?_, fun h => ?_⟩
      · rw [hR.out]
        rw [e] at h ⊢
        exact scan_bad HB.out HQ.out h
      · rw [hR.out]
        rw [e] at h ⊢
        exact scan_tok HB.out HQ.out h)
    have C := Lib.hid (fun W hm => tokenAt_any S W (by omega) hlt hm)
    obtain ⟨⟨X1, n⟩, hX⟩ : ∃ X, tokL S.data.toList = X := ⟨_, rfl⟩
    rw [hX] at hle hsc C
    have hle : n ≤ S.size := by simpa using hle
    have HCM : Hid (MaxOk wr) := Lib.hid (hM.ext hx)
    clear hX
    have n0 : (0 : Int) ≤ n := by omega
    have n1 : (n : Int) ≤ S.size := by omega
    go_wp2_with fail
    refine (C.out _ HCM.out).mono ?_
    rintro e w1 ⟨⟨K, T, N⟩, rfl, hxk, hx1⟩
    have HXK := Lib.hid hxk; clear hxk
    simp only [tokVal]
    by_cases hn0 : n = 0
    · have hN : Hid (toksL s = none) := Lib.hid ((hsc.out n rfl).1 (Or.inl hn0))
      have tn : ((n : Int) == 0) = true := int_eq (by omega)
      clear hn0
      go_wp2_with fail
      go_ret2
      exact gives_none hN.out ((hx.trans hx1).alloc _)
    have tn : ((n : Int) == 0) = false := int_ne (by omega)
    by_cases h800 : 800 ≤ L.length
    · have hN : Hid (toksL s = none) := Lib.hid ((hsc.out n rfl).1 (Or.inr h800))
      have q8 : ((L.length : Int) == 800) = true := int_eq (by omega)
      clear hn0
      go_wp2_with fail
      go_ret2
      exact gives_none hN.out ((hx.trans hx1).alloc _)
    have q8 : ((L.length : Int) == 800) = false := int_ne (by omega)
    have hN := Lib.hid ((hsc.out n rfl).2 (by rintro (h | h) <;> omega))
    have hpos : 0 < n := by omega
    have HX1 : Hid (X1 = ⟨K, T, N⟩) := Lib.hid (HXK.out hn0).symm
    clear hn0 hsc
    go_wp2_with (at_builtin; refine wpList_append_tok rfl _ _ rfl w.heap.size _ L rfl ((hacc.ext hx1).ext (((Ext.refl _).alloc _).alloc _)) ⟨K, T, N⟩ _ rfl (RepF.tok_row (by simp) (by simp) (by simp) (by simp)) (by omega) (by have := hx.size; have := hx1.size; simp; omega) ?_)
    intro ao' cap' w' hacc2 hg
    have hx' : Ext w w' := AccK.below ((hacc.ext hx1).ext (((Ext.refl _).alloc (.cells #[.int .i64 K, .string T, .int .i64 N] 84)).alloc (.cells #[.int .i64 K, .string T, .int .i64 N] 84))) (((hx.trans hx1).alloc _).alloc _) hg (by have := hx.size; have := hx1.size; simp; omega)
    clear hg hacc
    go_wp2_with fail
    go_roundw
    case rel => exact ⟨suf S n, L ++ [⟨K, T, N⟩], rfl, by rw [suf_size]; omega, by rw [List.length_append, List.length_singleton]; omega, hacc2, hx', Lib.hid (by rw [hN.out, HX1.out, suf_data])⟩
    case measure => show (suf S n).size < S.size; rw [suf_size]; omega

open Go.RowKit
set_option linter.unusedSimpArgs false
set_option linter.unusedVariables false

end Go.Proofs.YtonmcoojgkgemaaGreatDoor
