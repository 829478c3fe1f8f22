/-
  SEVERAL TEXTS IN ONE: THE LAWS' MARKS of tokens: a result's memory is written over and read again; CONTRACTS: Tokens, of the program and of the reference; CONTRACTS: ParseExpr, of the program and of the reference; CONTRACTS: slices.Equal, EqualOutcomes, EqualCodes, of the program and of the reference.
  Conditions: those that each lemma states.
-/
import Derived.Test.YtndhpbjhkgdieaaGreatDoorRows
import Derived.Deep.AppendLies
import Derived.Test.YtndhpbjhkgdieaaGreatDoorP24
import Derived.Test.YtndhpbjhkgdieaaGreatDoorP02
import Derived.Test.YtndhpbjhkgdieaaGreatDoorP35
import Derived.Test.YtndhpbjhkgdieaaGreatDoorP04
import Derived.Test.YtndhpbjhkgdieaaGreatDoorP30
import Derived.Test.YtndhpbjhkgdieaaGreatDoorP33
import Derived.Test.YtndhpbjhkgdieaaGreatDoorP34
import Derived.Test.YtndhpbjhkgdieaaGreatDoorP22
namespace Go.Proofs.YtndhpbjhkgdieaaGreatDoor
open Go.RowKit
set_option maxHeartbeats 8000000
set_option maxRecDepth 100000
set_option linter.unusedSimpArgs false
set_option linter.unusedVariables false
def tcells : List MToken -> List Value
 | [] => []
 | x :: l => .int .i64 x.kind :: .string x.text :: .int .i64 x.number :: tcells l
theorem repR_toks (w : World) : ∀ l : List MToken, RepR w 3 (l.map MToken.d) (tcells l) []
 | [] => by simp [RepR, tcells]
 | x :: l => by
  simp only [List.map_cons, RepR]
  exact ⟨[.int .i64 x.kind, .string x.text, .int .i64 x.number], _, [], [], rfl, rfl, rfl, MToken.shut, repR_toks w l⟩
theorem tokInfo : (Tryz.prog.info? 44).map (fun i => (i.zero, i.size, i.bytes)) = some (some (.agg #[.int .i64 0, .string ByteArray.empty, .int .i64 0]), 3, 32) := by kernel_rfl
def AccK (B0 : Nat) (w : World) (v : Value) (l : List MToken) : Prop := Acc B0 w 44 3 v (l.map MToken.d) []
theorem AccK.ext {B0 : Nat} {w w' : World} {v : Value} {l : List MToken} (h : AccK B0 w v l) (hx : Ext w w') : AccK B0 w' v l := Acc.ext h hx
theorem AccK.rep {B0 : Nat} {w : World} {v : Value} {l : List MToken} (h : AccK B0 w v l) : ∃ ao cap gp, v = .slice ao l.length cap /\ RepF w (MTokens l) [.slice ao l.length cap] gp /\ Fresh w B0 gp := by
 obtain ⟨ao, cap, gp, h1, h2, h3⟩ := Acc.rep h
 simp only [List.length_map] at h1 h2
 exact ⟨ao, cap, gp, h1, h2, h3⟩
theorem AccK.below {B0 : Nat} {w0 w w' : World} {v : Value} {l : List MToken} (h : AccK B0 w v l) (hb : Below B0 w0 w) (hg : w.grownBy w' v.ownBlock) (hB : B0 <= w.heap.size) : Below B0 w0 w' := Acc.below h hb hg hB
theorem RepF.tok_row {w : World} {b : Nat} {x : MToken} (hb : b < w.heap.size) (h0 : w.cell? ⟨b, 0, none⟩ = some (.int .i64 x.kind)) (h1 : w.cell? ⟨b, 1, none⟩ = some (.string x.text)) (h2 : w.cell? ⟨b, 2, none⟩ = some (.int .i64 x.number)) :
 RepF w (MTokens [x]) [.slice (some ⟨b, 0, none⟩) 1 1] [b] := by
 refine RepF.sl_iff.2 ⟨_, 1, by simp, by simp, by unfold maxLen; omega, by simp, Or.inr ⟨b, 0, tcells [x], [], by simp, rfl, rfl, hb, fun j c hj => ?_, repR_toks w [x]⟩⟩
 rw [Nat.zero_add]
 match j with
 | 0 => simp [tcells] at hj; rw [h0, hj]
 | 1 => simp [tcells] at hj; rw [h1, hj]
 | 2 => simp [tcells] at hj; rw [h2, hj]
 | j + 3 => simp [tcells] at hj
theorem wpList_append_tok {w : World} {ops : Array Oper} {rest : List Oper} {o : Oper} {a : Act} {Q : Exit -> Act -> World -> Prop} (hgd : o.guard = none) (s y : Operand)
 (ho : o.op = .call { callee := .builtin .append, args := #[s, y], argTypes := #[31, 31] })
 (B0 : Nat) (v : Value) (l : List MToken) (hs : a.eval s = v) (hacc : AccK B0 w v l)
 (x : MToken) (b : Nat) (hx : a.eval y = .slice (some ⟨b, 0, none⟩) 1 1) (hr : RepF w (MTokens [x]) [.slice (some ⟨b, 0, none⟩) 1 1] [b])
 (hlen : l.length <= 1073741824) (hbase : B0 <= w.heap.size)
 (h : ∀ ao' cap' w', AccK B0 w' (.slice ao' (l.length + 1) cap') (l ++ [x]) -> w.grownBy w' v.ownBlock -> wpList Tryz.prog ops Q rest (a.put o.dst (.slice ao' (l.length + 1) cap')) w') : wpList Tryz.prog ops Q (o :: rest) a w := by
 obtain ⟨i0, hi, hz0, hz1, hz2⟩ := info_parts tokInfo
 refine wpList_append_acc hgd s y 31 ho B0 44 i0 _ 3 32 Tryz.underlying31 hi hz0 hz1 hz2 rfl (by decide) v (l.map MToken.d) [] hs hacc ([x].map MToken.d) _ 1 1 [b] hx hr (Fresh.nil _ _) (by simp) (by simp [maxLen]; omega) (by simp; omega) hbase ?_
 intro ao' cap' w' h2 h3
 simp only [List.length_map, List.append_nil, List.tail_cons, <- List.map_append] at h2 ⊢
 exact h ao' cap' w' h2 h3
def GivesT (w : World) (O : Option (List MToken)) (e : Ending) (w' : World) : Prop :=
 ∃ ao n cap fp, e = .returned (.tuple #[.slice ao n cap, .bool O.isSome]) /\ RepF w' (MTokens (O.getD [])) [.slice ao n cap] fp /\ Fresh w' w.heap.size fp /\ Ext w w'
theorem gives_none {w w' : World} {O : Option (List MToken)} (h : O = none) (hx : Ext w w') : GivesT w O (.returned (.tuple #[.slice none 0 0, .bool false])) w' := by
 subst h
 exact ⟨none, 0, 0, [], rfl, RepF.sl_iff.2 ⟨_, _, rfl, by simp, by simp, by simp, Or.inl ⟨rfl, rfl⟩⟩, Fresh.nil _ _, hx⟩
theorem gives_some {w w' : World} {O : Option (List MToken)} {l : List MToken} {ao : Option Addr} {cap : Nat} {gp : List Nat} (h : O = some l) (h1 : RepF w' (MTokens l) [.slice ao l.length cap] gp) (h2 : Fresh w' w.heap.size gp) (hx : Ext w w') :
 GivesT w O (.returned (.tuple #[.slice ao l.length cap, .bool true])) w' := by
 subst h
 exact ⟨ao, _, cap, gp, rfl, h1, h2, hx⟩
theorem suf_size (s : ByteArray) (k : Nat) : (suf s k).size = s.size - k := by unfold suf; simp
theorem spec_Tokens_any (s : ByteArray) (w : World) (hs : s.size <= 1048576) :
 Calls Tryz.prog 9 #[.string s] w (GivesT w (toksL s)) := by
 have hA : AccK w.heap.size (w.alloc (.cells #[] 44)) (.slice (some ⟨w.heap.size, 0, none⟩) 0 0) [] := Acc.empty _ _ (Nat.le_refl _)
 have HA := LH hA; clear hA
 go_enter Tryz.func9, Tryz.ntmps9
 go_wp2_with fail
 go_loopw [4, 5] (fun ov av wr => ∃ (k : Nat) (L : List MToken), k <= s.size /\ av = .int .i64 k /\ L.length <= 800 /\ AccK w.heap.size wr ov L /\ Ext w wr /\ Hid (scanL s.data.toList [] = scanL (s.data.toList.drop k) L) /\ Hid (4000 < s.size -> k = 0)) (fun _ av _ => s.size - (intOf av).toNat)
 case atStart => exact ⟨0, [], Nat.zero_le _, rfl, by simp, HA.out, (XR w).alloc _, LH rfl, LH fun _ => rfl⟩
 case round =>
  obtain ⟨k, L, hk, rfl, hL8, hacc, hx, hR, h4⟩ := hrel
  obtain ⟨ao, cap, gp, rfl, hr4, hf4⟩ := hacc.rep
  by_cases hlt : k < s.size
  rotate_left
  · have hs4 : Hid (toksL s = some L) := LH (by
     have h40 : ¬ 4000 < s.size := fun h => by have := h4.out h; omega
     rw [toksL, if_neg h40, hR.out, drop_nil hlt, scan_nil])
    go_wp2_with fail
    go_ret2
    exact gives_some hs4.out hr4 hf4 hx
  by_cases h40 : s.size <= 4000
  rotate_left
  · have q4 : (4000 : Int) < s.size := by omega
    have hN : Hid (toksL s = none) := LH (by rw [toksL, if_pos (by omega)])
    go_wp2_with fail
    go_ret2
    exact gives_none hN.out hx
  have q4 : ¬ (4000 : Int) < s.size := by omega
  have HS : Hid (toksL s = scanL (s.data.toList.drop k) L) := LH (by rw [toksL, if_neg (by omega), hR.out])
  clear h4 hr4 hf4
  obtain ⟨hb0, hb1⟩ := byte_bd s[k]
  have HD : Hid (s.data.toList.drop k = s[k] :: s.data.toList.drop (k + 1)) := LH (drop_cons hlt)
  by_cases h1 : s[k] = 32
  · have HB : Hid (s[k] = 32 ∨ s[k] = 10 ∨ s[k] = 9) := LH (Or.inl h1)
    have t1 := u8_eq (n := 32) 32 rfl h1
    clear h1
    go_wp2_with fail
    go_roundw
    case rel => exact ⟨k + 1, L, by omega, by go_num, hL8, hacc, hx, LH (by rw [hR.out, HD.out, scan_blank (HB.out)]), LH fun h => absurd h (by omega)⟩
    case measure => simp [intOf]; omega
  have t1 := u8_ne (n := 32) 32 rfl h1
  by_cases h2 : s[k] = 10
  · have HB : Hid (s[k] = 32 ∨ s[k] = 10 ∨ s[k] = 9) := LH (Or.inr (Or.inl h2))
    have t2 := u8_eq (n := 10) 10 rfl h2
    clear h1 h2
    go_wp2_with fail
    go_roundw
    case rel => exact ⟨k + 1, L, by omega, by go_num, hL8, hacc, hx, LH (by rw [hR.out, HD.out, scan_blank (HB.out)]), LH fun h => absurd h (by omega)⟩
    case measure => simp [intOf]; omega
  have t2 := u8_ne (n := 10) 10 rfl h2
  by_cases h3 : s[k] = 9
  · have HB : Hid (s[k] = 32 ∨ s[k] = 10 ∨ s[k] = 9) := LH (Or.inr (Or.inr h3))
    have t3 := u8_eq (n := 9) 9 rfl h3
    clear h1 h2 h3
    go_wp2_with fail
    go_roundw
    case rel => exact ⟨k + 1, L, by omega, by go_num, hL8, hacc, hx, LH (by rw [hR.out, HD.out, scan_blank (HB.out)]), LH fun h => absurd h (by omega)⟩
    case measure => simp [intOf]; omega
  have t3 := u8_ne (n := 9) 9 rfl h3
  have HB : Hid (¬ (s[k] = 32 ∨ s[k] = 10 ∨ s[k] = 9)) := LH (by rintro (h | h | h) <;> contradiction)
  clear h1 h2 h3
  by_cases hq : s[k] = 34
  · have t5 := u8_eq (n := 34) 34 rfl hq
    have HQ := LH hq; clear hq
    go_wp2_with fail
    go_loop [5] (fun av => ∃ j : Nat, k + 1 + j <= s.size /\ av = .int .i64 ((k + 1 + j : Nat) : Int) /\ Hid (quN (s.data.toList.drop (k + 1)) = j + quN (s.data.toList.drop (k + 1 + j)))) (fun av => s.size - (intOf av).toNat)
    case atStart => exact ⟨0, by omega, by go_num, LH (by simp)⟩
    case round =>
     obtain ⟨j, hj, rfl, hJ⟩ := hrel
     by_cases hl2 : k + 1 + j < s.size
     · obtain ⟨hb2, hb3⟩ := byte_bd s[k + 1 + j]
       have HD2 : Hid (s.data.toList.drop (k + 1 + j) = s[k + 1 + j] :: s.data.toList.drop (k + 1 + j + 1)) := LH (drop_cons hl2)
       by_cases hq2 : s[k + 1 + j] = 34
       · have t6 := u8_eqn (n := 34) 34 rfl hq2
         have HN : Hid (quN (s.data.toList.drop (k + 1)) = j) := LH (by rw [hJ.out, HD2.out, quN, if_pos hq2, Nat.add_zero])
         clear hq2
         have t7 : (((k + 1 + j : Nat) : Int) == (s.size : Int)) = false := int_ne (by omega)
         go_wp2_with fail
         go_roundw
         case rel => exact ⟨k + 1 + j + 1, L, by omega, by go_num, hL8, hacc, hx, LH (by
          have h : quN (s.data.toList.drop (k + 1)) < (s.data.toList.drop (k + 1)).length := by rw [HN.out, List.length_drop, show s.data.toList.length = s.size from by simp]; omega
          rw [hR.out, HD.out, HQ.out, scan_note h, HN.out, List.drop_drop, show k + 1 + (j + 1) = k + 1 + j + 1 from by omega]), LH fun h => absurd h (by omega)⟩
         case measure => simp [intOf]; omega
       · have t6 := u8_nen (n := 34) 34 rfl hq2
         have HN : Hid (quN (s.data.toList.drop (k + 1)) = (j + 1) + quN (s.data.toList.drop (k + 1 + (j + 1)))) := LH (by rw [hJ.out, HD2.out, quN, if_neg hq2, show k + 1 + (j + 1) = k + 1 + j + 1 from by omega]; omega)
         clear hq2
         go_wp2_with fail
         go_round
         case rel => exact ⟨j + 1, by omega, by go_num, HN⟩
         case measure => simp [intOf]; omega
     · obtain rfl : j = s.size - (k + 1) := by omega
       have hN : Hid (toksL s = none) := LH (by
        have h : ¬ quN (s.data.toList.drop (k + 1)) < (s.data.toList.drop (k + 1)).length := by rw [hJ.out, List.length_drop, show s.data.toList.length = s.size from by simp]; omega
        rw [HS.out, HD.out, HQ.out, scan_open h])
       have t7 : (((k + 1 + (s.size - (k + 1)) : Nat) : Int) == (s.size : Int)) = true := int_eq (by omega)
       go_wp2_with fail
       go_ret2
       exact gives_none hN.out hx
  have t5 := u8_ne (n := 34) 34 rfl hq
  have HQ := LH hq; clear hq
  have hle := tok_le (s.data.toList.drop k)
  have hkk := tok_k s[k] (s.data.toList.drop (k + 1))
  rw [<- HD.out] at hkk
  have hsc : Hid (∀ n, (tokL (s.data.toList.drop k)).2 = n -> (n = 0 ∨ 800 <= L.length -> toksL s = none) /\ (¬ (n = 0 ∨ 800 <= L.length) -> scanL s.data.toList [] = scanL (s.data.toList.drop (k + n)) (L ++ [(tokL (s.data.toList.drop k)).1]))) := LH (by
   rintro n rfl
   have e := HD.out
   refine ⟨fun h => ?_, fun h => ?_⟩
   · rw [HS.out]
     rw [e] at h ⊢
     exact scan_bad HB.out HQ.out h
   · rw [hR.out, <- List.drop_drop]
     rw [e] at h ⊢
     exact scan_tok HB.out HQ.out h)
  have C := LH (fun W => l2Next_any s k W hs hlt)
  obtain ⟨⟨⟨K, T, N⟩, n⟩, hX⟩ : ∃ X, tokL (s.data.toList.drop k) = X := ⟨_, rfl⟩
  rw [hX] at hle hkk hsc C
  have C2 : Hid (∀ W, Calls Tryz.prog 21 #[.string s, .int .i64 k] W fun e w' => e = .returned (.tuple #[.agg #[.int .i64 K, .string T, .int .i64 N], .int .i64 (endV k n)]) /\ Ext W w') := C
  clear hX C
  rw [List.length_drop] at hle
  simp only at hle hkk
  have HK := LH hkk; clear hkk
  have hle : k + n <= s.size := by simp at hle; have e : s.data.size = s.size := rfl; omega
  by_cases hn0 : n = 0
  · have hK0 : K = 0 := by have := HK.out.1 hn0; simpa [noTok] using congrArg MToken.kind this
    have hN : Hid (toksL s = none) := LH ((hsc.out n rfl).1 (Or.inl hn0))
    subst hK0
    clear hn0
    go_wp2_with fail
    refine (C2.out _).mono ?_
    rintro e w1 ⟨rfl, hx1⟩
    go_wp2_with fail
    go_ret2
    exact gives_none hN.out ((hx.trans hx1).alloc _)
  have hK0 : K ≠ 0 := by simpa using HK.out.2 hn0
  have tk : (K == 0) = false := int_ne hK0
  have HEN : Hid (endV k n = ((k + n : Nat) : Int)) := LH (by rw [endV, if_neg hn0])
  by_cases h800 : 800 <= L.length
  · have hN : Hid (toksL s = none) := LH ((hsc.out n rfl).1 (Or.inr h800))
    have q8 : (800 : Int) <= L.length := by omega
    clear hn0
    go_wp2_with fail
    refine (C2.out _).mono ?_
    rintro e w1 ⟨rfl, hx1⟩
    go_wp2_with fail
    go_ret2
    exact gives_none hN.out ((hx.trans hx1).alloc _)
  have q8 : ¬ (800 : Int) <= L.length := by omega
  have hN := LH ((hsc.out n rfl).2 (by rintro (h | h) <;> omega))
  have hpos : 0 < n := by omega
  clear hn0 hsc
  go_wp2_with fail
  refine (C2.out _).mono ?_
  rw [HEN.out]
  rintro e w1 ⟨rfl, hx1⟩
  go_wp2_with (at_builtin; refine wpList_append_tok rfl _ _ rfl w.heap.size _ L rfl ((hacc.ext hx1).ext (((XR _).alloc _).alloc _)) ⟨K, T, N⟩ _ rfl (RepF.tok_row (by simp) (by simp) (by simp) (by simp)) (by omega) (by have := hx.size; have := hx1.size; simp; omega) ?_)
  intro ao' cap' w' hacc2 hg
  have hx' : Ext w w' := AccK.below ((hacc.ext hx1).ext (((XR _).alloc (.cells #[.int .i64 K, .string T, .int .i64 N] 44)).alloc (.cells #[.int .i64 K, .string T, .int .i64 N] 44))) (((hx.trans hx1).alloc _).alloc _) hg (by have := hx.size; have := hx1.size; simp; omega)
  clear hg hacc
  go_wp2_with fail
  go_roundw
  case rel => exact ⟨k + n, L ++ [⟨K, T, N⟩], hle, by go_num, by rw [List.length_append, List.length_singleton]; omega, hacc2, hx', hN, LH fun h => absurd h (by omega)⟩
  case measure => simp [intOf]; omega
def szOf : Value -> Nat
 | .string s => s.size
 | _ => 0
theorem impl_Tokens_any (s : ByteArray) (w : World) (hs : s.size <= 1048576) (hM : MaxOk w) :
 Calls Tryz.prog 22 #[.string s] w (GivesT w (toksL s)) := by
 have hA : AccK w.heap.size (w.alloc (.cells #[] 44)) (.slice (some ⟨w.heap.size, 0, none⟩) 0 0) [] := Acc.empty _ _ (Nat.le_refl _)
 have HA := LH hA; clear hA
 by_cases h40 : s.size <= 4000
 rotate_left
 · have q4 : (4000 : Int) < s.size := by omega
   have hN : Hid (toksL s = none) := LH (by rw [toksL, if_pos (by omega)])
   go_enter Tryz.func22, Tryz.ntmps22
   go_wp2_with fail
   go_ret2
   exact gives_none hN.out (XR _)
 have q4 : ¬ (4000 : Int) < s.size := by omega
 have HS : Hid (toksL s = scanL s.data.toList []) := LH (by rw [toksL, if_neg (by omega)])
 go_enter Tryz.func22, Tryz.ntmps22
 go_wp2_with fail
 go_loopw [0, 4] (fun sv ov wr => ∃ (S : ByteArray) (L : List MToken), sv = .string S /\ S.size <= 4000 /\ L.length <= 800 /\ AccK w.heap.size wr ov L /\ Ext w wr /\ Hid (toksL s = scanL S.data.toList L)) (fun sv _ _ => szOf sv)
 case atStart => exact ⟨s, [], rfl, h40, by simp, HA.out, (XR w).alloc _, HS⟩
 case round =>
  clear q4 h40 hs
  obtain ⟨S, L, rfl, h40, hL8, hacc, hx, hR⟩ := hrel
  obtain ⟨ao, cap, gp, rfl, hr4, hf4⟩ := hacc.rep
  by_cases hS : S = ⟨#[]⟩
  · have hs4 : Hid (toksL s = some L) := LH (by
     rw [hR.out, hS, show (⟨#[]⟩ : ByteArray).data.toList = [] from rfl, scan_nil])
    subst hS
    go_wp2_with fail
    go_ret2
    exact gives_some hs4.out hr4 hf4 hx
  have t0 := txt_ne hS
  have hlt : 0 < S.size := by
   have h : S.size ≠ 0 := fun e => hS (size_zero e)
   omega
  clear hS hr4 hf4
  obtain ⟨hb0, hb1⟩ := byte_bd S[0]
  have HD : Hid (S.data.toList = S[0] :: S.data.toList.drop 1) := LH (by
   have e := drop_cons (s := S) (k := 0) hlt
   rwa [List.drop_zero] at e)
  have p1 : (1 : Int) <= S.size := by omega
  by_cases h1 : S[0] = 32
  · have HB : Hid (S[0] = 32 ∨ S[0] = 10 ∨ S[0] = 9) := LH (Or.inl h1)
    have t1 := u8_eq (n := 32) 32 rfl h1
    clear h1
    go_wp2_with fail
    go_roundw
    case rel => exact ⟨suf S 1, L, rfl, by rw [suf_size]; omega, hL8, hacc, hx, LH (by rw [hR.out, HD.out, scan_blank (HB.out), suf_data])⟩
    case measure => show (suf S 1).size < S.size; rw [suf_size]; omega
  have t1 := u8_ne (n := 32) 32 rfl h1
  by_cases h2 : S[0] = 10
  · have HB : Hid (S[0] = 32 ∨ S[0] = 10 ∨ S[0] = 9) := LH (Or.inr (Or.inl h2))
    have t2 := u8_eq (n := 10) 10 rfl h2
    clear h1 h2
    go_wp2_with fail
    go_roundw
    case rel => exact ⟨suf S 1, L, rfl, by rw [suf_size]; omega, hL8, hacc, hx, LH (by rw [hR.out, HD.out, scan_blank (HB.out), suf_data])⟩
    case measure => show (suf S 1).size < S.size; rw [suf_size]; omega
  have t2 := u8_ne (n := 10) 10 rfl h2
  by_cases h3 : S[0] = 9
  · have HB : Hid (S[0] = 32 ∨ S[0] = 10 ∨ S[0] = 9) := LH (Or.inr (Or.inr h3))
    have t3 := u8_eq (n := 9) 9 rfl h3
    clear h1 h2 h3
    go_wp2_with fail
    go_roundw
    case rel => exact ⟨suf S 1, L, rfl, by rw [suf_size]; omega, hL8, hacc, hx, LH (by rw [hR.out, HD.out, scan_blank (HB.out), suf_data])⟩
    case measure => show (suf S 1).size < S.size; rw [suf_size]; omega
  have t3 := u8_ne (n := 9) 9 rfl h3
  have HB : Hid (¬ (S[0] = 32 ∨ S[0] = 10 ∨ S[0] = 9)) := LH (by rintro (h | h | h) <;> contradiction)
  clear h1 h2 h3
  by_cases hq : S[0] = 34
  · have t5 := u8_eq (n := 34) 34 rfl hq
    have HQ := LH hq; clear hq
    have hqd : Hid (Lib.indexByte (S.extract 1 S.size).data.toList ((34 : Int).toNat.toUInt8) = if quN (S.data.toList.drop 1) < (S.data.toList.drop 1).length then ((quN (S.data.toList.drop 1) : Nat) : Int) else -1) := LH (by
     rw [show S.extract 1 S.size = suf S 1 from rfl, suf_data]
     exact indexByte_quN _)
    have hlen : Hid ((S.data.toList.drop 1).length = S.size - 1) := LH (by simp)
    obtain ⟨q, hqq⟩ : ∃ q, quN (S.data.toList.drop 1) = q := ⟨_, rfl⟩
    have HN := LH hqq
    rw [hqq, hlen.out] at hqd
    clear hqq
    go_wp2_with fail
    refine (Tryz.strings_IndexByte _ _ _).mono ?_
    rw [hqd.out]
    rintro e w' ⟨rfl, rfl⟩
    by_cases hl : q < S.size - 1
    · rw [if_pos hl]
      have p2 : ¬ (q : Int) < 0 := by omega
      have p3 : (0 : Int) <= (q : Int) + 2 := by omega
      have p4 : (q : Int) + 2 <= S.size := by omega
      go_wp2_with fail
      go_roundw
      case rel => exact ⟨suf S (q + 2), L, by first | rfl | (congr 1), by rw [suf_size]; omega, hL8, hacc, hx, LH (by
       have h : quN (S.data.toList.drop 1) < (S.data.toList.drop 1).length := by rw [HN.out, hlen.out]; exact hl
       rw [hR.out, HD.out, HQ.out, scan_note h, HN.out, List.drop_drop, suf_data, show 1 + (q + 1) = q + 2 from by omega])⟩
      case measure => show (suf S (q + 2)).size < S.size; rw [suf_size]; omega
    · rw [if_neg hl]
      have hN : Hid (toksL s = none) := LH (by
       have h : ¬ quN (S.data.toList.drop 1) < (S.data.toList.drop 1).length := by rw [HN.out, hlen.out]; exact hl
       rw [hR.out, HD.out, HQ.out, scan_open h])
      go_wp2_with fail
      go_ret2
      exact gives_none hN.out hx
  have t5 := u8_ne (n := 34) 34 rfl hq
  have HQ := LH hq; clear hq
  have hle := tok_le S.data.toList
  have hsc : Hid (∀ n, (tokL S.data.toList).2 = n -> (n = 0 ∨ 800 <= L.length -> toksL s = none) /\ (¬ (n = 0 ∨ 800 <= L.length) -> toksL s = scanL (S.data.toList.drop n) (L ++ [(tokL S.data.toList).1]))) := LH (by
   rintro n rfl
   have e := HD.out
   refine ⟨fun h => ?_, fun h => ?_⟩
   · rw [hR.out]
     rw [e] at h ⊢
     exact scan_bad HB.out HQ.out h
   · rw [hR.out]
     rw [e] at h ⊢
     exact scan_tok HB.out HQ.out h)
  have C := LH (fun W hm => tokenAt_any S W (by omega) hlt hm)
  obtain ⟨⟨X1, n⟩, hX⟩ : ∃ X, tokL S.data.toList = X := ⟨_, rfl⟩
  rw [hX] at hle hsc C
  have hle : n <= S.size := by simpa using hle
  have HCM : Hid (MaxOk wr) := LH (hM.ext hx)
  clear hX
  have n0 : (0 : Int) <= n := by omega
  have n1 : (n : Int) <= S.size := by omega
  go_wp2_with fail
  refine (C.out _ HCM.out).mono ?_
  rintro e w1 ⟨⟨K, T, N⟩, rfl, hxk, hx1⟩
  have HXK := LH hxk; clear hxk
  simp only [tokVal]
  by_cases hn0 : n = 0
  · have hN : Hid (toksL s = none) := LH ((hsc.out n rfl).1 (Or.inl hn0))
    have tn : ((n : Int) == 0) = true := int_eq (by omega)
    clear hn0
    go_wp2_with fail
    go_ret2
    exact gives_none hN.out ((hx.trans hx1).alloc _)
  have tn : ((n : Int) == 0) = false := int_ne (by omega)
  by_cases h800 : 800 <= L.length
  · have hN : Hid (toksL s = none) := LH ((hsc.out n rfl).1 (Or.inr h800))
    have q8 : ((L.length : Int) == 800) = true := int_eq (by omega)
    clear hn0
    go_wp2_with fail
    go_ret2
    exact gives_none hN.out ((hx.trans hx1).alloc _)
  have q8 : ((L.length : Int) == 800) = false := int_ne (by omega)
  have hN := LH ((hsc.out n rfl).2 (by rintro (h | h) <;> omega))
  have hpos : 0 < n := by omega
  have HX1 : Hid (X1 = ⟨K, T, N⟩) := LH (HXK.out hn0).symm
  clear hn0 hsc
  go_wp2_with (at_builtin; refine wpList_append_tok rfl _ _ rfl w.heap.size _ L rfl ((hacc.ext hx1).ext (((XR _).alloc _).alloc _)) ⟨K, T, N⟩ _ rfl (RepF.tok_row (by simp) (by simp) (by simp) (by simp)) (by omega) (by have := hx.size; have := hx1.size; simp; omega) ?_)
  intro ao' cap' w' hacc2 hg
  have hx' : Ext w w' := AccK.below ((hacc.ext hx1).ext (((XR _).alloc (.cells #[.int .i64 K, .string T, .int .i64 N] 44)).alloc (.cells #[.int .i64 K, .string T, .int .i64 N] 44))) (((hx.trans hx1).alloc _).alloc _) hg (by have := hx.size; have := hx1.size; simp; omega)
  clear hg hacc
  go_wp2_with fail
  go_roundw
  case rel => exact ⟨suf S n, L ++ [⟨K, T, N⟩], rfl, by rw [suf_size]; omega, by rw [List.length_append, List.length_singleton]; omega, hacc2, hx', LH (by rw [hN.out, HX1.out, suf_data])⟩
  case measure => show (suf S n).size < S.size; rw [suf_size]; omega
def GivesX (w : World) (s : ByteArray) (e : Ending) (w' : World) : Prop := ∃ cs fp, e = .returned (.tuple #[.agg (List.toArray cs), .bool (parseX s).isSome]) /\ RepF w' ((parseX s).getD zX).d cs fp /\ Fresh w' w.heap.size fp /\ Ext w w'
theorem got_no {s : ByteArray} {ts : List MToken} {ok b' : Bool} {x : MExpr} {a' : Nat} (hok : (toksL s).isSome = ok) (hts : (toksL s).getD [] = ts) (hg : Got (!ok) (fun n => pExpr ts n 0) b' (x, a')) (hn : ¬ (b' = false /\ a' = ts.length)) : parseX s = none := by
 cases ht : toksL s with
 | none => exact parse_no1 ht
 | some us =>
  rw [ht] at hok hts
  subst hok
  have hts : us = ts := hts
  subst hts
  cases b' with
  | true => exact parse_no2 ht (hg.no rfl rfl)
  | false => exact parse_no3 ht (hg.yes rfl rfl) (Or.inl (fun h => hn ⟨rfl, h⟩))
theorem got_yes {s : ByteArray} {ts : List MToken} {ok b' : Bool} {x : MExpr} {a' : Nat} (hok : (toksL s).isSome = ok) (hts : (toksL s).getD [] = ts) (hg : Got (!ok) (fun n => pExpr ts n 0) b' (x, a')) (hb : b' = false) (ha : a' = ts.length) :
 ok = true /\ x.d.bulk <= 1048576 /\ (ExprOk x -> parseX s = some x) /\ (¬ ExprOk x -> parseX s = none) := by
 subst hb
 subst ha
 cases ht : toksL s with
 | none =>
  rw [ht] at hok
  subst hok
  have := hg.keep rfl
  cases this
 | some us =>
  rw [ht] at hok hts
  subst hok
  have hts : us = ts := hts
  subst hts
  have he := hg.yes rfl rfl
  obtain ⟨h1, h2⟩ := toks_sum ht
  exact ⟨rfl, ev_bulk h1 h2 he (by omega), fun h => parse_yes ⟨us, ht, he, h⟩, fun h => parse_no3 ht he (Or.inr h)⟩
theorem impl_ParseExpr_any (s : ByteArray) (w : World) (hs : s.size <= 1048576) (hM : MaxOk w) : Calls Tryz.prog 10 #[.string s] w (GivesX w s) := by
 go_enter Tryz.func10, Tryz.ntmps10
 go_upto_region 1 with fail
 generalize hS : World.alloc w _ = W1
 have x1 : Ext w W1 := by rw [<- hS]; exact (XR _).alloc _
 have O1 : Own W1 w.heap.size 27 #[.int .i64 0, .string ⟨#[]⟩, .int .i64 0, .slice none 0 0, .slice none 0 0] := by rw [<- hS]; exact own_new w _ _
 clear hS
 have HM := LH (hM.ext x1)
 go_wp2_with fail
 refine (impl_Tokens_any s W1 hs HM.out).mono ?_
 rintro e w2 ⟨ao, n, cap, fp, rfl, hr, hf, hx⟩
 have O2 := O1.ext hx
 have HX2 := LH (x1.trans hx)
 obtain ⟨ok, hok⟩ : ∃ b, (toksL s).isSome = b := ⟨_, rfl⟩
 obtain ⟨ts, hts⟩ : ∃ l, (toksL s).getD [] = l := ⟨_, rfl⟩
 rw [hok]
 have HOK := LH hok
 have HTS := LH hts
 have HR := LH hr
 have hro := O1.lt
 have hs1 := x1.size
 have hs2 := hx.size
 clear hok hts hr hf hx x1 O1
 go_upto_region 3 with fail
 generalize hS : World.alloc w2 _ = W3
 have x3 : Ext w2 W3 := by rw [<- hS]; exact (XR _).alloc _
 have OB : Own W3 w2.heap.size 49 #[.slice ao n cap, .int .i64 0, .bool (!ok)] := by rw [<- hS]; exact own_new w2 _ _
 have O3 := O2.ext x3
 have HX3 := LH (HX2.out.trans x3)
 have hs3 := x3.size
 obtain ⟨hn, tb, to_, HP⟩ := Prs.make (s := s) HR.out x3 (Nat.le_refl _) OB
 rw [HTS.out] at HP hn
 subst hn
 have hb3 := OB.lt
 clear hS O2 HR x3 OB
 generalize hB : w2.heap.size = B at *
 clear hB
 go_wp2_with fail
 refine (nested_all 0 W3 (!ok) HP).mono ?_
 rintro e w4 ⟨x, cs, fp, a', b', rfl, hr, hf, hp, hg, hm, hT⟩
 have O4 := O3.touch' hT (by simp; omega)
 have HX4 : Hid (Ext w w4) := LH (Touch.ext HX3.out hT (fun k hk => by simp at hk; omega))
 have hs4 := hT.size
 obtain ⟨y1, y2, y3, y4, rfl⟩ := fld5 hr
 have HG := LH hg
 have HR4 := LH hr
 have HP4 := LH hp
 clear hr hf hp hg hm hT HP O3
 go_upto_region 4 with fail
 generalize hS : World.alloc w4 _ = W5
 have x5 : Ext w4 W5 := by rw [<- hS]; exact (XR _).alloc _
 have OE : Own W5 w4.heap.size 27 #[.int .i64 x.kind, .string x.text, .int .i64 x.number, .slice y1 x.names.length y2, .slice y3 x.kids.length y4] := by rw [<- hS]; exact own_new w4 _ _
 have O5 := O4.ext x5
 have HP5 := LH (HP4.out.ext x5)
 have HR5 := LH (HR4.out.ext x5)
 have HX5 := LH (HX4.out.trans x5)
 have hs5 := x5.size
 clear hS O4 HP4 HR4 x5
 generalize hbe : w4.heap.size = eb at *
 clear hbe
 have HD := LH (done_any W5 HP5.out)
 by_cases hd : b' = false /\ a' = ts.length
 rotate_left
 · have HN := LH (got_no HOK.out HTS.out HG.out hd)
   have hv : (!b' && decide (a' = ts.length)) = false := by
    cases b' with
    | true => rfl
    | false => simpa using fun h => hd ⟨rfl, h⟩
   rw [hv] at HD
   clear hd hv
   go_wp2_with fail
   refine HD.out.mono ?_
   rintro e w6 ⟨rfl, hx6⟩
   have O6 := O5.ext hx6
   have HX6 := LH (HX5.out.trans hx6)
   clear hx6 O5
   have o0 := O6.k0
   have of0 := O6.f0
   have o1 := O6.k1
   have of1 := O6.f1
   have o2 := O6.k2
   have of2 := O6.f2
   have o3 := O6.k3
   have of3 := O6.f3
   have o4 := O6.k4
   have of4 := O6.f4
   have oz := O6.lt
   go_wp2_with fail
   generalize hS : World.setCell (World.setCell (World.setCell (World.setCell (World.setCell w6 _ _) _ _) _ _) _ _) _ _ = W9
   obtain ⟨O9, T9⟩ := own5 O6 (.int .i64 0) (.string ⟨#[]⟩) (.int .i64 0) (.slice none 0 0) (.slice none 0 0)
   rw [hS] at O9 T9
   clear hS
   have p0 := O9.k0
   have p1 := O9.k1
   have p2 := O9.k2
   have p3 := O9.k3
   have p4 := O9.k4
   have pz := O9.lt
   have FIN : GivesX w s (.returned (.tuple #[.agg #[.int .i64 0, .string ⟨#[]⟩, .int .i64 0, .slice none 0 0, .slice none 0 0], .bool false])) W9 := ⟨_, [], by rw [HN.out]; rfl, by rw [HN.out]; exact leaf_rep W9 0 ⟨#[]⟩ 0, Fresh.nil _ _, Touch.ext HX6.out T9 (fun k hk => by simp at hk; omega)⟩
   exact bodyPost_ret (v := .tuple #[.agg #[.int .i64 0, .string ⟨#[]⟩, .int .i64 0, .slice none 0 0, .slice none 0 0], .bool false]) (by simp [results, Tryz.results10, go_sem, p0, p1, p2, p3, p4, pz]) rfl FIN
 obtain ⟨-, hbk, hy, hn⟩ := got_yes HOK.out HTS.out HG.out hd.1 hd.2
 have hv : (!b' && decide (a' = ts.length)) = true := by rw [hd.1, decide_eq_true hd.2]; rfl
 rw [hv] at HD
 have HY := LH hy
 have HNO := LH hn
 clear hd hv hy hn HG
 have q0 := OE.k0
 have qf0 := OE.f0
 have q1 := OE.k1
 have qf1 := OE.f1
 have q2 := OE.k2
 have qf2 := OE.f2
 have q3 := OE.k3
 have qf3 := OE.f3
 have q4 := OE.k4
 have qf4 := OE.f4
 have qz := OE.lt
 go_wp2_with fail
 refine HD.out.mono ?_
 rintro e w6 ⟨rfl, hx6⟩
 have O6 := O5.ext hx6
 have OE6 := OE.ext hx6
 have HX6 := LH (HX5.out.trans hx6)
 have HR6 := LH (HR5.out.ext hx6)
 have HM6 := LH (hM.ext HX6.out)
 have hs6 := hx6.size
 clear hx6 O5 OE HD q0 qf0 q1 qf1 q2 qf2 q3 qf3 q4 qf4 qz
 have q0 := OE6.k0
 have qf0 := OE6.f0
 have q1 := OE6.k1
 have qf1 := OE6.f1
 have q2 := OE6.k2
 have qf2 := OE6.f2
 have q3 := OE6.k3
 have qf3 := OE6.f3
 have q4 := OE6.k4
 have qf4 := OE6.f4
 have qz := OE6.lt
 have HI := LH (impl_IsExpr_any x _ w6 HR6.out.rep hbk HM6.out)
 by_cases hk : ExprOk x
 rotate_left
 · have HN := LH (HNO.out hk)
   rw [prB_ff hk] at HI
   clear hk
   go_wp2_with fail
   refine HI.out.mono ?_
   rintro e w7 ⟨rfl, hx7⟩
   have O7 := O6.ext hx7
   have HX7 := LH (HX6.out.trans hx7)
   clear hx7 O6 OE6 q0 qf0 q1 qf1 q2 qf2 q3 qf3 q4 qf4 qz
   have o0 := O7.k0
   have of0 := O7.f0
   have o1 := O7.k1
   have of1 := O7.f1
   have o2 := O7.k2
   have of2 := O7.f2
   have o3 := O7.k3
   have of3 := O7.f3
   have o4 := O7.k4
   have of4 := O7.f4
   have oz := O7.lt
   go_wp2_with fail
   generalize hS : World.setCell (World.setCell (World.setCell (World.setCell (World.setCell w7 _ _) _ _) _ _) _ _) _ _ = W9
   obtain ⟨O9, T9⟩ := own5 O7 (.int .i64 0) (.string ⟨#[]⟩) (.int .i64 0) (.slice none 0 0) (.slice none 0 0)
   rw [hS] at O9 T9
   clear hS
   have p0 := O9.k0
   have p1 := O9.k1
   have p2 := O9.k2
   have p3 := O9.k3
   have p4 := O9.k4
   have pz := O9.lt
   have FIN : GivesX w s (.returned (.tuple #[.agg #[.int .i64 0, .string ⟨#[]⟩, .int .i64 0, .slice none 0 0, .slice none 0 0], .bool false])) W9 := ⟨_, [], by rw [HN.out]; rfl, by rw [HN.out]; exact leaf_rep W9 0 ⟨#[]⟩ 0, Fresh.nil _ _, Touch.ext HX7.out T9 (fun k hk => by simp at hk; omega)⟩
   exact bodyPost_ret (v := .tuple #[.agg #[.int .i64 0, .string ⟨#[]⟩, .int .i64 0, .slice none 0 0, .slice none 0 0], .bool false]) (by simp [results, Tryz.results10, go_sem, p0, p1, p2, p3, p4, pz]) rfl FIN
 have HN := LH (HY.out hk)
 rw [prB_tt hk] at HI
 clear hk
 go_wp2_with fail
 refine HI.out.mono ?_
 rintro e w7 ⟨rfl, hx7⟩
 have O7 := O6.ext hx7
 have OE7 := OE6.ext hx7
 have HX7 := LH (HX6.out.trans hx7)
 have HR7 := LH (HR6.out.ext hx7)
 have hs7 := hx7.size
 clear hx7 O6 OE6 HI q0 qf0 q1 qf1 q2 qf2 q3 qf3 q4 qf4 qz
 have q0 := OE7.k0
 have qf0 := OE7.f0
 have q1 := OE7.k1
 have qf1 := OE7.f1
 have q2 := OE7.k2
 have qf2 := OE7.f2
 have q3 := OE7.k3
 have qf3 := OE7.f3
 have q4 := OE7.k4
 have qf4 := OE7.f4
 have qz := OE7.lt
 go_wp2_with fail
 refine (copyExpr_any x _ w7 HR7.out.rep hbk).mono ?_
 rintro e w8 ⟨cs8, fp8, rfl, r8, f8, hx8⟩
 obtain ⟨u1, u2, u3, u4, rfl⟩ := fld5 r8
 have O8 := O7.ext hx8
 have HX8 := LH (HX7.out.trans hx8)
 have HR8 := LH r8
 have HF8 := LH f8
 have hs8 := hx8.size
 clear r8 f8 hx8 O7 OE7 q0 qf0 q1 qf1 q2 qf2 q3 qf3 q4 qf4 qz
 have o0 := O8.k0
 have of0 := O8.f0
 have o1 := O8.k1
 have of1 := O8.f1
 have o2 := O8.k2
 have of2 := O8.f2
 have o3 := O8.k3
 have of3 := O8.f3
 have o4 := O8.k4
 have of4 := O8.f4
 have oz := O8.lt
 go_wp2_with fail
 generalize hS : World.setCell (World.setCell (World.setCell (World.setCell (World.setCell w8 _ _) _ _) _ _) _ _) _ _ = W9
 obtain ⟨O9, T9⟩ := own5 O8 (.int .i64 x.kind) (.string x.text) (.int .i64 x.number) (.slice u1 x.names.length u2) (.slice u3 x.kids.length u4)
 rw [hS] at O9 T9
 clear hS
 have p0 := O9.k0
 have p1 := O9.k1
 have p2 := O9.k2
 have p3 := O9.k3
 have p4 := O9.k4
 have pz := O9.lt
 have hge : ∀ k, k ∈ fp8 -> k ∉ [w.heap.size] := fun k hk hm => by have := HF8.out.ge k hk; simp at hm; omega
 have FIN : GivesX w s (.returned (.tuple #[.agg #[.int .i64 x.kind, .string x.text, .int .i64 x.number, .slice u1 x.names.length u2, .slice u3 x.kids.length u4], .bool true])) W9 := ⟨_, fp8, by rw [HN.out]; rfl, by rw [HN.out]; exact HR8.out.touch T9 hge, (HF8.out.touch T9 hge).mono (by omega), Touch.ext HX8.out T9 (fun k hk => by simp at hk; omega)⟩
 exact bodyPost_ret (v := .tuple #[.agg #[.int .i64 x.kind, .string x.text, .int .i64 x.number, .slice u1 x.names.length u2, .slice u3 x.kids.length u4], .bool true]) (by simp [results, Tryz.results10, go_sem, p0, p1, p2, p3, p4, pz]) rfl FIN
theorem slEqStr_any (a b : List ByteArray) (va vb : Value) (w : World) (ra : Rep w (strs a) [va]) (rb : Rep w (strs b) [vb]) :
 Calls Tryz.prog 26 #[va, vb] w fun e w' => e = .returned (.bool (eqB a b)) /\ Ext w w' := by
 obtain ⟨ao, ca, ba, oa, h1, hla, hma, pa, ha⟩ := Rep.strs ra
 obtain ⟨bo, cb, bb, ob, h2, hlb, hmb, pb, hb⟩ := Rep.strs rb
 simp only [List.cons.injEq, and_true] at h1 h2
 subst h1 h2
 clear ra rb
 unfold maxLen at hma hmb
 go_enter Tryz.func26, Tryz.ntmps26
 by_cases hlen : a.length = b.length
 · have hne : ((a.length : Int) != (b.length : Int)) = false := by simp [hlen]
   have HL := LH hlen; clear hlen
   go_wp2
   go_loopw [13] (fun i wr => ∃ k : Nat, k <= a.length /\ i = .int .i64 k /\ Ext w wr /\ Hid (∀ j, j < k -> a[j]? = b[j]?)) (fun i _ => a.length - (intOf i).toNat)
   case atStart => exact ⟨0, Nat.zero_le _, rfl, XR _, fun j hj => by omega⟩
   case round =>
    obtain ⟨k, hk, rfl, hx, heq⟩ := hrel
    by_cases hlt : k < a.length
    · have hltb : k < b.length := by have := HL.out; omega
      obtain rfl := pa (by omega)
      obtain rfl := pb (by omega)
      have a0 := reg hx (ha k a[k] (by simp [hlt]))
      have b0 := reg hx (hb k b[k] (by simp [hltb]))
      clear ha hb pa pb
      by_cases hs : a[k] = b[k]
      · have ht := str_eqn hs
        have HS := LH hs; clear hs
        go_wp2_with fail
        refine wp_region_quiet_below (by kernel_rfl) (by kernel_rfl) ?_
        repeat (quiet_step (fail))
        refine wpQuiet_nil ?_
        clear a0 b0
        intro _ hw'
        obtain ⟨pw, hw''⟩ := hw'
        subst hw''
        go_wp2
        go_roundw
        case rel => exact ⟨k + 1, by omega, by go_num, hx.trans (regx _ _), fun j hj => by
         by_cases h : j < k
         · exact heq.out j h
         · obtain rfl : j = k := by omega
           simp [hlt, hltb, HS.out]⟩
        case measure => simp [intOf]; omega
      · have ht := str_nen hs
        have HS := LH hs; clear hs
        go_wp2_with fail
        refine wp_region_quiet_below (by kernel_rfl) (by kernel_rfl) ?_
        repeat (quiet_step (fail))
        refine wpQuiet_nil ?_
        clear a0 b0
        intro _ hw'
        obtain ⟨pw, hw''⟩ := hw'
        subst hw''
        go_wp2
        go_ret
        exact ⟨ret_ff fun h => HS.out (by subst h; rfl), hx.trans (regx _ _)⟩
    · go_wp2
      go_ret
      have hl := HL.out
      obtain rfl : k = a.length := by omega
      refine ⟨ret_tt ?_, hx⟩
      exact List.ext_getElem? fun j => by
       by_cases hj : j < a.length
       · exact heq.out j hj
       · simp [List.getElem?_eq_none_iff.2 (show a.length <= j by omega), List.getElem?_eq_none_iff.2 (show b.length <= j by omega)]
 · have hne : ((a.length : Int) != (b.length : Int)) = true := by simp; omega
   have HL := LH hlen; clear hlen
   go_wp2
   go_ret
   exact ⟨ret_ff fun h => HL.out (by rw [h]), XR _⟩
end Go.Proofs.YtndhpbjhkgdieaaGreatDoor
