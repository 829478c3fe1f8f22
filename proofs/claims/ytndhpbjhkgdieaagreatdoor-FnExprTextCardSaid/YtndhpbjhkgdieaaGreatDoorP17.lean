/-
  SEVERAL TEXTS IN ONE: PLAIN: the bytes of a right expression's text are scanned as its tokens; CONTRACTS: Join, of the program and of the reference; PLAIN: the text of a right expression: how long it is, and how texts are joined; CONTRACTS: strings.Join; CONTRACTS: the program's printer of expressions, the small functions; CONTRACTS: partsOf of the program, at a keyword selector: the parts themselves.
  Conditions: those that each lemma states.
-/
import Derived.Test.YtndhpbjhkgdieaaGreatDoorRows
import Derived.Lib.AppendStr
import Derived.Lib.Join
import Derived.Lib.ItoaLen
import Derived.BigQuiet
import Derived.Test.YtndhpbjhkgdieaaGreatDoorP14
import Derived.Test.YtndhpbjhkgdieaaGreatDoorP16
import Derived.Test.YtndhpbjhkgdieaaGreatDoorP02
import Derived.Test.YtndhpbjhkgdieaaGreatDoorShelf
import Derived.Test.YtndhpbjhkgdieaaGreatDoorP10
import Derived.Test.YtndhpbjhkgdieaaGreatDoorP09
import Derived.Test.YtndhpbjhkgdieaaGreatDoorP13
namespace Go.Proofs.YtndhpbjhkgdieaaGreatDoor
open Go.RowKit
set_option maxHeartbeats 8000000
set_option maxRecDepth 100000
set_option linter.unusedSimpArgs false
set_option linter.unusedVariables false
abbrev bs (s : ByteArray) : List UInt8 := s.data.toList
/-! ### Single tokens -/
theorem part_two {p : ByteArray} (h : partB p = true) : (∃ a u, bs p = a :: u /\ ltrB (a.toNat : Int) = true) /\ (bs p).length <= 20 := by
 have h1 := part_head h
 unfold partB at h
 obtain ⟨-, h2, -⟩ := of_decide_eq_true h
 refine ⟨?_, by simpa using h2⟩
 cases hd : bs p with
 | nil => rw [show p.data.toList = [] from hd] at h1; cases h1
 | cons a u => rw [show p.data.toList = a :: u from hd] at h1; exact ⟨a, u, rfl, h1⟩
theorem tok_name {s : ByteArray} (h : nameB s = true) {r : List UInt8} (hr : Gap r) : tokL (bs s ++ r) = (tk1 1 s, (bs s).length) := by
 simp only [nameB, Bool.and_eq_true, Bool.not_eq_true'] at h
 obtain ⟨hp, hw⟩ := h
 obtain ⟨⟨a, u, hd, ha⟩, hl⟩ := part_two hp
 have hb := part_bytes hp
 have hrun := run_halt hr.halt (bs s) hb
 have e : tokL (bs s ++ r) = nameT (bs s ++ r) := by
  unfold tokL tokC
  rw [hd, List.cons_append, List.headD_cons, if_pos ha]
 rw [e]
 unfold nameT
 rw [runB_app hrun, hrun, drop_app, if_neg (by rw [col_gap hr]; exact Bool.false_ne_true), mkB_data, if_neg (by rw [hw]; exact Bool.false_ne_true), if_pos hl]
 rfl
theorem tok_kw {p : ByteArray} (h : partB p = true) (r : List UInt8) : tokL (bs p ++ 58 :: 32 :: r) = (tk1 2 (colS p), (bs p).length + 1) := by
 obtain ⟨⟨a, u, hd, ha⟩, hl⟩ := part_two h
 have hb := part_bytes h
 have hrun := run_halt (q := 58 :: 32 :: r) (Or.inr ⟨58, 32 :: r, rfl, by decide⟩) (bs p) hb
 have e : tokL (bs p ++ 58 :: 32 :: r) = nameT (bs p ++ 58 :: 32 :: r) := by
  unfold tokL tokC
  rw [hd, List.cons_append, List.headD_cons, if_pos ha]
 rw [e]
 unfold nameT
 rw [runB_app hrun, hrun, drop_app, if_pos (col_yes (fun t => by simp)), if_pos hl, mkB_data]
 rfl
theorem tok_int {v : Nat} (hv : v <= 999999999) {r : List UInt8} (hr : Gap r) : tokL (Lib.decDigits v ++ r) = (⟨3, ⟨#[]⟩, (v : Int)⟩, (Lib.decDigits v).length) := by
 obtain ⟨d1, d2, d3⟩ := dec_val v v (Nat.le_refl _)
 obtain ⟨c, u, hc, c1, c2⟩ := dec_head v
 have hcd : dgtB (c.toNat : Int) = true := digL_dgt.2 ⟨c1, c2⟩
 have l9 := dec_len' 8 v (by omega)
 have hdn := digN_gap hr (Lib.decDigits v) d1
 have e : tokL (Lib.decDigits v ++ r) = numT (Lib.decDigits v ++ r) := by
  unfold tokL tokC
  rw [hc, List.cons_append, List.headD_cons, dgt_ltr hcd, if_neg Bool.false_ne_true, if_pos hcd]
 rw [e]
 unfold numT
 rw [hdn, drop_app, take_app, d2, if_neg (by omega), if_neg (by rw [headLtr_gap hr]; exact Bool.false_ne_true)]
theorem tok_text {s : ByteArray} (h : textB 40 s = true) {r : List UInt8} (hr : Gap r) : tokL (39 :: (subL 39 [39, 39] (bs s) ++ [39]) ++ r) = (tk1 4 s, (39 :: (subL 39 [39, 39] (bs s) ++ [39])).length) := by
 unfold tokL tokC
 rw [List.cons_append, List.headD_cons, if_neg (by decide), if_neg (by decide), if_pos rfl]
 unfold quoT
 have hq := quo_back hr (bs s) [] 1
 have e2 : (39 :: (subL 39 [39, 39] (bs s) ++ [39] ++ r)).drop 1 = subL 39 [39, 39] (bs s) ++ 39 :: r := by simp
 rw [e2, hq, if_neg (by simp), List.nil_append, mkB_data, if_pos h]
 simp [tk1]
 omega
theorem tok_sym {s : ByteArray} (h : selB s = true) {r : List UInt8} (hr : Gap r) : tokL (35 :: bs s ++ r) = (tk1 5 s, (35 :: bs s).length) := by
 have hsym : symB (bs s ++ r) = s := by
  unfold symB
  cases ho : hasB opsL s
  · have hh := sel_head h ho
    have hh2 : headLtr (bs s ++ r) = true := by
     cases hd : bs s with
     | nil => rw [show s.data.toList = [] from hd] at hh; cases hh
     | cons a t => rw [show s.data.toList = a :: t from hd] at hh; exact hh
    rw [if_pos (ops_ltr hh2), symN_app h ho hr, take_app, mkB_data]
  · have hm := hasB_iff.1 ho
    rw [ops_app hm hr, if_neg (ops_ne hm)]
 have hz : s.size ≠ 0 := fun h0 => by
  have hs := size_zero h0
  subst hs
  cases ho : hasB opsL ⟨#[]⟩
  · have hh := sel_head h ho
    cases hh
  · exact ops_ne (hasB_iff.1 ho) rfl
 unfold tokL tokC
 rw [List.cons_append, List.headD_cons, if_neg (by decide), if_neg (by decide), if_neg (by decide), if_pos rfl]
 unfold symT
 have e2 : (35 :: (bs s ++ r)).drop 1 = bs s ++ r := rfl
 have e3 : selT (bs s ++ r) = (⟨5, s, 0⟩, s.size) := by rw [sel_sym, hsym, if_pos h]
 rw [e2, e3, if_neg hz]
 have : (bs s).length = s.size := by simp
 simp [tk1]
theorem tok_op {s : ByteArray} (h : s ∈ opsL) (r : List UInt8) : tokL (bs s ++ 32 :: r) = (tk1 6 s, (bs s).length) := by
 obtain ⟨b, u, e, p1, p2, p3, p4, p5, p6⟩ := op_plain (Or.inl h)
 have hop := ops_app h (r := 32 :: r) (Or.inr ⟨r, Or.inl rfl⟩)
 have hl : s.size = (bs s).length := by simp
 have e1 : tokL (bs s ++ 32 :: r) = opT (bs s ++ 32 :: r) := by
  unfold tokL tokC
  rw [show bs s = b :: u from e, List.cons_append, List.headD_cons, p3, p4, if_neg Bool.false_ne_true, if_neg Bool.false_ne_true, if_neg p5, if_neg p6]
 rw [e1]
 unfold opT
 rw [hop, if_neg (ops_ne h), hl]
 rfl
def oneMark (c : UInt8) : Prop := c = 40 ∨ c = 41 ∨ c = 91 ∨ c = 93 ∨ c = 46 ∨ c = 59 ∨ c = 94 ∨ c = 124
theorem mark_tokC {c : UInt8} {l : List UInt8} (h : oneMark c ∨ c = 58) : tokL (c :: l) = opT (c :: l) := by
 unfold tokL tokC
 rw [List.headD_cons]
 rcases h with (rfl | rfl | rfl | rfl | rfl | rfl | rfl | rfl) | rfl <;> rw [if_neg (by decide), if_neg (by decide), if_neg (by decide), if_neg (by decide)]
theorem tok_mark {c : UInt8} (h : oneMark c) (r : List UInt8) : tokL (c :: r) = (tk1 7 ⟨#[c]⟩, 1) := by
 rw [mark_tokC (Or.inl h)]
 unfold opT
 have e1 : firstP opsL (mkB (c :: r)) = ⟨#[]⟩ := by
  rcases h with rfl | rfl | rfl | rfl | rfl | rfl | rfl | rfl <;> simp [firstP, opsL, Lib.hasPrefix, List.isPrefixOf, data_mkB]
 have e2 : firstP marksL (mkB (c :: r)) = ⟨#[c]⟩ := by
  rcases h with rfl | rfl | rfl | rfl | rfl | rfl | rfl | rfl <;> simp [firstP, marksL, Lib.hasPrefix, List.isPrefixOf, data_mkB]
 rw [e1, e2, if_pos rfl, if_neg (by simp)]
 rfl
theorem tok_col {a : UInt8} (ha : a ≠ 61) (r : List UInt8) : tokL (58 :: a :: r) = (tk1 7 colM, 1) := by
 rw [mark_tokC (Or.inr rfl)]
 unfold opT
 have h2 : (61 == a) = false := by simpa using fun e => ha e.symm
 have e1 : firstP opsL (mkB (58 :: a :: r)) = ⟨#[]⟩ := by simp [firstP, opsL, Lib.hasPrefix, List.isPrefixOf, data_mkB]
 have e2 : firstP marksL (mkB (58 :: a :: r)) = ⟨#[58]⟩ := by simp [firstP, marksL, Lib.hasPrefix, List.isPrefixOf, data_mkB, h2]
 rw [e1, e2, if_pos rfl, if_neg (by simp)]
 rfl
theorem tok_asg (r : List UInt8) : tokL (58 :: 61 :: r) = (tk1 7 asgM, 2) := by
 rw [mark_tokC (Or.inr rfl)]
 unfold opT
 have e1 : firstP opsL (mkB (58 :: 61 :: r)) = ⟨#[]⟩ := by simp [firstP, opsL, Lib.hasPrefix, List.isPrefixOf, data_mkB]
 have e2 : firstP marksL (mkB (58 :: 61 :: r)) = ⟨#[58, 61]⟩ := by simp [firstP, marksL, Lib.hasPrefix, List.isPrefixOf, data_mkB]
 rw [e1, e2, if_pos rfl, if_neg (by simp)]
 rfl
/-! ### Texts that are scanned -/
def AScan (P : List UInt8) (T : List MToken) : Prop := ∀ r acc ts, acc.length <= 800 -> scanL (P ++ r) acc = some ts -> acc.length + T.length <= 800 /\ scanL r (acc ++ T) = some ts
def Scan (P : List UInt8) (T : List MToken) : Prop := ∀ r acc ts, Gap r -> acc.length <= 800 -> scanL (P ++ r) acc = some ts -> acc.length + T.length <= 800 /\ scanL r (acc ++ T) = some ts
theorem AScan.scan {P : List UInt8} {T : List MToken} (h : AScan P T) : Scan P T := fun r acc ts _ ha hs => h r acc ts ha hs
theorem AScan.app {P Q : List UInt8} {T U : List MToken} (h : AScan P T) (k : AScan Q U) : AScan (P ++ Q) (T ++ U) := fun r acc ts ha hs => by
 rw [List.append_assoc] at hs
 obtain ⟨h1, h2⟩ := h _ _ _ ha hs
 obtain ⟨k1, k2⟩ := k _ _ _ (by rw [List.length_append]; exact h1) h2
 rw [List.length_append] at k1
 exact ⟨by rw [List.length_append]; omega, by rw [<- List.append_assoc]; exact k2⟩
theorem AScan.then {P Q : List UInt8} {T U : List MToken} (h : AScan P T) (k : Scan Q U) : Scan (P ++ Q) (T ++ U) := fun r acc ts hg ha hs => by
 rw [List.append_assoc] at hs
 obtain ⟨h1, h2⟩ := h _ _ _ ha hs
 obtain ⟨k1, k2⟩ := k _ _ _ hg (by rw [List.length_append]; exact h1) h2
 rw [List.length_append] at k1
 exact ⟨by rw [List.length_append]; omega, by rw [<- List.append_assoc]; exact k2⟩
theorem Scan.app {P Q : List UInt8} {T U : List MToken} (h : Scan P T) (hq : ∀ r, Gap (Q ++ r)) (k : Scan Q U) : Scan (P ++ Q) (T ++ U) := fun r acc ts hg ha hs => by
 rw [List.append_assoc] at hs
 obtain ⟨h1, h2⟩ := h _ _ _ (hq r) ha hs
 obtain ⟨k1, k2⟩ := k _ _ _ hg (by rw [List.length_append]; exact h1) h2
 rw [List.length_append] at k1
 exact ⟨by rw [List.length_append]; omega, by rw [<- List.append_assoc]; exact k2⟩
theorem Scan.appA {P Q : List UInt8} {T U : List MToken} (h : Scan P T) (hq : ∀ r, Gap (Q ++ r)) (k : AScan Q U) : AScan (P ++ Q) (T ++ U) := fun r acc ts ha hs => by
 rw [List.append_assoc] at hs
 obtain ⟨h1, h2⟩ := h _ _ _ (hq r) ha hs
 obtain ⟨k1, k2⟩ := k _ _ _ (by rw [List.length_append]; exact h1) h2
 rw [List.length_append] at k1
 exact ⟨by rw [List.length_append]; omega, by rw [<- List.append_assoc]; exact k2⟩
theorem AScan.nil : AScan [] [] := fun r acc ts ha hs => ⟨by simpa using ha, by simpa using hs⟩
theorem scan_one {b : UInt8} {u r : List UInt8} {t : MToken} {acc ts : List MToken} (h1 : ¬ (b = 32 ∨ b = 10 ∨ b = 9)) (h2 : ¬ b = 34) (h : tokL (b :: u ++ r) = (t, (b :: u).length)) (hs : scanL (b :: u ++ r) acc = some ts) : acc.length + 1 <= 800 /\ scanL r (acc ++ [t]) = some ts := by
 have h3 : (tokL (b :: (u ++ r))) = (t, (b :: u).length) := h
 by_cases hl : 800 <= acc.length
 · rw [List.cons_append, scan_bad h1 h2 (Or.inr hl)] at hs
   cases hs
 · rw [List.cons_append, scan_tok h1 h2 (by rw [h3]; simp; omega), h3] at hs
   refine ⟨by omega, ?_⟩
   rw [<- List.cons_append] at hs
   rw [show (b :: u ++ r).drop (b :: u).length = r by rw [List.drop_left]] at hs
   exact hs
theorem AScan.one {b : UInt8} {u : List UInt8} {t : MToken} (h1 : ¬ (b = 32 ∨ b = 10 ∨ b = 9)) (h2 : ¬ b = 34) (h : ∀ r, tokL (b :: u ++ r) = (t, (b :: u).length)) : AScan (b :: u) [t] := fun r acc ts _ hs => scan_one h1 h2 (h r) hs
theorem Scan.one {b : UInt8} {u : List UInt8} {t : MToken} (h1 : ¬ (b = 32 ∨ b = 10 ∨ b = 9)) (h2 : ¬ b = 34) (h : ∀ r, Gap r -> tokL (b :: u ++ r) = (t, (b :: u).length)) : Scan (b :: u) [t] := fun r acc ts hg _ hs => scan_one h1 h2 (h r hg) hs
theorem AScan.blank : AScan [32] [] := fun r acc ts ha hs => ⟨by simpa using ha, by rw [List.append_nil]; rw [show [32] ++ r = 32 :: r from rfl, scan_blank (Or.inl rfl)] at hs; exact hs⟩
theorem gap_blank (Q r : List UInt8) : Gap (32 :: Q ++ r) := Or.inr ⟨Q ++ r, Or.inl rfl⟩
theorem scan_name {s : ByteArray} (h : nameB s = true) : Scan (bs s) [tk1 1 s] := by
 have hp : partB s = true := by simp only [nameB, Bool.and_eq_true] at h; exact h.1
 obtain ⟨⟨a, u, hd, ha⟩, -⟩ := part_two hp
 obtain ⟨p1, p2⟩ := ltr_plain ha
 have ht := @tok_name s h
 rw [hd] at ht ⊢
 exact Scan.one p1 p2 (fun r hr => ht hr)
theorem scan_kw {p : ByteArray} (h : partB p = true) : AScan (bs p ++ [58, 32]) [tk1 2 (colS p)] := fun r acc ts ha hs => by
 obtain ⟨⟨a, u, hd, hl⟩, -⟩ := part_two h
 obtain ⟨p1, p2⟩ := ltr_plain hl
 have ht := tok_kw h r
 have e1 : bs p ++ [58, 32] ++ r = a :: (u ++ [58]) ++ 32 :: r := by rw [hd]; simp
 have e2 : bs p ++ 58 :: 32 :: r = a :: (u ++ [58]) ++ 32 :: r := by rw [hd]; simp
 rw [e2, hd] at ht
 rw [e1] at hs
 obtain ⟨h1, h2⟩ := scan_one (t := tk1 2 (colS p)) p1 p2 (by rw [ht]; simp) hs
 rw [scan_blank (Or.inl rfl)] at h2
 exact ⟨h1, h2⟩
theorem scan_int {n : Int} (h0 : 0 <= n) (h1 : n <= 999999999) : Scan (Lib.itoa n) [⟨3, ⟨#[]⟩, n⟩] := by
 obtain ⟨v, rfl⟩ : ∃ v : Nat, n = v := ⟨n.toNat, by omega⟩
 have e : Lib.itoa (v : Int) = Lib.decDigits v := by rw [Lib.itoa, if_neg (by omega)]; rfl
 rw [e]
 obtain ⟨c, u, hc, c1, c2⟩ := dec_head v
 obtain ⟨p1, p2⟩ := dgt_plain (digL_dgt.2 ⟨c1, c2⟩)
 have ht := @tok_int v (by omega)
 rw [hc] at ht ⊢
 exact Scan.one p1 p2 (fun r hr => ht hr)
theorem scan_text {s : ByteArray} (h : textB 40 s = true) : Scan (39 :: (subL 39 [39, 39] (bs s) ++ [39])) [tk1 4 s] := Scan.one (by decide) (by decide) (fun r hr => tok_text h hr)
theorem scan_sym {s : ByteArray} (h : selB s = true) : Scan (35 :: bs s) [tk1 5 s] := Scan.one (by decide) (by decide) (fun r hr => tok_sym h hr)
theorem scan_op {s : ByteArray} (h : s ∈ opsL) : AScan (bs s ++ [32]) [tk1 6 s] := fun r acc ts ha hs => by
 obtain ⟨b, u, e, p1, p2, -⟩ := op_plain (Or.inl h)
 have ht := tok_op h r
 have e1 : bs s ++ [32] ++ r = b :: u ++ 32 :: r := by rw [show bs s = b :: u from e]; simp
 rw [show bs s = b :: u from e] at ht
 rw [e1] at hs
 obtain ⟨h1, h2⟩ := scan_one p1 p2 ht hs
 rw [scan_blank (Or.inl rfl)] at h2
 exact ⟨h1, h2⟩
theorem scan_mark {c : UInt8} (h : oneMark c) : AScan [c] [tk1 7 ⟨#[c]⟩] := AScan.one (u := []) (by rcases h with rfl | rfl | rfl | rfl | rfl | rfl | rfl | rfl <;> decide) (by rcases h with rfl | rfl | rfl | rfl | rfl | rfl | rfl | rfl <;> decide) (fun r => tok_mark h r)
theorem scan_par {s : ByteArray} (h : nameB s = true) : AScan (58 :: (bs s ++ [32])) [tk1 7 colM, tk1 1 s] := fun r acc ts ha hs => by
 have hp : partB s = true := by simp only [nameB, Bool.and_eq_true] at h; exact h.1
 obtain ⟨⟨a, u, hd, hl⟩, -⟩ := part_two hp
 have hne : a ≠ 61 := fun e => by subst e; revert hl; decide
 have e1 : 58 :: (bs s ++ [32]) ++ r = 58 :: [] ++ (bs s ++ (32 :: r)) := by simp
 rw [e1] at hs
 obtain ⟨h1, h2⟩ := scan_one (b := 58) (u := []) (t := tk1 7 colM) (by decide) (by decide) (by rw [hd]; exact tok_col hne _) hs
 obtain ⟨h3, h4⟩ := scan_name h (32 :: r) _ ts (Or.inr ⟨r, Or.inl rfl⟩) (by rw [List.length_append]; exact h1) h2
 rw [scan_blank (Or.inl rfl)] at h4
 rw [List.length_append] at h3
 exact ⟨by simp at h3 ⊢; omega, by rw [List.append_assoc] at h4; exact h4⟩
theorem scan_asg {s : ByteArray} (h : nameB s = true) : AScan (bs s ++ [32, 58, 61, 32]) [tk1 1 s, tk1 7 asgM] := fun r acc ts ha hs => by
 have e1 : bs s ++ [32, 58, 61, 32] ++ r = bs s ++ (32 :: 58 :: 61 :: 32 :: r) := by simp
 rw [e1] at hs
 obtain ⟨h3, h4⟩ := scan_name h _ _ ts (Or.inr ⟨_, Or.inl rfl⟩) ha hs
 rw [scan_blank (Or.inl rfl)] at h4
 obtain ⟨h1, h2⟩ := scan_one (b := 58) (u := [61]) (r := 32 :: r) (t := tk1 7 asgM) (by decide) (by decide) (tok_asg _) h4
 rw [scan_blank (Or.inl rfl)] at h2
 rw [List.length_append] at h1
 exact ⟨by simp at h1 ⊢; omega, by rw [List.append_assoc] at h2; exact h2⟩
/-! ### The bytes of an expression -/
abbrev YF := MExpr -> List UInt8
noncomputable def partY (f : YF) (e : MExpr) (need : Nat) : List UInt8 := if bindE e < need then [40] ++ (f e ++ [41]) else f e
def jn (sep : List UInt8) : List (List UInt8) -> List UInt8
 | [] => []
 | [x] => x
 | x :: y :: l => x ++ (sep ++ jn sep (y :: l))
noncomputable def kwY (f : YF) : List ByteArray -> List MExpr -> List (List UInt8)
 | p :: ps, a :: l => (bs p ++ [58, 32] ++ partY f a 2) :: kwY f ps l
 | _, _ => []
noncomputable def msgY (f : YF) (s : ByteArray) (args : List MExpr) : List UInt8 :=
 if bindM s = 3 then bs s else if bindM s = 2 then bs s ++ [32] ++ partY f (kidE args 0) 3 else jn [32] (kwY f (cutB 58 (stem s)) args)
noncomputable def recvY (f : YF) (e : MExpr) (s : ByteArray) : List UInt8 := partY f e (if bindM s = 3 then 3 else 2)
noncomputable def sendY (f : YF) (k0 : MExpr) (s : ByteArray) (args : List MExpr) : List UInt8 := recvY f k0 s ++ (32 :: msgY f s args)
def parsY : List ByteArray -> List UInt8
 | [] => []
 | s :: l => 58 :: (bs s ++ [32]) ++ parsY l
def varsY (l : List ByteArray) : List UInt8 := if l = [] then [] else [124] ++ ([32] ++ (jn [32] (l.map bs) ++ (32 :: ([124] ++ [32]))))
noncomputable def blockY (f : YF) (e : MExpr) : List UInt8 :=
 [91] ++ (parsY (e.names.take e.number.toNat) ++ ((if e.number = 0 then [] else [124] ++ [32]) ++ (varsY (e.names.drop e.number.toNat) ++ (jn [46, 32] (e.kids.map f) ++ [93]))))
noncomputable def stepY (f : YF) (e : MExpr) : List UInt8 :=
 if e.kind = 1 then Lib.itoa e.number
 else if e.kind = 2 then 39 :: (subL 39 [39, 39] (bs e.text) ++ [39])
 else if e.kind = 3 then 35 :: bs e.text
 else if e.kind = 5 then bs e.text ++ [32, 58, 61, 32] ++ f (kidE e.kids 0)
 else if e.kind = 6 then sendY f (kidE e.kids 0) e.text e.kids.tail
 else if e.kind = 7 then recvY f (kidE e.kids 0) (kidE e.kids 1).text ++ (32 :: jn [59, 32] (e.kids.tail.map fun m => msgY f m.text m.kids))
 else if e.kind = 8 then blockY f e
 else if e.kind = 9 then [94] ++ ([32] ++ f (kidE e.kids 0))
 else bs e.text
noncomputable def txE : Nat -> YF
 | 0 => fun _ => []
 | n + 1 => stepY (txE n)
theorem part_scan {f : YF} {g : TF} {e : MExpr} (h : Scan (f e) (g e)) (need : Nat) : Scan (partY f e need) (partE g e need) := by
 unfold partY partE
 split
 · exact (scan_mark (c := 40) (Or.inl rfl)).then ((h.appA (fun r => Or.inr ⟨r, Or.inr (Or.inl rfl)⟩) (scan_mark (c := 41) (Or.inr (Or.inl rfl)))).scan)
 · exact h
theorem kw_scan {f : YF} {g : TF} : ∀ (ps : List ByteArray) (l : List MExpr), ps.length = l.length -> (∀ p, p ∈ ps -> partB p = true) -> (∀ z, z ∈ l -> Scan (f z) (g z)) -> Scan (jn [32] (kwY f ps l)) (kwT g ps l)
 | [], [], _, _, _ => AScan.nil.scan
 | [p], [a], _, hp, hz => by
  have h := (scan_kw (hp p (by simp))).then (part_scan (hz a (by simp)) 2)
  show Scan (bs p ++ [58, 32] ++ partY f a 2) (tk1 2 (colS p) :: (partE g a 2 ++ []))
  rw [List.append_nil]
  exact h
 | p :: q :: ps, a :: b :: l, hl, hp, hz => by
  have h := (scan_kw (hp p (by simp))).then (part_scan (hz a (by simp)) 2)
  have IH := kw_scan (q :: ps) (b :: l) (by simpa using hl) (fun x hx => hp x (by simp at hx ⊢; exact Or.inr hx)) (fun x hx => hz x (by simp at hx ⊢; exact Or.inr hx))
  have := h.app (Q := [32] ++ jn [32] (kwY f (q :: ps) (b :: l))) (fun r => gap_blank _ r) (AScan.blank.then IH)
  show Scan (bs p ++ [58, 32] ++ partY f a 2 ++ ([32] ++ jn [32] (kwY f (q :: ps) (b :: l)))) (tk1 2 (colS p) :: (partE g a 2 ++ kwT g (q :: ps) (b :: l)))
  simpa using this
 | [], _ :: _, hl, _, _ => by simp at hl
 | _ :: _, [], hl, _, _ => by simp at hl
 | [_], _ :: _ :: _, hl, _, _ => by simp at hl
 | _ :: _ :: _, [_], hl, _, _ => by simp at hl
theorem cut_parts {s : ByteArray} (h : kwB s = true) : ∀ p, p ∈ cutB 58 (stem s) -> partB p = true := by
 simp only [kwB, Bool.and_eq_true] at h
 exact fun p hp => (allB_iff.1 h.2.1) p hp
theorem msg_scan {f : YF} {g : TF} {s : ByteArray} {l : List MExpr} (hl : (l.length : Int) = argsB s) (hz : ∀ z, z ∈ l -> Scan (f z) (g z)) : Scan (msgY f s l) (msgT g s l) := by
 unfold msgY msgT
 rcases bindM_cases s with hb | hb | hb
 · rw [if_neg (by omega), if_neg (by omega), if_neg (by omega), if_neg (by omega)]
   obtain ⟨hp, hk⟩ := kw_parts hb (by omega)
   exact kw_scan _ _ (by omega) (cut_parts hk) hz
 · rw [if_neg (by omega), if_pos hb, if_neg (by omega), if_pos hb]
   have ho := (bindM_args.2.1 hb)
   match l, hl with
   | [], hl => simp at hl; omega
   | z :: l, _ => exact (scan_op (hasB_iff.1 ho.2)).then (part_scan (hz z (by simp)) 3)
 · rw [if_pos hb, if_pos hb]
   obtain ⟨ha, ho⟩ := bindM_args.1 hb
   have hn : nameB s = true := by
    unfold argsB at ha
    rw [if_neg (by rw [ho]; decide)] at ha
    split at ha
    · assumption
    · split at ha
      · rename_i hk
        have : (cutB 58 (stem s)) ≠ [] := by unfold cutB; simpa using cutGo_ne 58 _ []
        have := List.length_pos_iff.2 this
        omega
      · omega
   exact scan_name hn
theorem send_scan {f : YF} {g : TF} {k0 : MExpr} {s : ByteArray} {l : List MExpr} (hl : (l.length : Int) = argsB s) (h0 : Scan (f k0) (g k0)) (hz : ∀ z, z ∈ l -> Scan (f z) (g z)) : Scan (sendY f k0 s l) (sendT g k0 s l) := by
 have := (part_scan h0 (if bindM s = 3 then 3 else 2)).app (Q := [32] ++ msgY f s l) (fun r => gap_blank _ r) (AScan.blank.then (msg_scan hl hz))
 simpa [sendY, sendT, recvY, recvT] using this
theorem sep_scan {f : YF} {g : TF} : ∀ l : List MExpr, (∀ z, z ∈ l -> Scan (f z) (g z)) -> Scan (jn [46, 32] (l.map f)) (sepT g l)
 | [], _ => AScan.nil.scan
 | [x], h => h x (by simp)
 | x :: y :: l, h => by
  have IH := sep_scan (y :: l) (fun z hz => h z (by simp at hz ⊢; exact Or.inr hz))
  have := (h x (by simp)).app (Q := [46] ++ ([32] ++ jn [46, 32] ((y :: l).map f))) (fun r => Or.inr ⟨_, Or.inr (Or.inr (Or.inr (Or.inl rfl)))⟩) ((scan_mark (c := 46) (by unfold oneMark; simp)).then (AScan.blank.then IH))
  show Scan (f x ++ ([46, 32] ++ jn [46, 32] ((y :: l).map f))) (g x ++ tk1 7 dotM :: sepT g (y :: l))
  simpa [dotM] using this
theorem msgs_scan {f : YF} {g : TF} : ∀ (m : MExpr) (l : List MExpr), (∀ x, x ∈ m :: l -> (x.kids.length : Int) = argsB x.text /\ ∀ z, z ∈ x.kids -> Scan (f z) (g z)) -> Scan (jn [59, 32] ((m :: l).map fun m => msgY f m.text m.kids)) (msgT g m.text m.kids ++ msgsT g l)
 | m, [], h => by
  obtain ⟨h1, h2⟩ := h m (by simp)
  show Scan (msgY f m.text m.kids) (msgT g m.text m.kids ++ [])
  rw [List.append_nil]
  exact msg_scan h1 h2
 | m, y :: l, h => by
  obtain ⟨h1, h2⟩ := h m (by simp)
  have IH := msgs_scan y l (fun x hx => h x (by simp at hx ⊢; exact Or.inr hx))
  have := (msg_scan h1 h2).app (Q := [59] ++ ([32] ++ jn [59, 32] ((y :: l).map fun m => msgY f m.text m.kids))) (fun r => Or.inr ⟨_, Or.inr (Or.inr (Or.inr (Or.inr rfl)))⟩) ((scan_mark (c := 59) (by unfold oneMark; simp)).then (AScan.blank.then IH))
  show Scan (msgY f m.text m.kids ++ ([59, 32] ++ jn [59, 32] ((y :: l).map fun m => msgY f m.text m.kids))) (msgT g m.text m.kids ++ (tk1 7 semiM :: (msgT g y.text y.kids ++ msgsT g l)))
  simpa [semiM] using this
theorem pars_scan : ∀ l : List ByteArray, (∀ s, s ∈ l -> nameB s = true) -> AScan (parsY l) (parsT l)
 | [], _ => AScan.nil
 | s :: l, h => (scan_par (h s (by simp))).app (pars_scan l (fun x hx => h x (by simp [hx])))
theorem names_scan : ∀ l : List ByteArray, (∀ s, s ∈ l -> nameB s = true) -> Scan (jn [32] (l.map bs)) (l.map (tk1 1))
 | [], _ => AScan.nil.scan
 | [x], h => scan_name (h x (by simp))
 | x :: y :: l, h => by
  have IH := names_scan (y :: l) (fun z hz => h z (by simp at hz ⊢; exact Or.inr hz))
  have := (scan_name (h x (by simp))).app (Q := [32] ++ jn [32] ((y :: l).map bs)) (fun r => gap_blank _ r) (AScan.blank.then IH)
  show Scan (bs x ++ ([32] ++ jn [32] ((y :: l).map bs))) (tk1 1 x :: (y :: l).map (tk1 1))
  simpa using this
theorem vars_scan (l : List ByteArray) (h : ∀ s, s ∈ l -> nameB s = true) : AScan (varsY l) (varsT l) := by
 unfold varsY varsT
 split
 · exact AScan.nil
 · have k := (names_scan l h).appA (Q := [32] ++ ([124] ++ [32])) (fun r => gap_blank _ r) (AScan.blank.app ((scan_mark (c := 124) (by unfold oneMark; simp)).app AScan.blank))
   have := (scan_mark (c := 124) (by unfold oneMark; simp)).app (AScan.blank.app k)
   simpa [barM] using this
theorem block_scan {f : YF} {g : TF} {e : MExpr} (hn : ∀ s, s ∈ e.names -> nameB s = true) (hz : ∀ z, z ∈ e.kids -> Scan (f z) (g z)) : Scan (blockY f e) (blockT g e) := by
 have h1 := pars_scan (e.names.take e.number.toNat) (fun s hs => hn s (List.mem_of_mem_take hs))
 have h2 := vars_scan (e.names.drop e.number.toNat) (fun s hs => hn s (List.mem_of_mem_drop hs))
 have h3 := (sep_scan e.kids hz).appA (Q := [93]) (fun r => Or.inr ⟨r, Or.inr (Or.inr (Or.inl rfl))⟩) (scan_mark (c := 93) (by unfold oneMark; simp))
 have h4 : AScan (if e.number = 0 then [] else [124] ++ [32]) (if e.number = 0 then [] else [tk1 7 barM]) := by
  split
  · exact AScan.nil
  · have := (scan_mark (c := 124) (by unfold oneMark; simp)).app AScan.blank
    simpa [barM] using this
 have := (scan_mark (c := 91) (by unfold oneMark; simp)).app (h1.app (h4.app (h2.app h3)))
 exact this.scan
theorem scan_all : ∀ (n : Nat) (e : MExpr), okR n true e -> Scan (txE n e) (tkE n e)
 | 0, e, h => absurd h id
 | n + 1, e, h => by
  have hhd := (okR_succ.1 h).1.1
  obtain ⟨n1, n2, hbd, c1, c2, c3, c4, c5, c6, c7, c8, c9⟩ := hhd
  have IH : ∀ z, okR n false z -> Scan (txE n z) (tkE n z) := fun z hz => scan_all n z (okR_false.1 hz).2
  show Scan (stepY (txE n) e) (stepT (tkE n) e)
  unfold stepY stepT
  by_cases h1 : e.kind = 1
  · rw [if_pos h1, if_pos h1]; exact scan_int (c1 h1).2.1.1 (c1 h1).2.1.2
  rw [if_neg h1, if_neg h1]
  by_cases h2 : e.kind = 2
  · rw [if_pos h2, if_pos h2]; exact scan_text (c2 h2).1
  rw [if_neg h2, if_neg h2]
  by_cases h3 : e.kind = 3
  · rw [if_pos h3, if_pos h3]; exact scan_sym (c3 h3).1
  rw [if_neg h3, if_neg h3]
  by_cases h5 : e.kind = 5
  · rw [if_pos h5, if_pos h5]
    obtain ⟨hn, hlen⟩ := c5 h5
    have hk := ((okR_plain (by omega) (by omega)).1 h).2
    obtain ⟨z, hz⟩ : ∃ z, e.kids = [z] := List.length_eq_one_iff.1 hlen
    rw [hz]
    exact (scan_asg hn).then (IH z (hk z (by rw [hz]; simp)))
  rw [if_neg h5, if_neg h5]
  by_cases h6 : e.kind = 6
  · rw [if_pos h6, if_pos h6]
    obtain ⟨k0, l, he, hl, hk, hz⟩ := send_ok h6 h
    rw [he]
    exact send_scan hl (IH k0 hk) (fun z hz2 => IH z (hz z hz2))
  rw [if_neg h6, if_neg h6]
  by_cases h7 : e.kind = 7
  · rw [if_pos h7, if_pos h7]
    obtain ⟨k0, m, l, he, -, hk, hm⟩ := casc_ok h7 h
    rw [he]
    have hms := msgs_scan (f := txE n) (g := tkE n) m l (fun x hx => ⟨(hm x hx).2.1, fun z hz => IH z ((hm x hx).2.2 z hz)⟩)
    have := (part_scan (IH k0 hk) (if bindM m.text = 3 then 3 else 2)).app (Q := [32] ++ jn [59, 32] ((m :: l).map fun m => msgY (txE n) m.text m.kids)) (fun r => gap_blank _ r) (AScan.blank.then hms)
    show Scan (recvY (txE n) k0 m.text ++ (32 :: jn [59, 32] ((m :: l).map fun m => msgY (txE n) m.text m.kids))) (recvT (tkE n) k0 m.text ++ msgT (tkE n) m.text m.kids ++ msgsT (tkE n) l)
    simpa [recvY, recvT] using this
  rw [if_neg h7, if_neg h7]
  by_cases h8 : e.kind = 8
  · rw [if_pos h8, if_pos h8]
    obtain ⟨-, b1, b2⟩ := (okR_block h8).1 h
    refine block_scan (c8 h8).1 (fun x hx => ?_)
    obtain ⟨i, hi, rfl⟩ := List.mem_iff_getElem.1 hx
    by_cases hl : i + 1 < e.kids.length
    · exact IH _ (b1 _ (List.mem_iff_getElem.2 ⟨i, by rw [List.length_take]; omega, by simp⟩))
    · have : i = e.kids.length - 1 := by omega
      subst this
      exact scan_all n _ (b2 (by omega))
  rw [if_neg h8, if_neg h8]
  by_cases h9 : e.kind = 9
  · rw [if_pos h9, if_pos h9]
    obtain ⟨-, hlen⟩ := c9 h9
    have hk := ((okR_plain (by omega) (by omega)).1 h).2
    obtain ⟨z, hz⟩ : ∃ z, e.kids = [z] := List.length_eq_one_iff.1 hlen
    rw [hz]
    have := (scan_mark (c := 94) (by unfold oneMark; simp)).then (AScan.blank.then (IH z (hk z (by rw [hz]; simp))))
    exact this
  rw [if_neg h9, if_neg h9]
  exact scan_name (c4 (by omega)).1
theorem toks_tx {n : Nat} {e : MExpr} (h : okR n true e) {ts : List MToken} (ht : toksL (mkB (txE n e)) = some ts) : ts = tkE n e := by
 unfold toksL at ht
 split at ht
 · cases ht
 · rw [data_mkB] at ht
   obtain ⟨h1, h2⟩ := scan_all n e h [] [] ts (Or.inl rfl) (by simp) (by rw [List.append_nil]; exact ht)
   rw [scan_nil] at h2
   injection h2 with h2
   rw [List.nil_append] at h2
   exact h2.symm
def jpart (l : List ByteArray) (s : ByteArray) (k : Nat) : List UInt8 := Lib.join ((l.take k).map (·.data.toList)) s.data.toList
theorem jpart_all (l : List ByteArray) (s : ByteArray) : jpart l s l.length = Lib.join (l.map (·.data.toList)) s.data.toList := by simp [jpart]
theorem jpart_bound {l : List ByteArray} {s : ByteArray} (hl : l.length <= 1048576) (hs : s.size <= 1048576) (hm : Lib.lens (l.map (·.data.toList)) <= 1048576) : (jpart l s l.length).length <= 140737488355328 := by
 rw [jpart_all]
 cases l with
 | nil => simp [Lib.join_nil]
 | cons x r =>
  rw [List.map_cons, Lib.join_cons, List.length_append, Lib.joinTail_length, List.length_map]
  simp only [Lib.lens, List.map_cons, List.sum_cons] at hm
  have e : s.data.toList.length = s.size := by simp
  have h1 : s.data.toList.length * r.length <= 1048576 * 1048576 := Nat.mul_le_mul (by omega) (by simp at hl; omega)
  simp only [Lib.lens]
  omega
def joinB (l : List ByteArray) (s : ByteArray) : ByteArray := if (jpart l s l.length).length <= 1048576 then ⟨(jpart l s l.length).toArray⟩ else ⟨#[]⟩
theorem mkB_app (a b : List UInt8) : mkB (a ++ b) = mkB a ++ mkB b := by
 apply ByteArray.ext
 simp [mkB, ByteArray.data_append]
theorem mkB_bs (s : ByteArray) : mkB (bs s) = s := mkB_data s
theorem bs_len (s : ByteArray) : (bs s).length = s.size := Array.length_toList
theorem jn_join (sep : List UInt8) : ∀ l : List (List UInt8), jn sep l = Lib.join l sep
 | [] => rfl
 | [x] => (Lib.join_one x sep).symm
 | x :: y :: l => by
  rw [jn, jn_join sep (y :: l)]
  simp [Lib.join, List.intercalate, List.intersperse]
theorem jn_len (sep : List UInt8) : ∀ l : List (List UInt8), (jn sep l).length <= (l.map fun x => x.length + sep.length).sum
 | [] => by simp [jn]
 | [x] => by simp [jn]
 | x :: y :: l => by
  have h := jn_len sep (y :: l)
  simp only [jn, List.length_append, List.map_cons, List.sum_cons] at h ⊢
  omega
theorem jn_lens {sep : List UInt8} : ∀ l : List (List UInt8), Lib.lens l <= (jn sep l).length
 | [] => by simp [jn, Lib.lens]
 | [x] => by simp [jn, Lib.lens]
 | x :: y :: l => by
  have h := jn_lens (sep := sep) (y :: l)
  rw [jn, List.length_append, List.length_append]
  simp only [Lib.lens, List.map_cons, List.sum_cons] at h ⊢
  omega
theorem bsmk (l : List (List UInt8)) : (l.map mkB).map (·.data.toList) = l := by
 rw [List.map_map]
 conv => rhs; rw [<- List.map_id l]
 exact List.map_congr_left fun x _ => data_mkB x
theorem jpart_jn (sep : List UInt8) (l : List (List UInt8)) : jpart (l.map mkB) (mkB sep) (l.map mkB).length = jn sep l := by
 rw [jpart_all, bsmk, data_mkB, jn_join]
theorem joinB_jn {sep : List UInt8} {l : List (List UInt8)} (h : (jn sep l).length <= 1048576) : joinB (l.map mkB) (mkB sep) = mkB (jn sep l) := by
 unfold joinB
 rw [jpart_jn, if_pos h]
 rfl
/-! ### How long a text is -/
def wtL (l : List MExpr) : Nat := l.length + D.bulkL (l.map MExpr.d)
theorem wtL_cons (z : MExpr) (l : List MExpr) : wtL (z :: l) = z.d.bulk + 1 + wtL l := by
 simp only [wtL, List.length_cons, List.map_cons, D.bulkL]; omega
theorem wtL_mem {z : MExpr} {l : List MExpr} (h : z ∈ l) : z.d.bulk + 1 <= wtL l := by
 have := D.bulkL_mem (List.mem_map_of_mem (f := MExpr.d) h)
 have : 0 < l.length := List.length_pos_of_mem h
 unfold wtL; omega
def nmL (l : List ByteArray) : Nat := l.length + D.bulkL (l.map .str)
theorem nmL_cons (s : ByteArray) (l : List ByteArray) : nmL (s :: l) = s.size + 1 + nmL l := by
 simp only [nmL, List.length_cons, List.map_cons, D.bulkL, D.bulk]; omega
theorem nmL_app : ∀ (a b : List ByteArray), nmL (a ++ b) = nmL a + nmL b
 | [], b => by simp [nmL, D.bulkL]
 | x :: a, b => by rw [List.cons_append, nmL_cons, nmL_cons, nmL_app a b]; omega
def Len (f : YF) (z : MExpr) : Prop := (f z).length <= 128 * z.d.bulk + 100
theorem part_len {f : YF} {z : MExpr} (h : Len f z) (need : Nat) : (partY f z need).length <= 128 * z.d.bulk + 102 := by
 unfold Len at h
 unfold partY
 split
 · simp only [List.length_append, List.length_cons, List.length_nil]
   omega
 · omega
theorem kw_len {f : YF} : ∀ (ps : List ByteArray) (l : List MExpr), (∀ z, z ∈ l -> Len f z) -> ((kwY f ps l).map fun x => x.length + ([32] : List UInt8).length).sum <= nmL ps + 128 * wtL l
 | p :: ps, a :: l, h => by
  have ih := kw_len ps l fun z hz => h z (by simp [hz])
  have hp := part_len (h a (by simp)) 2
  rw [kwY, List.map_cons, List.sum_cons, nmL_cons, wtL_cons]
  simp only [List.length_append, List.length_cons, List.length_nil, bs_len] at ih ⊢
  omega
 | [], l, _ => by simp [kwY]
 | p :: ps, [], _ => by simp [kwY]
theorem cat_size : ∀ l : List ByteArray, (catS l).size = nmL l
 | [] => rfl
 | p :: l => by
  rw [catS, ByteArray.size_append, colS, ByteArray.size_append, cat_size l, nmL_cons]
  rfl
theorem msg_len {f : YF} {s : ByteArray} {l : List MExpr} (hl : (l.length : Int) = argsB s) (h : ∀ z, z ∈ l -> Len f z) : (msgY f s l).length <= s.size + 3 + 128 * wtL l := by
 unfold msgY
 rcases bindM_cases s with hb | hb | hb
 · rw [if_neg (by omega), if_neg (by omega)]
   have h1 := (kw_parts hb (by omega)).2
   have h2 := cat_size (cutB 58 (stem s))
   rw [kw_cat h1] at h2
   have h3 := kw_len (cutB 58 (stem s)) l h
   have h4 := jn_len [32] (kwY f (cutB 58 (stem s)) l)
   omega
 · rw [if_neg (by omega), if_pos hb]
   have ha := (bindM_args.2.1 hb).1
   match l, hl, h with
   | [], hl, _ => simp at hl; omega
   | z :: l, _, h =>
    have hp := part_len (h z (by simp)) 3
    rw [wtL_cons]
    show (bs s ++ [32] ++ partY f z 3).length <= _
    simp only [List.length_append, List.length_cons, List.length_nil, bs_len]
    omega
 · rw [if_pos hb, bs_len]
   omega
theorem pars_len : ∀ l : List ByteArray, (parsY l).length <= 3 * nmL l
 | [] => by simp [parsY]
 | s :: l => by
  have := pars_len l
  rw [parsY, nmL_cons]
  simp only [List.length_append, List.length_cons, List.length_nil, bs_len]
  omega
theorem names_len (l : List ByteArray) : (jn [32] (l.map bs)).length <= nmL l := by
 have h := jn_len [32] (l.map bs)
 have : ∀ l : List ByteArray, ((l.map bs).map fun x => x.length + ([32] : List UInt8).length).sum <= nmL l := fun l => by
  induction l with
  | nil => simp
  | cons s l ih =>
   rw [List.map_cons, List.map_cons, List.sum_cons, nmL_cons, bs_len]
   simp only [List.length_cons, List.length_nil] at ih ⊢
   omega
 have := this l
 omega
theorem vars_len (l : List ByteArray) : (varsY l).length <= nmL l + 6 := by
 unfold varsY
 split
 · simp
 · have := names_len l
   simp only [List.length_append, List.length_cons, List.length_nil]
   omega
theorem sep_len {f : YF} : ∀ l : List MExpr, (∀ z, z ∈ l -> Len f z) -> (jn [46, 32] (l.map f)).length <= 128 * wtL l := fun l h => by
 have h1 := jn_len [46, 32] (l.map f)
 have : ∀ l : List MExpr, (∀ z, z ∈ l -> Len f z) -> ((l.map f).map fun x => x.length + ([46, 32] : List UInt8).length).sum <= 128 * wtL l := fun l => by
  induction l with
  | nil => intro _; simp
  | cons z l ih =>
   intro h
   have h2 := ih fun y hy => h y (by simp [hy])
   have h3 := h z (by simp)
   unfold Len at h3
   rw [List.map_cons, List.map_cons, List.sum_cons, wtL_cons]
   simp only [List.length_cons, List.length_nil] at h2 ⊢
   omega
 have := this l h
 omega
theorem msgs_len {f : YF} : ∀ l : List MExpr, (∀ m, m ∈ l -> (m.kids.length : Int) = argsB m.text /\ ∀ z, z ∈ m.kids -> Len f z) -> (jn [59, 32] (l.map fun m => msgY f m.text m.kids)).length <= 128 * wtL l := fun l h => by
 have h1 := jn_len [59, 32] (l.map fun m => msgY f m.text m.kids)
 have : ∀ l : List MExpr, (∀ m, m ∈ l -> (m.kids.length : Int) = argsB m.text /\ ∀ z, z ∈ m.kids -> Len f z) -> ((l.map fun m => msgY f m.text m.kids).map fun x => x.length + ([59, 32] : List UInt8).length).sum <= 128 * wtL l := fun l => by
  induction l with
  | nil => intro _; simp
  | cons z l ih =>
   intro h
   have h2 := ih fun y hy => h y (by simp [hy])
   obtain ⟨h3, h4⟩ := h z (by simp)
   have h5 := msg_len h3 h4
   have h6 := MExpr.bulk_eq z
   have h7 : wtL z.kids = z.kids.length + D.bulkL (z.kids.map MExpr.d) := rfl
   rw [List.map_cons, List.map_cons, List.sum_cons, wtL_cons]
   simp only [List.length_cons, List.length_nil] at h2 ⊢
   omega
 have := this l h
 omega
theorem sub_len (l : List UInt8) : (subL 39 [39, 39] l).length <= 2 * l.length := by
 induction l with
 | nil => simp [subL]
 | cons b l ih =>
  simp only [subL, List.length_cons]
  split <;> simp only [List.length_append, List.length_cons, List.length_nil] <;> omega
theorem nmL_split (n : Nat) (l : List ByteArray) : nmL (l.take n) + nmL (l.drop n) = nmL l := by rw [<- nmL_app, List.take_append_drop]
theorem tx_len : ∀ (n : Nat) (e : MExpr), okR n true e -> Len (txE n) e
 | 0, e, h => absurd h id
 | n + 1, e, h => by
  have hhd := (okR_succ.1 h).1.1
  obtain ⟨n1, n2, hbd, c1, c2, c3, c4, c5, c6, c7, c8, c9⟩ := hhd
  have IH : ∀ z, okR n false z -> Len (txE n) z := fun z hz => tx_len n z (okR_false.1 hz).2
  have hb := MExpr.bulk_eq e
  have hw : wtL e.kids = e.kids.length + D.bulkL (e.kids.map MExpr.d) := rfl
  have hn : nmL e.names = e.names.length + D.bulkL (e.names.map .str) := rfl
  show (stepY (txE n) e).length <= _
  unfold stepY
  by_cases h1 : e.kind = 1
  · rw [if_pos h1]
    obtain ⟨-, ⟨g1, g2⟩, -⟩ := c1 h1
    have := Lib.itoa_length_le e.number (by omega) (by omega)
    omega
  rw [if_neg h1]
  by_cases h2 : e.kind = 2
  · rw [if_pos h2]
    have := sub_len (bs e.text)
    simp only [List.length_append, List.length_cons, List.length_nil, bs_len] at this ⊢
    omega
  rw [if_neg h2]
  by_cases h3 : e.kind = 3
  · rw [if_pos h3]
    simp only [List.length_cons, bs_len]
    omega
  rw [if_neg h3]
  by_cases h5 : e.kind = 5
  · rw [if_pos h5]
    obtain ⟨-, hlen⟩ := c5 h5
    have hk := ((okR_plain (by omega) (by omega)).1 h).2
    obtain ⟨z, hz⟩ : ∃ z, e.kids = [z] := List.length_eq_one_iff.1 hlen
    have h0 := IH z (hk z (by rw [hz]; simp))
    unfold Len at h0
    rw [hz] at hw ⊢
    rw [wtL_cons] at hw
    show (bs e.text ++ [32, 58, 61, 32] ++ txE n z).length <= _
    simp only [List.length_append, List.length_cons, List.length_nil, bs_len]
    rw [hz] at hb
    omega
  rw [if_neg h5]
  by_cases h6 : e.kind = 6
  · rw [if_pos h6]
    obtain ⟨k0, l, he, hl, hk, hz⟩ := send_ok h6 h
    have h0 := part_len (IH k0 hk) (if bindM e.text = 3 then 3 else 2)
    have hm := msg_len (f := txE n) hl (fun z hz2 => IH z (hz z hz2))
    have hk2 : e.kids = k0 :: l := by rw [he]
    rw [hk2] at hw hb ⊢
    rw [wtL_cons] at hw
    show (partY (txE n) k0 (if bindM e.text = 3 then 3 else 2) ++ (32 :: msgY (txE n) e.text l)).length <= _
    simp only [List.length_append, List.length_cons]
    omega
  rw [if_neg h6]
  by_cases h7 : e.kind = 7
  · rw [if_pos h7]
    obtain ⟨k0, m, l, he, -, hk, hm⟩ := casc_ok h7 h
    have h0 := part_len (IH k0 hk) (if bindM m.text = 3 then 3 else 2)
    have hms := msgs_len (f := txE n) (m :: l) (fun x hx => ⟨(hm x hx).2.1, fun z hz => IH z ((hm x hx).2.2 z hz)⟩)
    have hk2 : e.kids = k0 :: m :: l := by rw [he]; rfl
    rw [hk2] at hw hb ⊢
    rw [wtL_cons] at hw
    show (partY (txE n) k0 (if bindM m.text = 3 then 3 else 2) ++ (32 :: jn [59, 32] ((m :: l).map fun m => msgY (txE n) m.text m.kids))).length <= _
    simp only [List.length_append, List.length_cons] at hms ⊢
    omega
  rw [if_neg h7]
  by_cases h8 : e.kind = 8
  · rw [if_pos h8]
    obtain ⟨-, b1, b2⟩ := (okR_block h8).1 h
    have hs := sep_len (f := txE n) e.kids (fun x hx => by
     obtain ⟨i, hi, rfl⟩ := List.mem_iff_getElem.1 hx
     by_cases hl : i + 1 < e.kids.length
     · exact IH _ (b1 _ (List.mem_iff_getElem.2 ⟨i, by rw [List.length_take]; omega, by simp⟩))
     · have : i = e.kids.length - 1 := by omega
       subst this
       exact tx_len n _ (b2 (by omega)))
    have hp := pars_len (e.names.take e.number.toNat)
    have hv := vars_len (e.names.drop e.number.toNat)
    have hsp := nmL_split e.number.toNat e.names
    unfold blockY
    simp only [List.length_append, List.length_cons, List.length_nil]
    have : (if e.number = 0 then ([] : List UInt8) else [124] ++ [32]).length <= 2 := by split <;> simp
    omega
  rw [if_neg h8]
  by_cases h9 : e.kind = 9
  · rw [if_pos h9]
    obtain ⟨-, hlen⟩ := c9 h9
    have hk := ((okR_plain (by omega) (by omega)).1 h).2
    obtain ⟨z, hz⟩ : ∃ z, e.kids = [z] := List.length_eq_one_iff.1 hlen
    have h0 := IH z (hk z (by rw [hz]; simp))
    unfold Len at h0
    rw [hz] at hw hb ⊢
    rw [wtL_cons] at hw
    show ([94] ++ ([32] ++ txE n z)).length <= _
    simp only [List.length_append, List.length_cons, List.length_nil]
    omega
  rw [if_neg h9, bs_len]
  omega
theorem bs_ne {s : ByteArray} (h : partB s = true) : bs s ≠ [] := fun e => by
 obtain ⟨⟨a, u, hd, -⟩, -⟩ := part_two h
 rw [hd] at e; cases e
theorem tx_ne : ∀ (n : Nat) (e : MExpr), okR n true e -> txE n e ≠ []
 | 0, e, h => absurd h id
 | n + 1, e, h => by
  have hhd := (okR_succ.1 h).1.1
  obtain ⟨n1, n2, hbd, c1, c2, c3, c4, c5, c6, c7, c8, c9⟩ := hhd
  show stepY (txE n) e ≠ []
  unfold stepY
  by_cases h1 : e.kind = 1
  · rw [if_pos h1]
    obtain ⟨-, ⟨g1, g2⟩, -⟩ := c1 h1
    obtain ⟨v, hv⟩ : ∃ v : Nat, e.number = v := ⟨e.number.toNat, by omega⟩
    rw [hv, show Lib.itoa (v : Int) = Lib.decDigits v by rw [Lib.itoa, if_neg (by omega)]; rfl]
    obtain ⟨c, u, hc, -⟩ := dec_head v
    rw [hc]; simp
  rw [if_neg h1]
  by_cases h2 : e.kind = 2
  · rw [if_pos h2]; simp
  rw [if_neg h2]
  by_cases h3 : e.kind = 3
  · rw [if_pos h3]; simp
  rw [if_neg h3]
  by_cases h5 : e.kind = 5
  · rw [if_pos h5]; simp
  rw [if_neg h5]
  by_cases h6 : e.kind = 6
  · rw [if_pos h6]; unfold sendY; simp
  rw [if_neg h6]
  by_cases h7 : e.kind = 7
  · rw [if_pos h7]; simp
  rw [if_neg h7]
  by_cases h8 : e.kind = 8
  · rw [if_pos h8]; unfold blockY; simp
  rw [if_neg h8]
  by_cases h9 : e.kind = 9
  · rw [if_pos h9]; simp
  rw [if_neg h9]
  have h4 := (c4 (by omega)).1
  simp only [nameB, Bool.and_eq_true] at h4
  exact bs_ne h4.1
theorem strJoin_any (l : List ByteArray) (s : ByteArray) (va : Value) (w : World) (ra : Rep w (strs l) [va]) (hs : s.size <= 1048576) (hl : l.length <= 1048576) (hm : Lib.lens (l.map (·.data.toList)) <= 1048576) (hj : (jpart l s l.length).length <= 1048576) :
 Calls Tryz.prog 34 #[va, .string s] w fun e w' => e = .returned (.string (joinB l s)) /\ Ext w w' := by
 have hb := jpart_bound hl hs hm
 obtain ⟨gp, ra⟩ := ra
 obtain ⟨ao, cap, hv, hc, hcm, -, h⟩ := RepF.sl_iff.1 ra
 simp only [List.cons.injEq, and_true, List.length_map] at hv hc
 subst hv
 have HV : joinB l s = ⟨(jpart l s l.length).toArray⟩ := by unfold joinB; rw [if_pos hj]
 rw [HV]
 rcases h with ⟨h1, -⟩ | ⟨b, o, cells, fp', h1, rfl, rfl, h3, h4, h5⟩
 · have : l = [] := by simpa using h1
   subst this
   refine (Tryz.strings_Join_none ao cap s w).mono ?_
   rintro e w' ⟨rfl, rfl⟩
   exact ⟨rfl, XR _⟩
 · refine (Tryz.strings_Join b o cap l s w (fun j x hx => ?_) h3 (by omega) hc (by rw [<- jpart_all]; exact hb)).mono ?_
   · have := Rep.strs ⟨_, ra⟩
     obtain ⟨ao', ca, ba, oa, g1, -, -, pa, ha⟩ := this
     simp only [List.cons.injEq, and_true, Value.slice.injEq, true_and] at g1
     obtain ⟨rfl, rfl⟩ := g1
     have := pa (by have := (List.getElem?_eq_some_iff.1 hx).1; omega)
     simp only [Option.some.injEq, Addr.mk.injEq, and_true] at this
     obtain ⟨rfl, rfl⟩ := this
     exact ha j x hx
   · rintro e w' ⟨rfl, hx⟩
     exact ⟨by rw [jpart_all], hx⟩
theorem mexpr_shut {w : World} {x : MExpr} {cs : List Value} (h : Rep w x.d cs) : ∃ a1 c1 a2 c2, cs = [.int .i64 x.kind, .string x.text, .int .i64 x.number, .slice a1 x.names.length c1, .slice a2 x.kids.length c2] := by
 obtain ⟨a1, c1, a2, c2, h, -, -⟩ := MExpr.op_en h
 exact ⟨a1, c1, a2, c2, h⟩
theorem tx_size {n : Nat} {x : MExpr} (h : okR n true x) (hb : x.d.bulk <= 5000) : (mkB (txE n x)).size <= 640100 := by
 have := tx_len n x h
 unfold Len at this
 rw [mkB_size]
 omega
def TxtAt (n : Nat) : Prop := ∀ (z : MExpr) (cz : List Value) (w : World), okR n true z -> z.d.bulk <= 5000 -> MaxOk w -> TabOk w -> Rep w z.d cz ->
 Calls Tryz.prog 16 #[.agg cz.toArray] w fun e w' => e = .returned (.string (mkB (txE n z))) /\ Ext w w'
theorem messageBinding_any (s : ByteArray) (w : World) (hs : s.size <= 1048576) (hm : MaxOk w) :
 Calls Tryz.prog 65 #[.string s] w fun e w' => e = .returned (.int .i64 (bindM s : Nat)) /\ Ext w w' := by
 cases hb : hasB opsL s
 · have HB : Hid (bindM s = if argsB s = 0 then 3 else 1) := LH (by unfold bindM; rw [hb]; simp)
   go_enter Tryz.func65, Tryz.ntmps65
   go_wp2_with fail
   refine (isOperator_any s _).mono ?_
   rw [hb]
   rintro e w2 ⟨rfl, hx⟩
   go_wp2_with fail
   refine (impl_CountArgs_any s _ hs (hm.ext hx)).mono ?_
   rintro e w3 ⟨rfl, hx3⟩
   by_cases h0 : argsB s = 0
   · have t := int_eq h0
     go_wp2_with fail
     go_ret
     exact ⟨by rw [HB.out, if_pos h0]; rfl, hx.trans hx3⟩
   · have t := int_ne h0
     go_wp2_with fail
     go_ret
     exact ⟨by rw [HB.out, if_neg h0]; rfl, hx.trans hx3⟩
 · have HB : Hid (bindM s = 2) := LH (by unfold bindM; rw [hb]; simp)
   go_enter Tryz.func65, Tryz.ntmps65
   go_wp2_with fail
   refine (isOperator_any s _).mono ?_
   rw [hb]
   rintro e w2 ⟨rfl, hx⟩
   go_wp2_with fail
   go_ret
   exact ⟨by rw [HB.out]; rfl, hx⟩
theorem binding_any (x : MExpr) (an : Option Addr) (cn : Nat) (ak : Option Addr) (ck : Nat) (w : World) (hs : x.text.size <= 1048576) (hm : MaxOk w) :
 Calls Tryz.prog 103 #[.agg #[.int .i64 x.kind, .string x.text, .int .i64 x.number, .slice an x.names.length cn, .slice ak x.kids.length ck]] w fun e w' => e = .returned (.int .i64 (bindE x : Nat)) /\ Ext w w' := by
 by_cases h5 : x.kind = 5
 · have HB : Hid (bindE x = 0) := LH (by unfold bindE; rw [if_pos (by omega)])
   rw [h5]
   go_enter Tryz.func103, Tryz.ntmps103
   go_wp2_with fail
   go_ret
   exact ⟨by rw [HB.out]; rfl, (XR _).alloc _⟩
 by_cases h7 : x.kind = 7
 · have HB : Hid (bindE x = 0) := LH (by unfold bindE; rw [if_pos (by omega)])
   rw [h7]
   go_enter Tryz.func103, Tryz.ntmps103
   go_wp2_with fail
   go_ret
   exact ⟨by rw [HB.out]; rfl, (XR _).alloc _⟩
 by_cases h9 : x.kind = 9
 · have HB : Hid (bindE x = 0) := LH (by unfold bindE; rw [if_pos (by omega)])
   rw [h9]
   go_enter Tryz.func103, Tryz.ntmps103
   go_wp2_with fail
   go_ret
   exact ⟨by rw [HB.out]; rfl, (XR _).alloc _⟩
 by_cases h6 : x.kind = 6
 · have HB : Hid (bindE x = bindM x.text) := LH (by unfold bindE; rw [if_neg (by omega), if_pos h6])
   clear h5 h7 h9
   rw [h6]
   go_enter Tryz.func103, Tryz.ntmps103
   go_wp2_with fail
   refine (messageBinding_any x.text _ hs (hm.ext ((XR _).alloc _))).mono ?_
   rintro e w2 ⟨rfl, hx⟩
   go_wp2_with fail
   go_ret
   exact ⟨by rw [HB.out]; rfl, ((XR _).alloc _).trans hx⟩
 have HB : Hid (bindE x = 4) := LH (by unfold bindE; rw [if_neg (by omega), if_neg h6])
 have t5 := int_ne h5
 have t7 := int_ne h7
 have t9 := int_ne h9
 have t6 := int_ne h6
 clear h5 h6 h7 h9
 go_enter Tryz.func103, Tryz.ntmps103
 go_wp2_with fail
 go_ret
 exact ⟨by rw [HB.out]; rfl, (XR _).alloc _⟩
theorem part_any (n : Nat) (IH : Hid (TxtAt n)) (x : MExpr) (cz : List Value) (w : World) (need : Nat) (hn : need <= 4) (hz : okR n true x) (hb : x.d.bulk <= 5000) (hm : MaxOk w) (ht : TabOk w) (rz : Rep w x.d cz) :
 Calls Tryz.prog 66 #[.agg cz.toArray, .int .i64 need] w fun e w' => e = .returned (.string (mkB (partY (txE n) x need))) /\ Ext w w' := by
 have hts := Nat.le_trans (MExpr.bulk_text x) hb
 have C1 : Hid (∀ W, Ext w W -> Calls Tryz.prog 16 #[.agg cz.toArray] W fun e w' => e = .returned (.string (mkB (txE n x))) /\ Ext W w') := LH fun W hW => IH.out x cz W hz hb (hm.ext hW) (ht.ext hW) (Rep.ext hW rz)
 obtain ⟨an, cn, ak, ck, rfl⟩ := mexpr_shut rz
 have HSZ := tx_size hz hb
 clear rz IH
 by_cases hlt : bindE x < need
 · have HV : Hid (mkB (partY (txE n) x need) = ⟨#[40]⟩ ++ mkB (txE n x) ++ ⟨#[41]⟩) := LH (by
    unfold partY
    rw [if_pos hlt, mkB_app, mkB_app, <- ByteArray.append_assoc]
    rfl)
   have t : (bindE x : Int) < need := by omega
   generalize mkB (txE n x) = J at *
   go_enter Tryz.func66, Tryz.ntmps66
   go_upto_region 1 with fail
   generalize hS : World.alloc w _ = W1
   have x1 : Ext w W1 := by rw [<- hS]; exact (XR _).alloc _
   have m0 : W1.cell? ⟨w.heap.size, 0, none⟩ = some (.int .i64 x.kind) := by rw [<- hS]; simp <;> assumption
   have m1 : W1.cell? ⟨w.heap.size, 1, none⟩ = some (.string x.text) := by rw [<- hS]; simp <;> assumption
   have m2 : W1.cell? ⟨w.heap.size, 2, none⟩ = some (.int .i64 x.number) := by rw [<- hS]; simp <;> assumption
   have m3 : W1.cell? ⟨w.heap.size, 3, none⟩ = some (.slice an x.names.length cn) := by rw [<- hS]; simp <;> assumption
   have m4 : W1.cell? ⟨w.heap.size, 4, none⟩ = some (.slice ak x.kids.length ck) := by rw [<- hS]; simp <;> assumption
   clear hS
   go_wp2_with fail
   refine (C1.out _ x1).mono ?_
   rintro e w2 ⟨rfl, hx2⟩
   replace m0 := Ext.cell hx2 m0
   replace m1 := Ext.cell hx2 m1
   replace m2 := Ext.cell hx2 m2
   replace m3 := Ext.cell hx2 m3
   replace m4 := Ext.cell hx2 m4
   go_wp2_with fail
   refine (binding_any x _ _ _ _ _ (by omega) (hm.ext (x1.trans hx2))).mono ?_
   rintro e w3 ⟨rfl, hx3⟩
   go_wp2_with fail
   go_ret
   exact ⟨by rw [HV.out]; rfl, (x1.trans hx2).trans hx3⟩
 · have HV : Hid (mkB (partY (txE n) x need) = mkB (txE n x)) := LH (by unfold partY; rw [if_neg hlt])
   have t : ¬ (bindE x : Int) < need := by omega
   have t2 : (need : Int) <= bindE x := by omega
   go_enter Tryz.func66, Tryz.ntmps66
   go_upto_region 1 with fail
   generalize hS : World.alloc w _ = W1
   have x1 : Ext w W1 := by rw [<- hS]; exact (XR _).alloc _
   have m0 : W1.cell? ⟨w.heap.size, 0, none⟩ = some (.int .i64 x.kind) := by rw [<- hS]; simp <;> assumption
   have m1 : W1.cell? ⟨w.heap.size, 1, none⟩ = some (.string x.text) := by rw [<- hS]; simp <;> assumption
   have m2 : W1.cell? ⟨w.heap.size, 2, none⟩ = some (.int .i64 x.number) := by rw [<- hS]; simp <;> assumption
   have m3 : W1.cell? ⟨w.heap.size, 3, none⟩ = some (.slice an x.names.length cn) := by rw [<- hS]; simp <;> assumption
   have m4 : W1.cell? ⟨w.heap.size, 4, none⟩ = some (.slice ak x.kids.length ck) := by rw [<- hS]; simp <;> assumption
   clear hS
   go_wp2_with fail
   refine (C1.out _ x1).mono ?_
   rintro e w2 ⟨rfl, hx2⟩
   replace m0 := Ext.cell hx2 m0
   replace m1 := Ext.cell hx2 m1
   replace m2 := Ext.cell hx2 m2
   replace m3 := Ext.cell hx2 m3
   replace m4 := Ext.cell hx2 m4
   go_wp2_with fail
   refine (binding_any x _ _ _ _ _ (by omega) (hm.ext (x1.trans hx2))).mono ?_
   rintro e w3 ⟨rfl, hx3⟩
   go_wp2_with fail
   go_ret
   exact ⟨by rw [HV.out]; rfl, (x1.trans hx2).trans hx3⟩
theorem receiverText_any (n : Nat) (IH : Hid (TxtAt n)) (x : MExpr) (cz : List Value) (s : ByteArray) (w : World) (hs : s.size <= 1048576) (hz : okR n true x) (hb : x.d.bulk <= 5000) (hm : MaxOk w) (ht : TabOk w) (rz : Rep w x.d cz) :
 Calls Tryz.prog 32 #[.agg cz.toArray, .string s] w fun e w' => e = .returned (.string (mkB (recvY (txE n) x s))) /\ Ext w w' := by
 have C1 : Hid (∀ (need : Nat) W, need <= 4 -> Ext w W -> Calls Tryz.prog 66 #[.agg cz.toArray, .int .i64 need] W fun e w' => e = .returned (.string (mkB (partY (txE n) x need))) /\ Ext W w') := LH fun need W hn hW => part_any n IH x cz W need hn hz hb (hm.ext hW) (ht.ext hW) (Rep.ext hW rz)
 obtain ⟨an, cn, ak, ck, rfl⟩ := mexpr_shut rz
 clear rz IH
 by_cases h3 : bindM s = 3
 · have HV : Hid (recvY (txE n) x s = partY (txE n) x 3) := LH (by unfold recvY; rw [if_pos h3])
   have t := int_eq (show (bindM s : Int) = 3 by omega)
   go_enter Tryz.func32, Tryz.ntmps32
   go_upto_region 1 with fail
   generalize hS : World.alloc w _ = W1
   have x1 : Ext w W1 := by rw [<- hS]; exact (XR _).alloc _
   have m0 : W1.cell? ⟨w.heap.size, 0, none⟩ = some (.int .i64 x.kind) := by rw [<- hS]; simp <;> assumption
   have m1 : W1.cell? ⟨w.heap.size, 1, none⟩ = some (.string x.text) := by rw [<- hS]; simp <;> assumption
   have m2 : W1.cell? ⟨w.heap.size, 2, none⟩ = some (.int .i64 x.number) := by rw [<- hS]; simp <;> assumption
   have m3 : W1.cell? ⟨w.heap.size, 3, none⟩ = some (.slice an x.names.length cn) := by rw [<- hS]; simp <;> assumption
   have m4 : W1.cell? ⟨w.heap.size, 4, none⟩ = some (.slice ak x.kids.length ck) := by rw [<- hS]; simp <;> assumption
   clear hS
   go_wp2_with fail
   refine (messageBinding_any s _ hs (hm.ext x1)).mono ?_
   rintro e w2 ⟨rfl, hx2⟩
   replace m0 := Ext.cell hx2 m0
   replace m1 := Ext.cell hx2 m1
   replace m2 := Ext.cell hx2 m2
   replace m3 := Ext.cell hx2 m3
   replace m4 := Ext.cell hx2 m4
   go_wp2_with fail
   refine (C1.out 3 _ (by decide) (x1.trans hx2)).mono ?_
   rintro e w3 ⟨rfl, hx3⟩
   go_wp2_with fail
   go_ret
   exact ⟨by rw [HV.out]; rfl, (x1.trans hx2).trans hx3⟩
 · have HV : Hid (recvY (txE n) x s = partY (txE n) x 2) := LH (by unfold recvY; rw [if_neg h3])
   have t := int_ne (show ¬ (bindM s : Int) = 3 by omega)
   go_enter Tryz.func32, Tryz.ntmps32
   go_upto_region 1 with fail
   generalize hS : World.alloc w _ = W1
   have x1 : Ext w W1 := by rw [<- hS]; exact (XR _).alloc _
   have m0 : W1.cell? ⟨w.heap.size, 0, none⟩ = some (.int .i64 x.kind) := by rw [<- hS]; simp <;> assumption
   have m1 : W1.cell? ⟨w.heap.size, 1, none⟩ = some (.string x.text) := by rw [<- hS]; simp <;> assumption
   have m2 : W1.cell? ⟨w.heap.size, 2, none⟩ = some (.int .i64 x.number) := by rw [<- hS]; simp <;> assumption
   have m3 : W1.cell? ⟨w.heap.size, 3, none⟩ = some (.slice an x.names.length cn) := by rw [<- hS]; simp <;> assumption
   have m4 : W1.cell? ⟨w.heap.size, 4, none⟩ = some (.slice ak x.kids.length ck) := by rw [<- hS]; simp <;> assumption
   clear hS
   go_wp2_with fail
   refine (messageBinding_any s _ hs (hm.ext x1)).mono ?_
   rintro e w2 ⟨rfl, hx2⟩
   replace m0 := Ext.cell hx2 m0
   replace m1 := Ext.cell hx2 m1
   replace m2 := Ext.cell hx2 m2
   replace m3 := Ext.cell hx2 m3
   replace m4 := Ext.cell hx2 m4
   go_wp2_with fail
   refine (C1.out 2 _ (by decide) (x1.trans hx2)).mono ?_
   rintro e w3 ⟨rfl, hx3⟩
   go_wp2_with fail
   go_ret
   exact ⟨by rw [HV.out]; rfl, (x1.trans hx2).trans hx3⟩
theorem variablesText_any (l : List ByteArray) (v : Value) (w : World) (hl : nmL l <= 100000) (rl : Rep w (strs l) [v]) :
 Calls Tryz.prog 35 #[v] w fun e w' => e = .returned (.string (mkB (varsY l))) /\ Ext w w' := by
 have RL := LH rl
 obtain ⟨ao, ca, ba, oa, h1, -⟩ := Rep.slmap rl
 clear rl
 simp only [List.cons.injEq, and_true] at h1
 subst h1
 by_cases h0 : l = []
 · subst h0
   go_enter Tryz.func35, Tryz.ntmps35
   go_wp2_with fail
   go_ret
   exact ⟨rfl, XR _⟩
 have h0l : ¬ (l.length : Int) = 0 := by have := List.length_pos_iff.2 h0; omega
 have t := int_ne h0l
 have hnl : l.length <= nmL l := by unfold nmL; omega
 have HJ : Hid ((jn [32] (l.map bs)).length <= nmL l) := LH (names_len l)
 have HB : Hid (l = (l.map bs).map mkB) := LH (by rw [List.map_map]; conv => lhs; rw [<- List.map_id l]
                                                  exact List.map_congr_left fun s _ => (mkB_bs s).symm)
 have HV : Hid (mkB (varsY l) = ⟨#[124, 32]⟩ ++ mkB (jn [32] (l.map bs)) ++ ⟨#[32, 124, 32]⟩) := LH (by
  unfold varsY
  rw [if_neg h0, mkB_app, mkB_app, mkB_app, show (32 :: ([124] ++ [32]) : List UInt8) = [32, 124, 32] from rfl, <- ByteArray.append_assoc, <- ByteArray.append_assoc]
  rfl)
 have HE : Hid (joinB l ⟨#[32]⟩ = mkB (jn [32] (l.map bs))) := LH (by
  have h := joinB_jn (sep := [32]) (l := l.map bs) (by have := HJ.out; omega)
  rw [<- HB.out] at h
  exact h)
 have HLN : Hid (Lib.lens (l.map (·.data.toList)) <= 1048576) := LH (by
  have h := jn_lens (sep := [32]) (l.map bs)
  have := HJ.out
  exact Nat.le_trans h (by omega))
 have HJP : Hid ((jpart l ⟨#[32]⟩ l.length).length <= 1048576) := LH (by
  have h := jpart_jn [32] (l.map bs)
  rw [<- HB.out] at h
  have := HJ.out
  rw [show (⟨#[32]⟩ : ByteArray) = mkB [32] from rfl, h]
  omega)
 have HZ : (mkB (jn [32] (l.map bs))).size <= 100000 := by rw [mkB_size]; have := HJ.out; omega
 clear h0 h0l HJ HB
 generalize mkB (jn [32] (l.map bs)) = J at *
 go_enter Tryz.func35, Tryz.ntmps35
 go_wp2_with fail
 refine (strJoin_any l ⟨#[32]⟩ _ _ RL.out (by decide) (by omega) HLN.out HJP.out).mono ?_
 rw [HE.out]
 rintro e w2 ⟨rfl, hx2⟩
 go_wp2_with fail
 go_ret
 exact ⟨by rw [HV.out]; rfl, hx2⟩
theorem partsOf_rep (s : ByteArray) (w : World) (hk : kwB s = true) (hs : s.size <= 1048576) (hm : MaxOk w) :
 Calls Tryz.prog 67 #[.string s] w fun e w' => ∃ v, e = .returned v /\ Ext w w' /\ Rep w' (strs (cutB 58 (stem s))) [v] := by
 have hkk := hk
 simp only [kwB, Bool.and_eq_true] at hkk
 obtain ⟨hc, hall0, h40⟩ := hkk
 have h4' : (cutB 58 (stem s)).length <= 4 := by simpa using h40
 clear h40 hk
 go_enter Tryz.func67, Tryz.ntmps67
 go_wp2_with fail
 refine (Tryz.strings_HasSuffix _ _ _ (by omega)).mono ?_
 have e1 : Lib.hasSuffix s.data.toList (⟨#[58]⟩ : ByteArray).data.toList = true := hc
 rw [e1]
 clear e1
 rintro e w' ⟨rfl, rfl⟩
 have HC := LH hc; clear hc
 have h0 : 1 <= s.size := by
  obtain ⟨l, hl⟩ := colB_iff.1 HC.out
  have := congrArg List.length hl
  simp at this; have e : s.data.size = s.size := rfl; omega
 have f1 : (0 : Int) <= (s.size : Int) - 1 := by omega
 go_wp2_with fail
 refine (strings_Split_one (stem s) 58 _ (by have : (stem s).size <= s.size := by (unfold stem; simp)
                                             omega) hm).mono ?_
 rintro e w1 ⟨rfl, hw1⟩
 have hlen : (cutB 58 (stem s)).length <= 1048577 := by
  have h1 := cutB_le 58 (stem s)
  have : (stem s).size <= s.size := by unfold stem; simp
  omega
 have hne : cutB 58 (stem s) ≠ [] := fun h => by have := cutB_length 58 (stem s); rw [h] at this; simp at this
 obtain ⟨ao, n, cap, fp, e1, hr, hf, hx⟩ := gives_strs w' (cutB 58 (stem s)) 9 (by simp only [maxLen]; omega) hne
 rw [<- hw1] at hr hf hx
 simp only [Ending.returned.injEq, Value.slice.injEq] at e1
 obtain ⟨rfl, rfl, rfl⟩ := e1
 have HR := LH hr.rep
 obtain ⟨ao, ca, ba, oa, h1, hla, hma, pa, ha⟩ := hr.rep.strs
 simp only [List.cons.injEq, and_true, true_and, Value.slice.injEq] at h1
 obtain ⟨rfl, rfl⟩ := h1
 have HALL := LH hall0
 clear hall0
 have HS : Hid (∀ x, x ∈ cutB 58 (stem s) -> x.size <= 9223372036854775806) := LH fun x h => by
  have := cutB_mem h
  have : (stem s).size <= s.size := by unfold stem; simp
  omega
 generalize hL : cutB 58 (stem s) = L at *
 have HL := LH hL
 clear hL hr hf hw1
 unfold maxLen at hma
 go_wp2_with fail
 go_loop [5, 17] (fun xv i => ∃ k : Nat, k <= L.length /\ i = .int .i64 k) (fun _ i => L.length - (intOf i).toNat)
 case atStart => exact ⟨0, Nat.zero_le _, rfl⟩
 case round =>
  obtain ⟨k, hk, rfl⟩ := hrel
  by_cases hlt : k < L.length
  · have hp1 := pa (by omega)
    simp only [Option.some.injEq, Addr.mk.injEq, and_true] at hp1
    obtain ⟨rfl, rfl⟩ := hp1
    have a0 := ha k L[k] (by simp [hlt])
    simp only [Nat.zero_add] at a0
    have hsz := HS.out _ (List.getElem_mem hlt)
    have HP : Hid (partB L[k] = true) := LH (by
     have := HALL.out
     cases hp : partB L[k]
     · rw [allB_ff (List.getElem_mem hlt) hp] at this; cases this
     · rfl)
    clear ha pa
    go_wp2_with fail
    refine (isPart_any _ _ hsz).mono ?_
    rw [HP.out]
    rintro e w' ⟨rfl, rfl⟩
    go_wp2_with fail
    go_round
    case rel => exact ⟨k + 1, by omega, by go_num⟩
    case measure => simp [intOf]; omega
  · have t4 : ((4 : Int) < (L.length : Int)) = False := by simp; omega
    have t5 : (L.length : Int) <= 4 := by omega
    go_wp2_with fail
    go_ret
    exact ⟨_, rfl, hx, by rw [HL.out]; exact HR.out⟩
end Go.Proofs.YtndhpbjhkgdieaaGreatDoor
