/-
  SEVERAL TEXTS IN ONE: CONTRACTS: parts of Tokens: numbers, of the reference; CONTRACTS: parts of Tokens: a symbol, of the reference; CONTRACTS: none: plain facts of Tokens; CONTRACTS: parts of Tokens: marks; CONTRACTS: plain texts, IsValue, of the program and of the reference; A ROW OF BYTES THAT A CALL GATHERS: what it owns.
  Conditions: those that each lemma states.
-/
import Derived.Test.YtndhpbjhkgdieaaGreatDoorRows
import Derived.Lib.AppendStr
import Derived.Test.YtndhpbjhkgdieaaGreatDoorP09
import Derived.Test.YtndhpbjhkgdieaaGreatDoorP02
namespace Go.Proofs.YtndhpbjhkgdieaaGreatDoor
open Go.RowKit
set_option maxHeartbeats 8000000
set_option maxRecDepth 100000
set_option linter.unusedSimpArgs false
set_option linter.unusedVariables false
def digN : List UInt8 -> Nat
 | [] => 0
 | c :: r => if dgtB (c.toNat : Int) = true then digN r + 1 else 0
def headLtr : List UInt8 -> Bool
 | [] => false
 | c :: _ => ltrB (c.toNat : Int)
def numT (l : List UInt8) : MToken × Nat := if 9 < digN l then noTok else if headLtr (l.drop (digN l)) = true then noTok else (⟨3, ⟨#[]⟩, (valF 0 (l.take (digN l)) : Nat)⟩, digN l)
theorem digN_all : ∀ {l : List UInt8} {j : Nat}, j <= l.length -> (∀ c, c ∈ l.take j -> dgtB (c.toNat : Int) = true) -> digN l = j + digN (l.drop j)
 | l, 0, _, _ => by simp
 | [], j + 1, h, _ => by simp at h
 | c :: r, j + 1, h, hd => by
  have h1 := hd c (by simp)
  have h2 := digN_all (l := r) (j := j) (by simpa using h) (fun x hx => hd x (by simp [hx]))
  rw [digN, if_pos h1, h2, List.drop_succ_cons]; omega
theorem dgt_iff {n : Int} : dgtB n = true ↔ 48 <= n /\ n <= 57 := by unfold dgtB; exact decide_eq_true_iff
theorem l2Number_any (s : ByteArray) (k : Nat) (w : World) (hs : s.size <= 1048576) (hk : k <= s.size) (hd0 : 0 < digN (s.data.toList.drop k)) :
 Calls Tryz.prog 52 #[.string s, .int .i64 k] w fun e w' => e = .returned (.tuple #[tokVal (numT (s.data.toList.drop k)).1, .int .i64 (endV k (numT (s.data.toList.drop k)).2)]) /\ Ext w w' := by
 have p0 : (0 : Int) <= k := by omega
 obtain ⟨L, hL⟩ : ∃ L, L = s.data.toList.drop k := ⟨_, rfl⟩
 have hLl : L.length = s.size - k := by rw [hL]; simp
 have HLL := LH hLl; clear hLl
 rw [<- hL] at hd0 ⊢
 have HL := LH hL; clear hL
 have HD0 := LH hd0; clear hd0
 go_enter Tryz.func52, Tryz.ntmps52
 go_wp2_with fail
 go_loop [6, 7] (fun ev nv => ∃ j : Nat, k + j <= s.size /\ j <= 9 /\ ev = .int .i64 ((k + j : Nat) : Int) /\ nv = .int .i64 (valF 0 (L.take j) : Nat) /\ Hid (∀ c, c ∈ L.take j -> dgtB (c.toNat : Int) = true)) (fun ev _ => s.size - (intOf ev).toNat)
 case atStart => exact ⟨0, by omega, by omega, rfl, by simp [valF_nil], LH (by simp)⟩
 case round =>
  obtain ⟨j, hj, hj9, rfl, rfl, hR⟩ := hrel
  have hdg : digL (L.take j) := fun c hc => by have := dgt_iff.1 (hR.out c hc); omega
  have hvb := val_bd hdg (by rw [List.length_take]; omega)
  have HDG := LH hdg; clear hdg
  have hA := LH (digN_all (l := L) (j := j) (by rw [HLL.out]; omega) hR.out)
  by_cases hlt : k + j < s.size
  · obtain ⟨hb0, hb1⟩ := byte_bd s[k + j]
    have hdrop : L.drop j = s[k + j] :: s.data.toList.drop (k + j + 1) := by rw [HL.out, List.drop_drop, drop_cons hlt]
    have HDR := LH hdrop; clear hdrop
    have htk : L.take (j + 1) = L.take j ++ [s[k + j]] := by
     have h1 : L[j]? = some s[k + j] := by
      have := congrArg List.head? HDR.out
      rw [List.head?_drop] at this
      simpa using this
     rw [List.take_add_one, h1]; rfl
    have HTK := LH htk; clear htk
    cases hq : dgtB (s[k + j].toNat : Int)
    · have hN : Hid (digN L = j) := LH (by rw [hA.out, HDR.out, digN, if_neg (by rw [hq]; exact Bool.false_ne_true), Nat.add_zero])
      have HQ := LH hq; clear hq
      have hH : Hid (headLtr (L.drop (digN L)) = ltrB (s[k + j].toNat : Int)) := LH (by rw [hN.out, HDR.out]; rfl)
      have HX : Hid (j ≠ 0) := LH (by have := HD0.out; rw [hN.out] at this; omega)
      cases hl : ltrB (s[k + j].toNat : Int)
      · have hT : Hid (numT L = (⟨3, ⟨#[]⟩, (valF 0 (L.take j) : Nat)⟩, j)) := LH (by rw [numT, if_neg (by rw [hN.out]; omega), if_neg (by rw [hH.out, hl]; exact Bool.false_ne_true), hN.out])
        have HLt := LH hl; clear hl
        go_wp2_with fail
        refine (l2Digit_any _ _ hb0 hb1).mono ?_
        rw [HQ.out]
        rintro e w' ⟨rfl, rfl⟩
        go_wp2_with fail
        refine (l2Letter_any _ _ hb0 hb1).mono ?_
        rw [HLt.out]
        rintro e w' ⟨rfl, rfl⟩
        go_wp2_with fail
        refine bodyPost_ret (v := .tuple #[.agg #[.int .i64 3, .string ⟨#[]⟩, .int .i64 (valF 0 (L.take j) : Nat)], .int .i64 ((k + j : Nat) : Int)]) (by simp [results, Tryz.results52, go_sem]) rfl ⟨?_, ?_⟩
        · rw [hT.out]
          simp only [tokVal, endV]
          rw [if_neg HX.out]
        · (repeat (first | exact XR _ | refine Ext.alloc ?_ _ | refine Ext.setCell ?_ (by first | exact Nat.le_refl _ | (simp; done) | (simp; omega)) _))
      · have hT : Hid (numT L = noTok) := LH (by rw [numT, if_neg (by rw [hN.out]; omega), if_pos (by rw [hH.out, hl])])
        have HLt := LH hl; clear hl
        go_wp2_with fail
        refine (l2Digit_any _ _ hb0 hb1).mono ?_
        rw [HQ.out]
        rintro e w' ⟨rfl, rfl⟩
        go_wp2_with fail
        refine (l2Letter_any _ _ hb0 hb1).mono ?_
        rw [HLt.out]
        rintro e w' ⟨rfl, rfl⟩
        go_wp2_with fail
        refine bodyPost_ret (v := .tuple #[.agg #[.int .i64 0, .string ⟨#[]⟩, .int .i64 0], .int .i64 0]) (by simp [results, Tryz.results52, go_sem]) rfl ⟨?_, ?_⟩
        · rw [hT.out]; rfl
        · (repeat (first | exact XR _ | refine Ext.alloc ?_ _ | refine Ext.setCell ?_ (by first | exact Nat.le_refl _ | (simp; done) | (simp; omega)) _))
    · have hqd := dgt_iff.1 hq
      obtain ⟨d0, d1⟩ := hqd
      have hN : Hid (j + 1 <= digN L) := LH (by rw [hA.out, HDR.out, digN, if_pos hq]; omega)
      have HV : Hid (valF 0 (L.take (j + 1)) = valF 0 (L.take j) * 10 + (s[k + j].toNat - 48)) := LH (by rw [HTK.out, valF_append, valF_cons, valF_nil])
      have HR2 : Hid (∀ c, c ∈ L.take (j + 1) -> dgtB (c.toNat : Int) = true) := LH (by
       rw [HTK.out]; intro c hc
       rcases List.mem_append.1 hc with hc | hc
       · exact hR.out c hc
       · have hc := List.mem_singleton.1 hc; rw [hc]; exact hq)
      have HQ := LH hq; clear hq
      generalize valF 0 (L.take j) = V0 at *
      by_cases h9 : j < 9
      · have t9 : ¬ (9 : Int) < (k : Int) + j + 1 - k := by omega
        go_wp2_with fail
        refine (l2Digit_any _ _ hb0 hb1).mono ?_
        rw [HQ.out]
        rintro e w' ⟨rfl, rfl⟩
        go_wp2_with fail
        go_round
        case rel => exact ⟨j + 1, by omega, by omega, by go_num, by rw [HV.out]; go_num, HR2⟩
        case measure => simp [intOf]; omega
      · have t9 : (9 : Int) < (k : Int) + j + 1 - k := by omega
        have hT : Hid (numT L = noTok) := LH (by rw [numT, if_pos (by have := hN.out; omega)])
        go_wp2_with fail
        refine (l2Digit_any _ _ hb0 hb1).mono ?_
        rw [HQ.out]
        rintro e w' ⟨rfl, rfl⟩
        go_wp2_with fail
        refine bodyPost_ret (v := .tuple #[.agg #[.int .i64 0, .string ⟨#[]⟩, .int .i64 0], .int .i64 0]) (by simp [results, Tryz.results52, go_sem]) rfl ⟨?_, ?_⟩
        · rw [hT.out]; rfl
        · (repeat (first | exact XR _ | refine Ext.alloc ?_ _ | refine Ext.setCell ?_ (by first | exact Nat.le_refl _ | (simp; done) | (simp; omega)) _))
  · have hnil : L.drop j = [] := List.drop_eq_nil_of_le (by rw [HLL.out]; omega)
    have hN : Hid (digN L = j) := LH (by rw [hA.out, hnil]; rfl)
    have hT : Hid (numT L = (⟨3, ⟨#[]⟩, (valF 0 (L.take j) : Nat)⟩, j)) := LH (by rw [numT, if_neg (by rw [hN.out]; omega), if_neg (by rw [hN.out, hnil]; exact Bool.false_ne_true), hN.out])
    have HX : Hid (j ≠ 0) := LH (by have := HD0.out; rw [hN.out] at this; omega)
    clear hnil
    go_wp2_with fail
    refine bodyPost_ret (v := .tuple #[.agg #[.int .i64 3, .string ⟨#[]⟩, .int .i64 (valF 0 (L.take j) : Nat)], .int .i64 ((k + j : Nat) : Int)]) (by simp [results, Tryz.results52, go_sem]) rfl ⟨?_, ?_⟩
    · rw [hT.out]
      simp only [tokVal, endV]
      rw [if_neg HX.out]
    · (repeat (first | exact XR _ | refine Ext.alloc ?_ _ | refine Ext.setCell ?_ (by first | exact Nat.le_refl _ | (simp; done) | (simp; omega)) _))
noncomputable def selT (l : List UInt8) : MToken × Nat :=
 if firstP opsL (mkB l) = ⟨#[]⟩ then
  if headLtr l = true then (if selB (mkB (l.take (symN l))) = true then (⟨5, mkB (l.take (symN l)), 0⟩, symN l) else noTok) else noTok
 else (⟨5, firstP opsL (mkB l), 0⟩, (firstP opsL (mkB l)).size)
theorem suf_mk (s : ByteArray) (k : Nat) : suf s k = mkB (s.data.toList.drop k) := by rw [<- suf_data, mkB_data]
theorem run_ltr {l : List UInt8} (h : headLtr l = true) : runL l ≠ 0 := by
 cases l with
 | nil => cases h
 | cons c r =>
  have h1 : ltrB (c.toNat : Int) = true := h
  have h2 : alnB c = true := by simp [alnB, h1]
  rw [runL, if_pos h2]; omega
theorem ops_small : ∀ x, x ∈ opsL -> x.size <= 1048576 := by
 intro x hx
 simp only [opsL, List.mem_cons, List.not_mem_nil, or_false] at hx
 rcases hx with rfl | rfl | rfl | rfl | rfl | rfl | rfl | rfl | rfl | rfl | rfl | rfl | rfl | rfl | rfl <;> decide
theorem l2Selector_any (s : ByteArray) (k : Nat) (w : World) (hs : s.size <= 1048576) (hk : k <= s.size) :
 Calls Tryz.prog 54 #[.string s, .int .i64 k] w fun e w' => e = .returned (.tuple #[tokVal (selT (s.data.toList.drop k)).1, .int .i64 (endV k (selT (s.data.toList.drop k)).2)]) /\ Ext w w' := by
 have p0 : (0 : Int) <= k := by omega
 have pk : (k : Int) <= s.size := by omega
 go_enter Tryz.func54, Tryz.ntmps54
 go_wp2_with fail
 generalize hW : World.alloc w _ = W1
 have x1 : Ext w W1 := by rw [<- hW]; exact (XR w).alloc _
 have R0 : W1.cell? ⟨w.heap.size, 0, none⟩ = some (.int .i64 0) := by rw [<- hW]; simp
 have R1 : W1.cell? ⟨w.heap.size, 1, none⟩ = some (.string ⟨#[]⟩) := by rw [<- hW]; simp
 have R2 : W1.cell? ⟨w.heap.size, 2, none⟩ = some (.int .i64 0) := by rw [<- hW]; simp
 have F0 : ∀ o, W1.frozen? ⟨w.heap.size, o, none⟩ = false := fun o => by rw [<- hW]; simp
 clear hW
 refine (l2Binaries_any _).mono ?_
 rintro e w1 ⟨ao, n, cap, fp, rfl, hr, hf, hxa⟩
 go_wp2_with fail
 refine (l2Starts_any opsL s k _ _ hr.rep hs hk ops_small).mono ?_
 rintro e w2 ⟨rfl, hxb⟩
 have hx := hxa.trans hxb
 have zz := lt_of_cell R0
 replace R0 := Ext.cell hx R0
 replace R1 := Ext.cell hx R1
 replace R2 := Ext.cell hx R2
 replace F0 := fun o => ((bcell hx).2 w.heap.size o zz).trans (F0 o)
 have R0' := R0
 clear hxa hxb hr hf zz
 have HF : Hid (firstP opsL (mkB (s.data.toList.drop k)) = firstP opsL (suf s k)) := LH (by rw [suf_mk])
 have hfs : (firstP opsL (suf s k)).size <= 1048576 := by
  rcases firstP_mem opsL (suf s k) with h | h
  · rw [h]; decide
  · exact ops_small _ h
 generalize firstP opsL (suf s k) = f at *
 by_cases h : f = ⟨#[]⟩
 rotate_left
 · have t0 : ¬ f.toList = [] := fun e => h (toList_inj (by rw [e]; simp))
   have t1 : f.toList.isEmpty = false := by simpa using t0
   have hN : Hid (selT (s.data.toList.drop k) = (⟨5, f, 0⟩, f.size)) := LH (by rw [selT, HF.out, if_neg h])
   have hnz : f.size ≠ 0 := fun e => h (ByteArray.ext (by apply Array.eq_empty_of_size_eq_zero; exact e))
   clear h t0
   go_wp2_with fail
   refine bodyPost_ret (v := .tuple #[.agg #[.int .i64 5, .string f, .int .i64 0], .int .i64 ((k + f.size : Nat) : Int)]) (by simp [results, Tryz.results54, go_sem, R0, R1, R2, F0]) rfl ⟨?_, ?_⟩
   · rw [hN.out]
     simp only [tokVal, endV]
     rw [if_neg hnz]
   · (repeat refine Ext.setCell ?_ (by omega) _)
     exact x1.trans hx
 subst h
 have HT0 : Hid (selT (s.data.toList.drop k) = if headLtr (s.data.toList.drop k) = true then (if selB (s.extract k (k + symN (s.data.toList.drop k))) = true then (⟨5, s.extract k (k + symN (s.data.toList.drop k)), 0⟩, symN (s.data.toList.drop k)) else noTok) else noTok) := LH (by
  rw [selT, if_pos HF.out, extract_mk, Nat.add_sub_cancel_left])
 clear HF hfs
 by_cases hlt : k < s.size
 rotate_left
 · have q1 : (s.size : Int) <= k := by omega
   have hN : Hid (selT (s.data.toList.drop k) = noTok) := LH (by rw [HT0.out, List.drop_eq_nil_of_le (by simp; have e : s.data.size = s.size := rfl; omega)]; rfl)
   go_wp2_with fail
   refine bodyPost_ret (v := .tuple #[.agg #[.int .i64 0, .string ⟨#[]⟩, .int .i64 0], .int .i64 0]) (by simp [results, Tryz.results54, go_sem, R0, R1, R2, F0]) rfl ⟨?_, ?_⟩
   · rw [hN.out]; rfl
   · (repeat refine Ext.setCell ?_ (by omega) _)
     exact x1.trans hx
 obtain ⟨hb0, hb1⟩ := byte_bd s[k]
 have q1 : ¬ (s.size : Int) <= k := by omega
 have HH : Hid (headLtr (s.data.toList.drop k) = ltrB (s[k].toNat : Int)) := LH (by rw [drop_cons hlt]; rfl)
 cases hl : ltrB (s[k].toNat : Int)
 · have HL := LH hl; clear hl
   have hN : Hid (selT (s.data.toList.drop k) = noTok) := LH (by rw [HT0.out, HH.out, HL.out]; rfl)
   go_wp2_with fail
   refine (l2Letter_any _ _ hb0 hb1).mono ?_
   rw [HL.out]
   rintro e w' ⟨rfl, rfl⟩
   go_wp2_with fail
   refine bodyPost_ret (v := .tuple #[.agg #[.int .i64 0, .string ⟨#[]⟩, .int .i64 0], .int .i64 0]) (by simp [results, Tryz.results54, go_sem, R0, R1, R2, F0]) rfl ⟨?_, ?_⟩
   · rw [hN.out]; rfl
   · (repeat refine Ext.setCell ?_ (by omega) _)
     exact x1.trans hx
 have HL := LH hl; clear hl
 have hr0 := run_ltr (HH.out.trans HL.out)
 have HT : Hid (selT (s.data.toList.drop k) = if selB (s.extract k (k + symN (s.data.toList.drop k))) = true then (⟨5, s.extract k (k + symN (s.data.toList.drop k)), 0⟩, symN (s.data.toList.drop k)) else noTok) := LH (by rw [HT0.out, HH.out, HL.out]; rfl)
 clear HT0
 have hrl : k + runL (s.data.toList.drop k) <= s.size := by have := runL_le (s.data.toList.drop k); simp at this; have e : s.data.size = s.size := rfl; omega
 obtain ⟨m, hm⟩ : ∃ m, runL (s.data.toList.drop k) = m := ⟨_, rfl⟩
 rw [hm] at hrl hr0
 have HM := LH hm; clear hm
 have g1 : (k : Int) <= (k : Int) + m := by omega
 have g2 : (k : Int) + m <= s.size := by omega
 go_wp2_with fail
 refine (l2Letter_any _ _ hb0 hb1).mono ?_
 rw [HL.out]
 rintro e w' ⟨rfl, rfl⟩
 go_wp2_with fail
 refine (l2Run_any s k _ (by omega) hk).mono ?_
 rw [show runAt s k = k + m from by rw [runAt, HM.out]]
 rintro e w' ⟨rfl, rfl⟩
 go_wp2_with fail
 refine (l2Colon_any s (k + m) _ hs hrl).mono ?_
 cases hc : colL (s.data.toList.drop (k + m))
 · have HY : Hid (symN (s.data.toList.drop k) = m) := LH (by rw [symN, HM.out, if_neg hr0, List.drop_drop, if_neg (by rw [hc]; exact Bool.false_ne_true)])
   have HC := LH hc; clear hc
   rintro e w' ⟨rfl, rfl⟩
   go_wp2_with fail
   refine (spec_IsSelector_any (s.extract k (k + m)) _ (by simp; omega)).mono ?_
   cases hq : selB (s.extract k (k + m))
   all_goals
    have HQ := LH hq; clear hq
    rintro e w3 ⟨rfl, hx3⟩
    have xx := hx.trans hx3
    replace R0 := Ext.cell hx3 R0
    replace R1 := Ext.cell hx3 R1
    replace R2 := Ext.cell hx3 R2
    replace F0 := fun o => ((bcell hx3).2 w.heap.size o (lt_of_cell R0')).trans (F0 o)
    clear R0' hx3 hx
   · have hN : Hid (selT (s.data.toList.drop k) = noTok) := LH (by rw [HT.out, HY.out, show k + m = k + m from by omega, if_neg (by rw [HQ.out]; exact Bool.false_ne_true)])
     go_wp2_with fail
     refine bodyPost_ret (v := .tuple #[.agg #[.int .i64 0, .string ⟨#[]⟩, .int .i64 0], .int .i64 0]) (by simp [results, Tryz.results54, go_sem, R0, R1, R2, F0]) rfl ⟨?_, ?_⟩
     · rw [hN.out]; rfl
     · (repeat refine Ext.setCell ?_ (by omega) _)
       exact x1.trans xx
   · have hN : Hid (selT (s.data.toList.drop k) = (⟨5, s.extract k (k + m), 0⟩, m)) := LH (by rw [HT.out, HY.out, show k + m = k + m from by omega, if_pos HQ.out])
     go_wp2_with fail
     refine bodyPost_ret (v := .tuple #[.agg #[.int .i64 5, .string (s.extract k (k + m)), .int .i64 0], .int .i64 ((k + m : Nat) : Int)]) (by simp [results, Tryz.results54, go_sem, R0, R1, R2, F0]) rfl ⟨?_, ?_⟩
     · rw [hN.out]
       simp only [tokVal, endV]
       rw [if_neg (by omega), show k + m = k + m from by omega]
     · (repeat refine Ext.setCell ?_ (by omega) _)
       exact x1.trans xx
 have hlt2 : k + m + 1 <= s.size := by have := colL_pos hc; simp at this; have e : s.data.size = s.size := rfl; omega
 have hy : Hid (symN (s.data.toList.drop k) = (m + 1) + kwL (s.data.toList.drop (k + (m + 1)))) := LH (by
  rw [symN, HM.out, if_neg hr0, List.drop_drop, if_pos hc, kw_yes (by rw [HM.out]; exact hr0) (by rw [HM.out, List.drop_drop]; exact hc), HM.out, List.drop_drop])
 have HC := LH hc; clear hc
 rintro e w' ⟨rfl, rfl⟩
 go_wp2_with fail
 refine (l2Run_any s (k + (m + 1)) _ (by omega) (by omega)).mono ?_
 rintro e w' ⟨rfl, rfl⟩
 go_wp2_with fail
 go_loop [7, 8] (fun ev nv => ∃ a b : Nat, k + a + b <= s.size /\ 0 < a /\ ev = .int .i64 ((k + a : Nat) : Int) /\ nv = .int .i64 ((k + a + b : Nat) : Int) /\ Hid (runL (s.data.toList.drop (k + a)) = b) /\ Hid (symN (s.data.toList.drop k) = a + kwL (s.data.toList.drop (k + a)))) (fun ev _ => s.size - (intOf ev).toNat)
 case atStart => exact ⟨m + 1, runL (s.data.toList.drop (k + (m + 1))), by have := runAt_le (s := s) (k := k + (m + 1)) (by omega); unfold runAt at this; omega, by omega, by go_num, by rw [runAt], LH rfl, hy⟩
 case round =>
  clear g1 g2 hrl hlt2 hy HC HM hr0 HL HH
  obtain ⟨a, b, hab, ha0, rfl, rfl, HB, HR⟩ := hrel
  have g1 : (k : Int) <= (k : Int) + a := by omega
  have g2 : (k : Int) + a <= s.size := by omega
  by_cases hb : b = 0
  · subst hb
    have HY : Hid (symN (s.data.toList.drop k) = a) := LH (by rw [HR.out, kw_no0 HB.out, Nat.add_zero])
    go_wp2_with fail
    refine (spec_IsSelector_any (s.extract k (k + a)) _ (by simp; omega)).mono ?_
    cases hq : selB (s.extract k (k + a))
    all_goals
     have HQ := LH hq; clear hq
     rintro e w3 ⟨rfl, hx3⟩
     have xx := hx.trans hx3
     replace R0 := Ext.cell hx3 R0
     replace R1 := Ext.cell hx3 R1
     replace R2 := Ext.cell hx3 R2
     replace F0 := fun o => ((bcell hx3).2 w.heap.size o (lt_of_cell R0')).trans (F0 o)
     clear R0' hx3 hx
    · have hN : Hid (selT (s.data.toList.drop k) = noTok) := LH (by rw [HT.out, HY.out, show k + a = k + a from by omega, if_neg (by rw [HQ.out]; exact Bool.false_ne_true)])
      go_wp2_with fail
      refine bodyPost_ret (v := .tuple #[.agg #[.int .i64 0, .string ⟨#[]⟩, .int .i64 0], .int .i64 0]) (by simp [results, Tryz.results54, go_sem, R0, R1, R2, F0]) rfl ⟨?_, ?_⟩
      · rw [hN.out]; rfl
      · (repeat refine Ext.setCell ?_ (by omega) _)
        exact x1.trans xx
    · have hN : Hid (selT (s.data.toList.drop k) = (⟨5, s.extract k (k + a), 0⟩, a)) := LH (by rw [HT.out, HY.out, show k + a = k + a from by omega, if_pos HQ.out])
      go_wp2_with fail
      refine bodyPost_ret (v := .tuple #[.agg #[.int .i64 5, .string (s.extract k (k + a)), .int .i64 0], .int .i64 ((k + a : Nat) : Int)]) (by simp [results, Tryz.results54, go_sem, R0, R1, R2, F0]) rfl ⟨?_, ?_⟩
      · rw [hN.out]
        simp only [tokVal, endV]
        rw [if_neg (by omega), show k + a = k + a from by omega]
      · (repeat refine Ext.setCell ?_ (by omega) _)
        exact x1.trans xx
  have g3 : (k : Int) + a < (k : Int) + a + b := by omega
  cases hc : colL (s.data.toList.drop (k + a + b))
  · have HY : Hid (symN (s.data.toList.drop k) = a) := LH (by rw [HR.out, kw_noc (by rw [HB.out, List.drop_drop]; exact hc), Nat.add_zero])
    have HC := LH hc; clear hc
    go_wp2_with fail
    refine (l2Colon_any s (k + a + b) _ hs hab).mono ?_
    rw [HC.out]
    rintro e w' ⟨rfl, rfl⟩
    go_wp2_with fail
    refine (spec_IsSelector_any (s.extract k (k + a)) _ (by simp; omega)).mono ?_
    cases hq : selB (s.extract k (k + a))
    all_goals
     have HQ := LH hq; clear hq
     rintro e w3 ⟨rfl, hx3⟩
     have xx := hx.trans hx3
     replace R0 := Ext.cell hx3 R0
     replace R1 := Ext.cell hx3 R1
     replace R2 := Ext.cell hx3 R2
     replace F0 := fun o => ((bcell hx3).2 w.heap.size o (lt_of_cell R0')).trans (F0 o)
     clear R0' hx3 hx
    · have hN : Hid (selT (s.data.toList.drop k) = noTok) := LH (by rw [HT.out, HY.out, show k + a = k + a from by omega, if_neg (by rw [HQ.out]; exact Bool.false_ne_true)])
      go_wp2_with fail
      refine bodyPost_ret (v := .tuple #[.agg #[.int .i64 0, .string ⟨#[]⟩, .int .i64 0], .int .i64 0]) (by simp [results, Tryz.results54, go_sem, R0, R1, R2, F0]) rfl ⟨?_, ?_⟩
      · rw [hN.out]; rfl
      · (repeat refine Ext.setCell ?_ (by omega) _)
        exact x1.trans xx
    · have hN : Hid (selT (s.data.toList.drop k) = (⟨5, s.extract k (k + a), 0⟩, a)) := LH (by rw [HT.out, HY.out, show k + a = k + a from by omega, if_pos HQ.out])
      go_wp2_with fail
      refine bodyPost_ret (v := .tuple #[.agg #[.int .i64 5, .string (s.extract k (k + a)), .int .i64 0], .int .i64 ((k + a : Nat) : Int)]) (by simp [results, Tryz.results54, go_sem, R0, R1, R2, F0]) rfl ⟨?_, ?_⟩
      · rw [hN.out]
        simp only [tokVal, endV]
        rw [if_neg (by omega), show k + a = k + a from by omega]
      · (repeat refine Ext.setCell ?_ (by omega) _)
        exact x1.trans xx
  have hlt3 : k + a + b + 1 <= s.size := by have := colL_pos hc; simp at this; have e : s.data.size = s.size := rfl; omega
  have hy : Hid (symN (s.data.toList.drop k) = (a + b + 1) + kwL (s.data.toList.drop (k + (a + b + 1)))) := LH (by
   rw [HR.out, kw_yes (by rw [HB.out]; exact hb) (by rw [HB.out, List.drop_drop]; exact hc), HB.out, List.drop_drop, show k + a + (b + 1) = k + (a + b + 1) from by omega]; omega)
  have HC := LH hc; clear hc
  go_wp2_with fail
  refine (l2Colon_any s (k + a + b) _ hs hab).mono ?_
  rw [HC.out]
  rintro e w' ⟨rfl, rfl⟩
  go_wp2_with fail
  refine (l2Run_any s (k + a + b + 1) _ (by omega) (by omega)).mono ?_
  rw [show k + a + b + 1 = k + (a + b + 1) from by omega]
  rintro e w' ⟨rfl, rfl⟩
  go_wp2_with fail
  go_round
  case rel => exact ⟨a + b + 1, runL (s.data.toList.drop (k + (a + b + 1))), by have := runAt_le (s := s) (k := k + (a + b + 1)) (by omega); unfold runAt at this; omega, by omega, by go_num, by rw [runAt], LH rfl, hy⟩
  case measure => simp [intOf]; omega
theorem cutGo_head (c : UInt8) : ∀ s cur : List UInt8, ∃ m xs, cutGo c cur s = (cur ++ m) :: xs
 | [], cur => ⟨[], [], by simp [cutGo]⟩
 | b :: t, cur => by
  by_cases h : b = c
  · exact ⟨[], cutGo c [] t, by simp [cutGo, h]⟩
  · obtain ⟨m, xs, e⟩ := cutGo_head c t (cur ++ [b])
    exact ⟨b :: m, xs, by simp [cutGo, h, e]⟩
theorem part_head {s : ByteArray} (h : partB s = true) : headLtr s.data.toList = true := by
 unfold partB at h
 obtain ⟨_, _, h0, h1, _⟩ := of_decide_eq_true h
 have e := drop_cons (s := s) (k := 0) h0
 rw [List.drop_zero] at e
 rw [e]; exact h1
theorem part_mk {l : List UInt8} (h : partB (mkB l) = true) : headLtr l = true := by
 have := part_head h
 rwa [data_mkB] at this
theorem stem_of {s : ByteArray} {l : List UInt8} (h : s.data.toList = l ++ [58]) : (stem s).data.toList = l := by
 have hl : s.size = l.length + 1 := by
  have := congrArg List.length h
  simpa using this
 rw [stem, extract_mk, data_mkB, h, hl]; simp
theorem kw_head {s : ByteArray} (h : kwB s = true) : headLtr s.data.toList = true := by
 simp only [kwB, Bool.and_eq_true] at h
 obtain ⟨h1, h2, _⟩ := h
 obtain ⟨l, hl⟩ := colB_iff.1 h1
 have hs := stem_of hl
 obtain ⟨m, xs, e⟩ := cutGo_head 58 l []
 have hp : partB (mkB ([] ++ m)) = true := by
  rw [allB_iff] at h2
  apply h2
  rw [cutB, hs, e]; simp
 have hm := part_mk hp
 rw [List.nil_append] at hm
 cases l with
 | nil =>
  simp only [cutGo, List.nil_append, List.cons.injEq] at e
  rw [<- e.1] at hm; cases hm
 | cons a t =>
  by_cases ha : a = 58
  · simp only [cutGo, ha, if_pos, List.nil_append, List.cons.injEq] at e
    rw [<- e.1] at hm; cases hm
  · obtain ⟨m2, xs2, e2⟩ := cutGo_head 58 t [a]
    simp only [cutGo, ha, if_false, List.nil_append] at e
    rw [e2] at e
    simp only [List.cons.injEq] at e
    rw [<- e.1] at hm
    rw [hl]; exact hm
theorem sel_head {s : ByteArray} (h : selB s = true) (ho : hasB opsL s = false) : headLtr s.data.toList = true := by
 simp only [selB, ho, Bool.false_or, Bool.or_eq_true] at h
 rcases h with h | h
 · simp only [nameB, Bool.and_eq_true] at h
   exact part_head h.1
 · exact kw_head h
theorem kw_le : ∀ n (l : List UInt8), l.length <= n -> kwL l <= l.length
 | 0, l, h => by
  have : l = [] := List.length_eq_zero_iff.1 (by omega)
  subst this
  rw [kw_no0 rfl]; simp
 | n + 1, l, h => by
  by_cases h0 : runL l = 0
  · rw [kw_no0 h0]; omega
  · cases hc : colL (l.drop (runL l))
    · rw [kw_noc hc]; omega
    · have h1 := colL_pos hc
      have h2 := kw_le n (l.drop (runL l + 1)) (by rw [List.length_drop]; omega)
      rw [kw_yes h0 hc]
      rw [List.length_drop] at h1 h2
      omega
theorem sym_le (l : List UInt8) : symN l <= l.length := by
 unfold symN
 split
 · omega
 · split
   · exact kw_le _ l (Nat.le_refl _)
   · exact runL_le l
theorem firstP_nil : ∀ {l : List ByteArray} {s : ByteArray}, (∀ x, x ∈ l -> x ≠ ⟨#[]⟩) -> firstP l s = ⟨#[]⟩ -> ∀ x, x ∈ l -> Lib.hasPrefix s.data.toList x.data.toList = false
 | [], _, _, _, x, hx => by simp at hx
 | a :: r, s, hn, h, x, hx => by
  cases hp : Lib.hasPrefix s.data.toList a.data.toList
  · have h' : firstP r s = ⟨#[]⟩ := by simpa [firstP, hp] using h
    rcases List.mem_cons.1 hx with rfl | hx
    · exact hp
    · exact firstP_nil (fun y hy => hn y (List.mem_cons_of_mem _ hy)) h' x hx
  · exact absurd (by simpa [firstP, hp] using h) (hn a List.mem_cons_self)
theorem sel_sym (l : List UInt8) : selT l = if selB (symB l) = true then (⟨5, symB l, 0⟩, (symB l).size) else noTok := by
 unfold selT symB
 by_cases hf : firstP opsL (mkB l) = ⟨#[]⟩
 rotate_left
 · rw [if_neg hf, if_neg hf]
   rcases firstP_mem opsL (mkB l) with h | h
   · exact absurd h hf
   · rw [if_pos (by simp [selB, hasB_tt h])]
 rw [if_pos hf, if_pos hf]
 have ho : hasB opsL (mkB (l.take (symN l))) = false := hasB_ff fun hm => by
  have h := firstP_nil (fun x hx => ops_ne hx) hf _ hm
  rw [data_mkB, data_mkB, Lib.hasPrefix] at h
  have : (l.take (symN l)).isPrefixOf l = true := List.isPrefixOf_iff_prefix.2 (List.take_prefix _ _)
  rw [this] at h; cases h
 have hsz : (mkB (l.take (symN l))).size = symN l := by
  rw [mkB_size, List.length_take]
  have := sym_le l
  omega
 cases hh : headLtr l
 · have hs : selB (mkB (l.take (symN l))) = false := by
    cases hq : selB (mkB (l.take (symN l)))
    · rfl
    · have h := sel_head hq ho
      rw [data_mkB] at h
      cases l with
      | nil => simp [headLtr] at h
      | cons a t =>
       cases hn : symN (a :: t) with
       | zero => rw [hn] at h; simp [headLtr] at h
       | succ n => rw [hn] at h; rw [List.take_succ_cons] at h; exact absurd (h.symm.trans hh) (by simp)
   rw [if_neg Bool.false_ne_true, if_neg (by rw [hs]; exact Bool.false_ne_true)]
 · rw [if_pos rfl, hsz]
def marksL : List ByteArray := [⟨#[58, 61]⟩, ⟨#[94]⟩, ⟨#[46]⟩, ⟨#[59]⟩, ⟨#[91]⟩, ⟨#[93]⟩, ⟨#[40]⟩, ⟨#[41]⟩, ⟨#[124]⟩, ⟨#[58]⟩]
theorem marks_small : ∀ x, x ∈ marksL -> x.size <= 1048576 := by
 intro x hx
 simp only [marksL, List.mem_cons, List.not_mem_nil, or_false] at hx
 rcases hx with rfl | rfl | rfl | rfl | rfl | rfl | rfl | rfl | rfl | rfl <;> decide
theorem l2Marks_any (w : World) : Calls Tryz.prog 47 #[] w (GivesV w (strs marksL)) := by
 go_enter Tryz.func47, Tryz.ntmps47
 go_wp2
 go_ret
 exact gives_strs w marksL 9 (by simp [marksL, maxLen]) (by simp [marksL])
theorem markList_any (w : World) : Calls Tryz.prog 93 #[] w (GivesV w (strs marksL)) := by
 go_enter Tryz.func93, Tryz.ntmps93
 go_wp2
 go_ret
 exact gives_strs w marksL 9 (by simp [marksL, maxLen]) (by simp [marksL])
def TextOk (m : Nat) (s : ByteArray) : Prop := (∀ b, b ∈ s.data.toList -> 32 <= b.toNat /\ b.toNat <= 126) /\ s.size <= m
noncomputable def textB (m : Nat) (s : ByteArray) : Bool := eqB (TextOk m s) True
theorem textB_tt {m : Nat} {s : ByteArray} (h : TextOk m s) : textB m s = true := eqB_tt (by simp [h])
theorem textB_ff {m : Nat} {s : ByteArray} (h : ¬ TextOk m s) : textB m s = false := eqB_ff (by simp [h])
theorem textB_iff {m : Nat} {s : ByteArray} : textB m s = true ↔ TextOk m s := by simp [textB, eqB_iff]
theorem byte_mem {s : ByteArray} {k : Nat} (h : k < s.size) : s[k] ∈ s.data.toList := by
 have : s.data.toList[k]'(by simpa using h) = s[k] := rfl
 rw [<- this]; exact List.getElem_mem _
theorem bytes_all {s : ByteArray} {p : UInt8 -> Prop} (h : ∀ k (hk : k < s.size), p s[k]) : ∀ b, b ∈ s.data.toList -> p b := fun b hb => by
 obtain ⟨k, hk, rfl⟩ := List.mem_iff_getElem.1 hb
 exact h k (by simpa using hk)
theorem l1In_any (n a b : Int) (w : World) : Calls Tryz.prog 74 #[.int .i64 n, .int .i64 a, .int .i64 b] w fun e w' => e = .returned (.bool (decide (a <= n /\ n <= b))) /\ w' = w := by
 go_enter Tryz.func74, Tryz.ntmps74
 go_wp2
 all_goals go_ret
 all_goals exact ⟨ret_bool (by first | rfl | (apply Bool.eq_iff_iff.2; first | (simp; done) | (simp; omega))), rfl⟩
theorem l3IsText_any (s : ByteArray) (w : World) (hs : s.size <= 9223372036854775806) :
 Calls Tryz.prog 75 #[.string s] w fun e w' => e = .returned (.bool (textB 40 s)) /\ w' = w := by
 go_enter Tryz.func75, Tryz.ntmps75
 go_wp2_with fail
 go_loop [3] (fun i => ∃ k : Nat, k <= s.size /\ i = .int .i64 k /\ Hid (∀ j (hj : j < k) (hl : j < s.size), 32 <= s[j].toNat /\ s[j].toNat <= 126)) (fun i => s.size - (intOf i).toNat)
 case atStart => exact ⟨0, Nat.zero_le _, rfl, LH fun j hj => by omega⟩
 case round =>
  obtain ⟨k, hk, rfl, hR⟩ := hrel
  by_cases hlt : k < s.size
  · obtain ⟨hb0, hb1⟩ := byte_bd s[k]
    by_cases hw : (32 : Int) <= (s[k].toNat : Int)
    rotate_left
    · have HW := LH hw
      have hw' : (s[k].toNat : Int) < 32 := by omega
      clear hw
      go_wp2_with fail
      go_ret
      exact ⟨ret_bool (by rw [textB_ff fun h => by have := h.1 _ (byte_mem hlt); have := HW.out; omega]), rfl⟩
    by_cases hv : (s[k].toNat : Int) <= 126
    rotate_left
    · have HV := LH hv
      have hv' : (126 : Int) < (s[k].toNat : Int) := by omega
      clear hv
      go_wp2_with fail
      go_ret
      exact ⟨ret_bool (by rw [textB_ff fun h => by have := h.1 _ (byte_mem hlt); have := HV.out; omega]), rfl⟩
    · have HW := LH hw
      have HV := LH hv
      go_wp2_with fail
      go_round
      case rel => exact ⟨k + 1, by omega, by go_num, LH fun j hj hl => by
       by_cases h : j < k
       · exact hR.out j h hl
       · obtain rfl : j = k := by omega
         have := HW.out; have := HV.out; omega⟩
      case measure => simp [intOf]; omega
  · have hall : Hid (textB 40 s = decide (s.size <= 40)) := LH (by
     have hA : ∀ b, b ∈ s.data.toList -> 32 <= b.toNat /\ b.toNat <= 126 := bytes_all fun j hj => hR.out j (by omega) hj
     rw [Bool.eq_iff_iff, textB_iff]; simp only [TextOk, decide_eq_true_eq]
     exact ⟨fun h => h.2, fun h => ⟨hA, h⟩⟩)
    go_wp2_with fail
    go_ret
    exact ⟨ret_bool (by rw [hall.out]; first | rfl | (apply Bool.eq_iff_iff.2; simp only [decide_eq_true_eq]; omega)), rfl⟩
theorem plainText_any (s : ByteArray) (w : World) (hs : s.size <= 9223372036854775806) :
 Calls Tryz.prog 38 #[.string s] w fun e w' => e = .returned (.bool (textB 40 s)) /\ w' = w := by
 go_enter Tryz.func38, Tryz.ntmps38
 go_wp2_with fail
 go_loop [3] (fun i => ∃ k : Nat, k <= s.size /\ i = .int .i64 k /\ Hid (∀ j (hj : j < k) (hl : j < s.size), 32 <= s[j].toNat /\ s[j].toNat <= 126)) (fun i => s.size - (intOf i).toNat)
 case atStart => exact ⟨0, Nat.zero_le _, rfl, LH fun j hj => by omega⟩
 case round =>
  obtain ⟨k, hk, rfl, hR⟩ := hrel
  by_cases hlt : k < s.size
  · obtain ⟨hb0, hb1⟩ := byte_bd s[k]
    cases hw : decide ((32 : Int) <= (s[k].toNat : Int) /\ (s[k].toNat : Int) <= 126)
    · have HW := LH hw; clear hw
      go_wp2_with fail
      refine (within_any _ _ _ _).mono ?_
      rw [HW.out]
      rintro e w' ⟨rfl, rfl⟩
      go_wp2_with fail
      go_ret
      exact ⟨ret_bool (by rw [textB_ff fun h => by have := h.1 _ (byte_mem hlt); have := of_decide_eq_false HW.out; omega]), rfl⟩
    · have HW := LH hw; clear hw
      go_wp2_with fail
      refine (within_any _ _ _ _).mono ?_
      rw [HW.out]
      rintro e w' ⟨rfl, rfl⟩
      go_wp2_with fail
      go_round
      case rel => exact ⟨k + 1, by omega, by go_num, LH fun j hj hl => by
       by_cases h : j < k
       · exact hR.out j h hl
       · obtain rfl : j = k := by omega
         have := of_decide_eq_true HW.out; omega⟩
      case measure => simp [intOf]; omega
  · have hall : Hid (textB 40 s = decide (s.size <= 40)) := LH (by
     have hA : ∀ b, b ∈ s.data.toList -> 32 <= b.toNat /\ b.toNat <= 126 := bytes_all fun j hj => hR.out j (by omega) hj
     rw [Bool.eq_iff_iff, textB_iff]; simp only [TextOk, decide_eq_true_eq]
     exact ⟨fun h => h.2, fun h => ⟨hA, h⟩⟩)
    go_wp2_with fail
    go_ret
    exact ⟨ret_bool (by rw [hall.out]; first | rfl | (apply Bool.eq_iff_iff.2; simp only [decide_eq_true_eq]; omega)), rfl⟩
def bytesC (l : List UInt8) : List Value := l.map fun b => Value.int .u8 b.toNat
theorem own_some {w : World} {B e n : Nat} {v : Value} {xs : List Value} (h : w.ownsRow B e 1 v n xs) (hv : v ≠ .slice none 0 0) : ∃ b cap, v = .slice (some ⟨b, 0, none⟩) n cap /\ n <= cap := by
 rcases h.2 with ⟨rfl, _⟩ | ⟨g, cap, cur, rfl, _, _, hc, _⟩
 · exact absurd rfl hv
 · exact ⟨g, cap, rfl, hc⟩
theorem own_grown {B : Nat} {w0 w w' : World} {e n size : Nat} {v : Value} {xs : List Value} (h : w.ownsRow B e size v n xs) (hb : Below B w0 w) (hg : w.grownBy w' v.ownBlock) (hB : B <= w.heap.size) : Below B w0 w' :=
 hb.grown hg hB fun k hk => by
  obtain ⟨_, h2⟩ := h
  rcases h2 with ⟨rfl, _⟩ | ⟨g, cap, cur, rfl, hg', _⟩
  · cases hk
  · simp [Value.ownBlock] at hk; omega
theorem u8Info : (Tryz.prog.info? 5).map (fun i => (i.zero, i.size, i.bytes)) = some (some (.int .u8 0), 1, 1) := by kernel_rfl
end Go.Proofs.YtndhpbjhkgdieaaGreatDoor
