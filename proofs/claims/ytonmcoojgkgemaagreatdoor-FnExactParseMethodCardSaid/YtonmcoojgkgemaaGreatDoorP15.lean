/-
  SEVERAL TEXTS IN ONE: CONTRACTS: parts of Tokens: names and keywords, of the reference; CONTRACTS: parts of Tokens: a symbol, of the program; NUMERALS: plain laws; CONTRACTS: parts of Tokens: numbers, of the reference.
  Conditions: those that each lemma states.
-/
import Derived.Test.YtonmcoojgkgemaaGreatDoorRows
import Derived.Deep.RegionHeld3
import Derived.Deep.DeepCutAuto
import Derived.Lib.AtoiAll
import Derived.Test.YtonmcoojgkgemaaGreatDoorP14
import Derived.Test.YtonmcoojgkgemaaGreatDoorFnItoa
namespace Go.Proofs.YtonmcoojgkgemaaGreatDoor
open Go.RowKit
set_option linter.unusedSimpArgs false
set_option linter.unusedVariables false

def tokVal (t : MToken) : Value := .agg #[.int .i64 t.kind, .string t.text, .int .i64 t.number]
def endV (k n : Nat) : Int := if n = 0 then 0 else ((k + n : Nat) : Int)
def noTok : MToken × Nat := (⟨0, ⟨#[]⟩, 0⟩, 0)
def runB (l : List UInt8) : ByteArray := mkB (l.take (runL l))
/-- A name, a word or a keyword that stands at the head; 0: none. -/
noncomputable def nameT (l : List UInt8) : MToken × Nat :=
  if colL (l.drop (runL l)) then (if runL l ≤ 20 then (⟨2, runB l ++ ⟨#[58]⟩, 0⟩, runL l + 1) else noTok)
  else if hasB wordsL (runB l) then (⟨8, runB l, 0⟩, runL l) else if runL l ≤ 20 then (⟨1, runB l, 0⟩, runL l) else noTok
theorem word_len {s : ByteArray} (h : hasB wordsL s = true) : s.size ≤ 11 := by
  have h := hasB_iff.1 h
  simp only [wordsL, List.mem_cons, List.not_mem_nil, or_false] at h
  rcases h with rfl | rfl | rfl | rfl | rfl | rfl | rfl <;> decide

set_option maxHeartbeats 2000000 in
theorem l2Name_any (s : ByteArray) (k : Nat) (w : World) (hs : s.size ≤ 1048576) (hk : k ≤ s.size) (hr0 : 0 < runL (s.data.toList.drop k)) :
    Calls Tryz.prog 97 #[.string s, .int .i64 k] w fun e w' => e = .returned (.tuple #[tokVal (nameT (s.data.toList.drop k)).1, .int .i64 (endV k (nameT (s.data.toList.drop k)).2)]) ∧ Ext w w' := by
  have hE0 : runAt s k = k + runL (s.data.toList.drop k) := rfl
  have hle := runAt_le hk
  have hT : Hid (s.extract k (runAt s k) = runB (s.data.toList.drop k)) := Lib.hid (by rw [extract_mk, hE0, runB]; congr 2; omega)
  have hC : Hid (colL (s.data.toList.drop (runAt s k)) = colL ((s.data.toList.drop k).drop (runL (s.data.toList.drop k)))) := Lib.hid (by rw [List.drop_drop, hE0])
  have hRB : (runB (s.data.toList.drop k)).size = runL (s.data.toList.drop k) := by
    rw [runB, mkB_size, List.length_take]
    have := runL_le (s.data.toList.drop k)
    omega
  have HRB := Lib.hid hRB; clear hRB
  obtain ⟨E, hE⟩ : ∃ E, E = runAt s k := ⟨_, rfl⟩
  rw [← hE] at hE0 hle hT hC
  have l2r := Lib.hid (fun w => l2Run_any s k w (by omega) hk)
  have L2 : Hid (∀ w, Calls Tryz.prog 133 #[.string s, .int .i64 k] w fun e w' => e = .returned (.int .i64 E) ∧ w' = w) := Lib.hid (by rw [hE]; exact l2r.out)
  clear l2r hE
  have kE : k < E := by omega
  have HE0 := Lib.hid hE0; clear hE0
  have p0 : (0 : Int) ≤ k := by omega
  have p1 : (k : Int) ≤ E := by omega
  have p2 : (E : Int) ≤ s.size := by omega
  go_enter Tryz.func97, Tryz.ntmps97
  go_wp2_with fail
  refine (L2.out _).mono ?_
  rintro e w' ⟨rfl, rfl⟩
  go_wp2_with fail
  refine (l2Colon_any s E _ hs hle).mono ?_
  rintro e w' ⟨rfl, rfl⟩
  have EX : ∀ W, W = w ∨ True → True := fun _ _ => trivial
  clear EX
  cases hc : colL (s.data.toList.drop E)
  rotate_left
  · have hE1 : E < s.size := by
      by_cases h : E < s.size
      · exact h
      · rw [List.drop_eq_nil_of_le (by simp; omega)] at hc; cases hc
    have q3 : (E : Int) + 1 ≤ s.size := by omega
    have q4 : (k : Int) ≤ (E : Int) + 1 := by omega
    have HC2 : Hid (colL ((s.data.toList.drop k).drop (runL (s.data.toList.drop k))) = true) := Lib.hid (by rw [← hC.out]; exact hc)
    have HC := Lib.hid hc; clear hc
    by_cases h20 : E - k ≤ 20
    · have t1 : ¬ (21 : Int) < ((min (E + 1) s.size - k : Nat) : Int) := by omega
      have hN : Hid (nameT (s.data.toList.drop k) = (⟨2, runB (s.data.toList.drop k) ++ ⟨#[58]⟩, 0⟩, runL (s.data.toList.drop k) + 1)) := Lib.hid (by
        rw [nameT, if_pos HC2.out, if_pos (by have := HE0.out; omega)])
      go_wp2_with fail
      refine bodyPost_ret (v := .tuple #[.agg #[.int .i64 2, .string (s.extract k E ++ ⟨#[58]⟩), .int .i64 0], .int .i64 (E + 1)]) (by simp [results, Tryz.results97, go_sem]) rfl ⟨?_, ?_⟩
      · rw [hN.out, hT.out]
        simp only [tokVal, endV, Nat.add_eq_zero_iff, Nat.succ_ne_self, and_false, if_false, Nat.one_ne_zero]
        rw [show ((k + (runL (s.data.toList.drop k) + 1) : Nat) : Int) = (E : Int) + 1 from by have := HE0.out; omega]
      · (repeat (first | exact Ext.refl _ | refine Ext.alloc ?_ _ | refine Ext.setCell ?_ (by first | exact Nat.le_refl _ | (simp; done) | (simp; omega)) _))
    · have t1 : (21 : Int) < ((min (E + 1) s.size - k : Nat) : Int) := by omega
      have hN : Hid (nameT (s.data.toList.drop k) = noTok) := Lib.hid (by
        rw [nameT, if_pos HC2.out, if_neg (by have := HE0.out; omega)])
      go_wp2_with fail
      refine bodyPost_ret (v := .tuple #[.agg #[.int .i64 0, .string ⟨#[]⟩, .int .i64 0], .int .i64 0]) (by simp [results, Tryz.results97, go_sem]) rfl ⟨?_, ?_⟩
      · rw [hN.out]; rfl
      · (repeat (first | exact Ext.refl _ | refine Ext.alloc ?_ _ | refine Ext.setCell ?_ (by first | exact Nat.le_refl _ | (simp; done) | (simp; omega)) _))
  · have HC2 : Hid (colL ((s.data.toList.drop k).drop (runL (s.data.toList.drop k))) = false) := Lib.hid (by rw [← hC.out]; exact hc)
    have HC := Lib.hid hc; clear hc
    go_wp2_with fail
    generalize hW : World.alloc (World.alloc w _) _ = W1
    have x1 : Ext w W1 := by rw [← hW]; exact ((Ext.refl w).alloc _).alloc _
    have A0 : W1.cell? ⟨w.heap.size + 1, 0, none⟩ = some (.int .i64 1) := by rw [← hW]; simp
    have A1 : W1.cell? ⟨w.heap.size + 1, 1, none⟩ = some (.string (s.extract k E)) := by rw [← hW]; simp
    have A2 : W1.cell? ⟨w.heap.size + 1, 2, none⟩ = some (.int .i64 0) := by rw [← hW]; simp
    have R0 : W1.cell? ⟨w.heap.size, 0, none⟩ = some (.int .i64 0) := by rw [← hW]; simp
    have R1 : W1.cell? ⟨w.heap.size, 1, none⟩ = some (.string ⟨#[]⟩) := by rw [← hW]; simp
    have R2 : W1.cell? ⟨w.heap.size, 2, none⟩ = some (.int .i64 0) := by rw [← hW]; simp
    have F0 : ∀ o, W1.frozen? ⟨w.heap.size, o, none⟩ = false := fun o => by rw [← hW]; simp
    have F1 : ∀ o, W1.frozen? ⟨w.heap.size + 1, o, none⟩ = false := fun o => by rw [← hW]; simp
    have z1 : w.heap.size + 1 < W1.heap.size := lt_of_cell A0
    clear hW
    have KS : Hid (∀ w'', Ext W1 w'' → w''.cell? ⟨w.heap.size + 1, 1, none⟩ = some (.string (s.extract k E)) ∧ Ext W1 w'') := Lib.hid fun w'' h => ⟨Ext.cell h A1, h⟩
    have hword : Hid (hasB wordsL (s.extract k E) = true → E - k ≤ 11) := Lib.hid fun h => by
      have h1 := word_len h
      rw [hT.out, HRB.out] at h1
      have := HE0.out; omega
    have RG := Lib.hid (And.intro A0 (And.intro A1 (And.intro A2 (And.intro R0 (And.intro R1 R2)))))
    have FG := Lib.hid (And.intro F0 F1)
    clear A0 A2 R0 R1 R2 F0 F1
    cases hw : hasB wordsL (s.extract k E)
    all_goals
      have HW := Lib.hid hw; clear hw
      go_region_held3 (fun w'' => w''.cell? ⟨w.heap.size + 1, 1, none⟩ = some (.string (s.extract k E)) ∧ Ext W1 w'')
        (first | exact KS.out _ (Ext.drew (Ext.refl _)) | exact KS.out _ (Ext.trans (Ext.drew (Ext.refl _)) hx2))
        (first
          | (go_at_call 73; have hq := hx2; refine (l1Has_any wordsL _ _ _ hr2.rep).mono ?_; rw [HW.out]; rintro e w3 ⟨rfl, rfl⟩)
          | (go_at_call 74; refine (l2Words_any _).mono ?_; rintro e w2 ⟨ao, n, cap, fp, rfl, hr2, hf2, hx2⟩))
      have x12 := Ext.trans (Ext.drew (Ext.refl W1)) hx2
      obtain ⟨A0, A1', A2, R0, R1, R2⟩ := RG.out
      replace A0 := Ext.cell x12 A0
      replace A1 := Ext.cell x12 A1
      replace A2 := Ext.cell x12 A2
      replace R0 := Ext.cell x12 R0
      replace R1 := Ext.cell x12 R1
      replace R2 := Ext.cell x12 R2
      have F0 := fun o => ((bcell x12).2 w.heap.size o (by omega)).trans (FG.out.1 o)
      have F1 := fun o => ((bcell x12).2 (w.heap.size + 1) o (by omega)).trans (FG.out.2 o)
      clear A1' hr2 hf2 hx2 KS
    · by_cases h20 : E - k ≤ 20
      · have t1 : ¬ (21 : Int) < ((min E s.size - k : Nat) : Int) := by omega
        have t2 : ¬ (20 : Int) < ((min E s.size - k : Nat) : Int) := by omega
        have hN : Hid (nameT (s.data.toList.drop k) = (⟨1, runB (s.data.toList.drop k), 0⟩, runL (s.data.toList.drop k))) := Lib.hid (by
          rw [nameT, if_neg (by rw [HC2.out]; exact Bool.false_ne_true), if_neg (by rw [← hT.out, HW.out]; exact Bool.false_ne_true), if_pos (by have := HE0.out; omega)])
        go_wp2_with fail
        refine bodyPost_ret (v := .tuple #[.agg #[.int .i64 1, .string (s.extract k E), .int .i64 0], .int .i64 E]) (by simp [results, Tryz.results97, go_sem, A0, A1, A2, R0, R1, R2, F0, F1]) rfl ⟨?_, ?_⟩
        · rw [hN.out, hT.out]
          simp only [tokVal, endV]
          rw [if_neg (by omega), show ((k + runL (s.data.toList.drop k) : Nat) : Int) = (E : Int) from by have := HE0.out; omega]
        · (repeat refine Ext.setCell ?_ (by omega) _)
          exact x1.trans x12
      · have hN : Hid (nameT (s.data.toList.drop k) = noTok) := Lib.hid (by
          rw [nameT, if_neg (by rw [HC2.out]; exact Bool.false_ne_true), if_neg (by rw [← hT.out, HW.out]; exact Bool.false_ne_true), if_neg (by have := HE0.out; omega)])
        by_cases h21 : 21 < E - k
        · have t1 : (21 : Int) < ((min E s.size - k : Nat) : Int) := by omega
          go_wp2_with fail
          refine bodyPost_ret (v := .tuple #[.agg #[.int .i64 0, .string ⟨#[]⟩, .int .i64 0], .int .i64 0]) (by simp [results, Tryz.results97, go_sem, A0, A1, A2, R0, R1, R2, F0, F1]) rfl ⟨?_, ?_⟩
          · rw [hN.out]; rfl
          · (repeat refine Ext.setCell ?_ (by omega) _)
            exact x1.trans x12
        · have t1 : ¬ (21 : Int) < ((min E s.size - k : Nat) : Int) := by omega
          have t2 : (20 : Int) < ((min E s.size - k : Nat) : Int) := by omega
          go_wp2_with fail
          refine bodyPost_ret (v := .tuple #[.agg #[.int .i64 0, .string ⟨#[]⟩, .int .i64 0], .int .i64 0]) (by simp [results, Tryz.results97, go_sem, A0, A1, A2, R0, R1, R2, F0, F1]) rfl ⟨?_, ?_⟩
          · rw [hN.out]; rfl
          · (repeat refine Ext.setCell ?_ (by omega) _)
            exact x1.trans x12
    · have h11 := hword.out HW.out
      have t1 : ¬ (21 : Int) < ((min E s.size - k : Nat) : Int) := by omega
      have t2 : ¬ (20 : Int) < ((min E s.size - k : Nat) : Int) := by omega
      have hN : Hid (nameT (s.data.toList.drop k) = (⟨8, runB (s.data.toList.drop k), 0⟩, runL (s.data.toList.drop k))) := Lib.hid (by
        rw [nameT, if_neg (by rw [HC2.out]; exact Bool.false_ne_true), if_pos (by rw [← hT.out, HW.out])])
      go_wp2_with fail
      refine bodyPost_ret (v := .tuple #[.agg #[.int .i64 8, .string (s.extract k E), .int .i64 0], .int .i64 E]) (by simp [results, Tryz.results97, go_sem, A0, A1, A2, R0, R1, R2, F0, F1]) rfl ⟨?_, ?_⟩
      · rw [hN.out, hT.out]
        simp only [tokVal, endV]
        rw [if_neg (by omega), show ((k + runL (s.data.toList.drop k) : Nat) : Int) = (E : Int) from by have := HE0.out; omega]
      · (repeat refine Ext.setCell ?_ (by omega) _)
        exact x1.trans x12

open Go.RowKit
set_option linter.unusedSimpArgs false
set_option linter.unusedVariables false

theorem runB_size (l : List UInt8) : (runB l).size = runL l := by
  rw [runB, mkB_size, List.length_take]
  have := runL_le l
  omega

theorem runOf_suf (s : ByteArray) (k : Nat) (w : World) (hs : s.size ≤ 1048576) :
    Calls Tryz.prog 107 #[.string (s.extract k s.size)] w fun e w' => e = .returned (.string (runB (s.data.toList.drop k))) ∧ w' = w := by
  have h := runOf_any (suf s k) w (by unfold suf; simp; omega)
  have e1 : (suf s k).extract 0 (runAt (suf s k) 0) = runB (s.data.toList.drop k) := by
    rw [extract_mk, runAt, suf_data, runB]; simp
  rw [e1] at h
  exact h

theorem colon_suf (s : ByteArray) (k : Nat) (w : World) (hs : s.size ≤ 1048576) :
    Calls Tryz.prog 108 #[.string (s.extract k s.size)] w fun e w' => e = .returned (.bool (colL (s.data.toList.drop k))) ∧ w' = w := by
  have h := colon_any (suf s k) w (by unfold suf; simp; omega)
  rw [suf_data] at h
  exact h

/-- The bytes of the keywords at the head. -/
def kwL (l : List UInt8) : Nat :=
  if h : runL l = 0 then 0 else if colL (l.drop (runL l)) = true then runL l + 1 + kwL (l.drop (runL l + 1)) else 0
termination_by l.length
decreasing_by
  have := runL_le l
  rw [List.length_drop]; omega

def symN (l : List UInt8) : Nat := if runL l = 0 then 0 else if colL (l.drop (runL l)) = true then kwL l else runL l
noncomputable def symB (l : List UInt8) : ByteArray := if firstP opsL (mkB l) = ⟨#[]⟩ then mkB (l.take (symN l)) else firstP opsL (mkB l)
theorem colL_pos {l : List UInt8} (h : colL l = true) : 0 < l.length := by
  cases l with
  | nil => cases h
  | cons _ _ => simp
theorem kw_no0 {l : List UInt8} (h : runL l = 0) : kwL l = 0 := by rw [kwL]; simp [h]
theorem kw_noc {l : List UInt8} (h : colL (l.drop (runL l)) = false) : kwL l = 0 := by rw [kwL]; simp [h]
theorem kw_yes {l : List UInt8} (h0 : runL l ≠ 0) (h : colL (l.drop (runL l)) = true) : kwL l = runL l + 1 + kwL (l.drop (runL l + 1)) := by
  rw [kwL, dif_neg h0, if_pos h]

set_option maxHeartbeats 2000000 in
theorem symbolAt_any (s : ByteArray) (w : World) (hs : s.size ≤ 1048576) :
    Calls Tryz.prog 113 #[.string s] w fun e w' => e = .returned (.string (symB s.data.toList)) ∧ Ext w w' := by
  have hsb : Hid (∀ f, f = firstP opsL s → symB s.data.toList = if f = ⟨#[]⟩ then s.extract 0 (symN s.data.toList) else f) := Lib.hid (by
    rintro f rfl
    rw [symB, mkB_data, extract_mk]; simp)
  go_enter Tryz.func113, Tryz.ntmps113
  go_wp2_with fail
  refine (operators_any _).mono ?_
  rintro e w1 ⟨ao, n, cap, fp, rfl, hr, hf, hx⟩
  go_wp2_with fail
  refine (firstOf_any opsL s _ _ hr.rep).mono ?_
  rintro e w' ⟨rfl, rfl⟩
  have HS := Lib.hid (hsb.out _ rfl)
  clear hsb hr hf
  generalize firstP opsL s = f at *
  by_cases h : f = ⟨#[]⟩
  rotate_left
  · have t0 : ¬ f.toList = [] := fun e => h (toList_inj (by rw [e]; simp))
    have t1 : f.toList.isEmpty = false := by simpa using t0
    have hr : Hid (symB s.data.toList = f) := Lib.hid (by rw [HS.out, if_neg h])
    clear h HS
    go_wp2_with fail
    go_ret
    exact ⟨ret_str (by rw [hr.out]), hx⟩
  have hr : Hid (symB s.data.toList = s.extract 0 (symN s.data.toList)) := Lib.hid (by rw [HS.out, if_pos h])
  clear HS
  subst h
  have L0 : s.data.toList.drop 0 = s.data.toList := rfl
  have hrl : runL s.data.toList ≤ s.size := by have := runL_le s.data.toList; simpa using this
  have HD : ∀ k, s.data.toList.drop k = s.data.toList.drop k := fun _ => rfl
  clear HD
  go_wp2_with fail
  refine (runOf_any s _ (by omega)).mono ?_
  rw [show s.extract 0 (runAt s 0) = runB s.data.toList from by rw [extract_mk, runAt, runB]; simp]
  rintro e w' ⟨rfl, rfl⟩
  have hz := runB_size s.data.toList
  generalize runB s.data.toList = R at *
  obtain ⟨m, hm⟩ : ∃ m, runL s.data.toList = m := ⟨_, rfl⟩
  rw [hm] at hz hrl
  have HM := Lib.hid hm; clear hm
  have q1 : (0 : Int) ≤ m := by omega
  have q2 : (m : Int) ≤ s.size := by omega
  by_cases h0 : m = 0
  · have hy : Hid (symN s.data.toList = 0) := Lib.hid (by rw [symN, if_pos (by rw [HM.out, h0])])
    subst h0
    go_wp2_with fail
    go_ret
    exact ⟨ret_str (by rw [hr.out, hy.out]; apply ByteArray.ext; simp), hx⟩
  have q0 : ((m : Int) == 0) = false := int_ne (by omega)
  cases hc : colL (s.data.toList.drop m)
  · have hy : Hid (symN s.data.toList = m) := Lib.hid (by rw [symN, HM.out, if_neg h0, if_neg (by rw [hc]; exact Bool.false_ne_true)])
    have HC := Lib.hid hc; clear hc
    go_wp2_with fail
    refine (colon_suf s m _ hs).mono ?_
    rw [HC.out]
    rintro e w' ⟨rfl, rfl⟩
    go_wp2_with fail
    go_ret
    exact ⟨ret_str (by rw [hr.out, hy.out]), hx⟩
  have hy : Hid (symN s.data.toList = m + 1 + kwL (s.data.toList.drop (m + 1))) := Lib.hid (by rw [symN, HM.out, if_neg h0, if_pos hc, kw_yes (by rw [HM.out]; exact h0) (by rw [HM.out]; exact hc), HM.out])
  have hlt : m + 1 ≤ s.size := by have := colL_pos hc; simp at this; have e : s.data.size = s.size := rfl; omega
  have HC := Lib.hid hc; clear hc
  go_wp2_with fail
  refine (colon_suf s m _ hs).mono ?_
  rw [HC.out]
  rintro e w' ⟨rfl, rfl⟩
  go_wp2_with fail
  clear hz
  go_loop [4] (fun nv => ∃ n : Nat, n ≤ s.size ∧ nv = .int .i64 n ∧ Hid (symN s.data.toList = n + kwL (s.data.toList.drop n))) (fun nv => s.size - (intOf nv).toNat)
  case atStart => exact ⟨m + 1, hlt, by go_num, hy⟩
  case round =>
    clear q0 q1 q2 hrl hlt hy HC HM h0
    obtain ⟨n, hn, rfl, hR⟩ := hrel
    have p0 : (0 : Int) ≤ n := by omega
    have p1 : (n : Int) ≤ s.size := by omega
    have hrn : n + runL (s.data.toList.drop n) ≤ s.size := by have := runL_le (s.data.toList.drop n); simp at this; have e : s.data.size = s.size := rfl; omega
    have hzn := runB_size (s.data.toList.drop n)
    have HRN := Lib.hid hrn; clear hrn
    have HZN := Lib.hid hzn; clear hzn
    go_wp2_with fail
    refine (runOf_suf s n _ hs).mono ?_
    rintro e w' ⟨rfl, rfl⟩
    generalize runB (s.data.toList.drop n) = R2 at *
    obtain ⟨j, hj⟩ : ∃ j, runL (s.data.toList.drop n) = j := ⟨_, rfl⟩
    have hzn := HZN.out
    have hrn := HRN.out
    rw [hj] at hzn hrn
    have HJ := Lib.hid hj; clear hj HZN HRN
    have g1 : (0 : Int) ≤ (n : Int) + j := by omega
    have g2 : (n : Int) + j ≤ s.size := by omega
    by_cases h2 : j = 0
    · have hy2 : Hid (symN s.data.toList = n) := Lib.hid (by rw [hR.out, kw_no0 (by rw [HJ.out, h2]), Nat.add_zero])
      subst h2
      go_wp2_with fail
      go_ret
      exact ⟨ret_str (by rw [hr.out, hy2.out]), hx⟩
    have g0 : ((j : Int) == 0) = false := int_ne (by omega)
    cases hc2 : colL (s.data.toList.drop (n + j))
    · have hy2 : Hid (symN s.data.toList = n) := Lib.hid (by rw [hR.out, kw_noc (by rw [HJ.out, List.drop_drop]; exact hc2), Nat.add_zero])
      have HC2 := Lib.hid hc2; clear hc2
      go_wp2_with fail
      refine (colon_suf s (n + j) _ hs).mono ?_
      rw [HC2.out]
      rintro e w' ⟨rfl, rfl⟩
      go_wp2_with fail
      go_ret
      exact ⟨ret_str (by rw [hr.out, hy2.out]), hx⟩
    · have hy2 : Hid (symN s.data.toList = n + (j + 1) + kwL (s.data.toList.drop (n + (j + 1)))) := Lib.hid (by
        rw [hR.out, kw_yes (by rw [HJ.out]; exact h2) (by rw [HJ.out, List.drop_drop]; exact hc2), List.drop_drop, HJ.out]; omega)
      have hlt2 : n + (j + 1) ≤ s.size := by have := colL_pos hc2; simp at this; have e : s.data.size = s.size := rfl; omega
      have HC2 := Lib.hid hc2; clear hc2
      go_wp2_with fail
      refine (colon_suf s (n + j) _ hs).mono ?_
      rw [HC2.out]
      rintro e w' ⟨rfl, rfl⟩
      go_wp2_with fail
      go_round
      case rel => exact ⟨n + (j + 1), hlt2, by go_num, hy2⟩
      case measure => simp [intOf]; omega

open Go.RowKit
set_option linter.unusedSimpArgs false
set_option linter.unusedVariables false

def valF (acc : Nat) (l : List UInt8) : Nat := l.foldl (fun a c => a * 10 + (c.toNat - 48)) acc
theorem valF_nil (a : Nat) : valF a [] = a := by unfold valF; rw [List.foldl_nil]
theorem valF_cons (a : Nat) (c : UInt8) (r : List UInt8) : valF a (c :: r) = valF (a * 10 + (c.toNat - 48)) r := by unfold valF; rw [List.foldl_cons]
def digL (l : List UInt8) : Prop := ∀ c, c ∈ l → 48 ≤ c.toNat ∧ c.toNat ≤ 57
theorem valF_append (l m : List UInt8) (a : Nat) : valF a (l ++ m) = valF (valF a l) m := by unfold valF; rw [List.foldl_append]
theorem valF_lt : ∀ (l : List UInt8) (a : Nat), digL l → valF a l + 1 ≤ (a + 1) * 10 ^ l.length
  | [], a, _ => by simp [valF_nil]
  | c :: r, a, h => by
    rw [valF_cons, List.length_cons, Nat.pow_succ]
    have h1 := h c (by simp)
    have h2 := valF_lt r (a * 10 + (c.toNat - 48)) (fun x hx => h x (by simp [hx]))
    have h3 : (a * 10 + (c.toNat - 48) + 1) * 10 ^ r.length ≤ ((a + 1) * 10) * 10 ^ r.length := Nat.mul_le_mul_right _ (by omega)
    have h4 : (a + 1) * (10 ^ r.length * 10) = ((a + 1) * 10) * 10 ^ r.length := by rw [Nat.mul_comm (10 ^ r.length) 10, Nat.mul_assoc]
    omega
theorem val_bd {l : List UInt8} (h : digL l) (hl : l.length ≤ 12) : valF 0 l ≤ 999999999999 := by
  have h1 := valF_lt l 0 h
  have h2 : 10 ^ l.length ≤ 10 ^ 12 := Nat.pow_le_pow_right (by omega) hl
  have h3 : (10 : Nat) ^ 12 = 1000000000000 := by decide
  omega
open Go.RowKit
set_option linter.unusedSimpArgs false
set_option linter.unusedVariables false

/-- The digits at the head. -/
def digN : List UInt8 → Nat
  | [] => 0
  | c :: r => if dgtB (c.toNat : Int) = true then digN r + 1 else 0
def headLtr : List UInt8 → Bool
  | [] => false
  | c :: _ => ltrB (c.toNat : Int)
def numT (l : List UInt8) : MToken × Nat := if 9 < digN l then noTok else if headLtr (l.drop (digN l)) = true then noTok else (⟨3, ⟨#[]⟩, (valF 0 (l.take (digN l)) : Nat)⟩, digN l)
theorem digN_all : ∀ {l : List UInt8} {j : Nat}, j ≤ l.length → (∀ c, c ∈ l.take j → dgtB (c.toNat : Int) = true) → digN l = j + digN (l.drop j)
  | l, 0, _, _ => by simp
  | [], j + 1, h, _ => by simp at h
  | c :: r, j + 1, h, hd => by
    have h1 := hd c (by simp)
    have h2 := digN_all (l := r) (j := j) (by simpa using h) (fun x hx => hd x (by simp [hx]))
    rw [digN, if_pos h1, h2, List.drop_succ_cons]; omega
theorem dgt_iff {n : Int} : dgtB n = true ↔ 48 ≤ n ∧ n ≤ 57 := by unfold dgtB; exact decide_eq_true_iff

set_option maxHeartbeats 2000000 in
theorem l2Number_any (s : ByteArray) (k : Nat) (w : World) (hs : s.size ≤ 1048576) (hk : k ≤ s.size) (hd0 : 0 < digN (s.data.toList.drop k)) :
    Calls Tryz.prog 99 #[.string s, .int .i64 k] w fun e w' => e = .returned (.tuple #[tokVal (numT (s.data.toList.drop k)).1, .int .i64 (endV k (numT (s.data.toList.drop k)).2)]) ∧ Ext w w' := by
  have p0 : (0 : Int) ≤ k := by omega
  obtain ⟨L, hL⟩ : ∃ L, L = s.data.toList.drop k := ⟨_, rfl⟩
  have hLl : L.length = s.size - k := by rw [hL]; simp
  have HLL := Lib.hid hLl; clear hLl
  rw [← hL] at hd0 ⊢
  have HL := Lib.hid hL; clear hL
  have HD0 := Lib.hid hd0; clear hd0
  go_enter Tryz.func99, Tryz.ntmps99
  go_wp2_with fail
  go_loop [6, 7] (fun ev nv => ∃ j : Nat, k + j ≤ s.size ∧ j ≤ 9 ∧ ev = .int .i64 ((k + j : Nat) : Int) ∧ nv = .int .i64 (valF 0 (L.take j) : Nat) ∧ Hid (∀ c, c ∈ L.take j → dgtB (c.toNat : Int) = true)) (fun ev _ => s.size - (intOf ev).toNat)
  case atStart => exact ⟨0, by omega, by omega, rfl, by simp [valF_nil], Lib.hid (by simp)⟩
  case round =>
    obtain ⟨j, hj, hj9, rfl, rfl, hR⟩ := hrel
    have hdg : digL (L.take j) := fun c hc => by have := dgt_iff.1 (hR.out c hc); omega
    have hvb := val_bd hdg (by rw [List.length_take]; omega)
    have HDG := Lib.hid hdg; clear hdg
    have hA := Lib.hid (digN_all (l := L) (j := j) (by rw [HLL.out]; omega) hR.out)
    by_cases hlt : k + j < s.size
    · obtain ⟨hb0, hb1⟩ := byte_bd s[k + j]
      have hdrop : L.drop j = s[k + j] :: s.data.toList.drop (k + j + 1) := by rw [HL.out, List.drop_drop, drop_cons hlt]
      have HDR := Lib.hid hdrop; clear hdrop
      have htk : L.take (j + 1) = L.take j ++ [s[k + j]] := by
        have h1 : L[j]? = some s[k + j] := by
          have := congrArg List.head? HDR.out
          rw [List.head?_drop] at this
          simpa using this
        rw [List.take_add_one, h1]; rfl
      have HTK := Lib.hid htk; clear htk
      cases hq : dgtB (s[k + j].toNat : Int)
      · have hN : Hid (digN L = j) := Lib.hid (by rw [hA.out, HDR.out, digN, if_neg (by rw [hq]; exact Bool.false_ne_true), Nat.add_zero])
        have HQ := Lib.hid hq; clear hq
        have hH : Hid (headLtr (L.drop (digN L)) = ltrB (s[k + j].toNat : Int)) := Lib.hid (by rw [hN.out, HDR.out]; rfl)
        have HX : Hid (j ≠ 0) := Lib.hid (by have := HD0.out; rw [hN.out] at this; omega)
        cases hl : ltrB (s[k + j].toNat : Int)
        · have hT : Hid (numT L = (⟨3, ⟨#[]⟩, (valF 0 (L.take j) : Nat)⟩, j)) := Lib.hid (by rw [numT, if_neg (by rw [hN.out]; omega), if_neg (by rw [hH.out, hl]; exact Bool.false_ne_true), hN.out])
          have HLt := Lib.hid hl; clear hl
          go_wp2_with fail
          refine (l2Digit_any _ _ hb0 hb1).mono ?_
          rw [HQ.out]
          rintro e w' ⟨rfl, rfl⟩
          go_wp2_with fail
          refine (l2Letter_any _ _ hb0 hb1).mono ?_
          rw [HLt.out]
          rintro e w' ⟨rfl, rfl⟩
          go_wp2_with fail
          refine bodyPost_ret (v := .tuple #[.agg #[.int .i64 3, .string ⟨#[]⟩, .int .i64 (valF 0 (L.take j) : Nat)], .int .i64 ((k + j : Nat) : Int)]) (by simp [results, Tryz.results99, go_sem]) rfl ⟨?_, ?_⟩
          · rw [hT.out]
            simp only [tokVal, endV]
            rw [if_neg HX.out]
          · (repeat (first | exact Ext.refl _ | refine Ext.alloc ?_ _ | refine Ext.setCell ?_ (by first | exact Nat.le_refl _ | (simp; done) | (simp; omega)) _))
        · have hT : Hid (numT L = noTok) := Lib.hid (by rw [numT, if_neg (by rw [hN.out]; omega), if_pos (by rw [hH.out, hl])])
          have HLt := Lib.hid hl; clear hl
          go_wp2_with fail
          refine (l2Digit_any _ _ hb0 hb1).mono ?_
          rw [HQ.out]
          rintro e w' ⟨rfl, rfl⟩
          go_wp2_with fail
          refine (l2Letter_any _ _ hb0 hb1).mono ?_
          rw [HLt.out]
          rintro e w' ⟨rfl, rfl⟩
          go_wp2_with fail
          refine bodyPost_ret (v := .tuple #[.agg #[.int .i64 0, .string ⟨#[]⟩, .int .i64 0], .int .i64 0]) (by simp [results, Tryz.results99, go_sem]) rfl ⟨?_, ?_⟩
          · rw [hT.out]; rfl
          · (repeat (first | exact Ext.refl _ | refine Ext.alloc ?_ _ | refine Ext.setCell ?_ (by first | exact Nat.le_refl _ | (simp; done) | (simp; omega)) _))
      · have hqd := dgt_iff.1 hq
        obtain ⟨d0, d1⟩ := hqd
        have hN : Hid (j + 1 ≤ digN L) := Lib.hid (by rw [hA.out, HDR.out, digN, if_pos hq]; omega)
        have HV : Hid (valF 0 (L.take (j + 1)) = valF 0 (L.take j) * 10 + (s[k + j].toNat - 48)) := Lib.hid (by rw [HTK.out, valF_append, valF_cons, valF_nil])
        have HR2 : Hid (∀ c, c ∈ L.take (j + 1) → dgtB (c.toNat : Int) = true) := Lib.hid (by
          rw [HTK.out]; intro c hc
          rcases List.mem_append.1 hc with hc | hc
          · exact hR.out c hc
          · have hc := List.mem_singleton.1 hc; rw [hc]; exact hq)
        have HQ := Lib.hid hq; clear hq
        generalize valF 0 (L.take j) = V0 at *
        by_cases h9 : j < 9
        · have t9 : ¬ (9 : Int) < (k : Int) + j + 1 - k := by omega
          go_wp2_with fail
          refine (l2Digit_any _ _ hb0 hb1).mono ?_
          rw [HQ.out]
          rintro e w' ⟨rfl, rfl⟩
          go_wp2_with fail
          go_round
          case rel => exact ⟨j + 1, by omega, by omega, by go_num, by rw [HV.out]; go_num, HR2⟩
          case measure => simp [intOf]; omega
        · have t9 : (9 : Int) < (k : Int) + j + 1 - k := by omega
          have hT : Hid (numT L = noTok) := Lib.hid (by rw [numT, if_pos (by have := hN.out; omega)])
          go_wp2_with fail
          refine (l2Digit_any _ _ hb0 hb1).mono ?_
          rw [HQ.out]
          rintro e w' ⟨rfl, rfl⟩
          go_wp2_with fail
          refine bodyPost_ret (v := .tuple #[.agg #[.int .i64 0, .string ⟨#[]⟩, .int .i64 0], .int .i64 0]) (by simp [results, Tryz.results99, go_sem]) rfl ⟨?_, ?_⟩
          · rw [hT.out]; rfl
          · (repeat (first | exact Ext.refl _ | refine Ext.alloc ?_ _ | refine Ext.setCell ?_ (by first | exact Nat.le_refl _ | (simp; done) | (simp; omega)) _))
    · have hnil : L.drop j = [] := List.drop_eq_nil_of_le (by rw [HLL.out]; omega)
      have hN : Hid (digN L = j) := Lib.hid (by rw [hA.out, hnil]; rfl)
      have hT : Hid (numT L = (⟨3, ⟨#[]⟩, (valF 0 (L.take j) : Nat)⟩, j)) := Lib.hid (by rw [numT, if_neg (by rw [hN.out]; omega), if_neg (by rw [hN.out, hnil]; exact Bool.false_ne_true), hN.out])
      have HX : Hid (j ≠ 0) := Lib.hid (by have := HD0.out; rw [hN.out] at this; omega)
      clear hnil
      go_wp2_with fail
      refine bodyPost_ret (v := .tuple #[.agg #[.int .i64 3, .string ⟨#[]⟩, .int .i64 (valF 0 (L.take j) : Nat)], .int .i64 ((k + j : Nat) : Int)]) (by simp [results, Tryz.results99, go_sem]) rfl ⟨?_, ?_⟩
      · rw [hT.out]
        simp only [tokVal, endV]
        rw [if_neg HX.out]
      · (repeat (first | exact Ext.refl _ | refine Ext.alloc ?_ _ | refine Ext.setCell ?_ (by first | exact Nat.le_refl _ | (simp; done) | (simp; omega)) _))

end Go.Proofs.YtonmcoojgkgemaaGreatDoor
