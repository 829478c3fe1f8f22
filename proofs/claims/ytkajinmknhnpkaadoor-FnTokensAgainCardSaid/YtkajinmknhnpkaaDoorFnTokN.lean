/-
  CONTRACTS: parts of Tokens: names and keywords, of the reference.
  Conditions: those that each lemma states.
-/
import Derived.Test.YtkajinmknhnpkaaDoorRows
import Derived.Test.YtkajinmknhnpkaaDoorFnTok
import Derived.Deep.RegionHeld3
import Derived.Deep.DeepCutAuto
namespace Go.Proofs.YtkajinmknhnpkaaDoor
open Go.RowKit
set_option linter.unusedSimpArgs false
set_option linter.unusedVariables false

def tokVal (t : MToken) : Value := .agg #[.int .i64 t.kind, .string t.text, .int .i64 t.number]
def endV (k n : Nat) : Int := if n = 0 then 0 else ((k + n : Nat) : Int)
def noTok : MToken × Nat := (⟨0, ⟨#[]⟩, 0⟩, 0)
def runB (l : List UInt8) : ByteArray := mkB (l.take (runL l))
/-- A name, a word or a keyword that stands at the head; 0: none. -/
noncomputable def nameT (l : List UInt8) : MToken × Nat :=
  if colL (l.drop (runL l)) then (if runL l ≤ 20 then (⟨2, runB l ++ ⟨#[58]⟩, 0⟩, runL l + 1) else noTok)
  else if hasB wordsL (runB l) then (⟨8, runB l, 0⟩, runL l) else if runL l ≤ 20 then (⟨1, runB l, 0⟩, runL l) else noTok
theorem word_len {s : ByteArray} (h : hasB wordsL s = true) : s.size ≤ 11 := by
  have h := hasB_iff.1 h
  simp only [wordsL, List.mem_cons, List.not_mem_nil, or_false] at h
  rcases h with rfl | rfl | rfl | rfl | rfl | rfl | rfl <;> decide

set_option maxHeartbeats 2000000 in
theorem l2Name_any (s : ByteArray) (k : Nat) (w : World) (hs : s.size ≤ 1048576) (hk : k ≤ s.size) (hr0 : 0 < runL (s.data.toList.drop k)) :
    Calls Tryd.prog 38 #[.string s, .int .i64 k] w fun e w' => e = .returned (.tuple #[tokVal (nameT (s.data.toList.drop k)).1, .int .i64 (endV k (nameT (s.data.toList.drop k)).2)]) ∧ Ext w w' := by
  have hE0 : runAt s k = k + runL (s.data.toList.drop k) := rfl
  have hle := runAt_le hk
  have hT : Hid (s.extract k (runAt s k) = runB (s.data.toList.drop k)) := Lib.hid (by rw [extract_mk, hE0, runB]; congr 2; omega)
  have hC : Hid (colL (s.data.toList.drop (runAt s k)) = colL ((s.data.toList.drop k).drop (runL (s.data.toList.drop k)))) := Lib.hid (by rw [List.drop_drop, hE0])
  have hRB : (runB (s.data.toList.drop k)).size = runL (s.data.toList.drop k) := by
    rw [runB, mkB_size, List.length_take]
    have := runL_le (s.data.toList.drop k)
    omega
  have HRB := Lib.hid hRB; clear hRB
  obtain ⟨E, hE⟩ : ∃ E, E = runAt s k := ⟨_, rfl⟩
  rw [← hE] at hE0 hle hT hC
  have l2r := Lib.hid (fun w => l2Run_any s k w (by omega) hk)
  have L2 : Hid (∀ w, Calls Tryd.prog 55 #[.string s, .int .i64 k] w fun e w' => e = .returned (.int .i64 E) ∧ w' = w) := Lib.hid (by rw [hE]; exact l2r.out)
  clear l2r hE
  have kE : k < E := by omega
  have HE0 := Lib.hid hE0; clear hE0
  have p0 : (0 : Int) ≤ k := by omega
  have p1 : (k : Int) ≤ E := by omega
  have p2 : (E : Int) ≤ s.size := by omega
  go_enter Tryd.func38, Tryd.ntmps38
  go_wp2_with fail
  refine (L2.out _).mono ?_
  rintro e w' ⟨rfl, rfl⟩
  go_wp2_with fail
  refine (l2Colon_any s E _ hs hle).mono ?_
  rintro e w' ⟨rfl, rfl⟩
  have EX : ∀ W, W = w ∨ True → True := fun _ _ => trivial
  clear EX
  cases hc : colL (s.data.toList.drop E)
  rotate_left
  · have hE1 : E < s.size := by
      by_cases h : E < s.size
      · exact h
      · rw [List.drop_eq_nil_of_le (by simp; omega)] at hc; cases hc
    have q3 : (E : Int) + 1 ≤ s.size := by omega
    have q4 : (k : Int) ≤ (E : Int) + 1 := by omega
    have HC2 : Hid (colL ((s.data.toList.drop k).drop (runL (s.data.toList.drop k))) = true) := Lib.hid (by rw [← hC.out]; exact hc)
    have HC := Lib.hid hc; clear hc
    by_cases h20 : E - k ≤ 20
    · have t1 : ¬ (21 : Int) < ((min (E + 1) s.size - k : Nat) : Int) := by omega
      have hN : Hid (nameT (s.data.toList.drop k) = (⟨2, runB (s.data.toList.drop k) ++ ⟨#[58]⟩, 0⟩, runL (s.data.toList.drop k) + 1)) := Lib.hid (by
        rw [nameT, if_pos HC2.out, if_pos (by have := HE0.out; omega)])
      go_wp2_with fail
      refine bodyPost_ret (v := .tuple #[.agg #[.int .i64 2, .string (s.extract k E ++ ⟨#[58]⟩), .int .i64 0], .int .i64 (E + 1)]) (by simp [results, Tryd.results38, go_sem]) rfl ⟨?_, ?_⟩
      · rw [hN.out, hT.out]
        simp only [tokVal, endV, Nat.add_eq_zero_iff, Nat.succ_ne_self, and_false, if_false, Nat.one_ne_zero]
        rw [show ((k + (runL (s.data.toList.drop k) + 1) : Nat) : Int) = (E : Int) + 1 from by have := HE0.out; omega]
      · (repeat (first | exact Ext.refl _ | refine Ext.alloc ?_ _ | refine Ext.setCell ?_ (by first | exact Nat.le_refl _ | (simp; done) | (simp; omega)) _))
    · have t1 : (21 : Int) < ((min (E + 1) s.size - k : Nat) : Int) := by omega
      have hN : Hid (nameT (s.data.toList.drop k) = noTok) := Lib.hid (by
        rw [nameT, if_pos HC2.out, if_neg (by have := HE0.out; omega)])
      go_wp2_with fail
      refine bodyPost_ret (v := .tuple #[.agg #[.int .i64 0, .string ⟨#[]⟩, .int .i64 0], .int .i64 0]) (by simp [results, Tryd.results38, go_sem]) rfl ⟨?_, ?_⟩
      · rw [hN.out]; rfl
      · (repeat (first | exact Ext.refl _ | refine Ext.alloc ?_ _ | refine Ext.setCell ?_ (by first | exact Nat.le_refl _ | (simp; done) | (simp; omega)) _))
  · have HC2 : Hid (colL ((s.data.toList.drop k).drop (runL (s.data.toList.drop k))) = false) := Lib.hid (by rw [← hC.out]; exact hc)
    have HC := Lib.hid hc; clear hc
    go_wp2_with fail
    generalize hW : World.alloc (World.alloc w _) _ = W1
    have x1 : Ext w W1 := by rw [← hW]; exact ((Ext.refl w).alloc _).alloc _
    have A0 : W1.cell? ⟨w.heap.size + 1, 0, none⟩ = some (.int .i64 1) := by rw [← hW]; simp
    have A1 : W1.cell? ⟨w.heap.size + 1, 1, none⟩ = some (.string (s.extract k E)) := by rw [← hW]; simp
    have A2 : W1.cell? ⟨w.heap.size + 1, 2, none⟩ = some (.int .i64 0) := by rw [← hW]; simp
    have R0 : W1.cell? ⟨w.heap.size, 0, none⟩ = some (.int .i64 0) := by rw [← hW]; simp
    have R1 : W1.cell? ⟨w.heap.size, 1, none⟩ = some (.string ⟨#[]⟩) := by rw [← hW]; simp
    have R2 : W1.cell? ⟨w.heap.size, 2, none⟩ = some (.int .i64 0) := by rw [← hW]; simp
    have F0 : ∀ o, W1.frozen? ⟨w.heap.size, o, none⟩ = false := fun o => by rw [← hW]; simp
    have F1 : ∀ o, W1.frozen? ⟨w.heap.size + 1, o, none⟩ = false := fun o => by rw [← hW]; simp
    have z1 : w.heap.size + 1 < W1.heap.size := lt_of_cell A0
    clear hW
    have KS : Hid (∀ w'', Ext W1 w'' → w''.cell? ⟨w.heap.size + 1, 1, none⟩ = some (.string (s.extract k E)) ∧ Ext W1 w'') := Lib.hid fun w'' h => ⟨Ext.cell h A1, h⟩
    have hword : Hid (hasB wordsL (s.extract k E) = true → E - k ≤ 11) := Lib.hid fun h => by
      have h1 := word_len h
      rw [hT.out, HRB.out] at h1
      have := HE0.out; omega
    have RG := Lib.hid (And.intro A0 (And.intro A1 (And.intro A2 (And.intro R0 (And.intro R1 R2)))))
    have FG := Lib.hid (And.intro F0 F1)
    clear A0 A2 R0 R1 R2 F0 F1
    cases hw : hasB wordsL (s.extract k E)
    all_goals
      have HW := Lib.hid hw; clear hw
      go_region_held3 (fun w'' => w''.cell? ⟨w.heap.size + 1, 1, none⟩ = some (.string (s.extract k E)) ∧ Ext W1 w'')
        (first | exact KS.out _ (Ext.drew (Ext.refl _)) | exact KS.out _ (Ext.trans (Ext.drew (Ext.refl _)) hx2))
        (first
          | (go_at_call 57; have hq := hx2; refine (l1Has_any wordsL _ _ _ hr2.rep).mono ?_; rw [HW.out]; rintro e w3 ⟨rfl, rfl⟩)
          | (go_at_call 58; refine (l2Words_any _).mono ?_; rintro e w2 ⟨ao, n, cap, fp, rfl, hr2, hf2, hx2⟩))
      have x12 := Ext.trans (Ext.drew (Ext.refl W1)) hx2
      obtain ⟨A0, A1', A2, R0, R1, R2⟩ := RG.out
      replace A0 := Ext.cell x12 A0
      replace A1 := Ext.cell x12 A1
      replace A2 := Ext.cell x12 A2
      replace R0 := Ext.cell x12 R0
      replace R1 := Ext.cell x12 R1
      replace R2 := Ext.cell x12 R2
      have F0 := fun o => ((bcell x12).2 w.heap.size o (by omega)).trans (FG.out.1 o)
      have F1 := fun o => ((bcell x12).2 (w.heap.size + 1) o (by omega)).trans (FG.out.2 o)
      clear A1' hr2 hf2 hx2 KS
    · by_cases h20 : E - k ≤ 20
      · have t1 : ¬ (21 : Int) < ((min E s.size - k : Nat) : Int) := by omega
        have t2 : ¬ (20 : Int) < ((min E s.size - k : Nat) : Int) := by omega
        have hN : Hid (nameT (s.data.toList.drop k) = (⟨1, runB (s.data.toList.drop k), 0⟩, runL (s.data.toList.drop k))) := Lib.hid (by
          rw [nameT, if_neg (by rw [HC2.out]; exact Bool.false_ne_true), if_neg (by rw [← hT.out, HW.out]; exact Bool.false_ne_true), if_pos (by have := HE0.out; omega)])
        go_wp2_with fail
        refine bodyPost_ret (v := .tuple #[.agg #[.int .i64 1, .string (s.extract k E), .int .i64 0], .int .i64 E]) (by simp [results, Tryd.results38, go_sem, A0, A1, A2, R0, R1, R2, F0, F1]) rfl ⟨?_, ?_⟩
        · rw [hN.out, hT.out]
          simp only [tokVal, endV]
          rw [if_neg (by omega), show ((k + runL (s.data.toList.drop k) : Nat) : Int) = (E : Int) from by have := HE0.out; omega]
        · (repeat refine Ext.setCell ?_ (by omega) _)
          exact x1.trans x12
      · have hN : Hid (nameT (s.data.toList.drop k) = noTok) := Lib.hid (by
          rw [nameT, if_neg (by rw [HC2.out]; exact Bool.false_ne_true), if_neg (by rw [← hT.out, HW.out]; exact Bool.false_ne_true), if_neg (by have := HE0.out; omega)])
        by_cases h21 : 21 < E - k
        · have t1 : (21 : Int) < ((min E s.size - k : Nat) : Int) := by omega
          go_wp2_with fail
          refine bodyPost_ret (v := .tuple #[.agg #[.int .i64 0, .string ⟨#[]⟩, .int .i64 0], .int .i64 0]) (by simp [results, Tryd.results38, go_sem, A0, A1, A2, R0, R1, R2, F0, F1]) rfl ⟨?_, ?_⟩
          · rw [hN.out]; rfl
          · (repeat refine Ext.setCell ?_ (by omega) _)
            exact x1.trans x12
        · have t1 : ¬ (21 : Int) < ((min E s.size - k : Nat) : Int) := by omega
          have t2 : (20 : Int) < ((min E s.size - k : Nat) : Int) := by omega
          go_wp2_with fail
          refine bodyPost_ret (v := .tuple #[.agg #[.int .i64 0, .string ⟨#[]⟩, .int .i64 0], .int .i64 0]) (by simp [results, Tryd.results38, go_sem, A0, A1, A2, R0, R1, R2, F0, F1]) rfl ⟨?_, ?_⟩
          · rw [hN.out]; rfl
          · (repeat refine Ext.setCell ?_ (by omega) _)
            exact x1.trans x12
    · have h11 := hword.out HW.out
      have t1 : ¬ (21 : Int) < ((min E s.size - k : Nat) : Int) := by omega
      have t2 : ¬ (20 : Int) < ((min E s.size - k : Nat) : Int) := by omega
      have hN : Hid (nameT (s.data.toList.drop k) = (⟨8, runB (s.data.toList.drop k), 0⟩, runL (s.data.toList.drop k))) := Lib.hid (by
        rw [nameT, if_neg (by rw [HC2.out]; exact Bool.false_ne_true), if_pos (by rw [← hT.out, HW.out])])
      go_wp2_with fail
      refine bodyPost_ret (v := .tuple #[.agg #[.int .i64 8, .string (s.extract k E), .int .i64 0], .int .i64 E]) (by simp [results, Tryd.results38, go_sem, A0, A1, A2, R0, R1, R2, F0, F1]) rfl ⟨?_, ?_⟩
      · rw [hN.out, hT.out]
        simp only [tokVal, endV]
        rw [if_neg (by omega), show ((k + runL (s.data.toList.drop k) : Nat) : Int) = (E : Int) from by have := HE0.out; omega]
      · (repeat refine Ext.setCell ?_ (by omega) _)
        exact x1.trans x12

end Go.Proofs.YtkajinmknhnpkaaDoor
