/-
  CONTRACTS: SplitByte, of the program and of the reference.
  Conditions: those that each lemma states.
-/
import Derived.Test.YtndhpbjhkgdieaaGreatDoorRows
import Derived.Test.YtndhpbjhkgdieaaGreatDoorP04
import Derived.Test.YtndhpbjhkgdieaaGreatDoorShelf
namespace Go.Proofs.YtndhpbjhkgdieaaGreatDoor
open Go.RowKit
set_option maxHeartbeats 8000000
set_option maxRecDepth 100000
set_option linter.unusedSimpArgs false
set_option linter.unusedVariables false
def MaxOk (w : World) : Prop := ∃ m, w.cell? ⟨0, 0, none⟩ = some (.int .i64 m)
theorem MaxOk.ext {w w' : World} (h : MaxOk w) (hx : Ext w w') : MaxOk w' := let ⟨m, hm⟩ := h; ⟨m, Ext.cell hx hm⟩
theorem rep_one (w : World) (x : ByteArray) : Rep (w.alloc (.cells #[.string x] 9)) (strs [x]) [.slice (some ⟨w.heap.size, 0, none⟩) 1 1] := by
 obtain ⟨ao, n, cap, fp, h1, h2, -⟩ := gives_strs w [x] 9 (by simp [maxLen]) (by simp)
 simp only [Ending.returned.injEq, Value.slice.injEq, List.length_cons, List.length_nil] at h1
 obtain ⟨rfl, rfl, rfl⟩ := h1
 exact ⟨fp, h2⟩
theorem spec_SplitByte_any (s : ByteArray) (c : UInt8) (w : World) (hs : s.size <= 1048576) :
 Calls Tryz.prog 108 #[.string s, .int .u8 c.toNat] w (GivesV w (strs (cutB c s))) := by
 go_enter Tryz.func108, Tryz.ntmps108
 have hA : AccT w.heap.size (w.alloc (.cells #[] 9)) (.slice (some ⟨w.heap.size, 0, none⟩) 0 0) [] := Acc.empty _ _ (Nat.le_refl _)
 go_wp2_with fail
 go_loopw [5, 6, 7] (fun ov fv iv wr => ∃ (i a : Nat) (l : List ByteArray), iv = .int .i64 i /\ fv = .int .i64 a /\ a <= i /\ i <= s.size + 1 /\ l.length <= i /\ AccT w.heap.size wr ov l /\ Ext w wr /\ Hid (l ++ (if i <= s.size then cutAt c s a i else []) = cutB c s)) (fun _ _ iv _ => s.size + 1 - (intOf iv).toNat)
 case atStart => exact ⟨0, 0, [], rfl, rfl, Nat.le_refl _, Nat.zero_le _, by simp, hA, (XR w).alloc _, LH (by simp [cutAt_zero])⟩
 case round =>
  obtain ⟨i, a, l, rfl, rfl, hai, hi, hl, hacc, hx, hR⟩ := hrel
  clear hA
  by_cases hlt : i <= s.size
  · have hz := hx.size
    have f1 : (0 : Int) <= a := by omega
    have f2 : (a : Int) <= i := by omega
    have f3 : (i : Int) <= s.size := by omega
    have hR' : Hid (l ++ cutAt c s a i = cutB c s) := LH (by have := hR.out; rwa [if_pos hlt] at this)
    clear hR
    by_cases he : i = s.size
    · have t1 : ((i : Int) == (s.size : Int)) = true := by simp [he]
      have HE := LH he; clear he
      go_wp2_with (at_builtin; refine wpList_append_strs rfl _ _ rfl w.heap.size _ l rfl (hacc.ext ((XR _).alloc _)) [s.extract a i] _ _ _ rfl (rep_one wr _) (by first | omega | (simp; omega)) (by first | omega | (simp; omega)) ?_)
      intro ao cap w' ac hg
      have hx' : Ext w w' := AccT.below (hacc.ext ((XR _).alloc (.cells #[.string (s.extract a i)] 9))) (hx.alloc _) hg (by simp; omega)
      go_wp2_with fail
      go_roundw
      case rel => exact ⟨i + 1, i + 1, l ++ [s.extract a i], by go_num, by go_num, Nat.le_refl _, by omega, by simp; omega, ac, hx', LH (by rw [if_neg (by have := HE.out; omega), List.append_nil, <- hR'.out, cutAt_end HE.out.symm])⟩
      case measure => simp [intOf]; omega
    · have t1 : ((i : Int) == (s.size : Int)) = false := int_ne (by omega)
      have hls : i < s.size := by omega
      clear he
      by_cases hc : s[i] = c
      · have t2 : ((s[i].toNat : Int) == (c.toNat : Int)) = true := int_eq (by rw [hc])
        have HC := LH hc; clear hc
        go_wp2_with (at_builtin; refine wpList_append_strs rfl _ _ rfl w.heap.size _ l rfl (hacc.ext ((XR _).alloc _)) [s.extract a i] _ _ _ rfl (rep_one wr _) (by first | omega | (simp; omega)) (by first | omega | (simp; omega)) ?_)
        intro ao cap w' ac hg
        have hx' : Ext w w' := AccT.below (hacc.ext ((XR _).alloc (.cells #[.string (s.extract a i)] 9))) (hx.alloc _) hg (by simp; omega)
        go_wp2_with fail
        go_roundw
        case rel => exact ⟨i + 1, i + 1, l ++ [s.extract a i], by go_num, by go_num, Nat.le_refl _, by omega, by simp; omega, ac, hx', LH (by rw [if_pos (by omega), <- hR'.out, cutAt_yes hls HC.out, List.append_assoc]; rfl)⟩
        case measure => simp [intOf]; omega
      · have t2 : ((s[i].toNat : Int) == (c.toNat : Int)) = false := int_ne (fun e => hc (UInt8.toNat_inj.1 (by omega)))
        have HC := LH hc; clear hc
        go_wp2_with fail
        go_roundw
        case rel => exact ⟨i + 1, a, l, by go_num, rfl, by omega, by omega, by omega, hacc, hx, LH (by rw [if_pos (by omega), <- hR'.out, cutAt_no hls hai HC.out])⟩
        case measure => simp [intOf]; omega
  · have hR' : Hid (l = cutB c s) := LH (by have := hR.out; rwa [if_neg hlt, List.append_nil] at this)
    clear hR
    obtain ⟨ao, cap, gp, rfl, h4, hf4⟩ := hacc.rep
    go_wp2_with fail
    go_ret
    exact ⟨ao, _, cap, gp, rfl, by rw [<- hR'.out]; exact h4, hf4, hx⟩
def oneB (c : UInt8) : ByteArray := ⟨#[c]⟩
theorem oneB_size (c : UInt8) : (oneB c).size = 1 := rfl
theorem strings_Split_one (s : ByteArray) (c : UInt8) (w : World) (hs : s.size <= 1048576) (hm : MaxOk w) :
 Calls Tryz.prog 105 #[.string s, .string (oneB c)] w fun e w' =>
  e = .returned (.slice (some ⟨w.heap.size, 0, none⟩) (cutB c s).length (cutB c s).length) /\ w' = w.alloc (.cells ((cutB c s).map Value.string).toArray 9) := by
 obtain ⟨m, hm⟩ := hm
 refine (Tryz.strings_Split s (oneB c) m w (by omega) hm (by rw [oneB_size]; exact Nat.le_refl 1)).mono ?_
 rintro e w' ⟨rfl, rfl⟩
 have h1 := splitB_cut c s
 have h2 := countB_cut c s
 unfold oneB
 exact ⟨by rw [h2], by rw [h1]⟩
end Go.Proofs.YtndhpbjhkgdieaaGreatDoor
