/-
  CONTRACTS: the built-in classes as they stand in a system, of the program and of the reference.
  Conditions: those that each lemma states.
-/
import Derived.Test.YticdmbmjlaomiaaGreatDoorRows
import Derived.Test.YticdmbmjlaomiaaGreatDoorCls
import Derived.Test.YticdmbmjlaomiaaGreatDoorAcc
import Derived.Test.YticdmbmjlaomiaaGreatDoorAccAt
import Derived.Test.YticdmbmjlaomiaaGreatDoorFnValues
import Derived.Deep.RegionHeld3
import Derived.Deep.DeepCutAuto
namespace Go.Proofs.YticdmbmjlaomiaaGreatDoor
open Go.RowKit
set_option linter.unusedSimpArgs false
set_option linter.unusedVariables false

theorem RepF.row1 {w : World} {b : Nat} {d : D} {cs : List Value} {f : List Nat} {sz : Nat} (hb : b < w.heap.size) (hl : cs.length = sz) (hc : ∀ j c, cs[j]? = some c → w.cell? ⟨b, j, none⟩ = some c) (h : RepF w d cs f) : RepF w (.sl sz [d]) [.slice (some ⟨b, 0, none⟩) 1 1] (b :: f) :=
  RepF.sl_iff.2 ⟨_, 1, by simp, by simp, by unfold maxLen; omega, by simp, Or.inr ⟨b, 0, cs, f, by simp, rfl, rfl, hb, fun j c hj => by rw [Nat.zero_add]; exact hc j c hj, RepR.one h hl⟩⟩
theorem Acc.add_facts {B0 : Nat} {w W : World} {e : TypeId} {sz : Nat} {v : Value} {ds : List D} {fp f : List Nat} (h : Acc B0 w e sz v ds fp) (hx : Ext w W) (hf : Fresh W w.heap.size f) (hB : B0 ≤ w.heap.size) : Fresh W B0 (fp ++ f) ∧ ∀ k, v.ownBlock = some k → k ∉ f := by
  obtain ⟨xs, h1, h2, h3, h4⟩ := h
  refine ⟨h3.append hx hf (Nat.le_refl _) hB, fun k hk hm => ?_⟩
  have hge := hf.ge k hm
  rcases h1.2 with ⟨rfl, _⟩ | ⟨g, cap, cur, rfl, hg, hh, _⟩
  · cases hk
  · simp [Value.ownBlock] at hk
    subst hk
    have := (Array.getElem?_eq_some_iff.1 hh).1
    omega
theorem ciInfo : (Tryz.prog.info? 212).map (fun i => (i.zero, i.size, i.bytes)) = some (some (.agg #[.string ByteArray.empty, .int .i64 0, .slice none 0 0]), 3, 48) := by kernel_rfl
theorem row3 {w : World} {b : Nat} {x0 x1 x2 : Value} (h0 : w.cell? ⟨b, 0, none⟩ = some x0) (h1 : w.cell? ⟨b, 1, none⟩ = some x1) (h2 : w.cell? ⟨b, 2, none⟩ = some x2) : ∀ j c, [x0, x1, x2][j]? = some c → w.cell? ⟨b, j, none⟩ = some c := fun j c h => by
  match j with
  | 0 => simp at h; rw [h0, h]
  | 1 => simp at h; rw [h1, h]
  | 2 => simp at h; rw [h2, h]
  | j + 3 => simp at h
theorem par_high {j : Nat} (h : 5 ≤ j) (h2 : j < 16) : parentsL.getD j 0 = 0 := by
  have : ∀ j, j < 16 → 5 ≤ j → parentsL.getD j 0 = 0 := by decide
  exact this j h2 h
theorem nil_strs (w : World) : RepF w (strs []) [.slice none 0 0] [] := RepF.sl_iff.2 ⟨_, _, rfl, by simp, by simp, by simp, Or.inl ⟨rfl, rfl⟩⟩
theorem one_str {w : World} {b : Nat} {s : ByteArray} (hb : b < w.heap.size) (h : w.cell? ⟨b, 0, none⟩ = some (.string s)) : RepF w (strs [s]) [.slice (some ⟨b, 0, none⟩) 1 1] [b] := by
  refine RepF.strs_mk (l := [s]) (by simp) (by unfold maxLen; omega) (by simp) hb fun i x hx => ?_
  match i with
  | 0 => simp at hx; rw [Nat.add_zero, h, hx]
  | i + 1 => simp at hx

set_option maxRecDepth 100000 in
set_option maxHeartbeats 8000000 in
theorem builtinInfos_any (w : World) : Calls Tryz.prog 225 #[] w (GivesV w (MClassInfos infosL)) := by
  obtain ⟨i0, hi, hz0, hz1, hz2⟩ := info_parts ciInfo
  have HA : Hid (Acc w.heap.size (w.alloc (.cells #[] 212)) 212 3 (.slice (some ⟨w.heap.size, 0, none⟩) 0 0) [] []) := Lib.hid (Acc.empty _ _ (Nat.le_refl _))
  go_enter Tryz.func225, Tryz.ntmps225
  go_wp2_with fail
  refine (impl_BuiltinClasses_any _).mono ?_
  rintro e w1 ⟨ao, n, cap, fpn, rfl, hr, hf, hx1⟩
  obtain ⟨ao', ca, h1, hla, hma, hh⟩ := hr.strs_own hf.own
  simp only [Value.slice.injEq] at h1
  obtain ⟨rfl, rfl, rfl⟩ := h1
  rcases hh with ⟨h, -⟩ | ⟨ba, oa, C, te, -, rfl, rfl, hO, -⟩
  · cases h
  have hbn : ba ≠ w.heap.size := by have := hf.ge ba (by simp); simp at this; omega
  obtain ⟨ao', ca, ba', oa', h1, -, hma, pa, ha⟩ := hr.rep.strs
  simp only [List.cons.injEq, and_true, Value.slice.injEq, Option.some.injEq] at h1
  obtain ⟨rfl, -, rfl⟩ := h1
  have e0 := pa (by decide)
  simp only [Option.some.injEq, Addr.mk.injEq, and_true] at e0
  obtain ⟨rfl, rfl⟩ := e0
  have hlen : builtinsL.length = 16 := rfl
  have HC : Hid (∀ i, i < 16 → w1.cell? ⟨ba, oa + i, none⟩ = some (.string (builtinsL.getD i ⟨#[]⟩))) := Lib.hid fun i h => ha i _ (by rw [List.getD_eq_getElem?_getD, List.getElem?_eq_getElem (by rw [hlen]; exact h)]; rfl)
  have e1 : Ext w w1 := ((Ext.refl w).alloc _).trans hx1
  have HA1 := Lib.hid (HA.out.ext hx1)
  have hz1w : w.heap.size < w1.heap.size := by have := hx1.size; simp at this; omega
  clear hr hf ha pa hx1 HA hO
  rw [hlen] at *
  unfold maxLen at hma
  go_wp2_with fail
  go_loopw [1, 8] (fun ov iv wr => ∃ (k : Nat) (fp : List Nat), k ≤ 16 ∧ iv = .int .i64 k ∧ Acc w.heap.size wr 212 3 ov ((infosL.take k).map MClassInfo.d) fp ∧ Touch w1 wr [w.heap.size] ∧ (∀ g, ov.ownBlock = some g → g ∈ [w.heap.size] ∨ w1.heap.size ≤ g)) (fun _ iv _ => 16 - (intOf iv).toNat)
  case atStart => exact ⟨0, [], Nat.zero_le _, rfl, by simpa using HA1.out, Touch.of_ext (Ext.refl _) _, fun g hg => Or.inl (by simp [Value.ownBlock] at hg; simp [hg])⟩
  case round =>
    clear HA1
    obtain ⟨k, fp, hk, rfl, hacc, hT, hown⟩ := hrel
    by_cases hlt : k < 16
    rotate_left
    · obtain rfl : k = 16 := by omega
      obtain ⟨ao2, cap2, gp, rfl, h4, hf4⟩ := hacc.rep
      have e : infosL.take 16 = infosL := List.take_of_length_le (by rw [infosL_length]; omega)
      rw [e] at h4
      simp only [e]
      go_wp2_with fail
      go_ret
      exact ⟨ao2, _, cap2, gp, rfl, by simpa [MClassInfos] using h4, hf4, hT.ext e1 (by simp)⟩
    have a0 := hT.cellAt (by simpa using hbn) (HC.out k hlt)
    have HT : Hid ((infosL.take (k + 1)).map MClassInfo.d = (infosL.take k).map MClassInfo.d ++ [(infoAt k).d]) := Lib.hid (by rw [infosL_take k hlt, List.map_append]; rfl)
    have hds : ((infosL.take k).map MClassInfo.d).length ≤ 16 := by simp; omega
    obtain ⟨nm, hnm⟩ : ∃ nm, builtinsL.getD k ⟨#[]⟩ = nm := ⟨_, rfl⟩
    rw [hnm] at a0
    have HN : Hid ((infoAt k).name = nm) := Lib.hid hnm
    clear hnm
    have hwz : w.heap.size ≤ wr.heap.size := Nat.le_trans (Nat.le_of_lt hz1w) hT.size
    obtain ⟨ds, hdsq⟩ : ∃ ds, (infosL.take k).map MClassInfo.d = ds := ⟨_, rfl⟩
    rw [hdsq] at hacc hds HT
    clear hdsq
    have key : ∀ (W : World) (cs : List Value) (par : Int) (fv : Value) (f : List Nat), cs = [.string nm, .int .i64 par, fv] → RepF W (strs (fieldsAt k)) [fv] f → parentsL.getD k 0 = par → RepF W (infoAt k).d cs f := by
      rintro W cs par fv f rfl h1 h2
      have := MClassInfo.shut (x := infoAt k) (v_fields := fv) (f_fields := f) h1
      rw [HN.out, show (infoAt k).parent = par from h2] at this
      simpa using this
    have KEY := Lib.hid key; clear key
    obtain ⟨ao3, cap3, gp3, hov, -, -⟩ := hacc.rep
    subst hov
    by_cases hk0 : k = 0
    · skip
      have HF : Hid (fieldsAt k = []) := Lib.hid (by rw [hk0]; rfl)
      have HP : Hid (parentsL.getD k 0 = -1) := Lib.hid (by rw [hk0]; rfl)
      have hd : decide ((1 : Int) ≤ k ∧ (k : Int) ≤ 4) = false := decide_eq_false (by omega)
      have t0 : ((k : Int) == 0) = true := int_eq (by omega)
      have t2 : ((k : Int) == 2) = false := int_ne (by omega)
      have t3 : ((k : Int) == 3) = false := int_ne (by omega)
      have t4 : ((k : Int) == 4) = false := int_ne (by omega)
      clear hk0
      have EX : Hid (Ext wr ((wr.alloc (.cells #[.string nm, .int .i64 (-1), .slice none 0 0] 212)).alloc (.cells #[.string nm, .int .i64 (-1), .slice none 0 0] 212))) := Lib.hid (((Ext.refl wr).alloc _).alloc _)
      have HR : Hid (RepF ((wr.alloc (.cells #[.string nm, .int .i64 (-1), .slice none 0 0] 212)).alloc (.cells #[.string nm, .int .i64 (-1), .slice none 0 0] 212)) (.sl 3 [(infoAt k).d]) [.slice (some ⟨wr.heap.size + 1, 0, none⟩) 1 1] ((wr.heap.size + 1) :: [])) := Lib.hid (RepF.row1 (cs := [.string nm, .int .i64 (-1), .slice none 0 0]) (own_new2 wr _ _ _).lt rfl (row3 (by rw [(own_new2 wr _ _ _).cell]; rfl) (by rw [(own_new2 wr _ _ _).cell]; rfl) (by rw [(own_new2 wr _ _ _).cell]; rfl)) (KEY.out _ _ (-1) _ _ rfl (by rw [HF.out]; exact nil_strs _) HP.out))
      have HF1 := Lib.hid (hacc.add_facts EX.out (f := []) (Fresh.nil _ _) hwz)
      have HM : Hid (ds.length + 1 ≤ maxLen) := Lib.hid (by unfold maxLen; omega)
      have HY : Hid ((ds.length + 1) * 48 ≤ 140737488355328) := Lib.hid (by omega)
      have HB : Hid (w.heap.size ≤ ((wr.alloc (.cells #[.string nm, .int .i64 (-1), .slice none 0 0] 212)).alloc (.cells #[.string nm, .int .i64 (-1), .slice none 0 0] 212)).heap.size ) := Lib.hid (Nat.le_trans hwz EX.out.size)
      go_wp2_with fail
      refine (within_any _ _ _ _).mono ?_
      rw [show decide ((1 : Int) ≤ k ∧ (k : Int) ≤ 4) = false from hd]
      rintro e w2 ⟨rfl, hw2⟩
      subst w2
      go_wp2_with (at_builtin; (refine wpList_append_at rfl _ _ 32 rfl w.heap.size 212 i0 _ 3 48 Tryz.underlying32 hi hz0 hz1 hz2 rfl (by decide) _ ds fp rfl (hacc.ext EX.out) [(infoAt k).d] _ 1 1 ((wr.heap.size + 1) :: []) rfl HR.out HF1.out.1 HF1.out.2 HM.out HY.out HB.out ?_))
      intro ao' cap' w' hacc2 hg hown2
      have hT2 : Touch w1 w' [w.heap.size] := (hT.trans (Touch.of_ext (((Ext.refl wr).alloc _).alloc _) _)).grown hg hown
      have hown' : ∀ g, (Value.slice ao' (ds.length + 1) cap').ownBlock = some g → g ∈ [w.heap.size] ∨ w1.heap.size ≤ g := fun g hg2 => by
        rcases hown2 with h | h
        · exact hown g (h ▸ hg2)
        · rw [h] at hg2; injection hg2 with hg2; right; have h5 := hT.size; have h6 := EX.out.size; first | omega | (simp at h6 hg2; omega) | (simp at hg2; omega)
      clear hown2 hg hacc
      go_wp2_with fail
      go_roundw
      case rel => exact ⟨k + 1, _, by omega, by go_num, by rw [HT.out]; exact hacc2, hT2, hown'⟩
      case measure => simp [intOf]; omega
    by_cases hk1 : k = 1
    · skip
      have HF : Hid (fieldsAt k = [⟨#[116, 101, 120, 116]⟩]) := Lib.hid (by rw [hk1]; rfl)
      have HP : Hid (parentsL.getD k 0 = 0) := Lib.hid (by rw [hk1]; rfl)
      have hd : decide ((1 : Int) ≤ k ∧ (k : Int) ≤ 4) = true := decide_eq_true (by omega)
      have t0 : ((k : Int) == 0) = false := int_ne (by omega)
      have t2 : ((k : Int) == 2) = false := int_ne (by omega)
      have t3 : ((k : Int) == 3) = false := int_ne (by omega)
      have t4 : ((k : Int) == 4) = false := int_ne (by omega)
      clear hk1
      have EX : Hid (Ext wr (((wr.alloc (.cells #[.string nm, .int .i64 (0), .slice (some ⟨wr.heap.size + 1, 0, none⟩) 1 1] 212)).alloc (.cells #[.string ⟨#[116, 101, 120, 116]⟩] 9)).alloc (.cells #[.string nm, .int .i64 (0), .slice (some ⟨wr.heap.size + 1, 0, none⟩) 1 1] 212))) := Lib.hid ((((Ext.refl wr).alloc _).alloc _).alloc _)
      have HR : Hid (RepF (((wr.alloc (.cells #[.string nm, .int .i64 (0), .slice (some ⟨wr.heap.size + 1, 0, none⟩) 1 1] 212)).alloc (.cells #[.string ⟨#[116, 101, 120, 116]⟩] 9)).alloc (.cells #[.string nm, .int .i64 (0), .slice (some ⟨wr.heap.size + 1, 0, none⟩) 1 1] 212)) (.sl 3 [(infoAt k).d]) [.slice (some ⟨wr.heap.size + 1 + 1, 0, none⟩) 1 1] ((wr.heap.size + 1 + 1) :: [wr.heap.size + 1])) := Lib.hid (RepF.row1 (cs := [.string nm, .int .i64 (0), .slice (some ⟨wr.heap.size + 1, 0, none⟩) 1 1]) (own_new3 wr _ _ _ _).lt rfl (row3 (by rw [(own_new3 wr _ _ _ _).cell]; rfl) (by rw [(own_new3 wr _ _ _ _).cell]; rfl) (by rw [(own_new3 wr _ _ _ _).cell]; rfl)) (KEY.out _ _ (0) _ _ rfl (by rw [HF.out]; exact one_str ((own_new2 wr _ _ _).ext ((Ext.refl _).alloc _)).lt (by rw [((own_new2 wr _ _ _).ext ((Ext.refl _).alloc _)).cell]; rfl)) HP.out))
      have HF1 := Lib.hid (hacc.add_facts EX.out (f := [wr.heap.size + 1]) (⟨by simp, by simp, fun b hb => by simp at hb; subst hb; exact ⟨_, _, ((own_new2 wr _ _ _).ext ((Ext.refl _).alloc _))⟩⟩) hwz)
      have HM : Hid (ds.length + 1 ≤ maxLen) := Lib.hid (by unfold maxLen; omega)
      have HY : Hid ((ds.length + 1) * 48 ≤ 140737488355328) := Lib.hid (by omega)
      have HB : Hid (w.heap.size ≤ (((wr.alloc (.cells #[.string nm, .int .i64 (0), .slice (some ⟨wr.heap.size + 1, 0, none⟩) 1 1] 212)).alloc (.cells #[.string ⟨#[116, 101, 120, 116]⟩] 9)).alloc (.cells #[.string nm, .int .i64 (0), .slice (some ⟨wr.heap.size + 1, 0, none⟩) 1 1] 212)).heap.size ) := Lib.hid (Nat.le_trans hwz EX.out.size)
      go_wp2_with fail
      refine (within_any _ _ _ _).mono ?_
      rw [show decide ((1 : Int) ≤ k ∧ (k : Int) ≤ 4) = true from hd]
      rintro e w2 ⟨rfl, hw2⟩
      subst w2
      go_wp2_with (at_builtin; (refine wpList_append_at rfl _ _ 32 rfl w.heap.size 212 i0 _ 3 48 Tryz.underlying32 hi hz0 hz1 hz2 rfl (by decide) _ ds fp rfl (hacc.ext EX.out) [(infoAt k).d] _ 1 1 ((wr.heap.size + 1 + 1) :: [wr.heap.size + 1]) rfl HR.out HF1.out.1 HF1.out.2 HM.out HY.out HB.out ?_))
      intro ao' cap' w' hacc2 hg hown2
      have hT2 : Touch w1 w' [w.heap.size] := (hT.trans (Touch.of_ext ((((Ext.refl wr).alloc _).alloc _).alloc _) _)).grown hg hown
      have hown' : ∀ g, (Value.slice ao' (ds.length + 1) cap').ownBlock = some g → g ∈ [w.heap.size] ∨ w1.heap.size ≤ g := fun g hg2 => by
        rcases hown2 with h | h
        · exact hown g (h ▸ hg2)
        · rw [h] at hg2; injection hg2 with hg2; right; have h5 := hT.size; have h6 := EX.out.size; first | omega | (simp at h6 hg2; omega) | (simp at hg2; omega)
      clear hown2 hg hacc
      go_wp2_with fail
      go_roundw
      case rel => exact ⟨k + 1, _, by omega, by go_num, by rw [HT.out]; exact hacc2, hT2, hown'⟩
      case measure => simp [intOf]; omega
    by_cases hk2 : k = 2
    · skip
      have HF : Hid (fieldsAt k = [⟨#[116, 101, 120, 116]⟩]) := Lib.hid (by rw [hk2]; rfl)
      have HP : Hid (parentsL.getD k 0 = 1) := Lib.hid (by rw [hk2]; rfl)
      have hd : decide ((1 : Int) ≤ k ∧ (k : Int) ≤ 4) = true := decide_eq_true (by omega)
      have t0 : ((k : Int) == 0) = false := int_ne (by omega)
      have t2 : ((k : Int) == 2) = true := int_eq (by omega)
      have t3 : ((k : Int) == 3) = false := int_ne (by omega)
      have t4 : ((k : Int) == 4) = false := int_ne (by omega)
      clear hk2
      have EX : Hid (Ext wr (((wr.alloc (.cells #[.string nm, .int .i64 (1), .slice (some ⟨wr.heap.size + 1, 0, none⟩) 1 1] 212)).alloc (.cells #[.string ⟨#[116, 101, 120, 116]⟩] 9)).alloc (.cells #[.string nm, .int .i64 (1), .slice (some ⟨wr.heap.size + 1, 0, none⟩) 1 1] 212))) := Lib.hid ((((Ext.refl wr).alloc _).alloc _).alloc _)
      have HR : Hid (RepF (((wr.alloc (.cells #[.string nm, .int .i64 (1), .slice (some ⟨wr.heap.size + 1, 0, none⟩) 1 1] 212)).alloc (.cells #[.string ⟨#[116, 101, 120, 116]⟩] 9)).alloc (.cells #[.string nm, .int .i64 (1), .slice (some ⟨wr.heap.size + 1, 0, none⟩) 1 1] 212)) (.sl 3 [(infoAt k).d]) [.slice (some ⟨wr.heap.size + 1 + 1, 0, none⟩) 1 1] ((wr.heap.size + 1 + 1) :: [wr.heap.size + 1])) := Lib.hid (RepF.row1 (cs := [.string nm, .int .i64 (1), .slice (some ⟨wr.heap.size + 1, 0, none⟩) 1 1]) (own_new3 wr _ _ _ _).lt rfl (row3 (by rw [(own_new3 wr _ _ _ _).cell]; rfl) (by rw [(own_new3 wr _ _ _ _).cell]; rfl) (by rw [(own_new3 wr _ _ _ _).cell]; rfl)) (KEY.out _ _ (1) _ _ rfl (by rw [HF.out]; exact one_str ((own_new2 wr _ _ _).ext ((Ext.refl _).alloc _)).lt (by rw [((own_new2 wr _ _ _).ext ((Ext.refl _).alloc _)).cell]; rfl)) HP.out))
      have HF1 := Lib.hid (hacc.add_facts EX.out (f := [wr.heap.size + 1]) (⟨by simp, by simp, fun b hb => by simp at hb; subst hb; exact ⟨_, _, ((own_new2 wr _ _ _).ext ((Ext.refl _).alloc _))⟩⟩) hwz)
      have HM : Hid (ds.length + 1 ≤ maxLen) := Lib.hid (by unfold maxLen; omega)
      have HY : Hid ((ds.length + 1) * 48 ≤ 140737488355328) := Lib.hid (by omega)
      have HB : Hid (w.heap.size ≤ (((wr.alloc (.cells #[.string nm, .int .i64 (1), .slice (some ⟨wr.heap.size + 1, 0, none⟩) 1 1] 212)).alloc (.cells #[.string ⟨#[116, 101, 120, 116]⟩] 9)).alloc (.cells #[.string nm, .int .i64 (1), .slice (some ⟨wr.heap.size + 1, 0, none⟩) 1 1] 212)).heap.size ) := Lib.hid (Nat.le_trans hwz EX.out.size)
      go_wp2_with fail
      refine (within_any _ _ _ _).mono ?_
      rw [show decide ((1 : Int) ≤ k ∧ (k : Int) ≤ 4) = true from hd]
      rintro e w2 ⟨rfl, hw2⟩
      subst w2
      go_wp2_with (at_builtin; (refine wpList_append_at rfl _ _ 32 rfl w.heap.size 212 i0 _ 3 48 Tryz.underlying32 hi hz0 hz1 hz2 rfl (by decide) _ ds fp rfl (hacc.ext EX.out) [(infoAt k).d] _ 1 1 ((wr.heap.size + 1 + 1) :: [wr.heap.size + 1]) rfl HR.out HF1.out.1 HF1.out.2 HM.out HY.out HB.out ?_))
      intro ao' cap' w' hacc2 hg hown2
      have hT2 : Touch w1 w' [w.heap.size] := (hT.trans (Touch.of_ext ((((Ext.refl wr).alloc _).alloc _).alloc _) _)).grown hg hown
      have hown' : ∀ g, (Value.slice ao' (ds.length + 1) cap').ownBlock = some g → g ∈ [w.heap.size] ∨ w1.heap.size ≤ g := fun g hg2 => by
        rcases hown2 with h | h
        · exact hown g (h ▸ hg2)
        · rw [h] at hg2; injection hg2 with hg2; right; have h5 := hT.size; have h6 := EX.out.size; first | omega | (simp at h6 hg2; omega) | (simp at hg2; omega)
      clear hown2 hg hacc
      go_wp2_with fail
      go_roundw
      case rel => exact ⟨k + 1, _, by omega, by go_num, by rw [HT.out]; exact hacc2, hT2, hown'⟩
      case measure => simp [intOf]; omega
    by_cases hk3 : k = 3
    · skip
      have HF : Hid (fieldsAt k = [⟨#[116, 101, 120, 116]⟩]) := Lib.hid (by rw [hk3]; rfl)
      have HP : Hid (parentsL.getD k 0 = 2) := Lib.hid (by rw [hk3]; rfl)
      have hd : decide ((1 : Int) ≤ k ∧ (k : Int) ≤ 4) = true := decide_eq_true (by omega)
      have t0 : ((k : Int) == 0) = false := int_ne (by omega)
      have t2 : ((k : Int) == 2) = false := int_ne (by omega)
      have t3 : ((k : Int) == 3) = true := int_eq (by omega)
      have t4 : ((k : Int) == 4) = false := int_ne (by omega)
      clear hk3
      have EX : Hid (Ext wr (((wr.alloc (.cells #[.string nm, .int .i64 (2), .slice (some ⟨wr.heap.size + 1, 0, none⟩) 1 1] 212)).alloc (.cells #[.string ⟨#[116, 101, 120, 116]⟩] 9)).alloc (.cells #[.string nm, .int .i64 (2), .slice (some ⟨wr.heap.size + 1, 0, none⟩) 1 1] 212))) := Lib.hid ((((Ext.refl wr).alloc _).alloc _).alloc _)
      have HR : Hid (RepF (((wr.alloc (.cells #[.string nm, .int .i64 (2), .slice (some ⟨wr.heap.size + 1, 0, none⟩) 1 1] 212)).alloc (.cells #[.string ⟨#[116, 101, 120, 116]⟩] 9)).alloc (.cells #[.string nm, .int .i64 (2), .slice (some ⟨wr.heap.size + 1, 0, none⟩) 1 1] 212)) (.sl 3 [(infoAt k).d]) [.slice (some ⟨wr.heap.size + 1 + 1, 0, none⟩) 1 1] ((wr.heap.size + 1 + 1) :: [wr.heap.size + 1])) := Lib.hid (RepF.row1 (cs := [.string nm, .int .i64 (2), .slice (some ⟨wr.heap.size + 1, 0, none⟩) 1 1]) (own_new3 wr _ _ _ _).lt rfl (row3 (by rw [(own_new3 wr _ _ _ _).cell]; rfl) (by rw [(own_new3 wr _ _ _ _).cell]; rfl) (by rw [(own_new3 wr _ _ _ _).cell]; rfl)) (KEY.out _ _ (2) _ _ rfl (by rw [HF.out]; exact one_str ((own_new2 wr _ _ _).ext ((Ext.refl _).alloc _)).lt (by rw [((own_new2 wr _ _ _).ext ((Ext.refl _).alloc _)).cell]; rfl)) HP.out))
      have HF1 := Lib.hid (hacc.add_facts EX.out (f := [wr.heap.size + 1]) (⟨by simp, by simp, fun b hb => by simp at hb; subst hb; exact ⟨_, _, ((own_new2 wr _ _ _).ext ((Ext.refl _).alloc _))⟩⟩) hwz)
      have HM : Hid (ds.length + 1 ≤ maxLen) := Lib.hid (by unfold maxLen; omega)
      have HY : Hid ((ds.length + 1) * 48 ≤ 140737488355328) := Lib.hid (by omega)
      have HB : Hid (w.heap.size ≤ (((wr.alloc (.cells #[.string nm, .int .i64 (2), .slice (some ⟨wr.heap.size + 1, 0, none⟩) 1 1] 212)).alloc (.cells #[.string ⟨#[116, 101, 120, 116]⟩] 9)).alloc (.cells #[.string nm, .int .i64 (2), .slice (some ⟨wr.heap.size + 1, 0, none⟩) 1 1] 212)).heap.size ) := Lib.hid (Nat.le_trans hwz EX.out.size)
      go_wp2_with fail
      refine (within_any _ _ _ _).mono ?_
      rw [show decide ((1 : Int) ≤ k ∧ (k : Int) ≤ 4) = true from hd]
      rintro e w2 ⟨rfl, hw2⟩
      subst w2
      go_wp2_with (at_builtin; (refine wpList_append_at rfl _ _ 32 rfl w.heap.size 212 i0 _ 3 48 Tryz.underlying32 hi hz0 hz1 hz2 rfl (by decide) _ ds fp rfl (hacc.ext EX.out) [(infoAt k).d] _ 1 1 ((wr.heap.size + 1 + 1) :: [wr.heap.size + 1]) rfl HR.out HF1.out.1 HF1.out.2 HM.out HY.out HB.out ?_))
      intro ao' cap' w' hacc2 hg hown2
      have hT2 : Touch w1 w' [w.heap.size] := (hT.trans (Touch.of_ext ((((Ext.refl wr).alloc _).alloc _).alloc _) _)).grown hg hown
      have hown' : ∀ g, (Value.slice ao' (ds.length + 1) cap').ownBlock = some g → g ∈ [w.heap.size] ∨ w1.heap.size ≤ g := fun g hg2 => by
        rcases hown2 with h | h
        · exact hown g (h ▸ hg2)
        · rw [h] at hg2; injection hg2 with hg2; right; have h5 := hT.size; have h6 := EX.out.size; first | omega | (simp at h6 hg2; omega) | (simp at hg2; omega)
      clear hown2 hg hacc
      go_wp2_with fail
      go_roundw
      case rel => exact ⟨k + 1, _, by omega, by go_num, by rw [HT.out]; exact hacc2, hT2, hown'⟩
      case measure => simp [intOf]; omega
    by_cases hk4 : k = 4
    · skip
      have HF : Hid (fieldsAt k = [⟨#[116, 101, 120, 116]⟩]) := Lib.hid (by rw [hk4]; rfl)
      have HP : Hid (parentsL.getD k 0 = 2) := Lib.hid (by rw [hk4]; rfl)
      have hd : decide ((1 : Int) ≤ k ∧ (k : Int) ≤ 4) = true := decide_eq_true (by omega)
      have t0 : ((k : Int) == 0) = false := int_ne (by omega)
      have t2 : ((k : Int) == 2) = false := int_ne (by omega)
      have t3 : ((k : Int) == 3) = false := int_ne (by omega)
      have t4 : ((k : Int) == 4) = true := int_eq (by omega)
      clear hk4
      have EX : Hid (Ext wr (((wr.alloc (.cells #[.string nm, .int .i64 (2), .slice (some ⟨wr.heap.size + 1, 0, none⟩) 1 1] 212)).alloc (.cells #[.string ⟨#[116, 101, 120, 116]⟩] 9)).alloc (.cells #[.string nm, .int .i64 (2), .slice (some ⟨wr.heap.size + 1, 0, none⟩) 1 1] 212))) := Lib.hid ((((Ext.refl wr).alloc _).alloc _).alloc _)
      have HR : Hid (RepF (((wr.alloc (.cells #[.string nm, .int .i64 (2), .slice (some ⟨wr.heap.size + 1, 0, none⟩) 1 1] 212)).alloc (.cells #[.string ⟨#[116, 101, 120, 116]⟩] 9)).alloc (.cells #[.string nm, .int .i64 (2), .slice (some ⟨wr.heap.size + 1, 0, none⟩) 1 1] 212)) (.sl 3 [(infoAt k).d]) [.slice (some ⟨wr.heap.size + 1 + 1, 0, none⟩) 1 1] ((wr.heap.size + 1 + 1) :: [wr.heap.size + 1])) := Lib.hid (RepF.row1 (cs := [.string nm, .int .i64 (2), .slice (some ⟨wr.heap.size + 1, 0, none⟩) 1 1]) (own_new3 wr _ _ _ _).lt rfl (row3 (by rw [(own_new3 wr _ _ _ _).cell]; rfl) (by rw [(own_new3 wr _ _ _ _).cell]; rfl) (by rw [(own_new3 wr _ _ _ _).cell]; rfl)) (KEY.out _ _ (2) _ _ rfl (by rw [HF.out]; exact one_str ((own_new2 wr _ _ _).ext ((Ext.refl _).alloc _)).lt (by rw [((own_new2 wr _ _ _).ext ((Ext.refl _).alloc _)).cell]; rfl)) HP.out))
      have HF1 := Lib.hid (hacc.add_facts EX.out (f := [wr.heap.size + 1]) (⟨by simp, by simp, fun b hb => by simp at hb; subst hb; exact ⟨_, _, ((own_new2 wr _ _ _).ext ((Ext.refl _).alloc _))⟩⟩) hwz)
      have HM : Hid (ds.length + 1 ≤ maxLen) := Lib.hid (by unfold maxLen; omega)
      have HY : Hid ((ds.length + 1) * 48 ≤ 140737488355328) := Lib.hid (by omega)
      have HB : Hid (w.heap.size ≤ (((wr.alloc (.cells #[.string nm, .int .i64 (2), .slice (some ⟨wr.heap.size + 1, 0, none⟩) 1 1] 212)).alloc (.cells #[.string ⟨#[116, 101, 120, 116]⟩] 9)).alloc (.cells #[.string nm, .int .i64 (2), .slice (some ⟨wr.heap.size + 1, 0, none⟩) 1 1] 212)).heap.size ) := Lib.hid (Nat.le_trans hwz EX.out.size)
      go_wp2_with fail
      refine (within_any _ _ _ _).mono ?_
      rw [show decide ((1 : Int) ≤ k ∧ (k : Int) ≤ 4) = true from hd]
      rintro e w2 ⟨rfl, hw2⟩
      subst w2
      go_wp2_with (at_builtin; (refine wpList_append_at rfl _ _ 32 rfl w.heap.size 212 i0 _ 3 48 Tryz.underlying32 hi hz0 hz1 hz2 rfl (by decide) _ ds fp rfl (hacc.ext EX.out) [(infoAt k).d] _ 1 1 ((wr.heap.size + 1 + 1) :: [wr.heap.size + 1]) rfl HR.out HF1.out.1 HF1.out.2 HM.out HY.out HB.out ?_))
      intro ao' cap' w' hacc2 hg hown2
      have hT2 : Touch w1 w' [w.heap.size] := (hT.trans (Touch.of_ext ((((Ext.refl wr).alloc _).alloc _).alloc _) _)).grown hg hown
      have hown' : ∀ g, (Value.slice ao' (ds.length + 1) cap').ownBlock = some g → g ∈ [w.heap.size] ∨ w1.heap.size ≤ g := fun g hg2 => by
        rcases hown2 with h | h
        · exact hown g (h ▸ hg2)
        · rw [h] at hg2; injection hg2 with hg2; right; have h5 := hT.size; have h6 := EX.out.size; first | omega | (simp at h6 hg2; omega) | (simp at hg2; omega)
      clear hown2 hg hacc
      go_wp2_with fail
      go_roundw
      case rel => exact ⟨k + 1, _, by omega, by go_num, by rw [HT.out]; exact hacc2, hT2, hown'⟩
      case measure => simp [intOf]; omega
    have HF : Hid (fieldsAt k = []) := Lib.hid (by unfold fieldsAt; rw [if_neg (by omega)])
    have HP : Hid (parentsL.getD k 0 = 0) := Lib.hid (par_high (by omega) hlt)
    have t0 : ((k : Int) == 0) = false := int_ne (by omega)
    have t2 : ((k : Int) == 2) = false := int_ne (by omega)
    have t3 : ((k : Int) == 3) = false := int_ne (by omega)
    have t4 : ((k : Int) == 4) = false := int_ne (by omega)
    have EX : Hid (Ext wr ((wr.alloc (.cells #[.string nm, .int .i64 (0), .slice none 0 0] 212)).alloc (.cells #[.string nm, .int .i64 (0), .slice none 0 0] 212))) := Lib.hid (((Ext.refl wr).alloc _).alloc _)
    have HR : Hid (RepF ((wr.alloc (.cells #[.string nm, .int .i64 (0), .slice none 0 0] 212)).alloc (.cells #[.string nm, .int .i64 (0), .slice none 0 0] 212)) (.sl 3 [(infoAt k).d]) [.slice (some ⟨wr.heap.size + 1, 0, none⟩) 1 1] ((wr.heap.size + 1) :: [])) := Lib.hid (RepF.row1 (cs := [.string nm, .int .i64 (0), .slice none 0 0]) (own_new2 wr _ _ _).lt rfl (row3 (by rw [(own_new2 wr _ _ _).cell]; rfl) (by rw [(own_new2 wr _ _ _).cell]; rfl) (by rw [(own_new2 wr _ _ _).cell]; rfl)) (KEY.out _ _ (0) _ _ rfl (by rw [HF.out]; exact nil_strs _) HP.out))
    have HF1 := Lib.hid (hacc.add_facts EX.out (f := []) (Fresh.nil _ _) hwz)
    have HM : Hid (ds.length + 1 ≤ maxLen) := Lib.hid (by unfold maxLen; omega)
    have HY : Hid ((ds.length + 1) * 48 ≤ 140737488355328) := Lib.hid (by omega)
    have HB : Hid (w.heap.size ≤ ((wr.alloc (.cells #[.string nm, .int .i64 (0), .slice none 0 0] 212)).alloc (.cells #[.string nm, .int .i64 (0), .slice none 0 0] 212)).heap.size ) := Lib.hid (Nat.le_trans hwz EX.out.size)
    go_wp2_with fail
    refine (within_any _ _ _ _).mono ?_
    rw [show decide ((1 : Int) ≤ k ∧ (k : Int) ≤ 4) = false from decide_eq_false (by omega)]
    rintro e w2 ⟨rfl, hw2⟩
    subst w2
    go_wp2_with (at_builtin; (refine wpList_append_at rfl _ _ 32 rfl w.heap.size 212 i0 _ 3 48 Tryz.underlying32 hi hz0 hz1 hz2 rfl (by decide) _ ds fp rfl (hacc.ext EX.out) [(infoAt k).d] _ 1 1 ((wr.heap.size + 1) :: []) rfl HR.out HF1.out.1 HF1.out.2 HM.out HY.out HB.out ?_))
    intro ao' cap' w' hacc2 hg hown2
    have hT2 : Touch w1 w' [w.heap.size] := (hT.trans (Touch.of_ext (((Ext.refl wr).alloc _).alloc _) _)).grown hg hown
    have hown' : ∀ g, (Value.slice ao' (ds.length + 1) cap').ownBlock = some g → g ∈ [w.heap.size] ∨ w1.heap.size ≤ g := fun g hg2 => by
      rcases hown2 with h | h
      · exact hown g (h ▸ hg2)
      · rw [h] at hg2; injection hg2 with hg2; right; have h5 := hT.size; have h6 := EX.out.size; first | omega | (simp at h6 hg2; omega) | (simp at hg2; omega)
    clear hown2 hg hacc
    go_wp2_with fail
    go_roundw
    case rel => exact ⟨k + 1, _, by omega, by go_num, by rw [HT.out]; exact hacc2, hT2, hown'⟩
    case measure => simp [intOf]; omega


set_option maxHeartbeats 2000000 in
theorem l7Fields_low (u : Value) (k : Nat) (w : World) (hk : k < 16) : Calls Tryz.prog 156 #[u, .int .i64 k] w (GivesV w (strs (fieldsAt k))) := by
  by_cases h : 1 ≤ k ∧ k ≤ 4
  · have HF : Hid (fieldsAt k = [⟨#[116, 101, 120, 116]⟩]) := Lib.hid (by unfold fieldsAt; rw [if_pos h])
    have fin : ∀ W, GivesV W (strs (fieldsAt k)) (.returned (.slice (some ⟨W.heap.size, 0, none⟩) 1 1)) (W.alloc (.cells #[.string ⟨#[116, 101, 120, 116]⟩] 9)) := fun W => by
      rw [HF.out]; exact gives_strs W [⟨#[116, 101, 120, 116]⟩] 9 (by unfold maxLen; simp) (by simp)
    have FIN := Lib.hid fin; clear fin
    rcases (show k = 1 ∨ k = 2 ∨ k = 3 ∨ k = 4 by omega) with hk1 | hk1 | hk1 | hk1
    · have t1 : ((k : Int) == 1) = true := int_eq (by omega)
      have t2 : ((k : Int) == 2) = false := int_ne (by omega)
      have t3 : ((k : Int) == 3) = false := int_ne (by omega)
      have t4 : ((k : Int) == 4) = false := int_ne (by omega)
      clear hk1 h hk
      go_enter Tryz.func156, Tryz.ntmps156
      go_wp2_with fail
      go_ret
      exact FIN.out _
    · have t1 : ((k : Int) == 1) = false := int_ne (by omega)
      have t2 : ((k : Int) == 2) = true := int_eq (by omega)
      have t3 : ((k : Int) == 3) = false := int_ne (by omega)
      have t4 : ((k : Int) == 4) = false := int_ne (by omega)
      clear hk1 h hk
      go_enter Tryz.func156, Tryz.ntmps156
      go_wp2_with fail
      go_ret
      exact FIN.out _
    · have t1 : ((k : Int) == 1) = false := int_ne (by omega)
      have t2 : ((k : Int) == 2) = false := int_ne (by omega)
      have t3 : ((k : Int) == 3) = true := int_eq (by omega)
      have t4 : ((k : Int) == 4) = false := int_ne (by omega)
      clear hk1 h hk
      go_enter Tryz.func156, Tryz.ntmps156
      go_wp2_with fail
      go_ret
      exact FIN.out _
    · have t1 : ((k : Int) == 1) = false := int_ne (by omega)
      have t2 : ((k : Int) == 2) = false := int_ne (by omega)
      have t3 : ((k : Int) == 3) = false := int_ne (by omega)
      have t4 : ((k : Int) == 4) = true := int_eq (by omega)
      clear hk1 h hk
      go_enter Tryz.func156, Tryz.ntmps156
      go_wp2_with fail
      go_ret
      exact FIN.out _

  · have HF : Hid (fieldsAt k = []) := Lib.hid (by unfold fieldsAt; rw [if_neg h])
    have t1 : ((k : Int) == 1) = false := int_ne (by omega)
    have t2 : ((k : Int) == 2) = false := int_ne (by omega)
    have t3 : ((k : Int) == 3) = false := int_ne (by omega)
    have t4 : ((k : Int) == 4) = false := int_ne (by omega)
    have t5 : (k : Int) < 16 := by omega
    clear h
    go_enter Tryz.func156, Tryz.ntmps156
    go_wp2_with fail
    go_ret
    rw [HF.out]
    obtain ⟨ao, cap, gp, h1, h2, h3⟩ := Acc.rep (Acc.empty (B0 := w.heap.size) (w := w) 9 1 (Nat.le_refl _))
    simp only [List.length_nil, Value.slice.injEq] at h1
    obtain ⟨rfl, -, rfl⟩ := h1
    exact ⟨_, _, _, gp, rfl, h2, h3, (Ext.refl w).alloc _⟩

def parsV : List Value := [.int .i64 (-1), .int .i64 0, .int .i64 1, .int .i64 2, .int .i64 2, .int .i64 0, .int .i64 0, .int .i64 0, .int .i64 0, .int .i64 0, .int .i64 0, .int .i64 0, .int .i64 0, .int .i64 0, .int .i64 0, .int .i64 0]
theorem parsV_get {k : Nat} (h : k < 16) : parsV[k]? = some (.int .i64 (parentsL.getD k 0)) := by
  have e : parsV = parentsL.map (Value.int .i64) := rfl
  have hl : parentsL.length = 16 := rfl
  rw [e, List.getElem?_map, List.getElem?_eq_getElem (by omega), List.getD_eq_getElem?_getD, List.getElem?_eq_getElem (by omega)]; rfl
set_option maxRecDepth 100000 in
set_option maxHeartbeats 8000000 in
theorem l8Infos_any (ub : Nat) (w : World) (hu : w.cell? ⟨ub, 0, none⟩ = some (.slice none 0 0)) : Calls Tryz.prog 220 #[.pointer (some ⟨ub, 0, none⟩)] w (GivesV w (MClassInfos infosL)) := by
  obtain ⟨i0, hi, hz0, hz1, hz2⟩ := info_parts ciInfo
  have HA : Hid (Acc w.heap.size (w.alloc (.cells #[] 212)) 212 3 (.slice (some ⟨w.heap.size, 0, none⟩) 0 0) [] []) := Lib.hid (Acc.empty _ _ (Nat.le_refl _))
  have hub := lt_of_cell hu
  go_enter Tryz.func220, Tryz.ntmps220
  go_wp2_with fail
  refine (spec_BuiltinClasses_any _).mono ?_
  rintro e w0 ⟨ao, n, cap, fpn, rfl, hr, hf, hx1⟩
  obtain ⟨ao', ca, h1, hla, hma, hh⟩ := hr.strs_own hf.own
  simp only [Value.slice.injEq] at h1
  obtain ⟨rfl, rfl, rfl⟩ := h1
  rcases hh with ⟨h, -⟩ | ⟨ba, oa, C, te, -, rfl, rfl, hO, -⟩
  · cases h
  have hbn : ba ≠ w.heap.size := by have := hf.ge ba (by simp); simp at this; omega
  obtain ⟨ao', ca, ba', oa', h1, -, hma, pa, ha⟩ := hr.rep.strs
  simp only [List.cons.injEq, and_true, Value.slice.injEq, Option.some.injEq] at h1
  obtain ⟨rfl, -, rfl⟩ := h1
  have e0 := pa (by decide)
  simp only [Option.some.injEq, Addr.mk.injEq, and_true] at e0
  obtain ⟨rfl, rfl⟩ := e0
  have hlen : builtinsL.length = 16 := rfl
  have HC0 : Hid (∀ i, i < 16 → w0.cell? ⟨ba, oa + i, none⟩ = some (.string (builtinsL.getD i ⟨#[]⟩))) := Lib.hid fun i h => ha i _ (by rw [List.getD_eq_getElem?_getD, List.getElem?_eq_getElem (by rw [hlen]; exact h)]; rfl)
  have e1 : Ext w w0 := ((Ext.refl w).alloc _).trans hx1
  have HA0 := Lib.hid (HA.out.ext hx1)
  have hz1w : w.heap.size < w0.heap.size := by have := hx1.size; simp at this; omega
  clear hr hf ha pa hx1 HA hO
  rw [hlen] at *
  unfold maxLen at hma
  obtain ⟨w1, hw1⟩ : ∃ w1, w1 = w0.alloc (.cells parsV.toArray 3) := ⟨_, rfl⟩
  have E01 : Ext w0 w1 := by rw [hw1]; exact (Ext.refl _).alloc _
  have HC : Hid (∀ i, i < 16 → w1.cell? ⟨ba, oa + i, none⟩ = some (.string (builtinsL.getD i ⟨#[]⟩))) := Lib.hid fun i h => E01.cell (HC0.out i h)
  have HPC : Hid (∀ i, i < 16 → w1.cell? ⟨w0.heap.size, i, none⟩ = some (.int .i64 (parentsL.getD i 0))) := Lib.hid fun i h => by rw [hw1, (own_new w0 _ _).cell]; have := parsV_get h; simpa using this
  have HA1 := Lib.hid (HA0.out.ext E01)
  have hu1 := (e1.trans E01).cell hu
  have hpn : w0.heap.size ≠ w.heap.size := by omega
  have hub1 : ub ≠ w.heap.size := by omega
  replace hz1w : w.heap.size < w1.heap.size := Nat.lt_of_lt_of_le hz1w E01.size
  replace e1 := e1.trans E01
  clear HC0 HA0 E01 hu
  go_upto_region 5 with fail
  generalize hW : World.alloc w0 _ = w1'
  have hq : w1' = w1 := by rw [← hW]; exact hw1.symm
  clear hW
  subst w1'
  clear hw1
  go_loopw [3, 6] (fun ov iv wr => ∃ (k : Nat) (fp : List Nat), k ≤ 16 ∧ iv = .int .i64 k ∧ Acc w.heap.size wr 212 3 ov ((infosL.take k).map MClassInfo.d) fp ∧ Touch w1 wr [w.heap.size] ∧ (∀ g, ov.ownBlock = some g → g ∈ [w.heap.size] ∨ w1.heap.size ≤ g)) (fun _ iv _ => 16 - (intOf iv).toNat)
  case atStart => exact ⟨0, [], Nat.zero_le _, rfl, by simpa using HA1.out, Touch.of_ext (Ext.refl _) _, fun g hg => Or.inl (by simp [Value.ownBlock] at hg; simp [hg])⟩
  case round =>
    clear HA1
    obtain ⟨k, fp, hk, rfl, hacc, hT, hown⟩ := hrel
    have mu := hT.cellAt (by simpa using hub1) hu1
    by_cases hlt : k < 16
    rotate_left
    · obtain rfl : k = 16 := by omega
      obtain ⟨ao2, cap2, gp, rfl, h4, hf4⟩ := hacc.rep
      have e : infosL.take 16 = infosL := List.take_of_length_le (by rw [infosL_length]; omega)
      rw [e] at h4
      simp only [e]
      go_wp2_with fail
      refine wp_loop_rounds 1 ?_
      rw [rounds_succ]
      go_wp2_with fail
      go_ret
      exact ⟨ao2, _, cap2, gp, rfl, by simpa [MClassInfos] using h4, hf4, hT.ext e1 (by simp)⟩
    have b0 := HC.out k hlt
    have b1 := HPC.out k hlt
    have HT : Hid ((infosL.take (k + 1)).map MClassInfo.d = (infosL.take k).map MClassInfo.d ++ [(infoAt k).d]) := Lib.hid (by rw [infosL_take k hlt, List.map_append]; rfl)
    have hds : ((infosL.take k).map MClassInfo.d).length ≤ 16 := by simp; omega
    obtain ⟨nm, hnm⟩ : ∃ nm, builtinsL.getD k ⟨#[]⟩ = nm := ⟨_, rfl⟩
    rw [hnm] at b0
    have HN : Hid ((infoAt k).name = nm) := Lib.hid hnm
    obtain ⟨par, hpar⟩ : ∃ p, parentsL.getD k 0 = p := ⟨_, rfl⟩
    rw [hpar] at b1
    have HPN : Hid ((infoAt k).parent = par) := Lib.hid hpar
    clear hnm hpar
    have hwz : w.heap.size ≤ wr.heap.size := Nat.le_trans (Nat.le_of_lt hz1w) hT.size
    obtain ⟨ds, hdsq⟩ : ∃ ds, (infosL.take k).map MClassInfo.d = ds := ⟨_, rfl⟩
    rw [hdsq] at hacc hds HT
    clear hdsq
    have KEY : Hid (∀ (W : World) (fv : Value) (f : List Nat), RepF W (strs (fieldsAt k)) [fv] f → RepF W (infoAt k).d [.string nm, .int .i64 par, fv] f) := Lib.hid fun W fv f h1 => by
      have := MClassInfo.shut (x := infoAt k) (v_fields := fv) (f_fields := f) h1
      rw [HN.out, HPN.out] at this
      simpa using this
    obtain ⟨ao3, cap3, gp3, hov, -, -⟩ := hacc.rep
    subst hov
    have h16 : (k : Int) < 16 := by omega
    have a0 := hT.cellAt (by simpa using hbn) b0
    have a1 := hT.cellAt (by simpa using hpn) b1
    have KS : Hid (∀ w'', Touch w1 w'' [w.heap.size] → w''.cell? ⟨ba, oa + k, none⟩ = some (.string nm) ∧ w''.cell? ⟨w0.heap.size, k, none⟩ = some (.int .i64 par) ∧ Touch w1 w'' [w.heap.size]) := Lib.hid fun w'' h => ⟨h.cellAt (by simpa using hbn) b0, h.cellAt (by simpa using hpn) b1, h⟩
    have HM : Hid (ds.length + 1 ≤ maxLen) := Lib.hid (by unfold maxLen; omega)
    have HY : Hid ((ds.length + 1) * 48 ≤ 140737488355328) := Lib.hid (by omega)
    have NX : Hid (∀ (w5 : World) (af : Option Addr) (nf cf : Nat) (ff : List Nat), RepF w5 (strs (fieldsAt k)) [.slice af nf cf] ff → Fresh w5 wr.heap.size ff → Ext wr w5 →
        Acc w.heap.size (w5.alloc (.cells #[.string nm, .int .i64 par, .slice af nf cf] 212)) 212 3 (.slice ao3 ds.length cap3) ds fp ∧
        RepF (w5.alloc (.cells #[.string nm, .int .i64 par, .slice af nf cf] 212)) (.sl 3 [(infoAt k).d]) [.slice (some ⟨w5.heap.size, 0, none⟩) 1 1] (w5.heap.size :: ff) ∧
        Fresh (w5.alloc (.cells #[.string nm, .int .i64 par, .slice af nf cf] 212)) w.heap.size (fp ++ ff) ∧ (∀ g, (Value.slice ao3 ds.length cap3).ownBlock = some g → g ∉ ff) ∧ w.heap.size ≤ (w5.alloc (.cells #[.string nm, .int .i64 par, .slice af nf cf] 212)).heap.size) := Lib.hid fun w5 af nf cf ff h1 h2 h3 => by
      have ee : Ext w5 (w5.alloc (.cells #[.string nm, .int .i64 par, .slice af nf cf] 212)) := (Ext.refl _).alloc _
      have hh := hacc.add_facts (h3.trans ee) (h2.ext ee) hwz
      exact ⟨hacc.ext (h3.trans ee), RepF.row1 (cs := [.string nm, .int .i64 par, .slice af nf cf]) (own_new w5 _ _).lt rfl (row3 (by rw [(own_new w5 _ _).cell]; rfl) (by rw [(own_new w5 _ _).cell]; rfl) (by rw [(own_new w5 _ _).cell]; rfl)) (KEY.out _ _ _ (h1.ext ee)), hh.1, hh.2, Nat.le_trans hwz (h3.trans ee).size⟩
    go_wp2_with fail
    go_region_held3 (fun w'' => w''.cell? ⟨ba, oa + k, none⟩ = some (.string nm) ∧ w''.cell? ⟨w0.heap.size, k, none⟩ = some (.int .i64 par) ∧ Touch w1 w'' [w.heap.size])
      (first | exact KS.out _ hT2 | exact KS.out _ (hT.trans (Touch.of_ext ((Ext.trans (Ext.drew (Ext.refl _)) hxf).alloc _) _)) | exact KS.out _ (hT.trans (Touch.of_ext (Ext.trans (Ext.drew (Ext.refl _)) hxf) _)) | exact KS.out _ (hT.trans (Touch.of_ext (Ext.drew (Ext.refl _)) _)))
      (first
        | (go_at_call 156; refine (l7Fields_low _ k _ hlt).mono ?_; rintro e w5 ⟨af, nf, cf, ff, rfl, hrf, hff, hxf⟩; have hnx := NX.out w5 af nf cf ff hrf hff (Ext.trans (Ext.drew (Ext.refl _)) hxf))
        | (refine step_append_at rfl _ _ 32 rfl w.heap.size 212 i0 _ 3 48 Tryz.underlying32 hi hz0 hz1 hz2 rfl (by decide) _ ds fp rfl hnx.1 [(infoAt k).d] _ 1 1 (w5.heap.size :: ff) rfl hnx.2.1 hnx.2.2.1 hnx.2.2.2.1 HM.out HY.out hnx.2.2.2.2 ?_; intro ao' cap' w' hacc2 hg hown2; have hT2 : Touch w1 w' [w.heap.size] := (hT.trans (Touch.of_ext ((Ext.trans (Ext.drew (Ext.refl _)) hxf).alloc _) _)).grown hg hown))
    have hown' : ∀ g, (Value.slice ao' (ds.length + 1) cap').ownBlock = some g → g ∈ [w.heap.size] ∨ w1.heap.size ≤ g := fun g hg2 => by
      rcases hown2 with h | h
      · exact hown g (h ▸ hg2)
      · rw [h] at hg2; injection hg2 with hg2; right; have h5 := hT.size; have h6 := (Ext.trans (Ext.drew (Ext.refl wr)) hxf).size; first | omega | (simp at hg2; omega)
    clear hown2 hg hacc KS NX
    go_wp2_with fail
    go_roundw
    case rel => exact ⟨k + 1, _, by omega, by go_num, by rw [HT.out]; exact hacc2, hT2, hown'⟩
    case measure => simp [intOf]; omega

end Go.Proofs.YticdmbmjlaomiaaGreatDoor
