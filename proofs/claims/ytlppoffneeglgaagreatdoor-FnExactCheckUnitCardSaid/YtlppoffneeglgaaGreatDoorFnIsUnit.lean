/-
  CONTRACTS: IsUnit, of the program and of the reference.
  Conditions: those that each lemma states.
-/
import Derived.Test.YtlppoffneeglgaaGreatDoorRows
import Derived.Test.YtlppoffneeglgaaGreatDoorFnIsMethod
namespace Go.Proofs.YtlppoffneeglgaaGreatDoor
open Go.RowKit
set_option linter.unusedSimpArgs false
set_option linter.unusedVariables false

def ClassOk (d : MClassDef) : Prop := (nameB d.name = true ∧ nameB d.parent = true ∧ d.fields.length ≤ 4 ∧ d.methods.length ≤ 12) ∧ (∀ s, s ∈ d.fields → nameB s = true) ∧ (∀ m, m ∈ d.methods → MethOk m)
def MainOk (m : MMethod) : Prop := m.selector = ⟨#[109, 97, 105, 110]⟩ ∧ m.cls = false ∧ m.params = [] ∧ ExprOk (blockM m.params m.temps m.body)
def UnitOk (u : MUnit) : Prop := u.classes.length ≤ 8 ∧ MainOk u.main ∧ ∀ d, d ∈ u.classes → ClassOk d
theorem MClassDef.shut_rep {w : World} {x : MClassDef} {cs : List Value} (h : Rep w x.d cs) : ∃ a1 c1 a2 c2, cs = [.string x.name, .string x.parent, .slice a1 x.fields.length c1, .slice a2 x.methods.length c2] ∧ Rep w (strs x.fields) [.slice a1 x.fields.length c1] ∧ Rep w (MMethods x.methods) [.slice a2 x.methods.length c2] := by
  obtain ⟨a1, c1, a2, c2, h, h1, h2⟩ := MClassDef.op_en h
  exact ⟨a1, c1, a2, c2, h, h1, h2⟩
theorem unit_bulks {u : MUnit} (h : u.d.bulk ≤ 1048576) : u.main.d.bulk ≤ 1048576 ∧ u.classes.length ≤ 1048576 ∧ ∀ d, d ∈ u.classes → d.d.bulk ≤ 1048576 := by
  rw [MUnit.d_eq] at h
  simp only [D.bulk, D.bulkL, MClassDefs, List.length_map] at h
  refine ⟨by omega, by omega, fun d hd => ?_⟩
  have := bulkL_mem (List.mem_map_of_mem (f := MClassDef.d) hd)
  omega
theorem class_bulks {d : MClassDef} (h : d.d.bulk ≤ 1048576) : d.name.size ≤ 1048576 ∧ d.parent.size ≤ 1048576 ∧ (d.fields.length ≤ 1048576 ∧ d.methods.length ≤ 1048576) ∧ (∀ s, s ∈ d.fields → s.size ≤ 1048576) ∧ ∀ m, m ∈ d.methods → m.d.bulk ≤ 1048576 := by
  rw [MClassDef.d_eq] at h
  simp only [D.bulk, D.bulkL, strs, MMethods, List.length_map] at h
  refine ⟨by omega, by omega, ⟨by omega, by omega⟩, fun s hs => ?_, fun m hm => ?_⟩
  · have := bulkL_mem (List.mem_map_of_mem (f := D.str) hs)
    simp only [D.bulk] at this
    omega
  · have := bulkL_mem (List.mem_map_of_mem (f := MMethod.d) hm)
    omega

set_option maxHeartbeats 2000000 in
theorem mainOk_any (x : MMethod) (cx : List Value) (w : World) (rx : Rep w x.d cx) (hb : x.d.bulk ≤ 1048576) (hm : MaxOk w) :
    Calls Tryz.prog 37 #[.agg cx.toArray] w fun e w' => e = .returned (.bool (prB (MainOk x))) ∧ Ext w w' := by
  have hl := bulk_method hb
  have hbb := bulk_block hb
  have RX : Hid (∀ W, Ext w W → Rep W x.d cx) := Lib.hid fun W h => Rep.ext h rx
  obtain ⟨a1, k1, a2, k2, a3, k3, rfl⟩ := MMethod.shut_rep rx
  clear rx
  have E1 : ∀ o : Obj, Ext w (w.alloc o) := fun o => (Ext.refl w).alloc _
  by_cases h1 : x.selector = ⟨#[109, 97, 105, 110]⟩
  rotate_left
  · have t1 : ¬ x.selector.toList = [109, 97, 105, 110] := fun h => h1 (toList_inj (by rw [h]; simp))
    have t2 : (x.selector.toList == [109, 97, 105, 110]) = false := by simpa using t1
    have H1 := Lib.hid h1; clear h1
    go_enter Tryz.func37, Tryz.ntmps37
    go_wp2_with fail
    go_ret
    exact ⟨ret_bool (Eq.symm (prB_ff fun h => H1.out h.1)), E1 _⟩
  have t1 : x.selector.toList = [109, 97, 105, 110] := by rw [h1]; simp
  have t2 : (x.selector.toList == [109, 97, 105, 110]) = true := by rw [t1]; rfl
  have T1 := Lib.hid t1; clear t1
  have H1 := Lib.hid h1; clear h1
  cases hc : x.cls
  rotate_left
  · have HC := Lib.hid hc
    go_enter Tryz.func37, Tryz.ntmps37
    go_wp2_with fail
    go_ret
    exact ⟨ret_bool (Eq.symm (prB_ff fun h => by have := h.2.1; rw [HC.out] at this; cases this)), E1 _⟩
  have HC := Lib.hid hc
  by_cases hp : x.params = []
  rotate_left
  · have hp1 := int_ne (show ¬ (x.params.length : Int) = 0 by have := List.length_pos_iff.2 hp; omega)
    have HP := Lib.hid hp; clear hp
    go_enter Tryz.func37, Tryz.ntmps37
    go_wp2_with fail
    go_ret
    exact ⟨ret_bool (Eq.symm (prB_ff fun h => HP.out h.2.2.1)), E1 _⟩
  have hp1 := int_eq (show (x.params.length : Int) = 0 by rw [hp]; rfl)
  have HP := Lib.hid hp; clear hp
  go_enter Tryz.func37, Tryz.ntmps37
  go_wp2_with fail
  refine (blockOf_any x _ _ (by have := RX.out _ (E1 (.cells #[.string x.selector, .bool x.cls, .slice a1 x.params.length k1, .slice a2 x.temps.length k2, .slice a3 x.body.length k3] 35)); rw [HC.out] at this; exact this) hl).mono ?_
  rintro e w1 ⟨cs, rfl, hr, hx1⟩
  obtain ⟨b1, d1, b2, d2, rfl⟩ := MExpr.shut_rep hr
  go_wp2_with fail
  refine (impl_IsExpr_any _ _ _ hr hbb (hm.ext ((E1 _).trans hx1))).mono ?_
  rintro e w2 ⟨rfl, hx2⟩
  go_wp2_with fail
  go_ret
  refine ⟨ret_bool ?_, ((E1 _).trans hx1).trans hx2⟩
  unfold MainOk
  congr 1
  rw [eq_iff_iff]
  exact ⟨fun h => ⟨H1.out, HC.out, HP.out, h⟩, fun h => h.2.2.2⟩

set_option maxHeartbeats 4000000 in
set_option maxRecDepth 100000 in
theorem spec_IsUnit_any (u : MUnit) (cx : List Value) (w : World) (rx : Rep w u.d cx) (hb : u.d.bulk ≤ 1048576) :
    Calls Tryz.prog 11 #[.agg cx.toArray] w fun e w' => e = .returned (.bool (prB (UnitOk u))) ∧ Ext w w' := by
  obtain ⟨hbm, hcl, hbc⟩ := unit_bulks hb
  have HBC := Lib.hid hbc; clear hbc hb
  have hl := bulk_method hbm
  have hbb := bulk_block hbm
  obtain ⟨au, cu, a1, k1, a2, k2, a3, k3, rfl, rc, -, -, -, rmain⟩ := MUnit.op_en rx
  have RM : Hid (∀ W, Ext w W → Rep W u.main.d _) := Lib.hid fun W h => Rep.ext h rmain
  clear rx rmain
  have E1 : ∀ o : Obj, Ext w (w.alloc o) := fun o => (Ext.refl w).alloc _
  obtain ⟨ao, ca, ba, oa, e1, hla, hma, pa, ha⟩ := Rep.slmap rc
  simp only [List.cons.injEq, and_true, Value.slice.injEq] at e1
  obtain ⟨rfl, -, rfl⟩ := e1
  unfold maxLen at hma
  clear rc
  by_cases h8 : u.classes.length ≤ 8
  rotate_left
  · have h8' : (8 : Int) < (u.classes.length : Int) := by omega
    have H8 := Lib.hid h8; clear h8
    go_enter Tryz.func11, Tryz.ntmps11
    go_wp2_with fail
    go_ret
    exact ⟨ret_bool (Eq.symm (prB_ff fun h => H8.out h.1)), E1 _⟩
  have h8' : ¬ (8 : Int) < (u.classes.length : Int) := by omega
  by_cases h1 : u.main.selector = ⟨#[109, 97, 105, 110]⟩
  rotate_left
  · have t1 : ¬ u.main.selector.toList = [109, 97, 105, 110] := fun h => h1 (toList_inj (by rw [h]; simp))
    have t2 : (u.main.selector.toList == [109, 97, 105, 110]) = false := by simpa using t1
    have H1 := Lib.hid h1; clear h1
    go_enter Tryz.func11, Tryz.ntmps11
    go_wp2_with fail
    go_ret
    exact ⟨ret_bool (Eq.symm (prB_ff fun h => H1.out h.2.1.1)), E1 _⟩
  have t1 : u.main.selector.toList = [109, 97, 105, 110] := by rw [h1]; simp
  have t2 : (u.main.selector.toList == [109, 97, 105, 110]) = true := by rw [t1]; rfl
  have T1 := Lib.hid t1; clear t1
  have H1 := Lib.hid h1; clear h1
  cases hc : u.main.cls
  rotate_left
  · have HC := Lib.hid hc
    go_enter Tryz.func11, Tryz.ntmps11
    go_wp2_with fail
    go_ret
    exact ⟨ret_bool (Eq.symm (prB_ff fun h => by have := h.2.1.2.1; rw [HC.out] at this; cases this)), E1 _⟩
  have HC := Lib.hid hc
  by_cases hp : u.main.params = []
  rotate_left
  · have hp1 : 0 < u.main.params.length := List.length_pos_iff.2 hp
    have HP := Lib.hid hp; clear hp
    go_enter Tryz.func11, Tryz.ntmps11
    go_wp2_with fail
    go_ret
    exact ⟨ret_bool (Eq.symm (prB_ff fun h => HP.out h.2.1.2.2.1)), E1 _⟩
  have hp1 : (0 < u.main.params.length) = False := by rw [hp]; simp
  have HP := Lib.hid hp; clear hp
  have HM : Hid (prB (MainOk u.main) = prB (ExprOk (blockM u.main.params u.main.temps u.main.body))) := Lib.hid (by
    unfold MainOk
    congr 1
    rw [eq_iff_iff]
    exact ⟨fun h => h.2.2.2, fun h => ⟨H1.out, HC.out, HP.out, h⟩⟩)
  have RM2 : Hid (∀ W, Ext w W → Rep W u.main.d [.string u.main.selector, .bool false, .slice a1 u.main.params.length k1, .slice a2 u.main.temps.length k2, .slice a3 u.main.body.length k3]) := Lib.hid fun W h => by have := RM.out W h; rw [HC.out] at this; exact this
  clear RM
  cases hq : prB (ExprOk (blockM u.main.params u.main.temps u.main.body))
  · have HQ := Lib.hid hq; clear hq
    go_enter Tryz.func11, Tryz.ntmps11
    go_wp2_with fail
    refine (l5Body_any u.main _ _ (RM2.out _ (E1 _)) hl).mono ?_
    rintro e w1 ⟨cs, rfl, hr, hx1⟩
    obtain ⟨b1, d1, b2, d2, rfl⟩ := MExpr.shut_rep hr
    go_wp2_with fail
    refine (spec_IsExpr_any _ _ _ hr hbb).mono ?_
    rw [HQ.out]
    rintro e w2 ⟨rfl, hx2⟩
    go_wp2_with fail
    go_ret
    exact ⟨ret_bool (Eq.symm (prB_ff fun h => by have h2 := prB_tt h.2.1; rw [HM.out, HQ.out] at h2; cases h2)), (E1 _).trans (hx1.trans hx2)⟩
  have HQ := Lib.hid hq; clear hq
  go_enter Tryz.func11, Tryz.ntmps11
  go_wp2_with fail
  refine (l5Body_any u.main _ _ (RM2.out _ (E1 _)) hl).mono ?_
  rintro e w1 ⟨cs, rfl, hr, hx1⟩
  obtain ⟨b1, d1, b2, d2, rfl⟩ := MExpr.shut_rep hr
  go_wp2_with fail
  refine (spec_IsExpr_any _ _ _ hr hbb).mono ?_
  rw [HQ.out]
  rintro e w2 ⟨rfl, hx2⟩
  have x2 := (E1 (.cells #[.slice au u.classes.length cu, .string u.main.selector, .bool false, .slice a1 u.main.params.length k1, .slice a2 u.main.temps.length k2, .slice a3 u.main.body.length k3] 37)).trans (hx1.trans hx2)
  have m0 := Ext.cell (hx1.trans hx2) (show (w.alloc (.cells #[.slice au u.classes.length cu, .string u.main.selector, .bool false, .slice a1 u.main.params.length k1, .slice a2 u.main.temps.length k2, .slice a3 u.main.body.length k3] 37)).cell? ⟨w.heap.size, 0, none⟩ = some (.slice au u.classes.length cu) by simp)
  go_wp2_with fail
  go_loopw [3, 4, 5, 6] (fun iv _ _ _ wr => ∃ k : Nat, k ≤ u.classes.length ∧ iv = .int .i64 k ∧ Ext w wr ∧ wr.cell? ⟨w.heap.size, 0, none⟩ = some (.slice au u.classes.length cu) ∧ Hid (∀ j (hj : j < k) (hl : j < u.classes.length), ClassOk u.classes[j])) (fun iv _ _ _ _ => u.classes.length - (intOf iv).toNat)
  case atStart => exact ⟨0, Nat.zero_le _, rfl, x2, m0, Lib.hid fun j hj => by omega⟩
  case round =>
    clear m0 x2
    obtain ⟨k, hk, rfl, hx, m0, hR⟩ := hrel
    by_cases hlt : k < u.classes.length
    rotate_left
    · go_wp2_with fail
      go_ret
      exact ⟨ret_bool (Eq.symm (prB_tt ⟨h8, (by have h2 := HQ.out; rw [← HM.out] at h2; exact prB_iff.1 h2), fun d hd => by
        obtain ⟨j, hj, rfl⟩ := List.mem_iff_getElem.1 hd
        exact hR.out j (by omega) hj⟩)), hx⟩
    obtain rfl := pa (by omega)
    obtain ⟨ea, la, c1, ra⟩ := ha k u.classes[k] (by simp [hlt])
    obtain ⟨af, cf, am, cm, rfl, rf, rmm⟩ := MClassDef.shut_rep ra
    have a0 := hx.cell (show w.cell? ⟨ba, oa + k * 4, none⟩ = some _ from c1 0 (by omega))
    have a1' := hx.cell (show w.cell? ⟨ba, oa + k * 4 + 1, none⟩ = some _ from c1 1 (by omega))
    have a2' := hx.cell (show w.cell? ⟨ba, oa + k * 4 + 2, none⟩ = some _ from c1 2 (by omega))
    have a3' := hx.cell (show w.cell? ⟨ba, oa + k * 4 + 3, none⟩ = some _ from c1 3 (by omega))
    obtain ⟨hn1, hn2, ⟨hn3, hn4⟩, hn5, hn6⟩ := class_bulks (HBC.out _ (List.getElem_mem hlt))
    have HN5 := Lib.hid hn5; have HN6 := Lib.hid hn6
    have HMM := Lib.hid (show u.classes[k] ∈ u.classes from List.getElem_mem hlt)
    clear c1 la ha pa ra hn5 hn6
    generalize hM0 : u.classes[k] = d at *
    have hM := Lib.hid hM0; clear hM0
    obtain ⟨aof, caf, bf, of, e1, hlf, hmf, pf, hf⟩ := Rep.strs rf
    simp only [List.cons.injEq, and_true, Value.slice.injEq] at e1
    obtain ⟨rfl, -, rfl⟩ := e1
    obtain ⟨aom, cam, bm, om, e1, hlm, hmm, pm, hmth⟩ := Rep.slmap rmm
    simp only [List.cons.injEq, and_true, Value.slice.injEq] at e1
    obtain ⟨rfl, -, rfl⟩ := e1
    unfold maxLen at hmf hmm
    clear rf rmm
    have BX : Hid (∀ W, Ext (wr.alloc (.cells #[.string d.name, .string d.parent, .slice af d.fields.length cf, .slice am d.methods.length cm] 48)) W → W.cell? ⟨wr.heap.size, 0, none⟩ = some (.string d.name) ∧ W.cell? ⟨wr.heap.size, 1, none⟩ = some (.string d.parent) ∧ W.cell? ⟨wr.heap.size, 2, none⟩ = some (.slice af d.fields.length cf) ∧ W.cell? ⟨wr.heap.size, 3, none⟩ = some (.slice am d.methods.length cm) ∧ W.cell? ⟨w.heap.size, 0, none⟩ = some (.slice (some ⟨ba, oa, none⟩) u.classes.length cu)) := Lib.hid fun W h => ⟨Ext.cell h (by simp), Ext.cell h (by simp), Ext.cell h (by simp), Ext.cell h (by simp), Ext.cell h (((Ext.refl wr).alloc _).cell m0)⟩
    cases hq1 : nameB d.name
    · have HQ1 := Lib.hid hq1; clear hq1
      go_wp2_with fail
      refine (spec_IsName_any d.name _ (by omega)).mono ?_
      rw [HQ1.out]
      rintro e w3 ⟨rfl, hx3⟩
      go_wp2_with fail
      go_ret
      exact ⟨ret_bool (Eq.symm (prB_ff fun h => by have := (h.2.2 d HMM.out).1.1; rw [HQ1.out] at this; cases this)), (hx.alloc _).trans hx3⟩
    have HQ1 := Lib.hid hq1; clear hq1
    cases hq2 : nameB d.parent
    · have HQ2 := Lib.hid hq2; clear hq2
      go_wp2_with fail
      refine (spec_IsName_any d.name _ (by omega)).mono ?_
      rw [HQ1.out]
      rintro e w3 ⟨rfl, hx3⟩
      obtain ⟨y0, y1, y2, y3, y4⟩ := BX.out _ hx3
      clear a0 a1' a2' a3'
      go_wp2_with fail
      refine (spec_IsName_any d.parent _ (by omega)).mono ?_
      rw [HQ2.out]
      rintro e w4 ⟨rfl, hx4⟩
      go_wp2_with fail
      go_ret
      exact ⟨ret_bool (Eq.symm (prB_ff fun h => by have := (h.2.2 d HMM.out).1.2.1; rw [HQ2.out] at this; cases this)), ((hx.alloc _).trans hx3).trans hx4⟩
    have HQ2 := Lib.hid hq2; clear hq2
    by_cases hq3 : d.fields.length ≤ 4
    rotate_left
    · have hq3' : (4 : Int) < (d.fields.length : Int) := by omega
      have HQ3 := Lib.hid hq3; clear hq3
      go_wp2_with fail
      refine (spec_IsName_any d.name _ (by omega)).mono ?_
      rw [HQ1.out]
      rintro e w3 ⟨rfl, hx3⟩
      obtain ⟨y0, y1, y2, y3, y4⟩ := BX.out _ hx3
      clear a0 a1' a2' a3'
      go_wp2_with fail
      refine (spec_IsName_any d.parent _ (by omega)).mono ?_
      rw [HQ2.out]
      rintro e w4 ⟨rfl, hx4⟩
      clear y0 y1 y2 y3 y4
      obtain ⟨y0, y1, y2, y3, y4⟩ := BX.out _ (hx3.trans hx4)
      clear y0 y1
      have hz := ((hx.alloc (.cells #[.string d.name, .string d.parent, .slice af d.fields.length cf, .slice am d.methods.length cm] 48)).trans hx3).trans hx4
      clear hx3 hx4
      go_wp2_with fail
      go_ret
      exact ⟨ret_bool (Eq.symm (prB_ff fun h => HQ3.out (h.2.2 d HMM.out).1.2.2.1)), hz⟩
    have hq3' : ¬ (4 : Int) < (d.fields.length : Int) := by omega
    by_cases hq4 : d.methods.length ≤ 12
    rotate_left
    · have hq4' : (12 : Int) < (d.methods.length : Int) := by omega
      have HQ4 := Lib.hid hq4; clear hq4
      go_wp2_with fail
      refine (spec_IsName_any d.name _ (by omega)).mono ?_
      rw [HQ1.out]
      rintro e w3 ⟨rfl, hx3⟩
      obtain ⟨y0, y1, y2, y3, y4⟩ := BX.out _ hx3
      clear a0 a1' a2' a3'
      go_wp2_with fail
      refine (spec_IsName_any d.parent _ (by omega)).mono ?_
      rw [HQ2.out]
      rintro e w4 ⟨rfl, hx4⟩
      clear y0 y1 y2 y3 y4
      obtain ⟨y0, y1, y2, y3, y4⟩ := BX.out _ (hx3.trans hx4)
      clear y0 y1
      have hz := ((hx.alloc (.cells #[.string d.name, .string d.parent, .slice af d.fields.length cf, .slice am d.methods.length cm] 48)).trans hx3).trans hx4
      clear hx3 hx4
      go_wp2_with fail
      go_ret
      exact ⟨ret_bool (Eq.symm (prB_ff fun h => HQ4.out (h.2.2 d HMM.out).1.2.2.2)), hz⟩
    have hq4' : ¬ (12 : Int) < (d.methods.length : Int) := by omega
    have HH : Hid (nameB d.name = true ∧ nameB d.parent = true ∧ d.fields.length ≤ 4 ∧ d.methods.length ≤ 12) := Lib.hid ⟨HQ1.out, HQ2.out, hq3, hq4⟩
    go_wp2_with fail
    refine (spec_IsName_any d.name _ (by omega)).mono ?_
    rw [HQ1.out]
    rintro e w3 ⟨rfl, hx3⟩
    obtain ⟨y0, y1, y2, y3, y4⟩ := BX.out _ hx3
    clear a0 a1' a2' a3'
    go_wp2_with fail
    refine (spec_IsName_any d.parent _ (by omega)).mono ?_
    rw [HQ2.out]
    rintro e w4 ⟨rfl, hx4⟩
    clear y0 y1 y2 y3 y4
    obtain ⟨y0, y1, y2, y3, y4⟩ := BX.out _ (hx3.trans hx4)
    clear y0 y1
    have hz := ((hx.alloc (.cells #[.string d.name, .string d.parent, .slice af d.fields.length cf, .slice am d.methods.length cm] 48)).trans hx3).trans hx4
    clear hx3 hx4
    go_wp2_with fail
    go_loopw [5] (fun jv wq => ∃ j : Nat, j ≤ d.fields.length ∧ jv = .int .i64 j ∧ Ext w4 wq ∧ Hid (∀ i (hi : i < j) (hl : i < d.fields.length), nameB d.fields[i] = true)) (fun jv _ => d.fields.length - (intOf jv).toNat)
    case atStart => exact ⟨0, Nat.zero_le _, rfl, Ext.refl _, Lib.hid fun j hj => by omega⟩
    case round =>
      obtain ⟨j, hj, rfl, hy, hS⟩ := hrel
      have z2 := hy.cell y2
      have z3 := hy.cell y3
      have z4 := hy.cell y4
      by_cases hjl : j < d.fields.length
      · obtain rfl := pf (by omega)
        have b0 := (hz.trans hy).cell (hf j d.fields[j] (by simp [hjl]))
        have hsz : d.fields[j].size ≤ 9223372036854775806 := by have := HN5.out _ (List.getElem_mem hjl); omega
        have HMF := Lib.hid (show d.fields[j] ∈ d.fields from List.getElem_mem hjl)
        clear hf pf pm hmth
        cases hg : nameB d.fields[j]
        · have HG := Lib.hid hg; clear hg
          go_wp2_with fail
          refine (spec_IsName_any d.fields[j] _ hsz).mono ?_
          rw [HG.out]
          rintro e w5 ⟨rfl, hx5⟩
          go_wp2_with fail
          go_ret
          exact ⟨ret_bool (Eq.symm (prB_ff fun h => by have := (h.2.2 d HMM.out).2.1 _ HMF.out; rw [HG.out] at this; cases this)), (hz.trans hy).trans hx5⟩
        · have HG := Lib.hid hg; clear hg
          go_wp2_with fail
          refine (spec_IsName_any d.fields[j] _ hsz).mono ?_
          rw [HG.out]
          rintro e w5 ⟨rfl, hx5⟩
          go_wp2_with fail
          go_roundw
          case rel => exact ⟨j + 1, by omega, by go_num, hy.trans hx5, Lib.hid fun i hi hl => by
            by_cases h : i < j
            · exact hS.out i h hl
            · obtain rfl : i = j := by omega
              exact HG.out⟩
          case measure => simp [intOf]; omega
      · have HF : Hid (∀ s, s ∈ d.fields → nameB s = true) := Lib.hid fun s hs => by
          obtain ⟨i, hi, rfl⟩ := List.mem_iff_getElem.1 hs
          exact hS.out i (by omega) hi
        have hv := hz.trans hy
        clear hf pf y2 y3 y4 hz
        go_wp2_with fail
        go_loopw [6] (fun jv wp => ∃ j : Nat, j ≤ d.methods.length ∧ jv = .int .i64 j ∧ Ext wr wp ∧ Hid (∀ i (hi : i < j) (hl : i < d.methods.length), MethOk d.methods[i])) (fun jv _ => d.methods.length - (intOf jv).toNat)
        case atStart => exact ⟨0, Nat.zero_le _, rfl, Ext.refl _, Lib.hid fun j hj => by omega⟩
        case round =>
          obtain ⟨j2, hj2, rfl, hy2, hT⟩ := hrel
          have v2 := hy2.cell z2
          have v3 := hy2.cell z3
          have v4 := hy2.cell z4
          clear z2 z3 z4
          have hw := hv.trans hy2
          by_cases hjm : j2 < d.methods.length
          · obtain rfl := pm (by omega)
            obtain ⟨eb, lb, cb, rb⟩ := hmth j2 d.methods[j2] (by simp [hjm])
            obtain ⟨q1, r1, q2, r2, q3, r3, rfl⟩ := MMethod.shut_rep rb
            have b0 := hw.cell (show w.cell? ⟨bm, om + j2 * 5, none⟩ = some _ from cb 0 (by omega))
            have b1 := hw.cell (show w.cell? ⟨bm, om + j2 * 5 + 1, none⟩ = some _ from cb 1 (by omega))
            have b2 := hw.cell (show w.cell? ⟨bm, om + j2 * 5 + 2, none⟩ = some _ from cb 2 (by omega))
            have b3 := hw.cell (show w.cell? ⟨bm, om + j2 * 5 + 3, none⟩ = some _ from cb 3 (by omega))
            have b4 := hw.cell (show w.cell? ⟨bm, om + j2 * 5 + 4, none⟩ = some _ from cb 4 (by omega))
            have HME := Lib.hid (show d.methods[j2] ∈ d.methods from List.getElem_mem hjm)
            have con : Hid (∀ W, Ext wr W → Calls Tryz.prog 29 #[.agg #[.string d.methods[j2].selector, .bool d.methods[j2].cls, .slice q1 d.methods[j2].params.length r1, .slice q2 d.methods[j2].temps.length r2, .slice q3 d.methods[j2].body.length r3]] W fun e w' => e = .returned (.bool (prB (MethOk d.methods[j2]))) ∧ Ext W w') := Lib.hid fun W hW => spec_IsMethod_any _ _ W (Rep.ext (hw.trans hW) rb) (HN6.out _ HME.out)
            clear cb lb rb hmth pm
            generalize hM2 : d.methods[j2] = m at *
            have hMM := Lib.hid hM2; clear hM2
            cases hg : prB (MethOk m)
            · have HG := Lib.hid hg; clear hg
              go_wp2_with fail
              refine (con.out _ (Ext.refl _)).mono ?_
              rw [HG.out]
              rintro e w6 ⟨rfl, hx6⟩
              clear b0 b1 b2 b3 b4
              go_wp2_with fail
              go_ret
              exact ⟨ret_bool (Eq.symm (prB_ff fun h => by have := prB_tt ((h.2.2 d HMM.out).2.2 _ HME.out); rw [HG.out] at this; cases this)), hw.trans hx6⟩
            · have HG := Lib.hid hg; clear hg
              go_wp2_with fail
              refine (con.out _ (Ext.refl _)).mono ?_
              rw [HG.out]
              rintro e w6 ⟨rfl, hx6⟩
              clear b0 b1 b2 b3 b4
              go_wp2_with fail
              go_roundw
              case rel => exact ⟨j2 + 1, by omega, by go_num, hy2.trans hx6, Lib.hid fun i hi hl => by
                by_cases h : i < j2
                · exact hT.out i h hl
                · obtain rfl : i = j2 := by omega
                  rw [hMM.out]
                  exact prB_iff.1 HG.out⟩
              case measure => simp [intOf]; omega
          · go_wp2_with fail
            go_roundw
            case rel => exact ⟨k + 1, by omega, by go_num, hw, v4, Lib.hid fun i hi hl => by
              by_cases h : i < k
              · exact hR.out i h hl
              · obtain rfl : i = k := by omega
                rw [hM.out]
                exact ⟨HH.out, HF.out, fun m hm => by
                  obtain ⟨i, hi, rfl⟩ := List.mem_iff_getElem.1 hm
                  exact hT.out i (by omega) hi⟩⟩
            case measure => simp [intOf]; omega

set_option maxHeartbeats 4000000 in
set_option maxRecDepth 100000 in
theorem impl_IsUnit_any (u : MUnit) (cx : List Value) (w : World) (rx : Rep w u.d cx) (hb : u.d.bulk ≤ 1048576) (hm : MaxOk w) :
    Calls Tryz.prog 16 #[.agg cx.toArray] w fun e w' => e = .returned (.bool (prB (UnitOk u))) ∧ Ext w w' := by
  obtain ⟨hbm, hcl, hbc⟩ := unit_bulks hb
  have HBC := Lib.hid hbc; clear hbc hb
  have hl := bulk_method hbm
  have hbb := bulk_block hbm
  obtain ⟨au, cu, a1, k1, a2, k2, a3, k3, rfl, rc, -, -, -, rmain⟩ := MUnit.op_en rx
  have RM : Hid (∀ W, Ext w W → Rep W u.main.d _) := Lib.hid fun W h => Rep.ext h rmain
  clear rx rmain
  have E1 : ∀ o : Obj, Ext w (w.alloc o) := fun o => (Ext.refl w).alloc _
  obtain ⟨ao, ca, ba, oa, e1, hla, hma, pa, ha⟩ := Rep.slmap rc
  simp only [List.cons.injEq, and_true, Value.slice.injEq] at e1
  obtain ⟨rfl, -, rfl⟩ := e1
  unfold maxLen at hma
  clear rc
  by_cases h8 : u.classes.length ≤ 8
  rotate_left
  · have h8' : (8 : Int) < (u.classes.length : Int) := by omega
    have H8 := Lib.hid h8; clear h8
    go_enter Tryz.func16, Tryz.ntmps16
    go_wp2_with fail
    go_ret
    exact ⟨ret_bool (Eq.symm (prB_ff fun h => H8.out h.1)), E1 _⟩
  have h8' : ¬ (8 : Int) < (u.classes.length : Int) := by omega
  cases hq : prB (MainOk u.main)
  · have HQ := Lib.hid hq; clear hq
    go_enter Tryz.func16, Tryz.ntmps16
    go_wp2_with fail
    refine (mainOk_any u.main _ _ (RM.out _ (E1 _)) hbm (hm.ext (E1 _))).mono ?_
    rw [HQ.out]
    rintro e w2 ⟨rfl, hx2⟩
    go_wp2_with fail
    go_ret
    exact ⟨ret_bool (Eq.symm (prB_ff fun h => by have h2 := prB_tt h.2.1; rw [HQ.out] at h2; cases h2)), (E1 _).trans (hx2)⟩
  have HQ := Lib.hid hq; clear hq
  go_enter Tryz.func16, Tryz.ntmps16
  go_wp2_with fail
  refine (mainOk_any u.main _ _ (RM.out _ (E1 _)) hbm (hm.ext (E1 _))).mono ?_
  rw [HQ.out]
  rintro e w2 ⟨rfl, hx2⟩
  have x2 := (E1 (.cells #[.slice au u.classes.length cu, .string u.main.selector, .bool u.main.cls, .slice a1 u.main.params.length k1, .slice a2 u.main.temps.length k2, .slice a3 u.main.body.length k3] 37)).trans (hx2)
  have m0 := Ext.cell (hx2) (show (w.alloc (.cells #[.slice au u.classes.length cu, .string u.main.selector, .bool u.main.cls, .slice a1 u.main.params.length k1, .slice a2 u.main.temps.length k2, .slice a3 u.main.body.length k3] 37)).cell? ⟨w.heap.size, 0, none⟩ = some (.slice au u.classes.length cu) by simp)
  go_wp2_with fail
  go_loopw [22] (fun iv wr => ∃ k : Nat, k ≤ u.classes.length ∧ iv = .int .i64 k ∧ Ext w wr ∧ Hid (∀ j (hj : j < k) (hl : j < u.classes.length), ClassOk u.classes[j])) (fun iv _ => u.classes.length - (intOf iv).toNat)
  case atStart => exact ⟨0, Nat.zero_le _, rfl, x2, Lib.hid fun j hj => by omega⟩
  case round =>
    clear m0 x2
    obtain ⟨k, hk, rfl, hx, hR⟩ := hrel
    by_cases hlt : k < u.classes.length
    rotate_left
    · go_wp2_with fail
      go_ret
      exact ⟨ret_bool (Eq.symm (prB_tt ⟨h8, (prB_iff.1 HQ.out), fun d hd => by
        obtain ⟨j, hj, rfl⟩ := List.mem_iff_getElem.1 hd
        exact hR.out j (by omega) hj⟩)), hx⟩
    obtain rfl := pa (by omega)
    obtain ⟨ea, la, c1, ra⟩ := ha k u.classes[k] (by simp [hlt])
    obtain ⟨af, cf, am, cm, rfl, rf, rmm⟩ := MClassDef.shut_rep ra
    have a0 := hx.cell (show w.cell? ⟨ba, oa + k * 4, none⟩ = some _ from c1 0 (by omega))
    have a1' := hx.cell (show w.cell? ⟨ba, oa + k * 4 + 1, none⟩ = some _ from c1 1 (by omega))
    have a2' := hx.cell (show w.cell? ⟨ba, oa + k * 4 + 2, none⟩ = some _ from c1 2 (by omega))
    have a3' := hx.cell (show w.cell? ⟨ba, oa + k * 4 + 3, none⟩ = some _ from c1 3 (by omega))
    obtain ⟨hn1, hn2, ⟨hn3, hn4⟩, hn5, hn6⟩ := class_bulks (HBC.out _ (List.getElem_mem hlt))
    have HN5 := Lib.hid hn5; have HN6 := Lib.hid hn6
    have HMM := Lib.hid (show u.classes[k] ∈ u.classes from List.getElem_mem hlt)
    clear c1 la ha pa ra hn5 hn6
    generalize hM0 : u.classes[k] = d at *
    have hM := Lib.hid hM0; clear hM0
    obtain ⟨aof, caf, bf, of, e1, hlf, hmf, pf, hf⟩ := Rep.strs rf
    simp only [List.cons.injEq, and_true, Value.slice.injEq] at e1
    obtain ⟨rfl, -, rfl⟩ := e1
    obtain ⟨aom, cam, bm, om, e1, hlm, hmm, pm, hmth⟩ := Rep.slmap rmm
    simp only [List.cons.injEq, and_true, Value.slice.injEq] at e1
    obtain ⟨rfl, -, rfl⟩ := e1
    unfold maxLen at hmf hmm
    clear rf rmm
    have BX : Hid (∀ W, Ext (wr.alloc (.cells #[.string d.name, .string d.parent, .slice af d.fields.length cf, .slice am d.methods.length cm] 48)) W → W.cell? ⟨wr.heap.size, 0, none⟩ = some (.string d.name) ∧ W.cell? ⟨wr.heap.size, 1, none⟩ = some (.string d.parent) ∧ W.cell? ⟨wr.heap.size, 2, none⟩ = some (.slice af d.fields.length cf) ∧ W.cell? ⟨wr.heap.size, 3, none⟩ = some (.slice am d.methods.length cm)) := Lib.hid fun W h => ⟨Ext.cell h (by simp), Ext.cell h (by simp), Ext.cell h (by simp), Ext.cell h (by simp)⟩
    cases hq1 : nameB d.name
    · have HQ1 := Lib.hid hq1; clear hq1
      go_wp2_with fail
      refine (impl_IsName_any d.name _ (by omega)).mono ?_
      rw [HQ1.out]
      rintro e w3 ⟨rfl, hx3⟩
      go_wp2_with fail
      go_ret
      exact ⟨ret_bool (Eq.symm (prB_ff fun h => by have := (h.2.2 d HMM.out).1.1; rw [HQ1.out] at this; cases this)), (hx.alloc _).trans hx3⟩
    have HQ1 := Lib.hid hq1; clear hq1
    cases hq2 : nameB d.parent
    · have HQ2 := Lib.hid hq2; clear hq2
      go_wp2_with fail
      refine (impl_IsName_any d.name _ (by omega)).mono ?_
      rw [HQ1.out]
      rintro e w3 ⟨rfl, hx3⟩
      obtain ⟨y0, y1, y2, y3⟩ := BX.out _ hx3
      clear a0 a1' a2' a3'
      go_wp2_with fail
      refine (impl_IsName_any d.parent _ (by omega)).mono ?_
      rw [HQ2.out]
      rintro e w4 ⟨rfl, hx4⟩
      go_wp2_with fail
      go_ret
      exact ⟨ret_bool (Eq.symm (prB_ff fun h => by have := (h.2.2 d HMM.out).1.2.1; rw [HQ2.out] at this; cases this)), ((hx.alloc _).trans hx3).trans hx4⟩
    have HQ2 := Lib.hid hq2; clear hq2
    by_cases hq3 : d.fields.length ≤ 4
    rotate_left
    · have hq3' : (4 : Int) < (d.fields.length : Int) := by omega
      have HQ3 := Lib.hid hq3; clear hq3
      go_wp2_with fail
      refine (impl_IsName_any d.name _ (by omega)).mono ?_
      rw [HQ1.out]
      rintro e w3 ⟨rfl, hx3⟩
      obtain ⟨y0, y1, y2, y3⟩ := BX.out _ hx3
      clear a0 a1' a2' a3'
      go_wp2_with fail
      refine (impl_IsName_any d.parent _ (by omega)).mono ?_
      rw [HQ2.out]
      rintro e w4 ⟨rfl, hx4⟩
      clear y0 y1 y2 y3
      obtain ⟨y0, y1, y2, y3⟩ := BX.out _ (hx3.trans hx4)
      clear y0 y1
      have hz := ((hx.alloc (.cells #[.string d.name, .string d.parent, .slice af d.fields.length cf, .slice am d.methods.length cm] 48)).trans hx3).trans hx4
      clear hx3 hx4
      go_wp2_with fail
      go_ret
      exact ⟨ret_bool (Eq.symm (prB_ff fun h => HQ3.out (h.2.2 d HMM.out).1.2.2.1)), hz⟩
    have hq3' : ¬ (4 : Int) < (d.fields.length : Int) := by omega
    by_cases hq4 : d.methods.length ≤ 12
    rotate_left
    · have hq4' : (12 : Int) < (d.methods.length : Int) := by omega
      have HQ4 := Lib.hid hq4; clear hq4
      go_wp2_with fail
      refine (impl_IsName_any d.name _ (by omega)).mono ?_
      rw [HQ1.out]
      rintro e w3 ⟨rfl, hx3⟩
      obtain ⟨y0, y1, y2, y3⟩ := BX.out _ hx3
      clear a0 a1' a2' a3'
      go_wp2_with fail
      refine (impl_IsName_any d.parent _ (by omega)).mono ?_
      rw [HQ2.out]
      rintro e w4 ⟨rfl, hx4⟩
      clear y0 y1 y2 y3
      obtain ⟨y0, y1, y2, y3⟩ := BX.out _ (hx3.trans hx4)
      clear y0 y1
      have hz := ((hx.alloc (.cells #[.string d.name, .string d.parent, .slice af d.fields.length cf, .slice am d.methods.length cm] 48)).trans hx3).trans hx4
      clear hx3 hx4
      go_wp2_with fail
      go_ret
      exact ⟨ret_bool (Eq.symm (prB_ff fun h => HQ4.out (h.2.2 d HMM.out).1.2.2.2)), hz⟩
    have hq4' : ¬ (12 : Int) < (d.methods.length : Int) := by omega
    have HH : Hid (nameB d.name = true ∧ nameB d.parent = true ∧ d.fields.length ≤ 4 ∧ d.methods.length ≤ 12) := Lib.hid ⟨HQ1.out, HQ2.out, hq3, hq4⟩
    go_wp2_with fail
    refine (impl_IsName_any d.name _ (by omega)).mono ?_
    rw [HQ1.out]
    rintro e w3 ⟨rfl, hx3⟩
    obtain ⟨y0, y1, y2, y3⟩ := BX.out _ hx3
    clear a0 a1' a2' a3'
    go_wp2_with fail
    refine (impl_IsName_any d.parent _ (by omega)).mono ?_
    rw [HQ2.out]
    rintro e w4 ⟨rfl, hx4⟩
    clear y0 y1 y2 y3
    obtain ⟨y0, y1, y2, y3⟩ := BX.out _ (hx3.trans hx4)
    clear y0 y1
    have hz := ((hx.alloc (.cells #[.string d.name, .string d.parent, .slice af d.fields.length cf, .slice am d.methods.length cm] 48)).trans hx3).trans hx4
    clear hx3 hx4
    go_wp2_with fail
    go_loopw [51] (fun jv wq => ∃ j : Nat, j ≤ d.fields.length ∧ jv = .int .i64 j ∧ Ext w4 wq ∧ Hid (∀ i (hi : i < j) (hl : i < d.fields.length), nameB d.fields[i] = true)) (fun jv _ => d.fields.length - (intOf jv).toNat)
    case atStart => exact ⟨0, Nat.zero_le _, rfl, Ext.refl _, Lib.hid fun j hj => by omega⟩
    case round =>
      obtain ⟨j, hj, rfl, hy, hS⟩ := hrel
      have z2 := hy.cell y2
      have z3 := hy.cell y3
      skip
      by_cases hjl : j < d.fields.length
      · obtain rfl := pf (by omega)
        have b0 := (hz.trans hy).cell (hf j d.fields[j] (by simp [hjl]))
        have hsz : d.fields[j].size ≤ 9223372036854775806 := by have := HN5.out _ (List.getElem_mem hjl); omega
        have HMF := Lib.hid (show d.fields[j] ∈ d.fields from List.getElem_mem hjl)
        clear hf pf pm hmth
        cases hg : nameB d.fields[j]
        · have HG := Lib.hid hg; clear hg
          go_wp2_with fail
          refine (impl_IsName_any d.fields[j] _ hsz).mono ?_
          rw [HG.out]
          rintro e w5 ⟨rfl, hx5⟩
          go_wp2_with fail
          go_ret
          exact ⟨ret_bool (Eq.symm (prB_ff fun h => by have := (h.2.2 d HMM.out).2.1 _ HMF.out; rw [HG.out] at this; cases this)), (hz.trans hy).trans hx5⟩
        · have HG := Lib.hid hg; clear hg
          go_wp2_with fail
          refine (impl_IsName_any d.fields[j] _ hsz).mono ?_
          rw [HG.out]
          rintro e w5 ⟨rfl, hx5⟩
          go_wp2_with fail
          go_roundw
          case rel => exact ⟨j + 1, by omega, by go_num, hy.trans hx5, Lib.hid fun i hi hl => by
            by_cases h : i < j
            · exact hS.out i h hl
            · obtain rfl : i = j := by omega
              exact HG.out⟩
          case measure => simp [intOf]; omega
      · have HF : Hid (∀ s, s ∈ d.fields → nameB s = true) := Lib.hid fun s hs => by
          obtain ⟨i, hi, rfl⟩ := List.mem_iff_getElem.1 hs
          exact hS.out i (by omega) hi
        have hv := hz.trans hy
        clear hf pf y2 y3 hz
        go_wp2_with fail
        go_loopw [62] (fun jv wp => ∃ j : Nat, j ≤ d.methods.length ∧ jv = .int .i64 j ∧ Ext wr wp ∧ Hid (∀ i (hi : i < j) (hl : i < d.methods.length), MethOk d.methods[i])) (fun jv _ => d.methods.length - (intOf jv).toNat)
        case atStart => exact ⟨0, Nat.zero_le _, rfl, Ext.refl _, Lib.hid fun j hj => by omega⟩
        case round =>
          obtain ⟨j2, hj2, rfl, hy2, hT⟩ := hrel
          have v2 := hy2.cell z2
          have v3 := hy2.cell z3
          skip
          clear z2 z3
          have hw := hv.trans hy2
          by_cases hjm : j2 < d.methods.length
          · obtain rfl := pm (by omega)
            obtain ⟨eb, lb, cb, rb⟩ := hmth j2 d.methods[j2] (by simp [hjm])
            obtain ⟨q1, r1, q2, r2, q3, r3, rfl⟩ := MMethod.shut_rep rb
            have b0 := hw.cell (show w.cell? ⟨bm, om + j2 * 5, none⟩ = some _ from cb 0 (by omega))
            have b1 := hw.cell (show w.cell? ⟨bm, om + j2 * 5 + 1, none⟩ = some _ from cb 1 (by omega))
            have b2 := hw.cell (show w.cell? ⟨bm, om + j2 * 5 + 2, none⟩ = some _ from cb 2 (by omega))
            have b3 := hw.cell (show w.cell? ⟨bm, om + j2 * 5 + 3, none⟩ = some _ from cb 3 (by omega))
            have b4 := hw.cell (show w.cell? ⟨bm, om + j2 * 5 + 4, none⟩ = some _ from cb 4 (by omega))
            have HME := Lib.hid (show d.methods[j2] ∈ d.methods from List.getElem_mem hjm)
            have con : Hid (∀ W, Ext wr W → Calls Tryz.prog 39 #[.agg #[.string d.methods[j2].selector, .bool d.methods[j2].cls, .slice q1 d.methods[j2].params.length r1, .slice q2 d.methods[j2].temps.length r2, .slice q3 d.methods[j2].body.length r3]] W fun e w' => e = .returned (.bool (prB (MethOk d.methods[j2]))) ∧ Ext W w') := Lib.hid fun W hW => impl_IsMethod_any _ _ W (Rep.ext (hw.trans hW) rb) (HN6.out _ HME.out) (hm.ext (hw.trans hW))
            clear cb lb rb hmth pm
            generalize hM2 : d.methods[j2] = m at *
            have hMM := Lib.hid hM2; clear hM2
            cases hg : prB (MethOk m)
            · have HG := Lib.hid hg; clear hg
              go_wp2_with fail
              refine (con.out _ ((Ext.refl _).alloc _)).mono ?_
              rw [HG.out]
              rintro e w6 ⟨rfl, hx6⟩
              clear b0 b1 b2 b3 b4
              go_wp2_with fail
              go_ret
              exact ⟨ret_bool (Eq.symm (prB_ff fun h => by have := prB_tt ((h.2.2 d HMM.out).2.2 _ HME.out); rw [HG.out] at this; cases this)), (hw.alloc _).trans hx6⟩
            · have HG := Lib.hid hg; clear hg
              go_wp2_with fail
              refine (con.out _ ((Ext.refl _).alloc _)).mono ?_
              rw [HG.out]
              rintro e w6 ⟨rfl, hx6⟩
              clear b0 b1 b2 b3 b4
              go_wp2_with fail
              go_roundw
              case rel => exact ⟨j2 + 1, by omega, by go_num, (hy2.alloc _).trans hx6, Lib.hid fun i hi hl => by
                by_cases h : i < j2
                · exact hT.out i h hl
                · obtain rfl : i = j2 := by omega
                  rw [hMM.out]
                  exact prB_iff.1 HG.out⟩
              case measure => simp [intOf]; omega
          · go_wp2_with fail
            go_roundw
            case rel => exact ⟨k + 1, by omega, by go_num, hw, Lib.hid fun i hi hl => by
              by_cases h : i < k
              · exact hR.out i h hl
              · obtain rfl : i = k := by omega
                rw [hM.out]
                exact ⟨HH.out, HF.out, fun m hm => by
                  obtain ⟨i, hi, rfl⟩ := List.mem_iff_getElem.1 hm
                  exact hT.out i (by omega) hi⟩⟩
            case measure => simp [intOf]; omega

end Go.Proofs.YtlppoffneeglgaaGreatDoor
