/-
  SEVERAL TEXTS IN ONE: CONTRACTS: IsUnit, of the program and of the reference; PLAIN: units of a text.
  Conditions: those that each lemma states.
-/
import Derived.Test.YtlcebafhbceejaaGreatDoorRows
import Derived.Test.YtlcebafhbceejaaGreatDoorP19
import Derived.Test.YtlcebafhbceejaaGreatDoorP21
namespace Go.Proofs.YtlcebafhbceejaaGreatDoor
open Go.RowKit
set_option maxHeartbeats 8000000
set_option maxRecDepth 100000
set_option linter.unusedSimpArgs false
set_option linter.unusedVariables false
def ClassOk (d : MClassDef) : Prop := (nameB d.name = true /\ nameB d.parent = true /\ d.fields.length <= 4 /\ d.methods.length <= 12) /\ (∀ s, s ∈ d.fields -> nameB s = true) /\ (∀ m, m ∈ d.methods -> MethOk m)
def MainOk (m : MMethod) : Prop := m.selector = ⟨#[109, 97, 105, 110]⟩ /\ m.cls = false /\ m.params = [] /\ ExprOk (blockM m.params m.temps m.body)
def UnitOk (u : MUnit) : Prop := u.classes.length <= 8 /\ MainOk u.main /\ ∀ d, d ∈ u.classes -> ClassOk d
theorem MClassDef.shut_rep {w : World} {x : MClassDef} {cs : List Value} (h : Rep w x.d cs) : ∃ a1 c1 a2 c2, cs = [.string x.name, .string x.parent, .slice a1 x.fields.length c1, .slice a2 x.methods.length c2] /\ Rep w (strs x.fields) [.slice a1 x.fields.length c1] /\ Rep w (MMethods x.methods) [.slice a2 x.methods.length c2] := by
 obtain ⟨a1, c1, a2, c2, h, h1, h2⟩ := MClassDef.op_en h
 exact ⟨a1, c1, a2, c2, h, h1, h2⟩
theorem unit_bulks {u : MUnit} (h : u.d.bulk <= 1048576) : u.main.d.bulk <= 1048576 /\ u.classes.length <= 1048576 /\ ∀ d, d ∈ u.classes -> d.d.bulk <= 1048576 := by
 rw [MUnit.d_eq] at h
 simp only [D.bulk, D.bulkL, MClassDefs, List.length_map] at h
 refine ⟨by omega, by omega, fun d hd => ?_⟩
 have := bulkL_mem (List.mem_map_of_mem (f := MClassDef.d) hd)
 omega
theorem class_bulks {d : MClassDef} (h : d.d.bulk <= 1048576) : d.name.size <= 1048576 /\ d.parent.size <= 1048576 /\ (d.fields.length <= 1048576 /\ d.methods.length <= 1048576) /\ (∀ s, s ∈ d.fields -> s.size <= 1048576) /\ ∀ m, m ∈ d.methods -> m.d.bulk <= 1048576 := by
 rw [MClassDef.d_eq] at h
 simp only [D.bulk, D.bulkL, strs, MMethods, List.length_map] at h
 refine ⟨by omega, by omega, ⟨by omega, by omega⟩, fun s hs => ?_, fun m hm => ?_⟩
 · have := bulkL_mem (List.mem_map_of_mem (f := D.str) hs)
   simp only [D.bulk] at this
   omega
 · have := bulkL_mem (List.mem_map_of_mem (f := MMethod.d) hm)
   omega
theorem mainOk_any (x : MMethod) (cx : List Value) (w : World) (rx : Rep w x.d cx) (hb : x.d.bulk <= 1048576) (hm : MaxOk w) :
 Calls Tryz.prog 47 #[.agg cx.toArray] w fun e w' => e = .returned (.bool (prB (MainOk x))) /\ Ext w w' := by
 have hl := bulk_method hb
 have hbb := bulk_block hb
 have RX : Hid (∀ W, Ext w W -> Rep W x.d cx) := LH fun W h => Rep.ext h rx
 obtain ⟨a1, k1, a2, k2, a3, k3, rfl⟩ := MMethod.shut_rep rx
 clear rx
 have E1 : ∀ o : Obj, Ext w (w.alloc o) := fun o => (XR w).alloc _
 by_cases h1 : x.selector = ⟨#[109, 97, 105, 110]⟩
 rotate_left
 · have t1 : ¬ x.selector.toList = [109, 97, 105, 110] := fun h => h1 (toList_inj (by rw [h]; simp))
   have t2 : (x.selector.toList == [109, 97, 105, 110]) = false := by simpa using t1
   have H1 := LH h1; clear h1
   go_enter Tryz.func47, Tryz.ntmps47
   go_wp2_with fail
   go_ret
   exact ⟨ret_bool (Eq.symm (prB_ff fun h => H1.out h.1)), E1 _⟩
 have t1 : x.selector.toList = [109, 97, 105, 110] := by rw [h1]; simp
 have t2 : (x.selector.toList == [109, 97, 105, 110]) = true := by rw [t1]; rfl
 have T1 := LH t1; clear t1
 have H1 := LH h1; clear h1
 cases hc : x.cls
 rotate_left
 · have HC := LH hc
   go_enter Tryz.func47, Tryz.ntmps47
   go_wp2_with fail
   go_ret
   exact ⟨ret_bool (Eq.symm (prB_ff fun h => by have := h.2.1; rw [HC.out] at this; cases this)), E1 _⟩
 have HC := LH hc
 by_cases hp : x.params = []
 rotate_left
 · have hp1 := int_ne (show ¬ (x.params.length : Int) = 0 by have := List.length_pos_iff.2 hp; omega)
   have HP := LH hp; clear hp
   go_enter Tryz.func47, Tryz.ntmps47
   go_wp2_with fail
   go_ret
   exact ⟨ret_bool (Eq.symm (prB_ff fun h => HP.out h.2.2.1)), E1 _⟩
 have hp1 := int_eq (show (x.params.length : Int) = 0 by rw [hp]; rfl)
 have HP := LH hp; clear hp
 go_enter Tryz.func47, Tryz.ntmps47
 go_wp2_with fail
 refine (blockOf_any x _ _ (by have := RX.out _ (E1 (.cells #[.string x.selector, .bool x.cls, .slice a1 x.params.length k1, .slice a2 x.temps.length k2, .slice a3 x.body.length k3] 26)); rw [HC.out] at this; exact this) hl).mono ?_
 rintro e w1 ⟨cs, rfl, hr, hx1⟩
 obtain ⟨b1, d1, b2, d2, rfl⟩ := MExpr.shut_rep hr
 go_wp2_with fail
 refine (impl_IsExpr_any _ _ _ hr hbb (hm.ext ((E1 _).trans hx1))).mono ?_
 rintro e w2 ⟨rfl, hx2⟩
 go_wp2_with fail
 go_ret
 refine ⟨ret_bool ?_, ((E1 _).trans hx1).trans hx2⟩
 unfold MainOk
 congr 1
 rw [eq_iff_iff]
 exact ⟨fun h => ⟨H1.out, HC.out, HP.out, h⟩, fun h => h.2.2.2⟩
theorem spec_IsUnit_any (u : MUnit) (cx : List Value) (w : World) (rx : Rep w u.d cx) (hb : u.d.bulk <= 1048576) :
 Calls Tryz.prog 15 #[.agg cx.toArray] w fun e w' => e = .returned (.bool (prB (UnitOk u))) /\ Ext w w' := by
 obtain ⟨hbm, hcl, hbc⟩ := unit_bulks hb
 have HBC := LH hbc; clear hbc hb
 have hl := bulk_method hbm
 have hbb := bulk_block hbm
 obtain ⟨au, cu, a1, k1, a2, k2, a3, k3, rfl, rc, -, -, -, rmain⟩ := MUnit.op_en rx
 have RM : Hid (∀ W, Ext w W -> Rep W u.main.d _) := LH fun W h => Rep.ext h rmain
 clear rx rmain
 have E1 : ∀ o : Obj, Ext w (w.alloc o) := fun o => (XR w).alloc _
 obtain ⟨ao, ca, ba, oa, e1, hla, hma, pa, ha⟩ := Rep.slmap rc
 simp only [List.cons.injEq, and_true, Value.slice.injEq] at e1
 obtain ⟨rfl, -, rfl⟩ := e1
 unfold maxLen at hma
 clear rc
 by_cases h8 : u.classes.length <= 8
 rotate_left
 · have h8' : (8 : Int) < (u.classes.length : Int) := by omega
   have H8 := LH h8; clear h8
   go_enter Tryz.func15, Tryz.ntmps15
   go_wp2_with fail
   go_ret
   exact ⟨ret_bool (Eq.symm (prB_ff fun h => H8.out h.1)), E1 _⟩
 have h8' : ¬ (8 : Int) < (u.classes.length : Int) := by omega
 by_cases h1 : u.main.selector = ⟨#[109, 97, 105, 110]⟩
 rotate_left
 · have t1 : ¬ u.main.selector.toList = [109, 97, 105, 110] := fun h => h1 (toList_inj (by rw [h]; simp))
   have t2 : (u.main.selector.toList == [109, 97, 105, 110]) = false := by simpa using t1
   have H1 := LH h1; clear h1
   go_enter Tryz.func15, Tryz.ntmps15
   go_wp2_with fail
   go_ret
   exact ⟨ret_bool (Eq.symm (prB_ff fun h => H1.out h.2.1.1)), E1 _⟩
 have t1 : u.main.selector.toList = [109, 97, 105, 110] := by rw [h1]; simp
 have t2 : (u.main.selector.toList == [109, 97, 105, 110]) = true := by rw [t1]; rfl
 have T1 := LH t1; clear t1
 have H1 := LH h1; clear h1
 cases hc : u.main.cls
 rotate_left
 · have HC := LH hc
   go_enter Tryz.func15, Tryz.ntmps15
   go_wp2_with fail
   go_ret
   exact ⟨ret_bool (Eq.symm (prB_ff fun h => by have := h.2.1.2.1; rw [HC.out] at this; cases this)), E1 _⟩
 have HC := LH hc
 by_cases hp : u.main.params = []
 rotate_left
 · have hp1 : 0 < u.main.params.length := List.length_pos_iff.2 hp
   have HP := LH hp; clear hp
   go_enter Tryz.func15, Tryz.ntmps15
   go_wp2_with fail
   go_ret
   exact ⟨ret_bool (Eq.symm (prB_ff fun h => HP.out h.2.1.2.2.1)), E1 _⟩
 have hp1 : (0 < u.main.params.length) = False := by rw [hp]; simp
 have HP := LH hp; clear hp
 have HM : Hid (prB (MainOk u.main) = prB (ExprOk (blockM u.main.params u.main.temps u.main.body))) := LH (by
  unfold MainOk
  congr 1
  rw [eq_iff_iff]
  exact ⟨fun h => h.2.2.2, fun h => ⟨H1.out, HC.out, HP.out, h⟩⟩)
 have RM2 : Hid (∀ W, Ext w W -> Rep W u.main.d [.string u.main.selector, .bool false, .slice a1 u.main.params.length k1, .slice a2 u.main.temps.length k2, .slice a3 u.main.body.length k3]) := LH fun W h => by have := RM.out W h; rw [HC.out] at this; exact this
 clear RM
 cases hq : prB (ExprOk (blockM u.main.params u.main.temps u.main.body))
 · have HQ := LH hq; clear hq
   go_enter Tryz.func15, Tryz.ntmps15
   go_wp2_with fail
   refine (l5Body_any u.main _ _ (RM2.out _ (E1 _)) hl).mono ?_
   rintro e w1 ⟨cs, rfl, hr, hx1⟩
   obtain ⟨b1, d1, b2, d2, rfl⟩ := MExpr.shut_rep hr
   go_wp2_with fail
   refine (spec_IsExpr_any _ _ _ hr hbb).mono ?_
   rw [HQ.out]
   rintro e w2 ⟨rfl, hx2⟩
   go_wp2_with fail
   go_ret
   exact ⟨ret_bool (Eq.symm (prB_ff fun h => by have h2 := prB_tt h.2.1; rw [HM.out, HQ.out] at h2; cases h2)), (E1 _).trans (hx1.trans hx2)⟩
 have HQ := LH hq; clear hq
 go_enter Tryz.func15, Tryz.ntmps15
 go_wp2_with fail
 refine (l5Body_any u.main _ _ (RM2.out _ (E1 _)) hl).mono ?_
 rintro e w1 ⟨cs, rfl, hr, hx1⟩
 obtain ⟨b1, d1, b2, d2, rfl⟩ := MExpr.shut_rep hr
 go_wp2_with fail
 refine (spec_IsExpr_any _ _ _ hr hbb).mono ?_
 rw [HQ.out]
 rintro e w2 ⟨rfl, hx2⟩
 have x2 := (E1 (.cells #[.slice au u.classes.length cu, .string u.main.selector, .bool false, .slice a1 u.main.params.length k1, .slice a2 u.main.temps.length k2, .slice a3 u.main.body.length k3] 28)).trans (hx1.trans hx2)
 have m0 := Ext.cell (hx1.trans hx2) (show (w.alloc (.cells #[.slice au u.classes.length cu, .string u.main.selector, .bool false, .slice a1 u.main.params.length k1, .slice a2 u.main.temps.length k2, .slice a3 u.main.body.length k3] 28)).cell? ⟨w.heap.size, 0, none⟩ = some (.slice au u.classes.length cu) by simp)
 go_wp2_with fail
 go_loopw [3, 4, 5, 6] (fun iv _ _ _ wr => ∃ k : Nat, k <= u.classes.length /\ iv = .int .i64 k /\ Ext w wr /\ wr.cell? ⟨w.heap.size, 0, none⟩ = some (.slice au u.classes.length cu) /\ Hid (∀ j (hj : j < k) (hl : j < u.classes.length), ClassOk u.classes[j])) (fun iv _ _ _ _ => u.classes.length - (intOf iv).toNat)
 case atStart => exact ⟨0, Nat.zero_le _, rfl, x2, m0, LH fun j hj => by omega⟩
 case round =>
  clear m0 x2
  obtain ⟨k, hk, rfl, hx, m0, hR⟩ := hrel
  by_cases hlt : k < u.classes.length
  rotate_left
  · go_wp2_with fail
    go_ret
    exact ⟨ret_bool (Eq.symm (prB_tt ⟨h8, (by have h2 := HQ.out; rw [<- HM.out] at h2; exact prB_iff.1 h2), fun d hd => by
     obtain ⟨j, hj, rfl⟩ := List.mem_iff_getElem.1 hd
     exact hR.out j (by omega) hj⟩)), hx⟩
  obtain rfl := pa (by omega)
  obtain ⟨ea, la, c1, ra⟩ := ha k u.classes[k] (by simp [hlt])
  obtain ⟨af, cf, am, cm, rfl, rf, rmm⟩ := MClassDef.shut_rep ra
  have a0 := hx.cell (show w.cell? ⟨ba, oa + k * 4, none⟩ = some _ from c1 0 (by omega))
  have a1' := hx.cell (show w.cell? ⟨ba, oa + k * 4 + 1, none⟩ = some _ from c1 1 (by omega))
  have a2' := hx.cell (show w.cell? ⟨ba, oa + k * 4 + 2, none⟩ = some _ from c1 2 (by omega))
  have a3' := hx.cell (show w.cell? ⟨ba, oa + k * 4 + 3, none⟩ = some _ from c1 3 (by omega))
  obtain ⟨hn1, hn2, ⟨hn3, hn4⟩, hn5, hn6⟩ := class_bulks (HBC.out _ (List.getElem_mem hlt))
  have HN5 := LH hn5; have HN6 := LH hn6
  have HMM := LH (show u.classes[k] ∈ u.classes from List.getElem_mem hlt)
  clear c1 la ha pa ra hn5 hn6
  generalize hM0 : u.classes[k] = d at *
  have hM := LH hM0; clear hM0
  obtain ⟨aof, caf, bf, of, e1, hlf, hmf, pf, hf⟩ := Rep.strs rf
  simp only [List.cons.injEq, and_true, Value.slice.injEq] at e1
  obtain ⟨rfl, -, rfl⟩ := e1
  obtain ⟨aom, cam, bm, om, e1, hlm, hmm, pm, hmth⟩ := Rep.slmap rmm
  simp only [List.cons.injEq, and_true, Value.slice.injEq] at e1
  obtain ⟨rfl, -, rfl⟩ := e1
  unfold maxLen at hmf hmm
  clear rf rmm
  have BX : Hid (∀ W, Ext (wr.alloc (.cells #[.string d.name, .string d.parent, .slice af d.fields.length cf, .slice am d.methods.length cm] 43)) W -> W.cell? ⟨wr.heap.size, 0, none⟩ = some (.string d.name) /\ W.cell? ⟨wr.heap.size, 1, none⟩ = some (.string d.parent) /\ W.cell? ⟨wr.heap.size, 2, none⟩ = some (.slice af d.fields.length cf) /\ W.cell? ⟨wr.heap.size, 3, none⟩ = some (.slice am d.methods.length cm) /\ W.cell? ⟨w.heap.size, 0, none⟩ = some (.slice (some ⟨ba, oa, none⟩) u.classes.length cu)) := LH fun W h => ⟨Ext.cell h (by simp), Ext.cell h (by simp), Ext.cell h (by simp), Ext.cell h (by simp), Ext.cell h (((XR wr).alloc _).cell m0)⟩
  cases hq1 : nameB d.name
  · have HQ1 := LH hq1; clear hq1
    go_wp2_with fail
    refine (spec_IsName_any d.name _ (by omega)).mono ?_
    rw [HQ1.out]
    rintro e w3 ⟨rfl, hx3⟩
    go_wp2_with fail
    go_ret
    exact ⟨ret_bool (Eq.symm (prB_ff fun h => by have := (h.2.2 d HMM.out).1.1; rw [HQ1.out] at this; cases this)), (hx.alloc _).trans hx3⟩
  have HQ1 := LH hq1; clear hq1
  cases hq2 : nameB d.parent
  · have HQ2 := LH hq2; clear hq2
    go_wp2_with fail
    refine (spec_IsName_any d.name _ (by omega)).mono ?_
    rw [HQ1.out]
    rintro e w3 ⟨rfl, hx3⟩
    obtain ⟨y0, y1, y2, y3, y4⟩ := BX.out _ hx3
    clear a0 a1' a2' a3'
    go_wp2_with fail
    refine (spec_IsName_any d.parent _ (by omega)).mono ?_
    rw [HQ2.out]
    rintro e w4 ⟨rfl, hx4⟩
    go_wp2_with fail
    go_ret
    exact ⟨ret_bool (Eq.symm (prB_ff fun h => by have := (h.2.2 d HMM.out).1.2.1; rw [HQ2.out] at this; cases this)), ((hx.alloc _).trans hx3).trans hx4⟩
  have HQ2 := LH hq2; clear hq2
  by_cases hq3 : d.fields.length <= 4
  rotate_left
  · have hq3' : (4 : Int) < (d.fields.length : Int) := by omega
    have HQ3 := LH hq3; clear hq3
    go_wp2_with fail
    refine (spec_IsName_any d.name _ (by omega)).mono ?_
    rw [HQ1.out]
    rintro e w3 ⟨rfl, hx3⟩
    obtain ⟨y0, y1, y2, y3, y4⟩ := BX.out _ hx3
    clear a0 a1' a2' a3'
    go_wp2_with fail
    refine (spec_IsName_any d.parent _ (by omega)).mono ?_
    rw [HQ2.out]
    rintro e w4 ⟨rfl, hx4⟩
    clear y0 y1 y2 y3 y4
    obtain ⟨y0, y1, y2, y3, y4⟩ := BX.out _ (hx3.trans hx4)
    clear y0 y1
    have hz := ((hx.alloc (.cells #[.string d.name, .string d.parent, .slice af d.fields.length cf, .slice am d.methods.length cm] 43)).trans hx3).trans hx4
    clear hx3 hx4
    go_wp2_with fail
    go_ret
    exact ⟨ret_bool (Eq.symm (prB_ff fun h => HQ3.out (h.2.2 d HMM.out).1.2.2.1)), hz⟩
  have hq3' : ¬ (4 : Int) < (d.fields.length : Int) := by omega
  by_cases hq4 : d.methods.length <= 12
  rotate_left
  · have hq4' : (12 : Int) < (d.methods.length : Int) := by omega
    have HQ4 := LH hq4; clear hq4
    go_wp2_with fail
    refine (spec_IsName_any d.name _ (by omega)).mono ?_
    rw [HQ1.out]
    rintro e w3 ⟨rfl, hx3⟩
    obtain ⟨y0, y1, y2, y3, y4⟩ := BX.out _ hx3
    clear a0 a1' a2' a3'
    go_wp2_with fail
    refine (spec_IsName_any d.parent _ (by omega)).mono ?_
    rw [HQ2.out]
    rintro e w4 ⟨rfl, hx4⟩
    clear y0 y1 y2 y3 y4
    obtain ⟨y0, y1, y2, y3, y4⟩ := BX.out _ (hx3.trans hx4)
    clear y0 y1
    have hz := ((hx.alloc (.cells #[.string d.name, .string d.parent, .slice af d.fields.length cf, .slice am d.methods.length cm] 43)).trans hx3).trans hx4
    clear hx3 hx4
    go_wp2_with fail
    go_ret
    exact ⟨ret_bool (Eq.symm (prB_ff fun h => HQ4.out (h.2.2 d HMM.out).1.2.2.2)), hz⟩
  have hq4' : ¬ (12 : Int) < (d.methods.length : Int) := by omega
  have HH : Hid (nameB d.name = true /\ nameB d.parent = true /\ d.fields.length <= 4 /\ d.methods.length <= 12) := LH ⟨HQ1.out, HQ2.out, hq3, hq4⟩
  go_wp2_with fail
  refine (spec_IsName_any d.name _ (by omega)).mono ?_
  rw [HQ1.out]
  rintro e w3 ⟨rfl, hx3⟩
  obtain ⟨y0, y1, y2, y3, y4⟩ := BX.out _ hx3
  clear a0 a1' a2' a3'
  go_wp2_with fail
  refine (spec_IsName_any d.parent _ (by omega)).mono ?_
  rw [HQ2.out]
  rintro e w4 ⟨rfl, hx4⟩
  clear y0 y1 y2 y3 y4
  obtain ⟨y0, y1, y2, y3, y4⟩ := BX.out _ (hx3.trans hx4)
  clear y0 y1
  have hz := ((hx.alloc (.cells #[.string d.name, .string d.parent, .slice af d.fields.length cf, .slice am d.methods.length cm] 43)).trans hx3).trans hx4
  clear hx3 hx4
  go_wp2_with fail
  go_loopw [5] (fun jv wq => ∃ j : Nat, j <= d.fields.length /\ jv = .int .i64 j /\ Ext w4 wq /\ Hid (∀ i (hi : i < j) (hl : i < d.fields.length), nameB d.fields[i] = true)) (fun jv _ => d.fields.length - (intOf jv).toNat)
  case atStart => exact ⟨0, Nat.zero_le _, rfl, XR _, LH fun j hj => by omega⟩
  case round =>
   obtain ⟨j, hj, rfl, hy, hS⟩ := hrel
   have z2 := hy.cell y2
   have z3 := hy.cell y3
   have z4 := hy.cell y4
   by_cases hjl : j < d.fields.length
   · obtain rfl := pf (by omega)
     have b0 := (hz.trans hy).cell (hf j d.fields[j] (by simp [hjl]))
     have hsz : d.fields[j].size <= 9223372036854775806 := by have := HN5.out _ (List.getElem_mem hjl); omega
     have HMF := LH (show d.fields[j] ∈ d.fields from List.getElem_mem hjl)
     clear hf pf pm hmth
     cases hg : nameB d.fields[j]
     · have HG := LH hg; clear hg
       go_wp2_with fail
       refine (spec_IsName_any d.fields[j] _ hsz).mono ?_
       rw [HG.out]
       rintro e w5 ⟨rfl, hx5⟩
       go_wp2_with fail
       go_ret
       exact ⟨ret_bool (Eq.symm (prB_ff fun h => by have := (h.2.2 d HMM.out).2.1 _ HMF.out; rw [HG.out] at this; cases this)), (hz.trans hy).trans hx5⟩
     · have HG := LH hg; clear hg
       go_wp2_with fail
       refine (spec_IsName_any d.fields[j] _ hsz).mono ?_
       rw [HG.out]
       rintro e w5 ⟨rfl, hx5⟩
       go_wp2_with fail
       go_roundw
       case rel => exact ⟨j + 1, by omega, by go_num, hy.trans hx5, LH fun i hi hl => by
        by_cases h : i < j
        · exact hS.out i h hl
        · obtain rfl : i = j := by omega
          exact HG.out⟩
       case measure => simp [intOf]; omega
   · have HF : Hid (∀ s, s ∈ d.fields -> nameB s = true) := LH fun s hs => by
      obtain ⟨i, hi, rfl⟩ := List.mem_iff_getElem.1 hs
      exact hS.out i (by omega) hi
     have hv := hz.trans hy
     clear hf pf y2 y3 y4 hz
     go_wp2_with fail
     go_loopw [6] (fun jv wp => ∃ j : Nat, j <= d.methods.length /\ jv = .int .i64 j /\ Ext wr wp /\ Hid (∀ i (hi : i < j) (hl : i < d.methods.length), MethOk d.methods[i])) (fun jv _ => d.methods.length - (intOf jv).toNat)
     case atStart => exact ⟨0, Nat.zero_le _, rfl, XR _, LH fun j hj => by omega⟩
     case round =>
      obtain ⟨j2, hj2, rfl, hy2, hT⟩ := hrel
      have v2 := hy2.cell z2
      have v3 := hy2.cell z3
      have v4 := hy2.cell z4
      clear z2 z3 z4
      have hw := hv.trans hy2
      by_cases hjm : j2 < d.methods.length
      · obtain rfl := pm (by omega)
        obtain ⟨eb, lb, cb, rb⟩ := hmth j2 d.methods[j2] (by simp [hjm])
        obtain ⟨q1, r1, q2, r2, q3, r3, rfl⟩ := MMethod.shut_rep rb
        have b0 := hw.cell (show w.cell? ⟨bm, om + j2 * 5, none⟩ = some _ from cb 0 (by omega))
        have b1 := hw.cell (show w.cell? ⟨bm, om + j2 * 5 + 1, none⟩ = some _ from cb 1 (by omega))
        have b2 := hw.cell (show w.cell? ⟨bm, om + j2 * 5 + 2, none⟩ = some _ from cb 2 (by omega))
        have b3 := hw.cell (show w.cell? ⟨bm, om + j2 * 5 + 3, none⟩ = some _ from cb 3 (by omega))
        have b4 := hw.cell (show w.cell? ⟨bm, om + j2 * 5 + 4, none⟩ = some _ from cb 4 (by omega))
        have HME := LH (show d.methods[j2] ∈ d.methods from List.getElem_mem hjm)
        have con : Hid (∀ W, Ext wr W -> Calls Tryz.prog 38 #[.agg #[.string d.methods[j2].selector, .bool d.methods[j2].cls, .slice q1 d.methods[j2].params.length r1, .slice q2 d.methods[j2].temps.length r2, .slice q3 d.methods[j2].body.length r3]] W fun e w' => e = .returned (.bool (prB (MethOk d.methods[j2]))) /\ Ext W w') := LH fun W hW => spec_IsMethod_any _ _ W (Rep.ext (hw.trans hW) rb) (HN6.out _ HME.out)
        clear cb lb rb hmth pm
        generalize hM2 : d.methods[j2] = m at *
        have hMM := LH hM2; clear hM2
        cases hg : prB (MethOk m)
        · have HG := LH hg; clear hg
          go_wp2_with fail
          refine (con.out _ (XR _)).mono ?_
          rw [HG.out]
          rintro e w6 ⟨rfl, hx6⟩
          clear b0 b1 b2 b3 b4
          go_wp2_with fail
          go_ret
          exact ⟨ret_bool (Eq.symm (prB_ff fun h => by have := prB_tt ((h.2.2 d HMM.out).2.2 _ HME.out); rw [HG.out] at this; cases this)), hw.trans hx6⟩
        · have HG := LH hg; clear hg
          go_wp2_with fail
          refine (con.out _ (XR _)).mono ?_
          rw [HG.out]
          rintro e w6 ⟨rfl, hx6⟩
          clear b0 b1 b2 b3 b4
          go_wp2_with fail
          go_roundw
          case rel => exact ⟨j2 + 1, by omega, by go_num, hy2.trans hx6, LH fun i hi hl => by
           by_cases h : i < j2
           · exact hT.out i h hl
           · obtain rfl : i = j2 := by omega
             rw [hMM.out]
             exact prB_iff.1 HG.out⟩
          case measure => simp [intOf]; omega
      · go_wp2_with fail
        go_roundw
        case rel => exact ⟨k + 1, by omega, by go_num, hw, v4, LH fun i hi hl => by
         by_cases h : i < k
         · exact hR.out i h hl
         · obtain rfl : i = k := by omega
           rw [hM.out]
           exact ⟨HH.out, HF.out, fun m hm => by
            obtain ⟨i, hi, rfl⟩ := List.mem_iff_getElem.1 hm
            exact hT.out i (by omega) hi⟩⟩
        case measure => simp [intOf]; omega
theorem impl_IsUnit_any (u : MUnit) (cx : List Value) (w : World) (rx : Rep w u.d cx) (hb : u.d.bulk <= 1048576) (hm : MaxOk w) :
 Calls Tryz.prog 22 #[.agg cx.toArray] w fun e w' => e = .returned (.bool (prB (UnitOk u))) /\ Ext w w' := by
 obtain ⟨hbm, hcl, hbc⟩ := unit_bulks hb
 have HBC := LH hbc; clear hbc hb
 have hl := bulk_method hbm
 have hbb := bulk_block hbm
 obtain ⟨au, cu, a1, k1, a2, k2, a3, k3, rfl, rc, -, -, -, rmain⟩ := MUnit.op_en rx
 have RM : Hid (∀ W, Ext w W -> Rep W u.main.d _) := LH fun W h => Rep.ext h rmain
 clear rx rmain
 have E1 : ∀ o : Obj, Ext w (w.alloc o) := fun o => (XR w).alloc _
 obtain ⟨ao, ca, ba, oa, e1, hla, hma, pa, ha⟩ := Rep.slmap rc
 simp only [List.cons.injEq, and_true, Value.slice.injEq] at e1
 obtain ⟨rfl, -, rfl⟩ := e1
 unfold maxLen at hma
 clear rc
 by_cases h8 : u.classes.length <= 8
 rotate_left
 · have h8' : (8 : Int) < (u.classes.length : Int) := by omega
   have H8 := LH h8; clear h8
   go_enter Tryz.func22, Tryz.ntmps22
   go_wp2_with fail
   go_ret
   exact ⟨ret_bool (Eq.symm (prB_ff fun h => H8.out h.1)), E1 _⟩
 have h8' : ¬ (8 : Int) < (u.classes.length : Int) := by omega
 cases hq : prB (MainOk u.main)
 · have HQ := LH hq; clear hq
   go_enter Tryz.func22, Tryz.ntmps22
   go_wp2_with fail
   refine (mainOk_any u.main _ _ (RM.out _ (E1 _)) hbm (hm.ext (E1 _))).mono ?_
   rw [HQ.out]
   rintro e w2 ⟨rfl, hx2⟩
   go_wp2_with fail
   go_ret
   exact ⟨ret_bool (Eq.symm (prB_ff fun h => by have h2 := prB_tt h.2.1; rw [HQ.out] at h2; cases h2)), (E1 _).trans (hx2)⟩
 have HQ := LH hq; clear hq
 go_enter Tryz.func22, Tryz.ntmps22
 go_wp2_with fail
 refine (mainOk_any u.main _ _ (RM.out _ (E1 _)) hbm (hm.ext (E1 _))).mono ?_
 rw [HQ.out]
 rintro e w2 ⟨rfl, hx2⟩
 have x2 := (E1 (.cells #[.slice au u.classes.length cu, .string u.main.selector, .bool u.main.cls, .slice a1 u.main.params.length k1, .slice a2 u.main.temps.length k2, .slice a3 u.main.body.length k3] 28)).trans (hx2)
 have m0 := Ext.cell (hx2) (show (w.alloc (.cells #[.slice au u.classes.length cu, .string u.main.selector, .bool u.main.cls, .slice a1 u.main.params.length k1, .slice a2 u.main.temps.length k2, .slice a3 u.main.body.length k3] 28)).cell? ⟨w.heap.size, 0, none⟩ = some (.slice au u.classes.length cu) by simp)
 go_wp2_with fail
 go_loopw [22] (fun iv wr => ∃ k : Nat, k <= u.classes.length /\ iv = .int .i64 k /\ Ext w wr /\ Hid (∀ j (hj : j < k) (hl : j < u.classes.length), ClassOk u.classes[j])) (fun iv _ => u.classes.length - (intOf iv).toNat)
 case atStart => exact ⟨0, Nat.zero_le _, rfl, x2, LH fun j hj => by omega⟩
 case round =>
  clear m0 x2
  obtain ⟨k, hk, rfl, hx, hR⟩ := hrel
  by_cases hlt : k < u.classes.length
  rotate_left
  · go_wp2_with fail
    go_ret
    exact ⟨ret_bool (Eq.symm (prB_tt ⟨h8, (prB_iff.1 HQ.out), fun d hd => by
     obtain ⟨j, hj, rfl⟩ := List.mem_iff_getElem.1 hd
     exact hR.out j (by omega) hj⟩)), hx⟩
  obtain rfl := pa (by omega)
  obtain ⟨ea, la, c1, ra⟩ := ha k u.classes[k] (by simp [hlt])
  obtain ⟨af, cf, am, cm, rfl, rf, rmm⟩ := MClassDef.shut_rep ra
  have a0 := hx.cell (show w.cell? ⟨ba, oa + k * 4, none⟩ = some _ from c1 0 (by omega))
  have a1' := hx.cell (show w.cell? ⟨ba, oa + k * 4 + 1, none⟩ = some _ from c1 1 (by omega))
  have a2' := hx.cell (show w.cell? ⟨ba, oa + k * 4 + 2, none⟩ = some _ from c1 2 (by omega))
  have a3' := hx.cell (show w.cell? ⟨ba, oa + k * 4 + 3, none⟩ = some _ from c1 3 (by omega))
  obtain ⟨hn1, hn2, ⟨hn3, hn4⟩, hn5, hn6⟩ := class_bulks (HBC.out _ (List.getElem_mem hlt))
  have HN5 := LH hn5; have HN6 := LH hn6
  have HMM := LH (show u.classes[k] ∈ u.classes from List.getElem_mem hlt)
  clear c1 la ha pa ra hn5 hn6
  generalize hM0 : u.classes[k] = d at *
  have hM := LH hM0; clear hM0
  obtain ⟨aof, caf, bf, of, e1, hlf, hmf, pf, hf⟩ := Rep.strs rf
  simp only [List.cons.injEq, and_true, Value.slice.injEq] at e1
  obtain ⟨rfl, -, rfl⟩ := e1
  obtain ⟨aom, cam, bm, om, e1, hlm, hmm, pm, hmth⟩ := Rep.slmap rmm
  simp only [List.cons.injEq, and_true, Value.slice.injEq] at e1
  obtain ⟨rfl, -, rfl⟩ := e1
  unfold maxLen at hmf hmm
  clear rf rmm
  have BX : Hid (∀ W, Ext (wr.alloc (.cells #[.string d.name, .string d.parent, .slice af d.fields.length cf, .slice am d.methods.length cm] 43)) W -> W.cell? ⟨wr.heap.size, 0, none⟩ = some (.string d.name) /\ W.cell? ⟨wr.heap.size, 1, none⟩ = some (.string d.parent) /\ W.cell? ⟨wr.heap.size, 2, none⟩ = some (.slice af d.fields.length cf) /\ W.cell? ⟨wr.heap.size, 3, none⟩ = some (.slice am d.methods.length cm)) := LH fun W h => ⟨Ext.cell h (by simp), Ext.cell h (by simp), Ext.cell h (by simp), Ext.cell h (by simp)⟩
  cases hq1 : nameB d.name
  · have HQ1 := LH hq1; clear hq1
    go_wp2_with fail
    refine (impl_IsName_any d.name _ (by omega)).mono ?_
    rw [HQ1.out]
    rintro e w3 ⟨rfl, hx3⟩
    go_wp2_with fail
    go_ret
    exact ⟨ret_bool (Eq.symm (prB_ff fun h => by have := (h.2.2 d HMM.out).1.1; rw [HQ1.out] at this; cases this)), (hx.alloc _).trans hx3⟩
  have HQ1 := LH hq1; clear hq1
  cases hq2 : nameB d.parent
  · have HQ2 := LH hq2; clear hq2
    go_wp2_with fail
    refine (impl_IsName_any d.name _ (by omega)).mono ?_
    rw [HQ1.out]
    rintro e w3 ⟨rfl, hx3⟩
    obtain ⟨y0, y1, y2, y3⟩ := BX.out _ hx3
    clear a0 a1' a2' a3'
    go_wp2_with fail
    refine (impl_IsName_any d.parent _ (by omega)).mono ?_
    rw [HQ2.out]
    rintro e w4 ⟨rfl, hx4⟩
    go_wp2_with fail
    go_ret
    exact ⟨ret_bool (Eq.symm (prB_ff fun h => by have := (h.2.2 d HMM.out).1.2.1; rw [HQ2.out] at this; cases this)), ((hx.alloc _).trans hx3).trans hx4⟩
  have HQ2 := LH hq2; clear hq2
  by_cases hq3 : d.fields.length <= 4
  rotate_left
  · have hq3' : (4 : Int) < (d.fields.length : Int) := by omega
    have HQ3 := LH hq3; clear hq3
    go_wp2_with fail
    refine (impl_IsName_any d.name _ (by omega)).mono ?_
    rw [HQ1.out]
    rintro e w3 ⟨rfl, hx3⟩
    obtain ⟨y0, y1, y2, y3⟩ := BX.out _ hx3
    clear a0 a1' a2' a3'
    go_wp2_with fail
    refine (impl_IsName_any d.parent _ (by omega)).mono ?_
    rw [HQ2.out]
    rintro e w4 ⟨rfl, hx4⟩
    clear y0 y1 y2 y3
    obtain ⟨y0, y1, y2, y3⟩ := BX.out _ (hx3.trans hx4)
    clear y0 y1
    have hz := ((hx.alloc (.cells #[.string d.name, .string d.parent, .slice af d.fields.length cf, .slice am d.methods.length cm] 43)).trans hx3).trans hx4
    clear hx3 hx4
    go_wp2_with fail
    go_ret
    exact ⟨ret_bool (Eq.symm (prB_ff fun h => HQ3.out (h.2.2 d HMM.out).1.2.2.1)), hz⟩
  have hq3' : ¬ (4 : Int) < (d.fields.length : Int) := by omega
  by_cases hq4 : d.methods.length <= 12
  rotate_left
  · have hq4' : (12 : Int) < (d.methods.length : Int) := by omega
    have HQ4 := LH hq4; clear hq4
    go_wp2_with fail
    refine (impl_IsName_any d.name _ (by omega)).mono ?_
    rw [HQ1.out]
    rintro e w3 ⟨rfl, hx3⟩
    obtain ⟨y0, y1, y2, y3⟩ := BX.out _ hx3
    clear a0 a1' a2' a3'
    go_wp2_with fail
    refine (impl_IsName_any d.parent _ (by omega)).mono ?_
    rw [HQ2.out]
    rintro e w4 ⟨rfl, hx4⟩
    clear y0 y1 y2 y3
    obtain ⟨y0, y1, y2, y3⟩ := BX.out _ (hx3.trans hx4)
    clear y0 y1
    have hz := ((hx.alloc (.cells #[.string d.name, .string d.parent, .slice af d.fields.length cf, .slice am d.methods.length cm] 43)).trans hx3).trans hx4
    clear hx3 hx4
    go_wp2_with fail
    go_ret
    exact ⟨ret_bool (Eq.symm (prB_ff fun h => HQ4.out (h.2.2 d HMM.out).1.2.2.2)), hz⟩
  have hq4' : ¬ (12 : Int) < (d.methods.length : Int) := by omega
  have HH : Hid (nameB d.name = true /\ nameB d.parent = true /\ d.fields.length <= 4 /\ d.methods.length <= 12) := LH ⟨HQ1.out, HQ2.out, hq3, hq4⟩
  go_wp2_with fail
  refine (impl_IsName_any d.name _ (by omega)).mono ?_
  rw [HQ1.out]
  rintro e w3 ⟨rfl, hx3⟩
  obtain ⟨y0, y1, y2, y3⟩ := BX.out _ hx3
  clear a0 a1' a2' a3'
  go_wp2_with fail
  refine (impl_IsName_any d.parent _ (by omega)).mono ?_
  rw [HQ2.out]
  rintro e w4 ⟨rfl, hx4⟩
  clear y0 y1 y2 y3
  obtain ⟨y0, y1, y2, y3⟩ := BX.out _ (hx3.trans hx4)
  clear y0 y1
  have hz := ((hx.alloc (.cells #[.string d.name, .string d.parent, .slice af d.fields.length cf, .slice am d.methods.length cm] 43)).trans hx3).trans hx4
  clear hx3 hx4
  go_wp2_with fail
  go_loopw [51] (fun jv wq => ∃ j : Nat, j <= d.fields.length /\ jv = .int .i64 j /\ Ext w4 wq /\ Hid (∀ i (hi : i < j) (hl : i < d.fields.length), nameB d.fields[i] = true)) (fun jv _ => d.fields.length - (intOf jv).toNat)
  case atStart => exact ⟨0, Nat.zero_le _, rfl, XR _, LH fun j hj => by omega⟩
  case round =>
   obtain ⟨j, hj, rfl, hy, hS⟩ := hrel
   have z2 := hy.cell y2
   have z3 := hy.cell y3
   skip
   by_cases hjl : j < d.fields.length
   · obtain rfl := pf (by omega)
     have b0 := (hz.trans hy).cell (hf j d.fields[j] (by simp [hjl]))
     have hsz : d.fields[j].size <= 9223372036854775806 := by have := HN5.out _ (List.getElem_mem hjl); omega
     have HMF := LH (show d.fields[j] ∈ d.fields from List.getElem_mem hjl)
     clear hf pf pm hmth
     cases hg : nameB d.fields[j]
     · have HG := LH hg; clear hg
       go_wp2_with fail
       refine (impl_IsName_any d.fields[j] _ hsz).mono ?_
       rw [HG.out]
       rintro e w5 ⟨rfl, hx5⟩
       go_wp2_with fail
       go_ret
       exact ⟨ret_bool (Eq.symm (prB_ff fun h => by have := (h.2.2 d HMM.out).2.1 _ HMF.out; rw [HG.out] at this; cases this)), (hz.trans hy).trans hx5⟩
     · have HG := LH hg; clear hg
       go_wp2_with fail
       refine (impl_IsName_any d.fields[j] _ hsz).mono ?_
       rw [HG.out]
       rintro e w5 ⟨rfl, hx5⟩
       go_wp2_with fail
       go_roundw
       case rel => exact ⟨j + 1, by omega, by go_num, hy.trans hx5, LH fun i hi hl => by
        by_cases h : i < j
        · exact hS.out i h hl
        · obtain rfl : i = j := by omega
          exact HG.out⟩
       case measure => simp [intOf]; omega
   · have HF : Hid (∀ s, s ∈ d.fields -> nameB s = true) := LH fun s hs => by
      obtain ⟨i, hi, rfl⟩ := List.mem_iff_getElem.1 hs
      exact hS.out i (by omega) hi
     have hv := hz.trans hy
     clear hf pf y2 y3 hz
     go_wp2_with fail
     go_loopw [62] (fun jv wp => ∃ j : Nat, j <= d.methods.length /\ jv = .int .i64 j /\ Ext wr wp /\ Hid (∀ i (hi : i < j) (hl : i < d.methods.length), MethOk d.methods[i])) (fun jv _ => d.methods.length - (intOf jv).toNat)
     case atStart => exact ⟨0, Nat.zero_le _, rfl, XR _, LH fun j hj => by omega⟩
     case round =>
      obtain ⟨j2, hj2, rfl, hy2, hT⟩ := hrel
      have v2 := hy2.cell z2
      have v3 := hy2.cell z3
      skip
      clear z2 z3
      have hw := hv.trans hy2
      by_cases hjm : j2 < d.methods.length
      · obtain rfl := pm (by omega)
        obtain ⟨eb, lb, cb, rb⟩ := hmth j2 d.methods[j2] (by simp [hjm])
        obtain ⟨q1, r1, q2, r2, q3, r3, rfl⟩ := MMethod.shut_rep rb
        have b0 := hw.cell (show w.cell? ⟨bm, om + j2 * 5, none⟩ = some _ from cb 0 (by omega))
        have b1 := hw.cell (show w.cell? ⟨bm, om + j2 * 5 + 1, none⟩ = some _ from cb 1 (by omega))
        have b2 := hw.cell (show w.cell? ⟨bm, om + j2 * 5 + 2, none⟩ = some _ from cb 2 (by omega))
        have b3 := hw.cell (show w.cell? ⟨bm, om + j2 * 5 + 3, none⟩ = some _ from cb 3 (by omega))
        have b4 := hw.cell (show w.cell? ⟨bm, om + j2 * 5 + 4, none⟩ = some _ from cb 4 (by omega))
        have HME := LH (show d.methods[j2] ∈ d.methods from List.getElem_mem hjm)
        have con : Hid (∀ W, Ext wr W -> Calls Tryz.prog 49 #[.agg #[.string d.methods[j2].selector, .bool d.methods[j2].cls, .slice q1 d.methods[j2].params.length r1, .slice q2 d.methods[j2].temps.length r2, .slice q3 d.methods[j2].body.length r3]] W fun e w' => e = .returned (.bool (prB (MethOk d.methods[j2]))) /\ Ext W w') := LH fun W hW => impl_IsMethod_any _ _ W (Rep.ext (hw.trans hW) rb) (HN6.out _ HME.out) (hm.ext (hw.trans hW))
        clear cb lb rb hmth pm
        generalize hM2 : d.methods[j2] = m at *
        have hMM := LH hM2; clear hM2
        cases hg : prB (MethOk m)
        · have HG := LH hg; clear hg
          go_wp2_with fail
          refine (con.out _ ((XR _).alloc _)).mono ?_
          rw [HG.out]
          rintro e w6 ⟨rfl, hx6⟩
          clear b0 b1 b2 b3 b4
          go_wp2_with fail
          go_ret
          exact ⟨ret_bool (Eq.symm (prB_ff fun h => by have := prB_tt ((h.2.2 d HMM.out).2.2 _ HME.out); rw [HG.out] at this; cases this)), (hw.alloc _).trans hx6⟩
        · have HG := LH hg; clear hg
          go_wp2_with fail
          refine (con.out _ ((XR _).alloc _)).mono ?_
          rw [HG.out]
          rintro e w6 ⟨rfl, hx6⟩
          clear b0 b1 b2 b3 b4
          go_wp2_with fail
          go_roundw
          case rel => exact ⟨j2 + 1, by omega, by go_num, (hy2.alloc _).trans hx6, LH fun i hi hl => by
           by_cases h : i < j2
           · exact hT.out i h hl
           · obtain rfl : i = j2 := by omega
             rw [hMM.out]
             exact prB_iff.1 HG.out⟩
          case measure => simp [intOf]; omega
      · go_wp2_with fail
        go_roundw
        case rel => exact ⟨k + 1, by omega, by go_num, hw, LH fun i hi hl => by
         by_cases h : i < k
         · exact hR.out i h hl
         · obtain rfl : i = k := by omega
           rw [hM.out]
           exact ⟨HH.out, HF.out, fun m hm => by
            obtain ⟨i, hi, rfl⟩ := List.mem_iff_getElem.1 hm
            exact hT.out i (by omega) hi⟩⟩
        case measure => simp [intOf]; omega
def exW : ByteArray := ⟨#[101, 120, 116, 101, 110, 100, 115]⟩
def fiW : ByteArray := ⟨#[102, 105, 101, 108, 100, 115]⟩
def enW : ByteArray := ⟨#[101, 110, 100]⟩
def clW : ByteArray := ⟨#[99, 108, 97, 115, 115]⟩
def maW : ByteArray := ⟨#[109, 97, 105, 110]⟩
noncomputable def pFields (ts : List MToken) (n a : Nat) : Option (List ByteArray × Nat) := if tkxB ts a 8 fiW = true then pNames ts n [] (a + 1) else some ([], a)
noncomputable def pMs (ts : List MToken) : Nat -> List MMethod -> Nat -> Option (List MMethod × Nat)
 | 0, _, _ => none
 | n + 1, l, a => if tkxB ts a 8 enW = true then some (l, a + 1) else (pMeth ts n a).bind fun m => pMs ts n (l ++ [m.1]) m.2
noncomputable def pFM (ts : List MToken) (n a : Nat) : Option ((List ByteArray × List MMethod) × Nat) := (pFields ts n a).bind fun f => (pMs ts n [] f.2).bind fun m => some ((f.1, m.1), m.2)
noncomputable def pClass (ts : List MToken) (n a : Nat) : Option (MClassDef × Nat) :=
 if tkB ts a 1 = true then (if tkxB ts (a + 1) 8 exW = true then (if tkB ts (a + 2) 1 = true then (pFM ts n (a + 3)).bind fun f => some (⟨tkT ts a, tkT ts (a + 2), f.1.1, f.1.2⟩, f.2) else none) else none) else none
noncomputable def pCs (ts : List MToken) : Nat -> List MClassDef -> Nat -> Option (List MClassDef × Nat)
 | 0, _, _ => none
 | n + 1, l, a => if tkxB ts a 8 clW = true then (pClass ts n (a + 1)).bind fun c => pCs ts n (l ++ [c.1]) c.2 else some (l, a)
noncomputable def pMn (ts : List MToken) (n : Nat) (l : List MClassDef) (a : Nat) : Option (MUnit × Nat) := if tkxB ts a 8 maW = true then (pVS ts n (a + 1)).bind fun v => some (⟨l, ⟨maW, false, [], v.1, v.2.1⟩⟩, v.2.2) else none
noncomputable def pUnit (ts : List MToken) (n a : Nat) : Option (MUnit × Nat) := (pCs ts n [] a).bind fun c => pMn ts n c.1 c.2
def lbM : List MMethod -> Nat
 | [] => 0
 | k :: l => k.d.bulk + 1 + lbM l
def lbC : List MClassDef -> Nat
 | [] => 0
 | k :: l => k.d.bulk + 1 + lbC l
theorem lbM_append (l k : List MMethod) : lbM (l ++ k) = lbM l + lbM k := by
 induction l with
 | nil => simp [lbM]
 | cons x l ih => simp only [List.cons_append, lbM, ih]; omega
theorem lbC_append (l k : List MClassDef) : lbC (l ++ k) = lbC l + lbC k := by
 induction l with
 | nil => simp [lbC]
 | cons x l ih => simp only [List.cons_append, lbC, ih]; omega
theorem bulkM_lb (l : List MMethod) : l.length + D.bulkL (l.map MMethod.d) = lbM l := by
 induction l with
 | nil => rfl
 | cons x l ih => simp only [List.length_cons, List.map_cons, D.bulkL, lbM]; omega
theorem bulkC_lb (l : List MClassDef) : l.length + D.bulkL (l.map MClassDef.d) = lbC l := by
 induction l with
 | nil => rfl
 | cons x l ih => simp only [List.length_cons, List.map_cons, D.bulkL, lbC]; omega
theorem bulk_c (x : MClassDef) : x.d.bulk = x.name.size + x.parent.size + lbT x.fields + lbM x.methods := by
 rw [MClassDef.d_eq, <- bulkM_lb, <- bulkT_lb]
 simp only [D.bulk, D.bulkL, strs, MMethods, List.length_map]
 omega
theorem bulk_u (x : MUnit) : x.d.bulk = lbC x.classes + x.main.d.bulk := by
 rw [MUnit.d_eq, <- bulkC_lb]
 simp only [D.bulk, D.bulkL, MClassDefs, List.length_map]
 omega
theorem meth_lb8 (ts : List MToken) (n a : Nat) (r : MMethod × Nat) (h : pMeth ts n a = some r) : r.1.d.bulk + 8 + PS ts a <= PS ts r.2 := by
 unfold pMeth at h
 split at h
 · have := mrest_lb ts n _ _ r h; rw [PS_succ] at this; omega
 · split at h
   · have := mrest_lb ts n _ _ r h; rw [PS_succ] at this; omega
   · cases h
theorem PS_mono (ts : List MToken) : ∀ {a b : Nat}, a <= b -> PS ts a <= PS ts b := by
 intro a b h
 induction h with
 | refl => exact Nat.le_refl _
 | step _ ih => rw [PS_succ]; omega
theorem meth_up (ts : List MToken) (n a : Nat) (r : MMethod × Nat) (h : pMeth ts n a = some r) : a < r.2 := by
 have h1 := meth_lb8 ts n a r h
 by_cases hc : a < r.2
 · exact hc
 · have := PS_mono ts (show r.2 <= a by omega); omega
theorem fields_lb (ts : List MToken) (n a : Nat) (r : List ByteArray × Nat) (h : pFields ts n a = some r) : lbT r.1 + PS ts a <= PS ts r.2 := by
 unfold pFields at h
 split at h
 · exact names_lb ts n _ _ r h (PS ts a) (by rw [PS_succ]; simp only [lbT]; omega)
 · injection h with h; subst h; simp [lbT]
theorem ms_lb (ts : List MToken) : ∀ (n : Nat) (l : List MMethod) (a : Nat) (r : List MMethod × Nat), pMs ts n l a = some r -> ∀ c, lbM l + c <= PS ts a -> lbM r.1 + c <= PS ts r.2
 | 0, l, a, r, h, c, hc => by simp [pMs] at h
 | n + 1, l, a, r, h, c, hc => by
  rw [pMs] at h
  split at h
  · injection h with h; subst h
    show lbM l + c <= PS ts (a + 1)
    rw [PS_succ]; omega
  · rw [Option.bind_eq_some_iff] at h
    obtain ⟨m, h1, h2⟩ := h
    have := meth_lb8 ts n a m h1
    refine ms_lb ts n _ _ r h2 c ?_
    rw [lbM_append]
    simp only [lbM]
    omega
theorem fm_lb (ts : List MToken) (n a : Nat) (r : (List ByteArray × List MMethod) × Nat) (h : pFM ts n a = some r) : lbT r.1.1 + lbM r.1.2 + PS ts a <= PS ts r.2 := by
 unfold pFM at h
 rw [Option.bind_eq_some_iff] at h
 obtain ⟨f, h1, h2⟩ := h
 rw [Option.bind_eq_some_iff] at h2
 obtain ⟨m, h3, h4⟩ := h2
 injection h4 with h4; subst h4
 have k1 := fields_lb ts n a f h1
 have k2 := ms_lb ts n _ _ m h3 (lbT f.1 + PS ts a) (by simp only [lbM]; omega)
 show lbT f.1 + lbM m.1 + _ <= PS ts m.2
 omega
theorem class_lb (ts : List MToken) (n a : Nat) (r : MClassDef × Nat) (h : pClass ts n a = some r) : r.1.d.bulk + PS ts a <= PS ts r.2 := by
 unfold pClass at h
 split at h
 · split at h
   · split at h
     · rw [Option.bind_eq_some_iff] at h
       obtain ⟨f, h1, h2⟩ := h
       injection h2 with h2; subst h2
       have k1 := fm_lb ts n _ f h1
       rw [PS_succ, PS_succ, PS_succ] at k1
       rw [bulk_c]
       show (tkT ts a).size + (tkT ts (a + 2)).size + lbT f.1.1 + lbM f.1.2 + _ <= PS ts f.2
       omega
     · cases h
   · cases h
 · cases h
theorem cs_lb (ts : List MToken) : ∀ (n : Nat) (l : List MClassDef) (a : Nat) (r : List MClassDef × Nat), pCs ts n l a = some r -> ∀ c, lbC l + c <= PS ts a -> lbC r.1 + c <= PS ts r.2
 | 0, l, a, r, h, c, hc => by simp [pCs] at h
 | n + 1, l, a, r, h, c, hc => by
  rw [pCs] at h
  split at h
  · rw [Option.bind_eq_some_iff] at h
    obtain ⟨m, h1, h2⟩ := h
    have := class_lb ts n _ m h1
    rw [PS_succ] at this
    refine cs_lb ts n _ _ r h2 c ?_
    rw [lbC_append]
    simp only [lbC]
    omega
  · injection h with h; subst h; exact hc
theorem unit_lb (ts : List MToken) (n a : Nat) (r : MUnit × Nat) (h : pUnit ts n a = some r) : r.1.d.bulk + PS ts a <= PS ts r.2 := by
 unfold pUnit at h
 rw [Option.bind_eq_some_iff] at h
 obtain ⟨c, h1, h2⟩ := h
 unfold pMn at h2
 split at h2
 · rw [Option.bind_eq_some_iff] at h2
   obtain ⟨v, h3, h4⟩ := h2
   injection h4 with h4; subst h4
   have k1 := cs_lb ts n _ _ c h1 (PS ts a) (by simp only [lbC]; omega)
   have k2 := vs_lb ts n _ v h3
   rw [PS_succ] at k2
   rw [bulk_u, bulk_m]
   show lbC c.1 + (maW.size + lbT [] + lbT v.1 + lbE v.2.1) + _ <= PS ts v.2.2
   have hm : maW.size = 4 := rfl
   simp only [lbT]
   omega
 · cases h2
theorem evu_bulk {ts : List MToken} (h : sumW ts <= 4000 + 84 * ts.length) (hl : ts.length <= 800) {x : MUnit} {a : Nat} (he : Ev (fun n => pUnit ts n 0) (some (x, a))) (ha : a <= 801) : x.d.bulk <= 1048576 := by
 obtain ⟨n, he⟩ := he
 have := unit_lb ts n 0 _ (he n (Nat.le_refl _))
 have h2 := PS_sum ts a
 have h3 := sumW_take ts a
 simp only [PS] at this
 omega
theorem tkx_ne {ts : List MToken} {a : Nat} {k : Int} {s t : ByteArray} (hk : k ≠ 0) (h : tkxB ts a k s = true) (hn : s ≠ t) : tkxB ts a k t = false := by
 cases h2 : tkxB ts a k t with
 | false => rfl
 | true => exact absurd (((tok_eq hk).1 h).2.symm.trans ((tok_eq hk).1 h2).2) hn
theorem Ev.up {ts : List MToken} {a : Nat} {m : MMethod} {a' : Nat} (h : Ev (fun n => pMeth ts n a) (some (m, a'))) : a < a' := by
 obtain ⟨n, h⟩ := h
 exact meth_up ts n a _ (h n (Nat.le_refl _))
def leftOf (B n : Nat) (w : World) : Nat := match w.cell? ⟨B, 2, none⟩ with | some (.bool true) => 0 | _ => n + 1 - placeOf B w
theorem left_bad {ty : TypeId} {B tb to_ cap : Nat} {ao : Option Addr} {ts : List MToken} {w : World} {a n : Nat} (h : Prs ty B tb to_ cap ao ts w a true) : leftOf B n w = 0 := by
 have e : w.cell? ⟨B, 2, none⟩ = some (.bool true) := h.own.cell 2
 unfold leftOf
 rw [e]
theorem left_ok {ty : TypeId} {B tb to_ cap : Nat} {ao : Option Addr} {ts : List MToken} {w : World} {a n : Nat} (h : Prs ty B tb to_ cap ao ts w a false) : leftOf B n w = n + 1 - a := by
 have e : w.cell? ⟨B, 2, none⟩ = some (.bool false) := h.own.cell 2
 unfold leftOf
 rw [e, placeOf_eq h]
theorem MClassDef.op_e2 {w : World} {x : MClassDef} {cs : List Value} {fp : List Nat} (h : RepF w x.d cs fp) : ∃ a1 c1 a2 c2, cs = [.string x.name, .string x.parent, .slice a1 x.fields.length c1, .slice a2 x.methods.length c2] := by
 obtain ⟨a1, c1, a2, c2, h, -, -⟩ := MClassDef.op_en h.rep
 exact ⟨a1, c1, a2, c2, h⟩
theorem MUnit.op_e2 {w : World} {x : MUnit} {cs : List Value} {fp : List Nat} (h : RepF w x.d cs fp) : ∃ a0 c0 a1 c1 a2 c2 a3 c3, cs = [.slice a0 x.classes.length c0, .string x.main.selector, .bool x.main.cls, .slice a1 x.main.params.length c1, .slice a2 x.main.temps.length c2, .slice a3 x.main.body.length c3] := by
 obtain ⟨a0, c0, a1, c1, a2, c2, a3, c3, h, -⟩ := MUnit.op_en h.rep
 exact ⟨a0, c0, a1, c1, a2, c2, a3, c3, h⟩
def AccM (B0 : Nat) (w : World) (v : Value) (l : List MMethod) : Prop := Acw B0 w 26 5 v (l.map MMethod.d)
def AccC (B0 : Nat) (w : World) (v : Value) (l : List MClassDef) : Prop := Acw B0 w 43 4 v (l.map MClassDef.d)
theorem AccM.rep {B0 : Nat} {w : World} {v : Value} {l : List MMethod} (h : AccM B0 w v l) : ∃ ao cap gp, v = .slice ao l.length cap /\ RepF w (MMethods l) [.slice ao l.length cap] gp /\ ∀ k, k ∈ gp -> B0 <= k := by
 obtain ⟨ao, cap, gp, h1, h2, h3⟩ := Acw.rep h (by decide)
 rw [List.length_map] at h1 h2
 exact ⟨ao, cap, gp, h1, h2, h3⟩
theorem AccC.rep {B0 : Nat} {w : World} {v : Value} {l : List MClassDef} (h : AccC B0 w v l) : ∃ ao cap gp, v = .slice ao l.length cap /\ RepF w (MClassDefs l) [.slice ao l.length cap] gp /\ ∀ k, k ∈ gp -> B0 <= k := by
 obtain ⟨ao, cap, gp, h1, h2, h3⟩ := Acw.rep h (by decide)
 rw [List.length_map] at h1 h2
 exact ⟨ao, cap, gp, h1, h2, h3⟩
theorem one_of {d : D} {w : World} {cs : List Value} {fp : List Nat} {e : TypeId} {nb size : Nat} (h : RepF w d cs fp) (hl : cs.length = size) (hO : Own w nb e cs.toArray) (hs : 0 < size) : RepF w (.sl size [d]) [.slice (some ⟨nb, 0, none⟩) 1 1] (nb :: fp) := by
 refine RepF.sl_iff.2 ⟨_, 1, by simp, by simp, by unfold maxLen; omega, by simp, Or.inr ⟨nb, 0, cs, fp, by simp, rfl, rfl, hO.lt, fun j c hj => ?_, ?_⟩⟩
 · rw [Nat.zero_add, hO.cell]; simpa using hj
 · exact RepR.one h hl
def zU : MUnit := ⟨[], ⟨⟨#[]⟩, false, [], [], []⟩⟩
def IsParsedU (s : ByteArray) (x : MUnit) : Prop := ∃ ts, toksL s = some ts /\ Ev (fun n => pUnit ts n 0) (some (x, ts.length)) /\ UnitOk x
noncomputable def parseU (s : ByteArray) : Option MUnit := @dite _ (∃ x, IsParsedU s x) (Classical.propDecidable _) (fun h => some (Classical.choose h)) (fun _ => none)
theorem IsParsedU.uniq {s : ByteArray} {x y : MUnit} (h : IsParsedU s x) (k : IsParsedU s y) : x = y := by
 obtain ⟨ts, h1, h2, _⟩ := h
 obtain ⟨us, k1, k2, _⟩ := k
 rw [h1] at k1
 injection k1 with k1
 subst k1
 have := Ev.uniq h2 k2
 injection this with this
 injection this
theorem parseU_yes {s : ByteArray} {x : MUnit} (h : IsParsedU s x) : parseU s = some x := by
 have he : ∃ x, IsParsedU s x := ⟨x, h⟩
 unfold parseU
 rw [dif_pos he]
 exact congrArg some ((Classical.choose_spec he).uniq h)
theorem parseU_no {s : ByteArray} (h : ¬ ∃ x, IsParsedU s x) : parseU s = none := by
 unfold parseU
 rw [dif_neg h]
theorem parseU_no1 {s : ByteArray} (h : toksL s = none) : parseU s = none := parseU_no (fun ⟨_, ts, h1, _⟩ => by rw [h] at h1; cases h1)
theorem parseU_no2 {s : ByteArray} {ts : List MToken} (h : toksL s = some ts) (hE : Ev (fun n => pUnit ts n 0) none) : parseU s = none := parseU_no (fun ⟨y, us, h1, h2, _⟩ => by
 rw [h] at h1
 injection h1 with h1
 subst h1
 have := Ev.uniq hE h2
 cases this)
theorem parseU_no3 {s : ByteArray} {ts : List MToken} {x : MUnit} {a : Nat} (h : toksL s = some ts) (hE : Ev (fun n => pUnit ts n 0) (some (x, a))) (hn : a ≠ ts.length ∨ ¬ UnitOk x) : parseU s = none := parseU_no (fun ⟨y, us, h1, h2, h3⟩ => by
 rw [h] at h1
 injection h1 with h1
 subst h1
 have := Ev.uniq hE h2
 injection this with this
 injection this with e1 e2
 subst e1 e2
 rcases hn with hn | hn
 · exact hn rfl
 · exact hn h3)
theorem parseU_bulk (s : ByteArray) : ((parseU s).getD zU).d.bulk <= 1048576 := by
 cases h : parseU s with
 | none =>
  show zU.d.bulk <= _
  rw [bulk_u, bulk_m]
  simp only [zU, lbT, lbE, lbC]
  decide
 | some x =>
  show x.d.bulk <= _
  have hp : IsParsedU s x := by
   by_cases he : ∃ x, IsParsedU s x
   · obtain ⟨y, hy⟩ := he
     have := parseU_yes hy
     rw [h] at this
     injection this with this
     exact this ▸ hy
   · have := parseU_no he
     rw [h] at this
     cases this
  obtain ⟨ts, h1, h2, _⟩ := hp
  obtain ⟨h3, h4⟩ := toks_sum h1
  exact evu_bulk h3 h4 h2 (by omega)
end Go.Proofs.YtlcebafhbceejaaGreatDoor
