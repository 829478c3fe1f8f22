/-
  CONTRACTS: EqualUnits, of the program and of the reference.
  Conditions: those that each lemma states.
-/
import Derived.Test.YtihibfdnmbapkaaRows
import Derived.Test.YtihibfdnmbapkaaFnMethods
import Derived.Test.YtihibfdnmbapkaaFnJoin
import Derived.Lib.QuietBelow
import Derived.BigQuiet
import Derived.Deep.RegionHeld3
import Derived.Deep.DeepCutAuto
namespace Go.Proofs.Ytihibfdnmbapkaa
open Go.RowKit
set_option linter.unusedSimpArgs false
set_option linter.unusedVariables false

theorem bulkL_mem2 : ∀ {xs : List D} {x : D}, x ∈ xs → x.bulk ≤ D.bulkL xs
  | y :: ys, x, h => by
    simp only [D.bulkL]
    rcases List.mem_cons.1 h with rfl | h
    · omega
    · have := bulkL_mem2 h; omega
theorem unit_bulks2 {u : MUnit} (h : u.d.bulk ≤ 1048576) : u.main.d.bulk ≤ 1048576 ∧ u.classes.length ≤ 1048576 ∧ ∀ d, d ∈ u.classes → d.d.bulk ≤ 1048576 := by
  rw [MUnit.d_eq] at h
  simp only [D.bulk, D.bulkL, MClassDefs, List.length_map] at h
  refine ⟨by omega, by omega, fun d hd => ?_⟩
  have := bulkL_mem2 (List.mem_map_of_mem (f := MClassDef.d) hd)
  omega
theorem class_bulks2 {d : MClassDef} (h : d.d.bulk ≤ 1048576) : (d.fields.length ≤ 1048576 ∧ d.methods.length ≤ 1048576) ∧ (strs d.fields).bulk ≤ 1048576 ∧ ∀ m, m ∈ d.methods → m.d.bulk ≤ 1048576 := by
  rw [MClassDef.d_eq] at h
  have h2 := h
  simp only [D.bulk, D.bulkL, strs, MMethods, List.length_map] at h2
  refine ⟨⟨by omega, by omega⟩, by simp only [D.bulk, D.bulkL] at h; omega, fun m hm => ?_⟩
  have := bulkL_mem2 (List.mem_map_of_mem (f := MMethod.d) hm)
  omega
theorem list_ext2 {α : Type} {a b : List α} (h : a.length = b.length) (k : ∀ i (h1 : i < a.length) (h2 : i < b.length), a[i] = b[i]) : a = b := List.ext_getElem h fun i h1 h2 => k i h1 h2
theorem class_ext {d e : MClassDef} (h1 : d.name = e.name) (h2 : d.parent = e.parent) (h3 : d.fields = e.fields) (h4 : d.methods = e.methods) : d = e := by
  cases d; cases e; simp only at h1 h2 h3 h4; subst h1 h2 h3 h4; rfl
theorem unit_ext {x y : MUnit} (h1 : x.classes = y.classes) (h2 : x.main = y.main) : x = y := by
  cases x; cases y; simp only at h1 h2; subst h1 h2; rfl
theorem MMethod.cells_of {w : World} {x : MMethod} {cs : List Value} (h : Rep w x.d cs) : ∃ a1 c1 a2 c2 a3 c3, cs = [.string x.selector, .bool x.cls, .slice a1 x.params.length c1, .slice a2 x.temps.length c2, .slice a3 x.body.length c3] := by
  obtain ⟨a1, c1, a2, c2, a3, c3, h, -, -, -⟩ := MMethod.op_en h
  exact ⟨a1, c1, a2, c2, a3, c3, h⟩

set_option maxHeartbeats 4000000 in
set_option maxRecDepth 100000 in
theorem spec_EqualUnits_any (x y : MUnit) (cx cy : List Value) (w : World) (rx : Rep w x.d cx) (ry : Rep w y.d cy) (hx : x.d.bulk ≤ 1048576) (hy : y.d.bulk ≤ 1048576) :
    Calls Try.prog 5 #[.agg cx.toArray, .agg cy.toArray] w fun e w' => e = .returned (.bool (eqB x y)) ∧ Ext w w' := by
  obtain ⟨xm, xl, xc⟩ := unit_bulks2 hx
  obtain ⟨ym, yl, yc⟩ := unit_bulks2 hy
  have XC := Lib.hid xc; have YC := Lib.hid yc
  clear xc yc hx hy
  obtain ⟨xu, xv, x1, xk1, x2, xk2, x3, xk3, rfl, rcx, -, -, -, rmx⟩ := MUnit.op_en rx
  obtain ⟨yu, yv, y1, yk1, y2, yk2, y3, yk3, rfl, rcy, -, -, -, rmy⟩ := MUnit.op_en ry
  have RX : Hid (∀ W, Ext w W → Rep W x.main.d _) := Lib.hid fun W h => Rep.ext h rmx
  have RY : Hid (∀ W, Ext w W → Rep W y.main.d _) := Lib.hid fun W h => Rep.ext h rmy
  clear rx ry rmx rmy
  obtain ⟨ao, ca, ba, oa, e1, hla, hma, pa, ha⟩ := Rep.slmap rcx
  obtain ⟨bo, cb, bb, ob, e2, hlb, hmb, pb, hb⟩ := Rep.slmap rcy
  simp only [List.cons.injEq, and_true, Value.slice.injEq] at e1 e2
  obtain ⟨rfl, -, rfl⟩ := e1
  obtain ⟨rfl, -, rfl⟩ := e2
  unfold maxLen at hma hmb
  clear rcx rcy
  obtain ⟨W1, hW1⟩ : ∃ W1, W1 = (w.alloc (.cells #[.slice xu x.classes.length xv, .string x.main.selector, .bool x.main.cls, .slice x1 x.main.params.length xk1, .slice x2 x.main.temps.length xk2, .slice x3 x.main.body.length xk3] 36)).alloc (.cells #[.slice yu y.classes.length yv, .string y.main.selector, .bool y.main.cls, .slice y1 y.main.params.length yk1, .slice y2 y.main.temps.length yk2, .slice y3 y.main.body.length yk3] 36) := ⟨_, rfl⟩
  have EW : Hid (Ext w W1) := Lib.hid (by rw [hW1]; exact ((Ext.refl w).alloc _).alloc _)
  have BX : Hid (∀ W, Ext W1 W → W.cell? ⟨w.heap.size, 0, none⟩ = some (.slice xu x.classes.length xv) ∧ W.cell? ⟨w.heap.size + 1, 0, none⟩ = some (.slice yu y.classes.length yv)) := Lib.hid fun W h => by subst hW1; exact ⟨Ext.cell h (by simp), Ext.cell h (by simp)⟩
  have CM0 : Hid (∀ W, Ext w W → Calls Try.prog 11 #[.agg #[.string x.main.selector, .bool x.main.cls, .slice x1 x.main.params.length xk1, .slice x2 x.main.temps.length xk2, .slice x3 x.main.body.length xk3], .agg #[.string y.main.selector, .bool y.main.cls, .slice y1 y.main.params.length yk1, .slice y2 y.main.temps.length yk2, .slice y3 y.main.body.length yk3]] W fun e w' => e = .returned (.bool (eqB x.main y.main)) ∧ Ext W w') := Lib.hid fun W h => spec_EqualMethods_any _ _ _ _ W (RX.out W h) (RY.out W h) xm ym
  clear RX RY xm ym
  have HW := Lib.hid hW1; clear hW1
  by_cases hl : x.classes.length = y.classes.length
  rotate_left
  · have t1 := int_nen (show ¬ (x.classes.length : Int) = (y.classes.length : Int) by omega)
    have HL := Lib.hid hl; clear hl
    go_enter Try.func5, Try.ntmps5
    go_wp2_with fail
    go_ret
    exact ⟨ret_ff fun h => HL.out (by rw [h]), ((Ext.refl w).alloc _).alloc _⟩
  have t1 := int_eqn (show (x.classes.length : Int) = (y.classes.length : Int) by omega)
  have hlei : x.classes.length ≤ y.classes.length := by omega
  have HL := Lib.hid hl; clear hl
  cases hm : eqB x.main y.main
  · have HM := Lib.hid hm; clear hm
    have CM := CM0.out
    rw [HM.out] at CM
    replace CM := Lib.hid CM
    clear CM0
    go_enter Try.func5, Try.ntmps5
    go_wp2_with fail
    rw [← HW.out]
    refine (CM.out _ EW.out).mono ?_
    rintro e w1 ⟨rfl, hx1⟩
    obtain ⟨m0, m1⟩ := BX.out _ hx1
    go_wp2_with fail
    go_ret
    exact ⟨ret_ff fun h => (by have := HM.out; rw [h, eqB_tt rfl] at this; cases this), EW.out.trans hx1⟩
  have HM := Lib.hid hm; clear hm
  have CM := CM0.out
  rw [HM.out] at CM
  replace CM := Lib.hid CM
  clear CM0
  go_enter Try.func5, Try.ntmps5
  go_wp2_with fail
  rw [← HW.out]
  refine (CM.out _ EW.out).mono ?_
  rintro e w1 ⟨rfl, hx1⟩
  obtain ⟨m0, m1⟩ := BX.out _ hx1
  go_wp2_with fail
  go_loopw [5, 6, 7, 8] (fun iv _ _ _ wr => ∃ k : Nat, k ≤ x.classes.length ∧ iv = .int .i64 k ∧ Ext W1 wr ∧ Hid (∀ j (h1 : j < x.classes.length) (h2 : j < y.classes.length), j < k → x.classes[j] = y.classes[j])) (fun iv _ _ _ _ => x.classes.length - (intOf iv).toNat)
  case atStart => exact ⟨0, Nat.zero_le _, rfl, hx1, Lib.hid fun j _ _ hj => by omega⟩
  case round =>
    clear m0 m1 hx1 t1
    obtain ⟨k, hk, rfl, hx, hR⟩ := hrel
    obtain ⟨m0, m1⟩ := BX.out _ hx
    by_cases hlt : k < x.classes.length
    rotate_left
    · go_wp2_with fail
      go_ret
      exact ⟨ret_tt (unit_ext (list_ext2 HL.out fun j h1 h2 => hR.out j h1 h2 (by omega)) (eqB_iff.1 HM.out)), EW.out.trans hx⟩
    have hlt2 : k < y.classes.length := by omega
    have h30 : (0 : Int) ≤ k := by omega
    have h31 : (k : Int) < (x.classes.length : Int) := by omega
    have h32 : (k : Int) < (y.classes.length : Int) := by omega
    obtain rfl := pa (by omega)
    obtain rfl := pb (by omega)
    obtain ⟨ea, la, c1, ra⟩ := ha k x.classes[k] (by simp [hlt])
    obtain ⟨eb, lb, c2, rb⟩ := hb k y.classes[k] (by simp [hlt2])
    obtain ⟨df, dcf, dm, dcm, rfl, rdf, rdm⟩ := MClassDef.op_en ra
    obtain ⟨ef, ecf, em, ecm, rfl, ref, rem⟩ := MClassDef.op_en rb
    have hw := EW.out.trans hx
    have a0 := hw.cell (show w.cell? ⟨ba, oa + k * 4, none⟩ = some _ from c1 0 (by omega))
    have a1 := hw.cell (show w.cell? ⟨ba, oa + k * 4 + 1, none⟩ = some _ from c1 1 (by omega))
    have a2 := hw.cell (show w.cell? ⟨ba, oa + k * 4 + 2, none⟩ = some _ from c1 2 (by omega))
    have a3 := hw.cell (show w.cell? ⟨ba, oa + k * 4 + 3, none⟩ = some _ from c1 3 (by omega))
    have b0 := hw.cell (show w.cell? ⟨bb, ob + k * 4, none⟩ = some _ from c2 0 (by omega))
    have b1 := hw.cell (show w.cell? ⟨bb, ob + k * 4 + 1, none⟩ = some _ from c2 1 (by omega))
    have b2 := hw.cell (show w.cell? ⟨bb, ob + k * 4 + 2, none⟩ = some _ from c2 2 (by omega))
    have b3 := hw.cell (show w.cell? ⟨bb, ob + k * 4 + 3, none⟩ = some _ from c2 3 (by omega))
    have zu : w.heap.size < wr.heap.size := lt_of_cell m0
    have zv : w.heap.size + 1 < wr.heap.size := lt_of_cell m1
    have zba : ba < wr.heap.size := lt_of_cell a0
    have zbb : bb < wr.heap.size := lt_of_cell b0
    obtain ⟨⟨dn1, dn2⟩, dn3, dn4⟩ := class_bulks2 (XC.out _ (List.getElem_mem hlt))
    obtain ⟨⟨en1, en2⟩, en3, en4⟩ := class_bulks2 (YC.out _ (List.getElem_mem hlt2))
    have DN4 := Lib.hid dn4; have EN4 := Lib.hid en4
    have HDE : Hid (x = y → x.classes[k] = y.classes[k]) := Lib.hid fun h => by subst h; rfl
    clear c1 c2 la lb ha hb pa pb ra rb dn4 en4
    generalize hD : x.classes[k] = d at *
    generalize hE : y.classes[k] = e at *
    have HD := Lib.hid hD; have HE := Lib.hid hE; clear hD hE
    have RDF := Lib.hid rdf; have REF := Lib.hid ref
    obtain ⟨dmo, dmc, bm, om, q1, hlm, hmm, pm, hmth⟩ := Rep.slmap rdm
    obtain ⟨emo, emc, bn, on, q2, hln, hmn, pn, hnth⟩ := Rep.slmap rem
    simp only [List.cons.injEq, and_true, Value.slice.injEq] at q1 q2
    obtain ⟨rfl, -, rfl⟩ := q1
    obtain ⟨rfl, -, rfl⟩ := q2
    unfold maxLen at hmm hmn
    have HMT := Lib.hid hmth; have HNT := Lib.hid hnth
    clear rdf ref rdm rem hmth hnth
    go_wp2_with fail
    go_cut [6, 7] (fun p q wx => ∃ g h : Nat, p = .pointer (some ⟨g, 0, none⟩) ∧ q = .pointer (some ⟨h, 0, none⟩) ∧ Ext wr wx ∧ (wx.cell? ⟨g, 0, none⟩ = some (.string d.name) ∧ wx.cell? ⟨g, 1, none⟩ = some (.string d.parent) ∧ wx.cell? ⟨g, 2, none⟩ = some (.slice df d.fields.length dcf) ∧ wx.cell? ⟨g, 3, none⟩ = some (.slice dm d.methods.length dcm)) ∧ (wx.cell? ⟨h, 0, none⟩ = some (.string e.name) ∧ wx.cell? ⟨h, 1, none⟩ = some (.string e.parent) ∧ wx.cell? ⟨h, 2, none⟩ = some (.slice ef e.fields.length ecf) ∧ wx.cell? ⟨h, 3, none⟩ = some (.slice em e.methods.length ecm)))
    case first =>
      have KS : Hid (∀ w'', Ext wr w'' → w''.cell? ⟨w.heap.size, 0, none⟩ = some (.slice (some ⟨ba, oa, none⟩) x.classes.length xv) ∧ w''.cell? ⟨w.heap.size + 1, 0, none⟩ = some (.slice (some ⟨bb, ob, none⟩) y.classes.length yv) ∧ w''.cell? ⟨ba, oa + k * 4, none⟩ = some (.string d.name) ∧ w''.cell? ⟨ba, oa + k * 4 + 1, none⟩ = some (.string d.parent) ∧ w''.cell? ⟨ba, oa + k * 4 + 2, none⟩ = some (.slice df d.fields.length dcf) ∧ w''.cell? ⟨ba, oa + k * 4 + 3, none⟩ = some (.slice dm d.methods.length dcm) ∧ w''.cell? ⟨bb, ob + k * 4, none⟩ = some (.string e.name) ∧ w''.cell? ⟨bb, ob + k * 4 + 1, none⟩ = some (.string e.parent) ∧ w''.cell? ⟨bb, ob + k * 4 + 2, none⟩ = some (.slice ef e.fields.length ecf) ∧ w''.cell? ⟨bb, ob + k * 4 + 3, none⟩ = some (.slice em e.methods.length ecm) ∧ Ext wr w'') := Lib.hid fun w'' h => ⟨Ext.cell h m0, Ext.cell h m1, Ext.cell h a0, Ext.cell h a1, Ext.cell h a2, Ext.cell h a3, Ext.cell h b0, Ext.cell h b1, Ext.cell h b2, Ext.cell h b3, h⟩
      go_region_held3 (fun w'' => w''.cell? ⟨w.heap.size, 0, none⟩ = some (.slice (some ⟨ba, oa, none⟩) x.classes.length xv) ∧ w''.cell? ⟨w.heap.size + 1, 0, none⟩ = some (.slice (some ⟨bb, ob, none⟩) y.classes.length yv) ∧ w''.cell? ⟨ba, oa + k * 4, none⟩ = some (.string d.name) ∧ w''.cell? ⟨ba, oa + k * 4 + 1, none⟩ = some (.string d.parent) ∧ w''.cell? ⟨ba, oa + k * 4 + 2, none⟩ = some (.slice df d.fields.length dcf) ∧ w''.cell? ⟨ba, oa + k * 4 + 3, none⟩ = some (.slice dm d.methods.length dcm) ∧ w''.cell? ⟨bb, ob + k * 4, none⟩ = some (.string e.name) ∧ w''.cell? ⟨bb, ob + k * 4 + 1, none⟩ = some (.string e.parent) ∧ w''.cell? ⟨bb, ob + k * 4 + 2, none⟩ = some (.slice ef e.fields.length ecf) ∧ w''.cell? ⟨bb, ob + k * 4 + 3, none⟩ = some (.slice em e.methods.length ecm) ∧ Ext wr w'')
        (exact KS.out _ (by repeat (first | exact Ext.drew (Ext.refl _) | exact Ext.refl _ | refine Ext.drew ?_ | refine Ext.alloc ?_ _ | refine Ext.setCell ?_ (by first | exact Nat.le_refl _ | (simp; done) | (simp; omega)) _)))
        (first | fail)
      all_goals
        go_wp2_with fail
        go_meet
        exact ⟨_, _, rfl, rfl, Ext.drew (((Ext.refl wr).alloc _).alloc _), ⟨by simp, by simp, by simp, by simp⟩, by simp, by simp, by simp, by simp⟩
    case rest =>
    obtain ⟨g, h, rfl, rfl, hx6, ⟨y0, y1, y2, y3⟩, z0, z1, z2, z3⟩ := hcut
    have x6 := hx.trans hx6
    clear a0 a1 a2 a3 b0 b1 b2 b3
    by_cases hn : d.name = e.name
    rotate_left
    · have t2 := str_nen hn
      have HN := Lib.hid hn; clear hn
      go_wp2_with fail
      go_ret
      exact ⟨ret_ff fun h => HN.out (by rw [HDE.out h]), EW.out.trans x6⟩
    have t2 := str_eqn hn
    have HN := Lib.hid hn; clear hn
    by_cases hp : d.parent = e.parent
    rotate_left
    · have t3 := str_nen hp
      have HP := Lib.hid hp; clear hp
      go_wp2_with fail
      go_ret
      exact ⟨ret_ff fun h => HP.out (by rw [HDE.out h]), EW.out.trans x6⟩
    have t3 := str_eqn hp
    have HP := Lib.hid hp; clear hp
    have CF0 : Hid (∀ W, Ext wc W → Calls Try.prog 12 #[.slice df d.fields.length dcf, .slice ef e.fields.length ecf] W fun e' w' => e' = .returned (.bool (eqB d.fields e.fields)) ∧ Ext W w') := Lib.hid fun W hW => l3Texts_any _ _ _ _ W (Rep.ext ((hw.trans hx6).trans hW) RDF.out) (Rep.ext ((hw.trans hx6).trans hW) REF.out)
    cases hf : eqB d.fields e.fields
    · have HF := Lib.hid hf; clear hf
      go_wp2_with fail
      refine (CF0.out _ (Ext.refl _)).mono ?_
      rw [HF.out]
      rintro e' w7 ⟨rfl, hx7⟩
      go_wp2_with fail
      go_ret
      exact ⟨ret_ff fun h => (by have := HF.out; rw [HDE.out h, eqB_tt rfl] at this; cases this), EW.out.trans (x6.trans hx7)⟩
    have HF := Lib.hid hf; clear hf
    have callF : True := trivial
    by_cases hml : d.methods.length = e.methods.length
    rotate_left
    · have t4 := int_nen (show ¬ (d.methods.length : Int) = (e.methods.length : Int) by omega)
      have HML := Lib.hid hml; clear hml
      go_wp2_with fail
      refine (CF0.out _ (Ext.refl _)).mono ?_
      rw [HF.out]
      rintro e' w7 ⟨rfl, hx7⟩
      replace y3 := Ext.cell hx7 y3
      replace z3 := Ext.cell hx7 z3
      go_wp2_with fail
      go_ret
      exact ⟨ret_ff fun h => HML.out (by rw [HDE.out h]), EW.out.trans (x6.trans hx7)⟩
    have t4 := int_eqn (show (d.methods.length : Int) = (e.methods.length : Int) by omega)
    have hmle : d.methods.length ≤ e.methods.length := by omega
    have HML := Lib.hid hml; clear hml
    go_wp2_with fail
    refine (CF0.out _ (Ext.refl _)).mono ?_
    rw [HF.out]
    rintro e' w7 ⟨rfl, hx7⟩
    replace y3 := Ext.cell hx7 y3
    replace z3 := Ext.cell hx7 z3
    have x7 := x6.trans hx7
    clear y0 y1 y2 z0 z1 z2
    have HFF : Hid (d.fields = e.fields) := Lib.hid (eqB_iff.1 HF.out)
    go_wp2_with fail
    go_loopw [8] (fun jv wq => ∃ j : Nat, j ≤ d.methods.length ∧ jv = .int .i64 j ∧ Ext w7 wq ∧ Hid (∀ i (h1 : i < d.methods.length) (h2 : i < e.methods.length), i < j → d.methods[i] = e.methods[i])) (fun jv _ => d.methods.length - (intOf jv).toNat)
    case atStart => exact ⟨0, Nat.zero_le _, rfl, Ext.refl _, Lib.hid fun i _ _ hi => by omega⟩
    case round =>
    obtain ⟨j, hj, rfl, hy2, hS⟩ := hrel
    have v3 := hy2.cell y3
    have w3 := hy2.cell z3
    have hw8 := EW.out.trans (x7.trans hy2)
    by_cases hjl : j < d.methods.length
    · have hjl2 : j < e.methods.length := by omega
      have j0 : (0 : Int) ≤ j := by omega
      have j1 : (j : Int) < (d.methods.length : Int) := by omega
      have j2 : (j : Int) < (e.methods.length : Int) := by omega
      obtain rfl := pm (by omega)
      obtain rfl := pn (by omega)
      obtain ⟨eu, lu, cu, ru⟩ := HMT.out j d.methods[j] (by simp [hjl])
      obtain ⟨ev, lv, cv, rv⟩ := HNT.out j e.methods[j] (by simp [hjl2])
      obtain ⟨f1, g1, f2, g2, f3, g3, rfl⟩ := MMethod.cells_of ru
      obtain ⟨p1, q1, p2, q2, p3, q3, rfl⟩ := MMethod.cells_of rv
      have u0 := hw8.cell (show w.cell? ⟨bm, om + j * 5, none⟩ = some _ from cu 0 (by omega))
      have s0 := hw8.cell (show w.cell? ⟨bn, on + j * 5, none⟩ = some _ from cv 0 (by omega))
      have u1 := hw8.cell (show w.cell? ⟨bm, om + j * 5 + 1, none⟩ = some _ from cu 1 (by omega))
      have s1 := hw8.cell (show w.cell? ⟨bn, on + j * 5 + 1, none⟩ = some _ from cv 1 (by omega))
      have u2 := hw8.cell (show w.cell? ⟨bm, om + j * 5 + 2, none⟩ = some _ from cu 2 (by omega))
      have s2 := hw8.cell (show w.cell? ⟨bn, on + j * 5 + 2, none⟩ = some _ from cv 2 (by omega))
      have u3 := hw8.cell (show w.cell? ⟨bm, om + j * 5 + 3, none⟩ = some _ from cu 3 (by omega))
      have s3 := hw8.cell (show w.cell? ⟨bn, on + j * 5 + 3, none⟩ = some _ from cv 3 (by omega))
      have u4 := hw8.cell (show w.cell? ⟨bm, om + j * 5 + 4, none⟩ = some _ from cu 4 (by omega))
      have s4 := hw8.cell (show w.cell? ⟨bn, on + j * 5 + 4, none⟩ = some _ from cv 4 (by omega))
      have CQ0 : Hid (∀ W, Ext w W → Calls Try.prog 11 #[.agg #[.string d.methods[j].selector, .bool d.methods[j].cls, .slice f1 d.methods[j].params.length g1, .slice f2 d.methods[j].temps.length g2, .slice f3 d.methods[j].body.length g3], .agg #[.string e.methods[j].selector, .bool e.methods[j].cls, .slice p1 e.methods[j].params.length q1, .slice p2 e.methods[j].temps.length q2, .slice p3 e.methods[j].body.length q3]] W fun e' w' => e' = .returned (.bool (eqB d.methods[j] e.methods[j])) ∧ Ext W w') := Lib.hid fun W h => spec_EqualMethods_any _ _ _ _ W (Rep.ext h ru) (Rep.ext h rv) (DN4.out _ (List.getElem_mem hjl)) (EN4.out _ (List.getElem_mem hjl2))
      have HQ : Hid (d = e → d.methods[j] = e.methods[j]) := Lib.hid fun h => by subst h; rfl
      have HS1 : Hid (∀ i (h1 : i < d.methods.length) (h2 : i < e.methods.length), i = j → d.methods[i] = d.methods[j] ∧ e.methods[i] = e.methods[j]) := Lib.hid fun i h1 h2 h => by subst h; exact ⟨rfl, rfl⟩
      clear cu cv lu lv ru rv
      generalize d.methods[j] = m1' at *
      generalize e.methods[j] = m2' at *
      cases hg : eqB m1' m2'
      all_goals
        have HG := Lib.hid hg; clear hg
        have CQ := CQ0.out
        rw [HG.out] at CQ
        replace CQ := Lib.hid CQ
        clear CQ0
        go_wp2_with fail
        have gv3 := reg (Ext.refl _) v3
        have gw3 := reg (Ext.refl _) w3
        have gu0 := reg (Ext.refl _) u0
        have gu1 := reg (Ext.refl _) u1
        have gu2 := reg (Ext.refl _) u2
        have gu3 := reg (Ext.refl _) u3
        have gu4 := reg (Ext.refl _) u4
        have gs0 := reg (Ext.refl _) s0
        have gs1 := reg (Ext.refl _) s1
        have gs2 := reg (Ext.refl _) s2
        have gs3 := reg (Ext.refl _) s3
        have gs4 := reg (Ext.refl _) s4
        refine wp_region_quiet_below (by kernel_rfl) (by kernel_rfl) ?_
        repeat (go_big_quiet_step ((go_at_call 11; exact Calls.regrown_of (CQ.out _ (hw8.trans (below_regrown _ _ _))))))
        refine wpQuiet_nil ?_
        clear gv3 gw3 gu0 gu1 gu2 gu3 gu4 gs0 gs1 gs2 gs3 gs4
        intro _ hw'
        obtain ⟨pw, hw''⟩ := hw'
        subst hw''
        have hx9 := regx wr pw
        generalize hW2 : «Sort».grow (redrawn wr pw.d) pw.os = w9 at *
        clear hW2
        go_wp2_with fail
      · go_ret
        exact ⟨ret_ff fun h => (by have := HG.out; rw [HQ.out (HDE.out h), eqB_tt rfl] at this; cases this), hw8.trans hx9⟩
      · go_roundw
        case rel => exact ⟨j + 1, by omega, by go_num, hy2.trans hx9, Lib.hid fun i h1 h2 hi => by
          by_cases h : i < j
          · exact hS.out i h1 h2 h
          · obtain ⟨p1, p2⟩ := HS1.out i h1 h2 (by omega)
            rw [p1, p2]; exact eqB_iff.1 HG.out⟩
        case measure => simp [intOf]; omega
    · have HMM : Hid (d.methods = e.methods) := Lib.hid (list_ext2 HML.out fun i h1 h2 => hS.out i h1 h2 (by omega))
      go_wp2_with fail
      go_roundw
      case rel => exact ⟨k + 1, by omega, by go_num, x7.trans hy2, Lib.hid fun i h1 h2 hi => by
        by_cases h : i < k
        · exact hR.out i h1 h2 h
        · obtain rfl : i = k := by omega
          rw [HD.out, HE.out]
          exact class_ext HN.out HP.out HFF.out HMM.out⟩
      case measure => simp [intOf]; omega

set_option maxHeartbeats 4000000 in
set_option maxRecDepth 100000 in
theorem impl_EqualUnits_any (x y : MUnit) (cx cy : List Value) (w : World) (rx : Rep w x.d cx) (ry : Rep w y.d cy) (hx : x.d.bulk ≤ 1048576) (hy : y.d.bulk ≤ 1048576) :
    Calls Try.prog 7 #[.agg cx.toArray, .agg cy.toArray] w fun e w' => e = .returned (.bool (eqB x y)) ∧ Ext w w' := by
  obtain ⟨xm, xl, xc⟩ := unit_bulks2 hx
  obtain ⟨ym, yl, yc⟩ := unit_bulks2 hy
  have XC := Lib.hid xc; have YC := Lib.hid yc
  clear xc yc hx hy
  obtain ⟨xu, xv, x1, xk1, x2, xk2, x3, xk3, rfl, rcx, -, -, -, rmx⟩ := MUnit.op_en rx
  obtain ⟨yu, yv, y1, yk1, y2, yk2, y3, yk3, rfl, rcy, -, -, -, rmy⟩ := MUnit.op_en ry
  have RX : Hid (∀ W, Ext w W → Rep W x.main.d _) := Lib.hid fun W h => Rep.ext h rmx
  have RY : Hid (∀ W, Ext w W → Rep W y.main.d _) := Lib.hid fun W h => Rep.ext h rmy
  clear rx ry rmx rmy
  obtain ⟨ao, ca, ba, oa, e1, hla, hma, pa, ha⟩ := Rep.slmap rcx
  obtain ⟨bo, cb, bb, ob, e2, hlb, hmb, pb, hb⟩ := Rep.slmap rcy
  simp only [List.cons.injEq, and_true, Value.slice.injEq] at e1 e2
  obtain ⟨rfl, -, rfl⟩ := e1
  obtain ⟨rfl, -, rfl⟩ := e2
  unfold maxLen at hma hmb
  clear rcx rcy
  obtain ⟨W1, hW1⟩ : ∃ W1, W1 = (w.alloc (.cells #[.slice xu x.classes.length xv, .string x.main.selector, .bool x.main.cls, .slice x1 x.main.params.length xk1, .slice x2 x.main.temps.length xk2, .slice x3 x.main.body.length xk3] 36)).alloc (.cells #[.slice yu y.classes.length yv, .string y.main.selector, .bool y.main.cls, .slice y1 y.main.params.length yk1, .slice y2 y.main.temps.length yk2, .slice y3 y.main.body.length yk3] 36) := ⟨_, rfl⟩
  have EW : Hid (Ext w W1) := Lib.hid (by rw [hW1]; exact ((Ext.refl w).alloc _).alloc _)
  have BX : Hid (∀ W, Ext W1 W → W.cell? ⟨w.heap.size, 0, none⟩ = some (.slice xu x.classes.length xv) ∧ W.cell? ⟨w.heap.size + 1, 0, none⟩ = some (.slice yu y.classes.length yv)) := Lib.hid fun W h => by subst hW1; exact ⟨Ext.cell h (by simp), Ext.cell h (by simp)⟩
  have CM0 : Hid (∀ W, Ext w W → Calls Try.prog 15 #[.agg #[.string x.main.selector, .bool x.main.cls, .slice x1 x.main.params.length xk1, .slice x2 x.main.temps.length xk2, .slice x3 x.main.body.length xk3], .agg #[.string y.main.selector, .bool y.main.cls, .slice y1 y.main.params.length yk1, .slice y2 y.main.temps.length yk2, .slice y3 y.main.body.length yk3]] W fun e w' => e = .returned (.bool (eqB x.main y.main)) ∧ Ext W w') := Lib.hid fun W h => impl_EqualMethods_any _ _ _ _ W (RX.out W h) (RY.out W h) xm ym
  clear RX RY xm ym
  have HW := Lib.hid hW1; clear hW1
  cases hm : eqB x.main y.main
  · have HM := Lib.hid hm; clear hm
    have CM := CM0.out
    rw [HM.out] at CM
    replace CM := Lib.hid CM
    clear CM0
    go_enter Try.func7, Try.ntmps7
    go_wp2_with fail
    rw [← HW.out]
    refine (CM.out _ EW.out).mono ?_
    rintro e w1 ⟨rfl, hx1⟩
    obtain ⟨m0, m1⟩ := BX.out _ hx1
    go_wp2_with fail
    go_ret
    exact ⟨ret_ff fun h => (by have := HM.out; rw [h, eqB_tt rfl] at this; cases this), EW.out.trans hx1⟩
  have HM := Lib.hid hm; clear hm
  by_cases hl : x.classes.length = y.classes.length
  rotate_left
  · have t1 := int_nen (show ¬ (x.classes.length : Int) = (y.classes.length : Int) by omega)
    have HL := Lib.hid hl; clear hl
    have CM := CM0.out
    rw [HM.out] at CM
    replace CM := Lib.hid CM
    clear CM0
    go_enter Try.func7, Try.ntmps7
    go_wp2_with fail
    rw [← HW.out]
    refine (CM.out _ EW.out).mono ?_
    rintro e w1 ⟨rfl, hx1⟩
    obtain ⟨m0, m1⟩ := BX.out _ hx1
    go_wp2_with fail
    go_ret
    exact ⟨ret_ff fun h => HL.out (by rw [h]), EW.out.trans hx1⟩
  have t1 := int_eqn (show (x.classes.length : Int) = (y.classes.length : Int) by omega)
  have hlei : x.classes.length ≤ y.classes.length := by omega
  have HL := Lib.hid hl; clear hl
  have CM := CM0.out
  rw [HM.out] at CM
  replace CM := Lib.hid CM
  clear CM0
  go_enter Try.func7, Try.ntmps7
  go_wp2_with fail
  rw [← HW.out]
  refine (CM.out _ EW.out).mono ?_
  rintro e w1 ⟨rfl, hx1⟩
  obtain ⟨m0, m1⟩ := BX.out _ hx1
  go_wp2_with fail
  go_loopw [28] (fun iv wr => ∃ k : Nat, k ≤ x.classes.length ∧ iv = .int .i64 k ∧ Ext W1 wr ∧ Hid (∀ j (h1 : j < x.classes.length) (h2 : j < y.classes.length), j < k → x.classes[j] = y.classes[j])) (fun iv _ => x.classes.length - (intOf iv).toNat)
  case atStart => exact ⟨0, Nat.zero_le _, rfl, hx1, Lib.hid fun j _ _ hj => by omega⟩
  case round =>
    clear m0 m1 hx1 t1
    obtain ⟨k, hk, rfl, hx, hR⟩ := hrel
    obtain ⟨m0, m1⟩ := BX.out _ hx
    by_cases hlt : k < x.classes.length
    rotate_left
    · go_wp2_with fail
      go_ret
      exact ⟨ret_tt (unit_ext (list_ext2 HL.out fun j h1 h2 => hR.out j h1 h2 (by omega)) (eqB_iff.1 HM.out)), EW.out.trans hx⟩
    have hlt2 : k < y.classes.length := by omega
    have h30 : (0 : Int) ≤ k := by omega
    have h31 : (k : Int) < (x.classes.length : Int) := by omega
    have h32 : (k : Int) < (y.classes.length : Int) := by omega
    obtain rfl := pa (by omega)
    obtain rfl := pb (by omega)
    obtain ⟨ea, la, c1, ra⟩ := ha k x.classes[k] (by simp [hlt])
    obtain ⟨eb, lb, c2, rb⟩ := hb k y.classes[k] (by simp [hlt2])
    obtain ⟨df, dcf, dm, dcm, rfl, rdf, rdm⟩ := MClassDef.op_en ra
    obtain ⟨ef, ecf, em, ecm, rfl, ref, rem⟩ := MClassDef.op_en rb
    have hw := EW.out.trans hx
    have a0 := hw.cell (show w.cell? ⟨ba, oa + k * 4, none⟩ = some _ from c1 0 (by omega))
    have a1 := hw.cell (show w.cell? ⟨ba, oa + k * 4 + 1, none⟩ = some _ from c1 1 (by omega))
    have a2 := hw.cell (show w.cell? ⟨ba, oa + k * 4 + 2, none⟩ = some _ from c1 2 (by omega))
    have a3 := hw.cell (show w.cell? ⟨ba, oa + k * 4 + 3, none⟩ = some _ from c1 3 (by omega))
    have b0 := hw.cell (show w.cell? ⟨bb, ob + k * 4, none⟩ = some _ from c2 0 (by omega))
    have b1 := hw.cell (show w.cell? ⟨bb, ob + k * 4 + 1, none⟩ = some _ from c2 1 (by omega))
    have b2 := hw.cell (show w.cell? ⟨bb, ob + k * 4 + 2, none⟩ = some _ from c2 2 (by omega))
    have b3 := hw.cell (show w.cell? ⟨bb, ob + k * 4 + 3, none⟩ = some _ from c2 3 (by omega))
    have zu : w.heap.size < wr.heap.size := lt_of_cell m0
    have zv : w.heap.size + 1 < wr.heap.size := lt_of_cell m1
    have zba : ba < wr.heap.size := lt_of_cell a0
    have zbb : bb < wr.heap.size := lt_of_cell b0
    obtain ⟨⟨dn1, dn2⟩, dn3, dn4⟩ := class_bulks2 (XC.out _ (List.getElem_mem hlt))
    obtain ⟨⟨en1, en2⟩, en3, en4⟩ := class_bulks2 (YC.out _ (List.getElem_mem hlt2))
    have DN4 := Lib.hid dn4; have EN4 := Lib.hid en4
    have HDE : Hid (x = y → x.classes[k] = y.classes[k]) := Lib.hid fun h => by subst h; rfl
    clear c1 c2 la lb ha hb pa pb ra rb dn4 en4
    generalize hD : x.classes[k] = d at *
    generalize hE : y.classes[k] = e at *
    have HD := Lib.hid hD; have HE := Lib.hid hE; clear hD hE
    have RDF := Lib.hid rdf; have REF := Lib.hid ref
    obtain ⟨dmo, dmc, bm, om, q1, hlm, hmm, pm, hmth⟩ := Rep.slmap rdm
    obtain ⟨emo, emc, bn, on, q2, hln, hmn, pn, hnth⟩ := Rep.slmap rem
    simp only [List.cons.injEq, and_true, Value.slice.injEq] at q1 q2
    obtain ⟨rfl, -, rfl⟩ := q1
    obtain ⟨rfl, -, rfl⟩ := q2
    unfold maxLen at hmm hmn
    have HMT := Lib.hid hmth; have HNT := Lib.hid hnth
    clear rdf ref rdm rem hmth hnth
    go_wp2_with fail
    generalize hWC : World.alloc (World.alloc wr _) _ = WC
    have hx6 : Ext wr WC := by rw [← hWC]; exact ((Ext.refl wr).alloc _).alloc _
    have x6 := hx.trans hx6
    have y0 : WC.cell? ⟨wr.heap.size, 0, none⟩ = some (.string d.name) := by rw [← hWC]; simp
    have y1 : WC.cell? ⟨wr.heap.size, 1, none⟩ = some (.string d.parent) := by rw [← hWC]; simp
    have y2 : WC.cell? ⟨wr.heap.size, 2, none⟩ = some (.slice df d.fields.length dcf) := by rw [← hWC]; simp
    have y3 : WC.cell? ⟨wr.heap.size, 3, none⟩ = some (.slice dm d.methods.length dcm) := by rw [← hWC]; simp
    have z0 : WC.cell? ⟨wr.heap.size + 1, 0, none⟩ = some (.string e.name) := by rw [← hWC]; simp
    have z1 : WC.cell? ⟨wr.heap.size + 1, 1, none⟩ = some (.string e.parent) := by rw [← hWC]; simp
    have z2 : WC.cell? ⟨wr.heap.size + 1, 2, none⟩ = some (.slice ef e.fields.length ecf) := by rw [← hWC]; simp
    have z3 : WC.cell? ⟨wr.heap.size + 1, 3, none⟩ = some (.slice em e.methods.length ecm) := by rw [← hWC]; simp
    clear hWC a0 a1 a2 a3 b0 b1 b2 b3
    have JD : Hid (∀ W, Ext WC W → Calls Try.prog 16 #[.slice df d.fields.length dcf, .string ⟨#[32]⟩] W fun e' w' => e' = .returned (.string (joinB d.fields ⟨#[32]⟩)) ∧ Ext W w') := Lib.hid fun W hW => impl_Join_any _ _ _ W (Rep.ext ((hw.trans hx6).trans hW) RDF.out) (by decide) dn1 (bulk_strs dn3).2.1
    have JE : Hid (∀ W, Ext WC W → Calls Try.prog 16 #[.slice ef e.fields.length ecf, .string ⟨#[32]⟩] W fun e' w' => e' = .returned (.string (joinB e.fields ⟨#[32]⟩)) ∧ Ext W w') := Lib.hid fun W hW => impl_Join_any _ _ _ W (Rep.ext ((hw.trans hx6).trans hW) REF.out) (by decide) en1 (bulk_strs en3).2.1
    by_cases hn : d.name = e.name
    rotate_left
    · have t2 := str_nen hn
      have HN := Lib.hid hn; clear hn
      have gy0 := reg (Ext.refl _) y0
      have gy1 := reg (Ext.refl _) y1
      have gy2 := reg (Ext.refl _) y2
      have gy3 := reg (Ext.refl _) y3
      have gz0 := reg (Ext.refl _) z0
      have gz1 := reg (Ext.refl _) z1
      have gz2 := reg (Ext.refl _) z2
      have gz3 := reg (Ext.refl _) z3
      refine wp_region_quiet_below (by kernel_rfl) (by kernel_rfl) ?_
      repeat (go_big_quiet_step ((first | (go_at_call_of 16 dcf; exact Calls.regrown_of (JD.out _ (below_regrown _ _ _))) | (go_at_call_of 16 ecf; exact Calls.regrown_of (JE.out _ (below_regrown _ _ _))))))
      refine wpQuiet_nil ?_
      clear gy0 gy1 gy2 gy3 gz0 gz1 gz2 gz3
      intro _ hw'
      obtain ⟨pw, hw''⟩ := hw'
      subst hw''
      have hx7 := regx WC pw
      generalize hW2 : «Sort».grow (redrawn WC pw.d) pw.os = w7 at *
      clear hW2
      go_wp2_with fail
      go_ret
      exact ⟨ret_ff fun h => HN.out (by rw [HDE.out h]), EW.out.trans (x6.trans hx7)⟩
    have t2 := str_eqn hn
    have HN := Lib.hid hn; clear hn
    by_cases hp : d.parent = e.parent
    rotate_left
    · have t3 := str_nen hp
      have HP := Lib.hid hp; clear hp
      have gy0 := reg (Ext.refl _) y0
      have gy1 := reg (Ext.refl _) y1
      have gy2 := reg (Ext.refl _) y2
      have gy3 := reg (Ext.refl _) y3
      have gz0 := reg (Ext.refl _) z0
      have gz1 := reg (Ext.refl _) z1
      have gz2 := reg (Ext.refl _) z2
      have gz3 := reg (Ext.refl _) z3
      refine wp_region_quiet_below (by kernel_rfl) (by kernel_rfl) ?_
      repeat (go_big_quiet_step ((first | (go_at_call_of 16 dcf; exact Calls.regrown_of (JD.out _ (below_regrown _ _ _))) | (go_at_call_of 16 ecf; exact Calls.regrown_of (JE.out _ (below_regrown _ _ _))))))
      refine wpQuiet_nil ?_
      clear gy0 gy1 gy2 gy3 gz0 gz1 gz2 gz3
      intro _ hw'
      obtain ⟨pw, hw''⟩ := hw'
      subst hw''
      have hx7 := regx WC pw
      generalize hW2 : «Sort».grow (redrawn WC pw.d) pw.os = w7 at *
      clear hW2
      go_wp2_with fail
      go_ret
      exact ⟨ret_ff fun h => HP.out (by rw [HDE.out h]), EW.out.trans (x6.trans hx7)⟩
    have t3 := str_eqn hp
    have HP := Lib.hid hp; clear hp
    have HJ0 : Hid (d = e → joinB d.fields ⟨#[32]⟩ = joinB e.fields ⟨#[32]⟩) := Lib.hid fun h => by rw [h]
    generalize joinB d.fields ⟨#[32]⟩ = J1 at *
    generalize joinB e.fields ⟨#[32]⟩ = J2 at *
    by_cases hj : J1 = J2
    rotate_left
    · have t4 := str_nen hj
      have HJ := Lib.hid hj; clear hj
      have gy0 := reg (Ext.refl _) y0
      have gy1 := reg (Ext.refl _) y1
      have gy2 := reg (Ext.refl _) y2
      have gy3 := reg (Ext.refl _) y3
      have gz0 := reg (Ext.refl _) z0
      have gz1 := reg (Ext.refl _) z1
      have gz2 := reg (Ext.refl _) z2
      have gz3 := reg (Ext.refl _) z3
      refine wp_region_quiet_below (by kernel_rfl) (by kernel_rfl) ?_
      repeat (go_big_quiet_step ((first | (go_at_call_of 16 dcf; exact Calls.regrown_of (JD.out _ (below_regrown _ _ _))) | (go_at_call_of 16 ecf; exact Calls.regrown_of (JE.out _ (below_regrown _ _ _))))))
      refine wpQuiet_nil ?_
      clear gy0 gy1 gy2 gy3 gz0 gz1 gz2 gz3
      intro _ hw'
      obtain ⟨pw, hw''⟩ := hw'
      subst hw''
      have hx7 := regx WC pw
      generalize hW2 : «Sort».grow (redrawn WC pw.d) pw.os = w7 at *
      clear hW2
      go_wp2_with fail
      go_ret
      exact ⟨ret_ff fun h => HJ.out (HJ0.out (HDE.out h)), EW.out.trans (x6.trans hx7)⟩
    have t4 := str_eqn hj
    clear hj
    by_cases hfl : d.fields.length = e.fields.length
    rotate_left
    · have t5 := int_nen (show ¬ (d.fields.length : Int) = (e.fields.length : Int) by omega)
      have HFL := Lib.hid hfl; clear hfl
      have gy0 := reg (Ext.refl _) y0
      have gy1 := reg (Ext.refl _) y1
      have gy2 := reg (Ext.refl _) y2
      have gy3 := reg (Ext.refl _) y3
      have gz0 := reg (Ext.refl _) z0
      have gz1 := reg (Ext.refl _) z1
      have gz2 := reg (Ext.refl _) z2
      have gz3 := reg (Ext.refl _) z3
      refine wp_region_quiet_below (by kernel_rfl) (by kernel_rfl) ?_
      repeat (go_big_quiet_step ((first | (go_at_call_of 16 dcf; exact Calls.regrown_of (JD.out _ (below_regrown _ _ _))) | (go_at_call_of 16 ecf; exact Calls.regrown_of (JE.out _ (below_regrown _ _ _))))))
      refine wpQuiet_nil ?_
      clear gy0 gy1 gy2 gy3 gz0 gz1 gz2 gz3
      intro _ hw'
      obtain ⟨pw, hw''⟩ := hw'
      subst hw''
      have hx7 := regx WC pw
      generalize hW2 : «Sort».grow (redrawn WC pw.d) pw.os = w7 at *
      clear hW2
      go_wp2_with fail
      go_ret
      exact ⟨ret_ff fun h => HFL.out (by rw [HDE.out h]), EW.out.trans (x6.trans hx7)⟩
    have t5 := int_eqn (show (d.fields.length : Int) = (e.fields.length : Int) by omega)
    have hfle : d.fields.length ≤ e.fields.length := by omega
    have HFL := Lib.hid hfl; clear hfl
    by_cases hml : d.methods.length = e.methods.length
    rotate_left
    · have t6 := int_nen (show ¬ (d.methods.length : Int) = (e.methods.length : Int) by omega)
      have HML := Lib.hid hml; clear hml
      have gy0 := reg (Ext.refl _) y0
      have gy1 := reg (Ext.refl _) y1
      have gy2 := reg (Ext.refl _) y2
      have gy3 := reg (Ext.refl _) y3
      have gz0 := reg (Ext.refl _) z0
      have gz1 := reg (Ext.refl _) z1
      have gz2 := reg (Ext.refl _) z2
      have gz3 := reg (Ext.refl _) z3
      refine wp_region_quiet_below (by kernel_rfl) (by kernel_rfl) ?_
      repeat (go_big_quiet_step ((first | (go_at_call_of 16 dcf; exact Calls.regrown_of (JD.out _ (below_regrown _ _ _))) | (go_at_call_of 16 ecf; exact Calls.regrown_of (JE.out _ (below_regrown _ _ _))))))
      refine wpQuiet_nil ?_
      clear gy0 gy1 gy2 gy3 gz0 gz1 gz2 gz3
      intro _ hw'
      obtain ⟨pw, hw''⟩ := hw'
      subst hw''
      have hx7 := regx WC pw
      generalize hW2 : «Sort».grow (redrawn WC pw.d) pw.os = w7 at *
      clear hW2
      go_wp2_with fail
      go_ret
      exact ⟨ret_ff fun h => HML.out (by rw [HDE.out h]), EW.out.trans (x6.trans hx7)⟩
    have t6 := int_eqn (show (d.methods.length : Int) = (e.methods.length : Int) by omega)
    have hmle : d.methods.length ≤ e.methods.length := by omega
    have HML := Lib.hid hml; clear hml
    refine (fun hgo => hgo) ?_
    have gnone : True := trivial
    have gy0 := reg (Ext.refl _) y0
    have gy1 := reg (Ext.refl _) y1
    have gy2 := reg (Ext.refl _) y2
    have gy3 := reg (Ext.refl _) y3
    have gz0 := reg (Ext.refl _) z0
    have gz1 := reg (Ext.refl _) z1
    have gz2 := reg (Ext.refl _) z2
    have gz3 := reg (Ext.refl _) z3
    refine wp_region_quiet_below (by kernel_rfl) (by kernel_rfl) ?_
    repeat (go_big_quiet_step ((first | (go_at_call_of 16 dcf; exact Calls.regrown_of (JD.out _ (below_regrown _ _ _))) | (go_at_call_of 16 ecf; exact Calls.regrown_of (JE.out _ (below_regrown _ _ _))))))
    refine wpQuiet_nil ?_
    clear gy0 gy1 gy2 gy3 gz0 gz1 gz2 gz3
    intro _ hw'
    obtain ⟨pw, hw''⟩ := hw'
    subst hw''
    have hx7 := regx WC pw
    generalize hW2 : «Sort».grow (redrawn WC pw.d) pw.os = w7 at *
    clear hW2
    skip
    have YZ : Hid (∀ W, Ext w7 W → (W.cell? ⟨wr.heap.size, 0, none⟩ = some (.string d.name) ∧ W.cell? ⟨wr.heap.size, 1, none⟩ = some (.string d.parent) ∧ W.cell? ⟨wr.heap.size, 2, none⟩ = some (.slice df d.fields.length dcf) ∧ W.cell? ⟨wr.heap.size, 3, none⟩ = some (.slice dm d.methods.length dcm)) ∧ (W.cell? ⟨wr.heap.size + 1, 0, none⟩ = some (.string e.name) ∧ W.cell? ⟨wr.heap.size + 1, 1, none⟩ = some (.string e.parent) ∧ W.cell? ⟨wr.heap.size + 1, 2, none⟩ = some (.slice ef e.fields.length ecf) ∧ W.cell? ⟨wr.heap.size + 1, 3, none⟩ = some (.slice em e.methods.length ecm))) := Lib.hid fun W h => ⟨⟨Ext.cell (hx7.trans h) y0, Ext.cell (hx7.trans h) y1, Ext.cell (hx7.trans h) y2, Ext.cell (hx7.trans h) y3⟩, Ext.cell (hx7.trans h) z0, Ext.cell (hx7.trans h) z1, Ext.cell (hx7.trans h) z2, Ext.cell (hx7.trans h) z3⟩
    have x7 := x6.trans hx7
    have hw7 := EW.out.trans x7
    clear y0 y1 y2 y3 z0 z1 z2 z3 t2 t3 t4 t5 t6 JD JE
    obtain ⟨⟨y0, y1, y2, y3⟩, z0, z1, z2, z3⟩ := YZ.out _ (Ext.refl _)
    obtain ⟨dfo, dfc, bf, of, q1, hlf, hmf, pf, hdf⟩ := Rep.strs RDF.out
    obtain ⟨efo, efc, bg, og, q2, hlg, hmg, pg, hef⟩ := Rep.strs REF.out
    simp only [List.cons.injEq, and_true, Value.slice.injEq] at q1 q2
    obtain ⟨rfl, -, rfl⟩ := q1
    obtain ⟨rfl, -, rfl⟩ := q2
    unfold maxLen at hmf hmg
    have HDF := Lib.hid hdf; have HEF := Lib.hid hef
    clear hdf hef
    go_wp2_with fail
    go_loopw [80, 8] (fun jv _ wq => ∃ j : Nat, j ≤ d.fields.length ∧ jv = .int .i64 j ∧ Ext w7 wq ∧ Hid (∀ i (h1 : i < d.fields.length) (h2 : i < e.fields.length), i < j → d.fields[i] = e.fields[i])) (fun jv _ _ => d.fields.length - (intOf jv).toNat)
    case atStart => exact ⟨0, Nat.zero_le _, rfl, Ext.refl _, Lib.hid fun i _ _ hi => by omega⟩
    case round =>
    clear y0 y1 y2 y3 z0 z1 z2 z3
    obtain ⟨j, hj, rfl, hy, hS⟩ := hrel
    obtain ⟨⟨y0, y1, y2, y3⟩, z0, z1, z2, z3⟩ := YZ.out _ hy
    by_cases hjl : j < d.fields.length
    · have hjl2 : j < e.fields.length := by omega
      have j0 : (0 : Int) ≤ j := by omega
      have j1 : (j : Int) < (d.fields.length : Int) := by omega
      have j2 : (j : Int) < (e.fields.length : Int) := by omega
      obtain rfl := pf (by omega)
      obtain rfl := pg (by omega)
      have u0 := (hw7.trans hy).cell (HDF.out j d.fields[j] (by simp [hjl]))
      have u1 := (hw7.trans hy).cell (HEF.out j e.fields[j] (by simp [hjl2]))
      have HQ : Hid (d = e → d.fields[j] = e.fields[j]) := Lib.hid fun h => by subst h; rfl
      have HS1 : Hid (∀ i (h1 : i < d.fields.length) (h2 : i < e.fields.length), i = j → d.fields[i] = d.fields[j] ∧ e.fields[i] = e.fields[j]) := Lib.hid fun i h1 h2 h => by subst h; exact ⟨rfl, rfl⟩
      generalize d.fields[j] = s1 at *
      generalize e.fields[j] = s2 at *
      go_wp2_with fail
      by_cases hs : s1 = s2
      · have t7 := str_eqn hs
        have HS := Lib.hid hs; clear hs
        have gy2 := reg (Ext.refl _) y2
        have gz2 := reg (Ext.refl _) z2
        have gu0 := reg (Ext.refl _) u0
        have gu1 := reg (Ext.refl _) u1
        refine wp_region_quiet_below (by kernel_rfl) (by kernel_rfl) ?_
        repeat (go_big_quiet_step (fail))
        refine wpQuiet_nil ?_
        clear gy2 gz2 gu0 gu1
        intro _ hw'
        obtain ⟨pw, hw''⟩ := hw'
        subst hw''
        have hx8 := regx wr pw
        generalize hW2 : «Sort».grow (redrawn wr pw.d) pw.os = w8 at *
        clear hW2
        go_wp2_with fail
        go_roundw
        case rel => exact ⟨j + 1, by omega, by go_num, hy.trans hx8, Lib.hid fun i h1 h2 hi => by
          by_cases h : i < j
          · exact hS.out i h1 h2 h
          · obtain ⟨p1, p2⟩ := HS1.out i h1 h2 (by omega)
            rw [p1, p2]; exact HS.out⟩
        case measure => simp [intOf]; omega
      · have t7 := str_nen hs
        have HS := Lib.hid hs; clear hs
        have gy2 := reg (Ext.refl _) y2
        have gz2 := reg (Ext.refl _) z2
        have gu0 := reg (Ext.refl _) u0
        have gu1 := reg (Ext.refl _) u1
        refine wp_region_quiet_below (by kernel_rfl) (by kernel_rfl) ?_
        repeat (go_big_quiet_step (fail))
        refine wpQuiet_nil ?_
        clear gy2 gz2 gu0 gu1
        intro _ hw'
        obtain ⟨pw, hw''⟩ := hw'
        subst hw''
        have hx8 := regx wr pw
        generalize hW2 : «Sort».grow (redrawn wr pw.d) pw.os = w8 at *
        clear hW2
        go_wp2_with fail
        go_ret
        exact ⟨ret_ff fun h => HS.out (HQ.out (HDE.out h)), hw7.trans (hy.trans hx8)⟩
    have HFF : Hid (d.fields = e.fields) := Lib.hid (list_ext2 HFL.out fun i h1 h2 => hS.out i h1 h2 (by omega))
    have x8 := x7.trans hy
    clear hS pf pg
    go_wp2_with fail
    go_loopw [98, 9] (fun jv _ wq => ∃ j : Nat, j ≤ d.methods.length ∧ jv = .int .i64 j ∧ Ext wr wq ∧ Hid (∀ i (h1 : i < d.methods.length) (h2 : i < e.methods.length), i < j → d.methods[i] = e.methods[i])) (fun jv _ _ => d.methods.length - (intOf jv).toNat)
    case atStart => exact ⟨0, Nat.zero_le _, rfl, Ext.refl _, Lib.hid fun i _ _ hi => by omega⟩
    case round =>
    obtain ⟨j, hj, rfl, hy2, hS⟩ := hrel
    have v3 := hy2.cell y3
    have w3 := hy2.cell z3
    have hw8 := EW.out.trans (x8.trans hy2)
    by_cases hjl : j < d.methods.length
    · have hjl2 : j < e.methods.length := by omega
      have j0 : (0 : Int) ≤ j := by omega
      have j1 : (j : Int) < (d.methods.length : Int) := by omega
      have j2 : (j : Int) < (e.methods.length : Int) := by omega
      obtain rfl := pm (by omega)
      obtain rfl := pn (by omega)
      obtain ⟨eu, lu, cu, ru⟩ := HMT.out j d.methods[j] (by simp [hjl])
      obtain ⟨ev, lv, cv, rv⟩ := HNT.out j e.methods[j] (by simp [hjl2])
      obtain ⟨f1, g1, f2, g2, f3, g3, rfl⟩ := MMethod.cells_of ru
      obtain ⟨p1, q1, p2, q2, p3, q3, rfl⟩ := MMethod.cells_of rv
      have u0 := hw8.cell (show w.cell? ⟨bm, om + j * 5, none⟩ = some _ from cu 0 (by omega))
      have s0 := hw8.cell (show w.cell? ⟨bn, on + j * 5, none⟩ = some _ from cv 0 (by omega))
      have u1 := hw8.cell (show w.cell? ⟨bm, om + j * 5 + 1, none⟩ = some _ from cu 1 (by omega))
      have s1 := hw8.cell (show w.cell? ⟨bn, on + j * 5 + 1, none⟩ = some _ from cv 1 (by omega))
      have u2 := hw8.cell (show w.cell? ⟨bm, om + j * 5 + 2, none⟩ = some _ from cu 2 (by omega))
      have s2 := hw8.cell (show w.cell? ⟨bn, on + j * 5 + 2, none⟩ = some _ from cv 2 (by omega))
      have u3 := hw8.cell (show w.cell? ⟨bm, om + j * 5 + 3, none⟩ = some _ from cu 3 (by omega))
      have s3 := hw8.cell (show w.cell? ⟨bn, on + j * 5 + 3, none⟩ = some _ from cv 3 (by omega))
      have u4 := hw8.cell (show w.cell? ⟨bm, om + j * 5 + 4, none⟩ = some _ from cu 4 (by omega))
      have s4 := hw8.cell (show w.cell? ⟨bn, on + j * 5 + 4, none⟩ = some _ from cv 4 (by omega))
      have CQ0 : Hid (∀ W, Ext w W → Calls Try.prog 15 #[.agg #[.string d.methods[j].selector, .bool d.methods[j].cls, .slice f1 d.methods[j].params.length g1, .slice f2 d.methods[j].temps.length g2, .slice f3 d.methods[j].body.length g3], .agg #[.string e.methods[j].selector, .bool e.methods[j].cls, .slice p1 e.methods[j].params.length q1, .slice p2 e.methods[j].temps.length q2, .slice p3 e.methods[j].body.length q3]] W fun e' w' => e' = .returned (.bool (eqB d.methods[j] e.methods[j])) ∧ Ext W w') := Lib.hid fun W h => impl_EqualMethods_any _ _ _ _ W (Rep.ext h ru) (Rep.ext h rv) (DN4.out _ (List.getElem_mem hjl)) (EN4.out _ (List.getElem_mem hjl2))
      have HQ : Hid (d = e → d.methods[j] = e.methods[j]) := Lib.hid fun h => by subst h; rfl
      have HS1 : Hid (∀ i (h1 : i < d.methods.length) (h2 : i < e.methods.length), i = j → d.methods[i] = d.methods[j] ∧ e.methods[i] = e.methods[j]) := Lib.hid fun i h1 h2 h => by subst h; exact ⟨rfl, rfl⟩
      clear cu cv lu lv ru rv
      generalize d.methods[j] = m1' at *
      generalize e.methods[j] = m2' at *
      cases hg : eqB m1' m2'
      all_goals
        have HG := Lib.hid hg; clear hg
        have CQ := CQ0.out
        rw [HG.out] at CQ
        replace CQ := Lib.hid CQ
        clear CQ0
        go_wp2_with fail
        have gv3 := reg (Ext.refl _) v3
        have gw3 := reg (Ext.refl _) w3
        have gu0 := reg (Ext.refl _) u0
        have gu1 := reg (Ext.refl _) u1
        have gu2 := reg (Ext.refl _) u2
        have gu3 := reg (Ext.refl _) u3
        have gu4 := reg (Ext.refl _) u4
        have gs0 := reg (Ext.refl _) s0
        have gs1 := reg (Ext.refl _) s1
        have gs2 := reg (Ext.refl _) s2
        have gs3 := reg (Ext.refl _) s3
        have gs4 := reg (Ext.refl _) s4
        refine wp_region_quiet_below (by kernel_rfl) (by kernel_rfl) ?_
        repeat (go_big_quiet_step ((go_at_call 15; exact Calls.regrown_of (CQ.out _ (hw8.trans (below_regrown _ _ _))))))
        refine wpQuiet_nil ?_
        clear gv3 gw3 gu0 gu1 gu2 gu3 gu4 gs0 gs1 gs2 gs3 gs4
        intro _ hw'
        obtain ⟨pw, hw''⟩ := hw'
        subst hw''
        have hx9 := regx wr pw
        generalize hW2 : «Sort».grow (redrawn wr pw.d) pw.os = w9 at *
        clear hW2
        go_wp2_with fail
      · go_ret
        exact ⟨ret_ff fun h => (by have := HG.out; rw [HQ.out (HDE.out h), eqB_tt rfl] at this; cases this), hw8.trans hx9⟩
      · go_roundw
        case rel => exact ⟨j + 1, by omega, by go_num, hy2.trans hx9, Lib.hid fun i h1 h2 hi => by
          by_cases h : i < j
          · exact hS.out i h1 h2 h
          · obtain ⟨p1, p2⟩ := HS1.out i h1 h2 (by omega)
            rw [p1, p2]; exact eqB_iff.1 HG.out⟩
        case measure => simp [intOf]; omega
    · have HMM : Hid (d.methods = e.methods) := Lib.hid (list_ext2 HML.out fun i h1 h2 => hS.out i h1 h2 (by omega))
      go_wp2_with fail
      go_roundw
      case rel => exact ⟨k + 1, by omega, by go_num, x8.trans hy2, Lib.hid fun i h1 h2 hi => by
        by_cases h : i < k
        · exact hR.out i h1 h2 h
        · obtain rfl : i = k := by omega
          rw [HD.out, HE.out]
          exact class_ext HN.out HP.out HFF.out HMM.out⟩
      case measure => simp [intOf]; omega

end Go.Proofs.Ytihibfdnmbapkaa
