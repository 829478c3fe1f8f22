/-
  CONTRACTS: CheckUnit of the reference.
  Conditions: those that each lemma states.
-/
import Derived.Test.YtlppoffneeglgaaGreatDoorRows
import Derived.Test.YtlppoffneeglgaaGreatDoorChkM
import Derived.Test.YtlppoffneeglgaaGreatDoorChkL
import Derived.Test.YtlppoffneeglgaaGreatDoorFnIsUnit
namespace Go.Proofs.YtlppoffneeglgaaGreatDoor
open Go.RowKit
set_option linter.unusedSimpArgs false
set_option linter.unusedVariables false

open Classical in
/-- What CheckUnit gives. -/
noncomputable def checkU (u : MUnit) : ByteArray := if UnitOk u then checkV u else ⟨#[]⟩
theorem checkU_yes {u : MUnit} (h : UnitOk u) : checkU u = checkV u := if_pos h
theorem checkU_no {u : MUnit} (h : ¬ UnitOk u) : checkU u = ⟨#[]⟩ := if_neg h
/-- While no class has a problem, the classes are right. -/
theorem clss_split (C : List ByteArray) : ∀ (a b : List MClassDef) (K : List ByteArray) (fm : FMap), clssP C K fm (a ++ b) = orT (clssP C K fm a) (clssP C (K ++ namesC a) (a.foldl clsF fm) b)
  | [], b, K, fm => by simp [clssP, namesC, orT_l]
  | d :: a, b, K, fm => by
    rw [List.cons_append, clssP, clss_split C a b, clssP, orT_assoc, List.foldl_cons]
    simp [namesC]
theorem clsP_clean {C K : List ByteArray} {fm : FMap} {d : MClassDef} (h : (clsP C K fm d).size = 0) : d.name ∉ K ∧ (d.parent ∈ extB ∨ d.parent ∈ K.drop 16) := by
  unfold clsP at h
  rw [orT_size, orT_size] at h
  refine ⟨fun hm => ?_, ?_⟩
  · have h1 := h.1
    rw [if_pos (by rw [hasB_iff.2 hm]; rfl)] at h1
    exact t_pos _ _ _ (by decide) h1
  · have h2 := h.2.1
    by_cases hb : (hasB extB d.parent || hasB (K.drop 16) d.parent) = true
    · rw [Bool.or_eq_true, hasB_iff, hasB_iff] at hb
      exact hb
    · rw [if_neg hb] at h2
      exact absurd h2 (t_pos _ _ _ (by decide))
theorem clean_of {C : List ByteArray} {l : List MClassDef} (h : (clssP C builtinsL baseF l).size = 0) : Clean l := fun i d hd => by
  have e : l = l.take i ++ (d :: l.drop (i + 1)) := by rw [← drop_cons hd, List.take_append_drop]
  rw [e, clss_split, orT_size, clssP, orT_size] at h
  have := clsP_clean h.2.1
  rwa [known_drop] at this
theorem clss_take {C : List ByteArray} {l : List MClassDef} {i : Nat} {d : MClassDef} (hd : l[i]? = some d) : clssP C builtinsL baseF (l.take (i + 1)) = orT (clssP C builtinsL baseF (l.take i)) (clsP C (builtinsL ++ namesC (l.take i)) (fmAll (l.take i)) d) := by
  rw [List.take_add_one, hd, Option.toList_some, clss_split]
  congr 1
  rw [clssP, clssP, orT_r]
  rfl
theorem clss_rest {C : List ByteArray} {l : List MClassDef} {i : Nat} {d : MClassDef} (hd : l[i]? = some d) : clssP C (builtinsL ++ namesC (l.take i)) (fmAll (l.take i)) (l.drop i) = orT (clsP C (builtinsL ++ namesC (l.take i)) (fmAll (l.take i)) d) (clssP C (builtinsL ++ namesC (l.take (i + 1))) (fmAll (l.take (i + 1))) (l.drop (i + 1))) := by
  rw [drop_cons hd, clssP]
  congr 2
  · rw [List.take_add_one, hd]; simp [namesC]
  · rw [List.take_add_one, hd, Option.toList_some, fmAll_snoc]

set_option maxHeartbeats 8000000 in
set_option maxRecDepth 100000 in
theorem spec_CheckUnit_any (u : MUnit) (cx : List Value) (w : World) (rx : Rep w u.d cx) (hb : u.d.bulk ≤ 1048576) : Calls Tryz.prog 5 #[.agg cx.toArray] w fun e w' => e = .returned (.tuple #[.string (checkU u), .bool (prB (UnitOk u))]) ∧ Ext w w' := by
  have RX := Lib.hid rx
  obtain ⟨ac, cc, a1, c1, a2, c2, a3, c3, rfl, rc, -, -, -, rm⟩ := MUnit.op_en rx
  have RC := Lib.hid rc
  have RM := Lib.hid rm
  have HBU := Lib.hid (unit_bulks hb)
  have HB := Lib.hid hb
  clear rx rc rm hb
  go_enter Tryz.func5, Tryz.ntmps5
  go_upto_region 1 with fail
  generalize hW : World.alloc w _ = W1
  have x1 : Ext w W1 := by rw [← hW]; exact (Ext.refl _).alloc _
  have n0 : W1.cell? ⟨w.heap.size, 0, none⟩ = some (.slice ac u.classes.length cc) := by rw [← hW]; simp
  have n1 : W1.cell? ⟨w.heap.size, 1, none⟩ = some (.string u.main.selector) := by rw [← hW]; simp
  have n2 : W1.cell? ⟨w.heap.size, 2, none⟩ = some (.bool u.main.cls) := by rw [← hW]; simp
  have n3 : W1.cell? ⟨w.heap.size, 3, none⟩ = some (.slice a1 u.main.params.length c1) := by rw [← hW]; simp
  have n4 : W1.cell? ⟨w.heap.size, 4, none⟩ = some (.slice a2 u.main.temps.length c2) := by rw [← hW]; simp
  have n5 : W1.cell? ⟨w.heap.size, 5, none⟩ = some (.slice a3 u.main.body.length c3) := by rw [← hW]; simp
  clear hW
  have zn := lt_of_cell n0
  go_wp2_with fail
  refine (spec_IsUnit_any u _ W1 (Rep.ext x1 RX.out) HB.out).mono ?_
  rintro e w2 ⟨rfl, hx2⟩
  replace n0 := hx2.cell n0
  replace n1 := hx2.cell n1
  replace n2 := hx2.cell n2
  replace n3 := hx2.cell n3
  replace n4 := hx2.cell n4
  replace n5 := hx2.cell n5
  have x2 := x1.trans hx2
  have zn2 := lt_of_cell n0
  clear zn
  by_cases hok : UnitOk u
  rotate_left
  · have HV : Hid (checkU u = ⟨#[]⟩) := Lib.hid (checkU_no hok)
    have HPB := Lib.hid (prB_ff hok)
    rw [prB_ff hok]
    clear hok
    go_wp2_with fail
    go_ret2
    exact ⟨by rw [HV.out, HPB.out]; rfl, x2⟩
  have HPB := Lib.hid (prB_tt hok)
  rw [prB_tt hok]
  have HOK := Lib.hid hok
  have HV : Hid (checkU u = checkV u) := Lib.hid (checkU_yes hok)
  clear hok
  have hl : u.classes.length ≤ 8 := HOK.out.1
  have HZ : Hid (∀ d, d ∈ u.classes → d.fields.length ≤ 4) := Lib.hid fun d hd => (HOK.out.2.2 d hd).1.2.2.1
  obtain ⟨C, hC⟩ : ∃ C, builtinsL ++ namesC u.classes = C := ⟨_, rfl⟩
  obtain ⟨EV, hEV⟩ : ∃ EV, checkV u = EV := ⟨_, rfl⟩
  have HEV : Hid (checkU u = EV) := Lib.hid (by rw [HV.out, hEV])
  obtain ⟨MN, hMN⟩ : ∃ M, exV C [] false [] (blockM u.main.params u.main.temps u.main.body) = M := ⟨_, rfl⟩
  obtain ⟨TL, hTL⟩ : ∃ T, orT (firstT (u.classes.map fun d => firstT (d.methods.map (metP C (fmAll u.classes) d)))) MN = T := ⟨_, rfl⟩
  have H0 : Hid (EV = orT (clssP C builtinsL baseF u.classes) TL) := Lib.hid (by rw [← hEV, ← hTL, ← hMN, ← hC]; rfl)
  have HTL := Lib.hid hTL
  have HMN := Lib.hid hMN
  have HC := Lib.hid hC
  have R2 := Lib.hid (Rep.ext x2 RC.out)
  obtain ⟨ao, ca, ba, oa, h1, hla, hma, pa, ha⟩ := Rep.slmap R2.out
  simp only [List.cons.injEq, and_true, Value.slice.injEq] at h1
  obtain ⟨rfl, -, rfl⟩ := h1
  unfold maxLen at hma
  have HA := Lib.hid ha
  clear hEV hMN hTL hC ha hx2 x1
  go_wp2_with fail
  go_loopw [4] (fun iv wr => ∃ i : Nat, i ≤ u.classes.length ∧ iv = .int .i64 i ∧ Ext w2 wr ∧ Hid (EV = orT (clssP C (builtinsL ++ namesC (u.classes.take i)) (fmAll (u.classes.take i)) (u.classes.drop i)) TL) ∧ Hid ((clssP C builtinsL baseF (u.classes.take i)).size = 0)) (fun iv _ => u.classes.length - (intOf iv).toNat)
  case atStart => exact ⟨0, Nat.zero_le _, rfl, Ext.refl _, Lib.hid (by rw [H0.out]; simp [namesC, fmAll]), Lib.hid (by simp [clssP]; rfl)⟩
  case round =>
    obtain ⟨i, hi, rfl, hx, hQ, hS⟩ := hrel
    replace n0 := hx.cell n0
    replace n1 := hx.cell n1
    replace n2 := hx.cell n2
    replace n3 := hx.cell n3
    replace n4 := hx.cell n4
    replace n5 := hx.cell n5
    have xr := x2.trans hx
    have zr := lt_of_cell n0
    by_cases hlt : i < u.classes.length
    · obtain ⟨d, hd⟩ : ∃ d, u.classes[i]? = some d := ⟨_, List.getElem?_eq_getElem hlt⟩
      have hcb := class_bulks (HBU.out.2.2 d (List.mem_of_getElem? hd))
      obtain ⟨P, hP⟩ : ∃ P, clsP C (builtinsL ++ namesC (u.classes.take i)) (fmAll (u.classes.take i)) d = P := ⟨_, rfl⟩
      have CP : Hid (Calls Tryz.prog 12 #[.pointer (some ⟨w.heap.size, 0, none⟩), .int .i64 i] wr fun e w' => e = .returned (.string P) ∧ Ext wr w') := Lib.hid (by
        rw [← hP, ← HC.out]
        exact l7ClassProblem_any u.classes hl i d hd (clean_of hS.out) HZ.out ⟨hcb.1, hcb.2.1, hcb.2.2.2.1, hcb.2.2.1.2, fun m hm => bulk_sel (hcb.2.2.2.2 m hm)⟩ w.heap.size _ _ wr n0 (Rep.ext hx R2.out))
      have HQ2 : Hid (EV = orT P (orT (clssP C (builtinsL ++ namesC (u.classes.take (i + 1))) (fmAll (u.classes.take (i + 1))) (u.classes.drop (i + 1))) TL)) := Lib.hid (by rw [hQ.out, clss_rest hd, hP, orT_assoc])
      have HS2 : Hid (P.size = 0 → (clssP C builtinsL baseF (u.classes.take (i + 1))).size = 0) := Lib.hid fun h => by rw [clss_take hd, hP, orT_size]; exact ⟨hS.out, h⟩
      have hil : (i : Int) < u.classes.length := by omega
      clear hP hcb hd
      go_wp2_with fail
      refine CP.out.mono ?_
      rintro e w9 ⟨rfl, hx9⟩
      by_cases hp0 : P.size = 0
      · have HS3 := Lib.hid (HS2.out hp0)
        have hp1 := size_nil hp0
        subst hp1
        have HN : Hid (EV = orT (clssP C (builtinsL ++ namesC (u.classes.take (i + 1))) (fmAll (u.classes.take (i + 1))) (u.classes.drop (i + 1))) TL) := Lib.hid (by rw [HQ2.out, orT_l])
        clear hp0
        go_wp2_with fail
        go_roundw
        case rel => exact ⟨i + 1, by omega, by go_num, hx.trans hx9, HN, HS3⟩
        case measure => simp [intOf]; omega
      · have HE : Hid (EV = P) := Lib.hid (by rw [HQ2.out]; exact orT_ne hp0 _)
        have t1 : (P.toList == []) = false := str_ne' (l := []) (fun e => hp0 (by rw [e]; rfl))
        have t2 : (!P.toList == []) = true := by rw [t1]; rfl
        clear hp0
        go_wp2_with fail
        go_ret2
        exact ⟨by rw [HEV.out, HE.out, HPB.out]; rfl, xr.trans hx9⟩
    have H1 : Hid (EV = TL) := Lib.hid (by
      obtain rfl : i = u.classes.length := by omega
      have := hQ.out
      rwa [List.drop_length, clssP, orT_l] at this)
    have HCL : Hid (Clean u.classes) := Lib.hid (clean_of (C := C) (by
      obtain rfl : i = u.classes.length := by omega
      have := hS.out
      rwa [List.take_length] at this))
    have H2 : Hid (EV = orT (firstT (u.classes.map fun d => firstT (d.methods.map (metP C (fmAll u.classes) d)))) MN) := Lib.hid (by rw [H1.out, HTL.out])
    clear hQ hS H1 zn2
    obtain ⟨WA, hwo⟩ : ∃ x, x = wr := ⟨_, rfl⟩
    subst hwo
    go_wp2_with fail
    go_loopw [6] (fun iv w8 => ∃ i : Nat, i ≤ u.classes.length ∧ iv = .int .i64 i ∧ Ext WA w8 ∧ Hid (EV = orT (firstT ((u.classes.drop i).map fun d => firstT (d.methods.map (metP C (fmAll u.classes) d)))) MN)) (fun iv _ => u.classes.length - (intOf iv).toNat)
    case atStart => exact ⟨0, Nat.zero_le _, rfl, Ext.refl _, H2⟩
    case round =>
      clear H2 zr
      obtain ⟨i2, hi2, rfl, hx8, hQ⟩ := hrel
      replace n0 := hx8.cell n0
      replace n1 := hx8.cell n1
      replace n2 := hx8.cell n2
      replace n3 := hx8.cell n3
      replace n4 := hx8.cell n4
      replace n5 := hx8.cell n5
      have x8 := xr.trans hx8
      have hx28 := hx.trans hx8
      have zr8 := lt_of_cell n0
      by_cases hlt2 : i2 < u.classes.length
      · obtain rfl := pa (by omega)
        obtain ⟨d, hd⟩ : ∃ d, u.classes[i2]? = some d := ⟨_, List.getElem?_eq_getElem hlt2⟩
        obtain ⟨es, les, ces, res⟩ := HA.out i2 d hd
        obtain ⟨af, cf, am, cm, rfl, -, rmm⟩ := MClassDef.op_en res
        have r3 : w2.cell? ⟨ba, oa + i2 * 4 + 3, none⟩ = some (.slice am d.methods.length cm) := ces 3 (by omega)
        have hdm := List.mem_of_getElem? hd
        have HOD := Lib.hid (HOK.out.2.2 d hdm)
        have hcb := class_bulks (HBU.out.2.2 d hdm)
        have HMB := Lib.hid hcb.2.2.2.2
        have hmz := hcb.2.2.1.2
        obtain ⟨REST, hRE⟩ : ∃ R, orT (firstT ((u.classes.drop (i2 + 1)).map fun d => firstT (d.methods.map (metP C (fmAll u.classes) d)))) MN = R := ⟨_, rfl⟩
        have HRE := Lib.hid hRE
        have HQ2 : Hid (EV = orT (firstT ((d.methods.drop 0).map (metP C (fmAll u.classes) d))) REST) := Lib.hid (by rw [hQ.out, drop_cons hd, List.map_cons, firstT, orT_assoc, hRE, List.drop_zero])
        obtain ⟨amm, cmm, bm, om, h1, hlm, hmm, pm, hmm2⟩ := Rep.slmap rmm
        simp only [List.cons.injEq, and_true, Value.slice.injEq] at h1
        obtain ⟨rfl, -, rfl⟩ := h1
        unfold maxLen at hmm
        have HMM := Lib.hid hmm2
        have HD := Lib.hid hd
        have hil2 : (i2 : Int) < u.classes.length := by omega
        have hi0 : (0 : Int) ≤ i2 := by omega
        clear les ces res rmm hmm2 hcb hd hRE hQ hdm
        go_wp2_with fail
        go_loopw [7] (fun kv w9 => ∃ k : Nat, k ≤ d.methods.length ∧ kv = .int .i64 k ∧ Ext WA w9 ∧ w9.cell? ⟨w.heap.size, 0, none⟩ = some (.slice (some ⟨ba, oa, none⟩) u.classes.length cc) ∧ Hid (EV = orT (firstT ((d.methods.drop k).map (metP C (fmAll u.classes) d))) REST)) (fun kv _ => d.methods.length - (intOf kv).toNat)
        case atStart => exact ⟨0, Nat.zero_le _, rfl, hx8, n0, HQ2⟩
        case round =>
          obtain ⟨k, hk, rfl, hx9, n0', hQ⟩ := hrel
          clear n0 n1 n2 n3 n4 n5 zr8
          have zr9 := lt_of_cell n0'
          have hx29 := hx.trans hx9
          have s3 := hx29.cell r3
          have zs3 := lt_of_cell s3
          by_cases hkl : k < d.methods.length
          · obtain rfl := pm (by omega)
            obtain ⟨m, hm⟩ : ∃ m, d.methods[k]? = some m := ⟨_, List.getElem?_eq_getElem hkl⟩
            obtain ⟨es, les, ces, res⟩ := HMM.out k m hm
            obtain ⟨y1, z1, y2, z2, y3, z3, rfl, -, -, -⟩ := MMethod.op_en res
            have p0 := hx29.cell (show w2.cell? ⟨bm, om + k * 5, none⟩ = some (.string m.selector) from ces 0 (by omega))
            have p1 := hx29.cell (show w2.cell? ⟨bm, om + k * 5 + 1, none⟩ = some (.bool m.cls) from ces 1 (by omega))
            have p2 := hx29.cell (show w2.cell? ⟨bm, om + k * 5 + 2, none⟩ = some (.slice y1 m.params.length z1) from ces 2 (by omega))
            have p3 := hx29.cell (show w2.cell? ⟨bm, om + k * 5 + 3, none⟩ = some (.slice y2 m.temps.length z2) from ces 3 (by omega))
            have p4 := hx29.cell (show w2.cell? ⟨bm, om + k * 5 + 4, none⟩ = some (.slice y3 m.body.length z3) from ces 4 (by omega))
            have hmb := HMB.out m (List.mem_of_getElem? hm)
            obtain ⟨P, hP⟩ : ∃ P, metP C (fmAll u.classes) d m = P := ⟨_, rfl⟩
            have CM : Hid (Calls Tryz.prog 13 #[.pointer (some ⟨w.heap.size, 0, none⟩), .int .i64 (16 + (i2 : Int)), .agg #[.string m.selector, .bool m.cls, .slice y1 m.params.length z1, .slice y2 m.temps.length z2, .slice y3 m.body.length z3]] wr fun e w' => e = .returned (.string P) ∧ Ext wr w') := Lib.hid (by
              have h1 := l7Method_any u.classes hl HCL.out HZ.out (16 + (i2 : Int)) m [.string m.selector, .bool m.cls, .slice y1 m.params.length z1, .slice y2 m.temps.length z2, .slice y3 m.body.length z3] (if m.cls = true then [] else fmAll u.classes d.name) _ w.heap.size _ _ wr (Or.inr ⟨by omega, by omega⟩) (by
                rw [flds_at HD.out]
                by_cases hh : m.cls = true
                · rw [if_pos hh, if_neg (fun h3 => by rw [hh] at h3; cases h3.2)]
                · rw [if_neg hh, if_pos ⟨by omega, by simpa using hh⟩]) (HOD.out.2.2 m (List.mem_of_getElem? hm)).2.2.2.2 (by have := bulk_block hmb; omega) (bulk_method hmb) (Rep.ext hx29 res) n0' (Rep.ext hx29 R2.out)
              have h2 : decide ((16 : Int) ≤ 16 + (i2 : Int)) = true := decide_eq_true (by omega)
              rw [h2, HC.out] at h1
              rw [← hP]
              exact h1)
            have HQ3 : Hid (EV = orT P (orT (firstT ((d.methods.drop (k + 1)).map (metP C (fmAll u.classes) d))) REST)) := Lib.hid (by rw [hQ.out, drop_cons hm, List.map_cons, firstT, hP, orT_assoc])
            have hkl2 : (k : Int) < d.methods.length := by omega
            have hk0 : (0 : Int) ≤ k := by omega
            clear hP hm les ces res hmb
            go_wp2_with fail
            refine CM.out.mono ?_
            rintro e w10 ⟨rfl, hx10⟩
            by_cases hp0 : P.size = 0
            · have hp1 := size_nil hp0
              subst hp1
              have HN : Hid (EV = orT (firstT ((d.methods.drop (k + 1)).map (metP C (fmAll u.classes) d))) REST) := Lib.hid (by rw [HQ3.out, orT_l])
              clear hp0
              go_wp2_with fail
              go_roundw
              case rel => exact ⟨k + 1, by omega, by go_num, hx9.trans hx10, hx10.cell n0', HN⟩
              case measure => simp [intOf]; omega
            · have HE : Hid (EV = P) := Lib.hid (by rw [HQ3.out]; exact orT_ne hp0 _)
              have t1 : (P.toList == []) = false := str_ne' (l := []) (fun e => hp0 (by rw [e]; rfl))
              have t2 : (!P.toList == []) = true := by rw [t1]; rfl
              clear hp0
              go_wp2_with fail
              go_ret2
              exact ⟨by rw [HEV.out, HE.out, HPB.out]; rfl, (x2.trans hx29).trans hx10⟩
          · have HN : Hid (EV = orT (firstT ((u.classes.drop (i2 + 1)).map fun d => firstT (d.methods.map (metP C (fmAll u.classes) d)))) MN) := Lib.hid (by
              obtain rfl : k = d.methods.length := by omega
              rw [hQ.out, List.drop_length, List.map_nil, firstT, orT_l, HRE.out])
            go_wp2_with fail
            go_roundw
            case rel => exact ⟨i2 + 1, by omega, by go_num, hx9, HN⟩
            case measure => simp [intOf]; omega
      · have HE : Hid (EV = MN) := Lib.hid (by
          obtain rfl : i2 = u.classes.length := by omega
          rw [hQ.out, List.drop_length, List.map_nil, firstT, orT_l])
        have hmb := HBU.out.1
        have CM : Hid (Calls Tryz.prog 13 #[.pointer (some ⟨w.heap.size, 0, none⟩), .int .i64 (-1), .agg #[.string u.main.selector, .bool u.main.cls, .slice a1 u.main.params.length c1, .slice a2 u.main.temps.length c2, .slice a3 u.main.body.length c3]] wr fun e w' => e = .returned (.string MN) ∧ Ext wr w') := Lib.hid (by
          have h1 := l7Method_any u.classes hl HCL.out HZ.out (-1) u.main _ [] _ w.heap.size _ _ wr (Or.inl rfl) (by rw [if_neg (by omega)]) HOK.out.2.1.2.2.2.2.2 (by have := bulk_block hmb; omega) (bulk_method hmb) (Rep.ext x8 RM.out) n0 (Rep.ext hx28 R2.out)
          have h2 : decide ((16 : Int) ≤ -1) = false := by simp
          rw [h2, HC.out, HMN.out] at h1
          exact h1)
        clear hmb hQ
        go_wp2_with fail
        refine CM.out.mono ?_
        rintro e w10 ⟨rfl, hx10⟩
        go_wp2_with fail
        go_ret2
        exact ⟨by rw [HEV.out, HE.out, HPB.out]; rfl, x8.trans hx10⟩

end Go.Proofs.YtlppoffneeglgaaGreatDoor
