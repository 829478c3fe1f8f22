/-
  CONTRACTS: whether a store is right, of the program and of the reference.
  Conditions: those that each lemma states.
-/
import Derived.Test.YticdmbmjlaomiaaGreatDoorRows
import Derived.Test.YticdmbmjlaomiaaGreatDoorFnObjS
namespace Go.Proofs.YticdmbmjlaomiaaGreatDoor
open Go.RowKit
set_option linter.unusedSimpArgs false
set_option linter.unusedVariables false

def StoreOk (bk : Int) (x : MStore) : Prop :=
  ClsOk x.classes ∧ ((x.objects.length : Int) ≤ x.made ∧ x.made ≤ 800) ∧ x.output.length ≤ 60 ∧ (0 ≤ x.budget ∧ x.budget ≤ 3000) ∧ (0 ≤ x.ticks ∧ x.ticks ≤ x.budget) ∧
  (∀ s, s ∈ x.output → TextOk 200 s) ∧ ∀ o, o ∈ x.objects → ObjOk x.classes x.objects.length bk o
noncomputable def storeB (bk : Int) (x : MStore) : Bool := eqB (StoreOk bk x) True
theorem storeB_tt {bk : Int} {x : MStore} (h : StoreOk bk x) : storeB bk x = true := eqB_tt (by simp [h])
theorem storeB_ff {bk : Int} {x : MStore} (h : ¬ StoreOk bk x) : storeB bk x = false := eqB_ff (by simp [h])
theorem storeB_iff {bk : Int} {x : MStore} : storeB bk x = true ↔ StoreOk bk x := by simp [storeB, eqB_iff]

/-- The texts of a store are short. -/
def StoreSz (x : MStore) : Prop :=
  (∀ c, c ∈ x.classes → c.name.size ≤ 1048576 ∧ ∀ s, s ∈ c.fields → s.size ≤ 1048576) ∧ (∀ s, s ∈ x.output → s.size ≤ 1048576) ∧ ∀ o, o ∈ x.objects → ∀ v, v ∈ o.fields → v.text.size ≤ 1048576
theorem bulk_store {x : MStore} (h : x.d.bulk ≤ 1048576) : StoreSz x := by
  rw [MStore.d_eq] at h
  simp only [D.bulk, D.bulkL, MClassInfos, MObjects, strs, List.length_map] at h
  refine ⟨fun c hc => ?_, fun s hs => ?_, fun o ho v hv => ?_⟩
  · have := D.bulkL_mem (List.mem_map_of_mem (f := MClassInfo.d) hc)
    rw [MClassInfo.d_eq] at this
    simp only [D.bulk, D.bulkL, strs, List.length_map] at this
    refine ⟨by omega, fun s hs => ?_⟩
    have h2 := D.bulkL_mem (List.mem_map_of_mem (f := D.str) hs)
    simp only [D.bulk] at h2
    omega
  · have h2 := D.bulkL_mem (List.mem_map_of_mem (f := D.str) hs)
    simp only [D.bulk] at h2
    omega
  · have := D.bulkL_mem (List.mem_map_of_mem (f := MObject.d) ho)
    rw [MObject.d_eq] at this
    simp only [D.bulk, D.bulkL, MValues, List.length_map] at this
    have h2 := D.bulkL_mem (List.mem_map_of_mem (f := MValue.d) hv)
    rw [MValue.d_eq] at h2
    simp only [D.bulk, D.bulkL] at h2
    omega


set_option maxRecDepth 100000 in
set_option maxHeartbeats 4000000 in
theorem storeOk_any (x : MStore) (cx : List Value) (bk : Int) (w : World) (rx : Rep w x.d cx) (hz : StoreSz x) (hM : MaxOk w) :
    Calls Tryz.prog 53 #[.agg cx.toArray, .int .i64 bk] w fun e w' => e = .returned (.bool (storeB bk x)) ∧ Ext w w' := by
  have RX := Lib.hid rx
  obtain ⟨ac, cc, ab, cb, au, cu, rfl, rc, rb, ru⟩ := MStore.op_en rx
  clear rx
  obtain ⟨cl, ob, ou, tk, bu, ma⟩ := x
  simp only at *
  obtain ⟨abo, cbo, bb, oB, h1, hlb, hmb, pb, hob⟩ := Rep.slmap rb
  simp only [List.cons.injEq, and_true, Value.slice.injEq] at h1
  obtain ⟨rfl, -, rfl⟩ := h1
  obtain ⟨auo, cuo, bo, oU, h1, hlu, hmu, pu, hou⟩ := Rep.strs ru
  simp only [List.cons.injEq, and_true, Value.slice.injEq] at h1
  obtain ⟨rfl, -, rfl⟩ := h1
  unfold maxLen at hmb hmu
  have RC := Lib.hid rc
  have HZ := Lib.hid hz
  clear rc rb ru hz

  have CC : Hid (∀ (b : Bool) W, Ext w W → clsB cl = b → Calls Tryz.prog 138 #[.slice ac cl.length cc] W fun e w' => e = .returned (.bool b) ∧ Ext W w') := Lib.hid fun b W h hb => (classesOk_any cl _ W (Rep.ext h RC.out) HZ.out.1).mono fun e w' ⟨h1, h2⟩ => ⟨by rw [h1, hb], h2⟩
  have CB : Hid (∀ (n a b : Int) W (v : Bool), decide (a ≤ n ∧ n ≤ b) = v → Calls Tryz.prog 139 #[.int .i64 n, .int .i64 a, .int .i64 b] W fun e w' => e = .returned (.bool v) ∧ w' = W) := Lib.hid fun n a b W v h => (within_any n a b W).mono fun e w' ⟨h1, h2⟩ => ⟨by rw [h1, ← h], h2⟩
  go_enter Tryz.func53, Tryz.ntmps53
  go_wp2_with fail
  generalize hS : World.alloc w _ = W1
  have x1 : Ext w W1 := by rw [← hS]; exact (Ext.refl _).alloc _
  have s0 : W1.cell? ⟨w.heap.size, 0, none⟩ = some (.slice ac cl.length cc) := by rw [← hS]; simp
  have s1 : W1.cell? ⟨w.heap.size, 1, none⟩ = some (.slice ab ob.length cb) := by rw [← hS]; simp
  have s2 : W1.cell? ⟨w.heap.size, 2, none⟩ = some (.slice au ou.length cu) := by rw [← hS]; simp
  have s3 : W1.cell? ⟨w.heap.size, 3, none⟩ = some (.int .i64 tk) := by rw [← hS]; simp
  have s4 : W1.cell? ⟨w.heap.size, 4, none⟩ = some (.int .i64 bu) := by rw [← hS]; simp
  have s5 : W1.cell? ⟨w.heap.size, 5, none⟩ = some (.int .i64 ma) := by rw [← hS]; simp
  clear hS
  by_cases K0 : clsB cl = true
  rotate_left
  · have HK0 : Hid (clsB cl = false) := Lib.hid (Bool.eq_false_iff.2 K0)
    clear K0
    go_wp2_with fail
    refine (CC.out _ _ x1 HK0.out).mono ?_
    rintro e w9 ⟨rfl, XW9⟩
    replace s0 := Ext.cell XW9 s0
    replace s1 := Ext.cell XW9 s1
    replace s2 := Ext.cell XW9 s2
    replace s3 := Ext.cell XW9 s3
    replace s4 := Ext.cell XW9 s4
    replace s5 := Ext.cell XW9 s5
    go_wp2_with fail
    go_ret
    exact ⟨ret_bool (storeB_ff (fun h => by exact absurd (clsB_tt h.1) (by rw [HK0.out]; decide))).symm, x1.trans XW9⟩
  have HK0 := Lib.hid K0
  clear K0
  go_wp2_with fail
  refine (CC.out _ _ x1 HK0.out).mono ?_
  rintro e w9 ⟨rfl, XW9⟩
  replace s0 := Ext.cell XW9 s0
  replace s1 := Ext.cell XW9 s1
  replace s2 := Ext.cell XW9 s2
  replace s3 := Ext.cell XW9 s3
  replace s4 := Ext.cell XW9 s4
  replace s5 := Ext.cell XW9 s5
  by_cases K1 : (ob.length : Int) ≤ ma ∧ ma ≤ 800
  rotate_left
  · have HK1 := Lib.hid (decide_eq_false K1)
    clear K1
    go_wp2_with fail
    refine (CB.out _ _ _ _ _ HK1.out).mono ?_
    rintro e wq ⟨rfl, hq⟩
    subst wq
    go_wp2_with fail
    go_ret
    exact ⟨ret_bool (storeB_ff (fun h => by exact absurd h.2.1 (of_decide_eq_false HK1.out))).symm, x1.trans XW9⟩
  have HK1 := Lib.hid (decide_eq_true K1)
  clear K1
  go_wp2_with fail
  refine (CB.out _ _ _ _ _ HK1.out).mono ?_
  rintro e wq ⟨rfl, hq⟩
  subst wq
  by_cases K2 : ou.length ≤ 60
  rotate_left
  · have HK2 := Lib.hid K2
    have g2 : (60 : Int) < (ou.length : Int) := by omega
    clear K2
    go_wp2_with fail

    skip
    go_ret
    exact ⟨ret_bool (storeB_ff (fun h => by exact absurd h.2.2.1 HK2.out)).symm, x1.trans XW9⟩
  have HK2 := Lib.hid K2
  have g2 : decide ((60 : Int) < (ou.length : Int)) = false := decide_eq_false (by omega)
  clear K2
  by_cases K3 : 0 ≤ bu ∧ bu ≤ 3000
  rotate_left
  · have HK3 := Lib.hid (decide_eq_false K3)
    clear K3
    go_wp2_with fail
    refine (CB.out _ _ _ _ _ HK3.out).mono ?_
    rintro e wq ⟨rfl, hq⟩
    subst wq
    go_wp2_with fail
    go_ret
    exact ⟨ret_bool (storeB_ff (fun h => by exact absurd h.2.2.2.1 (of_decide_eq_false HK3.out))).symm, x1.trans XW9⟩
  have HK3 := Lib.hid (decide_eq_true K3)
  clear K3
  go_wp2_with fail
  refine (CB.out _ _ _ _ _ HK3.out).mono ?_
  rintro e wq ⟨rfl, hq⟩
  subst wq
  by_cases K4 : 0 ≤ tk ∧ tk ≤ bu
  rotate_left
  · have HK4 := Lib.hid (decide_eq_false K4)
    clear K4
    go_wp2_with fail
    refine (CB.out _ _ _ _ _ HK4.out).mono ?_
    rintro e wq ⟨rfl, hq⟩
    subst wq
    go_wp2_with fail
    go_ret
    exact ⟨ret_bool (storeB_ff (fun h => by exact absurd h.2.2.2.2.1 (of_decide_eq_false HK4.out))).symm, x1.trans XW9⟩
  have HK4 := Lib.hid (decide_eq_true K4)
  clear K4
  go_wp2_with fail
  refine (CB.out _ _ _ _ _ HK4.out).mono ?_
  rintro e wq ⟨rfl, hq⟩
  subst wq
  go_wp2_with fail

  have x9 := x1.trans XW9
  clear x1 XW9
  have HOU : Hid (∀ (i : Nat) (s : ByteArray), ou[i]? = some s → s.size ≤ 9223372036854775806) := Lib.hid fun i s hs => Nat.le_trans (HZ.out.2.1 s (List.mem_of_getElem? hs)) (by decide)
  go_loopw [45] (fun iv wr => ∃ k : Nat, k ≤ ou.length ∧ iv = .int .i64 k ∧ wr = w9 ∧ Hid (∀ (i : Nat) (s : ByteArray), i < k → ou[i]? = some s → TextOk 200 s)) (fun iv _ => ou.length - (intOf iv).toNat)
  case atStart => exact ⟨0, Nat.zero_le _, rfl, rfl, Lib.hid fun i v hi => by omega⟩
  case round =>
    obtain ⟨k, hk, rfl, hwr, hR⟩ := hrel
    subst wr
    by_cases hlt : k < ou.length
    · obtain rfl := pu (by omega)
      obtain ⟨z, hz⟩ : ∃ z, z = ou[k] := ⟨_, rfl⟩
      have hzk : ou[k]? = some z := by rw [hz]; simp [hlt]
      clear hz
      have q0 := x9.cell (hou k z hzk)
      have CL := lineOk_any z w9 (HOU.out k z hzk)
      have HZK := Lib.hid hzk; clear hzk
      cases ht : textB 200 z
      · rw [ht] at CL
        have HCL := Lib.hid CL; clear CL
        have HF : Hid (¬ ∀ s, s ∈ ou → TextOk 200 s) := Lib.hid fun h => by
          have := textB_tt (h _ (List.mem_of_getElem? HZK.out))
          rw [ht] at this; cases this
        clear ht
        go_wp2_with fail
        refine HCL.out.mono ?_
        rintro e wq ⟨rfl, hq⟩
        subst wq
        go_wp2_with fail
        go_ret
        exact ⟨ret_bool (storeB_ff (fun h => HF.out h.2.2.2.2.2.1)).symm, x9⟩
      · rw [ht] at CL
        have HCL := Lib.hid CL; clear CL
        have HF := Lib.hid (textB_iff.1 ht); clear ht
        go_wp2_with fail
        refine HCL.out.mono ?_
        rintro e wq ⟨rfl, hq⟩
        subst wq
        go_wp2_with fail
        go_roundw
        case rel => exact ⟨k + 1, by omega, by go_num, trivial, Lib.hid fun i s hi hs => by
          by_cases h2 : i < k
          · exact hR.out i s h2 hs
          · obtain rfl : i = k := by omega
            rw [HZK.out] at hs; injection hs with hs; subst hs; exact HF.out⟩
        case measure => simp [intOf]; omega
    have HT : Hid (∀ s, s ∈ ou → TextOk 200 s) := Lib.hid fun s hs => by
      obtain ⟨i, hi, rfl⟩ := List.mem_iff_getElem.1 hs
      exact hR.out i _ (by omega) (by simp [hi])
    have HKA : Hid (ClsOk cl ∧ ((ob.length : Int) ≤ ma ∧ ma ≤ 800) ∧ ou.length ≤ 60 ∧ (0 ≤ bu ∧ bu ≤ 3000) ∧ (0 ≤ tk ∧ tk ≤ bu) ∧ ∀ s, s ∈ ou → TextOk 200 s) := Lib.hid ⟨clsB_iff.1 HK0.out, of_decide_eq_true HK1.out, HK2.out, of_decide_eq_true HK3.out, of_decide_eq_true HK4.out, HT.out⟩
    clear hou pu
    go_wp2_with fail
    clear hk hlt hR
    go_loopw [56] (fun iv wr => ∃ k : Nat, k ≤ ob.length ∧ iv = .int .i64 k ∧ Ext w9 wr ∧ Hid (∀ (i : Nat) (o : MObject), i < k → ob[i]? = some o → ObjOk cl ob.length bk o)) (fun iv _ => ob.length - (intOf iv).toNat)
    case atStart => exact ⟨0, Nat.zero_le _, rfl, Ext.refl _, Lib.hid fun i v hi => by omega⟩
    case round =>
      obtain ⟨j, hj, rfl, hx1, hR⟩ := hrel
      have hx := x9.trans hx1
      by_cases hlt : j < ob.length
      · obtain rfl := pb (by omega)
        obtain ⟨z, hz⟩ : ∃ z, z = ob[j] := ⟨_, rfl⟩
        have hzj : ob[j]? = some z := by rw [hz]; simp [hlt]
        clear hz
        obtain ⟨es, les, ces, res⟩ := hob j z hzj
        have RO := Lib.hid res
        obtain ⟨af, cf, an, cn, rfl, rf, rn⟩ := MObject.op_en res
        clear res rf rn les
        have q0 := hx.cell (show w.cell? ⟨bb, oB + j * 4, none⟩ = some _ from ces 0 (by omega))
        have q1 := hx.cell (show w.cell? ⟨bb, oB + j * 4 + 1, none⟩ = some _ from ces 1 (by omega))
        have q2 := hx.cell (show w.cell? ⟨bb, oB + j * 4 + 2, none⟩ = some _ from ces 2 (by omega))
        have q3 := hx.cell (show w.cell? ⟨bb, oB + j * 4 + 3, none⟩ = some _ from ces 3 (by omega))
        have S0 := Ext.cell hx1 s0
        have S1 := Ext.cell hx1 s1
        have S2 := Ext.cell hx1 s2
        have S3 := Ext.cell hx1 s3
        have S4 := Ext.cell hx1 s4
        have S5 := Ext.cell hx1 s5
        have zS : w.heap.size < wr.heap.size := lt_of_cell S0
        have HZJ := Lib.hid hzj
        have CE : Hid (∀ W, Ext w W → Calls Tryz.prog 141 #[.agg #[.slice ac cl.length cc, .slice (some ⟨bb, oB, none⟩) ob.length cb, .slice au ou.length cu, .int .i64 tk, .int .i64 bu, .int .i64 ma], .agg #[.int .i64 z.kind, .int .i64 z.cls, .slice af z.fields.length cf, .slice an z.numbers.length cn], .int .i64 bk] W fun e w' => e = .returned (.bool (objB cl ob.length bk z)) ∧ Ext W w') := Lib.hid fun W h => objectOk_any cl z [.int .i64 z.kind, .int .i64 z.cls, .slice af z.fields.length cf, .slice an z.numbers.length cn] _ _ _ _ _ _ _ _ _ _ _ _ W (Rep.ext h RC.out) (Rep.ext h RO.out) HKA.out.1 (fun v hv => HZ.out.2.2 z (List.mem_of_getElem? HZJ.out) v hv) (hM.ext h)
        clear ces hzj
        obtain ⟨zk, zc, zf, zn⟩ := z
        simp only at q0 q1 q2 q3 CE HZJ
        cases hfit : objB cl ob.length bk ⟨zk, zc, zf, zn⟩
        · have HF : Hid (¬ ∀ o, o ∈ ob → ObjOk cl ob.length bk o) := Lib.hid fun h => by
            have := objB_iff.2 (h _ (List.mem_of_getElem? HZJ.out))
            rw [hfit] at this; cases this
          rw [hfit] at CE; clear hfit
          go_wp2_with fail
          refine (CE.out _ (hx.alloc _)).mono ?_
          rintro e w3 ⟨rfl, hx3⟩
          go_wp2_with fail
          go_ret
          exact ⟨ret_bool (storeB_ff (fun h => HF.out h.2.2.2.2.2.2)).symm, (hx.alloc _).trans hx3⟩
        · have HF := Lib.hid (objB_iff.1 hfit)
          rw [hfit] at CE; clear hfit
          go_wp2_with fail
          refine (CE.out _ (hx.alloc _)).mono ?_
          rintro e w3 ⟨rfl, hx3⟩
          go_wp2_with fail
          go_roundw
          case rel => exact ⟨j + 1, by omega, by go_num, (hx1.alloc _).trans hx3, Lib.hid fun i v hi hv => by
            by_cases h2 : i < j
            · exact hR.out i v h2 hv
            · obtain rfl : i = j := by omega
              rw [HZJ.out] at hv; injection hv with hv; subst hv; exact HF.out⟩
          case measure => simp [intOf]; omega
      have HA : Hid (storeB bk ⟨cl, ob, ou, tk, bu, ma⟩ = true) := Lib.hid (storeB_tt (by
        obtain ⟨h1, h2, h3, h4, h5, h6⟩ := HKA.out
        refine ⟨h1, h2, h3, h4, h5, h6, fun o ho => ?_⟩
        obtain ⟨i, hi, rfl⟩ := List.mem_iff_getElem.1 ho
        have hi2 : i < ob.length := hi
        exact hR.out i _ (by omega) (List.getElem?_eq_getElem hi2)))
      go_wp2_with fail
      go_ret
      exact ⟨ret_bool HA.out.symm, hx⟩

theorem l9Text_any (s : ByteArray) (w : World) :
    Calls Tryz.prog 129 #[.string s] w fun e w' => e = .returned (.agg #[.int .i64 3, .int .i64 0, .string s]) ∧ Ext w w' := by
  go_enter Tryz.func129, Tryz.ntmps129
  go_wp2_with fail
  refine bodyPost_ret (v := .agg #[.int .i64 3, .int .i64 0, .string s]) (by simp [results, Tryz.results129, go_sem]) rfl ⟨rfl, (Ext.refl _).alloc _⟩
theorem value_text (s : ByteArray) : valueB ⟨3, 0, s⟩ = textB 200 s := by
  rw [Bool.eq_iff_iff, valueB_iff, textB_iff]
  simp only [ValOk, true_and, textB_iff]
  simp

set_option maxRecDepth 100000 in
set_option maxHeartbeats 4000000 in
theorem l9IsStore_any (x : MStore) (B : Nat) (ac : Option Addr) (cc : Nat) (ab : Option Addr) (cb : Nat) (au : Option Addr) (cu : Nat) (bk : Int) (w : World)
    (rc : Rep w (MClassInfos x.classes) [.slice ac x.classes.length cc]) (rb : Rep w (MObjects x.objects) [.slice ab x.objects.length cb]) (ru : Rep w (strs x.output) [.slice au x.output.length cu])
    (b0 : w.cell? ⟨B, 0, none⟩ = some (.slice ac x.classes.length cc)) (b1 : w.cell? ⟨B, 1, none⟩ = some (.slice ab x.objects.length cb)) (b2 : w.cell? ⟨B, 2, none⟩ = some (.slice au x.output.length cu))
    (b3 : w.cell? ⟨B, 3, none⟩ = some (.int .i64 x.ticks)) (b4 : w.cell? ⟨B, 4, none⟩ = some (.int .i64 x.budget)) (b5 : w.cell? ⟨B, 5, none⟩ = some (.int .i64 x.made)) (hz : StoreSz x) :
    Calls Tryz.prog 47 #[.pointer (some ⟨B, 0, none⟩), .int .i64 bk] w fun e w' => e = .returned (.bool (storeB bk x)) ∧ Ext w w' := by
  obtain ⟨cl, ob, ou, tk, bu, ma⟩ := x
  simp only at *
  obtain ⟨abo, cbo, bb, oB, h1, hlb, hmb, pb, hob⟩ := Rep.slmap rb
  simp only [List.cons.injEq, and_true, Value.slice.injEq] at h1
  obtain ⟨rfl, -, rfl⟩ := h1
  obtain ⟨auo, cuo, bo, oU, h1, hlu, hmu, pu, hou⟩ := Rep.strs ru
  simp only [List.cons.injEq, and_true, Value.slice.injEq] at h1
  obtain ⟨rfl, -, rfl⟩ := h1
  unfold maxLen at hmb hmu
  have RC := Lib.hid rc
  have HZ := Lib.hid hz
  clear rc rb ru hz

  have zB : B < w.heap.size := lt_of_cell b0
  have CC : Hid (∀ (b : Bool) W, Ext w W → clsB cl = b → Calls Tryz.prog 126 #[.slice ac cl.length cc] W fun e w' => e = .returned (.bool b) ∧ Ext W w') := Lib.hid fun b W h hb => (l8IsClasses_any cl _ W (Rep.ext h RC.out) HZ.out.1).mono fun e w' ⟨h1, h2⟩ => ⟨by rw [h1, hb], h2⟩
  have CB : Hid (∀ (n a b : Int) W (v : Bool), decide (a ≤ n ∧ n ≤ b) = v → Calls Tryz.prog 127 #[.int .i64 n, .int .i64 a, .int .i64 b] W fun e w' => e = .returned (.bool v) ∧ Ext W w') := Lib.hid fun n a b W v h => (l1In_any n a b W).mono fun e w' ⟨h1, h2⟩ => ⟨by rw [h1, ← h], by rw [h2]; exact Ext.refl _⟩
  go_enter Tryz.func47, Tryz.ntmps47
  have s0 := b0
  have s1 := b1
  have s2 := b2
  have s3 := b3
  have s4 := b4
  have s5 := b5
  by_cases K0 : clsB cl = true
  rotate_left
  · have HK0 : Hid (clsB cl = false) := Lib.hid (Bool.eq_false_iff.2 K0)
    clear K0
    go_wp2_with fail
    have r0 := reg (Ext.refl _) s0
    have r1 := reg (Ext.refl _) s1
    have r2 := reg (Ext.refl _) s2
    have r3 := reg (Ext.refl _) s3
    have r4 := reg (Ext.refl _) s4
    have r5 := reg (Ext.refl _) s5
    refine wp_region_quiet_below (by kernel_rfl) (by kernel_rfl) ?_
    repeat (go_big_quiet_step (first | (go_at_call 126; exact Calls.regrown_of (CC.out _ _ (regx _ _) HK0.out)) | (go_at_call 127; exact Calls.regrown_of (CB.out _ _ _ _ _ (by first | exact HK1.out | exact HK3.out | exact HK4.out)))))
    refine wpQuiet_nil ?_
    clear r0 r1 r2 r3 r4 r5
    intro _ hw'
    obtain ⟨pw, hw''⟩ := hw'
    subst hw''
    have XW9 := regx w pw
    generalize hWR : «Sort».grow (redrawn w pw.d) pw.os = W9 at *
    clear hWR
    go_wp2_with fail
    go_ret
    exact ⟨ret_bool (storeB_ff (fun h => by exact absurd (clsB_tt h.1) (by rw [HK0.out]; decide))).symm, XW9⟩
  have HK0 := Lib.hid K0
  clear K0
  by_cases K1 : (ob.length : Int) ≤ ma ∧ ma ≤ 800
  rotate_left
  · have HK1 := Lib.hid (decide_eq_false K1)
    clear K1
    go_wp2_with fail
    have r0 := reg (Ext.refl _) s0
    have r1 := reg (Ext.refl _) s1
    have r2 := reg (Ext.refl _) s2
    have r3 := reg (Ext.refl _) s3
    have r4 := reg (Ext.refl _) s4
    have r5 := reg (Ext.refl _) s5
    refine wp_region_quiet_below (by kernel_rfl) (by kernel_rfl) ?_
    repeat (go_big_quiet_step (first | (go_at_call 126; exact Calls.regrown_of (CC.out _ _ (regx _ _) HK0.out)) | (go_at_call 127; exact Calls.regrown_of (CB.out _ _ _ _ _ (by first | exact HK1.out | exact HK3.out | exact HK4.out)))))
    refine wpQuiet_nil ?_
    clear r0 r1 r2 r3 r4 r5
    intro _ hw'
    obtain ⟨pw, hw''⟩ := hw'
    subst hw''
    have XW9 := regx w pw
    generalize hWR : «Sort».grow (redrawn w pw.d) pw.os = W9 at *
    clear hWR
    go_wp2_with fail
    go_ret
    exact ⟨ret_bool (storeB_ff (fun h => by exact absurd h.2.1 (of_decide_eq_false HK1.out))).symm, XW9⟩
  have HK1 := Lib.hid (decide_eq_true K1)
  clear K1
  by_cases K2 : ou.length ≤ 60
  rotate_left
  · have HK2 := Lib.hid K2
    have g2 : (60 : Int) < (ou.length : Int) := by omega
    clear K2
    go_wp2_with fail
    have r0 := reg (Ext.refl _) s0
    have r1 := reg (Ext.refl _) s1
    have r2 := reg (Ext.refl _) s2
    have r3 := reg (Ext.refl _) s3
    have r4 := reg (Ext.refl _) s4
    have r5 := reg (Ext.refl _) s5
    refine wp_region_quiet_below (by kernel_rfl) (by kernel_rfl) ?_
    repeat (go_big_quiet_step (first | (go_at_call 126; exact Calls.regrown_of (CC.out _ _ (regx _ _) HK0.out)) | (go_at_call 127; exact Calls.regrown_of (CB.out _ _ _ _ _ (by first | exact HK1.out | exact HK3.out | exact HK4.out)))))
    refine wpQuiet_nil ?_
    clear r0 r1 r2 r3 r4 r5
    intro _ hw'
    obtain ⟨pw, hw''⟩ := hw'
    subst hw''
    have XW9 := regx w pw
    generalize hWR : «Sort».grow (redrawn w pw.d) pw.os = W9 at *
    clear hWR
    go_wp2_with fail
    go_ret
    exact ⟨ret_bool (storeB_ff (fun h => by exact absurd h.2.2.1 HK2.out)).symm, XW9⟩
  have HK2 := Lib.hid K2
  have g2 : decide ((60 : Int) < (ou.length : Int)) = false := decide_eq_false (by omega)
  clear K2
  by_cases K3 : 0 ≤ bu ∧ bu ≤ 3000
  rotate_left
  · have HK3 := Lib.hid (decide_eq_false K3)
    clear K3
    go_wp2_with fail
    have r0 := reg (Ext.refl _) s0
    have r1 := reg (Ext.refl _) s1
    have r2 := reg (Ext.refl _) s2
    have r3 := reg (Ext.refl _) s3
    have r4 := reg (Ext.refl _) s4
    have r5 := reg (Ext.refl _) s5
    refine wp_region_quiet_below (by kernel_rfl) (by kernel_rfl) ?_
    repeat (go_big_quiet_step (first | (go_at_call 126; exact Calls.regrown_of (CC.out _ _ (regx _ _) HK0.out)) | (go_at_call 127; exact Calls.regrown_of (CB.out _ _ _ _ _ (by first | exact HK1.out | exact HK3.out | exact HK4.out)))))
    refine wpQuiet_nil ?_
    clear r0 r1 r2 r3 r4 r5
    intro _ hw'
    obtain ⟨pw, hw''⟩ := hw'
    subst hw''
    have XW9 := regx w pw
    generalize hWR : «Sort».grow (redrawn w pw.d) pw.os = W9 at *
    clear hWR
    go_wp2_with fail
    go_ret
    exact ⟨ret_bool (storeB_ff (fun h => by exact absurd h.2.2.2.1 (of_decide_eq_false HK3.out))).symm, XW9⟩
  have HK3 := Lib.hid (decide_eq_true K3)
  clear K3
  by_cases K4 : 0 ≤ tk ∧ tk ≤ bu
  rotate_left
  · have HK4 := Lib.hid (decide_eq_false K4)
    clear K4
    go_wp2_with fail
    have r0 := reg (Ext.refl _) s0
    have r1 := reg (Ext.refl _) s1
    have r2 := reg (Ext.refl _) s2
    have r3 := reg (Ext.refl _) s3
    have r4 := reg (Ext.refl _) s4
    have r5 := reg (Ext.refl _) s5
    refine wp_region_quiet_below (by kernel_rfl) (by kernel_rfl) ?_
    repeat (go_big_quiet_step (first | (go_at_call 126; exact Calls.regrown_of (CC.out _ _ (regx _ _) HK0.out)) | (go_at_call 127; exact Calls.regrown_of (CB.out _ _ _ _ _ (by first | exact HK1.out | exact HK3.out | exact HK4.out)))))
    refine wpQuiet_nil ?_
    clear r0 r1 r2 r3 r4 r5
    intro _ hw'
    obtain ⟨pw, hw''⟩ := hw'
    subst hw''
    have XW9 := regx w pw
    generalize hWR : «Sort».grow (redrawn w pw.d) pw.os = W9 at *
    clear hWR
    go_wp2_with fail
    go_ret
    exact ⟨ret_bool (storeB_ff (fun h => by exact absurd h.2.2.2.2.1 (of_decide_eq_false HK4.out))).symm, XW9⟩
  have HK4 := Lib.hid (decide_eq_true K4)
  clear K4
  go_wp2_with fail
  have r0 := reg (Ext.refl _) s0
  have r1 := reg (Ext.refl _) s1
  have r2 := reg (Ext.refl _) s2
  have r3 := reg (Ext.refl _) s3
  have r4 := reg (Ext.refl _) s4
  have r5 := reg (Ext.refl _) s5
  refine wp_region_quiet_below (by kernel_rfl) (by kernel_rfl) ?_
  repeat (go_big_quiet_step (first | (go_at_call 126; exact Calls.regrown_of (CC.out _ _ (regx _ _) HK0.out)) | (go_at_call 127; exact Calls.regrown_of (CB.out _ _ _ _ _ (by first | exact HK1.out | exact HK3.out | exact HK4.out)))))
  refine wpQuiet_nil ?_
  clear r0 r1 r2 r3 r4 r5
  intro _ hw'
  obtain ⟨pw, hw''⟩ := hw'
  subst hw''
  have XW9 := regx w pw
  generalize hWR : «Sort».grow (redrawn w pw.d) pw.os = W9 at *
  clear hWR
  go_wp2_with fail
  have t0 := Ext.cell XW9 s0
  have t1 := Ext.cell XW9 s1
  have t2 := Ext.cell XW9 s2
  have t3 := Ext.cell XW9 s3
  have t4 := Ext.cell XW9 s4
  have t5 := Ext.cell XW9 s5
  have x9 := XW9
  clear s0 s1 s2 s3 s4 s5 XW9
  have HOU : Hid (∀ (i : Nat) (s : ByteArray), ou[i]? = some s → s.size ≤ 1048576) := Lib.hid fun i s hs => HZ.out.2.1 s (List.mem_of_getElem? hs)
  go_loopw [5] (fun iv wr => ∃ k : Nat, k ≤ ou.length ∧ iv = .int .i64 k ∧ Ext W9 wr ∧ Hid (∀ (i : Nat) (s : ByteArray), i < k → ou[i]? = some s → TextOk 200 s)) (fun iv _ => ou.length - (intOf iv).toNat)
  case atStart => exact ⟨0, Nat.zero_le _, rfl, Ext.refl _, Lib.hid fun i v hi => by omega⟩
  case round =>
    obtain ⟨k, hk, rfl, hx1, hR⟩ := hrel
    have hx := x9.trans hx1
    have S2 := Ext.cell hx1 t2
    by_cases hlt : k < ou.length
    · obtain rfl := pu (by omega)
      obtain ⟨z, hz⟩ : ∃ z, z = ou[k] := ⟨_, rfl⟩
      have hzk : ou[k]? = some z := by rw [hz]; simp [hlt]
      clear hz
      have q0 := hx.cell (hou k z hzk)
      have HZ1 := Lib.hid (HOU.out k z hzk)
      have HZK := Lib.hid hzk; clear hzk
      have CV : Hid (∀ (b : Bool) W, textB 200 z = b → Calls Tryz.prog 128 #[.agg #[.int .i64 3, .int .i64 0, .string z]] W fun e w' => e = .returned (.bool b) ∧ Ext W w') := Lib.hid fun b W hb => by
        have := spec_IsValue_any ⟨3, 0, z⟩ [.int .i64 3, .int .i64 0, .string z] W (MValue.shut (w := W) (x := ⟨3, 0, z⟩)).rep HZ1.out
        rw [value_text, hb] at this
        exact this
      cases ht : textB 200 z
      · have HTB := Lib.hid ht
        have HF : Hid (¬ ∀ s, s ∈ ou → TextOk 200 s) := Lib.hid fun h => by
          have := textB_tt (h _ (List.mem_of_getElem? HZK.out))
          rw [ht] at this; cases this
        clear ht
        go_wp2_with fail
        refine (l9Text_any z wr).mono ?_
        rintro e w3 ⟨rfl, hx3⟩
        go_wp2_with fail
        refine (CV.out _ w3 HTB.out).mono ?_
        rintro e w4 ⟨rfl, hx4⟩
        go_wp2_with fail
        go_ret
        exact ⟨ret_bool (storeB_ff (fun h => HF.out h.2.2.2.2.2.1)).symm, (hx.trans hx3).trans hx4⟩
      · have HTB := Lib.hid ht
        have HF := Lib.hid (textB_iff.1 ht); clear ht
        go_wp2_with fail
        refine (l9Text_any z wr).mono ?_
        rintro e w3 ⟨rfl, hx3⟩
        go_wp2_with fail
        refine (CV.out _ w3 HTB.out).mono ?_
        rintro e w4 ⟨rfl, hx4⟩
        go_wp2_with fail
        go_roundw
        case rel => exact ⟨k + 1, by omega, by go_num, (hx1.trans hx3).trans hx4, Lib.hid fun i s hi hs => by
          by_cases h2 : i < k
          · exact hR.out i s h2 hs
          · obtain rfl : i = k := by omega
            rw [HZK.out] at hs; injection hs with hs; subst hs; exact HF.out⟩
        case measure => simp [intOf]; omega
    have HT : Hid (∀ s, s ∈ ou → TextOk 200 s) := Lib.hid fun s hs => by
      obtain ⟨i, hi, rfl⟩ := List.mem_iff_getElem.1 hs
      exact hR.out i _ (by omega) (by simp [hi])
    have HKA : Hid (ClsOk cl ∧ ((ob.length : Int) ≤ ma ∧ ma ≤ 800) ∧ ou.length ≤ 60 ∧ (0 ≤ bu ∧ bu ≤ 3000) ∧ (0 ≤ tk ∧ tk ≤ bu) ∧ ∀ s, s ∈ ou → TextOk 200 s) := Lib.hid ⟨clsB_iff.1 HK0.out, of_decide_eq_true HK1.out, HK2.out, of_decide_eq_true HK3.out, of_decide_eq_true HK4.out, HT.out⟩
    clear hou pu
    obtain ⟨wa, hwa⟩ : ∃ x, x = wr := ⟨_, rfl⟩
    subst hwa
    go_wp2_with fail
    clear hk hlt hR
    go_loopw [6] (fun iv wr => ∃ k : Nat, k ≤ ob.length ∧ iv = .int .i64 k ∧ Ext wa wr ∧ Hid (∀ (i : Nat) (o : MObject), i < k → ob[i]? = some o → ObjOk cl ob.length bk o)) (fun iv _ => ob.length - (intOf iv).toNat)
    case atStart => exact ⟨0, Nat.zero_le _, rfl, Ext.refl _, Lib.hid fun i v hi => by omega⟩
    case round =>
      obtain ⟨j, hj, rfl, hx2, hR⟩ := hrel
      have hy := hx.trans hx2
      have hz := hx1.trans hx2
      have S1 := Ext.cell hz t1
      by_cases hlt : j < ob.length
      · obtain rfl := pb (by omega)
        obtain ⟨z, hz1⟩ : ∃ z, z = ob[j] := ⟨_, rfl⟩
        have hzj : ob[j]? = some z := by rw [hz1]; simp [hlt]
        clear hz1
        obtain ⟨es, les, ces, res⟩ := hob j z hzj
        have RO := Lib.hid res
        obtain ⟨af, cf, an, cn, rfl, rf, rn⟩ := MObject.op_en res
        clear res rf rn les
        have q0 := hy.cell (show w.cell? ⟨bb, oB + j * 4, none⟩ = some _ from ces 0 (by omega))
        have q1 := hy.cell (show w.cell? ⟨bb, oB + j * 4 + 1, none⟩ = some _ from ces 1 (by omega))
        have q2 := hy.cell (show w.cell? ⟨bb, oB + j * 4 + 2, none⟩ = some _ from ces 2 (by omega))
        have q3 := hy.cell (show w.cell? ⟨bb, oB + j * 4 + 3, none⟩ = some _ from ces 3 (by omega))
        have HZJ := Lib.hid hzj
        have CE : Hid (∀ W, Ext w W → Calls Tryz.prog 130 #[.pointer (some ⟨B, 0, none⟩), .agg #[.int .i64 z.kind, .int .i64 z.cls, .slice af z.fields.length cf, .slice an z.numbers.length cn], .int .i64 bk] W fun e w' => e = .returned (.bool (objB cl ob.length bk z)) ∧ Ext W w') := Lib.hid fun W h => l9Object_any cl z [.int .i64 z.kind, .int .i64 z.cls, .slice af z.fields.length cf, .slice an z.numbers.length cn] B _ _ _ _ _ bk W (h.cell b0) (h.cell b1) (Rep.ext h RC.out) (Rep.ext h RO.out) HKA.out.1 (fun v hv => HZ.out.2.2 z (List.mem_of_getElem? HZJ.out) v hv)
        clear ces hzj
        obtain ⟨zk, zc, zf, zn⟩ := z
        simp only at q0 q1 q2 q3 CE HZJ
        cases hfit : objB cl ob.length bk ⟨zk, zc, zf, zn⟩
        · have HF : Hid (¬ ∀ o, o ∈ ob → ObjOk cl ob.length bk o) := Lib.hid fun h => by
            have := objB_iff.2 (h _ (List.mem_of_getElem? HZJ.out))
            rw [hfit] at this; cases this
          rw [hfit] at CE; clear hfit
          go_wp2_with fail
          refine (CE.out _ hy).mono ?_
          rintro e w3 ⟨rfl, hx3⟩
          go_wp2_with fail
          go_ret
          exact ⟨ret_bool (storeB_ff (fun h => HF.out h.2.2.2.2.2.2)).symm, hy.trans hx3⟩
        · have HF := Lib.hid (objB_iff.1 hfit)
          rw [hfit] at CE; clear hfit
          go_wp2_with fail
          refine (CE.out _ hy).mono ?_
          rintro e w3 ⟨rfl, hx3⟩
          go_wp2_with fail
          go_roundw
          case rel => exact ⟨j + 1, by omega, by go_num, hx2.trans hx3, Lib.hid fun i v hi hv => by
            by_cases h2 : i < j
            · exact hR.out i v h2 hv
            · obtain rfl : i = j := by omega
              rw [HZJ.out] at hv; injection hv with hv; subst hv; exact HF.out⟩
          case measure => simp [intOf]; omega
      have HA : Hid (storeB bk ⟨cl, ob, ou, tk, bu, ma⟩ = true) := Lib.hid (storeB_tt (by
        obtain ⟨h1, h2, h3, h4, h5, h6⟩ := HKA.out
        refine ⟨h1, h2, h3, h4, h5, h6, fun o ho => ?_⟩
        obtain ⟨i, hi, rfl⟩ := List.mem_iff_getElem.1 ho
        have hi2 : i < ob.length := hi
        exact hR.out i _ (by omega) (List.getElem?_eq_getElem hi2)))
      go_wp2_with fail
      go_ret
      exact ⟨ret_bool HA.out.symm, hy⟩

end Go.Proofs.YticdmbmjlaomiaaGreatDoor
