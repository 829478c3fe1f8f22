/-
  FnExactFormatCode: the program's FormatCode gives what the reference's gives, for all arguments.
  Conditions: none.
-/
import Derived.Test.YtihibfdnmbapkaaDoorDoorLaw
import Derived.Deep.RegionHeld3
import Derived.Test.YtihibfdnmbapkaaDoorEq
import Derived.Test.YtihibfdnmbapkaaDoorSz
import Derived.Test.YtihibfdnmbapkaaDoorTo
import Derived.Test.YtihibfdnmbapkaaDoorArgTypes
import Derived.Test.YtihibfdnmbapkaaDoorMark
import Derived.Test.YtihibfdnmbapkaaDoorFnCodeText
namespace Go.Proofs.YtihibfdnmbapkaaDoor
open Go.ChangeShapes Go.WideShapes Go.ChangeAt Go.RowKit Go.Joins
open Go.ChangeMaps (open_string)
set_option linter.unusedSimpArgs false
set_option linter.unusedVariables false


theorem codeL_len (x : MCode) (h : x.d.bulk ≤ 1048576) : (codeL x).length ≤ 1048577 := by
  have := (code_bulk h).1
  simp [codeL]; omega
set_option maxHeartbeats 1000000 in
theorem markInstrS_touch (l : List MInstr) (v : Value) (fp : List Nat) (k0 : Int) (w : World) (hr : RepF w (MInstrs l) [v] fp) (ho : ∀ b, b ∈ fp → ∃ C e, Own w b e C) (h0 : 0 ≤ k0) (h1 : k0 + 4 * l.length ≤ 1099511627776) :
    Calls Tryd.prog 75 #[v, .int .i64 k0] w fun e w' => e = .returned (.int .i64 (k0 + 4 * l.length)) ∧ Touch w w' fp := by
  obtain ⟨ao, cap, hv, hl, hm, hn, h⟩ := RepF.sl_iff.1 hr
  simp only [List.cons.injEq, and_true, List.length_map] at hv hl
  subst hv
  unfold maxLen at hm
  rcases h with ⟨h, rfl⟩ | ⟨b, o, cells, fp', hne, rfl, rfl, hb, h4, h5⟩
  · obtain rfl : l = [] := by simpa using h
    go_enter Tryd.func75, Tryd.ntmps75
    go_wp2_with fail
    refine wp_loop_rounds 1 ?_
    rw [rounds_succ]
    go_wp2_with fail
    go_ret
    exact ⟨ret_int (by simp), Touch.of_ext (Ext.refl _) _⟩
  · have hpos : 0 < l.length := by cases l with | nil => exact absurd rfl hne | cons _ _ => simp
    obtain ⟨C, e, hO⟩ := ho b (by simp)
    have hcl : cells.length = l.length * 4 := by have := h5.length; simpa using this
    have hsz : o + l.length * 4 ≤ C.size := by
      have hj : l.length * 4 - 1 < cells.length := by omega
      have h6 := h4 (l.length * 4 - 1) _ (List.getElem?_eq_getElem hj)
      rw [hO.cell] at h6
      have := (Array.getElem?_eq_some_iff.1 h6).1
      omega
    clear hr ho h4 h5 hcl hn hne hb
    go_enter Tryd.func75, Tryd.ntmps75
    go_wp2_with fail
    go_loopw [1, 5] (fun kv iv wr => ∃ (i : Nat) (C' : Array Value), i ≤ l.length ∧ iv = .int .i64 i ∧ kv = .int .i64 (k0 + 4 * i) ∧ Own wr b e C' ∧ Touch w wr (b :: fp') ∧ C.size ≤ C'.size) (fun _ iv _ => l.length - (intOf iv).toNat)
    case atStart => exact ⟨0, C, Nat.zero_le _, rfl, by go_num, hO, Touch.of_ext (Ext.refl _) _, Nat.le_refl _⟩
    case round =>
      obtain ⟨i, C', hi, rfl, rfl, hO', hT, hS⟩ := hrel
      by_cases hlt : i < l.length
      · obtain ⟨v0, c0⟩ := hO'.some (o + i * 4) (by omega)
        obtain ⟨v1, c1⟩ := hO'.some (o + i * 4 + 1) (by omega)
        obtain ⟨v2, c2⟩ := hO'.some (o + i * 4 + 2) (by omega)
        have f0 := hO'.frozen (o + i * 4)
        have f1 := hO'.frozen (o + i * 4 + 1)
        have f2 := hO'.frozen (o + i * 4 + 2)
        go_wp2_with fail
        refine (markText_any _ _ (by omega) (by omega)).mono ?_
        rintro e2 w2 ⟨rfl, hx2⟩
        have hO2 := (((hO'.set (o + i * 4) _).set (o + i * 4 + 1) _).set (o + i * 4 + 2) _).ext hx2
        have hT2 := (((hT.setCell (b := b) (o := o + i * 4) (by simp) _).setCell (b := b) (o := o + i * 4 + 1) (by simp) _).setCell (b := b) (o := o + i * 4 + 2) (by simp) _).trans (Touch.of_ext hx2 _)
        obtain ⟨v3, c3⟩ := hO2.some (o + i * 4 + 3) (by simp; omega)
        have f3 := hO2.frozen (o + i * 4 + 3)
        clear c0 c1 c2 f0 f1 f2
        go_wp2_with fail
        clear c3 f3
        go_roundw
        case rel => exact ⟨i + 1, _, by omega, by go_num, by go_num, hO2.set _ _, hT2.setCell (by simp) _, by simp; omega⟩
        case measure => simp [intOf]; omega
      · go_wp2_with fail
        go_ret
        obtain rfl : i = l.length := by omega
        exact ⟨rfl, hT⟩

set_option maxHeartbeats 1000000 in
theorem markCode_touch (x : MCode) (cx : List Value) (fp : List Nat) (k0 : Int) (w : World) (hr : RepF w x.d cx fp) (ho : ∀ b, b ∈ fp → ∃ C e, Own w b e C) (h0 : 0 ≤ k0) (h1 : k0 + 4 * x.instrs.length ≤ 1099511627776) :
    Calls Tryd.prog 24 #[.agg cx.toArray, .int .i64 k0] w fun e w' => e = .returned (.int .i64 (k0 + 4 * x.instrs.length)) ∧ Touch w w' fp := by
  rw [MCode.d_eq] at hr
  obtain ⟨c2, rfl, h2⟩ := RepS.un_bool (RepF.un_st hr)
  obtain ⟨c3, rfl, h3⟩ := RepS.un_int h2
  obtain ⟨c4, rfl, h4⟩ := RepS.un_int h3
  obtain ⟨ao, cap, c5, f1, f2, rfl, rfl, h5, h6⟩ := RepS.un_sl h4
  simp only [RepS] at h6
  obtain ⟨rfl, rfl⟩ := h6
  simp only [List.length_map, List.append_nil] at *
  go_enter Tryd.func24, Tryd.ntmps24
  go_wp2_with fail
  refine (markInstrS_touch x.instrs _ f1 k0 _ (RepF.ext ((Ext.refl w).alloc _) h5) (fun b hb => let ⟨C, e, hO⟩ := ho b hb; ⟨C, e, hO.ext ((Ext.refl w).alloc _)⟩) h0 h1).mono ?_
  rintro e w2 ⟨rfl, hT⟩
  go_wp2_with fail
  go_ret
  exact ⟨rfl, (Touch.of_ext ((Ext.refl w).alloc _) _).trans hT⟩


set_option maxHeartbeats 2000000 in
set_option maxRecDepth 100000 in
theorem fnExactFormatCode_calls (x : MCode) (cx : List Value) (w : World) (rx : Rep w x.d cx) (ox : x.d.ok) (hM : TabOk w) : Calls Tryd.prog 4 #[.agg cx.toArray] w fun e w' => e = .returned (.bool true) ∧ Ext w w' := by
  have RX := Lib.hid rx; have OX := Lib.hid ox
  obtain ⟨ai, ci, rfl, -⟩ := MCode.op_en rx
  clear rx ox
  go_enter Tryd.func4, Tryd.ntmps4
  go_wp2_with fail
  refine (szCode_any x _ 1048576 _ (by omega) (by omega) (Rep.ext ((Ext.refl w).alloc _) RX.out) OX.out).mono ?_
  rintro e w1 ⟨q1, rfl, hq, hx1⟩
  have mx0 := Ext.cell hx1 (show (w.alloc (.cells #[.bool x.block, .int .i64 x.params, .int .i64 x.slots, .slice ai x.instrs.length ci] 31)).cell? ⟨w.heap.size, 0, none⟩ = some (.bool x.block) by simp)
  have mx1 := Ext.cell hx1 (show (w.alloc (.cells #[.bool x.block, .int .i64 x.params, .int .i64 x.slots, .slice ai x.instrs.length ci] 31)).cell? ⟨w.heap.size, 1, none⟩ = some (.int .i64 x.params) by simp)
  have mx2 := Ext.cell hx1 (show (w.alloc (.cells #[.bool x.block, .int .i64 x.params, .int .i64 x.slots, .slice ai x.instrs.length ci] 31)).cell? ⟨w.heap.size, 2, none⟩ = some (.int .i64 x.slots) by simp)
  have mx3 := Ext.cell hx1 (show (w.alloc (.cells #[.bool x.block, .int .i64 x.params, .int .i64 x.slots, .slice ai x.instrs.length ci] 31)).cell? ⟨w.heap.size, 3, none⟩ = some (.slice ai x.instrs.length ci) by simp)
  have e1 := ((Ext.refl w).alloc (.cells #[.bool x.block, .int .i64 x.params, .int .i64 x.slots, .slice ai x.instrs.length ci] 31)).trans hx1
  rcases hq with rfl | ⟨hq1, hqe⟩
  · go_wp2_with fail
    go_ret
    exact ⟨rfl, e1⟩
  have B : Hid (x.d.bulk ≤ 1048576) := Lib.hid (by omega)
  have HL := Lib.hid (codeL_len x B.out)
  have HI := Lib.hid (code_bulk B.out).1
  clear hqe hx1
  go_wp2_with fail
  refine (toCode_any x _ _ (Rep.ext e1 RX.out) B.out).mono ?_
  rintro e w2 ⟨cs2, fp2, rfl, hr2, hf2, hx2⟩
  go_wp2_with fail
  refine (spec_FormatCode_any x _ _ hr2.rep B.out OX.out).mono ?_
  rintro e w3 ⟨a3, n3, c3, f3, rfl, hr3, hf3, hx3⟩
  replace mx0 := Ext.cell (hx2.trans hx3) mx0
  replace mx1 := Ext.cell (hx2.trans hx3) mx1
  replace mx2 := Ext.cell (hx2.trans hx3) mx2
  replace mx3 := Ext.cell (hx2.trans hx3) mx3
  have MX0 := Lib.hid mx0
  have e3 := (e1.trans hx2).trans hx3
  have H3 := Lib.hid hr3; have F3 := Lib.hid (hf3.mono (Nat.le_trans e1.size hx2.size))
  clear hr2 hf2 hr3 hf3 hx2 hx3
  go_wp2_with fail
  refine (toCode_any x _ _ (Rep.ext e3 RX.out) B.out).mono ?_
  rintro e w4 ⟨cs4, fp4, rfl, hr4, hf4, hx4⟩
  obtain ⟨n4, d4, rfl, -⟩ := MCode.op_en hr4.rep
  have H4 := Lib.hid hr4; have F4 := Lib.hid hf4
  clear hr4 hf4
  replace mx0 := Ext.cell hx4 mx0
  replace mx1 := Ext.cell hx4 mx1
  replace mx2 := Ext.cell hx4 mx2
  replace mx3 := Ext.cell hx4 mx3
  have e4 := e3.trans hx4
  go_wp2_with fail
  refine (impl_FormatCode_any x _ _ (Rep.ext ((Ext.refl _).alloc _) H4.out.rep) B.out OX.out (hM.ext (e4.alloc _))).mono ?_
  rintro e w5 ⟨a5, n5, c5, f5, rfl, hr5, hf5, hx5⟩
  have H5 := Lib.hid hr5; have F5 := Lib.hid (hf5.mono (B' := w4.heap.size + 1) (by simp))
  clear hr5 hf5
  have nx0 := Ext.cell hx5 (show (w4.alloc (.cells #[.bool x.block, .int .i64 x.params, .int .i64 x.slots, .slice n4 x.instrs.length d4] 37)).cell? ⟨w4.heap.size, 0, none⟩ = some (.bool x.block) by simp)
  have nx1 := Ext.cell hx5 (show (w4.alloc (.cells #[.bool x.block, .int .i64 x.params, .int .i64 x.slots, .slice n4 x.instrs.length d4] 37)).cell? ⟨w4.heap.size, 1, none⟩ = some (.int .i64 x.params) by simp)
  have nx2 := Ext.cell hx5 (show (w4.alloc (.cells #[.bool x.block, .int .i64 x.params, .int .i64 x.slots, .slice n4 x.instrs.length d4] 37)).cell? ⟨w4.heap.size, 2, none⟩ = some (.int .i64 x.slots) by simp)
  have nx3 := Ext.cell hx5 (show (w4.alloc (.cells #[.bool x.block, .int .i64 x.params, .int .i64 x.slots, .slice n4 x.instrs.length d4] 37)).cell? ⟨w4.heap.size, 3, none⟩ = some (.slice n4 x.instrs.length d4) by simp)
  replace mx0 := Ext.cell (((Ext.refl w4).alloc _).trans hx5) mx0
  replace mx1 := Ext.cell (((Ext.refl w4).alloc _).trans hx5) mx1
  replace mx2 := Ext.cell (((Ext.refl w4).alloc _).trans hx5) mx2
  replace mx3 := Ext.cell (((Ext.refl w4).alloc _).trans hx5) mx3
  have x45 := ((Ext.refl w4).alloc (.cells #[.bool x.block, .int .i64 x.params, .int .i64 x.slots, .slice n4 x.instrs.length d4] 37)).trans hx5
  have z45 : w4.heap.size < w5.heap.size := lt_of_cell nx0
  have ht : eqB (codeL x) (codeL x) = true := eqB_tt rfl
  clear hx5
  go_wp2_with fail
  refine (eqStringS_any _ _ _ _ _ H5.out.rep (Rep.ext (hx4.trans x45) H3.out.rep)).mono ?_
  rintro e w6 ⟨rfl, hx6⟩
  replace mx0 := Ext.cell hx6 mx0
  replace mx1 := Ext.cell hx6 mx1
  replace mx2 := Ext.cell hx6 mx2
  replace mx3 := Ext.cell hx6 mx3
  replace nx0 := Ext.cell hx6 nx0
  replace nx1 := Ext.cell hx6 nx1
  replace nx2 := Ext.cell hx6 nx2
  replace nx3 := Ext.cell hx6 nx3
  have e6 := (e4.trans x45).trans hx6
  have htx : eqB x x = true := eqB_tt rfl
  have zx : w.heap.size < w6.heap.size := lt_of_cell mx0
  have znx : w4.heap.size < w6.heap.size := lt_of_cell nx0
  go_wp2_with fail
  have KS : Hid (∀ w', Ext w6 w' → w'.cell? ⟨w.heap.size, 0, none⟩ = some (.bool x.block) ∧ w'.cell? ⟨w.heap.size, 1, none⟩ = some (.int .i64 x.params) ∧ w'.cell? ⟨w.heap.size, 2, none⟩ = some (.int .i64 x.slots) ∧ w'.cell? ⟨w.heap.size, 3, none⟩ = some (.slice ai x.instrs.length ci) ∧ w'.cell? ⟨w4.heap.size, 0, none⟩ = some (.bool x.block) ∧ w'.cell? ⟨w4.heap.size, 1, none⟩ = some (.int .i64 x.params) ∧ w'.cell? ⟨w4.heap.size, 2, none⟩ = some (.int .i64 x.slots) ∧ w'.cell? ⟨w4.heap.size, 3, none⟩ = some (.slice n4 x.instrs.length d4) ∧ Ext w6 w') := Lib.hid fun w' h => ⟨Ext.cell h mx0, Ext.cell h mx1, Ext.cell h mx2, Ext.cell h mx3, Ext.cell h nx0, Ext.cell h nx1, Ext.cell h nx2, Ext.cell h nx3, h⟩
  go_region_held3 (fun w' => w'.cell? ⟨w.heap.size, 0, none⟩ = some (.bool x.block) ∧ w'.cell? ⟨w.heap.size, 1, none⟩ = some (.int .i64 x.params) ∧ w'.cell? ⟨w.heap.size, 2, none⟩ = some (.int .i64 x.slots) ∧ w'.cell? ⟨w.heap.size, 3, none⟩ = some (.slice ai x.instrs.length ci) ∧ w'.cell? ⟨w4.heap.size, 0, none⟩ = some (.bool x.block) ∧ w'.cell? ⟨w4.heap.size, 1, none⟩ = some (.int .i64 x.params) ∧ w'.cell? ⟨w4.heap.size, 2, none⟩ = some (.int .i64 x.slots) ∧ w'.cell? ⟨w4.heap.size, 3, none⟩ = some (.slice n4 x.instrs.length d4) ∧ Ext w6 w')
    (first | exact KS.out _ (Ext.drew (Ext.refl _)) | exact KS.out _ (Ext.trans (Ext.trans (Ext.drew (Ext.refl _)) hx7) hx8) | exact KS.out _ (Ext.trans (Ext.drew (Ext.refl _)) hx7))
    (first | (go_at_call 20; refine (toCode_any x _ _ (Rep.ext (Ext.drew e6) RX.out) B.out).mono ?_; rintro e w7 ⟨cs7, fp7, rfl, hr7, hf7, hx7⟩) | (go_at_call 23; refine (eqCode_any x x _ _ _ (Rep.ext (Ext.trans (Ext.trans (Ext.trans x45 hx6) (Ext.drew (Ext.refl _))) hx7) H4.out.rep) hr7.rep).mono ?_; rintro e w8 ⟨rfl, hx8⟩))
  have x68 := Ext.trans (Ext.trans (Ext.drew (Ext.refl w6)) hx7) hx8
  have e8 := e6.trans x68
  replace mx0 := Ext.cell x68 mx0
  replace mx1 := Ext.cell x68 mx1
  replace mx2 := Ext.cell x68 mx2
  replace mx3 := Ext.cell x68 mx3
  replace nx0 := Ext.cell x68 nx0
  replace nx1 := Ext.cell x68 nx1
  replace nx2 := Ext.cell x68 nx2
  replace nx3 := Ext.cell x68 nx3
  have x48 := (x45.trans hx6).trans x68
  clear KS hr7 hf7 hx7 hx8
  go_wp2_with fail
  refine (markCode_touch x _ fp4 1 w8 (H4.out.ext x48) (F4.out.ext x48).own (by omega) (by have := HI.out; omega)).mono ?_
  rintro e w9 ⟨rfl, ht9⟩
  have e9 : Ext w w9 := ht9.ext e8 fun b hb => by have := F4.out.ge b hb; have := e3.size; omega
  have G5 : Hid (RepF w9 (strs (codeL x)) _ f5) := Lib.hid (((H5.out.ext hx6).ext x68).touch ht9 fun b hb hb2 => by
    have := F5.out.ge b hb; have := F4.out.lt hb2; (try simp at this); omega)
  have O5 : Hid (∀ b, b ∈ f5 → ∃ C e, Own w9 b e C) := Lib.hid fun b hb => by
    obtain ⟨C, e, hO⟩ := ((F5.out.ext hx6).ext x68).own b hb
    exact ⟨C, e, (ht9.block b hO.lt fun hb2 => by have := F5.out.ge b hb; have := F4.out.lt hb2; (try simp at this); omega).trans hO⟩
  have G3 : Hid (RepF w9 (strs (codeL x)) _ f3) := Lib.hid (((H3.out.ext hx4).ext x48).touch ht9 fun b hb hb2 => by
    have := F3.out.lt hb; have := F4.out.ge b hb2; omega)
  have hb9 : ∀ b o v, w8.cell? ⟨b, o, none⟩ = some v → b < w3.heap.size → w9.cell? ⟨b, o, none⟩ = some v := fun b o v h hb => by
    rw [World.cell?_of_block (w := w8) (ht9.block b (lt_of_cell h) fun hb2 => by have := F4.out.ge b hb2; omega)]; exact h
  have z3 : w.heap.size < w3.heap.size := lt_of_cell MX0.out
  replace mx0 := hb9 _ _ _ mx0 z3
  replace mx1 := hb9 _ _ _ mx1 z3
  replace mx2 := hb9 _ _ _ mx2 z3
  replace mx3 := hb9 _ _ _ mx3 z3
  have p0 : ¬ (1 + 4 * (x.instrs.length : Int) < 0) := by omega
  clear ht9 nx0 nx1 nx2 nx3 hb9
  go_wp2_with fail
  refine (eqStringS_any _ _ _ _ _ G5.out.rep G3.out.rep).mono ?_
  rintro e w10 ⟨rfl, hx10⟩
  replace mx0 := Ext.cell hx10 mx0
  replace mx1 := Ext.cell hx10 mx1
  replace mx2 := Ext.cell hx10 mx2
  replace mx3 := Ext.cell hx10 mx3
  go_wp2_with fail
  refine (markStringS_any (codeL x) _ f5 1 w10 (G5.out.ext hx10) (fun b hb => let ⟨C, e, hO⟩ := O5.out b hb; ⟨C, e, hO.ext hx10⟩) (by omega) (by have := HL.out; omega)).mono ?_
  rintro e w11 ⟨rfl, hr11, ho11, ht11⟩
  have d1 : Hid (RepF w11 (strs (codeL x)) _ f3) := Lib.hid ((G3.out.ext hx10).touch ht11 fun b hb hb2 => by
    have := F3.out.lt hb; have := F5.out.ge b hb2; (try simp at this); have := hx4.size; omega)
  have e11 : Ext w w11 := ht11.ext (e9.trans hx10) fun b hb => by have := F5.out.ge b hb; (try simp at this); have := e4.size; omega
  have hb11 : ∀ b o v, w10.cell? ⟨b, o, none⟩ = some v → b < w3.heap.size → w11.cell? ⟨b, o, none⟩ = some v := fun b o v h hb => by
    rw [World.cell?_of_block (w := w10) (ht11.block b (lt_of_cell h) fun hb2 => by have := F5.out.ge b hb2; (try simp at this); have := hx4.size; omega)]; exact h
  replace mx0 := hb11 _ _ _ mx0 z3
  replace mx1 := hb11 _ _ _ mx1 z3
  replace mx2 := hb11 _ _ _ mx2 z3
  replace mx3 := hb11 _ _ _ mx3 z3
  have hq : ((1 : Int) + (codeL x).length != 1 + (codeL x).length) = false := by simp
  have hp : (0 : Int) ≤ 1 + (codeL x).length := by omega
  have H11 := Lib.hid hr11
  clear ht11 ho11 hr11 hb11
  go_wp2_with fail
  refine (heldStringS_any (codeL x).length _ 1 w11 H11.out.rep (by omega) (by have := HL.out; omega)).mono ?_
  rintro e w12 ⟨rfl, hx12⟩
  replace mx0 := Ext.cell hx12 mx0
  replace mx1 := Ext.cell hx12 mx1
  replace mx2 := Ext.cell hx12 mx2
  replace mx3 := Ext.cell hx12 mx3
  have e12 := e11.trans hx12
  go_wp2_with fail
  refine (toCode_any x _ _ (Rep.ext e12 RX.out) B.out).mono ?_
  rintro e w13 ⟨cs13, fp13, rfl, hr13, hf13, hx13⟩
  go_wp2_with fail
  refine (impl_FormatCode_any x _ _ hr13.rep B.out OX.out (hM.ext (e12.trans hx13))).mono ?_
  rintro e w14 ⟨a14, n14, c14, f14, rfl, hr14, hf14, hx14⟩
  have y14 := (hx12.trans hx13).trans hx14
  have H14 := Lib.hid hr14
  clear hr13 hf13 hr14 hf14
  go_wp2_with fail
  refine (eqStringS_any _ _ _ _ _ H14.out.rep (Rep.ext y14 d1.out.rep)).mono ?_
  rintro e w15 ⟨rfl, hx15⟩
  go_wp2_with fail
  refine (heldStringS_any (codeL x).length _ 1 w15 (Rep.ext (y14.trans hx15) H11.out.rep) (by omega) (by have := HL.out; omega)).mono ?_
  rintro e w16 ⟨rfl, hx16⟩
  go_wp2_with fail
  go_ret
  exact ⟨rfl, e11.trans ((y14.trans hx15).trans hx16)⟩

set_option maxRecDepth 100000 in
theorem fnExactFormatCode_lifted (os : Os) (started : os.Started) (H : Type) (enc : TypeId × Value → H) :
    ReturnsInHanded {} Tryd.checked os 4 .any (fun w args => (Rows.fnExactFormatCodeSpec.pre enc Tryd.prog Tryd.f4 Rows.fnExactFormatCodeRow.domain false w args ∧ laidMetH Tryd.prog Rows.fnExactFormatCodeRow.laid w) ∧ sizedMet enc Tryd.prog Tryd.f4 (OpenSpec.ofChange Rows.fnExactFormatCodeSpec) false w args) (Rows.fnExactFormatCodeSpec.post enc Tryd.prog Tryd.f4 false true false false) := by
  refine returns_laid (C := Tryd.checked) (X := fun w _ => laidMetH Tryd.prog Rows.fnExactFormatCodeRow.laid w) (fun _ _ _ hh h => h.of_heap hh) Tryd.own started (by kernel_rfl) Tryd.func4
    (ChangeSpec.witness_shaped (enc := enc) (C := Tryd.checked) (os := os) (X := fun w _ => laidMetH Tryd.prog Rows.fnExactFormatCodeRow.laid w) false (World.laidAll Tryd.prog os Rows.fnExactFormatCodeRow.laid) #[.agg #[.bool false, .int .i64 0, .int .i64 0, .slice none 0 0]] 8 (World.laidAll_os _ _ _)
      (World.shaped_of_ZipB (by kernel_rfl) (by kernel_rfl)) (by kernel_rfl) (by kernel_rfl) (by kernel_rfl)
      (by rw [MakeChecks.laidMetH_plain _ _ _ (by kernel_rfl)]; exact laidMet_laidAll _ (by kernel_rfl) (by kernel_rfl))) ?_
  intro W base args ds gs before hval0 hW hL hsh
  have hM := door_tab hL (by kernel_rfl) (i := 2) (by kernel_rfl)
  have hval : ∀ (j : Nat) t v, Tryd.f4.params[j]? = some t → args[j]? = some v → Value.okWide Tryd.prog W .any base t v := hval0
  have hW' := hW
  obtain ⟨p, q, hA0, hV, rfl, hfz, hnd⟩ := hW
  have hA : DataW.TrodAll enc Tryd.prog W 0 (fun _ => true) true Tryd.f4.params.toList args.toList ds p := hA0
  rw [Tryd.params4] at hA hval
  obtain ⟨v0, d0, rfl, rfl, h0⟩ := trodAll_one hA
  obtain ⟨rfl, rfl⟩ := trodVars_none hV
  obtain ⟨c0, rfl, hc0⟩ := okWide_agg Tryd.underlying31 (hval 0 31 v0 rfl rfl)
  obtain ⟨fu0, hh0⟩ := h0
  rw [hc0] at hh0
  obtain ⟨x0, r0, o0⟩ := trod_Code hh0
  exact (fnExactFormatCode_calls x0 c0 W r0 o0 hM).mono fun e W' ⟨he, hb⟩ => ⟨_, he, law_post Tryd.laidOut rfl (by kernel_rfl) rfl Tryd.underlying4 hW' rfl hb⟩

theorem fnExactFormatCode_holds : Rows.FnExactFormatCodeSaid :=
  OpenClaim.holds_of_wide 4 Tryd.f4 rfl rfl rfl rfl rfl rfl rfl ⟨rfl, rfl, rfl, rfl, rfl⟩ rfl rfl rfl rfl rfl (by kernel_rfl) Tryd.func4 (by kernel_rfl)
    (of_decide_eq_true (by kernel_rfl)) (by unfold Func.isWrapper; rw [if_neg (of_decide_eq_false (by kernel_rfl))]; exact ⟨rfl, rfl⟩)
    (fun os started H enc _ => fnExactFormatCode_lifted os started H enc)


theorem fnExactFormatCode_card : Rows.FnExactFormatCodeCardSaid :=
  Claim7.holds_tied_plain_at .later [] [.data, .data, .data] true (true, "b7b47e0bf8d4d89fef6ed5d05750f7dbf701b3d562e4f3ec39a9de043b8c5443") true fnExactFormatCode_holds (fun _ h => by cases h) (by kernel_rfl) (fun _ h => by cases h) fnExactFormatCode_row_tie rfl ⟨rfl, rfl⟩ (by kernel_rfl) rfl
    (fun f fn hf hfn => by
      obtain rfl : f = 4 := Option.some.inj ((show Tryd.prog.funcNamed "loop.example/g03108/laws.FnExactFormatCode" = some 4 by kernel_rfl).symm.trans hf) |>.symm
      obtain rfl : fn = Tryd.f4 := (Option.some.inj (Tryd.func4.symm.trans hfn)).symm
      exact ⟨by kernel_rfl, fun j t ht => by
        rw [Tryd.params4] at ht
        have hm : t ∈ [31] := by
          have h := Array.mem_of_getElem? ht
          simpa using h
        have hall : ([31].all fun u => !Tryd.prog.wantsStandIn u) = true := by kernel_rfl
        exact (show Tryd.prog.wantsStandIn t = false by simpa using List.all_eq_true.1 hall t hm)⟩)
    (by kernel_rfl)

#print axioms fnExactFormatCode_card


end Go.Proofs.YtihibfdnmbapkaaDoor
