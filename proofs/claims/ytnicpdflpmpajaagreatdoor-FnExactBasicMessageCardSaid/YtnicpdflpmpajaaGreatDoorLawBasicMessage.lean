/-
  FnExactBasicMessage: the program's BasicMessage gives what the reference's gives, for all arguments.
  Conditions: none.
-/
import Derived.Test.YtnicpdflpmpajaaGreatDoorDoorLaw
import Derived.Test.YtnicpdflpmpajaaGreatDoorErrLaw
import Derived.Test.YtnicpdflpmpajaaGreatDoorEq
import Derived.Test.YtnicpdflpmpajaaGreatDoorSz
import Derived.Test.YtnicpdflpmpajaaGreatDoorTo
import Derived.Test.YtnicpdflpmpajaaGreatDoorArgTypes
import Derived.Test.YtnicpdflpmpajaaGreatDoorFnBasicP
namespace Go.Proofs.YtnicpdflpmpajaaGreatDoor
open Go.ChangeShapes Go.WideShapes Go.ChangeAt Go.RowKit Go.Joins
open Go.ChangeMaps (open_string)
set_option linter.unusedSimpArgs false
set_option linter.unusedVariables false


theorem res_rep (w : World) (r : MResult) : Rep w r.d [.int .i64 (r).code, .int .i64 (r).value.kind, .int .i64 (r).value.number, .string (r).value.text, .string (r).text] := ⟨_, MResult.shut (x := r) MValue.shut⟩
theorem bulk_values {l : List MValue} (h : (MValues l).bulk ≤ 1048576) : ∀ a, a ∈ l → a.text.size ≤ 1048576 := fun a ha => by
  simp only [MValues, D.bulk] at h
  have h1 := D.bulkL_mem (List.mem_map_of_mem (f := MValue.d) ha)
  exact bulk_value (by omega)
set_option maxHeartbeats 2000000 in
theorem fnExactBasicMessage_calls (x : MValue) (cx : List Value) (s : ByteArray) (l : List MValue) (va : Value) (w : World) (rx : Rep w x.d cx) (rl : Rep w (MValues l) [va]) (ox : x.d.ok) (hs : s.size ≤ maxLen) (ol : (MValues l).ok) (hM : MaxOk w ∧ TabOk w ∧ ErrOk w) : Calls Tryz.prog 6 #[.agg cx.toArray, .string s, va] w fun e w' => e = .returned (.bool true) ∧ Ext w w' := by
  unfold maxLen at hs
  have RX := Lib.hid rx
  have hcx := MValue.op_en rx
  subst hcx
  have RL := Lib.hid rl
  clear rx rl
  have e0 : Ext w (w.alloc (.cells #[.int .i64 x.kind, .int .i64 x.number, .string x.text] 52)) := (Ext.refl w).alloc _
  by_cases h : s.size ≤ 1048576
  rotate_left
  · go_enter Tryz.func6, Tryz.ntmps6
    go_wp2_with fail
    go_ret
    exact ⟨rfl, e0⟩
  go_enter Tryz.func6, Tryz.ntmps6
  go_wp2_with fail
  refine (szValue_any x _ 1048576 _ (by omega) (by omega) (Rep.ext e0 RX.out) ox).mono ?_
  rintro e w1 ⟨q1, rfl, hq, hx1⟩
  have m0 : w1.cell? ⟨w.heap.size, 0, none⟩ = some (.int .i64 x.kind) := hx1.cell (by simp)
  have m1 : w1.cell? ⟨w.heap.size, 1, none⟩ = some (.int .i64 x.number) := hx1.cell (by simp)
  have m2 : w1.cell? ⟨w.heap.size, 2, none⟩ = some (.string x.text) := hx1.cell (by simp)
  have e1 := e0.trans hx1
  rcases hq with rfl | ⟨hq1, hqe1⟩
  · go_wp2_with fail
    go_ret
    exact ⟨rfl, e1⟩
  have hl1 : q1 ≤ 1048576 := by omega
  have HQ1 := Lib.hid hqe1; clear hqe1
  go_wp2_with fail
  refine (szValueS_any l _ q1 _ (by omega) (by omega) (Rep.ext e1 RL.out) ol).mono ?_
  rintro e w2 ⟨q2, rfl, hq, hx2⟩
  replace m0 := Ext.cell hx2 m0
  replace m1 := Ext.cell hx2 m1
  replace m2 := Ext.cell hx2 m2
  have e2 := e1.trans hx2
  rcases hq with rfl | ⟨hq2, hqe2⟩
  · go_wp2_with fail
    go_ret
    exact ⟨rfl, e2⟩
  have HBX : Hid (x.d.bulk ≤ 1048576) := Lib.hid (by have := HQ1.out; omega)
  have HBL : Hid ((MValues l).bulk ≤ 1048576) := Lib.hid (by omega)
  have HVZ := Lib.hid (bulk_value HBX.out)
  have HLZ := Lib.hid (bulk_values HBL.out)
  clear hqe2 HQ1
  go_wp2_with fail
  refine (toValue_any x _ _ (Rep.ext e2 RX.out) HBX.out).mono ?_
  rintro e w3 ⟨cs3, fp3, rfl, hr3, hf3, hx3⟩
  have R3 := Lib.hid hr3.rep
  clear hr3 hf3
  replace m0 := Ext.cell hx3 m0
  replace m1 := Ext.cell hx3 m1
  replace m2 := Ext.cell hx3 m2
  have e3 := e2.trans hx3
  go_wp2_with fail
  refine (toValueS_any l _ _ (Rep.ext e3 RL.out) HBL.out).mono ?_
  rintro e w4 ⟨a4, n4, c4, f4, rfl, hr4, hf4, hx4⟩
  replace m0 := Ext.cell hx4 m0
  replace m1 := Ext.cell hx4 m1
  replace m2 := Ext.cell hx4 m2
  have e4 := e3.trans hx4
  go_wp2_with fail
  refine (spec_BasicMessage_any x _ s l _ _ (Rep.ext hx4 R3.out) hr4.rep HVZ.out h HLZ.out).mono ?_
  obtain ⟨r, hr⟩ : ∃ r, basicR x s l = r := ⟨_, rfl⟩
  rw [hr]
  rintro e w5 ⟨rfl, hx5⟩
  clear hr4 hf4 R3
  replace m0 := Ext.cell hx5 m0
  replace m1 := Ext.cell hx5 m1
  replace m2 := Ext.cell hx5 m2
  have z0 := lt_of_cell m0
  have e5 := e4.trans hx5
  go_wp2_with fail
  refine (toValueS_any l _ _ (Rep.ext (e5.alloc _) RL.out) HBL.out).mono ?_
  rintro e w6 ⟨a6, n6, c6, f6, rfl, hr6, hf6, hx6⟩
  have p0 : w6.cell? ⟨w5.heap.size, 0, none⟩ = some (.int .i64 r.code) := hx6.cell (by simp)
  have p1 : w6.cell? ⟨w5.heap.size, 1, none⟩ = some (.int .i64 r.value.kind) := hx6.cell (by simp)
  have p2 : w6.cell? ⟨w5.heap.size, 2, none⟩ = some (.int .i64 r.value.number) := hx6.cell (by simp)
  have p3 : w6.cell? ⟨w5.heap.size, 3, none⟩ = some (.string r.value.text) := hx6.cell (by simp)
  have p4 : w6.cell? ⟨w5.heap.size, 4, none⟩ = some (.string r.text) := hx6.cell (by simp)
  replace m0 := Ext.cell ((Ext.refl w5).alloc _ |>.trans hx6) m0
  replace m1 := Ext.cell ((Ext.refl w5).alloc _ |>.trans hx6) m1
  replace m2 := Ext.cell ((Ext.refl w5).alloc _ |>.trans hx6) m2
  have e6 := (e5.alloc _).trans hx6
  have R6 := Lib.hid hr6.rep
  clear hr6 hf6
  go_wp2_with fail
  refine (toValue_any x _ _ (Rep.ext e6 RX.out) HBX.out).mono ?_
  rintro e w7 ⟨cs7, fp7, rfl, hr7, hf7, hx7⟩
  have R7 := Lib.hid hr7.rep
  clear hr7 hf7
  replace m0 := Ext.cell hx7 m0
  replace m1 := Ext.cell hx7 m1
  replace m2 := Ext.cell hx7 m2
  replace p0 := Ext.cell hx7 p0
  replace p1 := Ext.cell hx7 p1
  replace p2 := Ext.cell hx7 p2
  replace p3 := Ext.cell hx7 p3
  replace p4 := Ext.cell hx7 p4
  have e7 := e6.trans hx7
  go_wp2_with fail
  refine (impl_BasicMessage_any x _ s l _ _ R7.out (Rep.ext hx7 R6.out) HVZ.out h HLZ.out (hM.1.ext e7) (hM.2.1.ext e7) (hM.2.2.ext e7)).mono ?_
  rw [hr]
  rintro e w8 ⟨rfl, hx8⟩
  clear hr
  replace m0 := Ext.cell hx8 m0
  replace m1 := Ext.cell hx8 m1
  replace m2 := Ext.cell hx8 m2
  replace p0 := Ext.cell hx8 p0
  replace p1 := Ext.cell hx8 p1
  replace p2 := Ext.cell hx8 p2
  replace p3 := Ext.cell hx8 p3
  replace p4 := Ext.cell hx8 p4
  have z1 := lt_of_cell p0
  have e8 := e7.trans hx8
  have ht1 : eqB r r = true := eqB_tt rfl
  have ht2 : eqB l l = true := eqB_tt rfl
  go_wp2_with fail
  refine (eqResult_any r r [.int .i64 (r).code, .int .i64 (r).value.kind, .int .i64 (r).value.number, .string (r).value.text, .string (r).text] [.int .i64 (r).code, .int .i64 (r).value.kind, .int .i64 (r).value.number, .string (r).value.text, .string (r).text] _ (res_rep _ r) (res_rep _ r)).mono ?_
  rintro e w9 ⟨rfl, hx9⟩
  have e9 := (e8.alloc _).trans hx9
  go_wp2_with fail
  refine (toValueS_any l _ _ (Rep.ext e9 RL.out) HBL.out).mono ?_
  rintro e w10 ⟨a10, n10, c10, f10, rfl, hr10, hf10, hx10⟩
  have e10 := e9.trans hx10
  go_wp2_with fail
  refine (eqValueS_any l l _ _ _ (Rep.ext ((((hx7.trans hx8).alloc _).trans hx9).trans hx10) R6.out) hr10.rep).mono ?_
  rintro e w11 ⟨rfl, hx11⟩
  go_wp2_with fail
  go_ret
  exact ⟨rfl, e10.trans hx11⟩


set_option maxRecDepth 100000 in
theorem fnExactBasicMessage_lifted (os : Os) (started : os.Started) (H : Type) (enc : TypeId × Value → H) :
    ReturnsInHanded {} Tryz.checked os 6 .any (fun w args => (Rows.fnExactBasicMessageSpec.pre enc Tryz.prog Tryz.f6 Rows.fnExactBasicMessageRow.domain false w args ∧ laidMetH Tryz.prog Rows.fnExactBasicMessageRow.laid w) ∧ sizedMet enc Tryz.prog Tryz.f6 (OpenSpec.ofChange Rows.fnExactBasicMessageSpec) false w args) (Rows.fnExactBasicMessageSpec.post enc Tryz.prog Tryz.f6 false true false false) := by
  refine returns_laid (C := Tryz.checked) (X := fun w _ => laidMetH Tryz.prog Rows.fnExactBasicMessageRow.laid w) (fun _ _ _ hh h => h.of_heap hh) Tryz.own started (by kernel_rfl) Tryz.func6
    (ChangeSpec.witness_shaped (enc := enc) (C := Tryz.checked) (os := os) (X := fun w _ => laidMetH Tryz.prog Rows.fnExactBasicMessageRow.laid w) false (World.laidAll Tryz.prog os Rows.fnExactBasicMessageRow.laid) #[.agg #[.int .i64 0, .int .i64 0, .string ByteArray.empty], .string ByteArray.empty, .slice none 0 0] 8 (World.laidAll_os _ _ _)
      (World.shaped_of_ZipB (by kernel_rfl) (by kernel_rfl)) (by kernel_rfl) (by kernel_rfl) (by kernel_rfl)
      (by rw [MakeChecks.laidMetH_plain _ _ _ (by kernel_rfl)]; exact laidMet_laidAll _ (by kernel_rfl) (by kernel_rfl))) ?_
  intro W base args ds gs before hval0 hW hL hsh
  have hM := And.intro (max_ok hsh) (And.intro (door_tab hL (by kernel_rfl) (i := 2) (by kernel_rfl)) (err_laid hL (by kernel_rfl) (i := 5) (j := 4) rfl rfl))
  have hval : ∀ (j : Nat) t v, Tryz.f6.params[j]? = some t → args[j]? = some v → Value.okWide Tryz.prog W .any base t v := hval0
  have hW' := hW
  obtain ⟨p, q, hA0, hV, rfl, hfz, hnd⟩ := hW
  have hA : DataW.TrodAll enc Tryz.prog W 0 (fun _ => true) true Tryz.f6.params.toList args.toList ds p := hA0
  rw [Tryz.params6] at hA hval
  obtain ⟨v0, v1, v2, d0, d1, d2, p0, p1, p2, rfl, rfl, rfl, h0, h1, h2⟩ := trodAll_three hA
  obtain ⟨rfl, rfl⟩ := trodVars_none hV
  obtain ⟨c0, rfl, hc0⟩ := okWide_agg Tryz.underlying52 (hval 0 52 v0 rfl rfl)
  obtain ⟨fu0, hh0⟩ := h0
  rw [hc0] at hh0
  obtain ⟨x0, r0, o0⟩ := trod_Value hh0
  obtain ⟨x1, rfl, rfl, rfl, o1⟩ := open_string Tryz.underlying9 (hval 1 9 v1 rfl rfl) h1
  obtain ⟨ao2, ln2, cp2, rfl⟩ := okWide_slice Tryz.underlying64 (hval 2 64 v2 rfl rfl)
  obtain ⟨fu2, hh2⟩ := h2
  have hh2 : DataW.trod enc Tryz.prog W 0 (fun _ => true) true fu2 64 [.slice ao2 ln2 cp2] = some _ := hh2
  obtain ⟨x2, r2, o2⟩ := trod_sl (f := MValue.d) Tryz.underlying64 Tryz.cells52 (by decide) (fun _ _ _ _ h => trod_Value h) hh2
  exact (fnExactBasicMessage_calls x0 c0 x1 x2 _ W r0 r2 o0 o1 o2 hM).mono fun e W' ⟨he, hb⟩ => ⟨_, he, law_post Tryz.laidOut rfl (by kernel_rfl) rfl Tryz.underlying4 hW' rfl hb⟩

theorem fnExactBasicMessage_holds : Rows.FnExactBasicMessageSaid :=
  OpenClaim.holds_of_wide 6 Tryz.f6 rfl rfl rfl rfl rfl rfl rfl ⟨rfl, rfl, rfl, rfl, rfl⟩ rfl rfl rfl rfl rfl (by kernel_rfl) Tryz.func6 (by kernel_rfl)
    (of_decide_eq_true (by kernel_rfl)) (by unfold Func.isWrapper; rw [if_neg (of_decide_eq_false (by kernel_rfl))]; exact ⟨rfl, rfl⟩)
    (fun os started H enc _ => fnExactBasicMessage_lifted os started H enc)


theorem fnExactBasicMessage_card : Rows.FnExactBasicMessageCardSaid :=
  Claim7.holds_tied_plain_at .later [] [.data, .data, .data, .data, .sentinel, .sentinel, .pinned] true (true, "4fe672769d03236616fc2e43eabe258e586e81d23afcb2befbce4406f2125c6a") true fnExactBasicMessage_holds (fun _ h => by cases h) (by kernel_rfl) (fun _ h => by cases h) fnExactBasicMessage_row_tie rfl ⟨rfl, rfl⟩ (by kernel_rfl) rfl
    (fun f fn hf hfn => by
      obtain rfl : f = 6 := Option.some.inj ((show Tryz.prog.funcNamed "loop.example/g03108/laws.FnExactBasicMessage" = some 6 by kernel_rfl).symm.trans hf) |>.symm
      obtain rfl : fn = Tryz.f6 := (Option.some.inj (Tryz.func6.symm.trans hfn)).symm
      exact ⟨by kernel_rfl, fun j t ht => by
        rw [Tryz.params6] at ht
        have hm : t ∈ [52, 9, 64] := by
          have h := Array.mem_of_getElem? ht
          simpa using h
        have hall : ([52, 9, 64].all fun u => !Tryz.prog.wantsStandIn u) = true := by kernel_rfl
        exact (show Tryz.prog.wantsStandIn t = false by simpa using List.all_eq_true.1 hall t hm)⟩)
    (by kernel_rfl)

#print axioms fnExactBasicMessage_card


end Go.Proofs.YtnicpdflpmpajaaGreatDoor
