/-
  FnExactFormatToken: the program's FormatToken gives what the reference's gives, for all arguments.
  Conditions: none.
-/
import Derived.Test.YtihibfdnmbapkaaDoorDoorLaw
import Derived.Deep.RegionHeld3
import Derived.Test.YtihibfdnmbapkaaDoorEq
import Derived.Test.YtihibfdnmbapkaaDoorSz
import Derived.Test.YtihibfdnmbapkaaDoorTo
import Derived.Test.YtihibfdnmbapkaaDoorArgTypes
import Derived.Test.YtihibfdnmbapkaaDoorFnToken
namespace Go.Proofs.YtihibfdnmbapkaaDoor
open Go.ChangeShapes Go.WideShapes Go.ChangeAt Go.RowKit Go.Joins
open Go.ChangeMaps (open_string)
set_option linter.unusedSimpArgs false
set_option linter.unusedVariables false


set_option maxHeartbeats 1000000 in
theorem fnExactFormatToken_calls (x : MToken) (cx : List Value) (w : World) (rx : Rep w x.d cx) (ox : x.d.ok) (hM : TabOk w ∧ MaxOk w) :
    Calls Tryd.prog 5 #[.agg cx.toArray] w fun e w' => e = .returned (.bool true) ∧ Ext w w' := by
  obtain rfl := MToken.op_en rx
  go_enter Tryd.func5, Tryd.ntmps5
  go_wp2_with fail
  refine (szToken_any x _ 1048576 _ (by omega) (by omega) (Rep.ext (Ext.alloc (Ext.refl w) _) rx) ox).mono ?_
  rintro e w1 ⟨q1, rfl, hq, hx1⟩
  have e1 : Ext w w1 := (Ext.alloc (Ext.refl w) _).trans hx1
  have mx_0 : w1.cell? ⟨w.heap.size, 0, none⟩ = some (.int .i64 x.kind) := Ext.cell hx1 (by simp)
  have mx_1 : w1.cell? ⟨w.heap.size, 1, none⟩ = some (.string x.text) := Ext.cell hx1 (by simp)
  have mx_2 : w1.cell? ⟨w.heap.size, 2, none⟩ = some (.int .i64 x.number) := Ext.cell hx1 (by simp)
  have zx : w.heap.size < w1.heap.size := lt_of_cell mx_0
  rcases hq with rfl | ⟨hq1, hqe⟩
  · go_wp2_with fail
    go_ret
    exact ⟨rfl, e1⟩
  have hl1 : q1 ≤ 1048576 := by omega
  have HQ1 := Lib.hid hqe; clear hqe
  have Bx : Hid (x.d.bulk ≤ 1048576) := Lib.hid (by have := HQ1.out; omega)
  clear HQ1
  go_wp2_with fail
  refine (toToken_any x _ _ (Rep.ext (e1) rx) Bx.out).mono ?_
  rintro e w2 ⟨cs2, fp2, rfl, hr2, hf2, hx2⟩
  have e2 : Ext w w2 := (e1).trans hx2
  have mx_0 := Ext.cell (hx2) mx_0
  have mx_1 := Ext.cell (hx2) mx_1
  have mx_2 := Ext.cell (hx2) mx_2
  have zx : w.heap.size < w2.heap.size := lt_of_cell mx_0
  go_wp2_with fail
  refine (spec_FormatToken_any x _ _ hr2.rep Bx.out ox).mono ?_
  rintro e w3 ⟨rfl, hx3⟩
  have e3 : Ext w w3 := (e2).trans hx3
  have mx_0 := Ext.cell (hx3) mx_0
  have mx_1 := Ext.cell (hx3) mx_1
  have mx_2 := Ext.cell (hx3) mx_2
  have zx : w.heap.size < w3.heap.size := lt_of_cell mx_0
  go_wp2_with fail
  refine (toToken_any x _ _ (Rep.ext (e3) rx) Bx.out).mono ?_
  rintro e w4 ⟨cs4, fp4, rfl, hr4, hf4, hx4⟩
  have e4 : Ext w w4 := (e3).trans hx4
  have mx_0 := Ext.cell (hx4) mx_0
  have mx_1 := Ext.cell (hx4) mx_1
  have mx_2 := Ext.cell (hx4) mx_2
  have zx : w.heap.size < w4.heap.size := lt_of_cell mx_0
  go_wp2_with fail
  refine (impl_FormatToken_any x _ _ hr4.rep Bx.out ox (hM.1.ext (e4)) (hM.2.ext (e4))).mono ?_
  rintro e w5 ⟨rfl, hx5⟩
  have e5 : Ext w w5 := (e4).trans hx5
  have mx_0 := Ext.cell (hx5) mx_0
  have mx_1 := Ext.cell (hx5) mx_1
  have mx_2 := Ext.cell (hx5) mx_2
  have zx : w.heap.size < w5.heap.size := lt_of_cell mx_0
  go_wp2_with fail
  go_ret
  exact ⟨rfl, e5⟩

set_option maxRecDepth 100000 in
theorem fnExactFormatToken_lifted (os : Os) (started : os.Started) (H : Type) (enc : TypeId × Value → H) :
    ReturnsInHanded {} Tryd.checked os 5 .any (fun w args => (Rows.fnExactFormatTokenSpec.pre enc Tryd.prog Tryd.f5 Rows.fnExactFormatTokenRow.domain false w args ∧ laidMetH Tryd.prog Rows.fnExactFormatTokenRow.laid w) ∧ sizedMet enc Tryd.prog Tryd.f5 (OpenSpec.ofChange Rows.fnExactFormatTokenSpec) false w args) (Rows.fnExactFormatTokenSpec.post enc Tryd.prog Tryd.f5 false true false false) := by
  refine returns_laid (C := Tryd.checked) (X := fun w _ => laidMetH Tryd.prog Rows.fnExactFormatTokenRow.laid w) (fun _ _ _ hh h => h.of_heap hh) Tryd.own started (by kernel_rfl) Tryd.func5
    (ChangeSpec.witness_shaped (enc := enc) (C := Tryd.checked) (os := os) (X := fun w _ => laidMetH Tryd.prog Rows.fnExactFormatTokenRow.laid w) false (World.laidAll Tryd.prog os Rows.fnExactFormatTokenRow.laid) #[.agg #[.int .i64 0, .string ByteArray.empty, .int .i64 0]] 8 (World.laidAll_os _ _ _)
      (World.shaped_of_ZipB (by kernel_rfl) (by kernel_rfl)) (by kernel_rfl) (by kernel_rfl) (by kernel_rfl)
      (by rw [MakeChecks.laidMetH_plain _ _ _ (by kernel_rfl)]; exact laidMet_laidAll _ (by kernel_rfl) (by kernel_rfl))) ?_
  intro W base args ds gs before hval0 hW hL hsh
  have hM := And.intro (door_tab hL (by kernel_rfl) (i := 2) (by kernel_rfl)) (max_ok hsh)
  have hval : ∀ (j : Nat) t v, Tryd.f5.params[j]? = some t → args[j]? = some v → Value.okWide Tryd.prog W .any base t v := hval0
  have hW' := hW
  obtain ⟨p, q, hA0, hV, rfl, hfz, hnd⟩ := hW
  have hA : DataW.TrodAll enc Tryd.prog W 0 (fun _ => true) true Tryd.f5.params.toList args.toList ds p := hA0
  rw [Tryd.params5] at hA hval
  obtain ⟨v0, d0, rfl, rfl, h0⟩ := trodAll_one hA
  obtain ⟨rfl, rfl⟩ := trodVars_none hV
  obtain ⟨c0, rfl, hc0⟩ := okWide_agg Tryd.underlying45 (hval 0 45 v0 rfl rfl)
  obtain ⟨fu0, hh0⟩ := h0
  rw [hc0] at hh0
  obtain ⟨x0, r0, o0⟩ := trod_Token hh0
  exact (fnExactFormatToken_calls x0 c0 W r0 o0 hM).mono fun e W' ⟨he, hb⟩ => ⟨_, he, law_post Tryd.laidOut rfl (by kernel_rfl) rfl Tryd.underlying4 hW' rfl hb⟩

theorem fnExactFormatToken_holds : Rows.FnExactFormatTokenSaid :=
  OpenClaim.holds_of_wide 5 Tryd.f5 rfl rfl rfl rfl rfl rfl rfl ⟨rfl, rfl, rfl, rfl, rfl⟩ rfl rfl rfl rfl rfl (by kernel_rfl) Tryd.func5 (by kernel_rfl)
    (of_decide_eq_true (by kernel_rfl)) (by unfold Func.isWrapper; rw [if_neg (of_decide_eq_false (by kernel_rfl))]; exact ⟨rfl, rfl⟩)
    (fun os started H enc _ => fnExactFormatToken_lifted os started H enc)


theorem fnExactFormatToken_card : Rows.FnExactFormatTokenCardSaid :=
  Claim7.holds_tied_plain_at .later [] [.data, .data, .data, .data, .pinned] true (true, "b7b47e0bf8d4d89fef6ed5d05750f7dbf701b3d562e4f3ec39a9de043b8c5443") true fnExactFormatToken_holds (fun _ h => by cases h) (by kernel_rfl) (fun _ h => by cases h) fnExactFormatToken_row_tie rfl ⟨rfl, rfl⟩ (by kernel_rfl) rfl
    (fun f fn hf hfn => by
      obtain rfl : f = 5 := Option.some.inj ((show Tryd.prog.funcNamed "loop.example/g03108/laws.FnExactFormatToken" = some 5 by kernel_rfl).symm.trans hf) |>.symm
      obtain rfl : fn = Tryd.f5 := (Option.some.inj (Tryd.func5.symm.trans hfn)).symm
      exact ⟨by kernel_rfl, fun j t ht => by
        rw [Tryd.params5] at ht
        have hm : t ∈ [45] := by
          have h := Array.mem_of_getElem? ht
          simpa using h
        have hall : ([45].all fun u => !Tryd.prog.wantsStandIn u) = true := by kernel_rfl
        exact (show Tryd.prog.wantsStandIn t = false by simpa using List.all_eq_true.1 hall t hm)⟩)
    (by kernel_rfl)

#print axioms fnExactFormatToken_card


end Go.Proofs.YtihibfdnmbapkaaDoor
