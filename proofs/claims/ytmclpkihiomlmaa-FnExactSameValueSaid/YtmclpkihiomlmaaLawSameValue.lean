/-
  FnExactSameValue: the program's SameValue gives what the reference's gives, for all arguments.
  Conditions: none.
-/
import Derived.Test.YtmclpkihiomlmaaLaw
import Derived.Deep.RegionHeld3
import Derived.Test.YtmclpkihiomlmaaEq
import Derived.Test.YtmclpkihiomlmaaSz
import Derived.Test.YtmclpkihiomlmaaTo
import Derived.Test.YtmclpkihiomlmaaArgTypes
import Derived.Test.YtmclpkihiomlmaaFnEqSmall
namespace Go.Proofs.Ytmclpkihiomlmaa
open Go.ChangeShapes Go.WideShapes Go.ChangeAt Go.RowKit Go.Joins
set_option linter.unusedSimpArgs false
set_option linter.unusedVariables false


set_option maxHeartbeats 1000000 in
theorem fnExactSameValue_calls (x : MValue) (cx : List Value) (y : MValue) (cy : List Value) (w : World) (rx : Rep w x.d cx) (ry : Rep w y.d cy) (ox : x.d.ok) (oy : y.d.ok) :
    Calls Try.prog 4 #[.agg cx.toArray, .agg cy.toArray] w fun e w' => e = .returned (.bool true) ∧ Ext w w' := by
  obtain rfl := MValue.op_en rx
  obtain rfl := MValue.op_en ry
  go_enter Try.func4, Try.ntmps4
  go_wp2_with fail
  refine (szValue_any x _ 1048576 _ (by omega) (by omega) (Rep.ext (Ext.alloc (Ext.alloc (Ext.refl w) _) _) rx) ox).mono ?_
  rintro e w1 ⟨q1, rfl, hq, hx1⟩
  have e1 : Ext w w1 := (Ext.alloc (Ext.alloc (Ext.refl w) _) _).trans hx1
  have mx_0 : w1.cell? ⟨w.heap.size, 0, none⟩ = some (.int .i64 x.kind) := Ext.cell hx1 (by simp)
  have mx_1 : w1.cell? ⟨w.heap.size, 1, none⟩ = some (.int .i64 x.number) := Ext.cell hx1 (by simp)
  have mx_2 : w1.cell? ⟨w.heap.size, 2, none⟩ = some (.string x.text) := Ext.cell hx1 (by simp)
  have my_0 : w1.cell? ⟨w.heap.size + 1, 0, none⟩ = some (.int .i64 y.kind) := Ext.cell hx1 (by simp)
  have my_1 : w1.cell? ⟨w.heap.size + 1, 1, none⟩ = some (.int .i64 y.number) := Ext.cell hx1 (by simp)
  have my_2 : w1.cell? ⟨w.heap.size + 1, 2, none⟩ = some (.string y.text) := Ext.cell hx1 (by simp)
  rcases hq with rfl | ⟨hq1, hqe⟩
  · go_wp2_with fail
    go_ret
    exact ⟨rfl, e1⟩
  have hl1 : q1 ≤ 1048576 := by omega
  have HQ1 := Lib.hid hqe; clear hqe
  go_wp2_with fail
  refine (szValue_any y _ q1 _ (by omega) (by omega) (Rep.ext (e1) ry) oy).mono ?_
  rintro e w2 ⟨q2, rfl, hq, hx2⟩
  have e2 : Ext w w2 := (e1).trans hx2
  have mx_0 := Ext.cell (hx2) mx_0
  have mx_1 := Ext.cell (hx2) mx_1
  have mx_2 := Ext.cell (hx2) mx_2
  have my_0 := Ext.cell (hx2) my_0
  have my_1 := Ext.cell (hx2) my_1
  have my_2 := Ext.cell (hx2) my_2
  rcases hq with rfl | ⟨hq2, hqe⟩
  · go_wp2_with fail
    go_ret
    exact ⟨rfl, e2⟩
  have hl2 : q2 ≤ 1048576 := by omega
  have HQ2 := Lib.hid hqe; clear hqe
  have Bx : Hid (x.d.bulk ≤ 1048576) := Lib.hid (by have := HQ1.out; have := HQ2.out; omega)
  have By : Hid (y.d.bulk ≤ 1048576) := Lib.hid (by have := HQ1.out; have := HQ2.out; omega)
  clear HQ1 HQ2
  have KS : Hid (∀ w', Ext w2 w' → w'.cell? ⟨w.heap.size, 0, none⟩ = some (.int .i64 x.kind) ∧ w'.cell? ⟨w.heap.size, 1, none⟩ = some (.int .i64 x.number) ∧ w'.cell? ⟨w.heap.size, 2, none⟩ = some (.string x.text) ∧ w'.cell? ⟨w.heap.size + 1, 0, none⟩ = some (.int .i64 y.kind) ∧ w'.cell? ⟨w.heap.size + 1, 1, none⟩ = some (.int .i64 y.number) ∧ w'.cell? ⟨w.heap.size + 1, 2, none⟩ = some (.string y.text) ∧ Ext w2 w') := Lib.hid fun w' h => ⟨Ext.cell h mx_0, Ext.cell h mx_1, Ext.cell h mx_2, Ext.cell h my_0, Ext.cell h my_1, Ext.cell h my_2, h⟩
  go_wp2_with fail
  go_region_held3 (fun w' => w'.cell? ⟨w.heap.size, 0, none⟩ = some (.int .i64 x.kind) ∧ w'.cell? ⟨w.heap.size, 1, none⟩ = some (.int .i64 x.number) ∧ w'.cell? ⟨w.heap.size, 2, none⟩ = some (.string x.text) ∧ w'.cell? ⟨w.heap.size + 1, 0, none⟩ = some (.int .i64 y.kind) ∧ w'.cell? ⟨w.heap.size + 1, 1, none⟩ = some (.int .i64 y.number) ∧ w'.cell? ⟨w.heap.size + 1, 2, none⟩ = some (.string y.text) ∧ Ext w2 w')
    (first | exact KS.out _ (Ext.drew (Ext.refl _)) | exact KS.out _ (Ext.trans (Ext.drew (Ext.refl _)) hx3) | exact KS.out _ (Ext.trans (Ext.trans (Ext.drew (Ext.refl _)) hx3) hx4) | exact KS.out _ (Ext.trans (Ext.trans (Ext.trans (Ext.drew (Ext.refl _)) hx3) hx4) hx5))
    (first | (go_at_call_of 16 x.kind; refine (toValue_any x _ _ (Rep.ext (Ext.drew (e2)) rx) Bx.out).mono ?_; rintro e w3 ⟨cs3, fp3, rfl, hr3, hf3, hx3⟩) | (go_at_call_of 16 y.kind; refine (toValue_any y _ _ (Rep.ext (Ext.trans (Ext.drew (e2)) hx3) ry) By.out).mono ?_; rintro e w4 ⟨cs4, fp4, rfl, hr4, hf4, hx4⟩) | (go_at_call 15; refine (spec_SameValue_any x y _ _ _ (Rep.ext hx4 (hr3.rep)) (hr4.rep)).mono ?_; rintro e w5 ⟨rfl, hx5⟩))
  have e5 : Ext w w5 := (e2).trans (Ext.trans (Ext.trans (Ext.trans (Ext.drew (Ext.refl _)) hx3) hx4) hx5)
  have mx_0 := Ext.cell (Ext.trans (Ext.trans (Ext.trans (Ext.drew (Ext.refl _)) hx3) hx4) hx5) mx_0
  have mx_1 := Ext.cell (Ext.trans (Ext.trans (Ext.trans (Ext.drew (Ext.refl _)) hx3) hx4) hx5) mx_1
  have mx_2 := Ext.cell (Ext.trans (Ext.trans (Ext.trans (Ext.drew (Ext.refl _)) hx3) hx4) hx5) mx_2
  have my_0 := Ext.cell (Ext.trans (Ext.trans (Ext.trans (Ext.drew (Ext.refl _)) hx3) hx4) hx5) my_0
  have my_1 := Ext.cell (Ext.trans (Ext.trans (Ext.trans (Ext.drew (Ext.refl _)) hx3) hx4) hx5) my_1
  have my_2 := Ext.cell (Ext.trans (Ext.trans (Ext.trans (Ext.drew (Ext.refl _)) hx3) hx4) hx5) my_2
  clear KS
  have KS : Hid (∀ w', Ext w5 w' → w'.cell? ⟨w.heap.size, 0, none⟩ = some (.int .i64 x.kind) ∧ w'.cell? ⟨w.heap.size, 1, none⟩ = some (.int .i64 x.number) ∧ w'.cell? ⟨w.heap.size, 2, none⟩ = some (.string x.text) ∧ w'.cell? ⟨w.heap.size + 1, 0, none⟩ = some (.int .i64 y.kind) ∧ w'.cell? ⟨w.heap.size + 1, 1, none⟩ = some (.int .i64 y.number) ∧ w'.cell? ⟨w.heap.size + 1, 2, none⟩ = some (.string y.text) ∧ Ext w5 w') := Lib.hid fun w' h => ⟨Ext.cell h mx_0, Ext.cell h mx_1, Ext.cell h mx_2, Ext.cell h my_0, Ext.cell h my_1, Ext.cell h my_2, h⟩
  go_wp2_with fail
  go_region_held3 (fun w' => w'.cell? ⟨w.heap.size, 0, none⟩ = some (.int .i64 x.kind) ∧ w'.cell? ⟨w.heap.size, 1, none⟩ = some (.int .i64 x.number) ∧ w'.cell? ⟨w.heap.size, 2, none⟩ = some (.string x.text) ∧ w'.cell? ⟨w.heap.size + 1, 0, none⟩ = some (.int .i64 y.kind) ∧ w'.cell? ⟨w.heap.size + 1, 1, none⟩ = some (.int .i64 y.number) ∧ w'.cell? ⟨w.heap.size + 1, 2, none⟩ = some (.string y.text) ∧ Ext w5 w')
    (first | exact KS.out _ (Ext.drew (Ext.refl _)) | exact KS.out _ (Ext.trans (Ext.drew (Ext.refl _)) hx6) | exact KS.out _ (Ext.trans (Ext.trans (Ext.drew (Ext.refl _)) hx6) hx7) | exact KS.out _ (Ext.trans (Ext.trans (Ext.trans (Ext.drew (Ext.refl _)) hx6) hx7) hx8))
    (first | (go_at_call_of 16 x.kind; refine (toValue_any x _ _ (Rep.ext (Ext.drew (e5)) rx) Bx.out).mono ?_; rintro e w6 ⟨cs6, fp6, rfl, hr6, hf6, hx6⟩) | (go_at_call_of 16 y.kind; refine (toValue_any y _ _ (Rep.ext (Ext.trans (Ext.drew (e5)) hx6) ry) By.out).mono ?_; rintro e w7 ⟨cs7, fp7, rfl, hr7, hf7, hx7⟩) | (go_at_call 17; refine (impl_SameValue_any x y _ _ _ (Rep.ext hx7 (hr6.rep)) (hr7.rep)).mono ?_; rintro e w8 ⟨rfl, hx8⟩))
  have e8 : Ext w w8 := (e5).trans (Ext.trans (Ext.trans (Ext.trans (Ext.drew (Ext.refl _)) hx6) hx7) hx8)
  have mx_0 := Ext.cell (Ext.trans (Ext.trans (Ext.trans (Ext.drew (Ext.refl _)) hx6) hx7) hx8) mx_0
  have mx_1 := Ext.cell (Ext.trans (Ext.trans (Ext.trans (Ext.drew (Ext.refl _)) hx6) hx7) hx8) mx_1
  have mx_2 := Ext.cell (Ext.trans (Ext.trans (Ext.trans (Ext.drew (Ext.refl _)) hx6) hx7) hx8) mx_2
  have my_0 := Ext.cell (Ext.trans (Ext.trans (Ext.trans (Ext.drew (Ext.refl _)) hx6) hx7) hx8) my_0
  have my_1 := Ext.cell (Ext.trans (Ext.trans (Ext.trans (Ext.drew (Ext.refl _)) hx6) hx7) hx8) my_1
  have my_2 := Ext.cell (Ext.trans (Ext.trans (Ext.trans (Ext.drew (Ext.refl _)) hx6) hx7) hx8) my_2
  clear KS
  go_wp2_with fail
  go_ret
  exact ⟨rfl, e8⟩

set_option maxRecDepth 100000 in
theorem fnExactSameValue_lifted (os : Os) (started : os.Started) (H : Type) (enc : TypeId × Value → H) :
    ReturnsInHanded {} Try.checked os 4 .any (Rows.fnExactSameValueSpec.pre6 enc Try.prog Try.f4 Rows.fnExactSameValueRow.domain false) (Rows.fnExactSameValueSpec.post enc Try.prog Try.f4 false true false false) := by
  refine returnsInHanded_of_change (C := Try.checked) Try.own started (by kernel_rfl) Try.func4
    (ChangeSpec.witness6 (enc := enc) (C := Try.checked) false ⟨#[], #[.agg #[.int .i64 0, .int .i64 0, .string ByteArray.empty], .agg #[.int .i64 0, .int .i64 0, .string ByteArray.empty]], []⟩ 8 (by kernel_rfl) (by kernel_rfl) (by kernel_rfl) (by kernel_rfl)) ?_
  intro W base args ds gs before hval0 hW hcnd _
  have hval : ∀ (j : Nat) t v, Try.f4.params[j]? = some t → args[j]? = some v → Value.okWide Try.prog W .any base t v := hval0
  have hW' := hW
  obtain ⟨p, q, hA0, hV, rfl, hfz, hnd⟩ := hW
  have hA : DataW.TrodAll enc Try.prog W 0 (fun _ => true) true Try.f4.params.toList args.toList ds p := hA0
  rw [Try.params4] at hA hval
  obtain ⟨v0, v1, d0, d1, p0, p1, rfl, rfl, rfl, h0, h1⟩ := trodAll_two hA
  obtain ⟨rfl, rfl⟩ := trodVars_none hV
  obtain ⟨c0, rfl, hc0⟩ := okWide_agg Try.underlying24 (hval 0 24 v0 rfl rfl)
  obtain ⟨fu0, hh0⟩ := h0
  rw [hc0] at hh0
  obtain ⟨x0, r0, o0⟩ := trod_Value hh0
  obtain ⟨c1, rfl, hc1⟩ := okWide_agg Try.underlying24 (hval 1 24 v1 rfl rfl)
  obtain ⟨fu1, hh1⟩ := h1
  rw [hc1] at hh1
  obtain ⟨x1, r1, o1⟩ := trod_Value hh1
  exact (fnExactSameValue_calls x0 c0 x1 c1 W r0 r1 o0 o1).mono fun e W' ⟨he, hb⟩ => ⟨_, he, law_post Try.laidOut rfl (by kernel_rfl) rfl Try.underlying4 hW' rfl hb⟩

theorem fnExactSameValue_holds : Rows.FnExactSameValueSaid :=
  OpenClaim.holds_of_wide 4 Try.f4 rfl rfl rfl rfl rfl rfl rfl ⟨rfl, rfl, rfl, rfl, rfl⟩ rfl rfl rfl rfl rfl (by kernel_rfl) Try.func4 (by kernel_rfl)
    (of_decide_eq_true (by kernel_rfl)) (by unfold Func.isWrapper; rw [if_neg (of_decide_eq_false (by kernel_rfl))]; exact ⟨rfl, rfl⟩)
    (fun os started H enc _ => fnExactSameValue_lifted os started H enc)

#print axioms fnExactSameValue_holds


end Go.Proofs.Ytmclpkihiomlmaa
