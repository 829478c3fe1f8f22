/-
  FnExactBuiltinClasses: the program's BuiltinClasses gives what the reference's gives.
  Conditions: none.
-/
import Derived.Test.YtmclpkihiomlmaaLaw
import Derived.Test.YtmclpkihiomlmaaEq
import Derived.Test.YtmclpkihiomlmaaMark
import Derived.Test.YtmclpkihiomlmaaFnClasses
namespace Go.Proofs.Ytmclpkihiomlmaa
open Go.ChangeShapes Go.WideShapes Go.ChangeAt Go.RowKit Go.Joins
open Go.ChangeMaps (open_string)
set_option linter.unusedSimpArgs false
set_option linter.unusedVariables false


set_option maxHeartbeats 1000000 in
theorem fnExactBuiltinClasses_calls (w : World) : Calls Try.prog 5 #[] w fun e w' => e = .returned (.bool true) ∧ Ext w w' := by
  have hlen : builtinsL.length ≤ 1048576 := by simp [builtinsL]
  go_enter Try.func5, Try.ntmps5
  go_wp2_with fail
  refine (spec_BuiltinClasses_any _).mono ?_
  rintro e w1 ⟨a1, n1, c1, f1, rfl, hr1, hf1, hx1⟩
  go_wp2_with fail
  refine (impl_BuiltinClasses_any _).mono ?_
  rintro e w2 ⟨a2, n2, c2, f2, rfl, hr2, hf2, hx2⟩
  have ht : eqB (builtinsL) (builtinsL) = true := eqB_tt rfl
  go_wp2_with fail
  refine (eqStringS_any _ _ _ _ _ hr2.rep (Rep.ext hx2 hr1.rep)).mono ?_
  rintro e w3 ⟨rfl, hx3⟩
  go_wp2_with fail
  refine (markStringS_any (builtinsL) _ f2 1 w3 (hr2.ext hx3) (hf2.ext hx3).own (by omega) (by have := hlen; omega)).mono ?_
  rintro e w4 ⟨rfl, hr4, ho4, ht4⟩
  have d1 : RepF w4 (strs (builtinsL)) _ f1 := ((hr1.ext hx2).ext hx3).touch ht4 fun b hb hb2 => by
    have := hf1.lt hb; have := hf2.ge b hb2; omega
  have x4 : Ext w w4 := ht4.ext (((Ext.refl w).trans hx1).trans (hx2.trans hx3)) fun b hb => by
    have := hf2.ge b hb; have := hx1.size; omega
  have hq : ((1 : Int) + (builtinsL).length != 1 + (builtinsL).length) = false := by simp
  have hp : (0 : Int) ≤ 1 + (builtinsL).length := by omega
  clear ht4 ho4 hf1 hf2
  go_wp2_with fail
  refine (heldStringS_any (builtinsL).length _ 1 w4 hr4.rep (by omega) (by have := hlen; omega)).mono ?_
  rintro e w5 ⟨rfl, hx5⟩
  go_wp2_with fail
  refine (impl_BuiltinClasses_any _).mono ?_
  rintro e w6 ⟨a6, n6, c6, f6, rfl, hr6, hf6, hx6⟩
  go_wp2_with fail
  refine (eqStringS_any _ _ _ _ _ hr6.rep (Rep.ext (hx5.trans hx6) d1.rep)).mono ?_
  rintro e w7 ⟨rfl, hx7⟩
  go_wp2_with fail
  refine (heldStringS_any (builtinsL).length _ 1 w7 (Rep.ext (hx5.trans (hx6.trans hx7)) hr4.rep) (by omega) (by have := hlen; omega)).mono ?_
  rintro e w8 ⟨rfl, hx8⟩
  go_wp2_with fail
  go_ret
  exact ⟨rfl, x4.trans (hx5.trans (hx6.trans (hx7.trans hx8)))⟩

set_option maxRecDepth 100000 in
theorem fnExactBuiltinClasses_lifted (os : Os) (started : os.Started) (H : Type) (enc : TypeId × Value → H) :
    ReturnsInHanded {} Try.checked os 5 .any (Rows.fnExactBuiltinClassesSpec.pre6 enc Try.prog Try.f5 Rows.fnExactBuiltinClassesRow.domain false) (Rows.fnExactBuiltinClassesSpec.post enc Try.prog Try.f5 false true false false) := by
  refine returnsInHanded_of_change (C := Try.checked) Try.own started (by kernel_rfl) Try.func5
    (ChangeSpec.witness6 (enc := enc) (C := Try.checked) false ⟨#[], #[], []⟩ 8 (by kernel_rfl) (by kernel_rfl) (by kernel_rfl) (by kernel_rfl)) ?_
  intro W base args ds gs before hval0 hW hcnd _
  have hval : ∀ (j : Nat) t v, Try.f5.params[j]? = some t → args[j]? = some v → Value.okWide Try.prog W .any base t v := hval0
  have hW' := hW
  obtain ⟨p, q, hA0, hV, rfl, hfz, hnd⟩ := hW
  have hA : DataW.TrodAll enc Try.prog W 0 (fun _ => true) true Try.f5.params.toList args.toList ds p := hA0
  rw [Try.params5] at hA hval
  obtain ⟨rfl, rfl, rfl⟩ := trodAll_none hA
  obtain ⟨rfl, rfl⟩ := trodVars_none hV
  exact (fnExactBuiltinClasses_calls  W  ).mono fun e W' ⟨he, hb⟩ => ⟨_, he, law_post Try.laidOut rfl (by kernel_rfl) rfl Try.underlying4 hW' rfl hb⟩

theorem fnExactBuiltinClasses_holds : Rows.FnExactBuiltinClassesSaid :=
  OpenClaim.holds_of_wide 5 Try.f5 rfl rfl rfl rfl rfl rfl rfl ⟨rfl, rfl, rfl, rfl, rfl⟩ rfl rfl rfl rfl rfl (by kernel_rfl) Try.func5 (by kernel_rfl)
    (of_decide_eq_true (by kernel_rfl)) (by unfold Func.isWrapper; rw [if_neg (of_decide_eq_false (by kernel_rfl))]; exact ⟨rfl, rfl⟩)
    (fun os started H enc _ => fnExactBuiltinClasses_lifted os started H enc)

#print axioms fnExactBuiltinClasses_holds


end Go.Proofs.Ytmclpkihiomlmaa
