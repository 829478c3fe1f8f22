/-
  FnExactIsName: the program's IsName gives what the reference's gives, for every text.
  Conditions: none.
-/
import Derived.Test.YtmclpkihiomlmaaLaw
import Derived.Test.YtmclpkihiomlmaaFnLex
namespace Go.Proofs.Ytmclpkihiomlmaa
open Go.ChangeShapes Go.WideShapes Go.ChangeAt Go.RowKit Go.Joins
open Go.ChangeMaps (open_string)
set_option linter.unusedSimpArgs false
set_option linter.unusedVariables false


set_option maxHeartbeats 400000 in
theorem fnExactIsName_calls (s : ByteArray) (w : World) (hs : s.size ≤ maxLen) : Calls Try.prog 6 #[.string s] w fun e w' => e = .returned (.bool true) ∧ Ext w w' := by
  unfold maxLen at hs
  go_enter Try.func6, Try.ntmps6
  by_cases h : s.size ≤ 1048576
  rotate_left
  · go_wp2_with fail
    go_ret
    exact ⟨rfl, Ext.refl _⟩
  go_wp2_with fail
  refine (spec_IsName_any s _ (by omega)).mono ?_
  rintro e w1 ⟨rfl, hx1⟩
  go_wp2_with fail
  refine (impl_IsName_any s _ (by omega)).mono ?_
  rintro e w2 ⟨rfl, hx2⟩
  go_wp2_with fail
  go_ret
  exact ⟨rfl, Ext.trans hx1 hx2⟩

set_option maxRecDepth 100000 in
theorem fnExactIsName_lifted (os : Os) (started : os.Started) (H : Type) (enc : TypeId × Value → H) :
    ReturnsInHanded {} Try.checked os 6 .any (Rows.fnExactIsNameSpec.pre6 enc Try.prog Try.f6 Rows.fnExactIsNameRow.domain false) (Rows.fnExactIsNameSpec.post enc Try.prog Try.f6 false true false false) := by
  refine returnsInHanded_of_change (C := Try.checked) Try.own started (by kernel_rfl) Try.func6
    (ChangeSpec.witness6 (enc := enc) (C := Try.checked) false ⟨#[], #[.string ByteArray.empty], []⟩ 8 (by kernel_rfl) (by kernel_rfl) (by kernel_rfl) (by kernel_rfl)) ?_
  intro W base args ds gs before hval0 hW hcnd _
  have hval : ∀ (j : Nat) t v, Try.f6.params[j]? = some t → args[j]? = some v → Value.okWide Try.prog W .any base t v := hval0
  have hW' := hW
  obtain ⟨p, q, hA0, hV, rfl, hfz, hnd⟩ := hW
  have hA : DataW.TrodAll enc Try.prog W 0 (fun _ => true) true Try.f6.params.toList args.toList ds p := hA0
  rw [Try.params6] at hA hval
  obtain ⟨v0, d0, rfl, rfl, h0⟩ := trodAll_one hA
  obtain ⟨rfl, rfl⟩ := trodVars_none hV
  obtain ⟨x0, rfl, rfl, rfl, o0⟩ := open_string Try.underlying9 (hval 0 9 v0 rfl rfl) h0
  exact (fnExactIsName_calls x0 W  o0).mono fun e W' ⟨he, hb⟩ => ⟨_, he, law_post Try.laidOut rfl (by kernel_rfl) rfl Try.underlying4 hW' rfl hb⟩

theorem fnExactIsName_holds : Rows.FnExactIsNameSaid :=
  OpenClaim.holds_of_wide 6 Try.f6 rfl rfl rfl rfl rfl rfl rfl ⟨rfl, rfl, rfl, rfl, rfl⟩ rfl rfl rfl rfl rfl (by kernel_rfl) Try.func6 (by kernel_rfl)
    (of_decide_eq_true (by kernel_rfl)) (by unfold Func.isWrapper; rw [if_neg (of_decide_eq_false (by kernel_rfl))]; exact ⟨rfl, rfl⟩)
    (fun os started H enc _ => fnExactIsName_lifted os started H enc)

#print axioms fnExactIsName_holds


end Go.Proofs.Ytmclpkihiomlmaa
