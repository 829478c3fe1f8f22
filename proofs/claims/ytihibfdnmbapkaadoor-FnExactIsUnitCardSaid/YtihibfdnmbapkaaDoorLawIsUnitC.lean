/-
  FnExactIsUnit: the program's IsUnit gives what the reference's gives, for all arguments.
  Conditions: none.
-/
import Derived.Test.YtihibfdnmbapkaaDoorLawIsUnitB
namespace Go.Proofs.YtihibfdnmbapkaaDoor
open Go.ChangeShapes Go.WideShapes Go.ChangeAt Go.RowKit Go.Joins
open Go.ChangeMaps (open_string)
set_option linter.unusedSimpArgs false
set_option linter.unusedVariables false


theorem fnExactIsUnit_c1 : (Rows.fnExactIsUnitRow.inPlace == Tryd.prog.inPlace 13) = true := by kernel_rfl
theorem fnExactIsUnit_c2 : (Rows.fnExactIsUnitRow.unfollowed == Tryd.prog.unfollowed 13) = true := by kernel_rfl
theorem fnExactIsUnit_c3a : (Tryd.prog.closure 13).contains 87 = true := by kernel_rfl
theorem fnExactIsUnit_c3b : (((Tryd.prog.funcs[87]?).elim [] Tryd.prog.leadsTo).any fun h => (Tryd.prog.closure h).contains 87) = true := by kernel_rfl
theorem fnExactIsUnit_c3 : (Rows.fnExactIsUnitRow.recurses == Tryd.prog.recurses 13) = true := by
  have h : Tryd.prog.recurses 13 = true := by
    unfold Program.recurses
    rw [Bool.or_eq_true]
    exact Or.inr (List.any_eq_true.2 ⟨87, by simpa using fnExactIsUnit_c3a, fnExactIsUnit_c3b⟩)
  rw [h]; rfl
theorem fnExactIsUnit_c4 : (Rows.fnExactIsUnitRow.named == Tryd.prog.varsNamed 13) = true := by kernel_rfl
theorem fnExactIsUnit_closed : joinedFacts Tryd.prog 13 Tryd.f13 Rows.fnExactIsUnitSpec Rows.fnExactIsUnitRow = true := by
  unfold joinedFacts
  rw [fnExactIsUnit_c1, fnExactIsUnit_c2, fnExactIsUnit_c3, fnExactIsUnit_c4]
  kernel_rfl

theorem fnExactIsUnit_holds : Rows.FnExactIsUnitSaid :=
  OpenClaim.holds_of_wide 13 Tryd.f13 rfl rfl rfl rfl rfl rfl rfl ⟨rfl, rfl, rfl, rfl, rfl⟩ rfl rfl rfl rfl rfl (by kernel_rfl) Tryd.func13 fnExactIsUnit_closed
    (of_decide_eq_true (by kernel_rfl)) (by unfold Func.isWrapper; rw [if_neg (of_decide_eq_false (by kernel_rfl))]; exact ⟨rfl, rfl⟩)
    (fun os started H enc _ => fnExactIsUnit_lifted os started H enc)

end Go.Proofs.YtihibfdnmbapkaaDoor
