/-
  FnExactCheckUnit: the closed facts, and the row.
  Conditions: none.
-/
import Derived.Test.YtlppoffneeglgaaGreatDoorLawCheckUnit
namespace Go.Proofs.YtlppoffneeglgaaGreatDoor
open Go.ChangeShapes Go.WideShapes Go.ChangeAt Go.RowKit Go.Joins
open Go.ChangeMaps (open_string)
set_option linter.unusedSimpArgs false
set_option linter.unusedVariables false


theorem fnExactCheckUnit_c1 : (Rows.fnExactCheckUnitRow.inPlace == Tryz.prog.inPlace 3) = true := by kernel_rfl
theorem fnExactCheckUnit_c2 : (Rows.fnExactCheckUnitRow.unfollowed == Tryz.prog.unfollowed 3) = true := by kernel_rfl
theorem fnExactCheckUnit_c3a : (Tryz.prog.closure 3).contains 33 = true := by kernel_rfl
theorem fnExactCheckUnit_c3b : (((Tryz.prog.funcs[33]?).elim [] Tryz.prog.leadsTo).any fun h => (Tryz.prog.closure h).contains 33) = true := by kernel_rfl
theorem fnExactCheckUnit_c3 : (Rows.fnExactCheckUnitRow.recurses == Tryz.prog.recurses 3) = true := by
  have h : Tryz.prog.recurses 3 = true := by
    unfold Program.recurses
    rw [Bool.or_eq_true]
    exact Or.inr (List.any_eq_true.2 ⟨33, by simpa using fnExactCheckUnit_c3a, fnExactCheckUnit_c3b⟩)
  rw [h]; rfl
theorem fnExactCheckUnit_c4 : (Rows.fnExactCheckUnitRow.named == Tryz.prog.varsNamed 3) = true := by kernel_rfl
theorem fnExactCheckUnit_closed : joinedFacts Tryz.prog 3 Tryz.f3 Rows.fnExactCheckUnitSpec Rows.fnExactCheckUnitRow = true := by
  unfold joinedFacts
  rw [fnExactCheckUnit_c1, fnExactCheckUnit_c2, fnExactCheckUnit_c3, fnExactCheckUnit_c4]
  kernel_rfl

theorem fnExactCheckUnit_holds : Rows.FnExactCheckUnitSaid :=
  OpenClaim.holds_of_wide 3 Tryz.f3 rfl rfl rfl rfl rfl rfl rfl ⟨rfl, rfl, rfl, rfl, rfl⟩ rfl rfl rfl rfl rfl (by kernel_rfl) Tryz.func3 fnExactCheckUnit_closed
    (of_decide_eq_true (by kernel_rfl)) (by unfold Func.isWrapper; rw [if_neg (of_decide_eq_false (by kernel_rfl))]; exact ⟨rfl, rfl⟩)
    (fun os started H enc _ => fnExactCheckUnit_lifted os started H enc)





end Go.Proofs.YtlppoffneeglgaaGreatDoor
