/-
  FnExactParseUnit: the closed facts, and the row.
  Conditions: none.
-/
import Derived.Test.YtlcebafhbceejaaGreatDoorLawParseUnit
namespace Go.Proofs.YtlcebafhbceejaaGreatDoor
open Go.ChangeShapes Go.WideShapes Go.ChangeAt Go.RowKit Go.Joins
open Go.ChangeMaps (open_string)
set_option maxHeartbeats 8000000
set_option maxRecDepth 100000
set_option linter.unusedSimpArgs false
set_option linter.unusedVariables false
theorem fnExactParseUnit_c1 : (Rows.fnExactParseUnitRow.inPlace == Tryz.prog.inPlace 3) = true := by kernel_rfl
theorem fnExactParseUnit_c2 : (Rows.fnExactParseUnitRow.unfollowed == Tryz.prog.unfollowed 3) = true := by kernel_rfl
theorem fnExactParseUnit_c3a : (Tryz.prog.closure 3).contains 34 = true := by kernel_rfl
theorem fnExactParseUnit_c3b : (((Tryz.prog.funcs[34]?).elim [] Tryz.prog.leadsTo).any fun h => (Tryz.prog.closure h).contains 34) = true := by kernel_rfl
theorem fnExactParseUnit_c3 : (Rows.fnExactParseUnitRow.recurses == Tryz.prog.recurses 3) = true := by
 have h : Tryz.prog.recurses 3 = true := by
  unfold Program.recurses
  rw [Bool.or_eq_true]
  exact Or.inr (List.any_eq_true.2 ⟨34, by simpa using fnExactParseUnit_c3a, fnExactParseUnit_c3b⟩)
 rw [h]; rfl
theorem fnExactParseUnit_c4 : (Rows.fnExactParseUnitRow.named == Tryz.prog.varsNamed 3) = true := by kernel_rfl
theorem fnExactParseUnit_closed : joinedFacts Tryz.prog 3 Tryz.f3 Rows.fnExactParseUnitSpec Rows.fnExactParseUnitRow = true := by
 unfold joinedFacts
 rw [fnExactParseUnit_c1, fnExactParseUnit_c2, fnExactParseUnit_c3, fnExactParseUnit_c4]
 kernel_rfl
theorem fnExactParseUnit_holds : Rows.FnExactParseUnitSaid :=
 OpenClaim.holds_of_wide 3 Tryz.f3 rfl rfl rfl rfl rfl rfl rfl ⟨rfl, rfl, rfl, rfl, rfl⟩ rfl rfl rfl rfl rfl (by kernel_rfl) Tryz.func3 fnExactParseUnit_closed
  (of_decide_eq_true (by kernel_rfl)) (by unfold Func.isWrapper; rw [if_neg (of_decide_eq_false (by kernel_rfl))]; exact ⟨rfl, rfl⟩)
  (fun os started H enc _ => fnExactParseUnit_lifted os started H enc)
end Go.Proofs.YtlcebafhbceejaaGreatDoor
