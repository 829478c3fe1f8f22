/-
  FnExactPrintValue: the closed facts, and the row.
  Conditions: none.
-/
import Derived.Test.YticdmbmjlaomiaaGreatDoorLawPrintValue
namespace Go.Proofs.YticdmbmjlaomiaaGreatDoor
open Go.ChangeShapes Go.WideShapes Go.ChangeAt Go.RowKit Go.Joins
open Go.ChangeMaps (open_string)
set_option linter.unusedSimpArgs false
set_option linter.unusedVariables false


theorem fnExactPrintValue_c1 : (Rows.fnExactPrintValueRow.inPlace == Tryz.prog.inPlace 3) = true := by kernel_rfl
theorem fnExactPrintValue_c2 : (Rows.fnExactPrintValueRow.unfollowed == Tryz.prog.unfollowed 3) = true := by kernel_rfl
theorem fnExactPrintValue_c3a : (Tryz.prog.closure 3).contains 55 = true := by kernel_rfl
theorem fnExactPrintValue_c3b : (((Tryz.prog.funcs[55]?).elim [] Tryz.prog.leadsTo).any fun h => (Tryz.prog.closure h).contains 55) = true := by kernel_rfl
theorem fnExactPrintValue_c3 : (Rows.fnExactPrintValueRow.recurses == Tryz.prog.recurses 3) = true := by
  have h : Tryz.prog.recurses 3 = true := by
    unfold Program.recurses
    rw [Bool.or_eq_true]
    exact Or.inr (List.any_eq_true.2 ⟨55, by simpa using fnExactPrintValue_c3a, fnExactPrintValue_c3b⟩)
  rw [h]; rfl
theorem fnExactPrintValue_c4 : (Rows.fnExactPrintValueRow.named == Tryz.prog.varsNamed 3) = true := by kernel_rfl
theorem fnExactPrintValue_closed : joinedFacts Tryz.prog 3 Tryz.f3 Rows.fnExactPrintValueSpec Rows.fnExactPrintValueRow = true := by
  unfold joinedFacts
  rw [fnExactPrintValue_c1, fnExactPrintValue_c2, fnExactPrintValue_c3, fnExactPrintValue_c4]
  kernel_rfl

theorem fnExactPrintValue_holds : Rows.FnExactPrintValueSaid :=
  OpenClaim.holds_of_wide 3 Tryz.f3 rfl rfl rfl rfl rfl rfl rfl ⟨rfl, rfl, rfl, rfl, rfl⟩ rfl rfl rfl rfl rfl (by kernel_rfl) Tryz.func3 fnExactPrintValue_closed
    (of_decide_eq_true (by kernel_rfl)) (by unfold Func.isWrapper; rw [if_neg (of_decide_eq_false (by kernel_rfl))]; exact ⟨rfl, rfl⟩)
    (fun os started H enc _ => fnExactPrintValue_lifted os started H enc)





end Go.Proofs.YticdmbmjlaomiaaGreatDoor
