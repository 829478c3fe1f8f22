/-
  FnExactParseExpr: the closed facts, and the row.
  Conditions: none.
-/
import Derived.Test.YtonmcoojgkgemaaGreatDoorLawParseExpr
namespace Go.Proofs.YtonmcoojgkgemaaGreatDoor
open Go.ChangeShapes Go.WideShapes Go.ChangeAt Go.RowKit Go.Joins
open Go.ChangeMaps (open_string)
set_option linter.unusedSimpArgs false
set_option linter.unusedVariables false


theorem fnExactParseExpr_c1 : (Rows.fnExactParseExprRow.inPlace == Tryz.prog.inPlace 3) = true := by kernel_rfl
theorem fnExactParseExpr_c2 : (Rows.fnExactParseExprRow.unfollowed == Tryz.prog.unfollowed 3) = true := by kernel_rfl
theorem fnExactParseExpr_c3a : (Tryz.prog.closure 3).contains 22 = true := by kernel_rfl
theorem fnExactParseExpr_c3b : (((Tryz.prog.funcs[22]?).elim [] Tryz.prog.leadsTo).any fun h => (Tryz.prog.closure h).contains 22) = true := by kernel_rfl
theorem fnExactParseExpr_c3 : (Rows.fnExactParseExprRow.recurses == Tryz.prog.recurses 3) = true := by
  have h : Tryz.prog.recurses 3 = true := by
    unfold Program.recurses
    rw [Bool.or_eq_true]
    exact Or.inr (List.any_eq_true.2 ⟨22, by simpa using fnExactParseExpr_c3a, fnExactParseExpr_c3b⟩)
  rw [h]; rfl
theorem fnExactParseExpr_c4 : (Rows.fnExactParseExprRow.named == Tryz.prog.varsNamed 3) = true := by kernel_rfl
theorem fnExactParseExpr_closed : joinedFacts Tryz.prog 3 Tryz.f3 Rows.fnExactParseExprSpec Rows.fnExactParseExprRow = true := by
  unfold joinedFacts
  rw [fnExactParseExpr_c1, fnExactParseExpr_c2, fnExactParseExpr_c3, fnExactParseExpr_c4]
  kernel_rfl

theorem fnExactParseExpr_holds : Rows.FnExactParseExprSaid :=
  OpenClaim.holds_of_wide 3 Tryz.f3 rfl rfl rfl rfl rfl rfl rfl ⟨rfl, rfl, rfl, rfl, rfl⟩ rfl rfl rfl rfl rfl (by kernel_rfl) Tryz.func3 fnExactParseExpr_closed
    (of_decide_eq_true (by kernel_rfl)) (by unfold Func.isWrapper; rw [if_neg (of_decide_eq_false (by kernel_rfl))]; exact ⟨rfl, rfl⟩)
    (fun os started H enc _ => fnExactParseExpr_lifted os started H enc)





end Go.Proofs.YtonmcoojgkgemaaGreatDoor
