/-
  FnExprText: the closed facts, and the row.
  Conditions: none.
-/
import Derived.Test.YtndhpbjhkgdieaaGreatDoorLawExprText
namespace Go.Proofs.YtndhpbjhkgdieaaGreatDoor
open Go.ChangeShapes Go.WideShapes Go.ChangeAt Go.RowKit Go.Joins
open Go.ChangeMaps (open_string)
set_option maxHeartbeats 8000000
set_option maxRecDepth 100000
set_option linter.unusedSimpArgs false
set_option linter.unusedVariables false
theorem fnExprText_c1 : (Rows.fnExprTextRow.inPlace == Tryz.prog.inPlace 3) = true := by kernel_rfl
theorem fnExprText_c2 : (Rows.fnExprTextRow.unfollowed == Tryz.prog.unfollowed 3) = true := by kernel_rfl
theorem fnExprText_c3a : (Tryz.prog.closure 3).contains 16 = true := by kernel_rfl
theorem fnExprText_c3b : (((Tryz.prog.funcs[16]?).elim [] Tryz.prog.leadsTo).any fun h => (Tryz.prog.closure h).contains 16) = true := by kernel_rfl
theorem fnExprText_c3 : (Rows.fnExprTextRow.recurses == Tryz.prog.recurses 3) = true := by
 have h : Tryz.prog.recurses 3 = true := by
  unfold Program.recurses
  rw [Bool.or_eq_true]
  exact Or.inr (List.any_eq_true.2 ⟨16, by simpa using fnExprText_c3a, fnExprText_c3b⟩)
 rw [h]; rfl
theorem fnExprText_c4 : (Rows.fnExprTextRow.named == Tryz.prog.varsNamed 3) = true := by kernel_rfl
theorem fnExprText_closed : joinedFacts Tryz.prog 3 Tryz.f3 Rows.fnExprTextSpec Rows.fnExprTextRow = true := by
 unfold joinedFacts
 rw [fnExprText_c1, fnExprText_c2, fnExprText_c3, fnExprText_c4]
 kernel_rfl
theorem fnExprText_holds : Rows.FnExprTextSaid :=
 OpenClaim.holds_of_wide 3 Tryz.f3 rfl rfl rfl rfl rfl rfl rfl ⟨rfl, rfl, rfl, rfl, rfl⟩ rfl rfl rfl rfl rfl (by kernel_rfl) Tryz.func3 fnExprText_closed
  (of_decide_eq_true (by kernel_rfl)) (by unfold Func.isWrapper; rw [if_neg (of_decide_eq_false (by kernel_rfl))]; exact ⟨rfl, rfl⟩)
  (fun os started H enc _ => fnExprText_lifted os started H enc)
end Go.Proofs.YtndhpbjhkgdieaaGreatDoor
