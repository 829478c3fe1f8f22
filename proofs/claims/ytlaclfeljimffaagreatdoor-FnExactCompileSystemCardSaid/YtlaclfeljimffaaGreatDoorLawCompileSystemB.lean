/-
  FnExactCompileSystem: the closed facts, and the row.
  Conditions: none.
-/
import Derived.Test.YtlaclfeljimffaaGreatDoorLawCompileSystem
namespace Go.Proofs.YtlaclfeljimffaaGreatDoor
open Go.ChangeShapes Go.WideShapes Go.ChangeAt Go.RowKit Go.Joins
open Go.ChangeMaps (open_string)
set_option maxHeartbeats 8000000
set_option maxRecDepth 100000
set_option linter.unusedSimpArgs false
set_option linter.unusedVariables false
theorem fnExactCompileSystem_c1 : (Rows.fnExactCompileSystemRow.inPlace == Tryz.prog.inPlace 3) = true := by kernel_rfl
theorem fnExactCompileSystem_c2 : (Rows.fnExactCompileSystemRow.unfollowed == Tryz.prog.unfollowed 3) = true := by kernel_rfl
theorem fnExactCompileSystem_c3a : (Tryz.prog.closure 3).contains 78 = true := by kernel_rfl
theorem fnExactCompileSystem_c3b : (((Tryz.prog.funcs[78]?).elim [] Tryz.prog.leadsTo).any fun h => (Tryz.prog.closure h).contains 78) = true := by kernel_rfl
theorem fnExactCompileSystem_c3 : (Rows.fnExactCompileSystemRow.recurses == Tryz.prog.recurses 3) = true := by
 have h : Tryz.prog.recurses 3 = true := by
  unfold Program.recurses
  rw [Bool.or_eq_true]
  exact Or.inr (List.any_eq_true.2 ⟨78, by simpa using fnExactCompileSystem_c3a, fnExactCompileSystem_c3b⟩)
 rw [h]; rfl
theorem fnExactCompileSystem_c4 : (Rows.fnExactCompileSystemRow.named == Tryz.prog.varsNamed 3) = true := by kernel_rfl
theorem fnExactCompileSystem_closed : joinedFacts Tryz.prog 3 Tryz.f3 Rows.fnExactCompileSystemSpec Rows.fnExactCompileSystemRow = true := by
 unfold joinedFacts
 rw [fnExactCompileSystem_c1, fnExactCompileSystem_c2, fnExactCompileSystem_c3, fnExactCompileSystem_c4]
 kernel_rfl
theorem fnExactCompileSystem_holds : Rows.FnExactCompileSystemSaid :=
 OpenClaim.holds_of_wide 3 Tryz.f3 rfl rfl rfl rfl rfl rfl rfl ⟨rfl, rfl, rfl, rfl, rfl⟩ rfl rfl rfl rfl rfl (by kernel_rfl) Tryz.func3 fnExactCompileSystem_closed
  (of_decide_eq_true (by kernel_rfl)) (by unfold Func.isWrapper; rw [if_neg (of_decide_eq_false (by kernel_rfl))]; exact ⟨rfl, rfl⟩)
  (fun os started H enc _ => fnExactCompileSystem_lifted os started H enc)
end Go.Proofs.YtlaclfeljimffaaGreatDoor
