/-
  FnExactParseMethod: the closed facts, and the row.
  Conditions: none.
-/
import Derived.Test.YtonmcoojgkgemaaGreatDoorLawParseMethod
namespace Go.Proofs.YtonmcoojgkgemaaGreatDoor
open Go.ChangeShapes Go.WideShapes Go.ChangeAt Go.RowKit Go.Joins
open Go.ChangeMaps (open_string)
set_option linter.unusedSimpArgs false
set_option linter.unusedVariables false


theorem fnExactParseMethod_c1 : (Rows.fnExactParseMethodRow.inPlace == Tryz.prog.inPlace 4) = true := by kernel_rfl
theorem fnExactParseMethod_c2 : (Rows.fnExactParseMethodRow.unfollowed == Tryz.prog.unfollowed 4) = true := by kernel_rfl
theorem fnExactParseMethod_c3a : (Tryz.prog.closure 4).contains 22 = true := by kernel_rfl
theorem fnExactParseMethod_c3b : (((Tryz.prog.funcs[22]?).elim [] Tryz.prog.leadsTo).any fun h => (Tryz.prog.closure h).contains 22) = true := by kernel_rfl
theorem fnExactParseMethod_c3 : (Rows.fnExactParseMethodRow.recurses == Tryz.prog.recurses 4) = true := by
  have h : Tryz.prog.recurses 4 = true := by
    unfold Program.recurses
    rw [Bool.or_eq_true]
    exact Or.inr (List.any_eq_true.2 ⟨22, by simpa using fnExactParseMethod_c3a, fnExactParseMethod_c3b⟩)
  rw [h]; rfl
theorem fnExactParseMethod_c4 : (Rows.fnExactParseMethodRow.named == Tryz.prog.varsNamed 4) = true := by kernel_rfl
theorem fnExactParseMethod_closed : joinedFacts Tryz.prog 4 Tryz.f4 Rows.fnExactParseMethodSpec Rows.fnExactParseMethodRow = true := by
  unfold joinedFacts
  rw [fnExactParseMethod_c1, fnExactParseMethod_c2, fnExactParseMethod_c3, fnExactParseMethod_c4]
  kernel_rfl

theorem fnExactParseMethod_holds : Rows.FnExactParseMethodSaid :=
  OpenClaim.holds_of_wide 4 Tryz.f4 rfl rfl rfl rfl rfl rfl rfl ⟨rfl, rfl, rfl, rfl, rfl⟩ rfl rfl rfl rfl rfl (by kernel_rfl) Tryz.func4 fnExactParseMethod_closed
    (of_decide_eq_true (by kernel_rfl)) (by unfold Func.isWrapper; rw [if_neg (of_decide_eq_false (by kernel_rfl))]; exact ⟨rfl, rfl⟩)
    (fun os started H enc _ => fnExactParseMethod_lifted os started H enc)





end Go.Proofs.YtonmcoojgkgemaaGreatDoor
