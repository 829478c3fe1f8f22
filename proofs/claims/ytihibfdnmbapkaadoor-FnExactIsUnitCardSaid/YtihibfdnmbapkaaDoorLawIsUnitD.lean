/-
  FnExactIsUnit: the program's IsUnit gives what the reference's gives, for all arguments.
  Conditions: none.
-/
import Derived.Test.YtihibfdnmbapkaaDoorLawIsUnitC
namespace Go.Proofs.YtihibfdnmbapkaaDoor
open Go.ChangeShapes Go.WideShapes Go.ChangeAt Go.RowKit Go.Joins
open Go.ChangeMaps (open_string)
set_option linter.unusedSimpArgs false
set_option linter.unusedVariables false


theorem fnExactIsUnit_card : Rows.FnExactIsUnitCardSaid :=
  Claim7.holds_tied_plain_at .later [] [.data, .pinned] true (true, "b7b47e0bf8d4d89fef6ed5d05750f7dbf701b3d562e4f3ec39a9de043b8c5443") true fnExactIsUnit_holds (fun _ h => by cases h) (by kernel_rfl) (fun _ h => by cases h) fnExactIsUnit_row_tie rfl ⟨rfl, rfl⟩ (by kernel_rfl) rfl
    (fun f fn hf hfn => by
      obtain rfl : f = 13 := Option.some.inj ((show Tryd.prog.funcNamed "loop.example/g03108/laws.FnExactIsUnit" = some 13 by kernel_rfl).symm.trans hf) |>.symm
      obtain rfl : fn = Tryd.f13 := (Option.some.inj (Tryd.func13.symm.trans hfn)).symm
      exact ⟨by kernel_rfl, fun j t ht => by
        rw [Tryd.params13] at ht
        have hm : t ∈ [92] := by
          have h := Array.mem_of_getElem? ht
          simpa using h
        have hall : ([92].all fun u => !Tryd.prog.wantsStandIn u) = true := by kernel_rfl
        exact (show Tryd.prog.wantsStandIn t = false by simpa using List.all_eq_true.1 hall t hm)⟩)
    (by kernel_rfl)

#print axioms fnExactIsUnit_card


end Go.Proofs.YtihibfdnmbapkaaDoor
