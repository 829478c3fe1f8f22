/-
  FnExactCheckUnit: the program's function gives what the reference's gives, for all arguments.
  Conditions: none.
-/
import Derived.Test.YtlppoffneeglgaaGreatDoorLawCheckUnitB
namespace Go.Proofs.YtlppoffneeglgaaGreatDoor
open Go.ChangeShapes Go.WideShapes Go.ChangeAt Go.RowKit Go.Joins
open Go.ChangeMaps (open_string)
set_option linter.unusedSimpArgs false
set_option linter.unusedVariables false


theorem fnExactCheckUnit_card : Rows.FnExactCheckUnitCardSaid :=
  Claim7.holds_tied_plain_at .later [] [.data, .pinned] true (true, "f77781debd2ce933077ad09e7b56b9ea9eed15375cae87dbde8fb1f73345c51e") false fnExactCheckUnit_holds (fun _ h => by cases h) (by kernel_rfl) (fun _ h => by cases h) fnExactCheckUnit_row_tie rfl ⟨rfl, rfl⟩ (by kernel_rfl) rfl
    (fun f fn hf hfn => by
      obtain rfl : f = 3 := Option.some.inj ((show Tryz.prog.funcNamed "loop.example/g03108/laws.FnExactCheckUnit" = some 3 by kernel_rfl).symm.trans hf) |>.symm
      obtain rfl : fn = Tryz.f3 := (Option.some.inj (Tryz.func3.symm.trans hfn)).symm
      exact ⟨by kernel_rfl, fun j t ht => by
        rw [Tryz.params3] at ht
        have hm : t ∈ [28] := by
          have h := Array.mem_of_getElem? ht
          simpa using h
        have hall : ([28].all fun u => !Tryz.prog.wantsStandIn u) = true := by kernel_rfl
        exact (show Tryz.prog.wantsStandIn t = false by simpa using List.all_eq_true.1 hall t hm)⟩)
    (by kernel_rfl)

#print axioms fnExactCheckUnit_card


end Go.Proofs.YtlppoffneeglgaaGreatDoor
