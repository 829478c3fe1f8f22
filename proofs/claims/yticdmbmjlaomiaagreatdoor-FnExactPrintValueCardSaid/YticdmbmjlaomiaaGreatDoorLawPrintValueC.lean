/-
  FnExactPrintValue: the program's function gives what the reference's gives, for all arguments.
  Conditions: none.
-/
import Derived.Test.YticdmbmjlaomiaaGreatDoorLawPrintValueB
namespace Go.Proofs.YticdmbmjlaomiaaGreatDoor
open Go.ChangeShapes Go.WideShapes Go.ChangeAt Go.RowKit Go.Joins
open Go.ChangeMaps (open_string)
set_option linter.unusedSimpArgs false
set_option linter.unusedVariables false


theorem fnExactPrintValue_card : Rows.FnExactPrintValueCardSaid :=
  Claim7.holds_tied_plain_at .later [] [.data, .data, .data, .data, .pinned] true (true, "1acd901e2ae5831190c34c4f47a55c91628f65dae8e8893b79610304cea0bff6") false fnExactPrintValue_holds (fun _ h => by cases h) (by kernel_rfl) (fun _ h => by cases h) fnExactPrintValue_row_tie rfl ⟨rfl, rfl⟩ (by kernel_rfl) rfl
    (fun f fn hf hfn => by
      obtain rfl : f = 3 := Option.some.inj ((show Tryz.prog.funcNamed "loop.example/g03108/laws.FnExactPrintValue" = some 3 by kernel_rfl).symm.trans hf) |>.symm
      obtain rfl : fn = Tryz.f3 := (Option.some.inj (Tryz.func3.symm.trans hfn)).symm
      exact ⟨by kernel_rfl, fun j t ht => by
        rw [Tryz.params3] at ht
        have hm : t ∈ [26, 28] := by
          have h := Array.mem_of_getElem? ht
          simpa using h
        have hall : ([26, 28].all fun u => !Tryz.prog.wantsStandIn u) = true := by kernel_rfl
        exact (show Tryz.prog.wantsStandIn t = false by simpa using List.all_eq_true.1 hall t hm)⟩)
    (by kernel_rfl)

#print axioms fnExactPrintValue_card


end Go.Proofs.YticdmbmjlaomiaaGreatDoor
