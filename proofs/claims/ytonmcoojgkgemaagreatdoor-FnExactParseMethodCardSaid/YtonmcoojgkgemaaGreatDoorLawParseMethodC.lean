/-
  FnExactParseMethod: the program's function gives what the reference's gives, for all arguments.
  Conditions: none.
-/
import Derived.Test.YtonmcoojgkgemaaGreatDoorLawParseMethodB
namespace Go.Proofs.YtonmcoojgkgemaaGreatDoor
open Go.ChangeShapes Go.WideShapes Go.ChangeAt Go.RowKit Go.Joins
open Go.ChangeMaps (open_string)
set_option linter.unusedSimpArgs false
set_option linter.unusedVariables false


theorem fnExactParseMethod_card : Rows.FnExactParseMethodCardSaid :=
  Claim7.holds_tied_plain_at .later [] [.data, .pinned] true (true, "46264ad3fd107eda3113abaa4d56930dfa3e15f19f74b143e27e3a6cfda54caa") false fnExactParseMethod_holds (fun _ h => by cases h) (by kernel_rfl) (fun _ h => by cases h) fnExactParseMethod_row_tie rfl ⟨rfl, rfl⟩ (by kernel_rfl) rfl
    (fun f fn hf hfn => by
      obtain rfl : f = 4 := Option.some.inj ((show Tryz.prog.funcNamed "loop.example/g03108/laws.FnExactParseMethod" = some 4 by kernel_rfl).symm.trans hf) |>.symm
      obtain rfl : fn = Tryz.f4 := (Option.some.inj (Tryz.func4.symm.trans hfn)).symm
      exact ⟨by kernel_rfl, fun j t ht => by
        rw [Tryz.params4] at ht
        have hm : t ∈ [9] := by
          have h := Array.mem_of_getElem? ht
          simpa using h
        have hall : ([9].all fun u => !Tryz.prog.wantsStandIn u) = true := by kernel_rfl
        exact (show Tryz.prog.wantsStandIn t = false by simpa using List.all_eq_true.1 hall t hm)⟩)
    (by kernel_rfl)

#print axioms fnExactParseMethod_card


end Go.Proofs.YtonmcoojgkgemaaGreatDoor
