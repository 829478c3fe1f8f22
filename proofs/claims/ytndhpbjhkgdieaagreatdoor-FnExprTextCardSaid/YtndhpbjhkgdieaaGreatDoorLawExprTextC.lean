/-
  FnExprText: the program's function gives what the reference's gives, for all arguments.
  Conditions: none.
-/
import Derived.Test.YtndhpbjhkgdieaaGreatDoorLawExprTextB
namespace Go.Proofs.YtndhpbjhkgdieaaGreatDoor
open Go.ChangeShapes Go.WideShapes Go.ChangeAt Go.RowKit Go.Joins
open Go.ChangeMaps (open_string)
set_option maxHeartbeats 8000000
set_option maxRecDepth 100000
set_option linter.unusedSimpArgs false
set_option linter.unusedVariables false
theorem fnExprText_card : Rows.FnExprTextCardSaid :=
 Claim7.holds_tied_plain_at .later [] [.data, .data, .data, .data, .pinned] true (true, "ad68e3661ce96390e4787cf586108d45f53ca4c3e7e3e5cdaaffc1c1a0716b60") false fnExprText_holds (fun _ h => by cases h) (by kernel_rfl) (fun _ h => by cases h) fnExprText_row_tie rfl ⟨rfl, rfl⟩ (by kernel_rfl) rfl
  (fun f fn hf hfn => by
   obtain rfl : f = 3 := Option.some.inj ((show Tryz.prog.funcNamed "loop.example/g03108/laws.FnExprText" = some 3 by kernel_rfl).symm.trans hf) |>.symm
   obtain rfl : fn = Tryz.f3 := (Option.some.inj (Tryz.func3.symm.trans hfn)).symm
   exact ⟨by kernel_rfl, fun j t ht => by
    rw [Tryz.params3] at ht
    have hm : t ∈ [22] := by
     have h := Array.mem_of_getElem? ht
     simpa using h
    have hall : ([22].all fun u => !Tryz.prog.wantsStandIn u) = true := by kernel_rfl
    exact (show Tryz.prog.wantsStandIn t = false by simpa using List.all_eq_true.1 hall t hm)⟩)
  (by kernel_rfl)
#print axioms fnExprText_card
end Go.Proofs.YtndhpbjhkgdieaaGreatDoor
