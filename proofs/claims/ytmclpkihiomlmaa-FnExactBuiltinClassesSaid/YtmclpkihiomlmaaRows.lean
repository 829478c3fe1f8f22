/-
  NARROWER THAN 'FOR EVERY INPUT', by the rows' own cells (each row's printed sentence says how): FnExactSizeOfExpr: loops · FnExactDepthOfExpr: loops · FnExactEqualExprs: loops · FnExactEqualMethods: loops.
  DERIVED. THE GIVEN ROWS OF THIS SEAT. 11 by the template 'for every input the law returns true; each argument reads behind the call as it read before'; 0 by the template 'total and deterministic' (their statements: YtmclpkihiomlmaaTotals.lean).
  GIVEN WITH THE SEED: the statements are not yours to turn. If you find one false, say at which input.
  Laid BY PROGRAM, IN A SANDBOX (cutbox-rows.mjs): the forced cells as the released guide's own fill.sh prints them over the translation b32908efe534c4b1… (all of the seat's roots in one cut). By AI agents, Wed Nov 11 2026. No macro, syntax, notation, axiom, sorry.
-/
import Derived.Test.YtmclpkihiomlmaaChecked
import GoSem.Claim
import GoSem.ClaimJoined
import GoSem.ClaimMapViews
import Derived.JoinedTies
import Derived.KernelRfl
namespace Go.Proofs.Ytmclpkihiomlmaa
/- THE CELL 'sum', in the pinned program and in every row, IS THE sha256 OF THE DUMP (.gsa) THAT YtmclpkihiomlmaaProg.lean LOADS. Nothing in Lean hashes anything: it is a label: what it is worth is what the hold of that sum in a sandbox is worth. -/
noncomputable def Try.pinned : Pinned := { name := "ytmclpkihiomlmaa", sum := "b32908efe534c4b18eaf3670ca243b79769775efda5ff714b34052edd1377be3", checked := Try.checked }
namespace Rows
def none {H : Type} : Left H := { results := [], args := [] }

/-- 'laws.FnExactConstants': WHATEVER THE INPUT: true; the input reads as it did. -/
def fnExactConstantsSpec : ChangeSpec := { name := "fnExactConstants", fn := fun _ => fun
  | [] => { results := [.lit (.bool true)], args := [] }
  | _ => none }
def fnExactConstantsRow : OpenClaim := { program := "ytmclpkihiomlmaa", sum := "b32908efe534c4b18eaf3670ca243b79769775efda5ff714b34052edd1377be3", func := "loop.example/g03108/laws.FnExactConstants", spec := "fnExactConstants", apart := false }
def FnExactConstantsSaid : Prop := fnExactConstantsRow.holds Try.pinned (OpenSpec.ofChange fnExactConstantsSpec)

/-- ITS FALSE NEIGHBOUR: 'it returns false'. Refute it at one input. -/
def fnExactConstantsWrong : ChangeSpec := { name := "fnExactConstants", fn := fun _ => fun
  | [] => { results := [.lit (.bool false)], args := [] }
  | _ => none }
def FnExactConstantsWrongFalsely : Prop := fnExactConstantsRow.holds Try.pinned (OpenSpec.ofChange fnExactConstantsWrong)

/-- 'laws.FnExactSameValue': WHATEVER THE INPUT: true; the input reads as it did. -/
def fnExactSameValueSpec : ChangeSpec := { name := "fnExactSameValue", fn := fun _ => fun
  | [d1, d2] => { results := [.lit (.bool true)], args := [d1, d2] }
  | _ => none }
def fnExactSameValueRow : OpenClaim := { program := "ytmclpkihiomlmaa", sum := "b32908efe534c4b18eaf3670ca243b79769775efda5ff714b34052edd1377be3", func := "loop.example/g03108/laws.FnExactSameValue", spec := "fnExactSameValue", apart := false }
def FnExactSameValueSaid : Prop := fnExactSameValueRow.holds Try.pinned (OpenSpec.ofChange fnExactSameValueSpec)

/-- ITS FALSE NEIGHBOUR: 'it returns false'. Refute it at one input. -/
def fnExactSameValueWrong : ChangeSpec := { name := "fnExactSameValue", fn := fun _ => fun
  | [d1, d2] => { results := [.lit (.bool false)], args := [d1, d2] }
  | _ => none }
def FnExactSameValueWrongFalsely : Prop := fnExactSameValueRow.holds Try.pinned (OpenSpec.ofChange fnExactSameValueWrong)

/-- 'laws.FnExactBuiltinClasses': WHATEVER THE INPUT: true; the input reads as it did. -/
def fnExactBuiltinClassesSpec : ChangeSpec := { name := "fnExactBuiltinClasses", fn := fun _ => fun
  | [] => { results := [.lit (.bool true)], args := [] }
  | _ => none }
def fnExactBuiltinClassesRow : OpenClaim := { program := "ytmclpkihiomlmaa", sum := "b32908efe534c4b18eaf3670ca243b79769775efda5ff714b34052edd1377be3", func := "loop.example/g03108/laws.FnExactBuiltinClasses", spec := "fnExactBuiltinClasses", apart := false }
def FnExactBuiltinClassesSaid : Prop := fnExactBuiltinClassesRow.holds Try.pinned (OpenSpec.ofChange fnExactBuiltinClassesSpec)

/-- ITS FALSE NEIGHBOUR: 'it returns false'. Refute it at one input. -/
def fnExactBuiltinClassesWrong : ChangeSpec := { name := "fnExactBuiltinClasses", fn := fun _ => fun
  | [] => { results := [.lit (.bool false)], args := [] }
  | _ => none }
def FnExactBuiltinClassesWrongFalsely : Prop := fnExactBuiltinClassesRow.holds Try.pinned (OpenSpec.ofChange fnExactBuiltinClassesWrong)

/-- 'laws.FnExactIsName': WHATEVER THE INPUT: true; the input reads as it did. -/
def fnExactIsNameSpec : ChangeSpec := { name := "fnExactIsName", fn := fun _ => fun
  | [d] => { results := [.lit (.bool true)], args := [d] }
  | _ => none }
def fnExactIsNameRow : OpenClaim := { program := "ytmclpkihiomlmaa", sum := "b32908efe534c4b18eaf3670ca243b79769775efda5ff714b34052edd1377be3", func := "loop.example/g03108/laws.FnExactIsName", spec := "fnExactIsName", apart := false }
def FnExactIsNameSaid : Prop := fnExactIsNameRow.holds Try.pinned (OpenSpec.ofChange fnExactIsNameSpec)

/-- ITS FALSE NEIGHBOUR: 'it returns false'. Refute it at one input. -/
def fnExactIsNameWrong : ChangeSpec := { name := "fnExactIsName", fn := fun _ => fun
  | [d] => { results := [.lit (.bool false)], args := [d] }
  | _ => none }
def FnExactIsNameWrongFalsely : Prop := fnExactIsNameRow.holds Try.pinned (OpenSpec.ofChange fnExactIsNameWrong)

/-- 'laws.FnExactEqualOutcomes': WHATEVER THE INPUT: true; the input reads as it did. -/
def fnExactEqualOutcomesSpec : ChangeSpec := { name := "fnExactEqualOutcomes", fn := fun _ => fun
  | [d1, d2] => { results := [.lit (.bool true)], args := [d1, d2] }
  | _ => none }
def fnExactEqualOutcomesRow : OpenClaim := { program := "ytmclpkihiomlmaa", sum := "b32908efe534c4b18eaf3670ca243b79769775efda5ff714b34052edd1377be3", func := "loop.example/g03108/laws.FnExactEqualOutcomes", spec := "fnExactEqualOutcomes", apart := false }
def FnExactEqualOutcomesSaid : Prop := fnExactEqualOutcomesRow.holds Try.pinned (OpenSpec.ofChange fnExactEqualOutcomesSpec)

/-- ITS FALSE NEIGHBOUR: 'it returns false'. Refute it at one input. -/
def fnExactEqualOutcomesWrong : ChangeSpec := { name := "fnExactEqualOutcomes", fn := fun _ => fun
  | [d1, d2] => { results := [.lit (.bool false)], args := [d1, d2] }
  | _ => none }
def FnExactEqualOutcomesWrongFalsely : Prop := fnExactEqualOutcomesRow.holds Try.pinned (OpenSpec.ofChange fnExactEqualOutcomesWrong)

/-- 'laws.FnExactEqualCodes': WHATEVER THE INPUT: true; the input reads as it did. -/
def fnExactEqualCodesSpec : ChangeSpec := { name := "fnExactEqualCodes", fn := fun _ => fun
  | [d1, d2] => { results := [.lit (.bool true)], args := [d1, d2] }
  | _ => none }
def fnExactEqualCodesRow : OpenClaim := { program := "ytmclpkihiomlmaa", sum := "b32908efe534c4b18eaf3670ca243b79769775efda5ff714b34052edd1377be3", func := "loop.example/g03108/laws.FnExactEqualCodes", spec := "fnExactEqualCodes", apart := false }
def FnExactEqualCodesSaid : Prop := fnExactEqualCodesRow.holds Try.pinned (OpenSpec.ofChange fnExactEqualCodesSpec)

/-- ITS FALSE NEIGHBOUR: 'it returns false'. Refute it at one input. -/
def fnExactEqualCodesWrong : ChangeSpec := { name := "fnExactEqualCodes", fn := fun _ => fun
  | [d1, d2] => { results := [.lit (.bool false)], args := [d1, d2] }
  | _ => none }
def FnExactEqualCodesWrongFalsely : Prop := fnExactEqualCodesRow.holds Try.pinned (OpenSpec.ofChange fnExactEqualCodesWrong)

/-- 'laws.FnExactSizeOfExpr': WHATEVER THE INPUT: true; the input reads as it did. -/
def fnExactSizeOfExprSpec : ChangeSpec := { name := "fnExactSizeOfExpr", fn := fun _ => fun
  | [d] => { results := [.lit (.bool true)], args := [d] }
  | _ => none }
def fnExactSizeOfExprRow : OpenClaim := { program := "ytmclpkihiomlmaa", sum := "b32908efe534c4b18eaf3670ca243b79769775efda5ff714b34052edd1377be3", func := "loop.example/g03108/laws.FnExactSizeOfExpr", spec := "fnExactSizeOfExpr", recurses := true, loops := true, apart := false }
def FnExactSizeOfExprSaid : Prop := fnExactSizeOfExprRow.holds Try.pinned (OpenSpec.ofChange fnExactSizeOfExprSpec)

/-- ITS FALSE NEIGHBOUR: 'it returns false'. Refute it at one input. -/
def fnExactSizeOfExprWrong : ChangeSpec := { name := "fnExactSizeOfExpr", fn := fun _ => fun
  | [d] => { results := [.lit (.bool false)], args := [d] }
  | _ => none }
def FnExactSizeOfExprWrongFalsely : Prop := fnExactSizeOfExprRow.holds Try.pinned (OpenSpec.ofChange fnExactSizeOfExprWrong)

/-- 'laws.FnExactJoin': WHATEVER THE INPUT: true; the input reads as it did. -/
def fnExactJoinSpec : ChangeSpec := { name := "fnExactJoin", fn := fun _ => fun
  | [d1, d2] => { results := [.lit (.bool true)], args := [d1, d2] }
  | _ => none }
def fnExactJoinRow : OpenClaim := { program := "ytmclpkihiomlmaa", sum := "b32908efe534c4b18eaf3670ca243b79769775efda5ff714b34052edd1377be3", func := "loop.example/g03108/laws.FnExactJoin", spec := "fnExactJoin", inPlace := ["internal/abi.NoEscape", "internal/bytealg.MakeNoZero"], apart := false }
def FnExactJoinSaid : Prop := fnExactJoinRow.holds Try.pinned (OpenSpec.ofChange fnExactJoinSpec)

/-- ITS FALSE NEIGHBOUR: 'it returns false'. Refute it at one input. -/
def fnExactJoinWrong : ChangeSpec := { name := "fnExactJoin", fn := fun _ => fun
  | [d1, d2] => { results := [.lit (.bool false)], args := [d1, d2] }
  | _ => none }
def FnExactJoinWrongFalsely : Prop := fnExactJoinRow.holds Try.pinned (OpenSpec.ofChange fnExactJoinWrong)

/-- 'laws.FnExactDepthOfExpr': WHATEVER THE INPUT: true; the input reads as it did. -/
def fnExactDepthOfExprSpec : ChangeSpec := { name := "fnExactDepthOfExpr", fn := fun _ => fun
  | [d] => { results := [.lit (.bool true)], args := [d] }
  | _ => none }
def fnExactDepthOfExprRow : OpenClaim := { program := "ytmclpkihiomlmaa", sum := "b32908efe534c4b18eaf3670ca243b79769775efda5ff714b34052edd1377be3", func := "loop.example/g03108/laws.FnExactDepthOfExpr", spec := "fnExactDepthOfExpr", recurses := true, loops := true, apart := false }
def FnExactDepthOfExprSaid : Prop := fnExactDepthOfExprRow.holds Try.pinned (OpenSpec.ofChange fnExactDepthOfExprSpec)

/-- ITS FALSE NEIGHBOUR: 'it returns false'. Refute it at one input. -/
def fnExactDepthOfExprWrong : ChangeSpec := { name := "fnExactDepthOfExpr", fn := fun _ => fun
  | [d] => { results := [.lit (.bool false)], args := [d] }
  | _ => none }
def FnExactDepthOfExprWrongFalsely : Prop := fnExactDepthOfExprRow.holds Try.pinned (OpenSpec.ofChange fnExactDepthOfExprWrong)

/-- 'laws.FnExactEqualExprs': WHATEVER THE INPUT: true; the input reads as it did. -/
def fnExactEqualExprsSpec : ChangeSpec := { name := "fnExactEqualExprs", fn := fun _ => fun
  | [d1, d2] => { results := [.lit (.bool true)], args := [d1, d2] }
  | _ => none }
def fnExactEqualExprsRow : OpenClaim := { program := "ytmclpkihiomlmaa", sum := "b32908efe534c4b18eaf3670ca243b79769775efda5ff714b34052edd1377be3", func := "loop.example/g03108/laws.FnExactEqualExprs", spec := "fnExactEqualExprs", unfollowed := true, recurses := true, loops := true, apart := false }
def FnExactEqualExprsSaid : Prop := fnExactEqualExprsRow.holds Try.pinned (OpenSpec.ofChange fnExactEqualExprsSpec)

/-- ITS FALSE NEIGHBOUR: 'it returns false'. Refute it at one input. -/
def fnExactEqualExprsWrong : ChangeSpec := { name := "fnExactEqualExprs", fn := fun _ => fun
  | [d1, d2] => { results := [.lit (.bool false)], args := [d1, d2] }
  | _ => none }
def FnExactEqualExprsWrongFalsely : Prop := fnExactEqualExprsRow.holds Try.pinned (OpenSpec.ofChange fnExactEqualExprsWrong)

/-- 'laws.FnExactEqualMethods': WHATEVER THE INPUT: true; the input reads as it did. -/
def fnExactEqualMethodsSpec : ChangeSpec := { name := "fnExactEqualMethods", fn := fun _ => fun
  | [d1, d2] => { results := [.lit (.bool true)], args := [d1, d2] }
  | _ => none }
def fnExactEqualMethodsRow : OpenClaim := { program := "ytmclpkihiomlmaa", sum := "b32908efe534c4b18eaf3670ca243b79769775efda5ff714b34052edd1377be3", func := "loop.example/g03108/laws.FnExactEqualMethods", spec := "fnExactEqualMethods", unfollowed := true, recurses := true, loops := true, apart := false }
def FnExactEqualMethodsSaid : Prop := fnExactEqualMethodsRow.holds Try.pinned (OpenSpec.ofChange fnExactEqualMethodsSpec)

/-- ITS FALSE NEIGHBOUR: 'it returns false'. Refute it at one input. -/
def fnExactEqualMethodsWrong : ChangeSpec := { name := "fnExactEqualMethods", fn := fun _ => fun
  | [d1, d2] => { results := [.lit (.bool false)], args := [d1, d2] }
  | _ => none }
def FnExactEqualMethodsWrongFalsely : Prop := fnExactEqualMethodsRow.holds Try.pinned (OpenSpec.ofChange fnExactEqualMethodsWrong)

/- THE SECOND FORM. 'bulk': how many values and letters a reading holds, each counted each time it is reached (what is shared counts as often as it is met; a slice's spare places count too). A statement '..UptoSaid' is the law's where the arguments, and the package variables that the reading takes, are together of bulk at most 1048576: NARROWER than '..Said'. Prove '..Said' where nothing that the law and all that it calls make is longer than what came in: it says more and counts as full. Else prove '..UptoSaid'. A law counts once. -/
mutual
def uptoBulk {H : Type} : DataW H → Nat
  | .lit (.string bytes) => bytes.length + 1
  | .lit _ => 1
  | .nil => 1
  | .ptr d => uptoBulk d + 1
  | .slice elems spare => uptoBulkAll elems + uptoBulkAll spare + 1
  | .agg parts => uptoBulkAll parts + 1
  | .iface _ d => uptoBulk d + 1
  | .map entries => uptoBulkEntries entries + 1
  | .held _ => 1
def uptoBulkAll {H : Type} : List (DataW H) → Nat
  | [] => 0
  | d :: r => uptoBulk d + uptoBulkAll r
def uptoBulkEntries {H : Type} : List (Lit × DataW H) → Nat
  | [] => 0
  | x :: r => uptoBulkEntry x + uptoBulkEntries r
def uptoBulkEntry {H : Type} : Lit × DataW H → Nat
  | (.string bytes, d) => bytes.length + uptoBulk d + 1
  | (_, d) => uptoBulk d + 1
 end
def uptoSmall : (H : Type) → List (DataW H) → Bool := fun _ ds => decide (uptoBulkAll ds ≤ 1048576)
def OpenSpec.upto (s : _root_.Go.ChangeSpec) : _root_.Go.OpenSpec := { _root_.Go.OpenSpec.ofChange s with cond := some uptoSmall }

/-- 'laws.FnExactConstants', WHERE WHAT IT READS IS OF BULK AT MOST 1048576: true; the input reads as it did. -/
def fnExactConstantsUptoRow : OpenClaim := { program := "ytmclpkihiomlmaa", sum := "b32908efe534c4b18eaf3670ca243b79769775efda5ff714b34052edd1377be3", func := "loop.example/g03108/laws.FnExactConstants", spec := "fnExactConstants", apart := false, narrowed := true }
def FnExactConstantsUptoSaid : Prop := fnExactConstantsUptoRow.holds Try.pinned (OpenSpec.upto fnExactConstantsSpec)

/-- 'laws.FnExactSameValue', WHERE WHAT IT READS IS OF BULK AT MOST 1048576: true; the input reads as it did. -/
def fnExactSameValueUptoRow : OpenClaim := { program := "ytmclpkihiomlmaa", sum := "b32908efe534c4b18eaf3670ca243b79769775efda5ff714b34052edd1377be3", func := "loop.example/g03108/laws.FnExactSameValue", spec := "fnExactSameValue", apart := false, narrowed := true }
def FnExactSameValueUptoSaid : Prop := fnExactSameValueUptoRow.holds Try.pinned (OpenSpec.upto fnExactSameValueSpec)

/-- 'laws.FnExactBuiltinClasses', WHERE WHAT IT READS IS OF BULK AT MOST 1048576: true; the input reads as it did. -/
def fnExactBuiltinClassesUptoRow : OpenClaim := { program := "ytmclpkihiomlmaa", sum := "b32908efe534c4b18eaf3670ca243b79769775efda5ff714b34052edd1377be3", func := "loop.example/g03108/laws.FnExactBuiltinClasses", spec := "fnExactBuiltinClasses", apart := false, narrowed := true }
def FnExactBuiltinClassesUptoSaid : Prop := fnExactBuiltinClassesUptoRow.holds Try.pinned (OpenSpec.upto fnExactBuiltinClassesSpec)

/-- 'laws.FnExactIsName', WHERE WHAT IT READS IS OF BULK AT MOST 1048576: true; the input reads as it did. -/
def fnExactIsNameUptoRow : OpenClaim := { program := "ytmclpkihiomlmaa", sum := "b32908efe534c4b18eaf3670ca243b79769775efda5ff714b34052edd1377be3", func := "loop.example/g03108/laws.FnExactIsName", spec := "fnExactIsName", apart := false, narrowed := true }
def FnExactIsNameUptoSaid : Prop := fnExactIsNameUptoRow.holds Try.pinned (OpenSpec.upto fnExactIsNameSpec)

/-- 'laws.FnExactEqualOutcomes', WHERE WHAT IT READS IS OF BULK AT MOST 1048576: true; the input reads as it did. -/
def fnExactEqualOutcomesUptoRow : OpenClaim := { program := "ytmclpkihiomlmaa", sum := "b32908efe534c4b18eaf3670ca243b79769775efda5ff714b34052edd1377be3", func := "loop.example/g03108/laws.FnExactEqualOutcomes", spec := "fnExactEqualOutcomes", apart := false, narrowed := true }
def FnExactEqualOutcomesUptoSaid : Prop := fnExactEqualOutcomesUptoRow.holds Try.pinned (OpenSpec.upto fnExactEqualOutcomesSpec)

/-- 'laws.FnExactEqualCodes', WHERE WHAT IT READS IS OF BULK AT MOST 1048576: true; the input reads as it did. -/
def fnExactEqualCodesUptoRow : OpenClaim := { program := "ytmclpkihiomlmaa", sum := "b32908efe534c4b18eaf3670ca243b79769775efda5ff714b34052edd1377be3", func := "loop.example/g03108/laws.FnExactEqualCodes", spec := "fnExactEqualCodes", apart := false, narrowed := true }
def FnExactEqualCodesUptoSaid : Prop := fnExactEqualCodesUptoRow.holds Try.pinned (OpenSpec.upto fnExactEqualCodesSpec)

/-- 'laws.FnExactSizeOfExpr', WHERE WHAT IT READS IS OF BULK AT MOST 1048576: true; the input reads as it did. -/
def fnExactSizeOfExprUptoRow : OpenClaim := { program := "ytmclpkihiomlmaa", sum := "b32908efe534c4b18eaf3670ca243b79769775efda5ff714b34052edd1377be3", func := "loop.example/g03108/laws.FnExactSizeOfExpr", spec := "fnExactSizeOfExpr", recurses := true, loops := true, apart := false, narrowed := true }
def FnExactSizeOfExprUptoSaid : Prop := fnExactSizeOfExprUptoRow.holds Try.pinned (OpenSpec.upto fnExactSizeOfExprSpec)

/-- 'laws.FnExactJoin', WHERE WHAT IT READS IS OF BULK AT MOST 1048576: true; the input reads as it did. -/
def fnExactJoinUptoRow : OpenClaim := { program := "ytmclpkihiomlmaa", sum := "b32908efe534c4b18eaf3670ca243b79769775efda5ff714b34052edd1377be3", func := "loop.example/g03108/laws.FnExactJoin", spec := "fnExactJoin", inPlace := ["internal/abi.NoEscape", "internal/bytealg.MakeNoZero"], apart := false, narrowed := true }
def FnExactJoinUptoSaid : Prop := fnExactJoinUptoRow.holds Try.pinned (OpenSpec.upto fnExactJoinSpec)

/-- 'laws.FnExactDepthOfExpr', WHERE WHAT IT READS IS OF BULK AT MOST 1048576: true; the input reads as it did. -/
def fnExactDepthOfExprUptoRow : OpenClaim := { program := "ytmclpkihiomlmaa", sum := "b32908efe534c4b18eaf3670ca243b79769775efda5ff714b34052edd1377be3", func := "loop.example/g03108/laws.FnExactDepthOfExpr", spec := "fnExactDepthOfExpr", recurses := true, loops := true, apart := false, narrowed := true }
def FnExactDepthOfExprUptoSaid : Prop := fnExactDepthOfExprUptoRow.holds Try.pinned (OpenSpec.upto fnExactDepthOfExprSpec)

/-- 'laws.FnExactEqualExprs', WHERE WHAT IT READS IS OF BULK AT MOST 1048576: true; the input reads as it did. -/
def fnExactEqualExprsUptoRow : OpenClaim := { program := "ytmclpkihiomlmaa", sum := "b32908efe534c4b18eaf3670ca243b79769775efda5ff714b34052edd1377be3", func := "loop.example/g03108/laws.FnExactEqualExprs", spec := "fnExactEqualExprs", unfollowed := true, recurses := true, loops := true, apart := false, narrowed := true }
def FnExactEqualExprsUptoSaid : Prop := fnExactEqualExprsUptoRow.holds Try.pinned (OpenSpec.upto fnExactEqualExprsSpec)

/-- 'laws.FnExactEqualMethods', WHERE WHAT IT READS IS OF BULK AT MOST 1048576: true; the input reads as it did. -/
def fnExactEqualMethodsUptoRow : OpenClaim := { program := "ytmclpkihiomlmaa", sum := "b32908efe534c4b18eaf3670ca243b79769775efda5ff714b34052edd1377be3", func := "loop.example/g03108/laws.FnExactEqualMethods", spec := "fnExactEqualMethods", unfollowed := true, recurses := true, loops := true, apart := false, narrowed := true }
def FnExactEqualMethodsUptoSaid : Prop := fnExactEqualMethodsUptoRow.holds Try.pinned (OpenSpec.upto fnExactEqualMethodsSpec)

end Rows
end Go.Proofs.Ytmclpkihiomlmaa
