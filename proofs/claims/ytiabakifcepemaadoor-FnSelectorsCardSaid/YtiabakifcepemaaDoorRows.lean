/-
  NARROWER THAN 'FOR EVERY INPUT', by the rows' own cells (each row's printed sentence says how): FnExactSplitByte: laid · FnExactIsSelector: laid · FnExactCountArgs: laid · FnSelectors: laid · FnExactIsValue: laid · FnExactIsExpr: loops, laid · FnExactIsMethod: loops, laid.
  DERIVED. THE GIVEN ROWS OF THIS SEAT. 7 by the template 'for every input the law returns true; each argument reads behind the call as it read before'; 0 by the template 'total and deterministic' (their statements: YtiabakifcepemaaDoorTotals.lean).
  GIVEN WITH THE SEED: the statements are not yours to turn. If you find one false, say at which input.
  Laid BY PROGRAM, IN A SANDBOX (cutbox-rows.mjs): the forced cells as the released guide's own fill.sh prints them over the translation 8e83736978e569c3… (all of the seat's roots in one cut). By AI agents, Wed Nov 11 2026. No macro, syntax, notation, axiom, sorry.
-/
import Derived.Test.YtiabakifcepemaaDoorChecked
import GoSem.PinnedTables
import GoSem.Claim
import GoSem.ClaimJoined
import GoSem.ClaimMapViews
import Derived.JoinedTies
import Derived.KernelRfl
namespace Go.Proofs.YtiabakifcepemaaDoor
/- THE CELL 'sum', in the pinned program and in every row, IS THE sha256 OF THE DUMP (.gsa) THAT YtiabakifcepemaaDoorProg.lean LOADS. Nothing in Lean hashes anything: it is a label: what it is worth is what the hold of that sum in a sandbox is worth. -/
noncomputable def Tryd.pinned : Pinned := { name := "ytiabakifcepemaadoor", sum := "8e83736978e569c3cb33379879bcb8c63123b63e1679d05af12b66d317554688", checked := Tryd.checked }
namespace Rows
def none {H : Type} : Left H := { results := [], args := [] }

/- WHAT THE LISTED PACKAGE-LEVEL VARIABLES READ AS WHEN THE CALL BEGINS. Each datum BY PROGRAM (the guide's laid-datum.mjs) off the statement by which the dump's own 'gosem.cut.vars' lays the variable. In a bare row this is a premise. The card (YtiabakifcepemaaDoorCards.lean) ties it to the program's text. -/
def laid_unicode_utf8_acceptRanges {H : Type} : DataW H := .agg [.agg [.lit (.int .u8 128), .lit (.int .u8 191)], .agg [.lit (.int .u8 160), .lit (.int .u8 191)], .agg [.lit (.int .u8 128), .lit (.int .u8 159)], .agg [.lit (.int .u8 144), .lit (.int .u8 191)], .agg [.lit (.int .u8 128), .lit (.int .u8 143)], .agg [.lit (.int .u8 0), .lit (.int .u8 0)], .agg [.lit (.int .u8 0), .lit (.int .u8 0)], .agg [.lit (.int .u8 0), .lit (.int .u8 0)], .agg [.lit (.int .u8 0), .lit (.int .u8 0)], .agg [.lit (.int .u8 0), .lit (.int .u8 0)], .agg [.lit (.int .u8 0), .lit (.int .u8 0)], .agg [.lit (.int .u8 0), .lit (.int .u8 0)], .agg [.lit (.int .u8 0), .lit (.int .u8 0)], .agg [.lit (.int .u8 0), .lit (.int .u8 0)], .agg [.lit (.int .u8 0), .lit (.int .u8 0)], .agg [.lit (.int .u8 0), .lit (.int .u8 0)]]
/-- One of Go's own tables, pinned by name: the form's constant. -/
def laid_unicode_utf8_first : DataW Unit := Go.Pinned.utf8First

/-- 'laws.FnExactSplitByte': WHATEVER THE INPUT: true; the input reads as it did. -/
def fnExactSplitByteSpec : ChangeSpec := { name := "fnExactSplitByte", fn := fun _ => fun
  | [d1, d2] => { results := [.lit (.bool true)], args := [d1, d2] }
  | _ => none }
def fnExactSplitByteRow : OpenClaim := { program := "ytiabakifcepemaadoor", sum := "8e83736978e569c3cb33379879bcb8c63123b63e1679d05af12b66d317554688", func := "loop.example/g03108/laws.FnExactSplitByte", spec := "fnExactSplitByte", inPlace := ["internal/bytealg.CountString", "internal/bytealg.IndexByteString", "internal/bytealg.IndexString"], named := ["unicode/utf8.first", "unicode/utf8.acceptRanges", "internal/bytealg.MaxLen"], apart := false, laid := [("unicode/utf8.acceptRanges", laid_unicode_utf8_acceptRanges), ("unicode/utf8.first", laid_unicode_utf8_first)] }
def FnExactSplitByteSaid : Prop := fnExactSplitByteRow.holds Tryd.pinned (OpenSpec.ofChange fnExactSplitByteSpec)

/-- ITS FALSE NEIGHBOUR: 'it returns false'. Refute it at one input. -/
def fnExactSplitByteWrong : ChangeSpec := { name := "fnExactSplitByte", fn := fun _ => fun
  | [d1, d2] => { results := [.lit (.bool false)], args := [d1, d2] }
  | _ => none }
def FnExactSplitByteWrongFalsely : Prop := fnExactSplitByteRow.holds Tryd.pinned (OpenSpec.ofChange fnExactSplitByteWrong)

/-- 'laws.FnExactIsSelector': WHATEVER THE INPUT: true; the input reads as it did. -/
def fnExactIsSelectorSpec : ChangeSpec := { name := "fnExactIsSelector", fn := fun _ => fun
  | [d] => { results := [.lit (.bool true)], args := [d] }
  | _ => none }
def fnExactIsSelectorRow : OpenClaim := { program := "ytiabakifcepemaadoor", sum := "8e83736978e569c3cb33379879bcb8c63123b63e1679d05af12b66d317554688", func := "loop.example/g03108/laws.FnExactIsSelector", spec := "fnExactIsSelector", inPlace := ["internal/bytealg.CountString", "internal/bytealg.IndexByteString", "internal/bytealg.IndexString"], named := ["unicode/utf8.first", "unicode/utf8.acceptRanges", "internal/bytealg.MaxLen"], apart := false, laid := [("unicode/utf8.acceptRanges", laid_unicode_utf8_acceptRanges), ("unicode/utf8.first", laid_unicode_utf8_first)] }
def FnExactIsSelectorSaid : Prop := fnExactIsSelectorRow.holds Tryd.pinned (OpenSpec.ofChange fnExactIsSelectorSpec)

/-- ITS FALSE NEIGHBOUR: 'it returns false'. Refute it at one input. -/
def fnExactIsSelectorWrong : ChangeSpec := { name := "fnExactIsSelector", fn := fun _ => fun
  | [d] => { results := [.lit (.bool false)], args := [d] }
  | _ => none }
def FnExactIsSelectorWrongFalsely : Prop := fnExactIsSelectorRow.holds Tryd.pinned (OpenSpec.ofChange fnExactIsSelectorWrong)

/-- 'laws.FnExactCountArgs': WHATEVER THE INPUT: true; the input reads as it did. -/
def fnExactCountArgsSpec : ChangeSpec := { name := "fnExactCountArgs", fn := fun _ => fun
  | [d] => { results := [.lit (.bool true)], args := [d] }
  | _ => none }
def fnExactCountArgsRow : OpenClaim := { program := "ytiabakifcepemaadoor", sum := "8e83736978e569c3cb33379879bcb8c63123b63e1679d05af12b66d317554688", func := "loop.example/g03108/laws.FnExactCountArgs", spec := "fnExactCountArgs", inPlace := ["internal/bytealg.CountString", "internal/bytealg.IndexByteString", "internal/bytealg.IndexString"], named := ["unicode/utf8.first", "unicode/utf8.acceptRanges", "internal/bytealg.MaxLen"], apart := false, laid := [("unicode/utf8.acceptRanges", laid_unicode_utf8_acceptRanges), ("unicode/utf8.first", laid_unicode_utf8_first)] }
def FnExactCountArgsSaid : Prop := fnExactCountArgsRow.holds Tryd.pinned (OpenSpec.ofChange fnExactCountArgsSpec)

/-- ITS FALSE NEIGHBOUR: 'it returns false'. Refute it at one input. -/
def fnExactCountArgsWrong : ChangeSpec := { name := "fnExactCountArgs", fn := fun _ => fun
  | [d] => { results := [.lit (.bool false)], args := [d] }
  | _ => none }
def FnExactCountArgsWrongFalsely : Prop := fnExactCountArgsRow.holds Tryd.pinned (OpenSpec.ofChange fnExactCountArgsWrong)

/-- 'laws.FnSelectors': WHATEVER THE INPUT: true; the input reads as it did. -/
def fnSelectorsSpec : ChangeSpec := { name := "fnSelectors", fn := fun _ => fun
  | [d] => { results := [.lit (.bool true)], args := [d] }
  | _ => none }
def fnSelectorsRow : OpenClaim := { program := "ytiabakifcepemaadoor", sum := "8e83736978e569c3cb33379879bcb8c63123b63e1679d05af12b66d317554688", func := "loop.example/g03108/laws.FnSelectors", spec := "fnSelectors", inPlace := ["internal/bytealg.CountString", "internal/bytealg.IndexByteString", "internal/bytealg.IndexString"], named := ["unicode/utf8.first", "unicode/utf8.acceptRanges", "internal/bytealg.MaxLen"], apart := false, laid := [("unicode/utf8.acceptRanges", laid_unicode_utf8_acceptRanges), ("unicode/utf8.first", laid_unicode_utf8_first)] }
def FnSelectorsSaid : Prop := fnSelectorsRow.holds Tryd.pinned (OpenSpec.ofChange fnSelectorsSpec)

/-- ITS FALSE NEIGHBOUR: 'it returns false'. Refute it at one input. -/
def fnSelectorsWrong : ChangeSpec := { name := "fnSelectors", fn := fun _ => fun
  | [d] => { results := [.lit (.bool false)], args := [d] }
  | _ => none }
def FnSelectorsWrongFalsely : Prop := fnSelectorsRow.holds Tryd.pinned (OpenSpec.ofChange fnSelectorsWrong)

/-- 'laws.FnExactIsValue': WHATEVER THE INPUT: true; the input reads as it did. -/
def fnExactIsValueSpec : ChangeSpec := { name := "fnExactIsValue", fn := fun _ => fun
  | [d] => { results := [.lit (.bool true)], args := [d] }
  | _ => none }
def fnExactIsValueRow : OpenClaim := { program := "ytiabakifcepemaadoor", sum := "8e83736978e569c3cb33379879bcb8c63123b63e1679d05af12b66d317554688", func := "loop.example/g03108/laws.FnExactIsValue", spec := "fnExactIsValue", inPlace := ["internal/bytealg.CountString", "internal/bytealg.IndexByteString", "internal/bytealg.IndexString"], named := ["unicode/utf8.first", "unicode/utf8.acceptRanges", "internal/bytealg.MaxLen"], apart := false, laid := [("unicode/utf8.acceptRanges", laid_unicode_utf8_acceptRanges), ("unicode/utf8.first", laid_unicode_utf8_first)] }
def FnExactIsValueSaid : Prop := fnExactIsValueRow.holds Tryd.pinned (OpenSpec.ofChange fnExactIsValueSpec)

/-- ITS FALSE NEIGHBOUR: 'it returns false'. Refute it at one input. -/
def fnExactIsValueWrong : ChangeSpec := { name := "fnExactIsValue", fn := fun _ => fun
  | [d] => { results := [.lit (.bool false)], args := [d] }
  | _ => none }
def FnExactIsValueWrongFalsely : Prop := fnExactIsValueRow.holds Tryd.pinned (OpenSpec.ofChange fnExactIsValueWrong)

/-- 'laws.FnExactIsExpr': WHATEVER THE INPUT: true; the input reads as it did. -/
def fnExactIsExprSpec : ChangeSpec := { name := "fnExactIsExpr", fn := fun _ => fun
  | [d] => { results := [.lit (.bool true)], args := [d] }
  | _ => none }
def fnExactIsExprRow : OpenClaim := { program := "ytiabakifcepemaadoor", sum := "8e83736978e569c3cb33379879bcb8c63123b63e1679d05af12b66d317554688", func := "loop.example/g03108/laws.FnExactIsExpr", spec := "fnExactIsExpr", inPlace := ["internal/bytealg.CountString", "internal/bytealg.IndexByteString", "internal/bytealg.IndexString"], recurses := true, named := ["unicode/utf8.first", "unicode/utf8.acceptRanges", "internal/bytealg.MaxLen"], loops := true, apart := false, laid := [("unicode/utf8.acceptRanges", laid_unicode_utf8_acceptRanges), ("unicode/utf8.first", laid_unicode_utf8_first)] }
def FnExactIsExprSaid : Prop := fnExactIsExprRow.holds Tryd.pinned (OpenSpec.ofChange fnExactIsExprSpec)

/-- ITS FALSE NEIGHBOUR: 'it returns false'. Refute it at one input. -/
def fnExactIsExprWrong : ChangeSpec := { name := "fnExactIsExpr", fn := fun _ => fun
  | [d] => { results := [.lit (.bool false)], args := [d] }
  | _ => none }
def FnExactIsExprWrongFalsely : Prop := fnExactIsExprRow.holds Tryd.pinned (OpenSpec.ofChange fnExactIsExprWrong)

/-- 'laws.FnExactIsMethod': WHATEVER THE INPUT: true; the input reads as it did. -/
def fnExactIsMethodSpec : ChangeSpec := { name := "fnExactIsMethod", fn := fun _ => fun
  | [d] => { results := [.lit (.bool true)], args := [d] }
  | _ => none }
def fnExactIsMethodRow : OpenClaim := { program := "ytiabakifcepemaadoor", sum := "8e83736978e569c3cb33379879bcb8c63123b63e1679d05af12b66d317554688", func := "loop.example/g03108/laws.FnExactIsMethod", spec := "fnExactIsMethod", inPlace := ["internal/bytealg.CountString", "internal/bytealg.IndexByteString", "internal/bytealg.IndexString"], recurses := true, named := ["unicode/utf8.first", "unicode/utf8.acceptRanges", "internal/bytealg.MaxLen"], loops := true, apart := false, laid := [("unicode/utf8.acceptRanges", laid_unicode_utf8_acceptRanges), ("unicode/utf8.first", laid_unicode_utf8_first)] }
def FnExactIsMethodSaid : Prop := fnExactIsMethodRow.holds Tryd.pinned (OpenSpec.ofChange fnExactIsMethodSpec)

/-- ITS FALSE NEIGHBOUR: 'it returns false'. Refute it at one input. -/
def fnExactIsMethodWrong : ChangeSpec := { name := "fnExactIsMethod", fn := fun _ => fun
  | [d] => { results := [.lit (.bool false)], args := [d] }
  | _ => none }
def FnExactIsMethodWrongFalsely : Prop := fnExactIsMethodRow.holds Tryd.pinned (OpenSpec.ofChange fnExactIsMethodWrong)

/- THE SECOND FORM. 'bulk': how many values and letters a reading holds, each counted each time it is reached (what is shared counts as often as it is met; a slice's spare places count too). A statement '..UptoSaid' is the law's where the arguments, and the package variables that the reading takes, are together of bulk at most 1048576: NARROWER than '..Said'. Prove '..Said' where nothing that the law and all that it calls make is longer than what came in: it says more and counts as full. Else prove '..UptoSaid'. A law counts once. -/
mutual
def uptoBulk {H : Type} : DataW H → Nat
  | .lit (.string bytes) => bytes.length + 1
  | .lit _ => 1
  | .nil => 1
  | .ptr d => uptoBulk d + 1
  | .slice elems spare => uptoBulkAll elems + uptoBulkAll spare + 1
  | .agg parts => uptoBulkAll parts + 1
  | .iface _ d => uptoBulk d + 1
  | .map entries => uptoBulkEntries entries + 1
  | .held _ => 1
def uptoBulkAll {H : Type} : List (DataW H) → Nat
  | [] => 0
  | d :: r => uptoBulk d + uptoBulkAll r
def uptoBulkEntries {H : Type} : List (Lit × DataW H) → Nat
  | [] => 0
  | x :: r => uptoBulkEntry x + uptoBulkEntries r
def uptoBulkEntry {H : Type} : Lit × DataW H → Nat
  | (.string bytes, d) => bytes.length + uptoBulk d + 1
  | (_, d) => uptoBulk d + 1
 end
def uptoSmall : (H : Type) → List (DataW H) → Bool := fun _ ds => decide (uptoBulkAll ds ≤ 1048576)
def OpenSpec.upto (s : _root_.Go.ChangeSpec) : _root_.Go.OpenSpec := { _root_.Go.OpenSpec.ofChange s with cond := some uptoSmall }

/-- 'laws.FnExactSplitByte', WHERE WHAT IT READS IS OF BULK AT MOST 1048576: true; the input reads as it did. -/
def fnExactSplitByteUptoRow : OpenClaim := { program := "ytiabakifcepemaadoor", sum := "8e83736978e569c3cb33379879bcb8c63123b63e1679d05af12b66d317554688", func := "loop.example/g03108/laws.FnExactSplitByte", spec := "fnExactSplitByte", inPlace := ["internal/bytealg.CountString", "internal/bytealg.IndexByteString", "internal/bytealg.IndexString"], named := ["unicode/utf8.first", "unicode/utf8.acceptRanges", "internal/bytealg.MaxLen"], apart := false, laid := [("unicode/utf8.acceptRanges", laid_unicode_utf8_acceptRanges), ("unicode/utf8.first", laid_unicode_utf8_first)], narrowed := true }
def FnExactSplitByteUptoSaid : Prop := fnExactSplitByteUptoRow.holds Tryd.pinned (OpenSpec.upto fnExactSplitByteSpec)

/-- 'laws.FnExactIsSelector', WHERE WHAT IT READS IS OF BULK AT MOST 1048576: true; the input reads as it did. -/
def fnExactIsSelectorUptoRow : OpenClaim := { program := "ytiabakifcepemaadoor", sum := "8e83736978e569c3cb33379879bcb8c63123b63e1679d05af12b66d317554688", func := "loop.example/g03108/laws.FnExactIsSelector", spec := "fnExactIsSelector", inPlace := ["internal/bytealg.CountString", "internal/bytealg.IndexByteString", "internal/bytealg.IndexString"], named := ["unicode/utf8.first", "unicode/utf8.acceptRanges", "internal/bytealg.MaxLen"], apart := false, laid := [("unicode/utf8.acceptRanges", laid_unicode_utf8_acceptRanges), ("unicode/utf8.first", laid_unicode_utf8_first)], narrowed := true }
def FnExactIsSelectorUptoSaid : Prop := fnExactIsSelectorUptoRow.holds Tryd.pinned (OpenSpec.upto fnExactIsSelectorSpec)

/-- 'laws.FnExactCountArgs', WHERE WHAT IT READS IS OF BULK AT MOST 1048576: true; the input reads as it did. -/
def fnExactCountArgsUptoRow : OpenClaim := { program := "ytiabakifcepemaadoor", sum := "8e83736978e569c3cb33379879bcb8c63123b63e1679d05af12b66d317554688", func := "loop.example/g03108/laws.FnExactCountArgs", spec := "fnExactCountArgs", inPlace := ["internal/bytealg.CountString", "internal/bytealg.IndexByteString", "internal/bytealg.IndexString"], named := ["unicode/utf8.first", "unicode/utf8.acceptRanges", "internal/bytealg.MaxLen"], apart := false, laid := [("unicode/utf8.acceptRanges", laid_unicode_utf8_acceptRanges), ("unicode/utf8.first", laid_unicode_utf8_first)], narrowed := true }
def FnExactCountArgsUptoSaid : Prop := fnExactCountArgsUptoRow.holds Tryd.pinned (OpenSpec.upto fnExactCountArgsSpec)

/-- 'laws.FnSelectors', WHERE WHAT IT READS IS OF BULK AT MOST 1048576: true; the input reads as it did. -/
def fnSelectorsUptoRow : OpenClaim := { program := "ytiabakifcepemaadoor", sum := "8e83736978e569c3cb33379879bcb8c63123b63e1679d05af12b66d317554688", func := "loop.example/g03108/laws.FnSelectors", spec := "fnSelectors", inPlace := ["internal/bytealg.CountString", "internal/bytealg.IndexByteString", "internal/bytealg.IndexString"], named := ["unicode/utf8.first", "unicode/utf8.acceptRanges", "internal/bytealg.MaxLen"], apart := false, laid := [("unicode/utf8.acceptRanges", laid_unicode_utf8_acceptRanges), ("unicode/utf8.first", laid_unicode_utf8_first)], narrowed := true }
def FnSelectorsUptoSaid : Prop := fnSelectorsUptoRow.holds Tryd.pinned (OpenSpec.upto fnSelectorsSpec)

/-- 'laws.FnExactIsValue', WHERE WHAT IT READS IS OF BULK AT MOST 1048576: true; the input reads as it did. -/
def fnExactIsValueUptoRow : OpenClaim := { program := "ytiabakifcepemaadoor", sum := "8e83736978e569c3cb33379879bcb8c63123b63e1679d05af12b66d317554688", func := "loop.example/g03108/laws.FnExactIsValue", spec := "fnExactIsValue", inPlace := ["internal/bytealg.CountString", "internal/bytealg.IndexByteString", "internal/bytealg.IndexString"], named := ["unicode/utf8.first", "unicode/utf8.acceptRanges", "internal/bytealg.MaxLen"], apart := false, laid := [("unicode/utf8.acceptRanges", laid_unicode_utf8_acceptRanges), ("unicode/utf8.first", laid_unicode_utf8_first)], narrowed := true }
def FnExactIsValueUptoSaid : Prop := fnExactIsValueUptoRow.holds Tryd.pinned (OpenSpec.upto fnExactIsValueSpec)

/-- 'laws.FnExactIsExpr', WHERE WHAT IT READS IS OF BULK AT MOST 1048576: true; the input reads as it did. -/
def fnExactIsExprUptoRow : OpenClaim := { program := "ytiabakifcepemaadoor", sum := "8e83736978e569c3cb33379879bcb8c63123b63e1679d05af12b66d317554688", func := "loop.example/g03108/laws.FnExactIsExpr", spec := "fnExactIsExpr", inPlace := ["internal/bytealg.CountString", "internal/bytealg.IndexByteString", "internal/bytealg.IndexString"], recurses := true, named := ["unicode/utf8.first", "unicode/utf8.acceptRanges", "internal/bytealg.MaxLen"], loops := true, apart := false, laid := [("unicode/utf8.acceptRanges", laid_unicode_utf8_acceptRanges), ("unicode/utf8.first", laid_unicode_utf8_first)], narrowed := true }
def FnExactIsExprUptoSaid : Prop := fnExactIsExprUptoRow.holds Tryd.pinned (OpenSpec.upto fnExactIsExprSpec)

/-- 'laws.FnExactIsMethod', WHERE WHAT IT READS IS OF BULK AT MOST 1048576: true; the input reads as it did. -/
def fnExactIsMethodUptoRow : OpenClaim := { program := "ytiabakifcepemaadoor", sum := "8e83736978e569c3cb33379879bcb8c63123b63e1679d05af12b66d317554688", func := "loop.example/g03108/laws.FnExactIsMethod", spec := "fnExactIsMethod", inPlace := ["internal/bytealg.CountString", "internal/bytealg.IndexByteString", "internal/bytealg.IndexString"], recurses := true, named := ["unicode/utf8.first", "unicode/utf8.acceptRanges", "internal/bytealg.MaxLen"], loops := true, apart := false, laid := [("unicode/utf8.acceptRanges", laid_unicode_utf8_acceptRanges), ("unicode/utf8.first", laid_unicode_utf8_first)], narrowed := true }
def FnExactIsMethodUptoSaid : Prop := fnExactIsMethodUptoRow.holds Tryd.pinned (OpenSpec.upto fnExactIsMethodSpec)

end Rows
end Go.Proofs.YtiabakifcepemaaDoor
