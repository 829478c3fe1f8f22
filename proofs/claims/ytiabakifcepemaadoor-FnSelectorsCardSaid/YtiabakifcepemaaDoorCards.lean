/-
  DERIVED. GIVEN WITH THE SEED: THE CARDS: each row of YtiabakifcepemaaDoorRows.lean that lists a variable, with what it lists TIED to the program's text (the seventh form; the later family's looks); each row that meets fmt, with fmt's text TOLD by the authors' own Lean function (tested against real Go, not proved from fmt's source: count such statements apart). THE CARD IS WHAT COUNTS. Prove the row's statement (the work); the ties are given (YtiabakifcepemaaDoorTie.lean); close each card by the builder's one call (the guide's Derived/Test/ToyasCard.lean, 'card_holds'). Laid BY PROGRAM, IN A SANDBOX (cutbox-door.mjs). By AI agents, Wed Nov 11 2026. No macro, syntax, notation, axiom, sorry.
-/
import Derived.Test.YtiabakifcepemaaDoorRows
import GoSem.ClaimSeven
namespace Go.Proofs.YtiabakifcepemaaDoor
namespace Rows

/-- THE TIED CARD OF 'laws.FnExactSplitByte'. -/
def fnExactSplitByteCard : Claim7 := { stood := { row := fnExactSplitByteRow, standIns := [], harness := (true, "73db4888d4b648dc3ab72518d9100e4a68f18563daa06ade48114f58a87937d2"), looks := false }, kinds := [], alts := [], laidByText := true, laidKinds := [.data, .pinned], laidTests := true, laidLooks := .later }
def FnExactSplitByteCardSaid : Prop := Claim7.holds Tryd.pinned (.plain (OpenSpec.ofChange fnExactSplitByteSpec)) fnExactSplitByteCard

/-- THE TIED CARD OF 'laws.FnExactIsSelector'. -/
def fnExactIsSelectorCard : Claim7 := { stood := { row := fnExactIsSelectorRow, standIns := [], harness := (true, "73db4888d4b648dc3ab72518d9100e4a68f18563daa06ade48114f58a87937d2"), looks := false }, kinds := [], alts := [], laidByText := true, laidKinds := [.data, .pinned], laidTests := true, laidLooks := .later }
def FnExactIsSelectorCardSaid : Prop := Claim7.holds Tryd.pinned (.plain (OpenSpec.ofChange fnExactIsSelectorSpec)) fnExactIsSelectorCard

/-- THE TIED CARD OF 'laws.FnExactCountArgs'. -/
def fnExactCountArgsCard : Claim7 := { stood := { row := fnExactCountArgsRow, standIns := [], harness := (true, "73db4888d4b648dc3ab72518d9100e4a68f18563daa06ade48114f58a87937d2"), looks := false }, kinds := [], alts := [], laidByText := true, laidKinds := [.data, .pinned], laidTests := true, laidLooks := .later }
def FnExactCountArgsCardSaid : Prop := Claim7.holds Tryd.pinned (.plain (OpenSpec.ofChange fnExactCountArgsSpec)) fnExactCountArgsCard

/-- THE TIED CARD OF 'laws.FnSelectors'. -/
def fnSelectorsCard : Claim7 := { stood := { row := fnSelectorsRow, standIns := [], harness := (true, "73db4888d4b648dc3ab72518d9100e4a68f18563daa06ade48114f58a87937d2"), looks := false }, kinds := [], alts := [], laidByText := true, laidKinds := [.data, .pinned], laidTests := true, laidLooks := .later }
def FnSelectorsCardSaid : Prop := Claim7.holds Tryd.pinned (.plain (OpenSpec.ofChange fnSelectorsSpec)) fnSelectorsCard

/-- THE TIED CARD OF 'laws.FnExactIsValue'. -/
def fnExactIsValueCard : Claim7 := { stood := { row := fnExactIsValueRow, standIns := [], harness := (true, "73db4888d4b648dc3ab72518d9100e4a68f18563daa06ade48114f58a87937d2"), looks := false }, kinds := [], alts := [], laidByText := true, laidKinds := [.data, .pinned], laidTests := true, laidLooks := .later }
def FnExactIsValueCardSaid : Prop := Claim7.holds Tryd.pinned (.plain (OpenSpec.ofChange fnExactIsValueSpec)) fnExactIsValueCard

/-- THE TIED CARD OF 'laws.FnExactIsExpr'. -/
def fnExactIsExprCard : Claim7 := { stood := { row := fnExactIsExprRow, standIns := [], harness := (true, "73db4888d4b648dc3ab72518d9100e4a68f18563daa06ade48114f58a87937d2"), looks := false }, kinds := [], alts := [], laidByText := true, laidKinds := [.data, .pinned], laidTests := true, laidLooks := .later }
def FnExactIsExprCardSaid : Prop := Claim7.holds Tryd.pinned (.plain (OpenSpec.ofChange fnExactIsExprSpec)) fnExactIsExprCard

/-- THE TIED CARD OF 'laws.FnExactIsMethod'. -/
def fnExactIsMethodCard : Claim7 := { stood := { row := fnExactIsMethodRow, standIns := [], harness := (true, "73db4888d4b648dc3ab72518d9100e4a68f18563daa06ade48114f58a87937d2"), looks := false }, kinds := [], alts := [], laidByText := true, laidKinds := [.data, .pinned], laidTests := true, laidLooks := .later }
def FnExactIsMethodCardSaid : Prop := Claim7.holds Tryd.pinned (.plain (OpenSpec.ofChange fnExactIsMethodSpec)) fnExactIsMethodCard

/-- THE SECOND FORM's CARD OF 'laws.FnExactSplitByte'. -/
def fnExactSplitByteUptoCard : Claim7 := { stood := { row := fnExactSplitByteUptoRow, standIns := [], harness := (true, "73db4888d4b648dc3ab72518d9100e4a68f18563daa06ade48114f58a87937d2"), looks := false }, kinds := [], alts := [], laidByText := true, laidKinds := [.data, .pinned], laidTests := true, laidLooks := .later }
def FnExactSplitByteUptoCardSaid : Prop := Claim7.holds Tryd.pinned (.plain (OpenSpec.upto fnExactSplitByteSpec)) fnExactSplitByteUptoCard

/-- THE SECOND FORM's CARD OF 'laws.FnExactIsSelector'. -/
def fnExactIsSelectorUptoCard : Claim7 := { stood := { row := fnExactIsSelectorUptoRow, standIns := [], harness := (true, "73db4888d4b648dc3ab72518d9100e4a68f18563daa06ade48114f58a87937d2"), looks := false }, kinds := [], alts := [], laidByText := true, laidKinds := [.data, .pinned], laidTests := true, laidLooks := .later }
def FnExactIsSelectorUptoCardSaid : Prop := Claim7.holds Tryd.pinned (.plain (OpenSpec.upto fnExactIsSelectorSpec)) fnExactIsSelectorUptoCard

/-- THE SECOND FORM's CARD OF 'laws.FnExactCountArgs'. -/
def fnExactCountArgsUptoCard : Claim7 := { stood := { row := fnExactCountArgsUptoRow, standIns := [], harness := (true, "73db4888d4b648dc3ab72518d9100e4a68f18563daa06ade48114f58a87937d2"), looks := false }, kinds := [], alts := [], laidByText := true, laidKinds := [.data, .pinned], laidTests := true, laidLooks := .later }
def FnExactCountArgsUptoCardSaid : Prop := Claim7.holds Tryd.pinned (.plain (OpenSpec.upto fnExactCountArgsSpec)) fnExactCountArgsUptoCard

/-- THE SECOND FORM's CARD OF 'laws.FnSelectors'. -/
def fnSelectorsUptoCard : Claim7 := { stood := { row := fnSelectorsUptoRow, standIns := [], harness := (true, "73db4888d4b648dc3ab72518d9100e4a68f18563daa06ade48114f58a87937d2"), looks := false }, kinds := [], alts := [], laidByText := true, laidKinds := [.data, .pinned], laidTests := true, laidLooks := .later }
def FnSelectorsUptoCardSaid : Prop := Claim7.holds Tryd.pinned (.plain (OpenSpec.upto fnSelectorsSpec)) fnSelectorsUptoCard

/-- THE SECOND FORM's CARD OF 'laws.FnExactIsValue'. -/
def fnExactIsValueUptoCard : Claim7 := { stood := { row := fnExactIsValueUptoRow, standIns := [], harness := (true, "73db4888d4b648dc3ab72518d9100e4a68f18563daa06ade48114f58a87937d2"), looks := false }, kinds := [], alts := [], laidByText := true, laidKinds := [.data, .pinned], laidTests := true, laidLooks := .later }
def FnExactIsValueUptoCardSaid : Prop := Claim7.holds Tryd.pinned (.plain (OpenSpec.upto fnExactIsValueSpec)) fnExactIsValueUptoCard

/-- THE SECOND FORM's CARD OF 'laws.FnExactIsExpr'. -/
def fnExactIsExprUptoCard : Claim7 := { stood := { row := fnExactIsExprUptoRow, standIns := [], harness := (true, "73db4888d4b648dc3ab72518d9100e4a68f18563daa06ade48114f58a87937d2"), looks := false }, kinds := [], alts := [], laidByText := true, laidKinds := [.data, .pinned], laidTests := true, laidLooks := .later }
def FnExactIsExprUptoCardSaid : Prop := Claim7.holds Tryd.pinned (.plain (OpenSpec.upto fnExactIsExprSpec)) fnExactIsExprUptoCard

/-- THE SECOND FORM's CARD OF 'laws.FnExactIsMethod'. -/
def fnExactIsMethodUptoCard : Claim7 := { stood := { row := fnExactIsMethodUptoRow, standIns := [], harness := (true, "73db4888d4b648dc3ab72518d9100e4a68f18563daa06ade48114f58a87937d2"), looks := false }, kinds := [], alts := [], laidByText := true, laidKinds := [.data, .pinned], laidTests := true, laidLooks := .later }
def FnExactIsMethodUptoCardSaid : Prop := Claim7.holds Tryd.pinned (.plain (OpenSpec.upto fnExactIsMethodSpec)) fnExactIsMethodUptoCard
end Rows
end Go.Proofs.YtiabakifcepemaaDoor
