/-
  DERIVED. GIVEN WITH THE SEED: THE CARDS: each row of YtihibfdnmbapkaaDoorRows.lean that lists a variable, with what it lists TIED to the program's text (the seventh form; the later family's looks); each row that meets fmt, with fmt's text TOLD by the authors' own Lean function (tested against real Go, not proved from fmt's source: count such statements apart). THE CARD IS WHAT COUNTS. Prove the row's statement (the work); the ties are given (YtihibfdnmbapkaaDoorTie.lean); close each card by the builder's one call (the guide's Derived/Test/ToyasCard.lean, 'card_holds'). Laid BY PROGRAM, IN A SANDBOX (cutbox-door.mjs). By AI agents, Wed Nov 11 2026. No macro, syntax, notation, axiom, sorry.
-/
import Derived.Test.YtihibfdnmbapkaaDoorRows
import GoSem.ClaimSeven
namespace Go.Proofs.YtihibfdnmbapkaaDoor
namespace Rows

/-- THE TIED CARD OF 'laws.FnExactFormatInstr'. -/
def fnExactFormatInstrCard : Claim7 := { stood := { row := fnExactFormatInstrRow, standIns := [], harness := (true, "b7b47e0bf8d4d89fef6ed5d05750f7dbf701b3d562e4f3ec39a9de043b8c5443"), looks := true }, kinds := [], alts := [], laidByText := true, laidKinds := [.data, .data, .data], laidTests := true, laidLooks := .later }
def FnExactFormatInstrCardSaid : Prop := Claim7.holds Tryd.pinned (.plain (OpenSpec.ofChange fnExactFormatInstrSpec)) fnExactFormatInstrCard

/-- THE TIED CARD OF 'laws.FnExactFormatCode'. -/
def fnExactFormatCodeCard : Claim7 := { stood := { row := fnExactFormatCodeRow, standIns := [], harness := (true, "b7b47e0bf8d4d89fef6ed5d05750f7dbf701b3d562e4f3ec39a9de043b8c5443"), looks := true }, kinds := [], alts := [], laidByText := true, laidKinds := [.data, .data, .data], laidTests := true, laidLooks := .later }
def FnExactFormatCodeCardSaid : Prop := Claim7.holds Tryd.pinned (.plain (OpenSpec.ofChange fnExactFormatCodeSpec)) fnExactFormatCodeCard

/-- THE TIED CARD OF 'laws.FnExactFormatToken'. -/
def fnExactFormatTokenCard : Claim7 := { stood := { row := fnExactFormatTokenRow, standIns := [], harness := (true, "b7b47e0bf8d4d89fef6ed5d05750f7dbf701b3d562e4f3ec39a9de043b8c5443"), looks := true }, kinds := [], alts := [], laidByText := true, laidKinds := [.data, .data, .data, .data, .pinned], laidTests := true, laidLooks := .later }
def FnExactFormatTokenCardSaid : Prop := Claim7.holds Tryd.pinned (.plain (OpenSpec.ofChange fnExactFormatTokenSpec)) fnExactFormatTokenCard

/-- THE TIED CARD OF 'laws.FnExactParseInt'. -/
def fnExactParseIntCard : Claim7 := { stood := { row := fnExactParseIntRow, standIns := [], harness := (true, "b7b47e0bf8d4d89fef6ed5d05750f7dbf701b3d562e4f3ec39a9de043b8c5443"), looks := true }, kinds := [], alts := [], laidByText := true, laidKinds := [.data, .data, .data, .sentinel, .sentinel], laidTests := true, laidLooks := .later }
def FnExactParseIntCardSaid : Prop := Claim7.holds Tryd.pinned (.plain (OpenSpec.ofChange fnExactParseIntSpec)) fnExactParseIntCard

/-- THE TIED CARD OF 'laws.FnExactParseNumber'. -/
def fnExactParseNumberCard : Claim7 := { stood := { row := fnExactParseNumberRow, standIns := [], harness := (true, "b7b47e0bf8d4d89fef6ed5d05750f7dbf701b3d562e4f3ec39a9de043b8c5443"), looks := true }, kinds := [], alts := [], laidByText := true, laidKinds := [.data, .data, .data, .sentinel, .sentinel], laidTests := true, laidLooks := .later }
def FnExactParseNumberCardSaid : Prop := Claim7.holds Tryd.pinned (.plain (OpenSpec.ofChange fnExactParseNumberSpec)) fnExactParseNumberCard

/-- THE TIED CARD OF 'laws.FnExactIsExpr'. -/
def fnExactIsExprCard : Claim7 := { stood := { row := fnExactIsExprRow, standIns := [], harness := (true, "b7b47e0bf8d4d89fef6ed5d05750f7dbf701b3d562e4f3ec39a9de043b8c5443"), looks := true }, kinds := [], alts := [], laidByText := true, laidKinds := [.data, .pinned], laidTests := true, laidLooks := .later }
def FnExactIsExprCardSaid : Prop := Claim7.holds Tryd.pinned (.plain (OpenSpec.ofChange fnExactIsExprSpec)) fnExactIsExprCard

/-- THE TIED CARD OF 'laws.FnExactTokens'. -/
def fnExactTokensCard : Claim7 := { stood := { row := fnExactTokensRow, standIns := [], harness := (true, "b7b47e0bf8d4d89fef6ed5d05750f7dbf701b3d562e4f3ec39a9de043b8c5443"), looks := true }, kinds := [], alts := [], laidByText := true, laidKinds := [.data, .pinned], laidTests := true, laidLooks := .later }
def FnExactTokensCardSaid : Prop := Claim7.holds Tryd.pinned (.plain (OpenSpec.ofChange fnExactTokensSpec)) fnExactTokensCard

/-- THE TIED CARD OF 'laws.FnExactIsMethod'. -/
def fnExactIsMethodCard : Claim7 := { stood := { row := fnExactIsMethodRow, standIns := [], harness := (true, "b7b47e0bf8d4d89fef6ed5d05750f7dbf701b3d562e4f3ec39a9de043b8c5443"), looks := true }, kinds := [], alts := [], laidByText := true, laidKinds := [.data, .pinned], laidTests := true, laidLooks := .later }
def FnExactIsMethodCardSaid : Prop := Claim7.holds Tryd.pinned (.plain (OpenSpec.ofChange fnExactIsMethodSpec)) fnExactIsMethodCard

/-- THE TIED CARD OF 'laws.FnExactParseInstr'. -/
def fnExactParseInstrCard : Claim7 := { stood := { row := fnExactParseInstrRow, standIns := [], harness := (true, "b7b47e0bf8d4d89fef6ed5d05750f7dbf701b3d562e4f3ec39a9de043b8c5443"), looks := true }, kinds := [], alts := [], laidByText := true, laidKinds := [.data, .data, .data, .sentinel, .sentinel], laidTests := true, laidLooks := .later }
def FnExactParseInstrCardSaid : Prop := Claim7.holds Tryd.pinned (.plain (OpenSpec.ofChange fnExactParseInstrSpec)) fnExactParseInstrCard

/-- THE TIED CARD OF 'laws.FnDecimals'. -/
def fnDecimalsCard : Claim7 := { stood := { row := fnDecimalsRow, standIns := [], harness := (true, "b7b47e0bf8d4d89fef6ed5d05750f7dbf701b3d562e4f3ec39a9de043b8c5443"), looks := true }, kinds := [], alts := [], laidByText := true, laidKinds := [.data, .data, .data, .data, .sentinel, .sentinel, .pinned], laidTests := true, laidLooks := .later }
def FnDecimalsCardSaid : Prop := Claim7.holds Tryd.pinned (.plain (OpenSpec.ofChange fnDecimalsSpec)) fnDecimalsCard

/-- THE TIED CARD OF 'laws.FnExactIsUnit'. -/
def fnExactIsUnitCard : Claim7 := { stood := { row := fnExactIsUnitRow, standIns := [], harness := (true, "b7b47e0bf8d4d89fef6ed5d05750f7dbf701b3d562e4f3ec39a9de043b8c5443"), looks := true }, kinds := [], alts := [], laidByText := true, laidKinds := [.data, .pinned], laidTests := true, laidLooks := .later }
def FnExactIsUnitCardSaid : Prop := Claim7.holds Tryd.pinned (.plain (OpenSpec.ofChange fnExactIsUnitSpec)) fnExactIsUnitCard

/-- THE SECOND FORM's CARD OF 'laws.FnExactFormatInstr'. -/
def fnExactFormatInstrUptoCard : Claim7 := { stood := { row := fnExactFormatInstrUptoRow, standIns := [], harness := (true, "b7b47e0bf8d4d89fef6ed5d05750f7dbf701b3d562e4f3ec39a9de043b8c5443"), looks := true }, kinds := [], alts := [], laidByText := true, laidKinds := [.data, .data, .data], laidTests := true, laidLooks := .later }
def FnExactFormatInstrUptoCardSaid : Prop := Claim7.holds Tryd.pinned (.plain (OpenSpec.upto fnExactFormatInstrSpec)) fnExactFormatInstrUptoCard

/-- THE SECOND FORM's CARD OF 'laws.FnExactFormatCode'. -/
def fnExactFormatCodeUptoCard : Claim7 := { stood := { row := fnExactFormatCodeUptoRow, standIns := [], harness := (true, "b7b47e0bf8d4d89fef6ed5d05750f7dbf701b3d562e4f3ec39a9de043b8c5443"), looks := true }, kinds := [], alts := [], laidByText := true, laidKinds := [.data, .data, .data], laidTests := true, laidLooks := .later }
def FnExactFormatCodeUptoCardSaid : Prop := Claim7.holds Tryd.pinned (.plain (OpenSpec.upto fnExactFormatCodeSpec)) fnExactFormatCodeUptoCard

/-- THE SECOND FORM's CARD OF 'laws.FnExactFormatToken'. -/
def fnExactFormatTokenUptoCard : Claim7 := { stood := { row := fnExactFormatTokenUptoRow, standIns := [], harness := (true, "b7b47e0bf8d4d89fef6ed5d05750f7dbf701b3d562e4f3ec39a9de043b8c5443"), looks := true }, kinds := [], alts := [], laidByText := true, laidKinds := [.data, .data, .data, .data, .pinned], laidTests := true, laidLooks := .later }
def FnExactFormatTokenUptoCardSaid : Prop := Claim7.holds Tryd.pinned (.plain (OpenSpec.upto fnExactFormatTokenSpec)) fnExactFormatTokenUptoCard

/-- THE SECOND FORM's CARD OF 'laws.FnExactParseInt'. -/
def fnExactParseIntUptoCard : Claim7 := { stood := { row := fnExactParseIntUptoRow, standIns := [], harness := (true, "b7b47e0bf8d4d89fef6ed5d05750f7dbf701b3d562e4f3ec39a9de043b8c5443"), looks := true }, kinds := [], alts := [], laidByText := true, laidKinds := [.data, .data, .data, .sentinel, .sentinel], laidTests := true, laidLooks := .later }
def FnExactParseIntUptoCardSaid : Prop := Claim7.holds Tryd.pinned (.plain (OpenSpec.upto fnExactParseIntSpec)) fnExactParseIntUptoCard

/-- THE SECOND FORM's CARD OF 'laws.FnExactParseNumber'. -/
def fnExactParseNumberUptoCard : Claim7 := { stood := { row := fnExactParseNumberUptoRow, standIns := [], harness := (true, "b7b47e0bf8d4d89fef6ed5d05750f7dbf701b3d562e4f3ec39a9de043b8c5443"), looks := true }, kinds := [], alts := [], laidByText := true, laidKinds := [.data, .data, .data, .sentinel, .sentinel], laidTests := true, laidLooks := .later }
def FnExactParseNumberUptoCardSaid : Prop := Claim7.holds Tryd.pinned (.plain (OpenSpec.upto fnExactParseNumberSpec)) fnExactParseNumberUptoCard

/-- THE SECOND FORM's CARD OF 'laws.FnExactIsExpr'. -/
def fnExactIsExprUptoCard : Claim7 := { stood := { row := fnExactIsExprUptoRow, standIns := [], harness := (true, "b7b47e0bf8d4d89fef6ed5d05750f7dbf701b3d562e4f3ec39a9de043b8c5443"), looks := true }, kinds := [], alts := [], laidByText := true, laidKinds := [.data, .pinned], laidTests := true, laidLooks := .later }
def FnExactIsExprUptoCardSaid : Prop := Claim7.holds Tryd.pinned (.plain (OpenSpec.upto fnExactIsExprSpec)) fnExactIsExprUptoCard

/-- THE SECOND FORM's CARD OF 'laws.FnExactTokens'. -/
def fnExactTokensUptoCard : Claim7 := { stood := { row := fnExactTokensUptoRow, standIns := [], harness := (true, "b7b47e0bf8d4d89fef6ed5d05750f7dbf701b3d562e4f3ec39a9de043b8c5443"), looks := true }, kinds := [], alts := [], laidByText := true, laidKinds := [.data, .pinned], laidTests := true, laidLooks := .later }
def FnExactTokensUptoCardSaid : Prop := Claim7.holds Tryd.pinned (.plain (OpenSpec.upto fnExactTokensSpec)) fnExactTokensUptoCard

/-- THE SECOND FORM's CARD OF 'laws.FnExactIsMethod'. -/
def fnExactIsMethodUptoCard : Claim7 := { stood := { row := fnExactIsMethodUptoRow, standIns := [], harness := (true, "b7b47e0bf8d4d89fef6ed5d05750f7dbf701b3d562e4f3ec39a9de043b8c5443"), looks := true }, kinds := [], alts := [], laidByText := true, laidKinds := [.data, .pinned], laidTests := true, laidLooks := .later }
def FnExactIsMethodUptoCardSaid : Prop := Claim7.holds Tryd.pinned (.plain (OpenSpec.upto fnExactIsMethodSpec)) fnExactIsMethodUptoCard

/-- THE SECOND FORM's CARD OF 'laws.FnExactParseInstr'. -/
def fnExactParseInstrUptoCard : Claim7 := { stood := { row := fnExactParseInstrUptoRow, standIns := [], harness := (true, "b7b47e0bf8d4d89fef6ed5d05750f7dbf701b3d562e4f3ec39a9de043b8c5443"), looks := true }, kinds := [], alts := [], laidByText := true, laidKinds := [.data, .data, .data, .sentinel, .sentinel], laidTests := true, laidLooks := .later }
def FnExactParseInstrUptoCardSaid : Prop := Claim7.holds Tryd.pinned (.plain (OpenSpec.upto fnExactParseInstrSpec)) fnExactParseInstrUptoCard

/-- THE SECOND FORM's CARD OF 'laws.FnDecimals'. -/
def fnDecimalsUptoCard : Claim7 := { stood := { row := fnDecimalsUptoRow, standIns := [], harness := (true, "b7b47e0bf8d4d89fef6ed5d05750f7dbf701b3d562e4f3ec39a9de043b8c5443"), looks := true }, kinds := [], alts := [], laidByText := true, laidKinds := [.data, .data, .data, .data, .sentinel, .sentinel, .pinned], laidTests := true, laidLooks := .later }
def FnDecimalsUptoCardSaid : Prop := Claim7.holds Tryd.pinned (.plain (OpenSpec.upto fnDecimalsSpec)) fnDecimalsUptoCard

/-- THE SECOND FORM's CARD OF 'laws.FnExactIsUnit'. -/
def fnExactIsUnitUptoCard : Claim7 := { stood := { row := fnExactIsUnitUptoRow, standIns := [], harness := (true, "b7b47e0bf8d4d89fef6ed5d05750f7dbf701b3d562e4f3ec39a9de043b8c5443"), looks := true }, kinds := [], alts := [], laidByText := true, laidKinds := [.data, .pinned], laidTests := true, laidLooks := .later }
def FnExactIsUnitUptoCardSaid : Prop := Claim7.holds Tryd.pinned (.plain (OpenSpec.upto fnExactIsUnitSpec)) fnExactIsUnitUptoCard
end Rows
end Go.Proofs.YtihibfdnmbapkaaDoor
