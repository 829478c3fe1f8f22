/-
  DERIVED. GIVEN WITH THE SEED: THE CARDS: each row of YticdmbmjlaomiaaGreatDoorRows.lean that lists a variable, with what it lists TIED to the program's text (the seventh form; the later family's looks); each row that meets fmt, with fmt's text TOLD by the authors' own Lean function (tested against real Go, not proved from fmt's source: count such statements apart). THE CARD IS WHAT COUNTS. Prove the row's statement (the work); the ties are given (YticdmbmjlaomiaaGreatDoorTie.lean); close each card by the builder's one call (the guide's Derived/Test/ToyasCard.lean, 'card_holds'). Laid BY PROGRAM, IN A SANDBOX (cutbox-door.mjs). By AI agents, Wed Nov 11 2026. No macro, syntax, notation, axiom, sorry.
-/
import Derived.Test.YticdmbmjlaomiaaGreatDoorRows
import GoSem.ClaimSeven
namespace Go.Proofs.YticdmbmjlaomiaaGreatDoor
namespace Rows

/-- THE TIED CARD OF 'laws.FnExactPrintValue'. -/
def fnExactPrintValueCard : Claim7 := { stood := { row := fnExactPrintValueRow, standIns := [], harness := (true, "1acd901e2ae5831190c34c4f47a55c91628f65dae8e8893b79610304cea0bff6"), looks := false }, kinds := [], alts := [], laidByText := true, laidKinds := [.data, .data, .data, .data, .pinned], laidTests := true, laidLooks := .later }
def FnExactPrintValueCardSaid : Prop := Claim7.holds Tryz.pinned (.plain (OpenSpec.ofChange fnExactPrintValueSpec)) fnExactPrintValueCard

/-- THE TIED CARD OF 'laws.FnExactCheckUnit'. -/
def fnExactCheckUnitCard : Claim7 := { stood := { row := fnExactCheckUnitRow, standIns := [], harness := (true, "1acd901e2ae5831190c34c4f47a55c91628f65dae8e8893b79610304cea0bff6"), looks := false }, kinds := [], alts := [], laidByText := true, laidKinds := [.data, .pinned], laidTests := true, laidLooks := .later }
def FnExactCheckUnitCardSaid : Prop := Claim7.holds Tryz.pinned (.plain (OpenSpec.ofChange fnExactCheckUnitSpec)) fnExactCheckUnitCard

/-- THE TIED CARD OF 'laws.FnExactCompileSystem'. -/
def fnExactCompileSystemCard : Claim7 := { stood := { row := fnExactCompileSystemRow, standIns := [], harness := (true, "1acd901e2ae5831190c34c4f47a55c91628f65dae8e8893b79610304cea0bff6"), looks := false }, kinds := [], alts := [], laidByText := true, laidKinds := [.data, .pinned], laidTests := true, laidLooks := .later }
def FnExactCompileSystemCardSaid : Prop := Claim7.holds Tryz.pinned (.plain (OpenSpec.ofChange fnExactCompileSystemSpec)) fnExactCompileSystemCard

/-- THE TIED CARD OF 'laws.FnExactParseExpr'. -/
def fnExactParseExprCard : Claim7 := { stood := { row := fnExactParseExprRow, standIns := [], harness := (true, "1acd901e2ae5831190c34c4f47a55c91628f65dae8e8893b79610304cea0bff6"), looks := false }, kinds := [], alts := [], laidByText := true, laidKinds := [.data, .pinned], laidTests := true, laidLooks := .later }
def FnExactParseExprCardSaid : Prop := Claim7.holds Tryz.pinned (.plain (OpenSpec.ofChange fnExactParseExprSpec)) fnExactParseExprCard

/-- THE TIED CARD OF 'laws.FnExactParseMethod'. -/
def fnExactParseMethodCard : Claim7 := { stood := { row := fnExactParseMethodRow, standIns := [], harness := (true, "1acd901e2ae5831190c34c4f47a55c91628f65dae8e8893b79610304cea0bff6"), looks := false }, kinds := [], alts := [], laidByText := true, laidKinds := [.data, .pinned], laidTests := true, laidLooks := .later }
def FnExactParseMethodCardSaid : Prop := Claim7.holds Tryz.pinned (.plain (OpenSpec.ofChange fnExactParseMethodSpec)) fnExactParseMethodCard

/-- THE TIED CARD OF 'laws.FnExactParseUnit'. -/
def fnExactParseUnitCard : Claim7 := { stood := { row := fnExactParseUnitRow, standIns := [], harness := (true, "1acd901e2ae5831190c34c4f47a55c91628f65dae8e8893b79610304cea0bff6"), looks := false }, kinds := [], alts := [], laidByText := true, laidKinds := [.data, .pinned], laidTests := true, laidLooks := .later }
def FnExactParseUnitCardSaid : Prop := Claim7.holds Tryz.pinned (.plain (OpenSpec.ofChange fnExactParseUnitSpec)) fnExactParseUnitCard

/-- THE SECOND FORM's CARD OF 'laws.FnExactPrintValue'. -/
def fnExactPrintValueUptoCard : Claim7 := { stood := { row := fnExactPrintValueUptoRow, standIns := [], harness := (true, "1acd901e2ae5831190c34c4f47a55c91628f65dae8e8893b79610304cea0bff6"), looks := false }, kinds := [], alts := [], laidByText := true, laidKinds := [.data, .data, .data, .data, .pinned], laidTests := true, laidLooks := .later }
def FnExactPrintValueUptoCardSaid : Prop := Claim7.holds Tryz.pinned (.plain (OpenSpec.upto fnExactPrintValueSpec)) fnExactPrintValueUptoCard

/-- THE SECOND FORM's CARD OF 'laws.FnExactCheckUnit'. -/
def fnExactCheckUnitUptoCard : Claim7 := { stood := { row := fnExactCheckUnitUptoRow, standIns := [], harness := (true, "1acd901e2ae5831190c34c4f47a55c91628f65dae8e8893b79610304cea0bff6"), looks := false }, kinds := [], alts := [], laidByText := true, laidKinds := [.data, .pinned], laidTests := true, laidLooks := .later }
def FnExactCheckUnitUptoCardSaid : Prop := Claim7.holds Tryz.pinned (.plain (OpenSpec.upto fnExactCheckUnitSpec)) fnExactCheckUnitUptoCard

/-- THE SECOND FORM's CARD OF 'laws.FnExactCompileSystem'. -/
def fnExactCompileSystemUptoCard : Claim7 := { stood := { row := fnExactCompileSystemUptoRow, standIns := [], harness := (true, "1acd901e2ae5831190c34c4f47a55c91628f65dae8e8893b79610304cea0bff6"), looks := false }, kinds := [], alts := [], laidByText := true, laidKinds := [.data, .pinned], laidTests := true, laidLooks := .later }
def FnExactCompileSystemUptoCardSaid : Prop := Claim7.holds Tryz.pinned (.plain (OpenSpec.upto fnExactCompileSystemSpec)) fnExactCompileSystemUptoCard

/-- THE SECOND FORM's CARD OF 'laws.FnExactParseExpr'. -/
def fnExactParseExprUptoCard : Claim7 := { stood := { row := fnExactParseExprUptoRow, standIns := [], harness := (true, "1acd901e2ae5831190c34c4f47a55c91628f65dae8e8893b79610304cea0bff6"), looks := false }, kinds := [], alts := [], laidByText := true, laidKinds := [.data, .pinned], laidTests := true, laidLooks := .later }
def FnExactParseExprUptoCardSaid : Prop := Claim7.holds Tryz.pinned (.plain (OpenSpec.upto fnExactParseExprSpec)) fnExactParseExprUptoCard

/-- THE SECOND FORM's CARD OF 'laws.FnExactParseMethod'. -/
def fnExactParseMethodUptoCard : Claim7 := { stood := { row := fnExactParseMethodUptoRow, standIns := [], harness := (true, "1acd901e2ae5831190c34c4f47a55c91628f65dae8e8893b79610304cea0bff6"), looks := false }, kinds := [], alts := [], laidByText := true, laidKinds := [.data, .pinned], laidTests := true, laidLooks := .later }
def FnExactParseMethodUptoCardSaid : Prop := Claim7.holds Tryz.pinned (.plain (OpenSpec.upto fnExactParseMethodSpec)) fnExactParseMethodUptoCard

/-- THE SECOND FORM's CARD OF 'laws.FnExactParseUnit'. -/
def fnExactParseUnitUptoCard : Claim7 := { stood := { row := fnExactParseUnitUptoRow, standIns := [], harness := (true, "1acd901e2ae5831190c34c4f47a55c91628f65dae8e8893b79610304cea0bff6"), looks := false }, kinds := [], alts := [], laidByText := true, laidKinds := [.data, .pinned], laidTests := true, laidLooks := .later }
def FnExactParseUnitUptoCardSaid : Prop := Claim7.holds Tryz.pinned (.plain (OpenSpec.upto fnExactParseUnitSpec)) fnExactParseUnitUptoCard
end Rows
end Go.Proofs.YticdmbmjlaomiaaGreatDoor
