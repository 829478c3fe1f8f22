/-
  DERIVED. GIVEN WITH THE SEED: THE CARDS: each row of YtlcebafhbceejaaGreatDoorRows.lean that lists a variable, with what it lists TIED to the program's text (the seventh form; the later family's looks); each row that meets fmt, with fmt's text TOLD by the authors' own Lean function (tested against real Go, not proved from fmt's source: count such statements apart). THE CARD IS WHAT COUNTS. Prove the row's statement (the work); the ties are given (YtlcebafhbceejaaGreatDoorTie.lean); close each card by the builder's one call (the guide's Derived/Test/ToyasCard.lean, 'card_holds'). Laid BY PROGRAM, IN A SANDBOX (cutbox-door.mjs). By AI agents, Wed Nov 11 2026. No macro, syntax, notation, axiom, sorry.
-/
import Derived.Test.YtlcebafhbceejaaGreatDoorRows
import GoSem.ClaimSeven
namespace Go.Proofs.YtlcebafhbceejaaGreatDoor
namespace Rows

/-- THE TIED CARD OF 'laws.FnExactParseUnit'. -/
def fnExactParseUnitCard : Claim7 := { stood := { row := fnExactParseUnitRow, standIns := [], harness := (true, "ba089f8fd1e9b5cc8e1c705adc8df1b3225c0bb0e1b096aaf5ccbdeeb90fff22"), looks := false }, kinds := [], alts := [], laidByText := true, laidKinds := [.data, .pinned], laidTests := true, laidLooks := .later }
def FnExactParseUnitCardSaid : Prop := Claim7.holds Tryz.pinned (.plain (OpenSpec.ofChange fnExactParseUnitSpec)) fnExactParseUnitCard

/-- THE SECOND FORM's CARD OF 'laws.FnExactParseUnit'. -/
def fnExactParseUnitUptoCard : Claim7 := { stood := { row := fnExactParseUnitUptoRow, standIns := [], harness := (true, "ba089f8fd1e9b5cc8e1c705adc8df1b3225c0bb0e1b096aaf5ccbdeeb90fff22"), looks := false }, kinds := [], alts := [], laidByText := true, laidKinds := [.data, .pinned], laidTests := true, laidLooks := .later }
def FnExactParseUnitUptoCardSaid : Prop := Claim7.holds Tryz.pinned (.plain (OpenSpec.upto fnExactParseUnitSpec)) fnExactParseUnitUptoCard
end Rows
end Go.Proofs.YtlcebafhbceejaaGreatDoor
