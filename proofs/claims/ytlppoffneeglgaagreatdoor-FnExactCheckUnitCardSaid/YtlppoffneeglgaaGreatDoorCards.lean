/-
  DERIVED. GIVEN WITH THE SEED: THE CARDS: each row of YtlppoffneeglgaaGreatDoorRows.lean that lists a variable, with what it lists TIED to the program's text (the seventh form; the later family's looks); each row that meets fmt, with fmt's text TOLD by the authors' own Lean function (tested against real Go, not proved from fmt's source: count such statements apart). THE CARD IS WHAT COUNTS. Prove the row's statement (the work); the ties are given (YtlppoffneeglgaaGreatDoorTie.lean); close each card by the builder's one call (the guide's Derived/Test/ToyasCard.lean, 'card_holds'). Laid BY PROGRAM, IN A SANDBOX (cutbox-door.mjs). By AI agents, Wed Nov 11 2026. No macro, syntax, notation, axiom, sorry.
-/
import Derived.Test.YtlppoffneeglgaaGreatDoorRows
import GoSem.ClaimSeven
namespace Go.Proofs.YtlppoffneeglgaaGreatDoor
namespace Rows

/-- THE TIED CARD OF 'laws.FnExactCheckUnit'. -/
def fnExactCheckUnitCard : Claim7 := { stood := { row := fnExactCheckUnitRow, standIns := [], harness := (true, "f77781debd2ce933077ad09e7b56b9ea9eed15375cae87dbde8fb1f73345c51e"), looks := false }, kinds := [], alts := [], laidByText := true, laidKinds := [.data, .pinned], laidTests := true, laidLooks := .later }
def FnExactCheckUnitCardSaid : Prop := Claim7.holds Tryz.pinned (.plain (OpenSpec.ofChange fnExactCheckUnitSpec)) fnExactCheckUnitCard

/-- THE SECOND FORM's CARD OF 'laws.FnExactCheckUnit'. -/
def fnExactCheckUnitUptoCard : Claim7 := { stood := { row := fnExactCheckUnitUptoRow, standIns := [], harness := (true, "f77781debd2ce933077ad09e7b56b9ea9eed15375cae87dbde8fb1f73345c51e"), looks := false }, kinds := [], alts := [], laidByText := true, laidKinds := [.data, .pinned], laidTests := true, laidLooks := .later }
def FnExactCheckUnitUptoCardSaid : Prop := Claim7.holds Tryz.pinned (.plain (OpenSpec.upto fnExactCheckUnitSpec)) fnExactCheckUnitUptoCard
end Rows
end Go.Proofs.YtlppoffneeglgaaGreatDoor
