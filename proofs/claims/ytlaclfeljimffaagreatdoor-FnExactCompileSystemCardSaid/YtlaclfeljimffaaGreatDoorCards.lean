/-
  DERIVED. GIVEN WITH THE SEED: THE CARDS: each row of YtlaclfeljimffaaGreatDoorRows.lean that lists a variable, with what it lists TIED to the program's text (the seventh form; the later family's looks); each row that meets fmt, with fmt's text TOLD by the authors' own Lean function (tested against real Go, not proved from fmt's source: count such statements apart). THE CARD IS WHAT COUNTS. Prove the row's statement (the work); the ties are given (YtlaclfeljimffaaGreatDoorTie.lean); close each card by the builder's one call (the guide's Derived/Test/ToyasCard.lean, 'card_holds'). Laid BY PROGRAM, IN A SANDBOX (cutbox-door.mjs). By AI agents, Wed Nov 11 2026. No macro, syntax, notation, axiom, sorry.
-/
import Derived.Test.YtlaclfeljimffaaGreatDoorRows
import GoSem.ClaimSeven
namespace Go.Proofs.YtlaclfeljimffaaGreatDoor
namespace Rows

/-- THE TIED CARD OF 'laws.FnExactCompileSystem'. -/
def fnExactCompileSystemCard : Claim7 := { stood := { row := fnExactCompileSystemRow, standIns := [], harness := (true, "78be29abb7b4bb866a452f9d461e74112800366a6fdcc21a134781164fd893bd"), looks := false }, kinds := [], alts := [], laidByText := true, laidKinds := [.data, .pinned], laidTests := true, laidLooks := .later }
def FnExactCompileSystemCardSaid : Prop := Claim7.holds Tryz.pinned (.plain (OpenSpec.ofChange fnExactCompileSystemSpec)) fnExactCompileSystemCard

/-- THE SECOND FORM's CARD OF 'laws.FnExactCompileSystem'. -/
def fnExactCompileSystemUptoCard : Claim7 := { stood := { row := fnExactCompileSystemUptoRow, standIns := [], harness := (true, "78be29abb7b4bb866a452f9d461e74112800366a6fdcc21a134781164fd893bd"), looks := false }, kinds := [], alts := [], laidByText := true, laidKinds := [.data, .pinned], laidTests := true, laidLooks := .later }
def FnExactCompileSystemUptoCardSaid : Prop := Claim7.holds Tryz.pinned (.plain (OpenSpec.upto fnExactCompileSystemSpec)) fnExactCompileSystemUptoCard
end Rows
end Go.Proofs.YtlaclfeljimffaaGreatDoor
