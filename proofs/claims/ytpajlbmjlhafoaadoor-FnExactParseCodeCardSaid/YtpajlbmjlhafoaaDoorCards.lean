/-
  DERIVED. GIVEN WITH THE SEED: THE CARDS: each row of YtpajlbmjlhafoaaDoorRows.lean that lists a variable, with what it lists TIED to the program's text (the seventh form; the later family's looks); each row that meets fmt, with fmt's text TOLD by the authors' own Lean function (tested against real Go, not proved from fmt's source: count such statements apart). THE CARD IS WHAT COUNTS. Prove the row's statement (the work); the ties are given (YtpajlbmjlhafoaaDoorTie.lean); close each card by the builder's one call (the guide's Derived/Test/ToyasCard.lean, 'card_holds'). Laid BY PROGRAM, IN A SANDBOX (cutbox-door.mjs). By AI agents, Wed Nov 11 2026. No macro, syntax, notation, axiom, sorry.
-/
import Derived.Test.YtpajlbmjlhafoaaDoorRows
import GoSem.ClaimSeven
namespace Go.Proofs.YtpajlbmjlhafoaaDoor
namespace Rows

/-- THE TIED CARD OF 'laws.FnExactIsStore'. -/
def fnExactIsStoreCard : Claim7 := { stood := { row := fnExactIsStoreRow, standIns := [], harness := (true, "b5fc30b7a477a38d6bcdb78e9917320dd7251ba5191314b5ff1533c20b9b56fe"), looks := true }, kinds := [], alts := [], laidByText := true, laidKinds := [.data, .pinned], laidTests := true, laidLooks := .later }
def FnExactIsStoreCardSaid : Prop := Claim7.holds Tryd.pinned (.plain (OpenSpec.ofChange fnExactIsStoreSpec)) fnExactIsStoreCard

/-- THE TIED CARD OF 'laws.FnExactParseCode'. -/
def fnExactParseCodeCard : Claim7 := { stood := { row := fnExactParseCodeRow, standIns := [], harness := (true, "b5fc30b7a477a38d6bcdb78e9917320dd7251ba5191314b5ff1533c20b9b56fe"), looks := true }, kinds := [], alts := [], laidByText := true, laidKinds := [.data, .data, .data, .data, .sentinel, .sentinel, .pinned], laidTests := true, laidLooks := .later }
def FnExactParseCodeCardSaid : Prop := Claim7.holds Tryd.pinned (.plain (OpenSpec.ofChange fnExactParseCodeSpec)) fnExactParseCodeCard

/-- THE SECOND FORM's CARD OF 'laws.FnExactIsStore'. -/
def fnExactIsStoreUptoCard : Claim7 := { stood := { row := fnExactIsStoreUptoRow, standIns := [], harness := (true, "b5fc30b7a477a38d6bcdb78e9917320dd7251ba5191314b5ff1533c20b9b56fe"), looks := true }, kinds := [], alts := [], laidByText := true, laidKinds := [.data, .pinned], laidTests := true, laidLooks := .later }
def FnExactIsStoreUptoCardSaid : Prop := Claim7.holds Tryd.pinned (.plain (OpenSpec.upto fnExactIsStoreSpec)) fnExactIsStoreUptoCard

/-- THE SECOND FORM's CARD OF 'laws.FnExactParseCode'. -/
def fnExactParseCodeUptoCard : Claim7 := { stood := { row := fnExactParseCodeUptoRow, standIns := [], harness := (true, "b5fc30b7a477a38d6bcdb78e9917320dd7251ba5191314b5ff1533c20b9b56fe"), looks := true }, kinds := [], alts := [], laidByText := true, laidKinds := [.data, .data, .data, .data, .sentinel, .sentinel, .pinned], laidTests := true, laidLooks := .later }
def FnExactParseCodeUptoCardSaid : Prop := Claim7.holds Tryd.pinned (.plain (OpenSpec.upto fnExactParseCodeSpec)) fnExactParseCodeUptoCard
end Rows
end Go.Proofs.YtpajlbmjlhafoaaDoor
