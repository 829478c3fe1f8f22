/-
  DERIVED. GIVEN WITH THE SEED: THE CARDS: each row of YtkajinmknhnpkaaDoorRows.lean that lists a variable, with what it lists TIED to the program's text (the seventh form; the later family's looks); each row that meets fmt, with fmt's text TOLD by the authors' own Lean function (tested against real Go, not proved from fmt's source: count such statements apart). THE CARD IS WHAT COUNTS. Prove the row's statement (the work); the ties are given (YtkajinmknhnpkaaDoorTie.lean); close each card by the builder's one call (the guide's Derived/Test/ToyasCard.lean, 'card_holds'). Laid BY PROGRAM, IN A SANDBOX (cutbox-door.mjs). By AI agents, Wed Nov 11 2026. No macro, syntax, notation, axiom, sorry.
-/
import Derived.Test.YtkajinmknhnpkaaDoorRows
import GoSem.ClaimSeven
namespace Go.Proofs.YtkajinmknhnpkaaDoor
namespace Rows

/-- THE TIED CARD OF 'laws.FnTokensAgain'. -/
def fnTokensAgainCard : Claim7 := { stood := { row := fnTokensAgainRow, standIns := [], harness := (true, "373ebb75164aa9141830197e2b6719776a85d080f0b2f361af45f7d54fdf9aec"), looks := false }, kinds := [], alts := [], laidByText := true, laidKinds := [.data, .data, .data, .data, .pinned], laidTests := true, laidLooks := .later }
def FnTokensAgainCardSaid : Prop := Claim7.holds Tryd.pinned (.plain (OpenSpec.ofChange fnTokensAgainSpec)) fnTokensAgainCard

/-- THE SECOND FORM's CARD OF 'laws.FnTokensAgain'. -/
def fnTokensAgainUptoCard : Claim7 := { stood := { row := fnTokensAgainUptoRow, standIns := [], harness := (true, "373ebb75164aa9141830197e2b6719776a85d080f0b2f361af45f7d54fdf9aec"), looks := false }, kinds := [], alts := [], laidByText := true, laidKinds := [.data, .data, .data, .data, .pinned], laidTests := true, laidLooks := .later }
def FnTokensAgainUptoCardSaid : Prop := Claim7.holds Tryd.pinned (.plain (OpenSpec.upto fnTokensAgainSpec)) fnTokensAgainUptoCard
end Rows
end Go.Proofs.YtkajinmknhnpkaaDoor
