/-
  DERIVED. GIVEN WITH THE SEED: THE CARDS: each row of YtonmcoojgkgemaaGreatDoorRows.lean that lists a variable, with what it lists TIED to the program's text (the seventh form; the later family's looks); each row that meets fmt, with fmt's text TOLD by the authors' own Lean function (tested against real Go, not proved from fmt's source: count such statements apart). THE CARD IS WHAT COUNTS. Prove the row's statement (the work); the ties are given (YtonmcoojgkgemaaGreatDoorTie.lean); close each card by the builder's one call (the guide's Derived/Test/ToyasCard.lean, 'card_holds'). Laid BY PROGRAM, IN A SANDBOX (cutbox-door.mjs). By AI agents, Wed Nov 11 2026. No macro, syntax, notation, axiom, sorry.
-/
import Derived.Test.YtonmcoojgkgemaaGreatDoorRows
import GoSem.ClaimSeven
namespace Go.Proofs.YtonmcoojgkgemaaGreatDoor
namespace Rows

/-- THE TIED CARD OF 'laws.FnExactParseExpr'. -/
def fnExactParseExprCard : Claim7 := { stood := { row := fnExactParseExprRow, standIns := [], harness := (true, "46264ad3fd107eda3113abaa4d56930dfa3e15f19f74b143e27e3a6cfda54caa"), looks := false }, kinds := [], alts := [], laidByText := true, laidKinds := [.data, .pinned], laidTests := true, laidLooks := .later }
def FnExactParseExprCardSaid : Prop := Claim7.holds Tryz.pinned (.plain (OpenSpec.ofChange fnExactParseExprSpec)) fnExactParseExprCard

/-- THE TIED CARD OF 'laws.FnExactParseMethod'. -/
def fnExactParseMethodCard : Claim7 := { stood := { row := fnExactParseMethodRow, standIns := [], harness := (true, "46264ad3fd107eda3113abaa4d56930dfa3e15f19f74b143e27e3a6cfda54caa"), looks := false }, kinds := [], alts := [], laidByText := true, laidKinds := [.data, .pinned], laidTests := true, laidLooks := .later }
def FnExactParseMethodCardSaid : Prop := Claim7.holds Tryz.pinned (.plain (OpenSpec.ofChange fnExactParseMethodSpec)) fnExactParseMethodCard

/-- THE TIED CARD OF 'laws.FnExactParseUnit'. -/
def fnExactParseUnitCard : Claim7 := { stood := { row := fnExactParseUnitRow, standIns := [], harness := (true, "46264ad3fd107eda3113abaa4d56930dfa3e15f19f74b143e27e3a6cfda54caa"), looks := false }, kinds := [], alts := [], laidByText := true, laidKinds := [.data, .pinned], laidTests := true, laidLooks := .later }
def FnExactParseUnitCardSaid : Prop := Claim7.holds Tryz.pinned (.plain (OpenSpec.ofChange fnExactParseUnitSpec)) fnExactParseUnitCard

/-- THE SECOND FORM's CARD OF 'laws.FnExactParseExpr'. -/
def fnExactParseExprUptoCard : Claim7 := { stood := { row := fnExactParseExprUptoRow, standIns := [], harness := (true, "46264ad3fd107eda3113abaa4d56930dfa3e15f19f74b143e27e3a6cfda54caa"), looks := false }, kinds := [], alts := [], laidByText := true, laidKinds := [.data, .pinned], laidTests := true, laidLooks := .later }
def FnExactParseExprUptoCardSaid : Prop := Claim7.holds Tryz.pinned (.plain (OpenSpec.upto fnExactParseExprSpec)) fnExactParseExprUptoCard

/-- THE SECOND FORM's CARD OF 'laws.FnExactParseMethod'. -/
def fnExactParseMethodUptoCard : Claim7 := { stood := { row := fnExactParseMethodUptoRow, standIns := [], harness := (true, "46264ad3fd107eda3113abaa4d56930dfa3e15f19f74b143e27e3a6cfda54caa"), looks := false }, kinds := [], alts := [], laidByText := true, laidKinds := [.data, .pinned], laidTests := true, laidLooks := .later }
def FnExactParseMethodUptoCardSaid : Prop := Claim7.holds Tryz.pinned (.plain (OpenSpec.upto fnExactParseMethodSpec)) fnExactParseMethodUptoCard

/-- THE SECOND FORM's CARD OF 'laws.FnExactParseUnit'. -/
def fnExactParseUnitUptoCard : Claim7 := { stood := { row := fnExactParseUnitUptoRow, standIns := [], harness := (true, "46264ad3fd107eda3113abaa4d56930dfa3e15f19f74b143e27e3a6cfda54caa"), looks := false }, kinds := [], alts := [], laidByText := true, laidKinds := [.data, .pinned], laidTests := true, laidLooks := .later }
def FnExactParseUnitUptoCardSaid : Prop := Claim7.holds Tryz.pinned (.plain (OpenSpec.upto fnExactParseUnitSpec)) fnExactParseUnitUptoCard
end Rows
end Go.Proofs.YtonmcoojgkgemaaGreatDoor
