/-
  DERIVED. GIVEN WITH THE SEED: THE CARDS: each row of YtpajlbmjlhafoaaGreatDoorRows.lean that lists a variable, with what it lists TIED to the program's text (the seventh form; the later family's looks); each row that meets fmt, with fmt's text TOLD by the authors' own Lean function (tested against real Go, not proved from fmt's source: count such statements apart). THE CARD IS WHAT COUNTS. Prove the row's statement (the work); the ties are given (YtpajlbmjlhafoaaGreatDoorTie.lean); close each card by the builder's one call (the guide's Derived/Test/ToyasCard.lean, 'card_holds'). Laid BY PROGRAM, IN A SANDBOX (cutbox-door.mjs). By AI agents, Wed Nov 11 2026. No macro, syntax, notation, axiom, sorry.
-/
import Derived.Test.YtpajlbmjlhafoaaGreatDoorRows
import GoSem.ClaimSeven
namespace Go.Proofs.YtpajlbmjlhafoaaGreatDoor
namespace Rows

/-- THE TIED CARD OF 'laws.FnExactClassOf'. -/
def fnExactClassOfCard : Claim7 := { stood := { row := fnExactClassOfRow, standIns := [], harness := (true, "958f35a9507c8954b5ad82a93cbf340c9f882d8c2def2ea8cac9e6bbf9f446b2"), looks := false }, kinds := [], alts := [], laidByText := true, laidKinds := [.data, .pinned], laidTests := true, laidLooks := .later }
def FnExactClassOfCardSaid : Prop := Claim7.holds Tryz.pinned (.plain (OpenSpec.ofChange fnExactClassOfSpec)) fnExactClassOfCard

/-- THE TIED CARD OF 'laws.FnExactIsSystem'. -/
def fnExactIsSystemCard : Claim7 := { stood := { row := fnExactIsSystemRow, standIns := [], harness := (true, "958f35a9507c8954b5ad82a93cbf340c9f882d8c2def2ea8cac9e6bbf9f446b2"), looks := false }, kinds := [], alts := [], laidByText := true, laidKinds := [.data, .pinned], laidTests := true, laidLooks := .later }
def FnExactIsSystemCardSaid : Prop := Claim7.holds Tryz.pinned (.plain (OpenSpec.ofChange fnExactIsSystemSpec)) fnExactIsSystemCard

/-- THE TIED CARD OF 'laws.FnExactFindRoutine'. -/
def fnExactFindRoutineCard : Claim7 := { stood := { row := fnExactFindRoutineRow, standIns := [], harness := (true, "958f35a9507c8954b5ad82a93cbf340c9f882d8c2def2ea8cac9e6bbf9f446b2"), looks := false }, kinds := [], alts := [], laidByText := true, laidKinds := [.data, .pinned], laidTests := true, laidLooks := .later }
def FnExactFindRoutineCardSaid : Prop := Claim7.holds Tryz.pinned (.plain (OpenSpec.ofChange fnExactFindRoutineSpec)) fnExactFindRoutineCard

/-- THE TIED CARD OF 'laws.FnExactSelectorsOf'. -/
def fnExactSelectorsOfCard : Claim7 := { stood := { row := fnExactSelectorsOfRow, standIns := [], harness := (true, "958f35a9507c8954b5ad82a93cbf340c9f882d8c2def2ea8cac9e6bbf9f446b2"), looks := false }, kinds := [], alts := [], laidByText := true, laidKinds := [.data, .pinned], laidTests := true, laidLooks := .later }
def FnExactSelectorsOfCardSaid : Prop := Claim7.holds Tryz.pinned (.plain (OpenSpec.ofChange fnExactSelectorsOfSpec)) fnExactSelectorsOfCard

/-- THE TIED CARD OF 'laws.FnExactFormatExpr'. -/
def fnExactFormatExprCard : Claim7 := { stood := { row := fnExactFormatExprRow, standIns := [], harness := (true, "958f35a9507c8954b5ad82a93cbf340c9f882d8c2def2ea8cac9e6bbf9f446b2"), looks := false }, kinds := [], alts := [], laidByText := true, laidKinds := [.data, .data, .data, .data, .pinned], laidTests := true, laidLooks := .later }
def FnExactFormatExprCardSaid : Prop := Claim7.holds Tryz.pinned (.plain (OpenSpec.ofChange fnExactFormatExprSpec)) fnExactFormatExprCard

/-- THE TIED CARD OF 'laws.FnExactFormatMethod'. -/
def fnExactFormatMethodCard : Claim7 := { stood := { row := fnExactFormatMethodRow, standIns := [], harness := (true, "958f35a9507c8954b5ad82a93cbf340c9f882d8c2def2ea8cac9e6bbf9f446b2"), looks := false }, kinds := [], alts := [], laidByText := true, laidKinds := [.data, .data, .data, .data, .pinned], laidTests := true, laidLooks := .later }
def FnExactFormatMethodCardSaid : Prop := Claim7.holds Tryz.pinned (.plain (OpenSpec.ofChange fnExactFormatMethodSpec)) fnExactFormatMethodCard

/-- THE TIED CARD OF 'laws.FnExactFormatUnit'. -/
def fnExactFormatUnitCard : Claim7 := { stood := { row := fnExactFormatUnitRow, standIns := [], harness := (true, "958f35a9507c8954b5ad82a93cbf340c9f882d8c2def2ea8cac9e6bbf9f446b2"), looks := false }, kinds := [], alts := [], laidByText := true, laidKinds := [.data, .data, .data, .data, .pinned], laidTests := true, laidLooks := .later }
def FnExactFormatUnitCardSaid : Prop := Claim7.holds Tryz.pinned (.plain (OpenSpec.ofChange fnExactFormatUnitSpec)) fnExactFormatUnitCard

/-- THE SECOND FORM's CARD OF 'laws.FnExactClassOf'. -/
def fnExactClassOfUptoCard : Claim7 := { stood := { row := fnExactClassOfUptoRow, standIns := [], harness := (true, "958f35a9507c8954b5ad82a93cbf340c9f882d8c2def2ea8cac9e6bbf9f446b2"), looks := false }, kinds := [], alts := [], laidByText := true, laidKinds := [.data, .pinned], laidTests := true, laidLooks := .later }
def FnExactClassOfUptoCardSaid : Prop := Claim7.holds Tryz.pinned (.plain (OpenSpec.upto fnExactClassOfSpec)) fnExactClassOfUptoCard

/-- THE SECOND FORM's CARD OF 'laws.FnExactIsSystem'. -/
def fnExactIsSystemUptoCard : Claim7 := { stood := { row := fnExactIsSystemUptoRow, standIns := [], harness := (true, "958f35a9507c8954b5ad82a93cbf340c9f882d8c2def2ea8cac9e6bbf9f446b2"), looks := false }, kinds := [], alts := [], laidByText := true, laidKinds := [.data, .pinned], laidTests := true, laidLooks := .later }
def FnExactIsSystemUptoCardSaid : Prop := Claim7.holds Tryz.pinned (.plain (OpenSpec.upto fnExactIsSystemSpec)) fnExactIsSystemUptoCard

/-- THE SECOND FORM's CARD OF 'laws.FnExactFindRoutine'. -/
def fnExactFindRoutineUptoCard : Claim7 := { stood := { row := fnExactFindRoutineUptoRow, standIns := [], harness := (true, "958f35a9507c8954b5ad82a93cbf340c9f882d8c2def2ea8cac9e6bbf9f446b2"), looks := false }, kinds := [], alts := [], laidByText := true, laidKinds := [.data, .pinned], laidTests := true, laidLooks := .later }
def FnExactFindRoutineUptoCardSaid : Prop := Claim7.holds Tryz.pinned (.plain (OpenSpec.upto fnExactFindRoutineSpec)) fnExactFindRoutineUptoCard

/-- THE SECOND FORM's CARD OF 'laws.FnExactSelectorsOf'. -/
def fnExactSelectorsOfUptoCard : Claim7 := { stood := { row := fnExactSelectorsOfUptoRow, standIns := [], harness := (true, "958f35a9507c8954b5ad82a93cbf340c9f882d8c2def2ea8cac9e6bbf9f446b2"), looks := false }, kinds := [], alts := [], laidByText := true, laidKinds := [.data, .pinned], laidTests := true, laidLooks := .later }
def FnExactSelectorsOfUptoCardSaid : Prop := Claim7.holds Tryz.pinned (.plain (OpenSpec.upto fnExactSelectorsOfSpec)) fnExactSelectorsOfUptoCard

/-- THE SECOND FORM's CARD OF 'laws.FnExactFormatExpr'. -/
def fnExactFormatExprUptoCard : Claim7 := { stood := { row := fnExactFormatExprUptoRow, standIns := [], harness := (true, "958f35a9507c8954b5ad82a93cbf340c9f882d8c2def2ea8cac9e6bbf9f446b2"), looks := false }, kinds := [], alts := [], laidByText := true, laidKinds := [.data, .data, .data, .data, .pinned], laidTests := true, laidLooks := .later }
def FnExactFormatExprUptoCardSaid : Prop := Claim7.holds Tryz.pinned (.plain (OpenSpec.upto fnExactFormatExprSpec)) fnExactFormatExprUptoCard

/-- THE SECOND FORM's CARD OF 'laws.FnExactFormatMethod'. -/
def fnExactFormatMethodUptoCard : Claim7 := { stood := { row := fnExactFormatMethodUptoRow, standIns := [], harness := (true, "958f35a9507c8954b5ad82a93cbf340c9f882d8c2def2ea8cac9e6bbf9f446b2"), looks := false }, kinds := [], alts := [], laidByText := true, laidKinds := [.data, .data, .data, .data, .pinned], laidTests := true, laidLooks := .later }
def FnExactFormatMethodUptoCardSaid : Prop := Claim7.holds Tryz.pinned (.plain (OpenSpec.upto fnExactFormatMethodSpec)) fnExactFormatMethodUptoCard

/-- THE SECOND FORM's CARD OF 'laws.FnExactFormatUnit'. -/
def fnExactFormatUnitUptoCard : Claim7 := { stood := { row := fnExactFormatUnitUptoRow, standIns := [], harness := (true, "958f35a9507c8954b5ad82a93cbf340c9f882d8c2def2ea8cac9e6bbf9f446b2"), looks := false }, kinds := [], alts := [], laidByText := true, laidKinds := [.data, .data, .data, .data, .pinned], laidTests := true, laidLooks := .later }
def FnExactFormatUnitUptoCardSaid : Prop := Claim7.holds Tryz.pinned (.plain (OpenSpec.upto fnExactFormatUnitSpec)) fnExactFormatUnitUptoCard
end Rows
end Go.Proofs.YtpajlbmjlhafoaaGreatDoor
