/-
  DERIVED. GIVEN WITH THE SEED: THE CARDS: each row of YtdngmifgglbbpaaGreatDoorRows.lean that lists a variable, with what it lists TIED to the program's text (the seventh form; the later family's looks); each row that meets fmt, with fmt's text TOLD by the authors' own Lean function (tested against real Go, not proved from fmt's source: count such statements apart). THE CARD IS WHAT COUNTS. Prove the row's statement (the work); the ties are given (YtdngmifgglbbpaaGreatDoorTie.lean); close each card by the builder's one call (the guide's Derived/Test/ToyasCard.lean, 'card_holds'). Laid BY PROGRAM, IN A SANDBOX (cutbox-door.mjs). By AI agents, Wed Nov 11 2026. No macro, syntax, notation, axiom, sorry.
-/
import Derived.Test.YtdngmifgglbbpaaGreatDoorRows
import GoSem.ClaimSeven
namespace Go.Proofs.YtdngmifgglbbpaaGreatDoor
namespace Rows

/-- THE TIED CARD OF 'laws.FnExactIsSystem'. -/
def fnExactIsSystemCard : Claim7 := { stood := { row := fnExactIsSystemRow, standIns := [], harness := (true, "4e8ba00cf27972743f4a415ffe2fdd1de1e5ad4018091dc47328bdf7bdb0fd87"), looks := true }, kinds := [], alts := [], laidByText := true, laidKinds := [.data, .pinned], laidTests := true, laidLooks := .later }
def FnExactIsSystemCardSaid : Prop := Claim7.holds Tryz.pinned (.plain (OpenSpec.ofChange fnExactIsSystemSpec)) fnExactIsSystemCard

/-- THE TIED CARD OF 'laws.FnExactFindRoutine'. -/
def fnExactFindRoutineCard : Claim7 := { stood := { row := fnExactFindRoutineRow, standIns := [], harness := (true, "4e8ba00cf27972743f4a415ffe2fdd1de1e5ad4018091dc47328bdf7bdb0fd87"), looks := true }, kinds := [], alts := [], laidByText := true, laidKinds := [.data, .pinned], laidTests := true, laidLooks := .later }
def FnExactFindRoutineCardSaid : Prop := Claim7.holds Tryz.pinned (.plain (OpenSpec.ofChange fnExactFindRoutineSpec)) fnExactFindRoutineCard

/-- THE TIED CARD OF 'laws.FnExactRoutineFor'. -/
def fnExactRoutineForCard : Claim7 := { stood := { row := fnExactRoutineForRow, standIns := [], harness := (true, "4e8ba00cf27972743f4a415ffe2fdd1de1e5ad4018091dc47328bdf7bdb0fd87"), looks := true }, kinds := [], alts := [], laidByText := true, laidKinds := [.data, .pinned], laidTests := true, laidLooks := .later }
def FnExactRoutineForCardSaid : Prop := Claim7.holds Tryz.pinned (.plain (OpenSpec.ofChange fnExactRoutineForSpec)) fnExactRoutineForCard

/-- THE TIED CARD OF 'laws.FnTexts'. -/
def fnTextsCard : Claim7 := { stood := { row := fnTextsRow, standIns := [], harness := (true, "4e8ba00cf27972743f4a415ffe2fdd1de1e5ad4018091dc47328bdf7bdb0fd87"), looks := true }, kinds := [], alts := [], laidByText := true, laidKinds := [.data, .data, .data, .data, .sentinel, .sentinel, .pinned], laidTests := true, laidLooks := .later }
def FnTextsCardSaid : Prop := Claim7.holds Tryz.pinned (.plain (OpenSpec.ofChange fnTextsSpec)) fnTextsCard

/-- THE TIED CARD OF 'laws.FnExactSelectorsOf'. -/
def fnExactSelectorsOfCard : Claim7 := { stood := { row := fnExactSelectorsOfRow, standIns := [], harness := (true, "4e8ba00cf27972743f4a415ffe2fdd1de1e5ad4018091dc47328bdf7bdb0fd87"), looks := true }, kinds := [], alts := [], laidByText := true, laidKinds := [.data, .pinned], laidTests := true, laidLooks := .later }
def FnExactSelectorsOfCardSaid : Prop := Claim7.holds Tryz.pinned (.plain (OpenSpec.ofChange fnExactSelectorsOfSpec)) fnExactSelectorsOfCard

/-- THE TIED CARD OF 'laws.FnExactCheckUnit'. -/
def fnExactCheckUnitCard : Claim7 := { stood := { row := fnExactCheckUnitRow, standIns := [], harness := (true, "4e8ba00cf27972743f4a415ffe2fdd1de1e5ad4018091dc47328bdf7bdb0fd87"), looks := true }, kinds := [], alts := [], laidByText := true, laidKinds := [.data, .pinned], laidTests := true, laidLooks := .later }
def FnExactCheckUnitCardSaid : Prop := Claim7.holds Tryz.pinned (.plain (OpenSpec.ofChange fnExactCheckUnitSpec)) fnExactCheckUnitCard

/-- THE SECOND FORM's CARD OF 'laws.FnExactIsSystem'. -/
def fnExactIsSystemUptoCard : Claim7 := { stood := { row := fnExactIsSystemUptoRow, standIns := [], harness := (true, "4e8ba00cf27972743f4a415ffe2fdd1de1e5ad4018091dc47328bdf7bdb0fd87"), looks := true }, kinds := [], alts := [], laidByText := true, laidKinds := [.data, .pinned], laidTests := true, laidLooks := .later }
def FnExactIsSystemUptoCardSaid : Prop := Claim7.holds Tryz.pinned (.plain (OpenSpec.upto fnExactIsSystemSpec)) fnExactIsSystemUptoCard

/-- THE SECOND FORM's CARD OF 'laws.FnExactFindRoutine'. -/
def fnExactFindRoutineUptoCard : Claim7 := { stood := { row := fnExactFindRoutineUptoRow, standIns := [], harness := (true, "4e8ba00cf27972743f4a415ffe2fdd1de1e5ad4018091dc47328bdf7bdb0fd87"), looks := true }, kinds := [], alts := [], laidByText := true, laidKinds := [.data, .pinned], laidTests := true, laidLooks := .later }
def FnExactFindRoutineUptoCardSaid : Prop := Claim7.holds Tryz.pinned (.plain (OpenSpec.upto fnExactFindRoutineSpec)) fnExactFindRoutineUptoCard

/-- THE SECOND FORM's CARD OF 'laws.FnExactRoutineFor'. -/
def fnExactRoutineForUptoCard : Claim7 := { stood := { row := fnExactRoutineForUptoRow, standIns := [], harness := (true, "4e8ba00cf27972743f4a415ffe2fdd1de1e5ad4018091dc47328bdf7bdb0fd87"), looks := true }, kinds := [], alts := [], laidByText := true, laidKinds := [.data, .pinned], laidTests := true, laidLooks := .later }
def FnExactRoutineForUptoCardSaid : Prop := Claim7.holds Tryz.pinned (.plain (OpenSpec.upto fnExactRoutineForSpec)) fnExactRoutineForUptoCard

/-- THE SECOND FORM's CARD OF 'laws.FnTexts'. -/
def fnTextsUptoCard : Claim7 := { stood := { row := fnTextsUptoRow, standIns := [], harness := (true, "4e8ba00cf27972743f4a415ffe2fdd1de1e5ad4018091dc47328bdf7bdb0fd87"), looks := true }, kinds := [], alts := [], laidByText := true, laidKinds := [.data, .data, .data, .data, .sentinel, .sentinel, .pinned], laidTests := true, laidLooks := .later }
def FnTextsUptoCardSaid : Prop := Claim7.holds Tryz.pinned (.plain (OpenSpec.upto fnTextsSpec)) fnTextsUptoCard

/-- THE SECOND FORM's CARD OF 'laws.FnExactSelectorsOf'. -/
def fnExactSelectorsOfUptoCard : Claim7 := { stood := { row := fnExactSelectorsOfUptoRow, standIns := [], harness := (true, "4e8ba00cf27972743f4a415ffe2fdd1de1e5ad4018091dc47328bdf7bdb0fd87"), looks := true }, kinds := [], alts := [], laidByText := true, laidKinds := [.data, .pinned], laidTests := true, laidLooks := .later }
def FnExactSelectorsOfUptoCardSaid : Prop := Claim7.holds Tryz.pinned (.plain (OpenSpec.upto fnExactSelectorsOfSpec)) fnExactSelectorsOfUptoCard

/-- THE SECOND FORM's CARD OF 'laws.FnExactCheckUnit'. -/
def fnExactCheckUnitUptoCard : Claim7 := { stood := { row := fnExactCheckUnitUptoRow, standIns := [], harness := (true, "4e8ba00cf27972743f4a415ffe2fdd1de1e5ad4018091dc47328bdf7bdb0fd87"), looks := true }, kinds := [], alts := [], laidByText := true, laidKinds := [.data, .pinned], laidTests := true, laidLooks := .later }
def FnExactCheckUnitUptoCardSaid : Prop := Claim7.holds Tryz.pinned (.plain (OpenSpec.upto fnExactCheckUnitSpec)) fnExactCheckUnitUptoCard
end Rows
end Go.Proofs.YtdngmifgglbbpaaGreatDoor
