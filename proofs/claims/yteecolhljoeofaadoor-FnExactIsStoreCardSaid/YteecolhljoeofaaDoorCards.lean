/-
  DERIVED. GIVEN WITH THE SEED: THE CARDS: each row of YteecolhljoeofaaDoorRows.lean that lists a variable, with what it lists TIED to the program's text (the seventh form; the later family's looks); each row that meets fmt, with fmt's text TOLD by the authors' own Lean function (tested against real Go, not proved from fmt's source: count such statements apart). THE CARD IS WHAT COUNTS. Prove the row's statement (the work); the ties are given (YteecolhljoeofaaDoorTie.lean); close each card by the builder's one call (the guide's Derived/Test/ToyasCard.lean, 'card_holds'). Laid BY PROGRAM, IN A SANDBOX (cutbox-door.mjs). By AI agents, Wed Nov 11 2026. No macro, syntax, notation, axiom, sorry.
-/
import Derived.Test.YteecolhljoeofaaDoorRows
import GoSem.ClaimSeven
namespace Go.Proofs.YteecolhljoeofaaDoor
namespace Rows

/-- THE TIED CARD OF 'laws.FnExactTokens'. -/
def fnExactTokensCard : Claim7 := { stood := { row := fnExactTokensRow, standIns := [], harness := (true, "9759f2bc98cecee1640f2cb3e6727ae902da8638f8ea70e862d158c9cea4fb83"), looks := true }, kinds := [], alts := [], laidByText := true, laidKinds := [.data, .pinned], laidTests := true, laidLooks := .later }
def FnExactTokensCardSaid : Prop := Claim7.holds Tryd.pinned (.plain (OpenSpec.ofChange fnExactTokensSpec)) fnExactTokensCard

/-- THE TIED CARD OF 'laws.FnExactParseInstr'. -/
def fnExactParseInstrCard : Claim7 := { stood := { row := fnExactParseInstrRow, standIns := [], harness := (true, "9759f2bc98cecee1640f2cb3e6727ae902da8638f8ea70e862d158c9cea4fb83"), looks := true }, kinds := [], alts := [], laidByText := true, laidKinds := [.data, .data, .data, .sentinel, .sentinel], laidTests := true, laidLooks := .later }
def FnExactParseInstrCardSaid : Prop := Claim7.holds Tryd.pinned (.plain (OpenSpec.ofChange fnExactParseInstrSpec)) fnExactParseInstrCard

/-- THE TIED CARD OF 'laws.FnDecimals'. -/
def fnDecimalsCard : Claim7 := { stood := { row := fnDecimalsRow, standIns := [], harness := (true, "9759f2bc98cecee1640f2cb3e6727ae902da8638f8ea70e862d158c9cea4fb83"), looks := true }, kinds := [], alts := [], laidByText := true, laidKinds := [.data, .data, .data, .data, .sentinel, .sentinel, .pinned], laidTests := true, laidLooks := .later }
def FnDecimalsCardSaid : Prop := Claim7.holds Tryd.pinned (.plain (OpenSpec.ofChange fnDecimalsSpec)) fnDecimalsCard

/-- THE TIED CARD OF 'laws.FnExactIsStore'. -/
def fnExactIsStoreCard : Claim7 := { stood := { row := fnExactIsStoreRow, standIns := [], harness := (true, "9759f2bc98cecee1640f2cb3e6727ae902da8638f8ea70e862d158c9cea4fb83"), looks := true }, kinds := [], alts := [], laidByText := true, laidKinds := [.data, .pinned], laidTests := true, laidLooks := .later }
def FnExactIsStoreCardSaid : Prop := Claim7.holds Tryd.pinned (.plain (OpenSpec.ofChange fnExactIsStoreSpec)) fnExactIsStoreCard

/-- THE TIED CARD OF 'laws.FnExactParseCode'. -/
def fnExactParseCodeCard : Claim7 := { stood := { row := fnExactParseCodeRow, standIns := [], harness := (true, "9759f2bc98cecee1640f2cb3e6727ae902da8638f8ea70e862d158c9cea4fb83"), looks := true }, kinds := [], alts := [], laidByText := true, laidKinds := [.data, .data, .data, .data, .sentinel, .sentinel, .pinned], laidTests := true, laidLooks := .later }
def FnExactParseCodeCardSaid : Prop := Claim7.holds Tryd.pinned (.plain (OpenSpec.ofChange fnExactParseCodeSpec)) fnExactParseCodeCard

/-- THE SECOND FORM's CARD OF 'laws.FnExactTokens'. -/
def fnExactTokensUptoCard : Claim7 := { stood := { row := fnExactTokensUptoRow, standIns := [], harness := (true, "9759f2bc98cecee1640f2cb3e6727ae902da8638f8ea70e862d158c9cea4fb83"), looks := true }, kinds := [], alts := [], laidByText := true, laidKinds := [.data, .pinned], laidTests := true, laidLooks := .later }
def FnExactTokensUptoCardSaid : Prop := Claim7.holds Tryd.pinned (.plain (OpenSpec.upto fnExactTokensSpec)) fnExactTokensUptoCard

/-- THE SECOND FORM's CARD OF 'laws.FnExactParseInstr'. -/
def fnExactParseInstrUptoCard : Claim7 := { stood := { row := fnExactParseInstrUptoRow, standIns := [], harness := (true, "9759f2bc98cecee1640f2cb3e6727ae902da8638f8ea70e862d158c9cea4fb83"), looks := true }, kinds := [], alts := [], laidByText := true, laidKinds := [.data, .data, .data, .sentinel, .sentinel], laidTests := true, laidLooks := .later }
def FnExactParseInstrUptoCardSaid : Prop := Claim7.holds Tryd.pinned (.plain (OpenSpec.upto fnExactParseInstrSpec)) fnExactParseInstrUptoCard

/-- THE SECOND FORM's CARD OF 'laws.FnDecimals'. -/
def fnDecimalsUptoCard : Claim7 := { stood := { row := fnDecimalsUptoRow, standIns := [], harness := (true, "9759f2bc98cecee1640f2cb3e6727ae902da8638f8ea70e862d158c9cea4fb83"), looks := true }, kinds := [], alts := [], laidByText := true, laidKinds := [.data, .data, .data, .data, .sentinel, .sentinel, .pinned], laidTests := true, laidLooks := .later }
def FnDecimalsUptoCardSaid : Prop := Claim7.holds Tryd.pinned (.plain (OpenSpec.upto fnDecimalsSpec)) fnDecimalsUptoCard

/-- THE SECOND FORM's CARD OF 'laws.FnExactIsStore'. -/
def fnExactIsStoreUptoCard : Claim7 := { stood := { row := fnExactIsStoreUptoRow, standIns := [], harness := (true, "9759f2bc98cecee1640f2cb3e6727ae902da8638f8ea70e862d158c9cea4fb83"), looks := true }, kinds := [], alts := [], laidByText := true, laidKinds := [.data, .pinned], laidTests := true, laidLooks := .later }
def FnExactIsStoreUptoCardSaid : Prop := Claim7.holds Tryd.pinned (.plain (OpenSpec.upto fnExactIsStoreSpec)) fnExactIsStoreUptoCard

/-- THE SECOND FORM's CARD OF 'laws.FnExactParseCode'. -/
def fnExactParseCodeUptoCard : Claim7 := { stood := { row := fnExactParseCodeUptoRow, standIns := [], harness := (true, "9759f2bc98cecee1640f2cb3e6727ae902da8638f8ea70e862d158c9cea4fb83"), looks := true }, kinds := [], alts := [], laidByText := true, laidKinds := [.data, .data, .data, .data, .sentinel, .sentinel, .pinned], laidTests := true, laidLooks := .later }
def FnExactParseCodeUptoCardSaid : Prop := Claim7.holds Tryd.pinned (.plain (OpenSpec.upto fnExactParseCodeSpec)) fnExactParseCodeUptoCard
end Rows
end Go.Proofs.YteecolhljoeofaaDoor
