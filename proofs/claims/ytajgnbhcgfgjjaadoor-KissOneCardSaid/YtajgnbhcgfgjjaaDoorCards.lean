/-
  DERIVED. GIVEN WITH THE SEED: THE CARDS: each row of YtajgnbhcgfgjjaaDoorRows.lean that lists a variable, with what it lists TIED to the program's text (the seventh form; the later family's looks); each row that meets fmt, with fmt's text TOLD by the authors' own Lean function (tested against real Go, not proved from fmt's source: count such statements apart). THE CARD IS WHAT COUNTS. Prove the row's statement (the work); the ties are given (YtajgnbhcgfgjjaaDoorTie.lean); close each card by the builder's one call (the guide's Derived/Test/ToyasCard.lean, 'card_holds'). Laid BY PROGRAM, IN A SANDBOX (cutbox-door.mjs). By AI agents, Wed Nov 11 2026. No macro, syntax, notation, axiom, sorry.
-/
import Derived.Test.YtajgnbhcgfgjjaaDoorRows
import GoSem.ClaimSeven
namespace Go.Proofs.YtajgnbhcgfgjjaaDoor
namespace Rows

/-- THE TIED CARD OF 'horologelaw22.KissFails'. -/
def kissFailsCard : Claim7 := { stood := { row := kissFailsRow, standIns := [], harness := (true, "f0b5a29edb8b47e13dcdb0ce39e7cf0ed5a721c6fbf04ceec43ed8dd23521584"), looks := false }, kinds := [], alts := [], laidByText := true, laidKinds := [.data, .pinned], laidTests := true, laidLooks := .later }
def KissFailsCardSaid : Prop := Claim7.holds Tryd.pinned (.plain (OpenSpec.ofChange kissFailsSpec)) kissFailsCard

/-- THE TIED CARD OF 'horologelaw22.KissTexts'. -/
def kissTextsCard : Claim7 := { stood := { row := kissTextsRow, standIns := [], harness := (true, "f0b5a29edb8b47e13dcdb0ce39e7cf0ed5a721c6fbf04ceec43ed8dd23521584"), looks := false }, kinds := [], alts := [], laidByText := true, laidKinds := [.data, .pinned], laidTests := true, laidLooks := .later }
def KissTextsCardSaid : Prop := Claim7.holds Tryd.pinned (.plain (OpenSpec.ofChange kissTextsSpec)) kissTextsCard

/-- THE TIED CARD OF 'horologelaw22.KissOne'. -/
def kissOneCard : Claim7 := { stood := { row := kissOneRow, standIns := [], harness := (true, "f0b5a29edb8b47e13dcdb0ce39e7cf0ed5a721c6fbf04ceec43ed8dd23521584"), looks := false }, kinds := [], alts := [], laidByText := true, laidKinds := [.data, .pinned], laidTests := true, laidLooks := .later }
def KissOneCardSaid : Prop := Claim7.holds Tryd.pinned (.plain (OpenSpec.ofChange kissOneSpec)) kissOneCard

/-- THE TIED CARD OF 'horologelaw22.KissKnown'. -/
def kissKnownCard : Claim7 := { stood := { row := kissKnownRow, standIns := [], harness := (true, "f0b5a29edb8b47e13dcdb0ce39e7cf0ed5a721c6fbf04ceec43ed8dd23521584"), looks := false }, kinds := [], alts := [], laidByText := true, laidKinds := [.data, .pinned], laidTests := true, laidLooks := .later }
def KissKnownCardSaid : Prop := Claim7.holds Tryd.pinned (.plain (OpenSpec.ofChange kissKnownSpec)) kissKnownCard

/-- THE TIED CARD OF 'horologelaw22.KissCodes'. -/
def kissCodesCard : Claim7 := { stood := { row := kissCodesRow, standIns := [], harness := (true, "f0b5a29edb8b47e13dcdb0ce39e7cf0ed5a721c6fbf04ceec43ed8dd23521584"), looks := false }, kinds := [], alts := [], laidByText := true, laidKinds := [.data, .pinned], laidTests := true, laidLooks := .later }
def KissCodesCardSaid : Prop := Claim7.holds Tryd.pinned (.plain (OpenSpec.ofChange kissCodesSpec)) kissCodesCard

/-- THE SECOND FORM's CARD OF 'horologelaw22.KissFails'. -/
def kissFailsUptoCard : Claim7 := { stood := { row := kissFailsUptoRow, standIns := [], harness := (true, "f0b5a29edb8b47e13dcdb0ce39e7cf0ed5a721c6fbf04ceec43ed8dd23521584"), looks := false }, kinds := [], alts := [], laidByText := true, laidKinds := [.data, .pinned], laidTests := true, laidLooks := .later }
def KissFailsUptoCardSaid : Prop := Claim7.holds Tryd.pinned (.plain (OpenSpec.upto kissFailsSpec)) kissFailsUptoCard

/-- THE SECOND FORM's CARD OF 'horologelaw22.KissTexts'. -/
def kissTextsUptoCard : Claim7 := { stood := { row := kissTextsUptoRow, standIns := [], harness := (true, "f0b5a29edb8b47e13dcdb0ce39e7cf0ed5a721c6fbf04ceec43ed8dd23521584"), looks := false }, kinds := [], alts := [], laidByText := true, laidKinds := [.data, .pinned], laidTests := true, laidLooks := .later }
def KissTextsUptoCardSaid : Prop := Claim7.holds Tryd.pinned (.plain (OpenSpec.upto kissTextsSpec)) kissTextsUptoCard

/-- THE SECOND FORM's CARD OF 'horologelaw22.KissOne'. -/
def kissOneUptoCard : Claim7 := { stood := { row := kissOneUptoRow, standIns := [], harness := (true, "f0b5a29edb8b47e13dcdb0ce39e7cf0ed5a721c6fbf04ceec43ed8dd23521584"), looks := false }, kinds := [], alts := [], laidByText := true, laidKinds := [.data, .pinned], laidTests := true, laidLooks := .later }
def KissOneUptoCardSaid : Prop := Claim7.holds Tryd.pinned (.plain (OpenSpec.upto kissOneSpec)) kissOneUptoCard

/-- THE SECOND FORM's CARD OF 'horologelaw22.KissKnown'. -/
def kissKnownUptoCard : Claim7 := { stood := { row := kissKnownUptoRow, standIns := [], harness := (true, "f0b5a29edb8b47e13dcdb0ce39e7cf0ed5a721c6fbf04ceec43ed8dd23521584"), looks := false }, kinds := [], alts := [], laidByText := true, laidKinds := [.data, .pinned], laidTests := true, laidLooks := .later }
def KissKnownUptoCardSaid : Prop := Claim7.holds Tryd.pinned (.plain (OpenSpec.upto kissKnownSpec)) kissKnownUptoCard

/-- THE SECOND FORM's CARD OF 'horologelaw22.KissCodes'. -/
def kissCodesUptoCard : Claim7 := { stood := { row := kissCodesUptoRow, standIns := [], harness := (true, "f0b5a29edb8b47e13dcdb0ce39e7cf0ed5a721c6fbf04ceec43ed8dd23521584"), looks := false }, kinds := [], alts := [], laidByText := true, laidKinds := [.data, .pinned], laidTests := true, laidLooks := .later }
def KissCodesUptoCardSaid : Prop := Claim7.holds Tryd.pinned (.plain (OpenSpec.upto kissCodesSpec)) kissCodesUptoCard
end Rows
end Go.Proofs.YtajgnbhcgfgjjaaDoor
