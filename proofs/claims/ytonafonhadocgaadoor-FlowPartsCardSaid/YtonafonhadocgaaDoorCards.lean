/-
  DERIVED. GIVEN WITH THE SEED: THE CARDS: each row of YtonafonhadocgaaDoorRows.lean that lists a variable, with what it lists TIED to the program's text (the seventh form; the later family's looks); each row that meets fmt, with fmt's text TOLD by the authors' own Lean function (tested against real Go, not proved from fmt's source: count such statements apart). THE CARD IS WHAT COUNTS. Prove the row's statement (the work); the ties are given (YtonafonhadocgaaDoorTie.lean); close each card by the builder's one call (the guide's Derived/Test/ToyasCard.lean, 'card_holds'). Laid BY PROGRAM, IN A SANDBOX (cutbox-door.mjs). By AI agents, Wed Nov 11 2026. No macro, syntax, notation, axiom, sorry.
-/
import Derived.Test.YtonafonhadocgaaDoorRows
import GoSem.ClaimSeven
namespace Go.Proofs.YtonafonhadocgaaDoor
namespace Rows

/-- THE TIED CARD OF 'horologelaw28.FlowTexts'. -/
def flowTextsCard : Claim7 := { stood := { row := flowTextsRow, standIns := [], harness := (true, "213c5fd03873ed280fcb4922c79bcddd8e7e4bfe6c30cf2c516d17ad6af8bd9a"), looks := true }, kinds := [], alts := [], laidByText := true, laidKinds := [.data, .data, .data, .data, .sentinel, .sentinel, .pinned], laidTests := true, laidLooks := .later }
def FlowTextsCardSaid : Prop := Claim7.holds Tryd.pinned (.plain (OpenSpec.ofChange flowTextsSpec)) flowTextsCard

/-- THE TIED CARD OF 'horologelaw28.FlowGroups'. -/
def flowGroupsCard : Claim7 := { stood := { row := flowGroupsRow, standIns := [], harness := (true, "213c5fd03873ed280fcb4922c79bcddd8e7e4bfe6c30cf2c516d17ad6af8bd9a"), looks := true }, kinds := [], alts := [], laidByText := true, laidKinds := [.data, .data, .data, .data, .sentinel, .sentinel, .pinned], laidTests := true, laidLooks := .later }
def FlowGroupsCardSaid : Prop := Claim7.holds Tryd.pinned (.plain (OpenSpec.ofChange flowGroupsSpec)) flowGroupsCard

/-- THE TIED CARD OF 'horologelaw28.FlowParts'. -/
def flowPartsCard : Claim7 := { stood := { row := flowPartsRow, standIns := [], harness := (true, "213c5fd03873ed280fcb4922c79bcddd8e7e4bfe6c30cf2c516d17ad6af8bd9a"), looks := true }, kinds := [], alts := [], laidByText := true, laidKinds := [.data, .data, .data, .data, .sentinel, .sentinel, .pinned], laidTests := true, laidLooks := .later }
def FlowPartsCardSaid : Prop := Claim7.holds Tryd.pinned (.plain (OpenSpec.ofChange flowPartsSpec)) flowPartsCard

/-- THE TIED CARD OF 'horologelaw28.FlowBack'. -/
def flowBackCard : Claim7 := { stood := { row := flowBackRow, standIns := [], harness := (true, "213c5fd03873ed280fcb4922c79bcddd8e7e4bfe6c30cf2c516d17ad6af8bd9a"), looks := true }, kinds := [], alts := [], laidByText := true, laidKinds := [.data, .data, .data, .data, .sentinel, .sentinel, .pinned], laidTests := true, laidLooks := .later }
def FlowBackCardSaid : Prop := Claim7.holds Tryd.pinned (.plain (OpenSpec.ofChange flowBackSpec)) flowBackCard

/-- THE SECOND FORM's CARD OF 'horologelaw28.FlowTexts'. -/
def flowTextsUptoCard : Claim7 := { stood := { row := flowTextsUptoRow, standIns := [], harness := (true, "213c5fd03873ed280fcb4922c79bcddd8e7e4bfe6c30cf2c516d17ad6af8bd9a"), looks := true }, kinds := [], alts := [], laidByText := true, laidKinds := [.data, .data, .data, .data, .sentinel, .sentinel, .pinned], laidTests := true, laidLooks := .later }
def FlowTextsUptoCardSaid : Prop := Claim7.holds Tryd.pinned (.plain (OpenSpec.upto flowTextsSpec)) flowTextsUptoCard

/-- THE SECOND FORM's CARD OF 'horologelaw28.FlowGroups'. -/
def flowGroupsUptoCard : Claim7 := { stood := { row := flowGroupsUptoRow, standIns := [], harness := (true, "213c5fd03873ed280fcb4922c79bcddd8e7e4bfe6c30cf2c516d17ad6af8bd9a"), looks := true }, kinds := [], alts := [], laidByText := true, laidKinds := [.data, .data, .data, .data, .sentinel, .sentinel, .pinned], laidTests := true, laidLooks := .later }
def FlowGroupsUptoCardSaid : Prop := Claim7.holds Tryd.pinned (.plain (OpenSpec.upto flowGroupsSpec)) flowGroupsUptoCard

/-- THE SECOND FORM's CARD OF 'horologelaw28.FlowParts'. -/
def flowPartsUptoCard : Claim7 := { stood := { row := flowPartsUptoRow, standIns := [], harness := (true, "213c5fd03873ed280fcb4922c79bcddd8e7e4bfe6c30cf2c516d17ad6af8bd9a"), looks := true }, kinds := [], alts := [], laidByText := true, laidKinds := [.data, .data, .data, .data, .sentinel, .sentinel, .pinned], laidTests := true, laidLooks := .later }
def FlowPartsUptoCardSaid : Prop := Claim7.holds Tryd.pinned (.plain (OpenSpec.upto flowPartsSpec)) flowPartsUptoCard

/-- THE SECOND FORM's CARD OF 'horologelaw28.FlowBack'. -/
def flowBackUptoCard : Claim7 := { stood := { row := flowBackUptoRow, standIns := [], harness := (true, "213c5fd03873ed280fcb4922c79bcddd8e7e4bfe6c30cf2c516d17ad6af8bd9a"), looks := true }, kinds := [], alts := [], laidByText := true, laidKinds := [.data, .data, .data, .data, .sentinel, .sentinel, .pinned], laidTests := true, laidLooks := .later }
def FlowBackUptoCardSaid : Prop := Claim7.holds Tryd.pinned (.plain (OpenSpec.upto flowBackSpec)) flowBackUptoCard
end Rows
end Go.Proofs.YtonafonhadocgaaDoor
