/-
  DERIVED. GIVEN WITH THE SEED: THE CARDS: each row of YtonafonhadocgaaGreatDoorRows.lean that lists a variable, with what it lists TIED to the program's text (the seventh form; the later family's looks); each row that meets fmt, with fmt's text TOLD by the authors' own Lean function (tested against real Go, not proved from fmt's source: count such statements apart). THE CARD IS WHAT COUNTS. Prove the row's statement (the work); the ties are given (YtonafonhadocgaaGreatDoorTie.lean); close each card by the builder's one call (the guide's Derived/Test/ToyasCard.lean, 'card_holds'). Laid BY PROGRAM, IN A SANDBOX (cutbox-door.mjs). By AI agents, Wed Nov 11 2026. No macro, syntax, notation, axiom, sorry.
-/
import Derived.Test.YtonafonhadocgaaGreatDoorRows
import GoSem.ClaimSeven
namespace Go.Proofs.YtonafonhadocgaaGreatDoor
namespace Rows

/-- THE TIED CARD OF 'horologelaw28.FlowReads'. -/
def flowReadsCard : Claim7 := { stood := { row := flowReadsRow, standIns := [], harness := (true, "592ef92ab71acba931e6b457d6df55bbc36f2c379d1d1c391339ef460f6e95fe"), looks := true }, kinds := [], alts := [], laidByText := true, laidKinds := [.data, .data, .data, .data, .sentinel, .sentinel, .pinned], laidTests := true, laidLooks := .later }
def FlowReadsCardSaid : Prop := Claim7.holds Tryz.pinned (.plain (OpenSpec.ofChange flowReadsSpec)) flowReadsCard

/-- THE TIED CARD OF 'horologelaw28.FlowKnown'. -/
def flowKnownCard : Claim7 := { stood := { row := flowKnownRow, standIns := [], harness := (true, "592ef92ab71acba931e6b457d6df55bbc36f2c379d1d1c391339ef460f6e95fe"), looks := true }, kinds := [], alts := [], laidByText := true, laidKinds := [.data, .data, .data, .data, .sentinel, .sentinel, .pinned], laidTests := true, laidLooks := .later }
def FlowKnownCardSaid : Prop := Claim7.holds Tryz.pinned (.plain (OpenSpec.ofChange flowKnownSpec)) flowKnownCard

/-- THE TIED CARD OF 'horologelaw28.FlowSorts'. -/
def flowSortsCard : Claim7 := { stood := { row := flowSortsRow, standIns := [], harness := (true, "592ef92ab71acba931e6b457d6df55bbc36f2c379d1d1c391339ef460f6e95fe"), looks := true }, kinds := [], alts := [], laidByText := true, laidKinds := [.data, .data, .data, .data, .sentinel, .sentinel, .pinned], laidTests := true, laidLooks := .later }
def FlowSortsCardSaid : Prop := Claim7.holds Tryz.pinned (.plain (OpenSpec.ofChange flowSortsSpec)) flowSortsCard

/-- THE TIED CARD OF 'horologelaw28.FlowOrder'. -/
def flowOrderCard : Claim7 := { stood := { row := flowOrderRow, standIns := [], harness := (true, "592ef92ab71acba931e6b457d6df55bbc36f2c379d1d1c391339ef460f6e95fe"), looks := true }, kinds := [], alts := [], laidByText := true, laidKinds := [.data, .data, .data, .data, .sentinel, .sentinel, .pinned], laidTests := true, laidLooks := .later }
def FlowOrderCardSaid : Prop := Claim7.holds Tryz.pinned (.plain (OpenSpec.ofChange flowOrderSpec)) flowOrderCard

/-- THE SECOND FORM's CARD OF 'horologelaw28.FlowReads'. -/
def flowReadsUptoCard : Claim7 := { stood := { row := flowReadsUptoRow, standIns := [], harness := (true, "592ef92ab71acba931e6b457d6df55bbc36f2c379d1d1c391339ef460f6e95fe"), looks := true }, kinds := [], alts := [], laidByText := true, laidKinds := [.data, .data, .data, .data, .sentinel, .sentinel, .pinned], laidTests := true, laidLooks := .later }
def FlowReadsUptoCardSaid : Prop := Claim7.holds Tryz.pinned (.plain (OpenSpec.upto flowReadsSpec)) flowReadsUptoCard

/-- THE SECOND FORM's CARD OF 'horologelaw28.FlowKnown'. -/
def flowKnownUptoCard : Claim7 := { stood := { row := flowKnownUptoRow, standIns := [], harness := (true, "592ef92ab71acba931e6b457d6df55bbc36f2c379d1d1c391339ef460f6e95fe"), looks := true }, kinds := [], alts := [], laidByText := true, laidKinds := [.data, .data, .data, .data, .sentinel, .sentinel, .pinned], laidTests := true, laidLooks := .later }
def FlowKnownUptoCardSaid : Prop := Claim7.holds Tryz.pinned (.plain (OpenSpec.upto flowKnownSpec)) flowKnownUptoCard

/-- THE SECOND FORM's CARD OF 'horologelaw28.FlowSorts'. -/
def flowSortsUptoCard : Claim7 := { stood := { row := flowSortsUptoRow, standIns := [], harness := (true, "592ef92ab71acba931e6b457d6df55bbc36f2c379d1d1c391339ef460f6e95fe"), looks := true }, kinds := [], alts := [], laidByText := true, laidKinds := [.data, .data, .data, .data, .sentinel, .sentinel, .pinned], laidTests := true, laidLooks := .later }
def FlowSortsUptoCardSaid : Prop := Claim7.holds Tryz.pinned (.plain (OpenSpec.upto flowSortsSpec)) flowSortsUptoCard

/-- THE SECOND FORM's CARD OF 'horologelaw28.FlowOrder'. -/
def flowOrderUptoCard : Claim7 := { stood := { row := flowOrderUptoRow, standIns := [], harness := (true, "592ef92ab71acba931e6b457d6df55bbc36f2c379d1d1c391339ef460f6e95fe"), looks := true }, kinds := [], alts := [], laidByText := true, laidKinds := [.data, .data, .data, .data, .sentinel, .sentinel, .pinned], laidTests := true, laidLooks := .later }
def FlowOrderUptoCardSaid : Prop := Claim7.holds Tryz.pinned (.plain (OpenSpec.upto flowOrderSpec)) flowOrderUptoCard
end Rows
end Go.Proofs.YtonafonhadocgaaGreatDoor
