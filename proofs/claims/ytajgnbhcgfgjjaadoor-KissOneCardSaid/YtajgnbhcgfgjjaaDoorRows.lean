/-
  NARROWER THAN 'FOR EVERY INPUT', by the rows' own cells (each row's printed sentence says how): KissFails: laid · KissTexts: laid · KissOne: laid · KissKnown: laid · KissCodes: laid.
  DERIVED. THE GIVEN ROWS OF THIS SEAT. 5 by the template 'for every input the law returns true; each argument reads behind the call as it read before'; 0 by the template 'total and deterministic' (their statements: YtajgnbhcgfgjjaaDoorTotals.lean).
  GIVEN WITH THE SEED: the statements are not yours to turn. If you find one false, say at which input.
  Laid BY PROGRAM, IN A SANDBOX (cutbox-rows.mjs): the forced cells as the released guide's own fill.sh prints them over the translation 4a06b676a2ee99dd… (all of the seat's roots in one cut). By AI agents, Wed Nov 11 2026. No macro, syntax, notation, axiom, sorry.
-/
import Derived.Test.YtajgnbhcgfgjjaaDoorChecked
import GoSem.PinnedTables
import GoSem.Claim
import GoSem.ClaimJoined
import GoSem.ClaimMapViews
import Derived.JoinedTies
import Derived.KernelRfl
namespace Go.Proofs.YtajgnbhcgfgjjaaDoor
/- THE CELL 'sum', in the pinned program and in every row, IS THE sha256 OF THE DUMP (.gsa) THAT YtajgnbhcgfgjjaaDoorProg.lean LOADS. Nothing in Lean hashes anything: it is a label: what it is worth is what the hold of that sum in a sandbox is worth. -/
noncomputable def Tryd.pinned : Pinned := { name := "ytajgnbhcgfgjjaadoor", sum := "4a06b676a2ee99dd92704fb16a90233b088b55ca15b1d39a08f042c15582d07e", checked := Tryd.checked }
namespace Rows
def none {H : Type} : Left H := { results := [], args := [] }

/- WHAT THE LISTED PACKAGE-LEVEL VARIABLES READ AS WHEN THE CALL BEGINS. Each datum BY PROGRAM (the guide's laid-datum.mjs) off the statement by which the dump's own 'gosem.cut.vars' lays the variable. In a bare row this is a premise. The card (YtajgnbhcgfgjjaaDoorCards.lean) ties it to the program's text. -/
def laid_unicode_utf8_acceptRanges {H : Type} : DataW H := .agg [.agg [.lit (.int .u8 128), .lit (.int .u8 191)], .agg [.lit (.int .u8 160), .lit (.int .u8 191)], .agg [.lit (.int .u8 128), .lit (.int .u8 159)], .agg [.lit (.int .u8 144), .lit (.int .u8 191)], .agg [.lit (.int .u8 128), .lit (.int .u8 143)], .agg [.lit (.int .u8 0), .lit (.int .u8 0)], .agg [.lit (.int .u8 0), .lit (.int .u8 0)], .agg [.lit (.int .u8 0), .lit (.int .u8 0)], .agg [.lit (.int .u8 0), .lit (.int .u8 0)], .agg [.lit (.int .u8 0), .lit (.int .u8 0)], .agg [.lit (.int .u8 0), .lit (.int .u8 0)], .agg [.lit (.int .u8 0), .lit (.int .u8 0)], .agg [.lit (.int .u8 0), .lit (.int .u8 0)], .agg [.lit (.int .u8 0), .lit (.int .u8 0)], .agg [.lit (.int .u8 0), .lit (.int .u8 0)], .agg [.lit (.int .u8 0), .lit (.int .u8 0)]]
/-- One of Go's own tables, pinned by name: the form's constant. -/
def laid_unicode_utf8_first : DataW Unit := Go.Pinned.utf8First

/-- 'horologelaw22.KissFails': WHATEVER THE INPUT: true; the input reads as it did. -/
def kissFailsSpec : ChangeSpec := { name := "kissFails", fn := fun _ => fun
  | [d] => { results := [.lit (.bool true)], args := [d] }
  | _ => none }
def kissFailsRow : OpenClaim := { program := "ytajgnbhcgfgjjaadoor", sum := "4a06b676a2ee99dd92704fb16a90233b088b55ca15b1d39a08f042c15582d07e", func := "horologe/horologelaw22.KissFails", spec := "kissFails", inPlace := ["internal/bytealg.IndexByteString", "internal/bytealg.IndexString", "internal/abi.NoEscape"], unfollowed := true, recurses := true, named := ["unicode/utf8.first", "unicode/utf8.acceptRanges", "internal/bytealg.MaxLen"], apart := false, laid := [("unicode/utf8.acceptRanges", laid_unicode_utf8_acceptRanges), ("unicode/utf8.first", laid_unicode_utf8_first)] }
def KissFailsSaid : Prop := kissFailsRow.holds Tryd.pinned (OpenSpec.ofChange kissFailsSpec)

/-- ITS FALSE NEIGHBOUR: 'it returns false'. Refute it at one input. -/
def kissFailsWrong : ChangeSpec := { name := "kissFails", fn := fun _ => fun
  | [d] => { results := [.lit (.bool false)], args := [d] }
  | _ => none }
def KissFailsWrongFalsely : Prop := kissFailsRow.holds Tryd.pinned (OpenSpec.ofChange kissFailsWrong)

/-- 'horologelaw22.KissTexts': WHATEVER THE INPUT: true; the input reads as it did. -/
def kissTextsSpec : ChangeSpec := { name := "kissTexts", fn := fun _ => fun
  | [d1, d2] => { results := [.lit (.bool true)], args := [d1, d2] }
  | _ => none }
def kissTextsRow : OpenClaim := { program := "ytajgnbhcgfgjjaadoor", sum := "4a06b676a2ee99dd92704fb16a90233b088b55ca15b1d39a08f042c15582d07e", func := "horologe/horologelaw22.KissTexts", spec := "kissTexts", inPlace := ["internal/bytealg.IndexByteString", "internal/bytealg.IndexString", "internal/abi.NoEscape"], unfollowed := true, recurses := true, named := ["unicode/utf8.first", "unicode/utf8.acceptRanges", "internal/bytealg.MaxLen"], apart := false, laid := [("unicode/utf8.acceptRanges", laid_unicode_utf8_acceptRanges), ("unicode/utf8.first", laid_unicode_utf8_first)] }
def KissTextsSaid : Prop := kissTextsRow.holds Tryd.pinned (OpenSpec.ofChange kissTextsSpec)

/-- ITS FALSE NEIGHBOUR: 'it returns false'. Refute it at one input. -/
def kissTextsWrong : ChangeSpec := { name := "kissTexts", fn := fun _ => fun
  | [d1, d2] => { results := [.lit (.bool false)], args := [d1, d2] }
  | _ => none }
def KissTextsWrongFalsely : Prop := kissTextsRow.holds Tryd.pinned (OpenSpec.ofChange kissTextsWrong)

/-- 'horologelaw22.KissOne': WHATEVER THE INPUT: true; the input reads as it did. -/
def kissOneSpec : ChangeSpec := { name := "kissOne", fn := fun _ => fun
  | [d1, d2, d3, d4, d5, d6] => { results := [.lit (.bool true)], args := [d1, d2, d3, d4, d5, d6] }
  | _ => none }
def kissOneRow : OpenClaim := { program := "ytajgnbhcgfgjjaadoor", sum := "4a06b676a2ee99dd92704fb16a90233b088b55ca15b1d39a08f042c15582d07e", func := "horologe/horologelaw22.KissOne", spec := "kissOne", inPlace := ["internal/bytealg.IndexByteString", "internal/bytealg.IndexString", "internal/abi.NoEscape"], unfollowed := true, recurses := true, named := ["unicode/utf8.first", "unicode/utf8.acceptRanges", "internal/bytealg.MaxLen"], apart := false, laid := [("unicode/utf8.acceptRanges", laid_unicode_utf8_acceptRanges), ("unicode/utf8.first", laid_unicode_utf8_first)] }
def KissOneSaid : Prop := kissOneRow.holds Tryd.pinned (OpenSpec.ofChange kissOneSpec)

/-- ITS FALSE NEIGHBOUR: 'it returns false'. Refute it at one input. -/
def kissOneWrong : ChangeSpec := { name := "kissOne", fn := fun _ => fun
  | [d1, d2, d3, d4, d5, d6] => { results := [.lit (.bool false)], args := [d1, d2, d3, d4, d5, d6] }
  | _ => none }
def KissOneWrongFalsely : Prop := kissOneRow.holds Tryd.pinned (OpenSpec.ofChange kissOneWrong)

/-- 'horologelaw22.KissKnown': WHATEVER THE INPUT: true; the input reads as it did. -/
def kissKnownSpec : ChangeSpec := { name := "kissKnown", fn := fun _ => fun
  | [] => { results := [.lit (.bool true)], args := [] }
  | _ => none }
def kissKnownRow : OpenClaim := { program := "ytajgnbhcgfgjjaadoor", sum := "4a06b676a2ee99dd92704fb16a90233b088b55ca15b1d39a08f042c15582d07e", func := "horologe/horologelaw22.KissKnown", spec := "kissKnown", inPlace := ["internal/bytealg.IndexByteString", "internal/bytealg.IndexString", "internal/abi.NoEscape"], unfollowed := true, recurses := true, named := ["unicode/utf8.first", "unicode/utf8.acceptRanges", "internal/bytealg.MaxLen"], apart := false, laid := [("unicode/utf8.acceptRanges", laid_unicode_utf8_acceptRanges), ("unicode/utf8.first", laid_unicode_utf8_first)] }
def KissKnownSaid : Prop := kissKnownRow.holds Tryd.pinned (OpenSpec.ofChange kissKnownSpec)

/-- ITS FALSE NEIGHBOUR: 'it returns false'. Refute it at one input. -/
def kissKnownWrong : ChangeSpec := { name := "kissKnown", fn := fun _ => fun
  | [] => { results := [.lit (.bool false)], args := [] }
  | _ => none }
def KissKnownWrongFalsely : Prop := kissKnownRow.holds Tryd.pinned (OpenSpec.ofChange kissKnownWrong)

/-- 'horologelaw22.KissCodes': WHATEVER THE INPUT: true; the input reads as it did. -/
def kissCodesSpec : ChangeSpec := { name := "kissCodes", fn := fun _ => fun
  | [d1, d2] => { results := [.lit (.bool true)], args := [d1, d2] }
  | _ => none }
def kissCodesRow : OpenClaim := { program := "ytajgnbhcgfgjjaadoor", sum := "4a06b676a2ee99dd92704fb16a90233b088b55ca15b1d39a08f042c15582d07e", func := "horologe/horologelaw22.KissCodes", spec := "kissCodes", inPlace := ["internal/bytealg.IndexByteString", "internal/bytealg.IndexString", "internal/abi.NoEscape"], unfollowed := true, recurses := true, named := ["unicode/utf8.first", "unicode/utf8.acceptRanges", "internal/bytealg.MaxLen"], apart := false, laid := [("unicode/utf8.acceptRanges", laid_unicode_utf8_acceptRanges), ("unicode/utf8.first", laid_unicode_utf8_first)] }
def KissCodesSaid : Prop := kissCodesRow.holds Tryd.pinned (OpenSpec.ofChange kissCodesSpec)

/-- ITS FALSE NEIGHBOUR: 'it returns false'. Refute it at one input. -/
def kissCodesWrong : ChangeSpec := { name := "kissCodes", fn := fun _ => fun
  | [d1, d2] => { results := [.lit (.bool false)], args := [d1, d2] }
  | _ => none }
def KissCodesWrongFalsely : Prop := kissCodesRow.holds Tryd.pinned (OpenSpec.ofChange kissCodesWrong)

/- THE SECOND FORM. 'bulk': how many values and letters a reading holds, each counted each time it is reached (what is shared counts as often as it is met; a slice's spare places count too). A statement '..UptoSaid' is the law's where the arguments, and the package variables that the reading takes, are together of bulk at most 1048576: NARROWER than '..Said'. Prove '..Said' where nothing that the law and all that it calls make is longer than what came in: it says more and counts as full. Else prove '..UptoSaid'. A law counts once. -/
mutual
def uptoBulk {H : Type} : DataW H → Nat
  | .lit (.string bytes) => bytes.length + 1
  | .lit _ => 1
  | .nil => 1
  | .ptr d => uptoBulk d + 1
  | .slice elems spare => uptoBulkAll elems + uptoBulkAll spare + 1
  | .agg parts => uptoBulkAll parts + 1
  | .iface _ d => uptoBulk d + 1
  | .map entries => uptoBulkEntries entries + 1
  | .held _ => 1
def uptoBulkAll {H : Type} : List (DataW H) → Nat
  | [] => 0
  | d :: r => uptoBulk d + uptoBulkAll r
def uptoBulkEntries {H : Type} : List (Lit × DataW H) → Nat
  | [] => 0
  | x :: r => uptoBulkEntry x + uptoBulkEntries r
def uptoBulkEntry {H : Type} : Lit × DataW H → Nat
  | (.string bytes, d) => bytes.length + uptoBulk d + 1
  | (_, d) => uptoBulk d + 1
 end
def uptoSmall : (H : Type) → List (DataW H) → Bool := fun _ ds => decide (uptoBulkAll ds ≤ 1048576)
def OpenSpec.upto (s : _root_.Go.ChangeSpec) : _root_.Go.OpenSpec := { _root_.Go.OpenSpec.ofChange s with cond := some uptoSmall }

/-- 'horologelaw22.KissFails', WHERE WHAT IT READS IS OF BULK AT MOST 1048576: true; the input reads as it did. -/
def kissFailsUptoRow : OpenClaim := { program := "ytajgnbhcgfgjjaadoor", sum := "4a06b676a2ee99dd92704fb16a90233b088b55ca15b1d39a08f042c15582d07e", func := "horologe/horologelaw22.KissFails", spec := "kissFails", inPlace := ["internal/bytealg.IndexByteString", "internal/bytealg.IndexString", "internal/abi.NoEscape"], unfollowed := true, recurses := true, named := ["unicode/utf8.first", "unicode/utf8.acceptRanges", "internal/bytealg.MaxLen"], apart := false, laid := [("unicode/utf8.acceptRanges", laid_unicode_utf8_acceptRanges), ("unicode/utf8.first", laid_unicode_utf8_first)], narrowed := true }
def KissFailsUptoSaid : Prop := kissFailsUptoRow.holds Tryd.pinned (OpenSpec.upto kissFailsSpec)

/-- 'horologelaw22.KissTexts', WHERE WHAT IT READS IS OF BULK AT MOST 1048576: true; the input reads as it did. -/
def kissTextsUptoRow : OpenClaim := { program := "ytajgnbhcgfgjjaadoor", sum := "4a06b676a2ee99dd92704fb16a90233b088b55ca15b1d39a08f042c15582d07e", func := "horologe/horologelaw22.KissTexts", spec := "kissTexts", inPlace := ["internal/bytealg.IndexByteString", "internal/bytealg.IndexString", "internal/abi.NoEscape"], unfollowed := true, recurses := true, named := ["unicode/utf8.first", "unicode/utf8.acceptRanges", "internal/bytealg.MaxLen"], apart := false, laid := [("unicode/utf8.acceptRanges", laid_unicode_utf8_acceptRanges), ("unicode/utf8.first", laid_unicode_utf8_first)], narrowed := true }
def KissTextsUptoSaid : Prop := kissTextsUptoRow.holds Tryd.pinned (OpenSpec.upto kissTextsSpec)

/-- 'horologelaw22.KissOne', WHERE WHAT IT READS IS OF BULK AT MOST 1048576: true; the input reads as it did. -/
def kissOneUptoRow : OpenClaim := { program := "ytajgnbhcgfgjjaadoor", sum := "4a06b676a2ee99dd92704fb16a90233b088b55ca15b1d39a08f042c15582d07e", func := "horologe/horologelaw22.KissOne", spec := "kissOne", inPlace := ["internal/bytealg.IndexByteString", "internal/bytealg.IndexString", "internal/abi.NoEscape"], unfollowed := true, recurses := true, named := ["unicode/utf8.first", "unicode/utf8.acceptRanges", "internal/bytealg.MaxLen"], apart := false, laid := [("unicode/utf8.acceptRanges", laid_unicode_utf8_acceptRanges), ("unicode/utf8.first", laid_unicode_utf8_first)], narrowed := true }
def KissOneUptoSaid : Prop := kissOneUptoRow.holds Tryd.pinned (OpenSpec.upto kissOneSpec)

/-- 'horologelaw22.KissKnown', WHERE WHAT IT READS IS OF BULK AT MOST 1048576: true; the input reads as it did. -/
def kissKnownUptoRow : OpenClaim := { program := "ytajgnbhcgfgjjaadoor", sum := "4a06b676a2ee99dd92704fb16a90233b088b55ca15b1d39a08f042c15582d07e", func := "horologe/horologelaw22.KissKnown", spec := "kissKnown", inPlace := ["internal/bytealg.IndexByteString", "internal/bytealg.IndexString", "internal/abi.NoEscape"], unfollowed := true, recurses := true, named := ["unicode/utf8.first", "unicode/utf8.acceptRanges", "internal/bytealg.MaxLen"], apart := false, laid := [("unicode/utf8.acceptRanges", laid_unicode_utf8_acceptRanges), ("unicode/utf8.first", laid_unicode_utf8_first)], narrowed := true }
def KissKnownUptoSaid : Prop := kissKnownUptoRow.holds Tryd.pinned (OpenSpec.upto kissKnownSpec)

/-- 'horologelaw22.KissCodes', WHERE WHAT IT READS IS OF BULK AT MOST 1048576: true; the input reads as it did. -/
def kissCodesUptoRow : OpenClaim := { program := "ytajgnbhcgfgjjaadoor", sum := "4a06b676a2ee99dd92704fb16a90233b088b55ca15b1d39a08f042c15582d07e", func := "horologe/horologelaw22.KissCodes", spec := "kissCodes", inPlace := ["internal/bytealg.IndexByteString", "internal/bytealg.IndexString", "internal/abi.NoEscape"], unfollowed := true, recurses := true, named := ["unicode/utf8.first", "unicode/utf8.acceptRanges", "internal/bytealg.MaxLen"], apart := false, laid := [("unicode/utf8.acceptRanges", laid_unicode_utf8_acceptRanges), ("unicode/utf8.first", laid_unicode_utf8_first)], narrowed := true }
def KissCodesUptoSaid : Prop := kissCodesUptoRow.holds Tryd.pinned (OpenSpec.upto kissCodesSpec)

end Rows
end Go.Proofs.YtajgnbhcgfgjjaaDoor
