/-
  DERIVED. GIVEN WITH THE SEED: THE CARDS: each row of YtcknpgenfhlcmaaDoorRows.lean that lists a variable, with what it lists TIED to the program's text (the seventh form; the later family's looks); each row that meets fmt, with fmt's text TOLD by the authors' own Lean function (tested against real Go, not proved from fmt's source: count such statements apart). THE CARD IS WHAT COUNTS. Prove the row's statement (the work); the ties are given (YtcknpgenfhlcmaaDoorTie.lean); close each card by the builder's one call (the guide's Derived/Test/ToyasCard.lean, 'card_holds'). Laid BY PROGRAM, IN A SANDBOX (cutbox-door.mjs). By AI agents, Wed Nov 11 2026. No macro, syntax, notation, axiom, sorry.
-/
import Derived.Test.YtcknpgenfhlcmaaDoorRows
import GoSem.ClaimSeven
namespace Go.Proofs.YtcknpgenfhlcmaaDoor
namespace Rows

/-- THE TIED CARD OF 'ratchettop.WholeLayouts'. -/
def wholeLayoutsCard : Claim7 := { stood := { row := wholeLayoutsRow, standIns := [], harness := (true, "544b2f98212d4ac7ec9b8cb1f67daaeb1d55bafa08c52acc21858a6839da5c2d"), looks := true }, kinds := [], alts := [], laidByText := true, laidKinds := [.listed, .data], laidTests := true, laidLooks := .later }
def WholeLayoutsCardSaid : Prop := Claim7.holds Tryd.pinned (.plain (OpenSpec.ofChange wholeLayoutsSpec)) wholeLayoutsCard

/-- THE TIED CARD OF 'ratchettop.WholeNumbers'. -/
def wholeNumbersCard : Claim7 := { stood := { row := wholeNumbersRow, standIns := [], harness := (true, "544b2f98212d4ac7ec9b8cb1f67daaeb1d55bafa08c52acc21858a6839da5c2d"), looks := true }, kinds := [], alts := [], laidByText := true, laidKinds := [.listed, .data], laidTests := true, laidLooks := .later }
def WholeNumbersCardSaid : Prop := Claim7.holds Tryd.pinned (.plain (OpenSpec.ofChange wholeNumbersSpec)) wholeNumbersCard

/-- THE TIED CARD OF 'ratchettop.WholeCursors'. -/
def wholeCursorsCard : Claim7 := { stood := { row := wholeCursorsRow, standIns := [], harness := (true, "544b2f98212d4ac7ec9b8cb1f67daaeb1d55bafa08c52acc21858a6839da5c2d"), looks := true }, kinds := [], alts := [], laidByText := true, laidKinds := [.listed, .data], laidTests := true, laidLooks := .later }
def WholeCursorsCardSaid : Prop := Claim7.holds Tryd.pinned (.plain (OpenSpec.ofChange wholeCursorsSpec)) wholeCursorsCard

/-- THE TIED CARD OF 'ratchettop.WholeSections'. -/
def wholeSectionsCard : Claim7 := { stood := { row := wholeSectionsRow, standIns := [], harness := (true, "544b2f98212d4ac7ec9b8cb1f67daaeb1d55bafa08c52acc21858a6839da5c2d"), looks := true }, kinds := [], alts := [], laidByText := true, laidKinds := [.data, .listed, .data, .data, .pinned], laidTests := true, laidLooks := .later }
def WholeSectionsCardSaid : Prop := Claim7.holds Tryd.pinned (.plain (OpenSpec.ofChange wholeSectionsSpec)) wholeSectionsCard

/-- THE SECOND FORM's CARD OF 'ratchettop.WholeLayouts'. -/
def wholeLayoutsUptoCard : Claim7 := { stood := { row := wholeLayoutsUptoRow, standIns := [], harness := (true, "544b2f98212d4ac7ec9b8cb1f67daaeb1d55bafa08c52acc21858a6839da5c2d"), looks := true }, kinds := [], alts := [], laidByText := true, laidKinds := [.listed, .data], laidTests := true, laidLooks := .later }
def WholeLayoutsUptoCardSaid : Prop := Claim7.holds Tryd.pinned (.plain (OpenSpec.upto wholeLayoutsSpec)) wholeLayoutsUptoCard

/-- THE SECOND FORM's CARD OF 'ratchettop.WholeNumbers'. -/
def wholeNumbersUptoCard : Claim7 := { stood := { row := wholeNumbersUptoRow, standIns := [], harness := (true, "544b2f98212d4ac7ec9b8cb1f67daaeb1d55bafa08c52acc21858a6839da5c2d"), looks := true }, kinds := [], alts := [], laidByText := true, laidKinds := [.listed, .data], laidTests := true, laidLooks := .later }
def WholeNumbersUptoCardSaid : Prop := Claim7.holds Tryd.pinned (.plain (OpenSpec.upto wholeNumbersSpec)) wholeNumbersUptoCard

/-- THE SECOND FORM's CARD OF 'ratchettop.WholeCursors'. -/
def wholeCursorsUptoCard : Claim7 := { stood := { row := wholeCursorsUptoRow, standIns := [], harness := (true, "544b2f98212d4ac7ec9b8cb1f67daaeb1d55bafa08c52acc21858a6839da5c2d"), looks := true }, kinds := [], alts := [], laidByText := true, laidKinds := [.listed, .data], laidTests := true, laidLooks := .later }
def WholeCursorsUptoCardSaid : Prop := Claim7.holds Tryd.pinned (.plain (OpenSpec.upto wholeCursorsSpec)) wholeCursorsUptoCard

/-- THE SECOND FORM's CARD OF 'ratchettop.WholeSections'. -/
def wholeSectionsUptoCard : Claim7 := { stood := { row := wholeSectionsUptoRow, standIns := [], harness := (true, "544b2f98212d4ac7ec9b8cb1f67daaeb1d55bafa08c52acc21858a6839da5c2d"), looks := true }, kinds := [], alts := [], laidByText := true, laidKinds := [.data, .listed, .data, .data, .pinned], laidTests := true, laidLooks := .later }
def WholeSectionsUptoCardSaid : Prop := Claim7.holds Tryd.pinned (.plain (OpenSpec.upto wholeSectionsSpec)) wholeSectionsUptoCard
end Rows
end Go.Proofs.YtcknpgenfhlcmaaDoor
