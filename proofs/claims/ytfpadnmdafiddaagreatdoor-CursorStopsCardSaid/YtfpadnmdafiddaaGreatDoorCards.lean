/-
  DERIVED. GIVEN WITH THE SEED: THE CARDS: each row of YtfpadnmdafiddaaGreatDoorRows.lean that lists a variable, with what it lists TIED to the program's text (the seventh form; the later family's looks); each row that meets fmt, with fmt's text TOLD by the authors' own Lean function (tested against real Go, not proved from fmt's source: count such statements apart). THE CARD IS WHAT COUNTS. Prove the row's statement (the work); the ties are given (YtfpadnmdafiddaaGreatDoorTie.lean); close each card by the builder's one call (the guide's Derived/Test/ToyasCard.lean, 'card_holds'). Laid BY PROGRAM, IN A SANDBOX (cutbox-door.mjs). By AI agents, Wed Nov 11 2026. No macro, syntax, notation, axiom, sorry.
-/
import Derived.Test.YtfpadnmdafiddaaGreatDoorRows
import GoSem.ClaimSeven
namespace Go.Proofs.YtfpadnmdafiddaaGreatDoor
namespace Rows

/-- THE TIED CARD OF 'headwaterlaw12.TreeOrders'. -/
def treeOrdersCard : Claim7 := { stood := { row := treeOrdersRow, standIns := [], harness := (true, "6f6d30f61290dc203a023b6014750139306276d3a10cb5c46fac12e22161d000"), looks := true }, kinds := [], alts := [], laidByText := true, laidKinds := [.data], laidTests := true, laidLooks := .later }
def TreeOrdersCardSaid : Prop := Claim7.holds Tryz.pinned (.plain (OpenSpec.ofChange treeOrdersSpec)) treeOrdersCard

/-- THE TIED CARD OF 'headwaterlaw12.TreeHolds'. -/
def treeHoldsCard : Claim7 := { stood := { row := treeHoldsRow, standIns := [], harness := (true, "6f6d30f61290dc203a023b6014750139306276d3a10cb5c46fac12e22161d000"), looks := true }, kinds := [], alts := [], laidByText := true, laidKinds := [.data], laidTests := true, laidLooks := .later }
def TreeHoldsCardSaid : Prop := Claim7.holds Tryz.pinned (.plain (OpenSpec.ofChange treeHoldsSpec)) treeHoldsCard

/-- THE TIED CARD OF 'headwaterlaw12.TreeTakes'. -/
def treeTakesCard : Claim7 := { stood := { row := treeTakesRow, standIns := [], harness := (true, "6f6d30f61290dc203a023b6014750139306276d3a10cb5c46fac12e22161d000"), looks := true }, kinds := [], alts := [], laidByText := true, laidKinds := [.data], laidTests := true, laidLooks := .later }
def TreeTakesCardSaid : Prop := Claim7.holds Tryz.pinned (.plain (OpenSpec.ofChange treeTakesSpec)) treeTakesCard

/-- THE TIED CARD OF 'headwaterlaw12.TreeScript'. -/
def treeScriptCard : Claim7 := { stood := { row := treeScriptRow, standIns := [], harness := (true, "6f6d30f61290dc203a023b6014750139306276d3a10cb5c46fac12e22161d000"), looks := true }, kinds := [], alts := [], laidByText := true, laidKinds := [.data], laidTests := true, laidLooks := .later }
def TreeScriptCardSaid : Prop := Claim7.holds Tryz.pinned (.plain (OpenSpec.ofChange treeScriptSpec)) treeScriptCard

/-- THE TIED CARD OF 'headwaterlaw12.TreeStrange'. -/
def treeStrangeCard : Claim7 := { stood := { row := treeStrangeRow, standIns := [], harness := (true, "6f6d30f61290dc203a023b6014750139306276d3a10cb5c46fac12e22161d000"), looks := true }, kinds := [], alts := [], laidByText := true, laidKinds := [.data], laidTests := true, laidLooks := .later }
def TreeStrangeCardSaid : Prop := Claim7.holds Tryz.pinned (.plain (OpenSpec.ofChange treeStrangeSpec)) treeStrangeCard

/-- THE TIED CARD OF 'headwaterlaw13.CursorStops'. -/
def cursorStopsCard : Claim7 := { stood := { row := cursorStopsRow, standIns := [], harness := (true, "6f6d30f61290dc203a023b6014750139306276d3a10cb5c46fac12e22161d000"), looks := true }, kinds := [], alts := [], laidByText := true, laidKinds := [.data], laidTests := true, laidLooks := .later }
def CursorStopsCardSaid : Prop := Claim7.holds Tryz.pinned (.plain (OpenSpec.ofChange cursorStopsSpec)) cursorStopsCard

/-- THE TIED CARD OF 'headwaterlaw13.CursorRanges'. -/
def cursorRangesCard : Claim7 := { stood := { row := cursorRangesRow, standIns := [], harness := (true, "6f6d30f61290dc203a023b6014750139306276d3a10cb5c46fac12e22161d000"), looks := true }, kinds := [], alts := [], laidByText := true, laidKinds := [.data], laidTests := true, laidLooks := .later }
def CursorRangesCardSaid : Prop := Claim7.holds Tryz.pinned (.plain (OpenSpec.ofChange cursorRangesSpec)) cursorRangesCard

/-- THE TIED CARD OF 'headwaterlaw13.CursorSeeks'. -/
def cursorSeeksCard : Claim7 := { stood := { row := cursorSeeksRow, standIns := [], harness := (true, "6f6d30f61290dc203a023b6014750139306276d3a10cb5c46fac12e22161d000"), looks := true }, kinds := [], alts := [], laidByText := true, laidKinds := [.data], laidTests := true, laidLooks := .later }
def CursorSeeksCardSaid : Prop := Claim7.holds Tryz.pinned (.plain (OpenSpec.ofChange cursorSeeksSpec)) cursorSeeksCard

/-- THE TIED CARD OF 'headwaterlaw13.CursorScript'. -/
def cursorScriptCard : Claim7 := { stood := { row := cursorScriptRow, standIns := [], harness := (true, "6f6d30f61290dc203a023b6014750139306276d3a10cb5c46fac12e22161d000"), looks := true }, kinds := [], alts := [], laidByText := true, laidKinds := [.data], laidTests := true, laidLooks := .later }
def CursorScriptCardSaid : Prop := Claim7.holds Tryz.pinned (.plain (OpenSpec.ofChange cursorScriptSpec)) cursorScriptCard

/-- THE TIED CARD OF 'headwaterlaw14.VersionSweeps'. -/
def versionSweepsCard : Claim7 := { stood := { row := versionSweepsRow, standIns := [], harness := (true, "6f6d30f61290dc203a023b6014750139306276d3a10cb5c46fac12e22161d000"), looks := true }, kinds := [], alts := [], laidByText := true, laidKinds := [.data], laidTests := true, laidLooks := .later }
def VersionSweepsCardSaid : Prop := Claim7.holds Tryz.pinned (.plain (OpenSpec.ofChange versionSweepsSpec)) versionSweepsCard

/-- THE SECOND FORM's CARD OF 'headwaterlaw12.TreeOrders'. -/
def treeOrdersUptoCard : Claim7 := { stood := { row := treeOrdersUptoRow, standIns := [], harness := (true, "6f6d30f61290dc203a023b6014750139306276d3a10cb5c46fac12e22161d000"), looks := true }, kinds := [], alts := [], laidByText := true, laidKinds := [.data], laidTests := true, laidLooks := .later }
def TreeOrdersUptoCardSaid : Prop := Claim7.holds Tryz.pinned (.plain (OpenSpec.upto treeOrdersSpec)) treeOrdersUptoCard

/-- THE SECOND FORM's CARD OF 'headwaterlaw12.TreeHolds'. -/
def treeHoldsUptoCard : Claim7 := { stood := { row := treeHoldsUptoRow, standIns := [], harness := (true, "6f6d30f61290dc203a023b6014750139306276d3a10cb5c46fac12e22161d000"), looks := true }, kinds := [], alts := [], laidByText := true, laidKinds := [.data], laidTests := true, laidLooks := .later }
def TreeHoldsUptoCardSaid : Prop := Claim7.holds Tryz.pinned (.plain (OpenSpec.upto treeHoldsSpec)) treeHoldsUptoCard

/-- THE SECOND FORM's CARD OF 'headwaterlaw12.TreeTakes'. -/
def treeTakesUptoCard : Claim7 := { stood := { row := treeTakesUptoRow, standIns := [], harness := (true, "6f6d30f61290dc203a023b6014750139306276d3a10cb5c46fac12e22161d000"), looks := true }, kinds := [], alts := [], laidByText := true, laidKinds := [.data], laidTests := true, laidLooks := .later }
def TreeTakesUptoCardSaid : Prop := Claim7.holds Tryz.pinned (.plain (OpenSpec.upto treeTakesSpec)) treeTakesUptoCard

/-- THE SECOND FORM's CARD OF 'headwaterlaw12.TreeScript'. -/
def treeScriptUptoCard : Claim7 := { stood := { row := treeScriptUptoRow, standIns := [], harness := (true, "6f6d30f61290dc203a023b6014750139306276d3a10cb5c46fac12e22161d000"), looks := true }, kinds := [], alts := [], laidByText := true, laidKinds := [.data], laidTests := true, laidLooks := .later }
def TreeScriptUptoCardSaid : Prop := Claim7.holds Tryz.pinned (.plain (OpenSpec.upto treeScriptSpec)) treeScriptUptoCard

/-- THE SECOND FORM's CARD OF 'headwaterlaw12.TreeStrange'. -/
def treeStrangeUptoCard : Claim7 := { stood := { row := treeStrangeUptoRow, standIns := [], harness := (true, "6f6d30f61290dc203a023b6014750139306276d3a10cb5c46fac12e22161d000"), looks := true }, kinds := [], alts := [], laidByText := true, laidKinds := [.data], laidTests := true, laidLooks := .later }
def TreeStrangeUptoCardSaid : Prop := Claim7.holds Tryz.pinned (.plain (OpenSpec.upto treeStrangeSpec)) treeStrangeUptoCard

/-- THE SECOND FORM's CARD OF 'headwaterlaw13.CursorStops'. -/
def cursorStopsUptoCard : Claim7 := { stood := { row := cursorStopsUptoRow, standIns := [], harness := (true, "6f6d30f61290dc203a023b6014750139306276d3a10cb5c46fac12e22161d000"), looks := true }, kinds := [], alts := [], laidByText := true, laidKinds := [.data], laidTests := true, laidLooks := .later }
def CursorStopsUptoCardSaid : Prop := Claim7.holds Tryz.pinned (.plain (OpenSpec.upto cursorStopsSpec)) cursorStopsUptoCard

/-- THE SECOND FORM's CARD OF 'headwaterlaw13.CursorRanges'. -/
def cursorRangesUptoCard : Claim7 := { stood := { row := cursorRangesUptoRow, standIns := [], harness := (true, "6f6d30f61290dc203a023b6014750139306276d3a10cb5c46fac12e22161d000"), looks := true }, kinds := [], alts := [], laidByText := true, laidKinds := [.data], laidTests := true, laidLooks := .later }
def CursorRangesUptoCardSaid : Prop := Claim7.holds Tryz.pinned (.plain (OpenSpec.upto cursorRangesSpec)) cursorRangesUptoCard

/-- THE SECOND FORM's CARD OF 'headwaterlaw13.CursorSeeks'. -/
def cursorSeeksUptoCard : Claim7 := { stood := { row := cursorSeeksUptoRow, standIns := [], harness := (true, "6f6d30f61290dc203a023b6014750139306276d3a10cb5c46fac12e22161d000"), looks := true }, kinds := [], alts := [], laidByText := true, laidKinds := [.data], laidTests := true, laidLooks := .later }
def CursorSeeksUptoCardSaid : Prop := Claim7.holds Tryz.pinned (.plain (OpenSpec.upto cursorSeeksSpec)) cursorSeeksUptoCard

/-- THE SECOND FORM's CARD OF 'headwaterlaw13.CursorScript'. -/
def cursorScriptUptoCard : Claim7 := { stood := { row := cursorScriptUptoRow, standIns := [], harness := (true, "6f6d30f61290dc203a023b6014750139306276d3a10cb5c46fac12e22161d000"), looks := true }, kinds := [], alts := [], laidByText := true, laidKinds := [.data], laidTests := true, laidLooks := .later }
def CursorScriptUptoCardSaid : Prop := Claim7.holds Tryz.pinned (.plain (OpenSpec.upto cursorScriptSpec)) cursorScriptUptoCard

/-- THE SECOND FORM's CARD OF 'headwaterlaw14.VersionSweeps'. -/
def versionSweepsUptoCard : Claim7 := { stood := { row := versionSweepsUptoRow, standIns := [], harness := (true, "6f6d30f61290dc203a023b6014750139306276d3a10cb5c46fac12e22161d000"), looks := true }, kinds := [], alts := [], laidByText := true, laidKinds := [.data], laidTests := true, laidLooks := .later }
def VersionSweepsUptoCardSaid : Prop := Claim7.holds Tryz.pinned (.plain (OpenSpec.upto versionSweepsSpec)) versionSweepsUptoCard
end Rows
end Go.Proofs.YtfpadnmdafiddaaGreatDoor
