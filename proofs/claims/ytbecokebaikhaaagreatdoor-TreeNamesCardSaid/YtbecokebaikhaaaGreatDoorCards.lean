/-
  DERIVED. GIVEN WITH THE SEED: THE CARDS: each row of YtbecokebaikhaaaGreatDoorRows.lean that lists a variable, with what it lists TIED to the program's text (the seventh form; the later family's looks); each row that meets fmt, with fmt's text TOLD by the authors' own Lean function (tested against real Go, not proved from fmt's source: count such statements apart). THE CARD IS WHAT COUNTS. Prove the row's statement (the work); the ties are given (YtbecokebaikhaaaGreatDoorTie.lean); close each card by the builder's one call (the guide's Derived/Test/ToyasCard.lean, 'card_holds'). Laid BY PROGRAM, IN A SANDBOX (cutbox-door.mjs). By AI agents, Wed Nov 11 2026. No macro, syntax, notation, axiom, sorry.
-/
import Derived.Test.YtbecokebaikhaaaGreatDoorRows
import GoSem.ClaimSeven
namespace Go.Proofs.YtbecokebaikhaaaGreatDoor
namespace Rows

/-- THE TIED CARD OF 'headwaterlaw13.CursorNil'. -/
def cursorNilCard : Claim7 := { stood := { row := cursorNilRow, standIns := [], harness := (true, "0073635c81f1e445232430192939681a2330ee47e1785abf461a23df7728c679"), looks := true }, kinds := [], alts := [], laidByText := true, laidKinds := [.data], laidTests := true, laidLooks := .later }
def CursorNilCardSaid : Prop := Claim7.holds Tryz.pinned (.plain (OpenSpec.ofChange cursorNilSpec)) cursorNilCard

/-- THE TIED CARD OF 'headwaterlaw13.CursorNames'. -/
def cursorNamesCard : Claim7 := { stood := { row := cursorNamesRow, standIns := [], harness := (true, "0073635c81f1e445232430192939681a2330ee47e1785abf461a23df7728c679"), looks := true }, kinds := [], alts := [], laidByText := true, laidKinds := [.data], laidTests := true, laidLooks := .later }
def CursorNamesCardSaid : Prop := Claim7.holds Tryz.pinned (.plain (OpenSpec.ofChange cursorNamesSpec)) cursorNamesCard

/-- THE TIED CARD OF 'headwaterlaw12.TreeNames'. -/
def treeNamesCard : Claim7 := { stood := { row := treeNamesRow, standIns := [], harness := (true, "0073635c81f1e445232430192939681a2330ee47e1785abf461a23df7728c679"), looks := true }, kinds := [], alts := [], laidByText := true, laidKinds := [.data], laidTests := true, laidLooks := .later }
def TreeNamesCardSaid : Prop := Claim7.holds Tryz.pinned (.plain (OpenSpec.ofChange treeNamesSpec)) treeNamesCard

/-- THE SECOND FORM's CARD OF 'headwaterlaw13.CursorNil'. -/
def cursorNilUptoCard : Claim7 := { stood := { row := cursorNilUptoRow, standIns := [], harness := (true, "0073635c81f1e445232430192939681a2330ee47e1785abf461a23df7728c679"), looks := true }, kinds := [], alts := [], laidByText := true, laidKinds := [.data], laidTests := true, laidLooks := .later }
def CursorNilUptoCardSaid : Prop := Claim7.holds Tryz.pinned (.plain (OpenSpec.upto cursorNilSpec)) cursorNilUptoCard

/-- THE SECOND FORM's CARD OF 'headwaterlaw13.CursorNames'. -/
def cursorNamesUptoCard : Claim7 := { stood := { row := cursorNamesUptoRow, standIns := [], harness := (true, "0073635c81f1e445232430192939681a2330ee47e1785abf461a23df7728c679"), looks := true }, kinds := [], alts := [], laidByText := true, laidKinds := [.data], laidTests := true, laidLooks := .later }
def CursorNamesUptoCardSaid : Prop := Claim7.holds Tryz.pinned (.plain (OpenSpec.upto cursorNamesSpec)) cursorNamesUptoCard

/-- THE SECOND FORM's CARD OF 'headwaterlaw12.TreeNames'. -/
def treeNamesUptoCard : Claim7 := { stood := { row := treeNamesUptoRow, standIns := [], harness := (true, "0073635c81f1e445232430192939681a2330ee47e1785abf461a23df7728c679"), looks := true }, kinds := [], alts := [], laidByText := true, laidKinds := [.data], laidTests := true, laidLooks := .later }
def TreeNamesUptoCardSaid : Prop := Claim7.holds Tryz.pinned (.plain (OpenSpec.upto treeNamesSpec)) treeNamesUptoCard
end Rows
end Go.Proofs.YtbecokebaikhaaaGreatDoor
