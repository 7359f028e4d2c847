/-
  DERIVED. GIVEN WITH THE SEED: THE CARDS: each row of YtoldjgmcoekchaaGreatDoorRows.lean that lists a variable, with what it lists TIED to the program's text (the seventh form; the later family's looks); each row that meets fmt, with fmt's text TOLD by the authors' own Lean function (tested against real Go, not proved from fmt's source: count such statements apart). THE CARD IS WHAT COUNTS. Prove the row's statement (the work); the ties are given (YtoldjgmcoekchaaGreatDoorTie.lean); close each card by the builder's one call (the guide's Derived/Test/ToyasCard.lean, 'card_holds'). Laid BY PROGRAM, IN A SANDBOX (cutbox-door.mjs). By AI agents, Wed Nov 11 2026. No macro, syntax, notation, axiom, sorry.
-/
import Derived.Test.YtoldjgmcoekchaaGreatDoorRows
import GoSem.ClaimSeven
namespace Go.Proofs.YtoldjgmcoekchaaGreatDoor
namespace Rows

/-- THE TIED CARD OF 'headwaterlaw23.ViewNames'. -/
def viewNamesCard : Claim7 := { stood := { row := viewNamesRow, standIns := [], harness := (true, "416ae3b346d7dd83d882899f497c55ab1bc8c83335c125088f6e2f61312f0893"), looks := true }, kinds := [], alts := [], laidByText := true, laidKinds := [.data], laidTests := true, laidLooks := .later }
def ViewNamesCardSaid : Prop := Claim7.holds Tryz.pinned (.plain (OpenSpec.ofChange viewNamesSpec)) viewNamesCard

/-- THE TIED CARD OF 'headwaterlaw23.ViewNil'. -/
def viewNilCard : Claim7 := { stood := { row := viewNilRow, standIns := [], harness := (true, "416ae3b346d7dd83d882899f497c55ab1bc8c83335c125088f6e2f61312f0893"), looks := true }, kinds := [], alts := [], laidByText := true, laidKinds := [.data], laidTests := true, laidLooks := .later }
def ViewNilCardSaid : Prop := Claim7.holds Tryz.pinned (.plain (OpenSpec.ofChange viewNilSpec)) viewNilCard

/-- THE SECOND FORM's CARD OF 'headwaterlaw23.ViewNames'. -/
def viewNamesUptoCard : Claim7 := { stood := { row := viewNamesUptoRow, standIns := [], harness := (true, "416ae3b346d7dd83d882899f497c55ab1bc8c83335c125088f6e2f61312f0893"), looks := true }, kinds := [], alts := [], laidByText := true, laidKinds := [.data], laidTests := true, laidLooks := .later }
def ViewNamesUptoCardSaid : Prop := Claim7.holds Tryz.pinned (.plain (OpenSpec.upto viewNamesSpec)) viewNamesUptoCard

/-- THE SECOND FORM's CARD OF 'headwaterlaw23.ViewNil'. -/
def viewNilUptoCard : Claim7 := { stood := { row := viewNilUptoRow, standIns := [], harness := (true, "416ae3b346d7dd83d882899f497c55ab1bc8c83335c125088f6e2f61312f0893"), looks := true }, kinds := [], alts := [], laidByText := true, laidKinds := [.data], laidTests := true, laidLooks := .later }
def ViewNilUptoCardSaid : Prop := Claim7.holds Tryz.pinned (.plain (OpenSpec.upto viewNilSpec)) viewNilUptoCard
end Rows
end Go.Proofs.YtoldjgmcoekchaaGreatDoor
