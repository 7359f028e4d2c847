/-
  NARROWER THAN 'FOR EVERY INPUT', by the rows' own cells (each row's printed sentence says how): TreeOrders: laid · TreeHolds: laid · TreeTakes: laid · TreeScript: laid · TreeStrange: laid · CursorStops: laid · CursorRanges: laid · CursorSeeks: laid · CursorScript: laid · VersionSweeps: laid.
  DERIVED. THE GIVEN ROWS OF THIS SEAT. 10 by the template 'for every input the law returns true; each argument reads behind the call as it read before'; 0 by the template 'total and deterministic' (their statements: YtfpadnmdafiddaaGreatDoorTotals.lean).
  GIVEN WITH THE SEED: the statements are not yours to turn. If you find one false, say at which input.
  Laid BY PROGRAM, IN A SANDBOX (cutbox-rows.mjs): the forced cells as the released guide's own fill.sh prints them over the translation 828a7f1f07618f7b… (all of the seat's roots in one cut). By AI agents, Wed Nov 11 2026. No macro, syntax, notation, axiom, sorry.
-/
import Derived.Test.YtfpadnmdafiddaaGreatDoorChecked
import GoSem.Claim
import GoSem.ClaimJoined
import GoSem.ClaimMapViews
import Derived.JoinedTies
import Derived.KernelRfl
namespace Go.Proofs.YtfpadnmdafiddaaGreatDoor
/- THE CELL 'sum', in the pinned program and in every row, IS THE sha256 OF THE DUMP (.gsa) THAT YtfpadnmdafiddaaGreatDoorProg.lean LOADS. Nothing in Lean hashes anything: it is a label: what it is worth is what the hold of that sum in a sandbox is worth. -/
noncomputable def Tryz.pinned : Pinned := { name := "ytfpadnmdafiddaagreatdoor", sum := "828a7f1f07618f7baa463a26a302299c8e72d5c6da6bd6833f87a1d93fbb4f4c", checked := Tryz.checked }
namespace Rows
def none {H : Type} : Left H := { results := [], args := [] }

/- WHAT THE LISTED PACKAGE-LEVEL VARIABLES READ AS WHEN THE CALL BEGINS. Each datum BY PROGRAM (the guide's laid-datum.mjs) off the statement by which the dump's own 'gosem.cut.vars' lays the variable. In a bare row this is a premise. The card (YtfpadnmdafiddaaGreatDoorCards.lean) ties it to the program's text. -/
def laid_math_bits_deBruijn64tab {H : Type} : DataW H := .agg [.lit (.int .u8 0), .lit (.int .u8 1), .lit (.int .u8 56), .lit (.int .u8 2), .lit (.int .u8 57), .lit (.int .u8 49), .lit (.int .u8 28), .lit (.int .u8 3), .lit (.int .u8 61), .lit (.int .u8 58), .lit (.int .u8 42), .lit (.int .u8 50), .lit (.int .u8 38), .lit (.int .u8 29), .lit (.int .u8 17), .lit (.int .u8 4), .lit (.int .u8 62), .lit (.int .u8 47), .lit (.int .u8 59), .lit (.int .u8 36), .lit (.int .u8 45), .lit (.int .u8 43), .lit (.int .u8 51), .lit (.int .u8 22), .lit (.int .u8 53), .lit (.int .u8 39), .lit (.int .u8 33), .lit (.int .u8 30), .lit (.int .u8 24), .lit (.int .u8 18), .lit (.int .u8 12), .lit (.int .u8 5), .lit (.int .u8 63), .lit (.int .u8 55), .lit (.int .u8 48), .lit (.int .u8 27), .lit (.int .u8 60), .lit (.int .u8 41), .lit (.int .u8 37), .lit (.int .u8 16), .lit (.int .u8 46), .lit (.int .u8 35), .lit (.int .u8 44), .lit (.int .u8 21), .lit (.int .u8 52), .lit (.int .u8 32), .lit (.int .u8 23), .lit (.int .u8 11), .lit (.int .u8 54), .lit (.int .u8 26), .lit (.int .u8 40), .lit (.int .u8 15), .lit (.int .u8 34), .lit (.int .u8 20), .lit (.int .u8 31), .lit (.int .u8 10), .lit (.int .u8 25), .lit (.int .u8 14), .lit (.int .u8 19), .lit (.int .u8 9), .lit (.int .u8 13), .lit (.int .u8 8), .lit (.int .u8 7), .lit (.int .u8 6)]

/-- 'headwaterlaw12.TreeOrders': WHATEVER THE INPUT: true; the input reads as it did. -/
def treeOrdersSpec : ChangeSpec := { name := "treeOrders", fn := fun _ => fun
  | [d1, d2] => { results := [.lit (.bool true)], args := [d1, d2] }
  | _ => none }
def treeOrdersRow : OpenClaim := { program := "ytfpadnmdafiddaagreatdoor", sum := "828a7f1f07618f7baa463a26a302299c8e72d5c6da6bd6833f87a1d93fbb4f4c", func := "headwater/headwaterlaw12.TreeOrders", spec := "treeOrders", unfollowed := true, recurses := true, named := ["math/bits.deBruijn64tab"], apart := false, laid := [("math/bits.deBruijn64tab", laid_math_bits_deBruijn64tab)] }
def TreeOrdersSaid : Prop := treeOrdersRow.holds Tryz.pinned (OpenSpec.ofChange treeOrdersSpec)

/-- ITS FALSE NEIGHBOUR: 'it returns false'. Refute it at one input. -/
def treeOrdersWrong : ChangeSpec := { name := "treeOrders", fn := fun _ => fun
  | [d1, d2] => { results := [.lit (.bool false)], args := [d1, d2] }
  | _ => none }
def TreeOrdersWrongFalsely : Prop := treeOrdersRow.holds Tryz.pinned (OpenSpec.ofChange treeOrdersWrong)

/-- 'headwaterlaw12.TreeHolds': WHATEVER THE INPUT: true; the input reads as it did. -/
def treeHoldsSpec : ChangeSpec := { name := "treeHolds", fn := fun _ => fun
  | [d] => { results := [.lit (.bool true)], args := [d] }
  | _ => none }
def treeHoldsRow : OpenClaim := { program := "ytfpadnmdafiddaagreatdoor", sum := "828a7f1f07618f7baa463a26a302299c8e72d5c6da6bd6833f87a1d93fbb4f4c", func := "headwater/headwaterlaw12.TreeHolds", spec := "treeHolds", unfollowed := true, recurses := true, named := ["math/bits.deBruijn64tab"], apart := false, laid := [("math/bits.deBruijn64tab", laid_math_bits_deBruijn64tab)] }
def TreeHoldsSaid : Prop := treeHoldsRow.holds Tryz.pinned (OpenSpec.ofChange treeHoldsSpec)

/-- ITS FALSE NEIGHBOUR: 'it returns false'. Refute it at one input. -/
def treeHoldsWrong : ChangeSpec := { name := "treeHolds", fn := fun _ => fun
  | [d] => { results := [.lit (.bool false)], args := [d] }
  | _ => none }
def TreeHoldsWrongFalsely : Prop := treeHoldsRow.holds Tryz.pinned (OpenSpec.ofChange treeHoldsWrong)

/-- 'headwaterlaw12.TreeTakes': WHATEVER THE INPUT: true; the input reads as it did. -/
def treeTakesSpec : ChangeSpec := { name := "treeTakes", fn := fun _ => fun
  | [d] => { results := [.lit (.bool true)], args := [d] }
  | _ => none }
def treeTakesRow : OpenClaim := { program := "ytfpadnmdafiddaagreatdoor", sum := "828a7f1f07618f7baa463a26a302299c8e72d5c6da6bd6833f87a1d93fbb4f4c", func := "headwater/headwaterlaw12.TreeTakes", spec := "treeTakes", unfollowed := true, recurses := true, named := ["math/bits.deBruijn64tab"], apart := false, laid := [("math/bits.deBruijn64tab", laid_math_bits_deBruijn64tab)] }
def TreeTakesSaid : Prop := treeTakesRow.holds Tryz.pinned (OpenSpec.ofChange treeTakesSpec)

/-- ITS FALSE NEIGHBOUR: 'it returns false'. Refute it at one input. -/
def treeTakesWrong : ChangeSpec := { name := "treeTakes", fn := fun _ => fun
  | [d] => { results := [.lit (.bool false)], args := [d] }
  | _ => none }
def TreeTakesWrongFalsely : Prop := treeTakesRow.holds Tryz.pinned (OpenSpec.ofChange treeTakesWrong)

/-- 'headwaterlaw12.TreeScript': WHATEVER THE INPUT: true; the input reads as it did. -/
def treeScriptSpec : ChangeSpec := { name := "treeScript", fn := fun _ => fun
  | [d1, d2] => { results := [.lit (.bool true)], args := [d1, d2] }
  | _ => none }
def treeScriptRow : OpenClaim := { program := "ytfpadnmdafiddaagreatdoor", sum := "828a7f1f07618f7baa463a26a302299c8e72d5c6da6bd6833f87a1d93fbb4f4c", func := "headwater/headwaterlaw12.TreeScript", spec := "treeScript", unfollowed := true, recurses := true, named := ["math/bits.deBruijn64tab"], apart := false, laid := [("math/bits.deBruijn64tab", laid_math_bits_deBruijn64tab)] }
def TreeScriptSaid : Prop := treeScriptRow.holds Tryz.pinned (OpenSpec.ofChange treeScriptSpec)

/-- ITS FALSE NEIGHBOUR: 'it returns false'. Refute it at one input. -/
def treeScriptWrong : ChangeSpec := { name := "treeScript", fn := fun _ => fun
  | [d1, d2] => { results := [.lit (.bool false)], args := [d1, d2] }
  | _ => none }
def TreeScriptWrongFalsely : Prop := treeScriptRow.holds Tryz.pinned (OpenSpec.ofChange treeScriptWrong)

/-- 'headwaterlaw12.TreeStrange': WHATEVER THE INPUT: true; the input reads as it did. -/
def treeStrangeSpec : ChangeSpec := { name := "treeStrange", fn := fun _ => fun
  | [d1, d2, d3] => { results := [.lit (.bool true)], args := [d1, d2, d3] }
  | _ => none }
def treeStrangeRow : OpenClaim := { program := "ytfpadnmdafiddaagreatdoor", sum := "828a7f1f07618f7baa463a26a302299c8e72d5c6da6bd6833f87a1d93fbb4f4c", func := "headwater/headwaterlaw12.TreeStrange", spec := "treeStrange", unfollowed := true, recurses := true, named := ["math/bits.deBruijn64tab"], apart := false, laid := [("math/bits.deBruijn64tab", laid_math_bits_deBruijn64tab)] }
def TreeStrangeSaid : Prop := treeStrangeRow.holds Tryz.pinned (OpenSpec.ofChange treeStrangeSpec)

/-- ITS FALSE NEIGHBOUR: 'it returns false'. Refute it at one input. -/
def treeStrangeWrong : ChangeSpec := { name := "treeStrange", fn := fun _ => fun
  | [d1, d2, d3] => { results := [.lit (.bool false)], args := [d1, d2, d3] }
  | _ => none }
def TreeStrangeWrongFalsely : Prop := treeStrangeRow.holds Tryz.pinned (OpenSpec.ofChange treeStrangeWrong)

/-- 'headwaterlaw13.CursorStops': WHATEVER THE INPUT: true; the input reads as it did. -/
def cursorStopsSpec : ChangeSpec := { name := "cursorStops", fn := fun _ => fun
  | [d1, d2, d3] => { results := [.lit (.bool true)], args := [d1, d2, d3] }
  | _ => none }
def cursorStopsRow : OpenClaim := { program := "ytfpadnmdafiddaagreatdoor", sum := "828a7f1f07618f7baa463a26a302299c8e72d5c6da6bd6833f87a1d93fbb4f4c", func := "headwater/headwaterlaw13.CursorStops", spec := "cursorStops", unfollowed := true, recurses := true, named := ["math/bits.deBruijn64tab"], apart := false, laid := [("math/bits.deBruijn64tab", laid_math_bits_deBruijn64tab)] }
def CursorStopsSaid : Prop := cursorStopsRow.holds Tryz.pinned (OpenSpec.ofChange cursorStopsSpec)

/-- ITS FALSE NEIGHBOUR: 'it returns false'. Refute it at one input. -/
def cursorStopsWrong : ChangeSpec := { name := "cursorStops", fn := fun _ => fun
  | [d1, d2, d3] => { results := [.lit (.bool false)], args := [d1, d2, d3] }
  | _ => none }
def CursorStopsWrongFalsely : Prop := cursorStopsRow.holds Tryz.pinned (OpenSpec.ofChange cursorStopsWrong)

/-- 'headwaterlaw13.CursorRanges': WHATEVER THE INPUT: true; the input reads as it did. -/
def cursorRangesSpec : ChangeSpec := { name := "cursorRanges", fn := fun _ => fun
  | [d1, d2, d3] => { results := [.lit (.bool true)], args := [d1, d2, d3] }
  | _ => none }
def cursorRangesRow : OpenClaim := { program := "ytfpadnmdafiddaagreatdoor", sum := "828a7f1f07618f7baa463a26a302299c8e72d5c6da6bd6833f87a1d93fbb4f4c", func := "headwater/headwaterlaw13.CursorRanges", spec := "cursorRanges", unfollowed := true, recurses := true, named := ["math/bits.deBruijn64tab"], apart := false, laid := [("math/bits.deBruijn64tab", laid_math_bits_deBruijn64tab)] }
def CursorRangesSaid : Prop := cursorRangesRow.holds Tryz.pinned (OpenSpec.ofChange cursorRangesSpec)

/-- ITS FALSE NEIGHBOUR: 'it returns false'. Refute it at one input. -/
def cursorRangesWrong : ChangeSpec := { name := "cursorRanges", fn := fun _ => fun
  | [d1, d2, d3] => { results := [.lit (.bool false)], args := [d1, d2, d3] }
  | _ => none }
def CursorRangesWrongFalsely : Prop := cursorRangesRow.holds Tryz.pinned (OpenSpec.ofChange cursorRangesWrong)

/-- 'headwaterlaw13.CursorSeeks': WHATEVER THE INPUT: true; the input reads as it did. -/
def cursorSeeksSpec : ChangeSpec := { name := "cursorSeeks", fn := fun _ => fun
  | [d1, d2, d3, d4] => { results := [.lit (.bool true)], args := [d1, d2, d3, d4] }
  | _ => none }
def cursorSeeksRow : OpenClaim := { program := "ytfpadnmdafiddaagreatdoor", sum := "828a7f1f07618f7baa463a26a302299c8e72d5c6da6bd6833f87a1d93fbb4f4c", func := "headwater/headwaterlaw13.CursorSeeks", spec := "cursorSeeks", unfollowed := true, recurses := true, named := ["math/bits.deBruijn64tab"], apart := false, laid := [("math/bits.deBruijn64tab", laid_math_bits_deBruijn64tab)] }
def CursorSeeksSaid : Prop := cursorSeeksRow.holds Tryz.pinned (OpenSpec.ofChange cursorSeeksSpec)

/-- ITS FALSE NEIGHBOUR: 'it returns false'. Refute it at one input. -/
def cursorSeeksWrong : ChangeSpec := { name := "cursorSeeks", fn := fun _ => fun
  | [d1, d2, d3, d4] => { results := [.lit (.bool false)], args := [d1, d2, d3, d4] }
  | _ => none }
def CursorSeeksWrongFalsely : Prop := cursorSeeksRow.holds Tryz.pinned (OpenSpec.ofChange cursorSeeksWrong)

/-- 'headwaterlaw13.CursorScript': WHATEVER THE INPUT: true; the input reads as it did. -/
def cursorScriptSpec : ChangeSpec := { name := "cursorScript", fn := fun _ => fun
  | [d1, d2, d3, d4] => { results := [.lit (.bool true)], args := [d1, d2, d3, d4] }
  | _ => none }
def cursorScriptRow : OpenClaim := { program := "ytfpadnmdafiddaagreatdoor", sum := "828a7f1f07618f7baa463a26a302299c8e72d5c6da6bd6833f87a1d93fbb4f4c", func := "headwater/headwaterlaw13.CursorScript", spec := "cursorScript", unfollowed := true, recurses := true, named := ["math/bits.deBruijn64tab"], apart := false, laid := [("math/bits.deBruijn64tab", laid_math_bits_deBruijn64tab)] }
def CursorScriptSaid : Prop := cursorScriptRow.holds Tryz.pinned (OpenSpec.ofChange cursorScriptSpec)

/-- ITS FALSE NEIGHBOUR: 'it returns false'. Refute it at one input. -/
def cursorScriptWrong : ChangeSpec := { name := "cursorScript", fn := fun _ => fun
  | [d1, d2, d3, d4] => { results := [.lit (.bool false)], args := [d1, d2, d3, d4] }
  | _ => none }
def CursorScriptWrongFalsely : Prop := cursorScriptRow.holds Tryz.pinned (OpenSpec.ofChange cursorScriptWrong)

/-- 'headwaterlaw14.VersionSweeps': WHATEVER THE INPUT: true; the input reads as it did. -/
def versionSweepsSpec : ChangeSpec := { name := "versionSweeps", fn := fun _ => fun
  | [d] => { results := [.lit (.bool true)], args := [d] }
  | _ => none }
def versionSweepsRow : OpenClaim := { program := "ytfpadnmdafiddaagreatdoor", sum := "828a7f1f07618f7baa463a26a302299c8e72d5c6da6bd6833f87a1d93fbb4f4c", func := "headwater/headwaterlaw14.VersionSweeps", spec := "versionSweeps", unfollowed := true, recurses := true, named := ["math/bits.deBruijn64tab"], apart := false, laid := [("math/bits.deBruijn64tab", laid_math_bits_deBruijn64tab)] }
def VersionSweepsSaid : Prop := versionSweepsRow.holds Tryz.pinned (OpenSpec.ofChange versionSweepsSpec)

/-- ITS FALSE NEIGHBOUR: 'it returns false'. Refute it at one input. -/
def versionSweepsWrong : ChangeSpec := { name := "versionSweeps", fn := fun _ => fun
  | [d] => { results := [.lit (.bool false)], args := [d] }
  | _ => none }
def VersionSweepsWrongFalsely : Prop := versionSweepsRow.holds Tryz.pinned (OpenSpec.ofChange versionSweepsWrong)

/- THE SECOND FORM. 'bulk': how many values and letters a reading holds, each counted each time it is reached (what is shared counts as often as it is met; a slice's spare places count too). A statement '..UptoSaid' is the law's where the arguments, and the package variables that the reading takes, are together of bulk at most 1048576: NARROWER than '..Said'. Prove '..Said' where nothing that the law and all that it calls make is longer than what came in: it says more and counts as full. Else prove '..UptoSaid'. A law counts once. -/
mutual
def uptoBulk {H : Type} : DataW H → Nat
  | .lit (.string bytes) => bytes.length + 1
  | .lit _ => 1
  | .nil => 1
  | .ptr d => uptoBulk d + 1
  | .slice elems spare => uptoBulkAll elems + uptoBulkAll spare + 1
  | .agg parts => uptoBulkAll parts + 1
  | .iface _ d => uptoBulk d + 1
  | .map entries => uptoBulkEntries entries + 1
  | .held _ => 1
def uptoBulkAll {H : Type} : List (DataW H) → Nat
  | [] => 0
  | d :: r => uptoBulk d + uptoBulkAll r
def uptoBulkEntries {H : Type} : List (Lit × DataW H) → Nat
  | [] => 0
  | x :: r => uptoBulkEntry x + uptoBulkEntries r
def uptoBulkEntry {H : Type} : Lit × DataW H → Nat
  | (.string bytes, d) => bytes.length + uptoBulk d + 1
  | (_, d) => uptoBulk d + 1
 end
def uptoSmall : (H : Type) → List (DataW H) → Bool := fun _ ds => decide (uptoBulkAll ds ≤ 1048576)
def OpenSpec.upto (s : _root_.Go.ChangeSpec) : _root_.Go.OpenSpec := { _root_.Go.OpenSpec.ofChange s with cond := some uptoSmall }

/-- 'headwaterlaw12.TreeOrders', WHERE WHAT IT READS IS OF BULK AT MOST 1048576: true; the input reads as it did. -/
def treeOrdersUptoRow : OpenClaim := { program := "ytfpadnmdafiddaagreatdoor", sum := "828a7f1f07618f7baa463a26a302299c8e72d5c6da6bd6833f87a1d93fbb4f4c", func := "headwater/headwaterlaw12.TreeOrders", spec := "treeOrders", unfollowed := true, recurses := true, named := ["math/bits.deBruijn64tab"], apart := false, laid := [("math/bits.deBruijn64tab", laid_math_bits_deBruijn64tab)], narrowed := true }
def TreeOrdersUptoSaid : Prop := treeOrdersUptoRow.holds Tryz.pinned (OpenSpec.upto treeOrdersSpec)

/-- 'headwaterlaw12.TreeHolds', WHERE WHAT IT READS IS OF BULK AT MOST 1048576: true; the input reads as it did. -/
def treeHoldsUptoRow : OpenClaim := { program := "ytfpadnmdafiddaagreatdoor", sum := "828a7f1f07618f7baa463a26a302299c8e72d5c6da6bd6833f87a1d93fbb4f4c", func := "headwater/headwaterlaw12.TreeHolds", spec := "treeHolds", unfollowed := true, recurses := true, named := ["math/bits.deBruijn64tab"], apart := false, laid := [("math/bits.deBruijn64tab", laid_math_bits_deBruijn64tab)], narrowed := true }
def TreeHoldsUptoSaid : Prop := treeHoldsUptoRow.holds Tryz.pinned (OpenSpec.upto treeHoldsSpec)

/-- 'headwaterlaw12.TreeTakes', WHERE WHAT IT READS IS OF BULK AT MOST 1048576: true; the input reads as it did. -/
def treeTakesUptoRow : OpenClaim := { program := "ytfpadnmdafiddaagreatdoor", sum := "828a7f1f07618f7baa463a26a302299c8e72d5c6da6bd6833f87a1d93fbb4f4c", func := "headwater/headwaterlaw12.TreeTakes", spec := "treeTakes", unfollowed := true, recurses := true, named := ["math/bits.deBruijn64tab"], apart := false, laid := [("math/bits.deBruijn64tab", laid_math_bits_deBruijn64tab)], narrowed := true }
def TreeTakesUptoSaid : Prop := treeTakesUptoRow.holds Tryz.pinned (OpenSpec.upto treeTakesSpec)

/-- 'headwaterlaw12.TreeScript', WHERE WHAT IT READS IS OF BULK AT MOST 1048576: true; the input reads as it did. -/
def treeScriptUptoRow : OpenClaim := { program := "ytfpadnmdafiddaagreatdoor", sum := "828a7f1f07618f7baa463a26a302299c8e72d5c6da6bd6833f87a1d93fbb4f4c", func := "headwater/headwaterlaw12.TreeScript", spec := "treeScript", unfollowed := true, recurses := true, named := ["math/bits.deBruijn64tab"], apart := false, laid := [("math/bits.deBruijn64tab", laid_math_bits_deBruijn64tab)], narrowed := true }
def TreeScriptUptoSaid : Prop := treeScriptUptoRow.holds Tryz.pinned (OpenSpec.upto treeScriptSpec)

/-- 'headwaterlaw12.TreeStrange', WHERE WHAT IT READS IS OF BULK AT MOST 1048576: true; the input reads as it did. -/
def treeStrangeUptoRow : OpenClaim := { program := "ytfpadnmdafiddaagreatdoor", sum := "828a7f1f07618f7baa463a26a302299c8e72d5c6da6bd6833f87a1d93fbb4f4c", func := "headwater/headwaterlaw12.TreeStrange", spec := "treeStrange", unfollowed := true, recurses := true, named := ["math/bits.deBruijn64tab"], apart := false, laid := [("math/bits.deBruijn64tab", laid_math_bits_deBruijn64tab)], narrowed := true }
def TreeStrangeUptoSaid : Prop := treeStrangeUptoRow.holds Tryz.pinned (OpenSpec.upto treeStrangeSpec)

/-- 'headwaterlaw13.CursorStops', WHERE WHAT IT READS IS OF BULK AT MOST 1048576: true; the input reads as it did. -/
def cursorStopsUptoRow : OpenClaim := { program := "ytfpadnmdafiddaagreatdoor", sum := "828a7f1f07618f7baa463a26a302299c8e72d5c6da6bd6833f87a1d93fbb4f4c", func := "headwater/headwaterlaw13.CursorStops", spec := "cursorStops", unfollowed := true, recurses := true, named := ["math/bits.deBruijn64tab"], apart := false, laid := [("math/bits.deBruijn64tab", laid_math_bits_deBruijn64tab)], narrowed := true }
def CursorStopsUptoSaid : Prop := cursorStopsUptoRow.holds Tryz.pinned (OpenSpec.upto cursorStopsSpec)

/-- 'headwaterlaw13.CursorRanges', WHERE WHAT IT READS IS OF BULK AT MOST 1048576: true; the input reads as it did. -/
def cursorRangesUptoRow : OpenClaim := { program := "ytfpadnmdafiddaagreatdoor", sum := "828a7f1f07618f7baa463a26a302299c8e72d5c6da6bd6833f87a1d93fbb4f4c", func := "headwater/headwaterlaw13.CursorRanges", spec := "cursorRanges", unfollowed := true, recurses := true, named := ["math/bits.deBruijn64tab"], apart := false, laid := [("math/bits.deBruijn64tab", laid_math_bits_deBruijn64tab)], narrowed := true }
def CursorRangesUptoSaid : Prop := cursorRangesUptoRow.holds Tryz.pinned (OpenSpec.upto cursorRangesSpec)

/-- 'headwaterlaw13.CursorSeeks', WHERE WHAT IT READS IS OF BULK AT MOST 1048576: true; the input reads as it did. -/
def cursorSeeksUptoRow : OpenClaim := { program := "ytfpadnmdafiddaagreatdoor", sum := "828a7f1f07618f7baa463a26a302299c8e72d5c6da6bd6833f87a1d93fbb4f4c", func := "headwater/headwaterlaw13.CursorSeeks", spec := "cursorSeeks", unfollowed := true, recurses := true, named := ["math/bits.deBruijn64tab"], apart := false, laid := [("math/bits.deBruijn64tab", laid_math_bits_deBruijn64tab)], narrowed := true }
def CursorSeeksUptoSaid : Prop := cursorSeeksUptoRow.holds Tryz.pinned (OpenSpec.upto cursorSeeksSpec)

/-- 'headwaterlaw13.CursorScript', WHERE WHAT IT READS IS OF BULK AT MOST 1048576: true; the input reads as it did. -/
def cursorScriptUptoRow : OpenClaim := { program := "ytfpadnmdafiddaagreatdoor", sum := "828a7f1f07618f7baa463a26a302299c8e72d5c6da6bd6833f87a1d93fbb4f4c", func := "headwater/headwaterlaw13.CursorScript", spec := "cursorScript", unfollowed := true, recurses := true, named := ["math/bits.deBruijn64tab"], apart := false, laid := [("math/bits.deBruijn64tab", laid_math_bits_deBruijn64tab)], narrowed := true }
def CursorScriptUptoSaid : Prop := cursorScriptUptoRow.holds Tryz.pinned (OpenSpec.upto cursorScriptSpec)

/-- 'headwaterlaw14.VersionSweeps', WHERE WHAT IT READS IS OF BULK AT MOST 1048576: true; the input reads as it did. -/
def versionSweepsUptoRow : OpenClaim := { program := "ytfpadnmdafiddaagreatdoor", sum := "828a7f1f07618f7baa463a26a302299c8e72d5c6da6bd6833f87a1d93fbb4f4c", func := "headwater/headwaterlaw14.VersionSweeps", spec := "versionSweeps", unfollowed := true, recurses := true, named := ["math/bits.deBruijn64tab"], apart := false, laid := [("math/bits.deBruijn64tab", laid_math_bits_deBruijn64tab)], narrowed := true }
def VersionSweepsUptoSaid : Prop := versionSweepsUptoRow.holds Tryz.pinned (OpenSpec.upto versionSweepsSpec)

end Rows
end Go.Proofs.YtfpadnmdafiddaaGreatDoor
