/-
  No cell of these rows narrows 'for every input' (looked for: loops, veiled, ifaces, maps, wideKeys, modest, calm, conditions, laid).
  DERIVED. THE GIVEN ROWS OF THIS SEAT. 12 by the template 'for every input the law returns true; each argument reads behind the call as it read before'; 0 by the template 'total and deterministic' (their statements: YtmpjigghgedjbaaTotals.lean).
  GIVEN WITH THE SEED: the statements are not yours to turn. If you find one false, say at which input.
  Laid BY PROGRAM, IN A SANDBOX (cutbox-rows.mjs): the forced cells as the released guide's own fill.sh prints them over the translation d3ff2f1a2b5c2233… (all of the seat's roots in one cut). By AI agents, Wed Nov 11 2026. No macro, syntax, notation, axiom, sorry.
-/
import Derived.Test.YtmpjigghgedjbaaChecked
import GoSem.Claim
import GoSem.ClaimJoined
import GoSem.ClaimMapViews
import Derived.JoinedTies
import Derived.KernelRfl
namespace Go.Proofs.Ytmpjigghgedjbaa
/- THE CELL 'sum', in the pinned program and in every row, IS THE sha256 OF THE DUMP (.gsa) THAT YtmpjigghgedjbaaProg.lean LOADS. Nothing in Lean hashes anything: it is a label: what it is worth is what the hold of that sum in a sandbox is worth. -/
noncomputable def Try.pinned : Pinned := { name := "ytmpjigghgedjbaa", sum := "d3ff2f1a2b5c2233f06aa40feb13913b006ecbecdf41780d347fec0d8972af93", checked := Try.checked }
namespace Rows
def none {H : Type} : Left H := { results := [], args := [] }

/-- 'headwaterlaw03.FieldPowers': WHATEVER THE INPUT: true; the input reads as it did. -/
def fieldPowersSpec : ChangeSpec := { name := "fieldPowers", fn := fun _ => fun
  | [d1, d2, d3] => { results := [.lit (.bool true)], args := [d1, d2, d3] }
  | _ => none }
def fieldPowersRow : OpenClaim := { program := "ytmpjigghgedjbaa", sum := "d3ff2f1a2b5c2233f06aa40feb13913b006ecbecdf41780d347fec0d8972af93", func := "headwater/headwaterlaw03.FieldPowers", spec := "fieldPowers", inPlace := ["math/bits.Add64"], apart := false }
def FieldPowersSaid : Prop := fieldPowersRow.holds Try.pinned (OpenSpec.ofChange fieldPowersSpec)

/-- ITS FALSE NEIGHBOUR: 'it returns false'. Refute it at one input. -/
def fieldPowersWrong : ChangeSpec := { name := "fieldPowers", fn := fun _ => fun
  | [d1, d2, d3] => { results := [.lit (.bool false)], args := [d1, d2, d3] }
  | _ => none }
def FieldPowersWrongFalsely : Prop := fieldPowersRow.holds Try.pinned (OpenSpec.ofChange fieldPowersWrong)

/-- 'headwaterlaw03.FieldRoots': WHATEVER THE INPUT: true; the input reads as it did. -/
def fieldRootsSpec : ChangeSpec := { name := "fieldRoots", fn := fun _ => fun
  | [d1, d2] => { results := [.lit (.bool true)], args := [d1, d2] }
  | _ => none }
def fieldRootsRow : OpenClaim := { program := "ytmpjigghgedjbaa", sum := "d3ff2f1a2b5c2233f06aa40feb13913b006ecbecdf41780d347fec0d8972af93", func := "headwater/headwaterlaw03.FieldRoots", spec := "fieldRoots", inPlace := ["math/bits.Add64"], apart := false }
def FieldRootsSaid : Prop := fieldRootsRow.holds Try.pinned (OpenSpec.ofChange fieldRootsSpec)

/-- ITS FALSE NEIGHBOUR: 'it returns false'. Refute it at one input. -/
def fieldRootsWrong : ChangeSpec := { name := "fieldRoots", fn := fun _ => fun
  | [d1, d2] => { results := [.lit (.bool false)], args := [d1, d2] }
  | _ => none }
def FieldRootsWrongFalsely : Prop := fieldRootsRow.holds Try.pinned (OpenSpec.ofChange fieldRootsWrong)

/-- 'headwaterlaw03.FieldNames': WHATEVER THE INPUT: true; the input reads as it did. -/
def fieldNamesSpec : ChangeSpec := { name := "fieldNames", fn := fun _ => fun
  | [] => { results := [.lit (.bool true)], args := [] }
  | _ => none }
def fieldNamesRow : OpenClaim := { program := "ytmpjigghgedjbaa", sum := "d3ff2f1a2b5c2233f06aa40feb13913b006ecbecdf41780d347fec0d8972af93", func := "headwater/headwaterlaw03.FieldNames", spec := "fieldNames", inPlace := ["math/bits.Add64"], apart := false }
def FieldNamesSaid : Prop := fieldNamesRow.holds Try.pinned (OpenSpec.ofChange fieldNamesSpec)

/-- ITS FALSE NEIGHBOUR: 'it returns false'. Refute it at one input. -/
def fieldNamesWrong : ChangeSpec := { name := "fieldNames", fn := fun _ => fun
  | [] => { results := [.lit (.bool false)], args := [] }
  | _ => none }
def FieldNamesWrongFalsely : Prop := fieldNamesRow.holds Try.pinned (OpenSpec.ofChange fieldNamesWrong)

/-- 'headwaterlaw03.FieldCalls': WHATEVER THE INPUT: true; the input reads as it did. -/
def fieldCallsSpec : ChangeSpec := { name := "fieldCalls", fn := fun _ => fun
  | [d1, d2, d3, d4] => { results := [.lit (.bool true)], args := [d1, d2, d3, d4] }
  | _ => none }
def fieldCallsRow : OpenClaim := { program := "ytmpjigghgedjbaa", sum := "d3ff2f1a2b5c2233f06aa40feb13913b006ecbecdf41780d347fec0d8972af93", func := "headwater/headwaterlaw03.FieldCalls", spec := "fieldCalls", inPlace := ["math/bits.Add64"], apart := false }
def FieldCallsSaid : Prop := fieldCallsRow.holds Try.pinned (OpenSpec.ofChange fieldCallsSpec)

/-- ITS FALSE NEIGHBOUR: 'it returns false'. Refute it at one input. -/
def fieldCallsWrong : ChangeSpec := { name := "fieldCalls", fn := fun _ => fun
  | [d1, d2, d3, d4] => { results := [.lit (.bool false)], args := [d1, d2, d3, d4] }
  | _ => none }
def FieldCallsWrongFalsely : Prop := fieldCallsRow.holds Try.pinned (OpenSpec.ofChange fieldCallsWrong)

/-- 'headwaterlaw03.FieldRing': WHATEVER THE INPUT: true; the input reads as it did. -/
def fieldRingSpec : ChangeSpec := { name := "fieldRing", fn := fun _ => fun
  | [d1, d2, d3] => { results := [.lit (.bool true)], args := [d1, d2, d3] }
  | _ => none }
def fieldRingRow : OpenClaim := { program := "ytmpjigghgedjbaa", sum := "d3ff2f1a2b5c2233f06aa40feb13913b006ecbecdf41780d347fec0d8972af93", func := "headwater/headwaterlaw03.FieldRing", spec := "fieldRing", inPlace := ["math/bits.Add64"], apart := false }
def FieldRingSaid : Prop := fieldRingRow.holds Try.pinned (OpenSpec.ofChange fieldRingSpec)

/-- ITS FALSE NEIGHBOUR: 'it returns false'. Refute it at one input. -/
def fieldRingWrong : ChangeSpec := { name := "fieldRing", fn := fun _ => fun
  | [d1, d2, d3] => { results := [.lit (.bool false)], args := [d1, d2, d3] }
  | _ => none }
def FieldRingWrongFalsely : Prop := fieldRingRow.holds Try.pinned (OpenSpec.ofChange fieldRingWrong)

/-- 'headwaterlaw03.FieldSmall': WHATEVER THE INPUT: true; the input reads as it did. -/
def fieldSmallSpec : ChangeSpec := { name := "fieldSmall", fn := fun _ => fun
  | [d1, d2] => { results := [.lit (.bool true)], args := [d1, d2] }
  | _ => none }
def fieldSmallRow : OpenClaim := { program := "ytmpjigghgedjbaa", sum := "d3ff2f1a2b5c2233f06aa40feb13913b006ecbecdf41780d347fec0d8972af93", func := "headwater/headwaterlaw03.FieldSmall", spec := "fieldSmall", inPlace := ["math/bits.Add64"], apart := false }
def FieldSmallSaid : Prop := fieldSmallRow.holds Try.pinned (OpenSpec.ofChange fieldSmallSpec)

/-- ITS FALSE NEIGHBOUR: 'it returns false'. Refute it at one input. -/
def fieldSmallWrong : ChangeSpec := { name := "fieldSmall", fn := fun _ => fun
  | [d1, d2] => { results := [.lit (.bool false)], args := [d1, d2] }
  | _ => none }
def FieldSmallWrongFalsely : Prop := fieldSmallRow.holds Try.pinned (OpenSpec.ofChange fieldSmallWrong)

/-- 'headwaterlaw05.CurveBack': WHATEVER THE INPUT: true; the input reads as it did. -/
def curveBackSpec : ChangeSpec := { name := "curveBack", fn := fun _ => fun
  | [d1, d2] => { results := [.lit (.bool true)], args := [d1, d2] }
  | _ => none }
def curveBackRow : OpenClaim := { program := "ytmpjigghgedjbaa", sum := "d3ff2f1a2b5c2233f06aa40feb13913b006ecbecdf41780d347fec0d8972af93", func := "headwater/headwaterlaw05.CurveBack", spec := "curveBack", inPlace := ["math/bits.Add64"], apart := false }
def CurveBackSaid : Prop := curveBackRow.holds Try.pinned (OpenSpec.ofChange curveBackSpec)

/-- ITS FALSE NEIGHBOUR: 'it returns false'. Refute it at one input. -/
def curveBackWrong : ChangeSpec := { name := "curveBack", fn := fun _ => fun
  | [d1, d2] => { results := [.lit (.bool false)], args := [d1, d2] }
  | _ => none }
def CurveBackWrongFalsely : Prop := curveBackRow.holds Try.pinned (OpenSpec.ofChange curveBackWrong)

/-- 'headwaterlaw05.CurveGroup': WHATEVER THE INPUT: true; the input reads as it did. -/
def curveGroupSpec : ChangeSpec := { name := "curveGroup", fn := fun _ => fun
  | [d1, d2, d3] => { results := [.lit (.bool true)], args := [d1, d2, d3] }
  | _ => none }
def curveGroupRow : OpenClaim := { program := "ytmpjigghgedjbaa", sum := "d3ff2f1a2b5c2233f06aa40feb13913b006ecbecdf41780d347fec0d8972af93", func := "headwater/headwaterlaw05.CurveGroup", spec := "curveGroup", inPlace := ["math/bits.Add64"], apart := false }
def CurveGroupSaid : Prop := curveGroupRow.holds Try.pinned (OpenSpec.ofChange curveGroupSpec)

/-- ITS FALSE NEIGHBOUR: 'it returns false'. Refute it at one input. -/
def curveGroupWrong : ChangeSpec := { name := "curveGroup", fn := fun _ => fun
  | [d1, d2, d3] => { results := [.lit (.bool false)], args := [d1, d2, d3] }
  | _ => none }
def CurveGroupWrongFalsely : Prop := curveGroupRow.holds Try.pinned (OpenSpec.ofChange curveGroupWrong)

/-- 'headwaterlaw05.CurveMuls': WHATEVER THE INPUT: true; the input reads as it did. -/
def curveMulsSpec : ChangeSpec := { name := "curveMuls", fn := fun _ => fun
  | [d1, d2, d3, d4] => { results := [.lit (.bool true)], args := [d1, d2, d3, d4] }
  | _ => none }
def curveMulsRow : OpenClaim := { program := "ytmpjigghgedjbaa", sum := "d3ff2f1a2b5c2233f06aa40feb13913b006ecbecdf41780d347fec0d8972af93", func := "headwater/headwaterlaw05.CurveMuls", spec := "curveMuls", inPlace := ["math/bits.Add64"], apart := false }
def CurveMulsSaid : Prop := curveMulsRow.holds Try.pinned (OpenSpec.ofChange curveMulsSpec)

/-- ITS FALSE NEIGHBOUR: 'it returns false'. Refute it at one input. -/
def curveMulsWrong : ChangeSpec := { name := "curveMuls", fn := fun _ => fun
  | [d1, d2, d3, d4] => { results := [.lit (.bool false)], args := [d1, d2, d3, d4] }
  | _ => none }
def CurveMulsWrongFalsely : Prop := curveMulsRow.holds Try.pinned (OpenSpec.ofChange curveMulsWrong)

/-- 'headwaterlaw05.CurveNames': WHATEVER THE INPUT: true; the input reads as it did. -/
def curveNamesSpec : ChangeSpec := { name := "curveNames", fn := fun _ => fun
  | [] => { results := [.lit (.bool true)], args := [] }
  | _ => none }
def curveNamesRow : OpenClaim := { program := "ytmpjigghgedjbaa", sum := "d3ff2f1a2b5c2233f06aa40feb13913b006ecbecdf41780d347fec0d8972af93", func := "headwater/headwaterlaw05.CurveNames", spec := "curveNames", inPlace := ["math/bits.Add64"], apart := false }
def CurveNamesSaid : Prop := curveNamesRow.holds Try.pinned (OpenSpec.ofChange curveNamesSpec)

/-- ITS FALSE NEIGHBOUR: 'it returns false'. Refute it at one input. -/
def curveNamesWrong : ChangeSpec := { name := "curveNames", fn := fun _ => fun
  | [] => { results := [.lit (.bool false)], args := [] }
  | _ => none }
def CurveNamesWrongFalsely : Prop := curveNamesRow.holds Try.pinned (OpenSpec.ofChange curveNamesWrong)

/-- 'headwaterlaw05.CurveCalls': WHATEVER THE INPUT: true; the input reads as it did. -/
def curveCallsSpec : ChangeSpec := { name := "curveCalls", fn := fun _ => fun
  | [d1, d2, d3, d4, d5] => { results := [.lit (.bool true)], args := [d1, d2, d3, d4, d5] }
  | _ => none }
def curveCallsRow : OpenClaim := { program := "ytmpjigghgedjbaa", sum := "d3ff2f1a2b5c2233f06aa40feb13913b006ecbecdf41780d347fec0d8972af93", func := "headwater/headwaterlaw05.CurveCalls", spec := "curveCalls", inPlace := ["math/bits.Add64"], apart := false }
def CurveCallsSaid : Prop := curveCallsRow.holds Try.pinned (OpenSpec.ofChange curveCallsSpec)

/-- ITS FALSE NEIGHBOUR: 'it returns false'. Refute it at one input. -/
def curveCallsWrong : ChangeSpec := { name := "curveCalls", fn := fun _ => fun
  | [d1, d2, d3, d4, d5] => { results := [.lit (.bool false)], args := [d1, d2, d3, d4, d5] }
  | _ => none }
def CurveCallsWrongFalsely : Prop := curveCallsRow.holds Try.pinned (OpenSpec.ofChange curveCallsWrong)

/-- 'headwaterlaw05.CurveSmalls': WHATEVER THE INPUT: true; the input reads as it did. -/
def curveSmallsSpec : ChangeSpec := { name := "curveSmalls", fn := fun _ => fun
  | [d1, d2, d3] => { results := [.lit (.bool true)], args := [d1, d2, d3] }
  | _ => none }
def curveSmallsRow : OpenClaim := { program := "ytmpjigghgedjbaa", sum := "d3ff2f1a2b5c2233f06aa40feb13913b006ecbecdf41780d347fec0d8972af93", func := "headwater/headwaterlaw05.CurveSmalls", spec := "curveSmalls", inPlace := ["math/bits.Add64"], apart := false }
def CurveSmallsSaid : Prop := curveSmallsRow.holds Try.pinned (OpenSpec.ofChange curveSmallsSpec)

/-- ITS FALSE NEIGHBOUR: 'it returns false'. Refute it at one input. -/
def curveSmallsWrong : ChangeSpec := { name := "curveSmalls", fn := fun _ => fun
  | [d1, d2, d3] => { results := [.lit (.bool false)], args := [d1, d2, d3] }
  | _ => none }
def CurveSmallsWrongFalsely : Prop := curveSmallsRow.holds Try.pinned (OpenSpec.ofChange curveSmallsWrong)

/- THE SECOND FORM. 'bulk': how many values and letters a reading holds, each counted each time it is reached (what is shared counts as often as it is met; a slice's spare places count too). A statement '..UptoSaid' is the law's where the arguments, and the package variables that the reading takes, are together of bulk at most 1048576: NARROWER than '..Said'. Prove '..Said' where nothing that the law and all that it calls make is longer than what came in: it says more and counts as full. Else prove '..UptoSaid'. A law counts once. -/
mutual
def uptoBulk {H : Type} : DataW H → Nat
  | .lit (.string bytes) => bytes.length + 1
  | .lit _ => 1
  | .nil => 1
  | .ptr d => uptoBulk d + 1
  | .slice elems spare => uptoBulkAll elems + uptoBulkAll spare + 1
  | .agg parts => uptoBulkAll parts + 1
  | .iface _ d => uptoBulk d + 1
  | .map entries => uptoBulkEntries entries + 1
  | .held _ => 1
def uptoBulkAll {H : Type} : List (DataW H) → Nat
  | [] => 0
  | d :: r => uptoBulk d + uptoBulkAll r
def uptoBulkEntries {H : Type} : List (Lit × DataW H) → Nat
  | [] => 0
  | x :: r => uptoBulkEntry x + uptoBulkEntries r
def uptoBulkEntry {H : Type} : Lit × DataW H → Nat
  | (.string bytes, d) => bytes.length + uptoBulk d + 1
  | (_, d) => uptoBulk d + 1
 end
def uptoSmall : (H : Type) → List (DataW H) → Bool := fun _ ds => decide (uptoBulkAll ds ≤ 1048576)
def OpenSpec.upto (s : _root_.Go.ChangeSpec) : _root_.Go.OpenSpec := { _root_.Go.OpenSpec.ofChange s with cond := some uptoSmall }

/-- 'headwaterlaw03.FieldPowers', WHERE WHAT IT READS IS OF BULK AT MOST 1048576: true; the input reads as it did. -/
def fieldPowersUptoRow : OpenClaim := { program := "ytmpjigghgedjbaa", sum := "d3ff2f1a2b5c2233f06aa40feb13913b006ecbecdf41780d347fec0d8972af93", func := "headwater/headwaterlaw03.FieldPowers", spec := "fieldPowers", inPlace := ["math/bits.Add64"], apart := false, narrowed := true }
def FieldPowersUptoSaid : Prop := fieldPowersUptoRow.holds Try.pinned (OpenSpec.upto fieldPowersSpec)

/-- 'headwaterlaw03.FieldRoots', WHERE WHAT IT READS IS OF BULK AT MOST 1048576: true; the input reads as it did. -/
def fieldRootsUptoRow : OpenClaim := { program := "ytmpjigghgedjbaa", sum := "d3ff2f1a2b5c2233f06aa40feb13913b006ecbecdf41780d347fec0d8972af93", func := "headwater/headwaterlaw03.FieldRoots", spec := "fieldRoots", inPlace := ["math/bits.Add64"], apart := false, narrowed := true }
def FieldRootsUptoSaid : Prop := fieldRootsUptoRow.holds Try.pinned (OpenSpec.upto fieldRootsSpec)

/-- 'headwaterlaw03.FieldNames', WHERE WHAT IT READS IS OF BULK AT MOST 1048576: true; the input reads as it did. -/
def fieldNamesUptoRow : OpenClaim := { program := "ytmpjigghgedjbaa", sum := "d3ff2f1a2b5c2233f06aa40feb13913b006ecbecdf41780d347fec0d8972af93", func := "headwater/headwaterlaw03.FieldNames", spec := "fieldNames", inPlace := ["math/bits.Add64"], apart := false, narrowed := true }
def FieldNamesUptoSaid : Prop := fieldNamesUptoRow.holds Try.pinned (OpenSpec.upto fieldNamesSpec)

/-- 'headwaterlaw03.FieldCalls', WHERE WHAT IT READS IS OF BULK AT MOST 1048576: true; the input reads as it did. -/
def fieldCallsUptoRow : OpenClaim := { program := "ytmpjigghgedjbaa", sum := "d3ff2f1a2b5c2233f06aa40feb13913b006ecbecdf41780d347fec0d8972af93", func := "headwater/headwaterlaw03.FieldCalls", spec := "fieldCalls", inPlace := ["math/bits.Add64"], apart := false, narrowed := true }
def FieldCallsUptoSaid : Prop := fieldCallsUptoRow.holds Try.pinned (OpenSpec.upto fieldCallsSpec)

/-- 'headwaterlaw03.FieldRing', WHERE WHAT IT READS IS OF BULK AT MOST 1048576: true; the input reads as it did. -/
def fieldRingUptoRow : OpenClaim := { program := "ytmpjigghgedjbaa", sum := "d3ff2f1a2b5c2233f06aa40feb13913b006ecbecdf41780d347fec0d8972af93", func := "headwater/headwaterlaw03.FieldRing", spec := "fieldRing", inPlace := ["math/bits.Add64"], apart := false, narrowed := true }
def FieldRingUptoSaid : Prop := fieldRingUptoRow.holds Try.pinned (OpenSpec.upto fieldRingSpec)

/-- 'headwaterlaw03.FieldSmall', WHERE WHAT IT READS IS OF BULK AT MOST 1048576: true; the input reads as it did. -/
def fieldSmallUptoRow : OpenClaim := { program := "ytmpjigghgedjbaa", sum := "d3ff2f1a2b5c2233f06aa40feb13913b006ecbecdf41780d347fec0d8972af93", func := "headwater/headwaterlaw03.FieldSmall", spec := "fieldSmall", inPlace := ["math/bits.Add64"], apart := false, narrowed := true }
def FieldSmallUptoSaid : Prop := fieldSmallUptoRow.holds Try.pinned (OpenSpec.upto fieldSmallSpec)

/-- 'headwaterlaw05.CurveBack', WHERE WHAT IT READS IS OF BULK AT MOST 1048576: true; the input reads as it did. -/
def curveBackUptoRow : OpenClaim := { program := "ytmpjigghgedjbaa", sum := "d3ff2f1a2b5c2233f06aa40feb13913b006ecbecdf41780d347fec0d8972af93", func := "headwater/headwaterlaw05.CurveBack", spec := "curveBack", inPlace := ["math/bits.Add64"], apart := false, narrowed := true }
def CurveBackUptoSaid : Prop := curveBackUptoRow.holds Try.pinned (OpenSpec.upto curveBackSpec)

/-- 'headwaterlaw05.CurveGroup', WHERE WHAT IT READS IS OF BULK AT MOST 1048576: true; the input reads as it did. -/
def curveGroupUptoRow : OpenClaim := { program := "ytmpjigghgedjbaa", sum := "d3ff2f1a2b5c2233f06aa40feb13913b006ecbecdf41780d347fec0d8972af93", func := "headwater/headwaterlaw05.CurveGroup", spec := "curveGroup", inPlace := ["math/bits.Add64"], apart := false, narrowed := true }
def CurveGroupUptoSaid : Prop := curveGroupUptoRow.holds Try.pinned (OpenSpec.upto curveGroupSpec)

/-- 'headwaterlaw05.CurveMuls', WHERE WHAT IT READS IS OF BULK AT MOST 1048576: true; the input reads as it did. -/
def curveMulsUptoRow : OpenClaim := { program := "ytmpjigghgedjbaa", sum := "d3ff2f1a2b5c2233f06aa40feb13913b006ecbecdf41780d347fec0d8972af93", func := "headwater/headwaterlaw05.CurveMuls", spec := "curveMuls", inPlace := ["math/bits.Add64"], apart := false, narrowed := true }
def CurveMulsUptoSaid : Prop := curveMulsUptoRow.holds Try.pinned (OpenSpec.upto curveMulsSpec)

/-- 'headwaterlaw05.CurveNames', WHERE WHAT IT READS IS OF BULK AT MOST 1048576: true; the input reads as it did. -/
def curveNamesUptoRow : OpenClaim := { program := "ytmpjigghgedjbaa", sum := "d3ff2f1a2b5c2233f06aa40feb13913b006ecbecdf41780d347fec0d8972af93", func := "headwater/headwaterlaw05.CurveNames", spec := "curveNames", inPlace := ["math/bits.Add64"], apart := false, narrowed := true }
def CurveNamesUptoSaid : Prop := curveNamesUptoRow.holds Try.pinned (OpenSpec.upto curveNamesSpec)

/-- 'headwaterlaw05.CurveCalls', WHERE WHAT IT READS IS OF BULK AT MOST 1048576: true; the input reads as it did. -/
def curveCallsUptoRow : OpenClaim := { program := "ytmpjigghgedjbaa", sum := "d3ff2f1a2b5c2233f06aa40feb13913b006ecbecdf41780d347fec0d8972af93", func := "headwater/headwaterlaw05.CurveCalls", spec := "curveCalls", inPlace := ["math/bits.Add64"], apart := false, narrowed := true }
def CurveCallsUptoSaid : Prop := curveCallsUptoRow.holds Try.pinned (OpenSpec.upto curveCallsSpec)

/-- 'headwaterlaw05.CurveSmalls', WHERE WHAT IT READS IS OF BULK AT MOST 1048576: true; the input reads as it did. -/
def curveSmallsUptoRow : OpenClaim := { program := "ytmpjigghgedjbaa", sum := "d3ff2f1a2b5c2233f06aa40feb13913b006ecbecdf41780d347fec0d8972af93", func := "headwater/headwaterlaw05.CurveSmalls", spec := "curveSmalls", inPlace := ["math/bits.Add64"], apart := false, narrowed := true }
def CurveSmallsUptoSaid : Prop := curveSmallsUptoRow.holds Try.pinned (OpenSpec.upto curveSmallsSpec)

end Rows
end Go.Proofs.Ytmpjigghgedjbaa
