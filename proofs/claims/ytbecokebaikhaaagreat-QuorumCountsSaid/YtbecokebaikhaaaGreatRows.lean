/-
  No cell of these rows narrows 'for every input' (looked for: loops, veiled, ifaces, maps, wideKeys, modest, calm, conditions, laid).
  DERIVED. THE GIVEN ROWS OF THIS SEAT. 4 by the template 'for every input the law returns true; each argument reads behind the call as it read before'; 0 by the template 'total and deterministic' (their statements: YtbecokebaikhaaaGreatTotals.lean).
  GIVEN WITH THE SEED: the statements are not yours to turn. If you find one false, say at which input.
  Laid BY PROGRAM, IN A SANDBOX (cutbox-rows.mjs): the forced cells as the released guide's own fill.sh prints them over the translation 1737cf2221343911… (all of the seat's roots in one cut). By AI agents, Wed Nov 11 2026. No macro, syntax, notation, axiom, sorry.
-/
import Derived.Test.YtbecokebaikhaaaGreatChecked
import GoSem.Claim
import GoSem.ClaimJoined
import GoSem.ClaimMapViews
import Derived.JoinedTies
import Derived.KernelRfl
namespace Go.Proofs.YtbecokebaikhaaaGreat
/- THE CELL 'sum', in the pinned program and in every row, IS THE sha256 OF THE DUMP (.gsa) THAT YtbecokebaikhaaaGreatProg.lean LOADS. Nothing in Lean hashes anything: it is a label: what it is worth is what the hold of that sum in a sandbox is worth. -/
noncomputable def Tryz.pinned : Pinned := { name := "ytbecokebaikhaaagreat", sum := "1737cf22213439119c22c2bfa94f9775dcea88e4ba7a9aa62e5c0d9593ac46b2", checked := Tryz.checked }
namespace Rows
def none {H : Type} : Left H := { results := [], args := [] }

/-- 'headwaterlaw14.VersionNames': WHATEVER THE INPUT: true; the input reads as it did. -/
def versionNamesSpec : ChangeSpec := { name := "versionNames", fn := fun _ => fun
  | [] => { results := [.lit (.bool true)], args := [] }
  | _ => none }
def versionNamesRow : OpenClaim := { program := "ytbecokebaikhaaagreat", sum := "1737cf22213439119c22c2bfa94f9775dcea88e4ba7a9aa62e5c0d9593ac46b2", func := "headwater/headwaterlaw14.VersionNames", spec := "versionNames", unfollowed := true, recurses := true, plainKeys := false, apart := false }
def VersionNamesSaid : Prop := versionNamesRow.holds Tryz.pinned (OpenSpec.ofChange versionNamesSpec)

/-- ITS FALSE NEIGHBOUR: 'it returns false'. Refute it at one input. -/
def versionNamesWrong : ChangeSpec := { name := "versionNames", fn := fun _ => fun
  | [] => { results := [.lit (.bool false)], args := [] }
  | _ => none }
def VersionNamesWrongFalsely : Prop := versionNamesRow.holds Tryz.pinned (OpenSpec.ofChange versionNamesWrong)

/-- 'headwaterlaw21.QuorumCounts': WHATEVER THE INPUT: true; the input reads as it did. -/
def quorumCountsSpec : ChangeSpec := { name := "quorumCounts", fn := fun _ => fun
  | [d1, d2, d3, d4] => { results := [.lit (.bool true)], args := [d1, d2, d3, d4] }
  | _ => none }
def quorumCountsRow : OpenClaim := { program := "ytbecokebaikhaaagreat", sum := "1737cf22213439119c22c2bfa94f9775dcea88e4ba7a9aa62e5c0d9593ac46b2", func := "headwater/headwaterlaw21.QuorumCounts", spec := "quorumCounts", inPlace := ["internal/bytealg.Compare", "slices.overlaps[headwater/api.Digest]"], unfollowed := true, recurses := true, plainKeys := false, apart := false }
def QuorumCountsSaid : Prop := quorumCountsRow.holds Tryz.pinned (OpenSpec.ofChange quorumCountsSpec)

/-- ITS FALSE NEIGHBOUR: 'it returns false'. Refute it at one input. -/
def quorumCountsWrong : ChangeSpec := { name := "quorumCounts", fn := fun _ => fun
  | [d1, d2, d3, d4] => { results := [.lit (.bool false)], args := [d1, d2, d3, d4] }
  | _ => none }
def QuorumCountsWrongFalsely : Prop := quorumCountsRow.holds Tryz.pinned (OpenSpec.ofChange quorumCountsWrong)

/-- 'headwaterlaw21.QuorumNames': WHATEVER THE INPUT: true; the input reads as it did. -/
def quorumNamesSpec : ChangeSpec := { name := "quorumNames", fn := fun _ => fun
  | [] => { results := [.lit (.bool true)], args := [] }
  | _ => none }
def quorumNamesRow : OpenClaim := { program := "ytbecokebaikhaaagreat", sum := "1737cf22213439119c22c2bfa94f9775dcea88e4ba7a9aa62e5c0d9593ac46b2", func := "headwater/headwaterlaw21.QuorumNames", spec := "quorumNames", inPlace := ["internal/bytealg.Compare", "slices.overlaps[headwater/api.Vote]", "slices.overlaps[headwater/api.Digest]"], unfollowed := true, recurses := true, plainKeys := false, apart := false }
def QuorumNamesSaid : Prop := quorumNamesRow.holds Tryz.pinned (OpenSpec.ofChange quorumNamesSpec)

/-- ITS FALSE NEIGHBOUR: 'it returns false'. Refute it at one input. -/
def quorumNamesWrong : ChangeSpec := { name := "quorumNames", fn := fun _ => fun
  | [] => { results := [.lit (.bool false)], args := [] }
  | _ => none }
def QuorumNamesWrongFalsely : Prop := quorumNamesRow.holds Tryz.pinned (OpenSpec.ofChange quorumNamesWrong)

/-- 'headwaterlaw21.QuorumMeets': WHATEVER THE INPUT: true; the input reads as it did. -/
def quorumMeetsSpec : ChangeSpec := { name := "quorumMeets", fn := fun _ => fun
  | [d] => { results := [.lit (.bool true)], args := [d] }
  | _ => none }
def quorumMeetsRow : OpenClaim := { program := "ytbecokebaikhaaagreat", sum := "1737cf22213439119c22c2bfa94f9775dcea88e4ba7a9aa62e5c0d9593ac46b2", func := "headwater/headwaterlaw21.QuorumMeets", spec := "quorumMeets", inPlace := ["internal/bytealg.Compare", "slices.overlaps[headwater/api.Digest]", "slices.overlaps[headwater/api.Vote]"], unfollowed := true, recurses := true, plainKeys := false, apart := false }
def QuorumMeetsSaid : Prop := quorumMeetsRow.holds Tryz.pinned (OpenSpec.ofChange quorumMeetsSpec)

/-- ITS FALSE NEIGHBOUR: 'it returns false'. Refute it at one input. -/
def quorumMeetsWrong : ChangeSpec := { name := "quorumMeets", fn := fun _ => fun
  | [d] => { results := [.lit (.bool false)], args := [d] }
  | _ => none }
def QuorumMeetsWrongFalsely : Prop := quorumMeetsRow.holds Tryz.pinned (OpenSpec.ofChange quorumMeetsWrong)

/- THE SECOND FORM. 'bulk': how many values and letters a reading holds, each counted each time it is reached (what is shared counts as often as it is met; a slice's spare places count too). A statement '..UptoSaid' is the law's where the arguments, and the package variables that the reading takes, are together of bulk at most 1048576: NARROWER than '..Said'. Prove '..Said' where nothing that the law and all that it calls make is longer than what came in: it says more and counts as full. Else prove '..UptoSaid'. A law counts once. -/
mutual
def uptoBulk {H : Type} : DataW H → Nat
  | .lit (.string bytes) => bytes.length + 1
  | .lit _ => 1
  | .nil => 1
  | .ptr d => uptoBulk d + 1
  | .slice elems spare => uptoBulkAll elems + uptoBulkAll spare + 1
  | .agg parts => uptoBulkAll parts + 1
  | .iface _ d => uptoBulk d + 1
  | .map entries => uptoBulkEntries entries + 1
  | .held _ => 1
def uptoBulkAll {H : Type} : List (DataW H) → Nat
  | [] => 0
  | d :: r => uptoBulk d + uptoBulkAll r
def uptoBulkEntries {H : Type} : List (Lit × DataW H) → Nat
  | [] => 0
  | x :: r => uptoBulkEntry x + uptoBulkEntries r
def uptoBulkEntry {H : Type} : Lit × DataW H → Nat
  | (.string bytes, d) => bytes.length + uptoBulk d + 1
  | (_, d) => uptoBulk d + 1
 end
def uptoSmall : (H : Type) → List (DataW H) → Bool := fun _ ds => decide (uptoBulkAll ds ≤ 1048576)
def OpenSpec.upto (s : _root_.Go.ChangeSpec) : _root_.Go.OpenSpec := { _root_.Go.OpenSpec.ofChange s with cond := some uptoSmall }

/-- 'headwaterlaw14.VersionNames', WHERE WHAT IT READS IS OF BULK AT MOST 1048576: true; the input reads as it did. -/
def versionNamesUptoRow : OpenClaim := { program := "ytbecokebaikhaaagreat", sum := "1737cf22213439119c22c2bfa94f9775dcea88e4ba7a9aa62e5c0d9593ac46b2", func := "headwater/headwaterlaw14.VersionNames", spec := "versionNames", unfollowed := true, recurses := true, plainKeys := false, apart := false, narrowed := true }
def VersionNamesUptoSaid : Prop := versionNamesUptoRow.holds Tryz.pinned (OpenSpec.upto versionNamesSpec)

/-- 'headwaterlaw21.QuorumCounts', WHERE WHAT IT READS IS OF BULK AT MOST 1048576: true; the input reads as it did. -/
def quorumCountsUptoRow : OpenClaim := { program := "ytbecokebaikhaaagreat", sum := "1737cf22213439119c22c2bfa94f9775dcea88e4ba7a9aa62e5c0d9593ac46b2", func := "headwater/headwaterlaw21.QuorumCounts", spec := "quorumCounts", inPlace := ["internal/bytealg.Compare", "slices.overlaps[headwater/api.Digest]"], unfollowed := true, recurses := true, plainKeys := false, apart := false, narrowed := true }
def QuorumCountsUptoSaid : Prop := quorumCountsUptoRow.holds Tryz.pinned (OpenSpec.upto quorumCountsSpec)

/-- 'headwaterlaw21.QuorumNames', WHERE WHAT IT READS IS OF BULK AT MOST 1048576: true; the input reads as it did. -/
def quorumNamesUptoRow : OpenClaim := { program := "ytbecokebaikhaaagreat", sum := "1737cf22213439119c22c2bfa94f9775dcea88e4ba7a9aa62e5c0d9593ac46b2", func := "headwater/headwaterlaw21.QuorumNames", spec := "quorumNames", inPlace := ["internal/bytealg.Compare", "slices.overlaps[headwater/api.Vote]", "slices.overlaps[headwater/api.Digest]"], unfollowed := true, recurses := true, plainKeys := false, apart := false, narrowed := true }
def QuorumNamesUptoSaid : Prop := quorumNamesUptoRow.holds Tryz.pinned (OpenSpec.upto quorumNamesSpec)

/-- 'headwaterlaw21.QuorumMeets', WHERE WHAT IT READS IS OF BULK AT MOST 1048576: true; the input reads as it did. -/
def quorumMeetsUptoRow : OpenClaim := { program := "ytbecokebaikhaaagreat", sum := "1737cf22213439119c22c2bfa94f9775dcea88e4ba7a9aa62e5c0d9593ac46b2", func := "headwater/headwaterlaw21.QuorumMeets", spec := "quorumMeets", inPlace := ["internal/bytealg.Compare", "slices.overlaps[headwater/api.Digest]", "slices.overlaps[headwater/api.Vote]"], unfollowed := true, recurses := true, plainKeys := false, apart := false, narrowed := true }
def QuorumMeetsUptoSaid : Prop := quorumMeetsUptoRow.holds Tryz.pinned (OpenSpec.upto quorumMeetsSpec)

end Rows
end Go.Proofs.YtbecokebaikhaaaGreat
