import Derived.Test.YtfpadnmdafiddaaGreatDoorMb
import Derived.JoinedOf
import Derived.Stop.Joined
set_option linter.all false
namespace Go.Proofs.YtfpadnmdafiddaaGreatDoor.lawTreeHolds
open Go Go.RowKit
set_option maxRecDepth 1000000
theorem j_wf:Rows.treeHoldsRow.wf (OpenSpec.ofChange Rows.treeHoldsSpec)=true:=by kernel_rfl
theorem j_mapsRowed:mapsRowed Tryz.prog=true:=by kernel_rfl
theorem j_params:Tryz.f4.params.all (Tryz.prog.readableRec ·)=true:=by kernel_rfl
theorem j_namedTie:namedTie Tryz.prog Rows.treeHoldsRow.named Rows.treeHoldsSpec.vars=true:=by kernel_rfl
theorem j_stops:(Tryz.prog.stops==[])=true:=by kernel_rfl
theorem j_knobs:(Tryz.prog.stopKnobs==[])=true:=by kernel_rfl
theorem j_inPlace:(Rows.treeHoldsRow.inPlace==Tryz.prog.inPlace 4)=true:=by kernel_rfl
theorem j_unfollowed:(Rows.treeHoldsRow.unfollowed==Tryz.prog.unfollowed 4)=true:=by kernel_rfl
theorem j_recurses:(Rows.treeHoldsRow.recurses==Tryz.prog.recurses 4)=true:=by kernel_rfl
theorem j_named:(Rows.treeHoldsRow.named==Tryz.prog.varsNamed 4)=true:=by kernel_rfl
theorem j_maps:(Rows.treeHoldsRow.maps==(Tryz.f4.params.toList++Rows.treeHoldsSpec.plain.varTypes Tryz.prog).any (Tryz.prog.mapsRec ·))=true:=by kernel_rfl
theorem j_ifaces:(Rows.treeHoldsRow.ifaces==(Tryz.f4.params.toList++Rows.treeHoldsSpec.plain.varTypes Tryz.prog).any (Tryz.prog.ifacesRec ·))=true:=by kernel_rfl
theorem j_loops:(Rows.treeHoldsRow.loops==(Tryz.f4.params.toList++Rows.treeHoldsSpec.plain.varTypes Tryz.prog).any (Tryz.prog.loopsFrom ·))=true:=by kernel_rfl
theorem j_wideKeys:(Rows.treeHoldsRow.wideKeys==(Tryz.f4.params.toList++Rows.treeHoldsSpec.plain.varTypes Tryz.prog++Tryz.f4.resultTypes.toList).any (Tryz.prog.wideKeysFrom ·))=true:=by kernel_rfl
theorem j_plainKeys:(Rows.treeHoldsRow.plainKeys==Tryz.prog.plainKeys)=true:=by kernel_rfl
theorem j_stopsHeard:Tryz.prog.stopsHeard=true:=by kernel_rfl
theorem j_mayEnter:Tryz.prog.mayEnter=true:=by kernel_rfl
theorem j_lifted:(Rows.treeHoldsRow.lifted==Tryz.prog.liftsFinal)=true:=by kernel_rfl
theorem j_make:(Tryz.prog.make==some Rows.treeHoldsRow.make)=true:=by kernel_rfl
theorem j_veiled:(Rows.treeHoldsRow.veiled==(Tryz.f4.params.toList++Rows.treeHoldsSpec.plain.varTypes Tryz.prog++Tryz.f4.resultTypes.toList).any (Tryz.prog.veiledRec ·))=true:=by kernel_rfl
theorem j_veiledFits:Rows.treeHoldsRow.veiledFits Tryz.prog Tryz.f4.params.toList (Tryz.f4.params.toList++Rows.treeHoldsSpec.plain.varTypes Tryz.prog++Tryz.f4.resultTypes.toList)=true:=by kernel_rfl
end Go.Proofs.YtfpadnmdafiddaaGreatDoor.lawTreeHolds
