import Derived.Test.YtfpadnmdafiddaaGreatDoorQb
import Derived.JoinedOf
import Derived.Stop.Joined
set_option linter.all false
namespace Go.Proofs.YtfpadnmdafiddaaGreatDoor.lawTreeOrders
open Go Go.RowKit
set_option maxRecDepth 1000000
theorem j_wf:Rows.treeOrdersRow.wf (OpenSpec.ofChange Rows.treeOrdersSpec)=true:=by kernel_rfl
theorem j_mapsRowed:mapsRowed Tryz.prog=true:=by kernel_rfl
theorem j_params:Tryz.f3.params.all (Tryz.prog.readableRec ·)=true:=by kernel_rfl
theorem j_namedTie:namedTie Tryz.prog Rows.treeOrdersRow.named Rows.treeOrdersSpec.vars=true:=by kernel_rfl
theorem j_stops:(Tryz.prog.stops==[])=true:=by kernel_rfl
theorem j_knobs:(Tryz.prog.stopKnobs==[])=true:=by kernel_rfl
theorem j_inPlace:(Rows.treeOrdersRow.inPlace==Tryz.prog.inPlace 3)=true:=by kernel_rfl
theorem j_unfollowed:(Rows.treeOrdersRow.unfollowed==Tryz.prog.unfollowed 3)=true:=by kernel_rfl
theorem j_recurses:(Rows.treeOrdersRow.recurses==Tryz.prog.recurses 3)=true:=by kernel_rfl
theorem j_named:(Rows.treeOrdersRow.named==Tryz.prog.varsNamed 3)=true:=by kernel_rfl
theorem j_maps:(Rows.treeOrdersRow.maps==(Tryz.f3.params.toList++Rows.treeOrdersSpec.plain.varTypes Tryz.prog).any (Tryz.prog.mapsRec ·))=true:=by kernel_rfl
theorem j_ifaces:(Rows.treeOrdersRow.ifaces==(Tryz.f3.params.toList++Rows.treeOrdersSpec.plain.varTypes Tryz.prog).any (Tryz.prog.ifacesRec ·))=true:=by kernel_rfl
theorem j_loops:(Rows.treeOrdersRow.loops==(Tryz.f3.params.toList++Rows.treeOrdersSpec.plain.varTypes Tryz.prog).any (Tryz.prog.loopsFrom ·))=true:=by kernel_rfl
theorem j_wideKeys:(Rows.treeOrdersRow.wideKeys==(Tryz.f3.params.toList++Rows.treeOrdersSpec.plain.varTypes Tryz.prog++Tryz.f3.resultTypes.toList).any (Tryz.prog.wideKeysFrom ·))=true:=by kernel_rfl
theorem j_plainKeys:(Rows.treeOrdersRow.plainKeys==Tryz.prog.plainKeys)=true:=by kernel_rfl
theorem j_stopsHeard:Tryz.prog.stopsHeard=true:=by kernel_rfl
theorem j_mayEnter:Tryz.prog.mayEnter=true:=by kernel_rfl
theorem j_lifted:(Rows.treeOrdersRow.lifted==Tryz.prog.liftsFinal)=true:=by kernel_rfl
theorem j_make:(Tryz.prog.make==some Rows.treeOrdersRow.make)=true:=by kernel_rfl
theorem j_veiled:(Rows.treeOrdersRow.veiled==(Tryz.f3.params.toList++Rows.treeOrdersSpec.plain.varTypes Tryz.prog++Tryz.f3.resultTypes.toList).any (Tryz.prog.veiledRec ·))=true:=by kernel_rfl
theorem j_veiledFits:Rows.treeOrdersRow.veiledFits Tryz.prog Tryz.f3.params.toList (Tryz.f3.params.toList++Rows.treeOrdersSpec.plain.varTypes Tryz.prog++Tryz.f3.resultTypes.toList)=true:=by kernel_rfl
end Go.Proofs.YtfpadnmdafiddaaGreatDoor.lawTreeOrders
