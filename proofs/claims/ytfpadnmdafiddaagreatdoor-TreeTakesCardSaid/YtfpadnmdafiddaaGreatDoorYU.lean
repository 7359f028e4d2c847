import Derived.Test.YtfpadnmdafiddaaGreatDoorYb
import Derived.JoinedOf
import Derived.Stop.Joined
set_option linter.all false
namespace Go.Proofs.YtfpadnmdafiddaaGreatDoor.lawTreeTakes
open Go Go.RowKit
set_option maxRecDepth 1000000
theorem j_wf:Rows.treeTakesRow.wf (OpenSpec.ofChange Rows.treeTakesSpec)=true:=by kernel_rfl
theorem j_mapsRowed:mapsRowed Tryz.prog=true:=by kernel_rfl
theorem j_params:Tryz.f5.params.all (Tryz.prog.readableRec ·)=true:=by kernel_rfl
theorem j_namedTie:namedTie Tryz.prog Rows.treeTakesRow.named Rows.treeTakesSpec.vars=true:=by kernel_rfl
theorem j_stops:(Tryz.prog.stops==[])=true:=by kernel_rfl
theorem j_knobs:(Tryz.prog.stopKnobs==[])=true:=by kernel_rfl
theorem j_inPlace:(Rows.treeTakesRow.inPlace==Tryz.prog.inPlace 5)=true:=by kernel_rfl
theorem j_unfollowed:(Rows.treeTakesRow.unfollowed==Tryz.prog.unfollowed 5)=true:=by kernel_rfl
theorem j_recurses:(Rows.treeTakesRow.recurses==Tryz.prog.recurses 5)=true:=by kernel_rfl
theorem j_named:(Rows.treeTakesRow.named==Tryz.prog.varsNamed 5)=true:=by kernel_rfl
theorem j_maps:(Rows.treeTakesRow.maps==(Tryz.f5.params.toList++Rows.treeTakesSpec.plain.varTypes Tryz.prog).any (Tryz.prog.mapsRec ·))=true:=by kernel_rfl
theorem j_ifaces:(Rows.treeTakesRow.ifaces==(Tryz.f5.params.toList++Rows.treeTakesSpec.plain.varTypes Tryz.prog).any (Tryz.prog.ifacesRec ·))=true:=by kernel_rfl
theorem j_loops:(Rows.treeTakesRow.loops==(Tryz.f5.params.toList++Rows.treeTakesSpec.plain.varTypes Tryz.prog).any (Tryz.prog.loopsFrom ·))=true:=by kernel_rfl
theorem j_wideKeys:(Rows.treeTakesRow.wideKeys==(Tryz.f5.params.toList++Rows.treeTakesSpec.plain.varTypes Tryz.prog++Tryz.f5.resultTypes.toList).any (Tryz.prog.wideKeysFrom ·))=true:=by kernel_rfl
theorem j_plainKeys:(Rows.treeTakesRow.plainKeys==Tryz.prog.plainKeys)=true:=by kernel_rfl
theorem j_stopsHeard:Tryz.prog.stopsHeard=true:=by kernel_rfl
theorem j_mayEnter:Tryz.prog.mayEnter=true:=by kernel_rfl
theorem j_lifted:(Rows.treeTakesRow.lifted==Tryz.prog.liftsFinal)=true:=by kernel_rfl
theorem j_make:(Tryz.prog.make==some Rows.treeTakesRow.make)=true:=by kernel_rfl
theorem j_veiled:(Rows.treeTakesRow.veiled==(Tryz.f5.params.toList++Rows.treeTakesSpec.plain.varTypes Tryz.prog++Tryz.f5.resultTypes.toList).any (Tryz.prog.veiledRec ·))=true:=by kernel_rfl
theorem j_veiledFits:Rows.treeTakesRow.veiledFits Tryz.prog Tryz.f5.params.toList (Tryz.f5.params.toList++Rows.treeTakesSpec.plain.varTypes Tryz.prog++Tryz.f5.resultTypes.toList)=true:=by kernel_rfl
end Go.Proofs.YtfpadnmdafiddaaGreatDoor.lawTreeTakes
