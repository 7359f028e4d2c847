import Derived.Test.YtfpadnmdafiddaaGreatDoorKa
import Derived.JoinedOf
import Derived.Stop.Joined
set_option linter.all false
namespace Go.Proofs.YtfpadnmdafiddaaGreatDoor.lawVersionSweeps
open Go Go.RowKit
set_option maxRecDepth 1000000
theorem j_wf:Rows.versionSweepsRow.wf (OpenSpec.ofChange Rows.versionSweepsSpec)=true:=by kernel_rfl
theorem j_mapsRowed:mapsRowed Tryz.prog=true:=by kernel_rfl
theorem j_params:Tryz.f12.params.all (Tryz.prog.readableRec ·)=true:=by kernel_rfl
theorem j_namedTie:namedTie Tryz.prog Rows.versionSweepsRow.named Rows.versionSweepsSpec.vars=true:=by kernel_rfl
theorem j_stops:(Tryz.prog.stops==[])=true:=by kernel_rfl
theorem j_knobs:(Tryz.prog.stopKnobs==[])=true:=by kernel_rfl
theorem j_inPlace:(Rows.versionSweepsRow.inPlace==Tryz.prog.inPlace 12)=true:=by kernel_rfl
theorem j_unfollowed:(Rows.versionSweepsRow.unfollowed==Tryz.prog.unfollowed 12)=true:=by kernel_rfl
theorem j_recurses:(Rows.versionSweepsRow.recurses==Tryz.prog.recurses 12)=true:=by kernel_rfl
theorem j_named:(Rows.versionSweepsRow.named==Tryz.prog.varsNamed 12)=true:=by kernel_rfl
theorem j_maps:(Rows.versionSweepsRow.maps==(Tryz.f12.params.toList++Rows.versionSweepsSpec.plain.varTypes Tryz.prog).any (Tryz.prog.mapsRec ·))=true:=by kernel_rfl
theorem j_ifaces:(Rows.versionSweepsRow.ifaces==(Tryz.f12.params.toList++Rows.versionSweepsSpec.plain.varTypes Tryz.prog).any (Tryz.prog.ifacesRec ·))=true:=by kernel_rfl
theorem j_loops:(Rows.versionSweepsRow.loops==(Tryz.f12.params.toList++Rows.versionSweepsSpec.plain.varTypes Tryz.prog).any (Tryz.prog.loopsFrom ·))=true:=by kernel_rfl
theorem j_wideKeys:(Rows.versionSweepsRow.wideKeys==(Tryz.f12.params.toList++Rows.versionSweepsSpec.plain.varTypes Tryz.prog++Tryz.f12.resultTypes.toList).any (Tryz.prog.wideKeysFrom ·))=true:=by kernel_rfl
theorem j_plainKeys:(Rows.versionSweepsRow.plainKeys==Tryz.prog.plainKeys)=true:=by kernel_rfl
theorem j_stopsHeard:Tryz.prog.stopsHeard=true:=by kernel_rfl
theorem j_mayEnter:Tryz.prog.mayEnter=true:=by kernel_rfl
theorem j_lifted:(Rows.versionSweepsRow.lifted==Tryz.prog.liftsFinal)=true:=by kernel_rfl
theorem j_make:(Tryz.prog.make==some Rows.versionSweepsRow.make)=true:=by kernel_rfl
theorem j_veiled:(Rows.versionSweepsRow.veiled==(Tryz.f12.params.toList++Rows.versionSweepsSpec.plain.varTypes Tryz.prog++Tryz.f12.resultTypes.toList).any (Tryz.prog.veiledRec ·))=true:=by kernel_rfl
theorem j_veiledFits:Rows.versionSweepsRow.veiledFits Tryz.prog Tryz.f12.params.toList (Tryz.f12.params.toList++Rows.versionSweepsSpec.plain.varTypes Tryz.prog++Tryz.f12.resultTypes.toList)=true:=by kernel_rfl
end Go.Proofs.YtfpadnmdafiddaaGreatDoor.lawVersionSweeps
