import Derived.Test.YtfpadnmdafiddaaGreatDoorKl
import Derived.Test.YtfpadnmdafiddaaGreatDoorKm
set_option linter.all false
namespace Go.Proofs.YtfpadnmdafiddaaGreatDoor.lawVersionSweeps
open Go Go.RowKit Go.V Go.ChangeShapes Go.WideShapes Go.ChangeAt
set_option maxRecDepth 1000000
theorem iY {a b:Bool} (h:a=true) (k:b=true):(a&&b)=true:=by rw [h,k];rfl
theorem closed:joinedFacts Tryz.prog 12 Tryz.f12 Rows.versionSweepsSpec Rows.versionSweepsRow=true:=by
 unfold joinedFacts
 exact (iY (iY (iY (iY (iY (iY (iY (iY (iY (iY (iY (iY (iY (iY (iY (iY (iY (iY (iY (iY (iY (iY (iY (iY (iY (iY (iY (iY (iY (iY (iY j_wf laid_out) j_mapsRowed) j_params) j_namedTie) rfl) j_stops) rfl) j_knobs) j_inPlace) j_unfollowed) j_recurses) j_named) j_maps) j_ifaces) (by kernel_rfl)) j_loops) j_wideKeys) (by kernel_rfl)) (by kernel_rfl)) (by kernel_rfl)) (by kernel_rfl)) j_plainKeys) rfl) j_stopsHeard) j_mayEnter) j_lifted) j_make) (by kernel_rfl)) (by kernel_rfl)) j_veiled) j_veiledFits)
theorem named_:(Tryz.prog).funcNamed "headwater/headwaterlaw14.VersionSweeps" = some 12:=by kernel_rfl
theorem wraps:Tryz.f12.isWrapper Tryz.prog Rows.versionSweepsRow.wrapper Rows.versionSweepsRow.mainSum:=by unfold Func.isWrapper;first|(rw [if_pos (by decide +kernel)];kernel_rfl)|(rw [if_neg (by decide +kernel)];exact ⟨rfl,rfl⟩)
theorem row:Rows.VersionSweepsSaid :=
 OpenClaim.holds_of_wide 12 Tryz.f12 rfl rfl rfl rfl rfl rfl rfl ⟨rfl,rfl,rfl,rfl,rfl⟩ rfl rfl rfl rfl rfl named_ Tryz.func12 closed
  (of_decide_eq_true (by kernel_rfl)) wraps
  (λ os started H enc _=>lifted os started H enc)
end Go.Proofs.YtfpadnmdafiddaaGreatDoor.lawVersionSweeps
