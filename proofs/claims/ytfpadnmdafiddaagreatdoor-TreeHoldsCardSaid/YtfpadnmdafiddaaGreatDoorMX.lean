import Derived.Test.YtfpadnmdafiddaaGreatDoorMU
import Derived.Test.YtfpadnmdafiddaaGreatDoorMV
set_option linter.all false
namespace Go.Proofs.YtfpadnmdafiddaaGreatDoor.lawTreeHolds
open Go Go.RowKit Go.V Go.ChangeShapes Go.WideShapes Go.ChangeAt
set_option maxRecDepth 1000000
theorem iY {a b:Bool} (h:a=true) (k:b=true):(a&&b)=true:=by rw [h,k];rfl
theorem closed:joinedFacts Tryz.prog 4 Tryz.f4 Rows.treeHoldsSpec Rows.treeHoldsRow=true:=by
 unfold joinedFacts
 exact (iY (iY (iY (iY (iY (iY (iY (iY (iY (iY (iY (iY (iY (iY (iY (iY (iY (iY (iY (iY (iY (iY (iY (iY (iY (iY (iY (iY (iY (iY (iY j_wf laid_out) j_mapsRowed) j_params) j_namedTie) rfl) j_stops) rfl) j_knobs) j_inPlace) j_unfollowed) j_recurses) j_named) j_maps) j_ifaces) (by kernel_rfl)) j_loops) j_wideKeys) (by kernel_rfl)) (by kernel_rfl)) (by kernel_rfl)) (by kernel_rfl)) j_plainKeys) rfl) j_stopsHeard) j_mayEnter) j_lifted) j_make) (by kernel_rfl)) (by kernel_rfl)) j_veiled) j_veiledFits)
theorem named_:(Tryz.prog).funcNamed "headwater/headwaterlaw12.TreeHolds" = some 4:=by kernel_rfl
theorem wraps:Tryz.f4.isWrapper Tryz.prog Rows.treeHoldsRow.wrapper Rows.treeHoldsRow.mainSum:=by unfold Func.isWrapper;first|(rw [if_pos (by decide +kernel)];kernel_rfl)|(rw [if_neg (by decide +kernel)];exact ⟨rfl,rfl⟩)
theorem row:Rows.TreeHoldsSaid :=
 OpenClaim.holds_of_wide 4 Tryz.f4 rfl rfl rfl rfl rfl rfl rfl ⟨rfl,rfl,rfl,rfl,rfl⟩ rfl rfl rfl rfl rfl named_ Tryz.func4 closed
  (of_decide_eq_true (by kernel_rfl)) wraps
  (λ os started H enc _=>lifted os started H enc)
end Go.Proofs.YtfpadnmdafiddaaGreatDoor.lawTreeHolds
