import Derived.Test.YtfpadnmdafiddaaGreatDoorYT
import Derived.Test.YtfpadnmdafiddaaGreatDoorYU
set_option linter.all false
namespace Go.Proofs.YtfpadnmdafiddaaGreatDoor.lawTreeTakes
open Go Go.RowKit Go.V Go.ChangeShapes Go.WideShapes Go.ChangeAt
set_option maxRecDepth 1000000
theorem and2 {a b:Bool} (h:a=true) (k:b=true):(a&&b)=true:=by rw [h,k];rfl
theorem closed:joinedFacts Tryz.prog 5 Tryz.f5 Rows.treeTakesSpec Rows.treeTakesRow=true:=by
 unfold joinedFacts
 exact (and2 (and2 (and2 (and2 (and2 (and2 (and2 (and2 (and2 (and2 (and2 (and2 (and2 (and2 (and2 (and2 (and2 (and2 (and2 (and2 (and2 (and2 (and2 (and2 (and2 (and2 (and2 (and2 (and2 (and2 (and2 j_wf laid_out) j_mapsRowed) j_params) j_namedTie) rfl) j_stops) rfl) j_knobs) j_inPlace) j_unfollowed) j_recurses) j_named) j_maps) j_ifaces) (by kernel_rfl)) j_loops) j_wideKeys) (by kernel_rfl)) (by kernel_rfl)) (by kernel_rfl)) (by kernel_rfl)) j_plainKeys) rfl) j_stopsHeard) j_mayEnter) j_lifted) j_make) (by kernel_rfl)) (by kernel_rfl)) j_veiled) j_veiledFits)
theorem named_:(Tryz.prog).funcNamed "headwater/headwaterlaw12.TreeTakes" = some 5:=by kernel_rfl
theorem wraps:Tryz.f5.isWrapper Tryz.prog Rows.treeTakesRow.wrapper Rows.treeTakesRow.mainSum:=by unfold Func.isWrapper;first|(rw [if_pos (by decide +kernel)];kernel_rfl)|(rw [if_neg (by decide +kernel)];exact ⟨rfl,rfl⟩)
theorem row:Rows.TreeTakesSaid :=
 OpenClaim.holds_of_wide 5 Tryz.f5 rfl rfl rfl rfl rfl rfl rfl ⟨rfl,rfl,rfl,rfl,rfl⟩ rfl rfl rfl rfl rfl named_ Tryz.func5 closed
  (of_decide_eq_true (by kernel_rfl)) wraps
  (λ os started H enc _=>lifted os started H enc)
end Go.Proofs.YtfpadnmdafiddaaGreatDoor.lawTreeTakes
