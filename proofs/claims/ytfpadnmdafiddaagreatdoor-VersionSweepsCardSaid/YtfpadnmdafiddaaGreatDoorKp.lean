import Derived.Test.YtfpadnmdafiddaaGreatDoorKn
import Derived.Test.YtfpadnmdafiddaaGreatDoorKo
set_option linter.all false
namespace Go.Proofs.YtfpadnmdafiddaaGreatDoor.lawVersionSweeps
open Go Go.RowKit Go.V Go.ChangeShapes Go.WideShapes Go.ChangeAt
set_option maxRecDepth 1000000
theorem proved:Rows.VersionSweepsCardSaid :=
 Claim7.holds_tied_plain_at .later [] [.data] true (true,"6f6d30f61290dc203a023b6014750139306276d3a10cb5c46fac12e22161d000") true
  row (λ _ h=>by cases h) (by kernel_rfl) (λ _ h=>by cases h) versionSweeps_row_tie rfl ⟨rfl,rfl⟩ (by kernel_rfl) rfl
  (λ f fn hf hfn=>by
   obtain rfl:f=12:=Option.some.inj ((show (Tryz.prog).funcNamed "headwater/headwaterlaw14.VersionSweeps" = some 12 by kernel_rfl).symm.trans hf) |>.symm
   obtain rfl:fn=Tryz.f12:=(Option.some.inj (Tryz.func12.symm.trans hfn)).symm
   exact ⟨by kernel_rfl,λ j t ht=>by
    rw [Tryz.params12] at ht
    cases j with
    | zero=>(obtain rfl:=Option.some.inj (show some _=some t from ht));kernel_rfl
    | succ j=>simp at ht⟩)
  go_versionSweeps
end Go.Proofs.YtfpadnmdafiddaaGreatDoor.lawVersionSweeps
