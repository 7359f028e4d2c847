import Derived.Test.YtfpadnmdafiddaaGreatDoorMX
set_option linter.all false
namespace Go.Proofs.YtfpadnmdafiddaaGreatDoor.lawTreeHolds
open Go Go.RowKit Go.V Go.ChangeShapes Go.WideShapes Go.ChangeAt
set_option maxRecDepth 1000000
theorem proved:Rows.TreeHoldsCardSaid :=
 Claim7.holds_tied_plain_at .later [] [.data] true (true,"6f6d30f61290dc203a023b6014750139306276d3a10cb5c46fac12e22161d000") true
  row (λ _ h=>by cases h) (by kernel_rfl) (λ _ h=>by cases h) treeHolds_row_tie rfl ⟨rfl,rfl⟩ (by kernel_rfl) rfl
  (λ f fn hf hfn=>by
   obtain rfl:f=4:=Option.some.inj ((show (Tryz.prog).funcNamed "headwater/headwaterlaw12.TreeHolds" = some 4 by kernel_rfl).symm.trans hf) |>.symm
   obtain rfl:fn=Tryz.f4:=(Option.some.inj (Tryz.func4.symm.trans hfn)).symm
   exact ⟨by kernel_rfl,λ j t ht=>by
    rw [Tryz.params4] at ht
    cases j with
    | zero=>(obtain rfl:=Option.some.inj (show some _=some t from ht));kernel_rfl
    | succ j=>simp at ht⟩)
  (by kernel_rfl)
end Go.Proofs.YtfpadnmdafiddaaGreatDoor.lawTreeHolds
