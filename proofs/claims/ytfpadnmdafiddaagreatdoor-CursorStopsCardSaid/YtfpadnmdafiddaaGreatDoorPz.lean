import Derived.Test.YtfpadnmdafiddaaGreatDoorP0
import Derived.Test.YtfpadnmdafiddaaGreatDoorPx
import Derived.Test.YtfpadnmdafiddaaGreatDoorPy
set_option linter.all false
namespace Go.Proofs.YtfpadnmdafiddaaGreatDoor.lawCursorStops
open Go Go.RowKit Go.V Go.ChangeShapes Go.WideShapes Go.ChangeAt
set_option maxRecDepth 1000000
theorem wraps:Tryz.f8.isWrapper Tryz.prog Rows.cursorStopsRow.wrapper Rows.cursorStopsRow.mainSum:=by unfold Func.isWrapper;first|(rw [if_pos (by decide +kernel)];kernel_rfl)|(rw [if_neg (by decide +kernel)];exact ⟨rfl,rfl⟩)
theorem row:Rows.CursorStopsSaid :=
 OpenClaim.holds_of_wide 8 Tryz.f8 rfl rfl rfl rfl rfl rfl rfl ⟨rfl,rfl,rfl,rfl,rfl⟩ rfl rfl rfl rfl rfl nm_cursorStops Tryz.func8 jf_cursorStops
  (of_decide_eq_true kR) wraps
  (λ os a0 H enc _=>lifted os a0 H enc)
theorem proved:Rows.CursorStopsCardSaid :=
 Claim7.holds_tied_plain_at .later [] [.data] true (true,"6f6d30f61290dc203a023b6014750139306276d3a10cb5c46fac12e22161d000") true
  row (λ _ h=>by cases h) kR (λ _ h=>by cases h) cursorStops_row_tie rfl ⟨rfl,rfl⟩ kR rfl
  (λ f fn hf f0=>by
   obtain rfl:f=8:=Option.some.inj ((show (Tryz.prog).funcNamed "headwater/headwaterlaw13.CursorStops" = some 8 by kernel_rfl).symm.trans hf) |>.symm;obtain rfl:fn=Tryz.f8:=(Option.some.inj (Tryz.func8.symm.trans f0)).symm
   exact ⟨kR,λ j t ht=>by
    rw [Tryz.params8] at ht;rcases j with _|_|_|j
    ·(obtain rfl:=Option.some.inj (show some _=some t from ht));kernel_rfl
    ·(obtain rfl:=Option.some.inj (show some _=some t from ht));kernel_rfl
    ·(obtain rfl:=Option.some.inj (show some _=some t from ht));kernel_rfl
    ·simp at ht⟩)
  go_cursorStops
end Go.Proofs.YtfpadnmdafiddaaGreatDoor.lawCursorStops
