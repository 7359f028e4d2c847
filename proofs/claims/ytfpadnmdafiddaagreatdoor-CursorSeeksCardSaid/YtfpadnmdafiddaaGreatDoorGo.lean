import Derived.Test.YtfpadnmdafiddaaGreatDoorG0
import Derived.Test.YtfpadnmdafiddaaGreatDoorGm
import Derived.Test.YtfpadnmdafiddaaGreatDoorGn
set_option linter.all false
namespace Go.Proofs.YtfpadnmdafiddaaGreatDoor.lawCursorSeeks
open Go Go.RowKit Go.V Go.ChangeShapes Go.WideShapes Go.ChangeAt
set_option maxRecDepth 1000000
theorem wraps:Tryz.f10.isWrapper Tryz.prog Rows.cursorSeeksRow.wrapper Rows.cursorSeeksRow.mainSum:=by unfold Func.isWrapper;first|(rw [if_pos (by decide +kernel)];kernel_rfl)|(rw [if_neg (by decide +kernel)];exact ⟨rfl,rfl⟩)
theorem row:Rows.CursorSeeksSaid :=
 OpenClaim.holds_of_wide 10 Tryz.f10 rfl rfl rfl rfl rfl rfl rfl ⟨rfl,rfl,rfl,rfl,rfl⟩ rfl rfl rfl rfl rfl nm_cursorSeeks Tryz.func10 jf_cursorSeeks
  (of_decide_eq_true kR) wraps
  (λ os started H enc _=>lifted os started H enc)
theorem proved:Rows.CursorSeeksCardSaid :=
 Claim7.holds_tied_plain_at .later [] [.data] true (true,"6f6d30f61290dc203a023b6014750139306276d3a10cb5c46fac12e22161d000") true
  row (λ _ h=>by cases h) kR (λ _ h=>by cases h) cursorSeeks_row_tie rfl ⟨rfl,rfl⟩ kR rfl
  (λ f fn hf hfn=>by
   obtain rfl:f=10:=Option.some.inj ((show (Tryz.prog).funcNamed "headwater/headwaterlaw13.CursorSeeks" = some 10 by kernel_rfl).symm.trans hf) |>.symm;obtain rfl:fn=Tryz.f10:=(Option.some.inj (Tryz.func10.symm.trans hfn)).symm
   exact ⟨kR,λ j t ht=>by
    rw [Tryz.params10] at ht;rcases j with _|_|_|_|j
    ·(obtain rfl:=Option.some.inj (show some _=some t from ht));kernel_rfl
    ·(obtain rfl:=Option.some.inj (show some _=some t from ht));kernel_rfl
    ·(obtain rfl:=Option.some.inj (show some _=some t from ht));kernel_rfl
    ·(obtain rfl:=Option.some.inj (show some _=some t from ht));kernel_rfl
    ·simp at ht⟩)
  go_cursorSeeks
end Go.Proofs.YtfpadnmdafiddaaGreatDoor.lawCursorSeeks
