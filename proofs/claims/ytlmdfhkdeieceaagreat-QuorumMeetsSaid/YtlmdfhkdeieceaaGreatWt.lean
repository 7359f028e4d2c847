import Derived.Test.YtlmdfhkdeieceaaGreatWr
import Derived.Test.YtlmdfhkdeieceaaGreatWn
set_option linter.all false
namespace Go.Proofs.YtlmdfhkdeieceaaGreat
open Go Go.E
set_option maxRecDepth 1000000
set_option maxHeartbeats 0
attribute [local instance] glQ
theorem start5:S.tabK ctxq usedL .lf (λ tab=>startQ tab 5 s5_0 17)=true:=by kernel_rfl
theorem start6:S.tabK ctxq usedL .lf (λ tab=>startQ tab 6 s6_0 19)=true:=by kernel_rfl
theorem start7:S.tabK ctxq usedL .lf (λ tab=>startQ tab 7 s7_0 21)=true:=by kernel_rfl
end Go.Proofs.YtlmdfhkdeieceaaGreat
