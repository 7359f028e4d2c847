import Derived.Test.YtlmdfhkdeieceaaGreatWr
import Derived.Test.YtlmdfhkdeieceaaGreatWn
set_option linter.all false
namespace Go.Proofs.YtlmdfhkdeieceaaGreat
open Go Go.E
set_option maxRecDepth 1000000
set_option maxHeartbeats 0
attribute [local instance] glQ
theorem ends5:S.tabK ctxq usedL .lf (λ tab=>endsQ tab 5 s5_3 25)=true:=by kernel_rfl
theorem ends6:S.tabK ctxq usedL .lf (λ tab=>endsQ tab 6 s6_3 29)=true:=by kernel_rfl
theorem ends7:S.tabK ctxq usedL .lf (λ tab=>endsQ tab 7 s7_3 33)=true:=by kernel_rfl
end Go.Proofs.YtlmdfhkdeieceaaGreat
