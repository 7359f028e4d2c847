import Derived.Test.YtlmdfhkdeieceaaGreatWr
import Derived.Test.YtlmdfhkdeieceaaGreatWn
set_option linter.all false
namespace Go.Proofs.YtlmdfhkdeieceaaGreat
open Go Go.E
set_option maxRecDepth 1000000
set_option maxHeartbeats 0
attribute [local instance] glQ
theorem start1:S.tabK ctxq usedL .lf (λ tab=>startQ tab 1 s1_0 9)=true:=by kernel_rfl
theorem start2:S.tabK ctxq usedL .lf (λ tab=>startQ tab 2 s2_0 11)=true:=by kernel_rfl
theorem start3:S.tabK ctxq usedL .lf (λ tab=>startQ tab 3 s3_0 13)=true:=by kernel_rfl
theorem start4:S.tabK ctxq usedL .lf (λ tab=>startQ tab 4 s4_0 15)=true:=by kernel_rfl
end Go.Proofs.YtlmdfhkdeieceaaGreat
