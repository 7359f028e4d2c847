import Derived.Test.YtlmdfhkdeieceaaGreatWr
import Derived.Test.YtlmdfhkdeieceaaGreatWn
set_option linter.all false
namespace Go.Proofs.YtlmdfhkdeieceaaGreat
open Go Go.E
set_option maxRecDepth 1000000
set_option maxHeartbeats 0
attribute [local instance] glQ
theorem ends1:S.tabK ctxq usedL .lf (λ tab=>endsQ tab 1 s1_0 9)=true:=by kernel_rfl
theorem ends2:S.tabK ctxq usedL .lf (λ tab=>endsQ tab 2 s2_2 13)=true:=by kernel_rfl
theorem ends3:S.tabK ctxq usedL .lf (λ tab=>endsQ tab 3 s3_3 17)=true:=by kernel_rfl
theorem ends4:S.tabK ctxq usedL .lf (λ tab=>endsQ tab 4 s4_2 21)=true:=by kernel_rfl
end Go.Proofs.YtlmdfhkdeieceaaGreat
