import Derived.Test.YtlmdfhkdeieceaaGreatWr
set_option linter.all false
namespace Go.Proofs.YtlmdfhkdeieceaaGreat
open Go Go.E
set_option maxRecDepth 1000000
set_option maxHeartbeats 0
attribute [local instance] glQ
theorem last7 (v6:V) (chk:V→Bool):S.tabK ctxq usedL .lf (λ tab=>lastQ tab 7 5 s7_3 33 s7_3 33 v6 chk)=chk v6:=by kernel_rfl
end Go.Proofs.YtlmdfhkdeieceaaGreat
