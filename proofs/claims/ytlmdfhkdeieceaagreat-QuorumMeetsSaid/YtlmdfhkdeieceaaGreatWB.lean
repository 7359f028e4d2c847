import Derived.Test.YtlmdfhkdeieceaaGreatWr
import Derived.Test.YtlmdfhkdeieceaaGreatWn
set_option linter.all false
namespace Go.Proofs.YtlmdfhkdeieceaaGreat
open Go Go.E
set_option maxRecDepth 1000000
set_option maxHeartbeats 0
attribute [local instance] glQ
theorem turn4_2 (v6:V) (chk:V→Bool):S.tabK ctxq usedL .lf (λ tab=>turnQ tab 4 s4_2 21 s4_2 21 v6 chk)=chk v6:=by kernel_rfl
end Go.Proofs.YtlmdfhkdeieceaaGreat
