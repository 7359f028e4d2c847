import Derived.Test.YtlmdfhkdeieceaaGreatWr
import Derived.Test.YtlmdfhkdeieceaaGreatWn
set_option linter.all false
namespace Go.Proofs.YtlmdfhkdeieceaaGreat
open Go Go.E
set_option maxRecDepth 1000000
set_option maxHeartbeats 0
attribute [local instance] glQ
theorem turn1_0 (v6:V) (chk:V→Bool):S.tabK ctxq usedL .lf (λ tab=>turnQ tab 1 s1_0 9 s1_0 9 v6 chk)=chk v6:=by kernel_rfl
theorem turn2_0 (v6:V) (chk:V→Bool):S.tabK ctxq usedL .lf (λ tab=>turnQ tab 2 s2_0 11 s2_1 13 v6 chk)=chk v6:=by kernel_rfl
theorem turn2_1 (v6:V) (chk:V→Bool):S.tabK ctxq usedL .lf (λ tab=>turnQ tab 2 s2_1 13 s2_2 13 v6 chk)=chk v6:=by kernel_rfl
theorem turn2_2 (v6:V) (chk:V→Bool):S.tabK ctxq usedL .lf (λ tab=>turnQ tab 2 s2_2 13 s2_2 13 v6 chk)=chk v6:=by kernel_rfl
end Go.Proofs.YtlmdfhkdeieceaaGreat
