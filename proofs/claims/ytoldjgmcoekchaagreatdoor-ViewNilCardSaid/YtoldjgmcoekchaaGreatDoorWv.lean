import Derived.Test.YtoldjgmcoekchaaGreatDoorWr
import Derived.Test.YtoldjgmcoekchaaGreatDoorWs
set_option linter.all false
namespace Go.Proofs.YtoldjgmcoekchaaGreatDoor
open Go Go.RowKit Go.V Go.E
set_option maxRecDepth 1000000
set_option maxHeartbeats 0
attribute [local instance] glW
theorem tabA2_run:callN false ctx1j true 200 1 1 (.fn 161) (tabA2.ar.map byV) .lf 1 (λ v _ _=>isBy tabA2.r v)=true :=
 S.run_ok conTj_p (fs:=[161,235,234,237,232,313,312,314,315,316,317,308,236,309,310,238,319,369,372,318,311,321,320,373]) (by kernel_rfl)
end Go.Proofs.YtoldjgmcoekchaaGreatDoor
