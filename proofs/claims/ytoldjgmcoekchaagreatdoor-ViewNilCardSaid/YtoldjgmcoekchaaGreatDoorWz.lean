import Derived.Test.YtoldjgmcoekchaaGreatDoorWy
set_option linter.all false
namespace Go.Proofs.YtoldjgmcoekchaaGreatDoor
open Go Go.RowKit Go.V Go.E
set_option maxRecDepth 1000000
set_option maxHeartbeats 0
attribute [local instance] glW
theorem tabE0_run:callN false ctx2 true 200 1 1 (.fn 108) (tabE0.ar.map byV) .lf 1 (λ v _ _=>isBy tabE0.r v)=true :=
 S.run_ok conT2_p (fs:=[108,162,163,161,160,164,237,238,236,239,232,233,165,321,320,312,319,318,309,322,308,310,311,121,73,71,70,373,369,374,119,120]) (by kernel_rfl)
end Go.Proofs.YtoldjgmcoekchaaGreatDoor
