import Derived.Test.YtoldjgmcoekchaaGreatDoorWr
import Derived.Test.YtoldjgmcoekchaaGreatDoorWs
set_option linter.all false
namespace Go.Proofs.YtoldjgmcoekchaaGreatDoor
open Go Go.RowKit Go.V Go.E
set_option maxRecDepth 1000000
set_option maxHeartbeats 0
attribute [local instance] glW
theorem tabB1_run:callN false ctx1j true 200 1 1 (.fn 172) (tabB1.ar.map byV) .lf 1 (λ v _ _=>isBy tabB1.r v)=true :=
 S.run_ok conTj_p (fs:=[172,255,256,251,250,257,258,259,260,261,246,247,249,248,336,253,327,331,333,332,328,330,376,379]) (by kernel_rfl)
end Go.Proofs.YtoldjgmcoekchaaGreatDoor
