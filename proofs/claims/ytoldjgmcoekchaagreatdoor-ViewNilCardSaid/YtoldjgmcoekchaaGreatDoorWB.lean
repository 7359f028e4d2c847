import Derived.Test.YtoldjgmcoekchaaGreatDoorWy
set_option linter.all false
namespace Go.Proofs.YtoldjgmcoekchaaGreatDoor
open Go Go.RowKit Go.V Go.E
set_option maxRecDepth 1000000
set_option maxHeartbeats 0
attribute [local instance] glW
theorem tabS1_run:∀ t,callN false ctx2 true 200 2 2 (.fn 109) tabS1.args (h1row t tabS1.n tabS1.s) 2 (λ v _ _=>tabS1.r.is v)=true :=
 λ t=>S.run_ok conT2_p (fs:=[109,164,165,166,163,161,160,108,168,167,121,73,71,70,240,237,238,236,239,232,233,162,242,241,119,120,321,320,312,319,318,309,322,308,310,311,373,369,374]) (by kernel_rfl)
end Go.Proofs.YtoldjgmcoekchaaGreatDoor
