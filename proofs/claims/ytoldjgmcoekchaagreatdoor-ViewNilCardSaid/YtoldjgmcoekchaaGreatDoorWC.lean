import Derived.Test.YtoldjgmcoekchaaGreatDoorWy
set_option linter.all false
namespace Go.Proofs.YtoldjgmcoekchaaGreatDoor
open Go Go.RowKit Go.V Go.E
set_option maxRecDepth 1000000
set_option maxHeartbeats 0
attribute [local instance] glW
theorem tabG0_run:∀ t,callN false ctx2 true 200 2 2 (.fn 111) tabG0.args (h1row t tabG0.n tabG0.s) 2 (λ v _ _=>tabG0.r.is v)=true :=
 λ t=>S.run_ok conT2_p (fs:=[111,170,171,173,174,175,172,243,245,244,246,247,249,248,251,250,253,252,254,262,263,255,256,325,326,327,331,333,332,334,335,269,178,177,337,375,328,330,267,266,268,381,382,383,376,379,341,340,407]) (by kernel_rfl)
end Go.Proofs.YtoldjgmcoekchaaGreatDoor
