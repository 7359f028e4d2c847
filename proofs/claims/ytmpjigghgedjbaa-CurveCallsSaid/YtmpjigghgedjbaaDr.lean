import Derived.Test.YtmpjigghgedjbaaDg
import Derived.Test.YtmpjigghgedjbaaDf
set_option linter.unusedSimpArgs false
set_option linter.unusedVariables false
set_option linter.unusedSectionVars false
set_option maxHeartbeats 16000000
set_option maxRecDepth 100000
namespace Go.Proofs.Ytmpjigghgedjbaa
open Go Go.RowKit Go.V
end Go.Proofs.Ytmpjigghgedjbaa
namespace Go.Proofs.Ytmpjigghgedjbaa
open Go Go.RowKit Go.V
end Go.Proofs.Ytmpjigghgedjbaa
namespace Go.Proofs.Ytmpjigghgedjbaa
open Go Go.RowKit Go.V
def Rd (w : World) (b o n N : Nat) : Prop := b < w.heap.size ∧ ∀ i, i < n → w.cell? ⟨b, o + i, none⟩ = some (B1 (byteN N i))
theorem Rd.num {w : World} {b N : Nat} {t : TypeId} (h : Blk w b t (numL N)) : Rd w b 0 32 N := ⟨h.lt, fun i hi => by rw [Nat.zero_add]; exact h.cell (numL_at hi)⟩
end Go.Proofs.Ytmpjigghgedjbaa
namespace Go.V
open Go Go.RowKit
section
variable {P : Program} {n : Nat} {e : Env} {w : World} {Q : Post} {ops : Array Oper} {rest : List Oper} {d : Nat} {ty : TypeId} {pos : String} {aft : Array Edge}
end
end Go.V
namespace Go.Proofs.Ytmpjigghgedjbaa
open Go Go.RowKit Go.V
end Go.Proofs.Ytmpjigghgedjbaa
