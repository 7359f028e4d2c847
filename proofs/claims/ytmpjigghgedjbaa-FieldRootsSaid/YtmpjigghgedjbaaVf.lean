/-
  The V calculus, sixth text: remainders and quotients of numbers.
-/
import Derived.Test.YtmpjigghgedjbaaVe
namespace Go.V
open Go Go.RowKit
set_option linter.unusedSimpArgs false
set_option linter.unusedVariables false
section
variable {P : Program} {n : Nat} {e : Env} {w : World} {Q : Post} {ops : Array Oper} {rest : List Oper} {d : Nat} {ty : TypeId} {pos : String} {aft : Array Edge}
theorem TL.remU {zx zy : Int} {x y : Operand} {kd : IntKind} {a b : Nat} {t1 t2 : TypeId} (hx : val e x = some (.int kd zx)) [ix : Lit zx a] (hy : val e y = some (.int kd zy)) [iy : Lit zy b] (h : 0 < b) (hd : Nat.blt d n = true)
    (k : TL P n ops rest ((d, .int kd ((a % b : Nat) : Int)) :: e) w Q) : TL P n ops (⟨some d, .binOp .rem t1 x y t2, ty, pos, aft, none⟩ :: rest) e w Q :=
  TL.run (fun r hr => by
    rw [ix.h] at hx; rw [iy.h] at hy
    have h1 : b ≠ 0 := by omega
    have h2 : Int.tmod (a : Int) (b : Int) = ((a % b : Nat) : Int) := rfl
    simp [execOp, binOp, eqGuard_int, Op.intDiv, hr.eval hx, hr.eval hy, h1, h2]) hd k
theorem TL.isRem {t1 t2 : TypeId} {x y : Operand} {d : Option Nat} (h : TL P n ops (⟨d, .binOp .rem t1 x y t2, ty, pos, aft, none⟩ :: rest) e w Q) : TL P n ops (⟨d, .binOp .rem t1 x y t2, ty, pos, aft, none⟩ :: rest) e w Q := h
end
end Go.V
