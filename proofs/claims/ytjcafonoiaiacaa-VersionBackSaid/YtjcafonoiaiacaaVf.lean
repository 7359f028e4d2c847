/-
  The V calculus, sixth text: remainders and quotients of numbers.
-/
import Derived.Test.YtjcafonoiaiacaaVe
namespace Go.V
open Go Go.RowKit
set_option linter.unusedSimpArgs false
set_option linter.unusedVariables false
section
variable {P : Program} {n : Nat} {e : Env} {w : World} {Q : Post} {ops : Array Oper} {rest : List Oper} {d : Nat} {ty : TypeId} {pos : String} {aft : Array Edge}
theorem TL.remU {zx zy : Int} {x y : Operand} {kd : IntKind} {a b : Nat} {t1 t2 : TypeId} (hx : val e x = some (.int kd zx)) [ix : Lit zx a] (hy : val e y = some (.int kd zy)) [iy : Lit zy b] (h : 0 < b) (hd : Nat.blt d n = true)
    (k : TL P n ops rest ((d, .int kd ((a % b : Nat) : Int)) :: e) w Q) : TL P n ops (⟨some d, .binOp .rem t1 x y t2, ty, pos, aft, none⟩ :: rest) e w Q :=
  TL.run (fun r hr => by
    rw [ix.h] at hx; rw [iy.h] at hy
    have h1 : b ≠ 0 := by omega
    have h2 : Int.tmod (a : Int) (b : Int) = ((a % b : Nat) : Int) := rfl
    simp [execOp, binOp, eqGuard_int, Op.intDiv, hr.eval hx, hr.eval hy, h1, h2]) hd k
theorem TL.isRem {t1 t2 : TypeId} {x y : Operand} {d : Option Nat} (h : TL P n ops (⟨d, .binOp .rem t1 x y t2, ty, pos, aft, none⟩ :: rest) e w Q) : TL P n ops (⟨d, .binOp .rem t1 x y t2, ty, pos, aft, none⟩ :: rest) e w Q := h
/-- A first look at an operation: a call of this function, a comparison at this type. -/
theorem TL.isFn (f : Nat) {xs : Array Operand} {tys : Array TypeId} {d : Option Nat} (h : TL P n ops (⟨d, .call ⟨.value (.func f), xs, tys⟩, ty, pos, aft, none⟩ :: rest) e w Q) : TL P n ops (⟨d, .call ⟨.value (.func f), xs, tys⟩, ty, pos, aft, none⟩ :: rest) e w Q := h
theorem TL.isEqT (t1 : TypeId) {t2 : TypeId} {x y : Operand} {d : Option Nat} (h : TL P n ops (⟨d, .binOp .eql t1 x y t2, ty, pos, aft, none⟩ :: rest) e w Q) : TL P n ops (⟨d, .binOp .eql t1 x y t2, ty, pos, aft, none⟩ :: rest) e w Q := h
theorem TL.isNeT (t1 : TypeId) {t2 : TypeId} {x y : Operand} {d : Option Nat} (h : TL P n ops (⟨d, .binOp .neq t1 x y t2, ty, pos, aft, none⟩ :: rest) e w Q) : TL P n ops (⟨d, .binOp .neq t1 x y t2, ty, pos, aft, none⟩ :: rest) e w Q := h
theorem TL.isQuo {t1 t2 : TypeId} {x y : Operand} {d : Option Nat} (h : TL P n ops (⟨d, .binOp .quo t1 x y t2, ty, pos, aft, none⟩ :: rest) e w Q) : TL P n ops (⟨d, .binOp .quo t1 x y t2, ty, pos, aft, none⟩ :: rest) e w Q := h
end

section
variable {P : Program} {n : Nat} {e : Env} {w : World} {Q : Post}
/-- The first k pieces of a chain, then R; whoever leaves them otherwise is judged by Q. -/
def Upto (P : Program) (n : Nat) (R : Env → World → Prop) (Q : Post) : Nat → Code → Env → World → Prop
  | 0, _, e, w => R e w
  | k + 1, .seq a r, e, w => T P n a e w (fun x e' w' => match x with
    | .normal => Upto P n R Q k r e' w'
    | x => Q x e' w')
  | _ + 1, _, _, _ => False
def dropC : Nat → Code → Code
  | k + 1, .seq _ r => dropC k r
  | _, c => c
def uptoQ (P : Program) (n : Nat) (R : Env → World → Prop) (Q : Post) (k : Nat) (r : Code) : Post := fun x e' w' =>
  match x with
  | .normal => Upto P n R Q k r e' w'
  | x => Q x e' w'
theorem upto_seq {R : Env → World → Prop} {k : Nat} {a r : Code} (h : T P n a e w (uptoQ P n R Q k r)) : Upto P n R Q (k + 1) (.seq a r) e w := h
theorem upto_end {R : Env → World → Prop} {c : Code} (h : R e w) : Upto P n R Q 0 c e w := h
theorem uptoQ_normal {R : Env → World → Prop} {k : Nat} {r : Code} (h : Upto P n R Q k r e w) : uptoQ P n R Q k r .normal e w := h
theorem uptoQ_ret {R : Env → World → Prop} {k : Nat} {r : Code} (h : Q .ret e w) : uptoQ P n R Q k r .ret e w := h
theorem uptoQ_exit {R : Env → World → Prop} {k i : Nat} {r : Code} (h : Q (.exit i) e w) : uptoQ P n R Q k r (.exit i) e w := h
/-- A cut behind k pieces: what is known there is R. -/
theorem T.cutAt {Q : Post} (k : Nat) (R : Env → World → Prop) : ∀ {c : Code} {e : Env} {w : World}, (∀ e' w', R e' w' → T P n (dropC k c) e' w' Q) → Upto P n R Q k c e w → T P n c e w Q := by
  induction k with
  | zero => intro c e w h2 h1; exact h2 _ _ h1
  | succ k ih =>
    intro c e w h2 h1
    cases c with
    | seq a r =>
      refine T.seq (T.mono h1 fun x e' w' hx => ?_)
      cases x with
      | normal => exact thenQ_normal (ih h2 hx)
      | exit i => unfold thenQ; exact hx
      | goto l => unfold thenQ; exact hx
      | ret => unfold thenQ; exact hx
      | panic ch => unfold thenQ; exact hx
      | outgrown => unfold thenQ; exact hx
    | _ => exact h1.elim
end
attribute [irreducible] Upto uptoQ
end Go.V
