/-
  The V calculus, seventh text: integers of 64 bits that are not below nought, by natural numbers; shifts by a number that is not written.
-/
import Derived.Test.YtjcafonoiaiacaaVf
namespace Go.V
open Go Go.RowKit
set_option linter.unusedSimpArgs false
set_option linter.unusedVariables false
section
variable {P : Program} {n : Nat} {e : Env} {w : World} {Q : Post} {ops : Array Oper} {rest : List Oper} {d : Nat} {ty : TypeId} {pos : String} {aft : Array Edge}
theorem i64_nat {a : Nat} (h : a < 9223372036854775808) : IntKind.i64.wrap (a : Int) = (a : Int) := IntWalk.i64_in _ ⟨by omega, by omega⟩
theorem TL.addN {zx zy : Int} {x y : Operand} {a b : Nat} {t1 t2 : TypeId} (hx : val e x = some (.int .i64 zx)) [ix : Lit zx a] (hy : val e y = some (.int .i64 zy)) [iy : Lit zy b] (h : a + b < 9223372036854775808) (hd : Nat.blt d n = true)
    (k : TL P n ops rest ((d, .int .i64 ((a + b : Nat) : Int)) :: e) w Q) : TL P n ops (⟨some d, .binOp .add t1 x y t2, ty, pos, aft, none⟩ :: rest) e w Q :=
  TL.run (fun r hr => by
    rw [ix.h] at hx; rw [iy.h] at hy
    have := i64_nat h
    simp only [Int.natCast_add] at this ⊢
    simp [execOp, binOp, eqGuard_int, Op.intArith, hr.eval hx, hr.eval hy, this]) hd k
theorem TL.subN {zx zy : Int} {x y : Operand} {a b : Nat} {t1 t2 : TypeId} (hx : val e x = some (.int .i64 zx)) [ix : Lit zx a] (hy : val e y = some (.int .i64 zy)) [iy : Lit zy b] (h : b ≤ a) (h2 : a < 9223372036854775808) (hd : Nat.blt d n = true)
    (k : TL P n ops rest ((d, .int .i64 ((a - b : Nat) : Int)) :: e) w Q) : TL P n ops (⟨some d, .binOp .sub t1 x y t2, ty, pos, aft, none⟩ :: rest) e w Q :=
  TL.run (fun r hr => by
    rw [ix.h] at hx; rw [iy.h] at hy
    have := i64_nat (show a - b < 9223372036854775808 by omega)
    rw [Int.ofNat_sub h] at this ⊢
    simp [execOp, binOp, eqGuard_int, Op.intArith, hr.eval hx, hr.eval hy, this]) hd k
theorem TL.mulN {zx zy : Int} {x y : Operand} {a b : Nat} {t1 t2 : TypeId} (hx : val e x = some (.int .i64 zx)) [ix : Lit zx a] (hy : val e y = some (.int .i64 zy)) [iy : Lit zy b] (h : a * b < 9223372036854775808) (hd : Nat.blt d n = true)
    (k : TL P n ops rest ((d, .int .i64 ((a * b : Nat) : Int)) :: e) w Q) : TL P n ops (⟨some d, .binOp .mul t1 x y t2, ty, pos, aft, none⟩ :: rest) e w Q :=
  TL.run (fun r hr => by
    rw [ix.h] at hx; rw [iy.h] at hy
    have := i64_nat h
    simp only [Int.natCast_mul] at this ⊢
    simp [execOp, binOp, eqGuard_int, Op.intArith, hr.eval hx, hr.eval hy, this]) hd k
theorem TL.quoN {zx zy : Int} {x y : Operand} {a b : Nat} {t1 t2 : TypeId} (hx : val e x = some (.int .i64 zx)) [ix : Lit zx a] (hy : val e y = some (.int .i64 zy)) [iy : Lit zy b] (h : 0 < b) (h2 : a < 9223372036854775808) (hd : Nat.blt d n = true)
    (k : TL P n ops rest ((d, .int .i64 ((a / b : Nat) : Int)) :: e) w Q) : TL P n ops (⟨some d, .binOp .quo t1 x y t2, ty, pos, aft, none⟩ :: rest) e w Q :=
  TL.run (fun r hr => by
    rw [ix.h] at hx; rw [iy.h] at hy
    have h1 : b ≠ 0 := by omega
    have h3 : Int.tdiv (a : Int) (b : Int) = ((a / b : Nat) : Int) := rfl
    have h4 := i64_nat (show a / b < 9223372036854775808 from Nat.lt_of_le_of_lt (Nat.div_le_self a b) h2)
    simp only [execOp, binOp, eqGuard_int, Op.intDiv, hr.eval hx, hr.eval hy]
    simp only [h3]
    simp [h1, ← Int.natCast_ediv, h4]) hd k
theorem TL.quoU {zx zy : Int} {x y : Operand} {kd : IntKind} {M a b : Nat} {t1 t2 : TypeId} (hx : val e x = some (.int kd zx)) [ix : Lit zx a] (hy : val e y = some (.int kd zy)) [iy : Lit zy b] (hM : ulim kd = some M) (h : 0 < b) (h2 : a < M) (hd : Nat.blt d n = true)
    (k : TL P n ops rest ((d, .int kd ((a / b : Nat) : Int)) :: e) w Q) : TL P n ops (⟨some d, .binOp .quo t1 x y t2, ty, pos, aft, none⟩ :: rest) e w Q :=
  TL.run (fun r hr => by
    rw [ix.h] at hx; rw [iy.h] at hy
    have h1 : b ≠ 0 := by omega
    have h3 : Int.tdiv (a : Int) (b : Int) = ((a / b : Nat) : Int) := rfl
    have h4 := wrap_in hM (show a / b < M from Nat.lt_of_le_of_lt (Nat.div_le_self a b) h2)
    simp only [execOp, binOp, eqGuard_int, Op.intDiv, hr.eval hx, hr.eval hy]
    simp only [h3]
    simp [h1, ← Int.natCast_ediv, h4]) hd k
/-- Shifts by a number that is not written. -/
theorem TL.shrS {zx zy : Int} {x y : Operand} {kd ky : IntKind} {a s : Nat} {t1 t2 : TypeId} (hx : val e x = some (.int kd zx)) [ix : Lit zx a] (hy : val e y = some (.int ky zy)) [iy : Lit zy s] (hs : s ≤ kd.bits) (hd : Nat.blt d n = true)
    (k : TL P n ops rest ((d, .int kd ((a / 2 ^ s : Nat) : Int)) :: e) w Q) : TL P n ops (⟨some d, .binOp .shr t1 x y t2, ty, pos, aft, none⟩ :: rest) e w Q :=
  TL.run (fun r hr => by
    rw [ix.h] at hx; rw [iy.h] at hy
    have h3 : min s kd.bits = s := Nat.min_eq_left hs
    have h4 : ¬ ((s : Int) < 0) := by omega
    have e1 : (a : Int).fdiv (2 ^ s) = ((a / 2 ^ s : Nat) : Int) := by
      rw [Int.fdiv_eq_ediv_of_nonneg _ (by exact_mod_cast Nat.zero_le (2 ^ s))]
      simp
    simp only [execOp, binOp, eqGuard_int, Op.shift, hr.eval hx, hr.eval hy]
    simp [h3, h4, e1]) hd k
theorem TL.shlS {zx zy : Int} {x y : Operand} {kd ky : IntKind} {M a s : Nat} {t1 t2 : TypeId} (hx : val e x = some (.int kd zx)) [ix : Lit zx a] (hy : val e y = some (.int ky zy)) [iy : Lit zy s] (hM : ulim kd = some M) (hs : s ≤ kd.bits) (h : a * 2 ^ s < M) (hd : Nat.blt d n = true)
    (k : TL P n ops rest ((d, .int kd ((a * 2 ^ s : Nat) : Int)) :: e) w Q) : TL P n ops (⟨some d, .binOp .shl t1 x y t2, ty, pos, aft, none⟩ :: rest) e w Q :=
  TL.run (fun r hr => by
    rw [ix.h] at hx; rw [iy.h] at hy
    have h3 : min s kd.bits = s := Nat.min_eq_left hs
    have h4 : ¬ ((s : Int) < 0) := by omega
    have e1 : (a : Int) * 2 ^ s = ((a * 2 ^ s : Nat) : Int) := by simp
    have e2 := wrap_in hM h
    rw [← e1] at e2
    simp only [execOp, binOp, eqGuard_int, Op.shift, hr.eval hx, hr.eval hy]
    simp [h3, h4, e2, ← e1]) hd k
theorem TL.shlN {zx zy : Int} {x y : Operand} {ky : IntKind} {a s : Nat} {t1 t2 : TypeId} (hx : val e x = some (.int .i64 zx)) [ix : Lit zx a] (hy : val e y = some (.int ky zy)) [iy : Lit zy s] (hs : s ≤ 64) (h : a * 2 ^ s < 9223372036854775808) (hd : Nat.blt d n = true)
    (k : TL P n ops rest ((d, .int .i64 ((a * 2 ^ s : Nat) : Int)) :: e) w Q) : TL P n ops (⟨some d, .binOp .shl t1 x y t2, ty, pos, aft, none⟩ :: rest) e w Q :=
  TL.run (fun r hr => by
    rw [ix.h] at hx; rw [iy.h] at hy
    have h3 : min s IntKind.i64.bits = s := Nat.min_eq_left hs
    have h4 : ¬ ((s : Int) < 0) := by omega
    have e1 : (a : Int) * 2 ^ s = ((a * 2 ^ s : Nat) : Int) := by simp
    have e2 := i64_nat h
    rw [← e1] at e2
    simp only [execOp, binOp, eqGuard_int, Op.shift, hr.eval hx, hr.eval hy]
    simp [h3, h4, e2, ← e1]) hd k
/-- To int, of a natural number. -/
theorem TL.convN {zx : Int} {s t : TypeId} {x : Operand} {k1 kd : IntKind} {a : Nat} [hs : IntTy P s k1] [ht : IntTy P t .i64] (hx : val e x = some (.int kd zx)) [ix : Lit zx a] (h : a < 9223372036854775808) (hd : Nat.blt d n = true)
    (k : TL P n ops rest ((d, .int .i64 (a : Int)) :: e) w Q) : TL P n ops (⟨some d, .convert s t x, ty, pos, aft, none⟩ :: rest) e w Q :=
  TL.run (fun r hr => by
    rw [ix.h] at hx
    simp [execOp, hr.eval hx, run_convert hs ht, i64_nat h]) hd k
/-- The address of an element of an array that is a variable. -/
theorem TL.indexA1 {t len elem : Nat} {x i : Operand} {b j : Nat} {kd : IntKind} {z : Int} [ht : ArrTy P t len elem 1] (hx : val e x = some (.pointer (some ⟨b, 0, none⟩))) (hi : val e i = some (.int kd z))
    [iz : Lit z j] (hj : j < len) (hd : Nat.blt d n = true)
    (k : TL P n ops rest ((d, .pointer (some ⟨b, j, none⟩)) :: e) w Q) : TL P n ops (⟨some d, .indexAddr t x i, ty, pos, aft, none⟩ :: rest) e w Q :=
  TL.indexArr (o' := j) hx hi hj (by omega) hd k
/-- A comparison whose answer is known. -/
theorem TL.pureT {op : Op} {b : Bool} (h : pureOp (val e) op = some (.bool b)) (hb : b = true) (hd : Nat.blt d n = true) (k : TL P n ops rest ((d, .bool true) :: e) w Q) :
    TL P n ops (⟨some d, op, ty, pos, aft, none⟩ :: rest) e w Q := TL.pure (hb ▸ h) hd k
theorem TL.pureF {op : Op} {b : Bool} (h : pureOp (val e) op = some (.bool b)) (hb : b = false) (hd : Nat.blt d n = true) (k : TL P n ops rest ((d, .bool false) :: e) w Q) :
    TL P n ops (⟨some d, op, ty, pos, aft, none⟩ :: rest) e w Q := TL.pure (hb ▸ h) hd k
/-- A struct or an array that becomes a variable. -/
theorem TL.boxA {t : TypeId} {x : Operand} {vs : List Value} (hx : val e x = some (.agg vs.toArray)) (hd : Nat.blt d n = true)
    (k : ∀ b w', Grow w w' → Blk w' b t vs → w.heap.size = b → w'.heap.size = b + 1 → TL P n ops rest ((d, .pointer (some ⟨b, 0, none⟩)) :: e) w' Q) :
    TL P n ops (⟨some d, .box t x, ty, pos, aft, none⟩ :: rest) e w Q := TL.box hx rfl hd k
theorem TL.isIndexV {t1 : TypeId} {x y : Operand} {d : Option Nat} (h : TL P n ops (⟨d, .index t1 x y, ty, pos, aft, none⟩ :: rest) e w Q) : TL P n ops (⟨d, .index t1 x y, ty, pos, aft, none⟩ :: rest) e w Q := h
end
end Go.V
