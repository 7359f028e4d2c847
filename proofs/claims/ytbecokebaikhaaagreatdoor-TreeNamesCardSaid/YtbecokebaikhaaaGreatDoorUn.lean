import Derived.Test.YtbecokebaikhaaaGreatDoorUl
import Derived.Test.YtbecokebaikhaaaGreatDoorUm
set_option linter.unusedSimpArgs false
set_option linter.unusedVariables false
set_option linter.unusedSectionVars false
namespace Go.S
open Go Go.E
variable [Gl]
theorem lenA_par (a : A) : Par fun k => lenA false a k := by cases a <;> first | exact Par.pure _ | exact Par.bad
theorem compare_conP : ConP conCompare := by
  intro vs h fl fd nx
  unfold conCompare
  dsimp only
  split
  · rename_i a b
    refine (lenA_par a).bind (G := fun n k => lenA false b fun p => srcK false true h a 1 n fun x => srcK false true h b 1 p fun y => match x.bytes, y.bytes with
      | some (_, s), some (_, t) => bif two (Nat.beq n p) (Nat.beq s t) then k (V.at (.int .i64 0), h, nx) else bif strLt (Nat.succ n) n s p t then k (V.at (.int .i64 18446744073709551615), h, nx) else k (V.at (.int .i64 1), h, nx)
      | _, _ => false) fun n => ?_
    refine (lenA_par b).bind (G := fun p k => srcK false true h a 1 n fun x => srcK false true h b 1 p fun y => match x.bytes, y.bytes with
      | some (_, s), some (_, t) => bif two (Nat.beq n p) (Nat.beq s t) then k (V.at (.int .i64 0), h, nx) else bif strLt (Nat.succ n) n s p t then k (V.at (.int .i64 18446744073709551615), h, nx) else k (V.at (.int .i64 1), h, nx)
      | _, _ => false) fun p => ?_
    refine (src_par h a 1 n).bind (G := fun x k => srcK false true h b 1 p fun y => match x.bytes, y.bytes with
      | some (_, s), some (_, t) => bif two (Nat.beq n p) (Nat.beq s t) then k (V.at (.int .i64 0), h, nx) else bif strLt (Nat.succ n) n s p t then k (V.at (.int .i64 18446744073709551615), h, nx) else k (V.at (.int .i64 1), h, nx)
      | _, _ => false) fun x => ?_
    refine (src_par h b 1 p).bind (G := fun y k => match x.bytes, y.bytes with
      | some (_, s), some (_, t) => bif two (Nat.beq n p) (Nat.beq s t) then k (V.at (.int .i64 0), h, nx) else bif strLt (Nat.succ n) n s p t then k (V.at (.int .i64 18446744073709551615), h, nx) else k (V.at (.int .i64 1), h, nx)
      | _, _ => false) fun y => ?_
    split
    · exact Par.ite (F := fun k : Out3 → Bool => k (V.at (.int .i64 0), h, nx)) _ (Par.pure (α := Out3) _) (Par.ite (F := fun k : Out3 → Bool => k (V.at (.int .i64 18446744073709551615), h, nx)) _ (Par.pure (α := Out3) _) (Par.pure (α := Out3) _))
    · exact Par.bad
  · exact Par.bad
end Go.S
