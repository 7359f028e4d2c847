import Derived.Test.YtlmdfhkdeieceaaGreatWi
import Derived.Test.YtlmdfhkdeieceaaGreatWj
set_option linter.all false
set_option maxHeartbeats 16000000
set_option maxRecDepth 100000
namespace Go.S
open Go Go.E
variable [Gl]
theorem lenA_par (a:A):Par λ k=>lenA false a k:=by cases a<;>first|exact Par.pure _|exact Par.bad
theorem compare_conP:ConP conCompare:=by
  intro vs h fl fd nx
  unfold conCompare
  dsimp only
  split
  . rename_i a b
    refine (lenA_par a).bind (G:=λ n k=>lenA false b λ p=>srcK false true h a 1 n λ x=>srcK false true h b 1 p λ y=>match x.bytes,y.bytes with
      | some (_,s),some (_,t)=>bif two (Nat.beq n p) (Nat.beq s t) then k (V.at (.int .i64 0),h,nx) else bif strLt (Nat.succ n) n s p t then k (V.at (.int .i64 18446744073709551615),h,nx) else k (V.at (.int .i64 1),h,nx)
      | _,_=>false) λ n=>?_
    refine (lenA_par b).bind (G:=λ p k=>srcK false true h a 1 n λ x=>srcK false true h b 1 p λ y=>match x.bytes,y.bytes with
      | some (_,s),some (_,t)=>bif two (Nat.beq n p) (Nat.beq s t) then k (V.at (.int .i64 0),h,nx) else bif strLt (Nat.succ n) n s p t then k (V.at (.int .i64 18446744073709551615),h,nx) else k (V.at (.int .i64 1),h,nx)
      | _,_=>false) λ p=>?_
    refine (src_par h a 1 n).bind (G:=λ x k=>srcK false true h b 1 p λ y=>match x.bytes,y.bytes with
      | some (_,s),some (_,t)=>bif two (Nat.beq n p) (Nat.beq s t) then k (V.at (.int .i64 0),h,nx) else bif strLt (Nat.succ n) n s p t then k (V.at (.int .i64 18446744073709551615),h,nx) else k (V.at (.int .i64 1),h,nx)
      | _,_=>false) λ x=>?_
    refine (src_par h b 1 p).bind (G:=λ y k=>match x.bytes,y.bytes with
      | some (_,s),some (_,t)=>bif two (Nat.beq n p) (Nat.beq s t) then k (V.at (.int .i64 0),h,nx) else bif strLt (Nat.succ n) n s p t then k (V.at (.int .i64 18446744073709551615),h,nx) else k (V.at (.int .i64 1),h,nx)
      | _,_=>false) λ y=>?_
    split
    . exact Par.ite (F:=λ k:Out3→Bool=>k (V.at (.int .i64 0),h,nx)) _ (Par.pure (α:=Out3) _) (Par.ite (F:=λ k:Out3→Bool=>k (V.at (.int .i64 18446744073709551615),h,nx)) _ (Par.pure (α:=Out3) _) (Par.pure (α:=Out3) _))
    . exact Par.bad
  . exact Par.bad
end Go.S
