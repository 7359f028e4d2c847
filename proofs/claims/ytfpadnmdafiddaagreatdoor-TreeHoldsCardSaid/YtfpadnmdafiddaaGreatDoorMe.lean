import Derived.Test.YtfpadnmdafiddaaGreatDoorMc
set_option linter.all false
set_option maxHeartbeats 16000000
set_option maxRecDepth 100000
namespace Go.V
open Go Go.RowKit
section
variable [Rn]
variable {P:Program} {n:Nat} {e:dQ} {w:World} {Q:dS} {ops:Array Oper} {rest:List Oper} {d:Nat} {ty:TypeId} {pos:String} {aft:Array Edge}
theorem TL.remU {zx zy:Int} {x y:Operand} {kd:IntKind} {a b:Nat} {t1 t2:TypeId} (hx:val e x=some (.int kd zx)) [ix:Lit zx a] (hy:val e y=some (.int kd zy)) [iy:Lit zy b] (h:0<b) (hd:Nat.blt d n=true)
  (k:TL P n ops rest ((d,.int kd ((a%b:Nat):Int))::e) w Q):TL P n ops (⟨some d,.binOp .rem t1 x y t2,ty,pos,aft,none⟩::rest) e w Q :=
 TL.run (λ r hr=>by
  rw [ix.h] at hx;rw [iy.h] at hy
  have h1:b≠0:=by omega
  have h2:Int.tmod (a:Int) (b:Int)=((a%b:Nat):Int):=rfl
  simp [execOp,binOp,cB,Op.intDiv,hr.eval hx,hr.eval hy,h1,h2]) hd k
theorem TL.isRem {t1 t2:TypeId} {x y:Operand} {d:Option Nat} (h:TL P n ops (⟨d,.binOp .rem t1 x y t2,ty,pos,aft,none⟩::rest) e w Q):TL P n ops (⟨d,.binOp .rem t1 x y t2,ty,pos,aft,none⟩::rest) e w Q:=h
theorem aL (f:Nat) {xs:Array Operand} {tys:Array TypeId} {d:Option Nat} (h:TL P n ops (⟨d,.call ⟨.value (.func f),xs,tys⟩,ty,pos,aft,none⟩::rest) e w Q):TL P n ops (⟨d,.call ⟨.value (.func f),xs,tys⟩,ty,pos,aft,none⟩::rest) e w Q:=h
theorem TL.isEqT (t1:TypeId) {t2:TypeId} {x y:Operand} {d:Option Nat} (h:TL P n ops (⟨d,.binOp .eql t1 x y t2,ty,pos,aft,none⟩::rest) e w Q):TL P n ops (⟨d,.binOp .eql t1 x y t2,ty,pos,aft,none⟩::rest) e w Q:=h
theorem dW (t1:TypeId) {t2:TypeId} {x y:Operand} {d:Option Nat} (h:TL P n ops (⟨d,.binOp .neq t1 x y t2,ty,pos,aft,none⟩::rest) e w Q):TL P n ops (⟨d,.binOp .neq t1 x y t2,ty,pos,aft,none⟩::rest) e w Q:=h
theorem kB {t1 t2:TypeId} {x y:Operand} {d:Option Nat} (h:TL P n ops (⟨d,.binOp .quo t1 x y t2,ty,pos,aft,none⟩::rest) e w Q):TL P n ops (⟨d,.binOp .quo t1 x y t2,ty,pos,aft,none⟩::rest) e w Q:=h
end
section
variable [Rn]
variable {P:Program} {n:Nat} {e:dQ} {w:World} {Q:dS}
def Upto (P:Program) (n:Nat) (R:dQ→World→Prop) (Q:dS):Nat→Code→dQ→World→Prop
 | 0,_,e,w=>R e w
 | k+1,.seq a r,e,w=>T P n a e w (λ x e' w'=>match x with
  | .normal=>Upto P n R Q k r e' w'
  | x=>Q x e' w')
 | _+1,_,_,_=>False
def dropC:Nat→Code→Code
 | k+1,.seq _ r=>dropC k r
 | _,c=>c
def uptoQ (P:Program) (n:Nat) (R:dQ→World→Prop) (Q:dS) (k:Nat) (r:Code):dS:=λ x e' w' =>
 match x with
 | .normal=>Upto P n R Q k r e' w'
 | x=>Q x e' w'
theorem cQ {R:dQ→World→Prop} {k:Nat} {a r:Code} (h:T P n a e w (uptoQ P n R Q k r)):Upto P n R Q (k+1) (.seq a r) e w:=h
theorem bY {R:dQ→World→Prop} {c:Code} (h:R e w):Upto P n R Q 0 c e w:=h
theorem bB {R:dQ→World→Prop} {k:Nat} {r:Code} (h:Upto P n R Q k r e w):uptoQ P n R Q k r .normal e w:=h
theorem mN {R:dQ→World→Prop} {k:Nat} {r:Code} (h:Q .ret e w):uptoQ P n R Q k r .ret e w:=h
theorem fQ {Q:dS} (k:Nat) (R:dQ→World→Prop):∀ {c:Code} {e:dQ} {w:World},(∀ e' w',R e' w'→T P n (dropC k c) e' w' Q)→Upto P n R Q k c e w→T P n c e w Q:=by
 induction k with
 | zero=>intro c e w h2 h1;exact h2 _ _ h1
 | succ k ih =>
  intro c e w h2 h1
  cases c with
  | seq a r =>
   refine aJ (T.mono h1 λ x e' w' hx=>?_)
   cases x with
   | normal=>exact aA (ih h2 hx)
   | exit i=>unfold thenQ;exact hx
   | goto l=>unfold thenQ;exact hx
   | ret=>unfold thenQ;exact hx
   | panic ch=>unfold thenQ;exact hx
   | outgrown=>unfold thenQ;exact hx
  | _=>exact h1.elim
end
attribute [irreducible] Upto uptoQ
end Go.V
namespace Go.V
open Go Go.RowKit
section
variable [Rn]
variable {P:Program} {n:Nat} {e:dQ} {w:World} {Q:dS} {ops:Array Oper} {rest:List Oper} {d:Nat} {ty:TypeId} {pos:String} {aft:Array Edge}
theorem i64_nat {a:Nat} (h:a<9223372036854775808):IntKind.i64.wrap (a:Int)=(a:Int):=IntWalk.i64_in _ ⟨by omega,by omega⟩
theorem bT {zx zy:Int} {x y:Operand} {a b:Nat} {t1 t2:TypeId} (hx:val e x=some (.int .i64 zx)) [ix:Lit zx a] (hy:val e y=some (.int .i64 zy)) [iy:Lit zy b] (h:a+b<9223372036854775808) (hd:Nat.blt d n=true)
  (k:TL P n ops rest ((d,.int .i64 ((a+b:Nat):Int))::e) w Q):TL P n ops (⟨some d,.binOp .add t1 x y t2,ty,pos,aft,none⟩::rest) e w Q :=
 TL.run (λ r hr=>by
  rw [ix.h] at hx;rw [iy.h] at hy
  have:=i64_nat h
  simp only [Int.natCast_add] at this ⊢
  simp [execOp,binOp,cB,Op.intArith,hr.eval hx,hr.eval hy,this]) hd k
theorem dN {zx zy:Int} {x y:Operand} {a b:Nat} {t1 t2:TypeId} (hx:val e x=some (.int .i64 zx)) [ix:Lit zx a] (hy:val e y=some (.int .i64 zy)) [iy:Lit zy b] (h:b≤a) (h2:a<9223372036854775808) (hd:Nat.blt d n=true)
  (k:TL P n ops rest ((d,.int .i64 ((a-b:Nat):Int))::e) w Q):TL P n ops (⟨some d,.binOp .sub t1 x y t2,ty,pos,aft,none⟩::rest) e w Q :=
 TL.run (λ r hr=>by
  rw [ix.h] at hx;rw [iy.h] at hy
  have:=i64_nat (show a-b<9223372036854775808 by omega)
  rw [Int.ofNat_sub h] at this ⊢
  simp [execOp,binOp,cB,Op.intArith,hr.eval hx,hr.eval hy,this]) hd k
theorem hY {zx zy:Int} {x y:Operand} {a b:Nat} {t1 t2:TypeId} (hx:val e x=some (.int .i64 zx)) [ix:Lit zx a] (hy:val e y=some (.int .i64 zy)) [iy:Lit zy b] (h:a*b<9223372036854775808) (hd:Nat.blt d n=true)
  (k:TL P n ops rest ((d,.int .i64 ((a*b:Nat):Int))::e) w Q):TL P n ops (⟨some d,.binOp .mul t1 x y t2,ty,pos,aft,none⟩::rest) e w Q :=
 TL.run (λ r hr=>by
  rw [ix.h] at hx;rw [iy.h] at hy
  have:=i64_nat h
  simp only [Int.natCast_mul] at this ⊢
  simp [execOp,binOp,cB,Op.intArith,hr.eval hx,hr.eval hy,this]) hd k
theorem mF {zx zy:Int} {x y:Operand} {a b:Nat} {t1 t2:TypeId} (hx:val e x=some (.int .i64 zx)) [ix:Lit zx a] (hy:val e y=some (.int .i64 zy)) [iy:Lit zy b] (h:0<b) (h2:a<9223372036854775808) (hd:Nat.blt d n=true)
  (k:TL P n ops rest ((d,.int .i64 ((a / b:Nat):Int))::e) w Q):TL P n ops (⟨some d,.binOp .quo t1 x y t2,ty,pos,aft,none⟩::rest) e w Q :=
 TL.run (λ r hr=>by
  rw [ix.h] at hx;rw [iy.h] at hy
  have h1:b≠0:=by omega
  have h3:Int.tdiv (a:Int) (b:Int)=((a / b:Nat):Int):=rfl
  have h4:=i64_nat (show a / b<9223372036854775808 from Nat.lt_of_le_of_lt (Nat.div_le_self a b) h2)
  simp only [execOp,binOp,cB,Op.intDiv,hr.eval hx,hr.eval hy]
  simp only [h3]
  simp [h1,← Int.natCast_ediv,h4]) hd k
theorem jL {zx zy:Int} {x y:Operand} {kd ky:IntKind} {a s:Nat} {t1 t2:TypeId} (hx:val e x=some (.int kd zx)) [ix:Lit zx a] (hy:val e y=some (.int ky zy)) [iy:Lit zy s] (hs:s≤kd.bits) (hd:Nat.blt d n=true)
  (k:TL P n ops rest ((d,.int kd ((a / 2^s:Nat):Int))::e) w Q):TL P n ops (⟨some d,.binOp .shr t1 x y t2,ty,pos,aft,none⟩::rest) e w Q :=
 TL.run (λ r hr=>by
  rw [ix.h] at hx;rw [iy.h] at hy
  have h3:min s kd.bits=s:=Nat.min_eq_left hs
  have h4:¬ ((s:Int)<0):=by omega
  have e1:(a:Int).fdiv (2^s)=((a / 2^s:Nat):Int):=by
   rw [Int.fdiv_eq_ediv_of_nonneg _ (by exact_mod_cast Nat.zero_le (2^s))]
   simp
  simp only [execOp,binOp,cB,Op.shift,hr.eval hx,hr.eval hy]
  simp [h3,h4,e1]) hd k
theorem TL.shlS {zx zy:Int} {x y:Operand} {kd ky:IntKind} {M a s:Nat} {t1 t2:TypeId} (hx:val e x=some (.int kd zx)) [ix:Lit zx a] (hy:val e y=some (.int ky zy)) [iy:Lit zy s] (hM:ulim kd=some M) (hs:s≤kd.bits) (h:a*2^s<M) (hd:Nat.blt d n=true)
  (k:TL P n ops rest ((d,.int kd ((a*2^s:Nat):Int))::e) w Q):TL P n ops (⟨some d,.binOp .shl t1 x y t2,ty,pos,aft,none⟩::rest) e w Q :=
 TL.run (λ r hr=>by
  rw [ix.h] at hx;rw [iy.h] at hy
  have h3:min s kd.bits=s:=Nat.min_eq_left hs
  have h4:¬ ((s:Int)<0):=by omega
  have e1:(a:Int)*2^s=((a*2^s:Nat):Int):=by simp
  have e2:=fB hM h
  rw [← e1] at e2
  simp only [execOp,binOp,cB,Op.shift,hr.eval hx,hr.eval hy]
  simp [h3,h4,e2,← e1]) hd k
theorem lQ {zx:Int} {s t:TypeId} {x:Operand} {k1 kd:IntKind} {a:Nat} [hs:IntTy P s k1] [ht:IntTy P t .i64] (hx:val e x=some (.int kd zx)) [ix:Lit zx a] (h:a<9223372036854775808) (hd:Nat.blt d n=true)
  (k:TL P n ops rest ((d,.int .i64 (a:Int))::e) w Q):TL P n ops (⟨some d,.convert s t x,ty,pos,aft,none⟩::rest) e w Q :=
 TL.run (λ r hr=>by
  rw [ix.h] at hx
  simp [execOp,hr.eval hx,jB hs ht,i64_nat h]) hd k
theorem eY {t len elem:Nat} {x i:Operand} {b j:Nat} {kd:IntKind} {z:Int} [ht:ArrTy P t len elem 1] (hx:val e x=some (.pointer (some ⟨b,0,none⟩))) (hi:val e i=some (.int kd z))
  [iz:Lit z j] (hj:j<len) (hd:Nat.blt d n=true)
  (k:TL P n ops rest ((d,.pointer (some ⟨b,j,none⟩))::e) w Q):TL P n ops (⟨some d,.indexAddr t x i,ty,pos,aft,none⟩::rest) e w Q :=
 TL.indexArr (o':=j) hx hi hj (by omega) hd k
theorem aZ {op:Op} {b:Bool} (h:pureOp (val e) op=some (.bool b)) (hb:b=true) (hd:Nat.blt d n=true) (k:TL P n ops rest ((d,.bool true)::e) w Q) :
  TL P n ops (⟨some d,op,ty,pos,aft,none⟩::rest) e w Q:=TL.pure (hb▸h) hd k
theorem aQ {op:Op} {b:Bool} (h:pureOp (val e) op=some (.bool b)) (hb:b=false) (hd:Nat.blt d n=true) (k:TL P n ops rest ((d,.bool false)::e) w Q) :
  TL P n ops (⟨some d,op,ty,pos,aft,none⟩::rest) e w Q:=TL.pure (hb▸h) hd k
theorem dP {t:TypeId} {x:Operand} {vs:List Value} (hx:val e x=some (.agg vs.toArray)) (hd:Nat.blt d n=true)
  (k:∀ b w',Grow w w'→Blk w' b t vs→w.heap.size=b→w'.heap.size=b+1→TL P n ops rest ((d,.pointer (some ⟨b,0,none⟩))::e) w' Q) :
  TL P n ops (⟨some d,.box t x,ty,pos,aft,none⟩::rest) e w Q:=TL.box hx rfl hd k
theorem TL.isIndexV {t1:TypeId} {x y:Operand} {d:Option Nat} (h:TL P n ops (⟨d,.index t1 x y,ty,pos,aft,none⟩::rest) e w Q):TL P n ops (⟨d,.index t1 x y,ty,pos,aft,none⟩::rest) e w Q:=h
end
end Go.V
