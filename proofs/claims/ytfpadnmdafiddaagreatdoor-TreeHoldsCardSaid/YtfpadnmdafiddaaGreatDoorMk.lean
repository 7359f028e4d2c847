import Derived.Test.YtfpadnmdafiddaaGreatDoorMi
import Derived.Test.YtfpadnmdafiddaaGreatDoorMj
set_option linter.all false
set_option maxHeartbeats 16000000
set_option maxRecDepth 100000
namespace Go.V
open Go Go.RowKit
structure Carry (F:Nat→Prop) (w:World) (F':Nat→Prop) (w':World):Prop where
 size:w.heap.size≤w'.heap.size
 blk:∀ k,F k→k<w.heap.size→F' k∧w'.heap[k]? = w.heap[k]?
theorem Sl.go {F F':Nat→Prop} {w w':World} {sz:Nat} {a:Option Addr} {n c:Nat} {cs:List Value} (h:Sl F w sz a n c cs) (g:Carry F w F' w'):Sl F' w' sz a n c cs :=
 ⟨h.len,h.cap,h.max,h.nil,by
  have hr:=h.row
  cases a with
  | none=>exact hr
  | some p=>exact λ hn=>(λ h=>⟨h.1,(g.blk _ h.2.1 h.2.2.1).1,Nat.lt_of_lt_of_le h.2.2.1 g.size,λ j v hj=>(World.cell?_of_block (w:=w) (a:=⟨p.block,p.off+j,none⟩) (g.blk p.block h.2.1 h.2.2.1).2).trans (h.2.2.2 j v hj)⟩) (hr hn)⟩
theorem Carry.grow {F:Nat→Prop} {w w':World} (g:Grow w w'):Carry F w F w':=⟨g.size,λ k hk h=>⟨hk,g.block k h⟩⟩
theorem Carry.upd {F:Nat→Prop} {w w':World} {b:Nat} (u:Upd b w w') (hb:∀ k,F k→k<w.heap.size→k≠b):Carry F w F w':=⟨Nat.le_of_eq u.size.symm,λ k hk h=>⟨hk,u.block k (hb k hk h)⟩⟩
theorem Carry.mono {F F':Nat→Prop} {w:World} (h:∀ k,F k→k<w.heap.size→F' k):Carry F w F' w:=⟨Nat.le_refl _,λ k hk hl=>⟨h k hk hl,rfl⟩⟩
theorem Carry.trans {F G H:Nat→Prop} {a b c:World} (g:Carry F a G b) (h:Carry G b H c):Carry F a H c :=
 ⟨Nat.le_trans g.size h.size,λ k hk hl=>by
  obtain ⟨h1,h2⟩:=g.blk k hk hl
  obtain ⟨h3,h4⟩:=h.blk k h1 (Nat.lt_of_lt_of_le hl g.size)
  exact ⟨h3,h4.trans h2⟩⟩
def concB (P:Program) (t:TypeId):Bool:=match P.underlying t with|some (.interface _)=>false|some _=>true|none=>false
class ConcTy (P:Program) (t:TypeId):Prop where
 h:concB P t=true
def methB (P:Program) (t:TypeId) (s:String) (q:FuncId):Bool :=
 match P.info? t,P.underlying t with
 | some i,some u=>match i.methods.find? (·.name==s) with
  | some mm=>mm.path.isEmpty&&(match mm.func,u with
   | some (f,true),.pointer _=>Nat.beq f q
   | some (f,false),.pointer _=>false
   | some (f,false),_=>Nat.beq f q
   | _,_=>false)
  | none=>false
 | _,_=>false
class MethTy (P:Program) (t:TypeId) (s:String) (q:outParam FuncId):Prop where
 h:methB P t s q=true
theorem ConcTy.und {P:Program} {t:TypeId} (h:ConcTy P t):∃ u,P.underlying t=some u∧∀ ms,u≠.interface ms:=by
 have h:=h.h
 unfold concB at h
 split at h
 ·cases h
 ·rename_i u hn hu;exact ⟨u,hu,λ ms e=>hn ms e⟩
 ·cases h
section
variable [Rn]
variable {P:Program} {n:Nat} {e:dQ} {w:World} {Q:dS} {ops:Array Oper} {rest:List Oper} {d:Nat} {ty:TypeId} {pos:String} {aft:Array Edge}
theorem TL.makeIface {t:TypeId} {x:Operand} {v:Value} [ht:ConcTy P t] (hx:val e x=some v) (hd:Nat.blt d n=true) (k:TL P n ops rest ((d,.iface t v)::e) w Q) :
  TL P n ops (⟨some d,.makeInterface t x,ty,pos,aft,none⟩::rest) e w Q :=
 TL.run (λ a ha=>by
  obtain ⟨u,hu,hn⟩:=ht.und
  cases u<;>first|exact absurd rfl (hn _)|simp [execOp,ha.eval hx,Instr.makeInterface,underlying,hu]) hd k
theorem kU {t s:TypeId} {x:Operand} {v:Value} [ht:ConcTy P t] (hx:val e x=some (.iface t v)) (hd:Nat.blt d n=true) (k:TL P n ops rest ((d,.tuple #[v,.bool true])::e) w Q) :
  TL P n ops (⟨some d,.typeAssert x s t true,ty,pos,aft,none⟩::rest) e w Q :=
 TL.run (λ a ha=>by
  obtain ⟨u,hu,hn⟩:=ht.und
  cases u<;>first|exact absurd rfl (hn _)|simp [execOp,ha.eval hx,Instr.typeAssert,underlying,hu]) hd k
theorem TL.assertNo {t s r:TypeId} {x:Operand} {v z:Value} [ht:ConcTy P t] [hz:Zero P t z] (hx:val e x=some (.iface r v)) (hr:Nat.beq r t=false) (hd:Nat.blt d n=true) (k:TL P n ops rest ((d,.tuple #[z,.bool false])::e) w Q) :
  TL P n ops (⟨some d,.typeAssert x s t true,ty,pos,aft,none⟩::rest) e w Q :=
 TL.run (λ a ha=>by
  obtain ⟨u,hu,hn⟩:=ht.und
  have hne:=Nat.ne_of_beq_eq_false hr
  cases u<;>first|exact absurd rfl (hn _)|simp [execOp,ha.eval hx,Instr.typeAssert,underlying,hu,hne,hz.run]) hd k
theorem meth_run {t:TypeId} {s:String} {q:FuncId} (h:methB P t s q=true) (fuel:Nat) (v:Value) (w:World):(method (fuel+1) t v s).run P w=.ok (q,v) w:=by
 unfold methB at h
 split at h
 rotate_left
 ·cases h
 rename_i i u hi hu
 split at h
 rotate_left
 ·cases h
 rename_i mm hm
 simp only [Bool.and_eq_true] at h
 obtain ⟨hp,h⟩:=h
 have hp':mm.path.toList=[]:=by simpa [Array.isEmpty_iff] using hp
 unfold method
 have e1:(typeInfo t).run P w=.ok i w:=by simp [typeInfo,hi]
 simp only [Sem.run_bind,e1,Result.andThen_ok,hm,hp',follow,Sem.run_pure,hp]
 split at h
 ·rename_i f e hf
  cases Nat.eq_of_beq_eq_true h
  simp [hf,receiverAt,underlying,hu,Place.get]
 ·cases h
 ·rename_i u f hne hf _
  cases Nat.eq_of_beq_eq_true h
  cases u<;>simp [hf,receiverAt,underlying,hu,Place.get]
 ·cases h
theorem TL.invoke0 {t:TypeId} {s:String} {q:FuncId} {x:Operand} {tys:Array TypeId} {v:Value} {R:Value→World→Prop} [hm:MethTy P t s q] [hf:FnOk P q] (hx:val e x=some (.iface t v))
  (hc:Calls P q #[v] w (Ret R)) (hd:Nat.blt d n=true) (k:∀ u w',R u w'→TL P n ops rest ((d,u)::e) w' Q) :
  TL P n ops (⟨some d,.call ⟨.invoke x s,#[],tys⟩,ty,pos,aft,none⟩::rest) e w Q:=TL.mk λ a ha =>
 wpListIn_plain rfl λ K hK=>by
  have hr:(execOp a.eval ⟨some d,.call ⟨.invoke x s,#[],tys⟩,ty,pos,aft,none⟩).run P w=.ok (.enter q #[v]) w:=by
   have h2:=run_callFunc (P:=P) (f:=q) #[v] w
   simp only [execOp,resolve,ha.eval hx,Sem.run_bind,Sem.run_pure,Result.andThen_ok,invoke,callMethod,run_program,show P.types.size+Made.depth=P.types.size+99+1 from rfl]
   simp [meth_run hm.h,callMethod,h2,Result.andThen,show P.types.size+Made.depth=P.types.size+99+1 from rfl]
  refine Oper.wpFR _ (.inr (.inr (.inl ⟨_,_,_,hr,Calls.mono hc ?_⟩)))
  rintro x w' ⟨v,rfl,hv⟩
  exact ⟨v,rfl,hK _ _ ((k v w' hv).out (ha.put hd v))⟩
theorem TL.minV {x y:Operand} {kd:IntKind} {p q r:Int} {t1 t2:TypeId} (hx:val e x=some (.int kd p)) (hy:val e y=some (.int kd q)) (hr:(if q<p then q else p)=r) (hd:Nat.blt d n=true)
  (k:TL P n ops rest ((d,.int kd r)::e) w Q):TL P n ops (⟨some d,.call ⟨.builtin .min,#[x,y],#[t1,t2]⟩,ty,pos,aft,none⟩::rest) e w Q :=
 TL.run (λ a ha=>by simp [execOp,resolve,invoke,builtin,Builtin.min_,Builtin.min2,ha.eval hx,ha.eval hy,← hr]) hd k
theorem TL.maxV {x y:Operand} {kd:IntKind} {p q r:Int} {t1 t2:TypeId} (hx:val e x=some (.int kd p)) (hy:val e y=some (.int kd q)) (hr:(if q > p then q else p)=r) (hd:Nat.blt d n=true)
  (k:TL P n ops rest ((d,.int kd r)::e) w Q):TL P n ops (⟨some d,.call ⟨.builtin .max,#[x,y],#[t1,t2]⟩,ty,pos,aft,none⟩::rest) e w Q :=
 TL.run (λ a ha=>by simp [execOp,resolve,invoke,builtin,Builtin.max_,Builtin.max2,ha.eval hx,ha.eval hy,← hr]) hd k
theorem eL {t m o:Nat} {x:Operand} {a:Option Addr} {F:Nat→Prop} {sz l c:Nat} {cs vs:List Value} [ht:Agg P t m] (hx:val e x=some (.pointer (some (at' a o)))) (hs:Sl F w sz a l c cs) (hv:∀ j v,vs[j]? = some v→cs[o+j]? = some v) (hl:vs.length=m)
  (hd:Nat.blt d n=true) (k:TL P n ops rest ((d,.agg vs.toArray)::e) w Q):TL P n ops (⟨some d,.load t x,ty,pos,aft,none⟩::rest) e w Q:=by
 have hc:∀ j v,vs[j]? = some v→w.cell? ((at' a o).add j)=some v:=by
  intro j v hj
  have h1:=hv j v hj
  have h2:=hs.row.cell h1
  cases a with
  | none=>have h3:=hs.row;simp only [Row] at h3;subst h3;simp at h1
  | some p=>rw [show at' (some p) o=⟨p.block,p.off+o,none⟩ from rfl,Addr.add_lit,Nat.add_assoc];exact h2
 exact TL.run (λ a ha=>by simp [execOp,Instr.loadAt,ha.eval hx,Instr.sureAddr,iS ht hl hc]) hd k
theorem dV {s:TypeId} {f off o:Nat} {x:Operand} {a:Option Addr} {F:Nat→Prop} {sz l c:Nat} {cs:List Value} {u:Value} [h:FieldAt P s f off] (hx:val e x=some (.pointer (some (at' a o)))) (hs:Sl F w sz a l c cs) (hu:cs[o]? = some u) (hd:Nat.blt d n=true)
  (k:TL P n ops rest ((d,.pointer (some (at' a (o+off))))::e) w Q):TL P n ops (⟨some d,.fieldAddr s x f,ty,pos,aft,none⟩::rest) e w Q:=by
 cases a with
 | none=>have h3:=hs.row;simp only [Row] at h3;subst h3;simp at hu
 | some p=>exact aF (b:=p.block) (o:=p.off+o) hx hd (by rw [Nat.add_assoc];exact k)
theorem two_at {cs:List Value} {k v:Value} {o:Nat} (h0:cs[o]? = some k) (h1:cs[o+1]? = some v):∀ j u,[k,v][j]? = some u→cs[o+j]? = some u:=by
 intro j u hj
 match j,hj with
 | 0,hj=>cases hj;exact h0
 | 1,hj=>cases hj;exact h1
theorem Sl.le {F:Nat→Prop} {sz:Nat} {a:Option Addr} {n c:Nat} {cs:List Value} (h:Sl F w sz a n c cs):n≤9223372036854775807:=by
 have h1:=h.cap
 have h2:=h.max
 unfold maxLen at h2
 omega
theorem TL.isMkIf {t1:TypeId} {x:Operand} {d:Option Nat} (h:TL P n ops (⟨d,.makeInterface t1 x,ty,pos,aft,none⟩::rest) e w Q):TL P n ops (⟨d,.makeInterface t1 x,ty,pos,aft,none⟩::rest) e w Q:=h
theorem mH {t1 t2:TypeId} {x:Operand} {b:Bool} {d:Option Nat} (h:TL P n ops (⟨d,.typeAssert x t1 t2 b,ty,pos,aft,none⟩::rest) e w Q):TL P n ops (⟨d,.typeAssert x t1 t2 b,ty,pos,aft,none⟩::rest) e w Q:=h
theorem mG {s:String} {x:Operand} {xs:Array Operand} {tys:Array TypeId} {d:Option Nat} (h:TL P n ops (⟨d,.call ⟨.invoke x s,xs,tys⟩,ty,pos,aft,none⟩::rest) e w Q):TL P n ops (⟨d,.call ⟨.invoke x s,xs,tys⟩,ty,pos,aft,none⟩::rest) e w Q:=h
end
end Go.V
namespace Go.Proofs.YtfpadnmdafiddaaGreatDoor
open Go Go.RowKit Go.V
def cM (l:List Nat):List Value:=l.map λ (k:Nat)=>.int .i64 (k:Int)
theorem kS (l:List Nat):(cM l).length=l.length:=by simp [cM]
def BsAt (F:Nat→Prop) (w:World) (v:Value) (b:Bs):Prop:=∃ a n c,v=.slice a n c∧Sl F w 1 a n c (cX b)
def ItCells (F:Nat→Prop) (w:World):List Value→dO→Prop
 | [],[]=>True
 | k::v::cs,x::l=>BsAt F w k x.1∧BsAt F w v x.2∧ItCells F w cs l
 | _,_=>False
def KyCells (F:Nat→Prop) (w:World):List Value→List Bs→Prop
 | [],[]=>True
 | k::cs,x::l=>BsAt F w k x∧KyCells F w cs l
 | _,_=>False
theorem BsAt.go {F F':Nat→Prop} {w w':World} {v:Value} {b:Bs} (h:BsAt F w v b) (g:Carry F w F' w'):BsAt F' w' v b:=by
 obtain ⟨a,n,c,rfl,h⟩:=h
 exact ⟨a,n,c,rfl,h.go g⟩
theorem ItCells.go {F F':Nat→Prop} {w w':World} (g:Carry F w F' w'):∀ {cs:List Value} {l:dO},ItCells F w cs l→ItCells F' w' cs l
 | [],[],_=>trivial
 | [],_::_,h=>h.elim
 | [_],[],h=>h.elim
 | [_],_::_,h=>h.elim
 | _::_::_,[],h=>h.elim
 | _::_::_,_::_,⟨h1,h2,h3⟩=>⟨h1.go g,h2.go g,ItCells.go g h3⟩
theorem KyCells.go {F F':Nat→Prop} {w w':World} (g:Carry F w F' w'):∀ {cs:List Value} {l:List Bs},KyCells F w cs l→KyCells F' w' cs l
 | [],[],_=>trivial
 | [],_::_,h=>h.elim
 | _::_,[],h=>h.elim
 | _::_,_::_,⟨h1,h3⟩=>⟨h1.go g,KyCells.go g h3⟩
theorem ItCells.len {F:Nat→Prop} {w:World}:∀ {cs:List Value} {l:dO},ItCells F w cs l→cs.length=2*l.length
 | [],[],_=>rfl
 | [],_::_,h=>h.elim
 | [_],[],h=>h.elim
 | [_],_::_,h=>h.elim
 | _::_::_,[],h=>h.elim
 | _::_::_,_::_,⟨_,_,h3⟩=>by have:=h3.len;simp only [List.length_cons];omega
theorem KyCells.len {F:Nat→Prop} {w:World}:∀ {cs:List Value} {l:List Bs},KyCells F w cs l→cs.length=l.length
 | [],[],_=>rfl
 | [],_::_,h=>h.elim
 | _::_,[],h=>h.elim
 | _::_,_::_,⟨_,h3⟩=>by have:=h3.len;simp only [List.length_cons];omega
theorem ItCells.at' {F:Nat→Prop} {w:World}:∀ {cs:List Value} {l:dO} {i:Nat} {x:Bs×Bs},ItCells F w cs l→l[i]? = some x→∃ k v,cs[2*i]? = some k∧cs[2*i+1]? = some v∧BsAt F w k x.1∧BsAt F w v x.2
 | [],[],i,x,_,hx=>by simp at hx
 | [],_::_,_,_,h,_=>h.elim
 | [_],[],_,_,h,_=>h.elim
 | [_],_::_,_,_,h,_=>h.elim
 | _::_::_,[],_,_,h,_=>h.elim
 | k::v::cs,y::l,0,x,⟨h1,h2,h3⟩,hx=>by
  simp only [List.getElem?_cons_zero,Option.some.injEq] at hx
  subst hx
  exact ⟨k,v,rfl,rfl,h1,h2⟩
 | k::v::cs,y::l,i+1,x,⟨h1,h2,h3⟩,hx=>by
  obtain ⟨k',v',q1,q2,q3⟩:=ItCells.at' h3 (by simpa using hx)
  exact ⟨k',v',by simpa [Nat.mul_add] using q1,by simpa [Nat.mul_add] using q2,q3⟩
theorem KyCells.at' {F:Nat→Prop} {w:World}:∀ {cs:List Value} {l:List Bs} {i:Nat} {x:Bs},KyCells F w cs l→l[i]? = some x→∃ k,cs[i]? = some k∧BsAt F w k x
 | [],[],i,x,_,hx=>by simp at hx
 | [],_::_,_,_,h,_=>h.elim
 | _::_,[],_,_,h,_=>h.elim
 | k::cs,y::l,0,x,⟨h1,h3⟩,hx=>by
  simp only [List.getElem?_cons_zero,Option.some.injEq] at hx
  subst hx
  exact ⟨k,rfl,h1⟩
 | k::cs,y::l,i+1,x,⟨h1,h3⟩,hx=>by
  obtain ⟨k',q1,q3⟩:=KyCells.at' h3 (by simpa using hx)
  exact ⟨k',by simpa using q1,q3⟩
theorem ItCells.append {F:Nat→Prop} {w:World}:∀ {cs ds:List Value} {l m:dO},ItCells F w cs l→ItCells F w ds m→ItCells F w (cs++ds) (l++m)
 | [],_,[],_,_,h=>h
 | [],_,_::_,_,h,_=>h.elim
 | [_],_,[],_,h,_=>h.elim
 | [_],_,_::_,_,h,_=>h.elim
 | _::_::_,_,[],_,h,_=>h.elim
 | _::_::_,_,_::_,_,⟨h1,h2,h3⟩,h=>⟨h1,h2,ItCells.append h3 h⟩
theorem KyCells.append {F:Nat→Prop} {w:World}:∀ {cs ds:List Value} {l m:List Bs},KyCells F w cs l→KyCells F w ds m→KyCells F w (cs++ds) (l++m)
 | [],_,[],_,_,h=>h
 | [],_,_::_,_,h,_=>h.elim
 | _::_,_,[],_,h,_=>h.elim
 | _::_,_,_::_,_,⟨h1,h3⟩,h=>⟨h1,KyCells.append h3 h⟩
theorem ItCells.take {F:Nat→Prop} {w:World}:∀ {cs:List Value} {l:dO} (i:Nat),ItCells F w cs l→ItCells F w (cs.take (2*i)) (l.take i)∧ItCells F w (cs.drop (2*i)) (l.drop i)
 | cs,l,0,h=>by simpa [ItCells] using h
 | [],[],i+1,_=>⟨by simp [ItCells],by simp [ItCells]⟩
 | [],_::_,_+1,h=>h.elim
 | [_],[],_+1,h=>h.elim
 | [_],_::_,_+1,h=>h.elim
 | _::_::_,[],_+1,h=>h.elim
 | k::v::cs,y::l,i+1,⟨h1,h2,h3⟩=>by
  obtain ⟨q1,q2⟩:=ItCells.take i h3
  rw [show 2*(i+1)=2*i+1+1 by omega]
  exact ⟨⟨h1,h2,q1⟩,q2⟩
theorem KyCells.take {F:Nat→Prop} {w:World}:∀ {cs:List Value} {l:List Bs} (i:Nat),KyCells F w cs l→KyCells F w (cs.take i) (l.take i)∧KyCells F w (cs.drop i) (l.drop i)
 | cs,l,0,h=>by simpa [KyCells] using h
 | [],[],i+1,_=>⟨by simp [KyCells],by simp [KyCells]⟩
 | [],_::_,_+1,h=>h.elim
 | _::_,[],_+1,h=>h.elim
 | k::cs,y::l,i+1,⟨h1,h3⟩=>by
  obtain ⟨q1,q2⟩:=KyCells.take i h3
  exact ⟨⟨h1,q1⟩,q2⟩
theorem BsAt.one {F:Nat→Prop} {w:World} {v:Value} {b:Bs} (h:BsAt F w v b):v.oneCell'=true:=by
 obtain ⟨a,n,c,rfl,_⟩:=h;rfl
theorem ItCells.one {F:Nat→Prop} {w:World}:∀ {cs:List Value} {l:dO},ItCells F w cs l→∀ u∈cs,u.oneCell'=true
 | [],[],_,u,hu=>by cases hu
 | [],_::_,h,_,_=>h.elim
 | [_],[],h,_,_=>h.elim
 | [_],_::_,h,_,_=>h.elim
 | _::_::_,[],h,_,_=>h.elim
 | k::v::cs,y::l,⟨h1,h2,h3⟩,u,hu=>by
  rcases List.mem_cons.1 hu with rfl|hu
  ·exact h1.one
  ·rcases List.mem_cons.1 hu with rfl|hu
   ·exact h2.one
   ·exact h3.one u hu
theorem KyCells.one {F:Nat→Prop} {w:World}:∀ {cs:List Value} {l:List Bs},KyCells F w cs l→∀ u∈cs,u.oneCell'=true
 | [],[],_,u,hu=>by cases hu
 | [],_::_,h,_,_=>h.elim
 | _::_,[],h,_,_=>h.elim
 | k::cs,y::l,⟨h1,h3⟩,u,hu=>by
  rcases List.mem_cons.1 hu with rfl|hu
  ·exact h1.one
  ·exact h3.one u hu
theorem jZ (l:List Nat):∀ u∈cM l,u.oneCell'=true:=by
 intro u hu;simp [cM] at hu;obtain ⟨x,_,rfl⟩:=hu;rfl
theorem BsAt.sl {F:Nat→Prop} {w:World} {v:Value} {b:Bs} (h:BsAt F w v b):∃ a c,v=.slice a b.length c∧Sl F w 1 a b.length c (cX b):=by
 obtain ⟨a,n,c,rfl,h⟩:=h
 have hl:=h.len
 rw [dA,Nat.mul_one] at hl
 subst hl
 exact ⟨a,c,rfl,h⟩
structure NV where
 a1:Option Addr
 n1:Nat
 c1:Nat
 a2:Option Addr
 n2:Nat
 c2:Nat
 a3:Option Addr
 n3:Nat
 c3:Nat
abbrev NV.v1 (x:NV):Value:=.slice x.a1 x.n1 x.c1
abbrev NV.v2 (x:NV):Value:=.slice x.a2 x.n2 x.c2
abbrev NV.v3 (x:NV):Value:=.slice x.a3 x.n3 x.c3
abbrev NV.cs (x:NV):List Value:=[.slice x.a1 x.n1 x.c1,.slice x.a2 x.n2 x.c2,.slice x.a3 x.n3 x.c3]
abbrev NV.val (x:NV):Value:=.agg #[.slice x.a1 x.n1 x.c1,.slice x.a2 x.n2 x.c2,.slice x.a3 x.n3 x.c3]
structure ItsAt (F:Nat→Prop) (w:World) (a:Option Addr) (n c:Nat) (l:dO):Prop where
 ex:∃ cs,Sl F w 2 a n c cs∧ItCells F w cs l
structure KysAt (F:Nat→Prop) (w:World) (a:Option Addr) (n c:Nat) (l:List Bs):Prop where
 ex:∃ cs,Sl F w 1 a n c cs∧KyCells F w cs l
theorem ItsAt.len {F:Nat→Prop} {w:World} {a:Option Addr} {n c:Nat} {l:dO} (h:ItsAt F w a n c l):n=l.length:=by
 obtain ⟨cs,h1,h2⟩:=h.ex
 have:=h1.len
 have:=h2.len
 omega
theorem KysAt.len {F:Nat→Prop} {w:World} {a:Option Addr} {n c:Nat} {l:List Bs} (h:KysAt F w a n c l):n=l.length:=by
 obtain ⟨cs,h1,h2⟩:=h.ex
 have:=h1.len
 have:=h2.len
 omega
theorem eI {F:Nat→Prop} {w:World} {a:Option Addr} {n c:Nat} {l:List Nat} (h:Sl F w 1 a n c (cM l)):n=l.length:=by
 have:=h.len
 rw [kS] at this
 omega
theorem iD {F:Nat→Prop} {w:World} {a:Option Addr} {n c:Nat} {l:Bs} (h:Sl F w 1 a n c (cX l)):n=l.length:=by
 have:=h.len
 rw [dA] at this
 omega
theorem ItsAt.go {F F':Nat→Prop} {w w':World} {a:Option Addr} {n c:Nat} {l:dO} (h:ItsAt F w a n c l) (g:Carry F w F' w'):ItsAt F' w' a n c l:=by
 obtain ⟨cs,h1,h2⟩:=h.ex
 exact ⟨cs,h1.go g,h2.go g⟩
theorem KysAt.go {F F':Nat→Prop} {w w':World} {a:Option Addr} {n c:Nat} {l:List Bs} (h:KysAt F w a n c l) (g:Carry F w F' w'):KysAt F' w' a n c l:=by
 obtain ⟨cs,h1,h2⟩:=h.ex
 exact ⟨cs,h1.go g,h2.go g⟩
structure NdAt (F:Nat→Prop) (w:World) (x:NV) (nd:Nd):Prop where
 its:ItsAt F w x.a1 x.n1 x.c1 nd.items
 kids:Sl F w 1 x.a2 x.n2 x.c2 (cM nd.kids)
 kys:KysAt F w x.a3 x.n3 x.c3 nd.keys
theorem NdAt.go {F F':Nat→Prop} {w w':World} {x:NV} {nd:Nd} (h:NdAt F w x nd) (g:Carry F w F' w'):NdAt F' w' x nd:=⟨h.its.go g,h.kids.go g,h.kys.go g⟩
instance:ConcTy Tryz.prog 269:=⟨by kernel_rfl⟩
instance:ConcTy Tryz.prog 271:=⟨by kernel_rfl⟩
instance:MethTy Tryz.prog 269 "headwater/leaf.whole" 291:=⟨by kernel_rfl⟩
instance:MethTy Tryz.prog 271 "headwater/leaf.whole" 292:=⟨by kernel_rfl⟩
end Go.Proofs.YtfpadnmdafiddaaGreatDoor
namespace Go.Proofs.YtfpadnmdafiddaaGreatDoor
open Go Go.RowKit Go.V
theorem clamp_c (m:Nat) (h1:1≤m) (h8:m≤8) (w:World):Calls Tryz.prog 214 #[.int .i64 (m:Int)] w (Ret λ v w'=>v=.int .i64 (m:Int)∧w=w'):=by
 refine V.calls (args:=[_]) Tryz.func214 rfl Tryz.ntmps214 rfl rfl ?_
 repeat (first|(refine aB ?_;refine TL.pure rfl rfl ?_)|(refine aD ?_;refine TL.pure rfl rfl ?_)|refine TL.nil ?_|refine aA ?_|refine aJ ?_|refine aC ?_|refine TL.min2 rfl rfl rfl ?_)
 repeat (first|(refine aD ?_;refine TL.pure rfl rfl ?_)|refine TL.nil ?_|refine aA ?_|refine bE ?_|(refine jG ?_;refine TL.maxV (r:=(m:Int)) rfl rfl (by split<;>omega) rfl ?_))
 exact cI rfl ⟨_,rfl,rfl,rfl⟩
def byteAt (n i:Nat):Nat:=n / 2^(8*i)%256
theorem word4_eq (n:Nat):fW n=(List.range 4).map (byteAt n):=by
 simp [fW,byteAt,List.range_succ]
theorem word_c (n:Nat) (hn:n<18446744073709551616) (w:World) :
  Calls Tryz.prog 170 #[.slice none 0 0,.int .u64 (n:Int),.int .i64 4] w (Ret λ v w'=>w'.ownsRow w.heap.size 5 1 v 4 (cX (fW n))∧Grow w w'):=by
 refine V.calls (args:=[_,_,_]) Tryz.func170 rfl Tryz.ntmps170 rfl rfl ?_
 repeat (first|(refine aB ?_;refine TL.pure rfl rfl ?_)|(refine aD ?_;refine TL.pure rfl rfl ?_)|refine TL.nil ?_|refine aA ?_|refine aJ ?_|refine aC ?_)
 refine aI rfl (clamp_c 4 (by omega) (by omega) _) rfl ?_
 rintro _ _ ⟨rfl,rfl⟩
 repeat (first|(refine aB ?_;refine TL.pure rfl rfl ?_)|(refine aD ?_;refine TL.pure rfl rfl ?_)|refine TL.nil ?_|refine aA ?_|refine aJ ?_|refine aC ?_)
 refine aI rfl (grown_c (λ _=>True) none 0 0 4 [] _ (Sl.nil_mk _ _ _) (by simp) (by omega)) rfl ?_
 rintro u w1 ⟨hown,hg1⟩
 repeat (first|(refine aB ?_;refine TL.pure rfl rfl ?_)|(refine aD ?_;refine TL.pure rfl rfl ?_)|refine TL.nil ?_|refine aA ?_|refine aJ ?_|refine aC ?_|refine T.block ?_)
 refine cU (S:=Value×Nat) (λ s=>[(14,.int .i64 (s.2:Int)),(13,.int .i64 ((4:Nat):Int)),(1,.int .u64 (n:Int)),(0,s.1)]) (λ s w2=>s.2≤4∧w2.ownsRow w.heap.size 5 1 s.1 s.2 (cX ((List.range s.2).map (byteAt n)))∧Grow w w2) (λ s=>4-s.2) (u,0) ⟨rfl,rfl,rfl,rfl,trivial⟩ ⟨by omega,hown,hg1⟩ ?_
 rintro ⟨v,i⟩ w2 ⟨hi,hown2,hg2⟩
 simp only at hi hown2
 have hsz2:=hg2.size
 by_cases hlt:i<4
 ·repeat (first|(refine hE ?_;refine hY (a:=8) rfl rfl (by omega) rfl ?_)|(refine fZ ?_;refine jL rfl rfl (by show 8*i≤64;omega) rfl ?_)|(refine cR ?_;refine mY rfl (M:=256) rfl rfl ?_)|(refine aB ?_;refine TL.pure rfl rfl ?_)|(refine aD ?_;refine TL.pure rfl rfl ?_)|refine TL.nil ?_|refine aA ?_|refine aJ ?_|refine aC ?_|refine T.block ?_|(refine aH ?_;refine aZ rfl yD rfl ?_)|refine aM rfl ?_|refine aW ?_)
  refine TL.buildSlice rfl rfl rfl rfl rfl ?_
  intro b w3 hg3 hb3 hs3 hs4 hs5
  have hsl:Sl (λ _=>True) w3 1 (some ⟨b,0,none⟩) 1 1 (cX [byteAt n i]):=(bR (sz:=1) (m:=1) hb3 hs5 (by decide)).mono (λ _ _=>trivial)
  have h4:=hg3.size
  refine TL.append rfl rfl (cL hown2 hg3) hsl (eD [byteAt n i]) (by unfold maxLen;omega) (by omega) (by omega) rfl ?_
  intro v' w4 hown4 hgb _
  repeat (first|(refine aB ?_;refine TL.pure rfl rfl ?_)|(refine aD ?_;refine TL.pure rfl rfl ?_)|(refine bL ?_;refine bT rfl rfl (by omega) rfl ?_)|refine TL.nil ?_|refine aA ?_|refine aC ?_|refine aS ?_)
  refine bG (v',i+1) ⟨rfl,rfl,rfl,rfl,trivial⟩ ⟨hlt,?_,Grow.mk (cH hgb (by omega) (λ k hk=>(cJ (cL hown2 hg3) hk).1) (hg2.trans hg3).1)⟩ (by simp only;omega)
  rw [List.range_succ,List.map_append,gW]
  exact hown4
 ·obtain rfl:i=4:=by omega
  repeat (first|(refine aB ?_;refine TL.pure rfl rfl ?_)|(refine aD ?_;refine TL.pure rfl rfl ?_)|refine TL.nil ?_|refine aA ?_|refine aJ ?_|refine aC ?_|(refine aH ?_;refine aQ rfl yD rfl ?_)|refine aE rfl ?_|refine bE ?_|refine cV ?_|refine bN ?_|refine bP ?_|refine bO ?_)
  exact cI rfl ⟨_,rfl,by rw [word4_eq];exact hown2,hg2⟩
theorem block_c (F:Nat→Prop) (a:Option Addr) (n c:Nat) (p:Bs) (w:World) (hs:Sl F w 1 a n c (cX p)) (hn:n≤1000000) :
  Calls Tryz.prog 195 #[.slice none 0 0,.slice a n c] w (Ret λ v w'=>w'.ownsRow w.heap.size 5 1 v (jN p).length (cX (jN p))∧Grow w w'):=by
 have hl:=iD hs
 have hz:=sz_le n
 refine V.calls (args:=[_,_]) Tryz.func195 rfl Tryz.ntmps195 rfl rfl ?_
 repeat (first|(refine aL 233 ?_;refine aI rfl (size_c n (by omega) _) rfl ?_;rintro _ _ ⟨rfl,rfl⟩)|(refine aB ?_;refine TL.pure rfl rfl ?_)|(refine aD ?_;refine TL.pure rfl rfl ?_)|(refine bL ?_;refine bT rfl rfl (by omega) rfl ?_)|refine TL.nil ?_|refine aA ?_|refine aJ ?_|refine aC ?_|(refine cR ?_;refine eQ rfl rfl (by omega) rfl ?_)|refine aO rfl rfl ?_)
 refine aI rfl (grown_c (λ _=>True) none 0 0 (sz n+n) [] _ (Sl.nil_mk _ _ _) (by simp) (by omega)) rfl ?_
 rintro u w1 ⟨hown,hg1⟩
 have h1:=hg1.size
 repeat ((refine aB ?_;refine TL.pure rfl rfl ?_))
 refine aI rfl (number_c w.heap.size u 0 n [] _ hown h1 (by omega) (by omega)) rfl ?_
 rintro u2 w2 ⟨hown2,hb2⟩
 repeat ((refine aB ?_;refine TL.pure rfl rfl ?_))
 have hg2:Grow w w2:=Grow.mk (hg1.1.trans hb2)
 refine TL.append rfl rfl hown2 (hs.grow hg2) (eD _) (by unfold maxLen;omega) (by omega) hg2.size rfl ?_
 intro v' w4 hown4 hgb _
 repeat (first|(refine aD ?_;refine TL.pure rfl rfl ?_)|refine TL.nil ?_|refine aA ?_|refine bE ?_)
 refine cI rfl ⟨_,rfl,?_,Grow.mk (cH hgb (hg2.size) (λ k hk=>(cJ hown2 hk).1) hg2.1)⟩
 have e:(jN p).length=0+sz n+n:=by unfold jN;rw [List.length_append,length_encL,hl];omega
 rw [e]
 unfold jN
 rw [gW,← hl]
 exact hown4
end Go.Proofs.YtfpadnmdafiddaaGreatDoor
namespace Go.Proofs.YtfpadnmdafiddaaGreatDoor
open Go Go.RowKit Go.V
theorem key_c (a:Option Addr) (n c:Nat) (w:World) :
  Calls Tryz.prog 94 #[.slice a n c] w (Ret λ v w'=>v=.bool (decide (1≤n)&&decide (n≤16))∧w=w'):=by
 refine V.calls (args:=[_]) Tryz.func94 rfl Tryz.ntmps94 rfl rfl ?_
 by_cases h1:1≤n
 ·by_cases h2:n≤16
  ·repeat (first|(refine aZ rfl (by simp only [decide_eq_true_eq];omega) rfl ?_)|refine aU rfl rfl rfl ?_|(refine aB ?_;refine TL.pure rfl rfl ?_)|(refine aD ?_;refine TL.pure rfl rfl ?_)|refine TL.nil ?_|refine aA ?_|refine aJ ?_|refine aC ?_|refine aO rfl rfl ?_|refine bE ?_|refine TL.pure rfl rfl ?_)
   exact cI rfl ⟨_,rfl,by simp [h1,h2],rfl⟩
  ·repeat (first|(refine aZ rfl (by simp only [decide_eq_true_eq];omega) rfl ?_)|(refine aQ rfl (by simp only [decide_eq_false_iff_not];omega) rfl ?_)|refine aU rfl rfl rfl ?_|(refine aB ?_;refine TL.pure rfl rfl ?_)|(refine aD ?_;refine TL.pure rfl rfl ?_)|refine TL.nil ?_|refine aA ?_|refine aJ ?_|refine aC ?_|refine aO rfl rfl ?_|refine bE ?_|refine TL.pure rfl rfl ?_)
   exact cI rfl ⟨_,rfl,by simp [h1,h2],rfl⟩
 ·repeat (first|(refine aQ rfl (by simp only [decide_eq_false_iff_not];omega) rfl ?_)|refine bH rfl rfl rfl ?_|(refine aB ?_;refine TL.pure rfl rfl ?_)|(refine aD ?_;refine TL.pure rfl rfl ?_)|refine TL.nil ?_|refine aA ?_|refine aJ ?_|refine aC ?_|refine aO rfl rfl ?_|refine bE ?_|refine TL.pure rfl rfl ?_)
  exact cI rfl ⟨_,rfl,by simp [h1],rfl⟩
theorem value_c (a:Option Addr) (n c:Nat) (w:World) :
  Calls Tryz.prog 148 #[.slice a n c] w (Ret λ v w'=>v=.bool (decide (n≤32))∧w=w'):=by
 refine V.calls (args:=[_]) Tryz.func148 rfl Tryz.ntmps148 rfl rfl ?_
 repeat (first|(refine aB ?_;refine TL.pure rfl rfl ?_)|(refine aD ?_;refine TL.pure rfl rfl ?_)|refine TL.nil ?_|refine aA ?_|refine aJ ?_|refine aC ?_|(refine aH ?_;refine TL.pure rfl rfl ?_)|refine aO rfl rfl ?_|refine bE ?_)
 exact cI rfl ⟨_,rfl,congrArg Value.bool (by simp only [decide_eq_decide];omega),rfl⟩
theorem lZ {F:Nat→Prop} {a:Option Addr} {n c:Nat} {k:Bs} {w:World} {b:Bool} (h:Sl F w 1 a n c (cX k)) (hb:dB k=b) :
  Calls Tryz.prog 94 #[.slice a n c] w (Ret λ v w'=>v=.bool b∧w=w'):=by
 have:=key_c a n c w
 rwa [show (decide (1≤n)&&decide (n≤16))=b by rw [← hb,iD h];rfl] at this
theorem value_t {F:Nat→Prop} {a:Option Addr} {n c:Nat} {k:Bs} {w:World} {b:Bool} (h:Sl F w 1 a n c (cX k)) (hb:fR k=b) :
  Calls Tryz.prog 148 #[.slice a n c] w (Ret λ v w'=>v=.bool b∧w=w'):=by
 have:=value_c a n c w
 rwa [show decide (n≤32)=b by rw [← hb,iD h];rfl] at this
theorem leaf_c (x:NV) (w:World) :
  Calls Tryz.prog 80 #[x.val] w (Ret λ v w'=>v=.bool (decide (x.n2=0))∧Grow w w'):=by
 refine V.calls (args:=[_]) Tryz.func80 rfl Tryz.ntmps80 rfl rfl ?_
 repeat (first|(refine aD ?_;refine TL.pure rfl rfl ?_)|refine aK rfl yM rfl ?_|refine aF rfl rfl ?_|refine TL.nil ?_|refine aA ?_|refine aJ ?_|refine aC ?_|(refine aH ?_;refine TL.pure rfl rfl ?_)|(refine cD ?_;(refine TL.box rfl rfl rfl ?_;intro bk w' hg hbk hsz hsz'))|refine aO rfl rfl ?_|refine bE ?_)
 exact cI rfl ⟨_,rfl,congrArg Value.bool (by rw [Bool.eq_iff_iff];simp),yG⟩
theorem nan8_c (a:Nat) (w:World):Calls Tryz.prog 228 #[.int .u8 (a:Int)] w (Ret λ v w'=>v=.bool false∧w=w'):=by
 refine V.calls (args:=[_]) Tryz.func228 rfl Tryz.ntmps228 rfl rfl ?_
 repeat (first|(refine aB ?_;refine TL.pure rfl rfl ?_)|(refine aD ?_;refine TL.pure rfl rfl ?_)|refine TL.nil ?_|refine aA ?_|refine aJ ?_|refine aC ?_|(refine aH ?_;refine TL.pure rfl rfl ?_)|refine bE ?_)
 exact cI rfl ⟨_,rfl,by simp,rfl⟩
theorem nan64_c (a:Nat) (w:World):Calls Tryz.prog 229 #[.int .i64 (a:Int)] w (Ret λ v w'=>v=.bool false∧w=w'):=by
 refine V.calls (args:=[_]) Tryz.func229 rfl Tryz.ntmps229 rfl rfl ?_
 repeat (first|(refine aB ?_;refine TL.pure rfl rfl ?_)|(refine aD ?_;refine TL.pure rfl rfl ?_)|refine TL.nil ?_|refine aA ?_|refine aJ ?_|refine aC ?_|(refine aH ?_;refine TL.pure rfl rfl ?_)|refine bE ?_)
 exact cI rfl ⟨_,rfl,by simp,rfl⟩
def cmpN (a b:Nat):Int:=if a<b then -1 else if b<a then 1 else 0
theorem cmp8_c (a b:Nat) (w:World):Calls Tryz.prog 182 #[.int .u8 (a:Int),.int .u8 (b:Int)] w (Ret λ v w'=>v=.int .i64 (cmpN a b)∧w=w'):=by
 refine V.calls (args:=[_,_]) Tryz.func182 rfl Tryz.ntmps182 rfl rfl ?_
 unfold cmpN
 by_cases h1:a<b
 ·repeat (first|(refine aL 228 ?_;refine aI rfl (nan8_c _ _) rfl ?_;rintro _ _ ⟨rfl,rfl⟩)|(refine aB ?_;refine TL.pure rfl rfl ?_)|(refine aD ?_;refine TL.pure rfl rfl ?_)|refine TL.nil ?_|refine aA ?_|refine aJ ?_|refine aC ?_|(refine aH ?_;refine TL.pure rfl rfl ?_)|refine aE rfl ?_|refine fP rfl yD ?_|refine bE ?_|refine aW ?_|refine bI ?_)
  exact cI rfl ⟨_,rfl,by rw [if_pos h1],rfl⟩
 ·by_cases h2:b<a
  ·repeat (first|(refine aL 228 ?_;refine aI rfl (nan8_c _ _) rfl ?_;rintro _ _ ⟨rfl,rfl⟩)|(refine aB ?_;refine TL.pure rfl rfl ?_)|(refine aD ?_;refine TL.pure rfl rfl ?_)|refine TL.nil ?_|refine aA ?_|refine aJ ?_|refine aC ?_|(refine aH ?_;refine TL.pure rfl rfl ?_)|refine aE rfl ?_|refine fP rfl yD ?_|refine gO rfl yD ?_|refine bE ?_|refine aW ?_|refine bI ?_)
   exact cI rfl ⟨_,rfl,by rw [if_neg h1,if_pos h2],rfl⟩
  ·repeat (first|(refine aL 228 ?_;refine aI rfl (nan8_c _ _) rfl ?_;rintro _ _ ⟨rfl,rfl⟩)|(refine aB ?_;refine TL.pure rfl rfl ?_)|(refine aD ?_;refine TL.pure rfl rfl ?_)|refine TL.nil ?_|refine aA ?_|refine aJ ?_|refine aC ?_|(refine aH ?_;refine TL.pure rfl rfl ?_)|refine aE rfl ?_|refine gO rfl yD ?_|refine bE ?_|refine aW ?_)
   exact cI rfl ⟨_,rfl,by rw [if_neg h1,if_neg h2],rfl⟩
theorem cmp64_c (a b:Nat) (w:World):Calls Tryz.prog 183 #[.int .i64 (a:Int),.int .i64 (b:Int)] w (Ret λ v w'=>v=.int .i64 (cmpN a b)∧w=w'):=by
 refine V.calls (args:=[_,_]) Tryz.func183 rfl Tryz.ntmps183 rfl rfl ?_
 unfold cmpN
 by_cases h1:a<b
 ·repeat (first|(refine aL 229 ?_;refine aI rfl (nan64_c _ _) rfl ?_;rintro _ _ ⟨rfl,rfl⟩)|(refine aB ?_;refine TL.pure rfl rfl ?_)|(refine aD ?_;refine TL.pure rfl rfl ?_)|refine TL.nil ?_|refine aA ?_|refine aJ ?_|refine aC ?_|(refine aH ?_;refine TL.pure rfl rfl ?_)|refine aE rfl ?_|refine fP rfl yD ?_|refine bE ?_|refine aW ?_|refine bI ?_)
  exact cI rfl ⟨_,rfl,by rw [if_pos h1],rfl⟩
 ·by_cases h2:b<a
  ·repeat (first|(refine aL 229 ?_;refine aI rfl (nan64_c _ _) rfl ?_;rintro _ _ ⟨rfl,rfl⟩)|(refine aB ?_;refine TL.pure rfl rfl ?_)|(refine aD ?_;refine TL.pure rfl rfl ?_)|refine TL.nil ?_|refine aA ?_|refine aJ ?_|refine aC ?_|(refine aH ?_;refine TL.pure rfl rfl ?_)|refine aE rfl ?_|refine fP rfl yD ?_|refine gO rfl yD ?_|refine bE ?_|refine aW ?_|refine bI ?_)
   exact cI rfl ⟨_,rfl,by rw [if_neg h1,if_pos h2],rfl⟩
  ·repeat (first|(refine aL 229 ?_;refine aI rfl (nan64_c _ _) rfl ?_;rintro _ _ ⟨rfl,rfl⟩)|(refine aB ?_;refine TL.pure rfl rfl ?_)|(refine aD ?_;refine TL.pure rfl rfl ?_)|refine TL.nil ?_|refine aA ?_|refine aJ ?_|refine aC ?_|(refine aH ?_;refine TL.pure rfl rfl ?_)|refine aE rfl ?_|refine gO rfl yD ?_|refine bE ?_|refine aW ?_)
   exact cI rfl ⟨_,rfl,by rw [if_neg h1,if_neg h2],rfl⟩
end Go.Proofs.YtfpadnmdafiddaaGreatDoor
namespace Go.Proofs.YtfpadnmdafiddaaGreatDoor
open Go Go.RowKit Go.V
theorem bys_at {l:Bs} {i x:Nat} (h:l[i]? = some x):(cX l)[i]? = some (.int .u8 (x:Int)):=by simp [cX,h]
theorem cmpB_step {x y:Bs} {i a b:Nat} (hx:x[i]? = some a) (hy:y[i]? = some b):dX (x.drop i) (y.drop i)=if a<b then -1 else if b<a then 1 else dX (x.drop (i+1)) (y.drop (i+1)):=by
 obtain ⟨h1,rfl⟩:=List.getElem?_eq_some_iff.1 hx
 obtain ⟨h2,rfl⟩:=List.getElem?_eq_some_iff.1 hy
 rw [List.drop_eq_getElem_cons h1,List.drop_eq_getElem_cons h2,dX]
theorem cmpB_end {x y:Bs} {i:Nat} (h:i=min x.length y.length):dX (x.drop i) (y.drop i)=cmpN x.length y.length:=by
 subst h
 unfold cmpN
 by_cases h1:x.length<y.length
 ·rw [if_pos h1,Nat.min_eq_left (by omega),List.drop_length]
  cases hd:y.drop x.length with
  | nil=>rw [List.drop_eq_nil_iff] at hd;omega
  | cons _ _=>rfl
 ·rw [if_neg h1,Nat.min_eq_right (by omega),List.drop_length]
  by_cases h2:y.length<x.length
  ·rw [if_pos h2]
   cases hd:x.drop y.length with
   | nil=>rw [List.drop_eq_nil_iff] at hd;omega
   | cons _ _=>rfl
  ·rw [if_neg h2,List.drop_eq_nil_of_le (by omega)]
   rfl
theorem gL (F G:Nat→Prop) (a:Option Addr) (n c:Nat) (b:Option Addr) (m d:Nat) (x y:Bs) (w:World) (hx:Sl F w 1 a n c (cX x)) (hy:Sl G w 1 b m d (cX y)) :
  Calls Tryz.prog 139 #[.slice a n c,.slice b m d] w (Ret λ v w'=>v=.int .i64 (dX x y)∧Grow w w'):=by
 refine V.calls (args:=[_,_]) Tryz.func139 rfl Tryz.ntmps139 rfl rfl ?_
 have hn:=hx.le
 have hm:=hy.le
 have ln:=iD hx
 have lm:=iD hy
 repeat (first|(refine aB ?_;refine TL.pure rfl rfl ?_)|(refine aD ?_;refine TL.pure rfl rfl ?_)|refine TL.nil ?_|refine aA ?_|refine aJ ?_|refine aC ?_|refine T.block ?_|(refine jG ?_;first|refine aO rfl rfl ?_|refine TL.min2 rfl rfl rfl ?_))
 rw [show (if (m:Int)<(n:Int) then (m:Int) else (n:Int))=((min n m:Nat):Int) by split<;>omega]
 refine cU (S:=Nat) (λ i=>[(12,.int .i64 (i:Int)),(11,.int .i64 ((min n m:Nat):Int)),(0,.slice a n c),(1,.slice b m d)]) (λ i w'=>Grow w w'∧i≤min n m∧dX x y=dX (x.drop i) (y.drop i)) (λ i=>min n m-i) 0 ⟨rfl,rfl,rfl,rfl,trivial⟩ ⟨Grow.refl w,by omega,rfl⟩ ?_
 rintro i w1 ⟨hg1,hi,hc⟩
 by_cases hlt:i<min n m
 ·obtain ⟨p,hp⟩:∃ p,x[i]? = some p:=⟨_,List.getElem?_eq_getElem (by omega)⟩
  obtain ⟨q,hq⟩:∃ q,y[i]? = some q:=⟨_,List.getElem?_eq_getElem (by omega)⟩
  have hcx:w1.cell? (at' a i)=some (.int .u8 (p:Int)):=(hx.grow hg1).row.cell (bys_at hp)
  have hcy:w1.cell? (at' b i)=some (.int .u8 (q:Int)):=(hy.grow hg1).row.cell (bys_at hq)
  have hst:=cmpB_step hp hq
  have hin:i<n:=by omega
  have him:i<m:=by omega
  repeat (first|(refine aB ?_;refine TL.pure rfl rfl ?_)|(refine aD ?_;refine TL.pure rfl rfl ?_)|refine TL.nil ?_|refine aA ?_|refine aJ ?_|refine aC ?_|refine T.block ?_|(refine aH ?_;refine aZ rfl yD rfl ?_)|refine aM rfl ?_|refine aW ?_)
  apply T.any 10 [is _,is _,is _,is _,is _,is _,is _,is _,is _,is _];(· kernel_rfl);(· ((repeat' (first|exact bW|refine bU ?_ ?_));(iterate 10 (· ((refine aR rfl rfl rfl ?_);( intro wq _ _ hgq;(repeat (refine aG rfl rfl ?_;intro vq hvq;try (obtain rfl:=hvq)));(refine aN ?_));(repeat (first|(refine aB ?_;refine TL.pure rfl rfl ?_)|(refine aD ?_;refine TL.pure rfl rfl ?_)|refine aK rfl yM rfl ?_|refine TL.nil ?_|(refine bC ?_;first|refine aV rfl rfl rfl hin (Nat.mul_one _) ⟨F,_,hx.grow (hg1.trans (by assumption))⟩ rfl ?_|refine aV rfl rfl rfl him (Nat.mul_one _) ⟨G,_,hy.grow (hg1.trans (by assumption))⟩ rfl ?_)|(refine aL 182 ?_;refine aI rfl (cmp8_c _ _ _) rfl ?_;rintro _ _ ⟨rfl,rfl⟩)));exact aT rfl yG rfl)))));(rintro _ _ _ hgr _ _;(repeat (refine aG rfl rfl ?_;intro vq hvq;try (obtain rfl:=hvq)));(refine aN ?_))
  by_cases h1:p<q
  ·have hv:cmpN p q = -1:=if_pos h1
   rw [if_pos h1] at hst
   repeat (first|(refine aB ?_;refine TL.pure rfl rfl ?_)|(refine aD ?_;refine TL.pure rfl rfl ?_)|refine TL.nil ?_|refine aA ?_|refine aJ ?_|refine aC ?_|(refine aH ?_;refine aZ rfl yD rfl ?_)|refine aM rfl ?_|refine bE ?_|refine bI ?_|refine cZ ?_|refine dY ?_)
   exact cI rfl ⟨_,rfl,congrArg (Value.int .i64) (by omega),yG⟩
  ·rw [if_neg h1] at hst
   by_cases h2:q<p
   ·have hv:cmpN p q=1:=by unfold cmpN;rw [if_neg h1,if_pos h2]
    rw [if_pos h2] at hst
    repeat (first|(refine aB ?_;refine TL.pure rfl rfl ?_)|(refine aD ?_;refine TL.pure rfl rfl ?_)|refine TL.nil ?_|refine aA ?_|refine aJ ?_|refine aC ?_|(refine aH ?_;refine aZ rfl yD rfl ?_)|refine aM rfl ?_|refine bE ?_|refine bI ?_|refine cZ ?_|refine dY ?_)
    exact cI rfl ⟨_,rfl,congrArg (Value.int .i64) (by omega),yG⟩
   ·have hv:cmpN p q=0:=by unfold cmpN;rw [if_neg h1,if_neg h2]
    rw [if_neg h2] at hst
    repeat (first|(refine aB ?_;refine TL.pure rfl rfl ?_)|(refine bL ?_;refine bT rfl rfl (by omega) rfl ?_)|refine TL.nil ?_|refine aA ?_|refine aJ ?_|refine aC ?_|refine aS ?_|(refine aH ?_;refine aQ rfl yD rfl ?_)|refine aE rfl ?_|refine aW ?_)
    exact bG (i+1) ⟨rfl,rfl,rfl,rfl,trivial⟩ ⟨yG,by omega,by omega⟩ (by omega)
 ·have he:=cmpB_end (x:=x) (y:=y) (i:=i) (by omega)
  repeat (first|(refine aL 183 ?_;refine aI rfl (cmp64_c _ _ _) rfl ?_;rintro _ _ ⟨rfl,rfl⟩)|(refine aB ?_;refine TL.pure rfl rfl ?_)|(refine aD ?_;refine TL.pure rfl rfl ?_)|refine TL.nil ?_|refine aA ?_|refine aJ ?_|refine aC ?_|(refine aH ?_;refine aQ rfl yD rfl ?_)|refine aO rfl rfl ?_|refine aE rfl ?_|refine bE ?_|refine cV ?_|refine bN ?_|refine bP ?_|refine bO ?_)
  exact cI rfl ⟨_,rfl,congrArg (Value.int .i64) (by rw [hc,he,ln,lm]),yG⟩
end Go.Proofs.YtfpadnmdafiddaaGreatDoor
namespace Go.Proofs.YtfpadnmdafiddaaGreatDoor
open Go Go.RowKit Go.V
theorem shape_leaf (x:NV) (w:World) (h:x.n2=0) :
  Calls Tryz.prog 189 #[x.val] w (Ret λ v w'=>v=.iface 269 (.agg #[.slice x.a1 x.n1 x.c1,.slice x.a3 x.n3 x.c3])∧Grow w w'):=by
 refine V.calls (args:=[_]) Tryz.func189 rfl Tryz.ntmps189 rfl rfl ?_
 repeat (first|(refine TL.isMkIf ?_;refine TL.makeIface rfl rfl ?_)|(refine aD ?_;refine TL.pure rfl rfl ?_)|refine aK rfl yM rfl ?_|refine aF rfl rfl ?_|refine TL.nil ?_|refine aA ?_|refine aJ ?_|refine aC ?_|(refine aH ?_;refine TL.pure rfl rfl ?_)|(refine cD ?_;(refine TL.box rfl rfl rfl ?_;intro bk w' hg hbk hsz hsz'))|refine TL.build rfl rfl rfl ?_|refine aO rfl rfl ?_|refine fP rfl yD ?_|refine bE ?_|refine bI ?_)
 exact cI rfl ⟨_,rfl,rfl,yG⟩
theorem kN (x:NV) (w:World) (h:x.n2≠0) :
  Calls Tryz.prog 189 #[x.val] w (Ret λ v w'=>v=.iface 271 x.val∧Grow w w'):=by
 refine V.calls (args:=[_]) Tryz.func189 rfl Tryz.ntmps189 rfl rfl ?_
 repeat (first|(refine TL.isMkIf ?_;refine TL.makeIface rfl rfl ?_)|(refine aD ?_;refine TL.pure rfl rfl ?_)|refine aK rfl yM rfl ?_|refine aF rfl rfl ?_|refine TL.nil ?_|refine aA ?_|refine aJ ?_|refine aC ?_|(refine aH ?_;refine TL.pure rfl rfl ?_)|(refine cD ?_;(refine TL.box rfl rfl rfl ?_;intro bk w' hg hbk hsz hsz'))|refine TL.build rfl rfl rfl ?_|refine aO rfl rfl ?_|refine gO rfl yD ?_|refine bE ?_|refine aW ?_)
 exact cI rfl ⟨_,rfl,rfl,yG⟩
theorem ItsAt.at' {F:Nat→Prop} {w:World} {a:Option Addr} {n c:Nat} {l:dO} (h:ItsAt F w a n c l):∃ cs,Sl F w 2 a n c cs∧∀ (i:Nat) (x:Bs×Bs),l[i]? = some x→∃ ka kc va vc,cs[i*2]? = some (.slice ka x.1.length kc)∧cs[i*2+1]? = some (.slice va x.2.length vc) ∧
  Sl F w 1 ka x.1.length kc (cX x.1)∧Sl F w 1 va x.2.length vc (cX x.2):=by
 obtain ⟨cs,h1,h2⟩:=h.ex
 refine ⟨cs,h1,λ i x hx=>?_⟩
 obtain ⟨k,v,g1,g2,g3,g4⟩:=h2.at' hx
 obtain ⟨ka,kc,rfl,s1⟩:=g3.sl
 obtain ⟨va,vc,rfl,s2⟩:=g4.sl
 rw [Nat.mul_comm] at g1 g2
 exact ⟨ka,kc,va,vc,g1,g2,s1,s2⟩
theorem wholeL_c (F:Nat→Prop) (a1:Option Addr) (n1 c1:Nat) (a3:Option Addr) (n3 c3:Nat) (l:dO) (w:World) (h:ItsAt F w a1 n1 c1 l) :
  Calls Tryz.prog 291 #[.agg #[.slice a1 n1 c1,.slice a3 n3 c3]] w (Ret λ v w'=>v=.bool (decide (n3=0)&&decide (n1≤8)&&gM (iB l) n1)∧Grow w w'):=by
 refine V.calls (args:=[_]) Tryz.func291 rfl Tryz.ntmps291 rfl rfl ?_
 have hn:=h.len
 by_cases h3:n3=0
 rotate_left
 ·repeat (first|refine bH rfl rfl rfl ?_|(refine aB ?_;refine TL.pure rfl rfl ?_)|(refine aD ?_;refine TL.pure rfl rfl ?_)|refine aK rfl yM rfl ?_|refine aF rfl rfl ?_|refine TL.nil ?_|refine aA ?_|refine aJ ?_|refine aC ?_|(refine aH ?_;refine aZ rfl yD rfl ?_)|(refine cD ?_;(refine dP rfl rfl ?_;intro bk w' hg hbk hsz hsz'))|refine aO rfl rfl ?_|refine aM rfl ?_|refine bE ?_|refine bI ?_|refine TL.pure rfl rfl ?_)
  exact cI rfl ⟨_,rfl,by simp [h3],yG⟩
 by_cases h8:n1≤8
 rotate_left
 ·repeat (first|refine aU rfl rfl rfl ?_|(refine aB ?_;refine TL.pure rfl rfl ?_)|(refine aD ?_;refine TL.pure rfl rfl ?_)|refine aK rfl yM rfl ?_|refine aF rfl rfl ?_|refine TL.nil ?_|refine aA ?_|refine aJ ?_|refine aC ?_|(refine aH ?_;first|refine aZ rfl yD rfl ?_|refine aQ rfl yD rfl ?_)|(refine cD ?_;(refine dP rfl rfl ?_;intro bk w' hg hbk hsz hsz'))|refine aO rfl rfl ?_|refine aM rfl ?_|refine bE ?_|refine bI ?_|refine TL.pure rfl rfl ?_)
  exact cI rfl ⟨_,rfl,by simp [h8],yG⟩
 obtain ⟨cs,hs,hcell⟩:=h.at'
 repeat (first|refine aU rfl rfl rfl ?_|(refine aB ?_;refine TL.pure rfl rfl ?_)|(refine aD ?_;refine TL.pure rfl rfl ?_)|refine aK rfl yM rfl ?_|refine aF rfl rfl ?_|refine TL.nil ?_|refine aA ?_|refine aJ ?_|refine aC ?_|refine T.block ?_|(refine aH ?_;refine aQ rfl yD rfl ?_)|(refine cD ?_;(refine dP rfl rfl ?_;intro bk w' hg hbk hsz hsz'))|refine aO rfl rfl ?_|refine aE rfl ?_|refine aW ?_|refine TL.pure rfl rfl ?_)
 refine cU (S:=Nat) (λ i=>[(18,.int .i64 (i:Int)),(17,.int .i64 (n1:Int)),(16,.slice a1 n1 c1),(1,.pointer (some ⟨bk,0,none⟩))]) (λ i w1=>Blk w1 bk 269 [.slice a1 n1 c1,.slice a3 n3 c3]∧Grow w w1∧i≤n1∧∀ j,j<i→iB l j=true) (λ i=>n1-i) 0 ⟨rfl,rfl,rfl,rfl,trivial⟩ ⟨hbk,hg,by omega,λ j hj=>by omega⟩ ?_
 clear hbk hg
 rintro i w1 ⟨hbk,hg1,hi,hall⟩
 have hblt:=hbk.lt
 by_cases hlt:i<n1
 rotate_left
 ·repeat (first|(refine aD ?_;refine TL.pure rfl rfl ?_)|refine TL.nil ?_|refine aA ?_|refine aJ ?_|refine aC ?_|(refine aH ?_;refine aQ rfl yD rfl ?_)|refine aE rfl ?_|refine bE ?_|refine cV ?_|refine bN ?_|refine bP ?_|refine bO ?_)
  exact cI rfl ⟨_,rfl,by rw [mW λ j hj=>hall j (by omega)];simp [h3,h8],yG⟩
 obtain ⟨x,hx⟩:∃ x,l[i]? = some x:=⟨_,List.getElem?_eq_getElem (by omega)⟩
 obtain ⟨ka,kc,va,vc,g1,g2,s1,s2⟩:=hcell i x hx
 have hs1:=hs.grow hg1
 have hno:iB l i=false→gM (iB l) n1=false:=λ h0=>by
  cases hb:gM (iB l) n1 with
  | false=>rfl
  | true=>have:=mX hb hlt;rw [h0] at this;cases this
 cases hko:dB x.1 with
 | false =>
  repeat (first|refine aV rfl rfl rfl hlt rfl ⟨F,_,hs1⟩ rfl ?_|(refine aY ?_;refine eL rfl hs1 (two_at g1 g2) rfl rfl ?_)|(refine aL 94 ?_;refine aI rfl (lZ (s1.grow yG) hko) rfl ?_;rintro _ _ ⟨rfl,rfl⟩)|refine bH rfl rfl rfl ?_|(refine aB ?_;refine TL.pure rfl rfl ?_)|(refine aD ?_;refine TL.pure rfl rfl ?_)|refine aK rfl yM rfl ?_|refine aF rfl rfl ?_|refine TL.nil ?_|refine aA ?_|refine aJ ?_|refine aC ?_|refine T.block ?_|(refine aH ?_;refine aZ rfl yD rfl ?_)|(refine aP ?_;(refine bA rfl rfl yB (by exact rfl) (by exact rfl) (by exact rfl) ?_;intro w' hu hbk hsz))|(refine bF ?_;(refine TL.alloc rfl rfl ?_;intro bk w' hg hbk hsz hsz'))|refine aM rfl ?_|refine bE ?_|refine aW ?_|refine bI ?_|refine cZ ?_|refine dY ?_|refine TL.pure rfl rfl ?_)
  exact cI rfl ⟨_,rfl,by rw [hno (by simp [iB,hx,hko])];simp,yG⟩
 | true =>
  cases hvo:fR x.2 with
  | false =>
   repeat (first|refine aV rfl rfl rfl hlt rfl ⟨F,_,hs1⟩ rfl ?_|(refine aY ?_;refine eL rfl hs1 (two_at g1 g2) rfl rfl ?_)|(refine aL 94 ?_;refine aI rfl (lZ (s1.grow yG) hko) rfl ?_;rintro _ _ ⟨rfl,rfl⟩)|(refine aL 148 ?_;refine aI rfl (value_t (s2.grow yG) hvo) rfl ?_;rintro _ _ ⟨rfl,rfl⟩)|refine aU rfl rfl rfl ?_|(refine aB ?_;refine TL.pure rfl rfl ?_)|(refine aD ?_;refine TL.pure rfl rfl ?_)|refine aK rfl yM rfl ?_|refine aF rfl rfl ?_|refine TL.nil ?_|refine aA ?_|refine aJ ?_|refine aC ?_|refine T.block ?_|(refine aH ?_;refine aZ rfl yD rfl ?_)|(refine aP ?_;(refine bA rfl rfl yB (by exact rfl) (by exact rfl) (by exact rfl) ?_;intro w' hu hbk hsz))|(refine bF ?_;(refine TL.alloc rfl rfl ?_;intro bk w' hg hbk hsz hsz'))|refine aM rfl ?_|refine bE ?_|refine aW ?_|refine bI ?_|refine cZ ?_|refine dY ?_|refine TL.pure rfl rfl ?_)
   exact cI rfl ⟨_,rfl,by rw [hno (by simp [iB,hx,hvo])];simp,yG⟩
  | true =>
   repeat (first|refine aV rfl rfl rfl hlt rfl ⟨F,_,hs1⟩ rfl ?_|(refine aY ?_;refine eL rfl hs1 (two_at g1 g2) rfl rfl ?_)|(refine aL 94 ?_;refine aI rfl (lZ (s1.grow yG) hko) rfl ?_;rintro _ _ ⟨rfl,rfl⟩)|(refine aL 148 ?_;refine aI rfl (value_t (s2.grow yG) hvo) rfl ?_;rintro _ _ ⟨rfl,rfl⟩)|refine aU rfl rfl rfl ?_|(refine aB ?_;refine TL.pure rfl rfl ?_)|(refine aD ?_;refine TL.pure rfl rfl ?_)|refine aK rfl yM rfl ?_|refine aF rfl rfl ?_|refine TL.nil ?_|refine aA ?_|refine aJ ?_|refine aC ?_|refine T.block ?_|(refine aH ?_;refine aZ rfl yD rfl ?_)|(refine aP ?_;(refine bA rfl rfl yB (by exact rfl) (by exact rfl) (by exact rfl) ?_;intro w' hu hbk hsz))|(refine bF ?_;(refine TL.alloc rfl rfl ?_;intro bk w' hg hbk hsz hsz'))|refine aM rfl ?_|refine aE rfl ?_|refine aW ?_|refine TL.pure rfl rfl ?_)
   cases i with
   | zero =>
    apply T.any 15 [is _,is _,is _,is _,is _,is _,is _,is _,is _,is _,is _,is _,is _,is _,is _];(· kernel_rfl);(· ((repeat' (first|exact bW|refine bU ?_ ?_));(iterate 15 (· ((first|refine aR rfl rfl rfl ?_|refine does_mk rfl rfl rfl rfl ?_);( intro wq _ _ hgq;(repeat (refine aG rfl rfl ?_;intro vq hvq;try (obtain rfl:=hvq)));(refine aN ?_));(repeat (first|refine bH rfl rfl rfl ?_|(refine aB ?_;refine TL.pure rfl rfl ?_)|refine TL.nil ?_|(refine aH ?_;refine aQ rfl yD rfl ?_)|refine TL.pure rfl rfl ?_));exact aT rfl yG rfl)))));(rintro _ _ _ hgr _ _;(repeat (refine aG rfl rfl ?_;intro vq hvq;try (obtain rfl:=hvq)));(refine aN ?_))
    repeat (first|(refine aB ?_;refine TL.pure rfl rfl ?_)|(refine bL ?_;refine bT rfl rfl (by omega) rfl ?_)|refine TL.nil ?_|refine aA ?_|refine aC ?_|refine aS ?_|refine aE rfl ?_|refine aW ?_)
    exact bG 1 ⟨rfl,rfl,rfl,rfl,trivial⟩ ⟨yB,yG,by omega,λ j hj=>by
     obtain rfl:j=0:=by omega
     simp [iB,hx,hko,hvo]⟩ (by omega)
   | succ j =>
    obtain ⟨y,hy⟩:∃ y,l[j]? = some y:=⟨_,List.getElem?_eq_getElem (by omega)⟩
    obtain ⟨ka',kc',va',vc',q1,q2,r1,r2⟩:=hcell j y hy
    by_cases hc:dX y.1 x.1<0
    ·apply T.any 15 [is _,is _,is _,is _,is _,is _,is _,is _,is _,is _,is _,is _,is _,is _,is _];(· kernel_rfl);(· ((repeat' (first|exact bW|refine bU ?_ ?_));(iterate 15 (· ((first|refine aR rfl rfl rfl ?_|refine does_mk rfl rfl rfl rfl ?_);( intro wq _ _ hgq;(repeat (refine aG rfl rfl ?_;intro vq hvq;try (obtain rfl:=hvq)));(refine aN ?_));(repeat (first|refine aU rfl rfl rfl ?_|(refine aB ?_;refine TL.pure rfl rfl ?_)|refine aK rfl yM rfl ?_|refine aF rfl rfl ?_|(refine cN ?_;refine dN rfl rfl (by omega) (by omega) rfl ?_)|refine TL.nil ?_|(refine aH ?_;first|refine aZ rfl yD rfl ?_|refine aQ rfl yD rfl ?_)|refine TL.pure rfl rfl ?_|(refine bC ?_;refine aV (j:=j) rfl rfl (by omega) (by omega) rfl ⟨F,_,hs.grow yG⟩ rfl ?_)|(refine dU ?_;refine dV rfl (hs.grow yG) q1 rfl ?_)|(refine aY ?_;refine aK rfl ((hs.grow yG).row.cell q1) rfl ?_)|(refine aL 139 ?_;refine aI rfl (gL _ _ _ _ _ _ _ _ _ _ _ (r1.grow yG) (s1.grow yG)) rfl ?_;rintro _ _ ⟨rfl,hgc⟩)));exact aT rfl yG rfl)))));(rintro _ _ _ hgr _ _;(repeat (refine aG rfl rfl ?_;intro vq hvq;try (obtain rfl:=hvq)));(refine aN ?_))
     repeat (first|(refine aB ?_;refine TL.pure rfl rfl ?_)|(refine bL ?_;refine bT rfl rfl (by omega) rfl ?_)|refine TL.nil ?_|refine aA ?_|refine aC ?_|refine aS ?_|refine aE rfl ?_|refine aW ?_)
     exact bG (j+1+1) ⟨rfl,rfl,rfl,rfl,trivial⟩ ⟨yB,yG,by omega,λ k hk=>by
      by_cases hk2:k=j+1
      ·subst hk2;simp [iB,hx,hy,hko,hvo,hc]
      ·exact hall k (by omega)⟩ (by omega)
    ·apply T.any 15 [is _,is _,is _,is _,is _,is _,is _,is _,is _,is _,is _,is _,is _,is _,is _];(· kernel_rfl);(· ((repeat' (first|exact bW|refine bU ?_ ?_));(iterate 15 (· ((first|refine aR rfl rfl rfl ?_|refine does_mk rfl rfl rfl rfl ?_);( intro wq _ _ hgq;(repeat (refine aG rfl rfl ?_;intro vq hvq;try (obtain rfl:=hvq)));(refine aN ?_));(repeat (first|refine aU rfl rfl rfl ?_|(refine aB ?_;refine TL.pure rfl rfl ?_)|refine aK rfl yM rfl ?_|refine aF rfl rfl ?_|(refine cN ?_;refine dN rfl rfl (by omega) (by omega) rfl ?_)|refine TL.nil ?_|(refine aH ?_;refine aZ rfl yD rfl ?_)|refine TL.pure rfl rfl ?_|(refine bC ?_;refine aV (j:=j) rfl rfl (by omega) (by omega) rfl ⟨F,_,hs.grow yG⟩ rfl ?_)|(refine dU ?_;refine dV rfl (hs.grow yG) q1 rfl ?_)|(refine aY ?_;refine aK rfl ((hs.grow yG).row.cell q1) rfl ?_)|(refine aL 139 ?_;refine aI rfl (gL _ _ _ _ _ _ _ _ _ _ _ (r1.grow yG) (s1.grow yG)) rfl ?_;rintro _ _ ⟨rfl,hgc⟩)));exact aT rfl yG rfl)))));(rintro _ _ _ hgr _ _;(repeat (refine aG rfl rfl ?_;intro vq hvq;try (obtain rfl:=hvq)));(refine aN ?_))
     repeat (first|(refine aD ?_;refine TL.pure rfl rfl ?_)|refine TL.nil ?_|refine aA ?_|refine aJ ?_|refine aC ?_|refine aM rfl ?_|refine bE ?_|refine bI ?_|refine cZ ?_|refine dY ?_)
     exact cI rfl ⟨_,rfl,by rw [hno (by simp [iB,hx,hy,hc])];simp,yG⟩
end Go.Proofs.YtfpadnmdafiddaaGreatDoor
namespace Go.Proofs.YtfpadnmdafiddaaGreatDoor
open Go Go.RowKit Go.V
theorem ints_at {l:List Nat} {i x:Nat} (h:l[i]? = some x):(cM l)[i]? = some (.int .i64 (x:Int)):=by simp [cM,h]
theorem ints_take (l:List Nat) (i:Nat):(cM l).take i=cM (l.take i):=by simp [cM,List.map_take]
theorem index_c (F:Nat→Prop) (a:Option Addr) (n c:Nat) (l:List Nat) (k:Nat) (w:World) (hs:Sl F w 1 a n c (cM l)) :
  Calls Tryz.prog 294 #[.slice a n c,.int .i64 (k:Int)] w (Ret λ v w'=>(∃ z:Int,v=.int .i64 z∧(0≤z↔l.contains k=true))∧w=w'):=by
 refine V.calls (args:=[_,_]) Tryz.func294 rfl Tryz.ntmps294 rfl rfl ?_
 have hn:=eI hs
 have hle:=hs.le
 repeat (first|(refine aB ?_;refine TL.pure rfl rfl ?_)|(refine aD ?_;refine TL.pure rfl rfl ?_)|refine TL.nil ?_|refine aA ?_|refine aJ ?_|refine aC ?_|refine T.block ?_|refine aO rfl rfl ?_)
 refine cU (S:=Nat) (λ i=>[(8,.int .i64 (i:Int)),(7,.int .i64 (n:Int)),(0,.slice a n c),(1,.int .i64 (k:Int))]) (λ i w'=>w=w'∧i≤n∧∀ j,j<i→l[j]?≠some k) (λ i=>n-i) 0 ⟨rfl,rfl,rfl,rfl,trivial⟩ ⟨rfl,by omega,λ j hj=>by omega⟩ ?_
 rintro i _ ⟨rfl,hi,hall⟩
 by_cases hlt:i<n
 ·obtain ⟨p,hp⟩:∃ p,l[i]? = some p:=⟨_,List.getElem?_eq_getElem (by omega)⟩
  have hcx:w.cell? (at' a i)=some (.int .i64 (p:Int)):=hs.row.cell (ints_at hp)
  by_cases he:k=p
  ·repeat (first|(refine bC ?_;refine aV rfl rfl rfl hlt (Nat.mul_one _) ⟨F,_,hs⟩ rfl ?_)|(refine aB ?_;refine TL.pure rfl rfl ?_)|(refine aD ?_;refine TL.pure rfl rfl ?_)|refine aK rfl yM rfl ?_|refine TL.nil ?_|refine aA ?_|refine aJ ?_|refine aC ?_|refine T.block ?_|(refine aH ?_;refine aZ rfl yD rfl ?_)|refine aM rfl ?_|refine bE ?_|refine aW ?_|refine bI ?_|refine cZ ?_|refine dY ?_)
   exact cI rfl ⟨_,rfl,⟨_,rfl,⟨λ _=>List.contains_iff_mem.2 (List.mem_of_getElem? (he▸hp)),λ _=>by omega⟩⟩,rfl⟩
  ·repeat (first|(refine bC ?_;refine aV rfl rfl rfl hlt (Nat.mul_one _) ⟨F,_,hs⟩ rfl ?_)|(refine aB ?_;refine TL.pure rfl rfl ?_)|(refine aD ?_;refine TL.pure rfl rfl ?_)|refine aK rfl yM rfl ?_|(refine bL ?_;refine bT rfl rfl (by omega) rfl ?_)|refine TL.nil ?_|refine aA ?_|refine aJ ?_|refine aC ?_|refine T.block ?_|refine aS ?_|(refine aH ?_;first|refine aZ rfl yD rfl ?_|refine aQ rfl yD rfl ?_)|refine aM rfl ?_|refine aE rfl ?_|refine aW ?_)
   exact bG (i+1) ⟨rfl,rfl,rfl,rfl,trivial⟩ ⟨rfl,by omega,λ j hj=>by
    by_cases hj2:j=i
    ·subst hj2;rw [hp];simp;omega
    ·exact hall j (by omega)⟩ (by omega)
 ·repeat (first|(refine aD ?_;refine TL.pure rfl rfl ?_)|refine TL.nil ?_|refine aA ?_|refine aJ ?_|refine aC ?_|(refine aH ?_;refine aQ rfl yD rfl ?_)|refine aE rfl ?_|refine bE ?_|refine cV ?_|refine bN ?_|refine bP ?_|refine bO ?_)
  refine cI rfl ⟨_,rfl,⟨_,rfl,⟨λ h=>by omega,λ h=>?_⟩⟩,rfl⟩
  obtain ⟨j,hj,e⟩:=List.mem_iff_getElem.1 (List.contains_iff_mem.1 h)
  exact absurd (by rw [List.getElem?_eq_getElem hj,e]) (hall j (by omega))
theorem contains_t {F:Nat→Prop} {a:Option Addr} {n c:Nat} {l:List Nat} {k:Nat} {w:World} {b:Bool} (hs:Sl F w 1 a n c (cM l)) (hb:l.contains k=b) :
  Calls Tryz.prog 293 #[.slice a n c,.int .i64 (k:Int)] w (Ret λ v w'=>v=.bool b∧w=w'):=by
 refine V.calls (args:=[_,_]) Tryz.func293 rfl Tryz.ntmps293 rfl rfl ?_
 repeat (first|(refine aB ?_;refine TL.pure rfl rfl ?_)|(refine aD ?_;refine TL.pure rfl rfl ?_)|refine TL.nil ?_|refine aA ?_|refine aJ ?_|refine aC ?_)
 refine aI rfl (index_c F a n c l k _ hs) rfl ?_
 rintro _ _ ⟨⟨z,rfl,hz⟩,rfl⟩
 repeat (first|(refine aD ?_;refine TL.pure rfl rfl ?_)|refine TL.nil ?_|refine aA ?_|(refine aH ?_;refine TL.pure rfl rfl ?_)|refine bE ?_)
 exact cI rfl ⟨_,rfl,congrArg Value.bool (by rw [← hb,Bool.eq_iff_iff,← hz];simp),rfl⟩
theorem KysAt.at' {F:Nat→Prop} {w:World} {a:Option Addr} {n c:Nat} {l:List Bs} (h:KysAt F w a n c l):∃ cs,Sl F w 1 a n c cs∧∀ (i:Nat) (x:Bs),l[i]? = some x→∃ ka kc,cs[i]? = some (.slice ka x.length kc)∧Sl F w 1 ka x.length kc (cX x):=by
 obtain ⟨cs,h1,h2⟩:=h.ex
 refine ⟨cs,h1,λ i x hx=>?_⟩
 obtain ⟨k,g1,g3⟩:=h2.at' hx
 obtain ⟨ka,kc,rfl,s1⟩:=g3.sl
 exact ⟨ka,kc,g1,s1⟩
theorem wholeB_c (F:Nat→Prop) (a1:Option Addr) (n1 c1:Nat) (a2:Option Addr) (n2 c2:Nat) (a3:Option Addr) (n3 c3:Nat) (l:List Nat) (ks:List Bs) (w:World) (hk:Sl F w 1 a2 n2 c2 (cM l)) (hy:KysAt F w a3 n3 c3 ks) :
  Calls Tryz.prog 292 #[.agg #[.slice a1 n1 c1,.slice a2 n2 c2,.slice a3 n3 c3]] w (Ret λ v w'=>v=.bool (decide (n1=0)&&decide (2≤n2)&&decide (n2≤8)&&decide (n3+1=n2)&&gM (kK l) n2&&gM (jO ks) n3)∧Grow w w'):=by
 refine V.calls (args:=[_]) Tryz.func292 rfl Tryz.ntmps292 rfl rfl ?_
 have hn2:=eI hk
 have hn3:=hy.len
 by_cases h1:n1=0
 rotate_left
 ·repeat (first|refine bH rfl rfl rfl ?_|(refine aB ?_;refine TL.pure rfl rfl ?_)|(refine aD ?_;refine TL.pure rfl rfl ?_)|refine aK rfl yM rfl ?_|refine aF rfl rfl ?_|refine TL.nil ?_|refine aA ?_|refine aJ ?_|refine aC ?_|(refine aH ?_;refine aZ rfl yD rfl ?_)|(refine cD ?_;(refine dP rfl rfl ?_;intro bk w' hg hbk hsz hsz'))|refine aO rfl rfl ?_|refine aM rfl ?_|refine bE ?_|refine bI ?_|refine TL.pure rfl rfl ?_)
  exact cI rfl ⟨_,rfl,by simp [h1],yG⟩
 by_cases h2:2≤n2
 rotate_left
 ·repeat (first|(refine eA ?_;first|refine bH rfl rfl rfl ?_|refine aU rfl rfl rfl ?_)|(refine aB ?_;refine TL.pure rfl rfl ?_)|(refine aD ?_;refine TL.pure rfl rfl ?_)|refine aK rfl yM rfl ?_|refine aF rfl rfl ?_|refine TL.nil ?_|refine aA ?_|refine aJ ?_|refine aC ?_|(refine aH ?_;first|refine aZ rfl yD rfl ?_|refine aQ rfl yD rfl ?_)|(refine cD ?_;(refine dP rfl rfl ?_;intro bk w' hg hbk hsz hsz'))|refine aO rfl rfl ?_|refine aM rfl ?_|refine bE ?_|refine bI ?_|refine TL.pure rfl rfl ?_)
  exact cI rfl ⟨_,rfl,by simp [h2],yG⟩
 by_cases h8:n2≤8
 rotate_left
 ·repeat (first|(refine eA ?_;first|refine bH rfl rfl rfl ?_|refine aU rfl rfl rfl ?_)|(refine aB ?_;refine TL.pure rfl rfl ?_)|(refine aD ?_;refine TL.pure rfl rfl ?_)|refine aK rfl yM rfl ?_|refine aF rfl rfl ?_|refine TL.nil ?_|refine aA ?_|refine aJ ?_|refine aC ?_|(refine aH ?_;first|refine aZ rfl yD rfl ?_|refine aQ rfl yD rfl ?_)|(refine cD ?_;(refine dP rfl rfl ?_;intro bk w' hg hbk hsz hsz'))|refine aO rfl rfl ?_|refine aM rfl ?_|refine bE ?_|refine bI ?_|refine TL.pure rfl rfl ?_)
  exact cI rfl ⟨_,rfl,by simp [h8],yG⟩
 by_cases h4:n3+1=n2
 rotate_left
 ·repeat (first|refine aU rfl rfl rfl ?_|(refine aB ?_;refine TL.pure rfl rfl ?_)|(refine aD ?_;refine TL.pure rfl rfl ?_)|refine aK rfl yM rfl ?_|refine aF rfl rfl ?_|(refine cN ?_;refine dN rfl rfl (by omega) (by omega) rfl ?_)|refine TL.nil ?_|refine aA ?_|refine aJ ?_|refine aC ?_|(refine aH ?_;first|refine aZ rfl yD rfl ?_|refine aQ rfl yD rfl ?_)|(refine cD ?_;(refine dP rfl rfl ?_;intro bk w' hg hbk hsz hsz'))|refine aO rfl rfl ?_|refine aM rfl ?_|refine bE ?_|refine bI ?_|refine TL.pure rfl rfl ?_)
  exact cI rfl ⟨_,rfl,by simp [h4],yG⟩
 repeat (first|refine aU rfl rfl rfl ?_|(refine aB ?_;refine TL.pure rfl rfl ?_)|(refine aD ?_;refine TL.pure rfl rfl ?_)|refine aK rfl yM rfl ?_|refine aF rfl rfl ?_|(refine cN ?_;refine dN rfl rfl (by omega) (by omega) rfl ?_)|refine TL.nil ?_|refine aA ?_|refine aJ ?_|refine aC ?_|refine T.block ?_|(refine aH ?_;refine aQ rfl yD rfl ?_)|(refine cD ?_;(refine dP rfl rfl ?_;intro bk w' hg hbk hsz hsz'))|refine aO rfl rfl ?_|refine aE rfl ?_|refine aW ?_|refine TL.pure rfl rfl ?_)
 have hbox:=hbk
 refine cU (S:=Nat) (λ i=>[(36,.int .i64 (i:Int)),(35,.int .i64 (n2:Int)),(34,.slice a2 n2 c2),(1,.pointer (some ⟨bk,0,none⟩))]) (λ i w1=>Blk w1 bk 271 [.slice a1 n1 c1,.slice a2 n2 c2,.slice a3 n3 c3]∧Grow w w1∧i≤n2∧∀ j,j<i→kK l j=true) (λ i=>n2-i) 0 ⟨rfl,rfl,rfl,rfl,trivial⟩ ⟨hbk,hg,by omega,λ j hj=>by omega⟩ ?_
 clear hbk hg hbox
 rintro i w1 ⟨hbk,hg1,hi,hall⟩
 have hblt:=hbk.lt
 have hk1:=hk.grow hg1
 by_cases hlt:i<n2
 ·obtain ⟨p,hp⟩:∃ p,l[i]? = some p:=⟨_,List.getElem?_eq_getElem (by omega)⟩
  have hcx:w1.cell? (at' a2 i)=some (.int .i64 (p:Int)):=hk1.row.cell (ints_at hp)
  have hno:kK l i=false→gM (kK l) n2=false:=λ h0=>by
   cases hb:gM (kK l) n2 with
   | false=>rfl
   | true=>have:=mX hb hlt;rw [h0] at this;cases this
  by_cases hp2:p≤2147483647
  ·cases hct:(l.take i).contains p with
   | false =>
    repeat (first|(refine bC ?_;refine aV rfl rfl rfl hlt (Nat.mul_one _) ⟨F,_,hk1⟩ rfl ?_)|(refine eX ?_;refine TL.slice (l:=0) (h:=i) (mm:=c2) rfl hk1 (cA _) (dT rfl rfl) (cA _) (by intro h;cases h) (by omega) (by omega) (by have:=hk.cap;omega) (Nat.le_refl _) rfl ?_;intro a' hsl _)|(refine aL 293 ?_;refine aI rfl (contains_t (by simpa [ints_take] using hsl) hct) rfl ?_;rintro _ _ ⟨rfl,rfl⟩)|refine aU rfl rfl rfl ?_|(refine aB ?_;refine TL.pure rfl rfl ?_)|(refine aD ?_;refine TL.pure rfl rfl ?_)|refine aK rfl yM rfl ?_|refine aF rfl rfl ?_|(refine bL ?_;refine bT rfl rfl (by omega) rfl ?_)|refine TL.nil ?_|refine aA ?_|refine aJ ?_|refine aC ?_|refine T.block ?_|refine aS ?_|(refine aH ?_;first|refine aZ rfl yD rfl ?_|refine aQ rfl yD rfl ?_)|refine aM rfl ?_|refine aE rfl ?_|refine aW ?_|refine TL.pure rfl rfl ?_)
    exact bG (i+1) ⟨rfl,rfl,rfl,rfl,trivial⟩ ⟨yB,yG,by omega,λ j hj=>by
     by_cases hj2:j=i
     ·subst hj2;unfold kK;rw [hp];simp only [hct,Bool.not_false,Bool.and_true,decide_eq_true_eq];omega
     ·exact hall j (by omega)⟩ (by omega)
   | true =>
    repeat (first|(refine bC ?_;refine aV rfl rfl rfl hlt (Nat.mul_one _) ⟨F,_,hk1⟩ rfl ?_)|(refine eX ?_;refine TL.slice (l:=0) (h:=i) (mm:=c2) rfl hk1 (cA _) (dT rfl rfl) (cA _) (by intro h;cases h) (by omega) (by omega) (by have:=hk.cap;omega) (Nat.le_refl _) rfl ?_;intro a' hsl _)|(refine aL 293 ?_;refine aI rfl (contains_t (by simpa [ints_take] using hsl) hct) rfl ?_;rintro _ _ ⟨rfl,rfl⟩)|refine aU rfl rfl rfl ?_|(refine aB ?_;refine TL.pure rfl rfl ?_)|(refine aD ?_;refine TL.pure rfl rfl ?_)|refine aK rfl yM rfl ?_|refine aF rfl rfl ?_|refine TL.nil ?_|refine aA ?_|refine aJ ?_|refine aC ?_|refine T.block ?_|(refine aH ?_;first|refine aZ rfl yD rfl ?_|refine aQ rfl yD rfl ?_)|refine aM rfl ?_|refine bE ?_|refine aW ?_|refine bI ?_|refine cZ ?_|refine dY ?_|refine TL.pure rfl rfl ?_)
    exact cI rfl ⟨_,rfl,by rw [hno (by unfold kK;rw [hp];simp only [hct,Bool.not_true,Bool.and_false])];simp,yG⟩
  ·repeat (first|(refine bC ?_;refine aV rfl rfl rfl hlt (Nat.mul_one _) ⟨F,_,hk1⟩ rfl ?_)|(refine eA ?_;first|refine bH rfl rfl rfl ?_|refine aU rfl rfl rfl ?_)|(refine aB ?_;refine TL.pure rfl rfl ?_)|(refine aD ?_;refine TL.pure rfl rfl ?_)|refine aK rfl yM rfl ?_|refine TL.nil ?_|refine aA ?_|refine aJ ?_|refine aC ?_|refine T.block ?_|(refine aH ?_;first|refine aZ rfl yD rfl ?_|refine aQ rfl yD rfl ?_)|refine aM rfl ?_|refine bE ?_|refine aW ?_|refine bI ?_|refine cZ ?_|refine dY ?_|refine TL.pure rfl rfl ?_)
   exact cI rfl ⟨_,rfl,by rw [hno (by simp [kK,hp];omega)];simp,yG⟩
 have hkids:gM (kK l) n2=true:=mW λ j hj=>hall j (by omega)
 clear hall
 obtain ⟨cs,hs,hcell⟩:=hy.at'
 repeat (first|(refine aB ?_;refine TL.pure rfl rfl ?_)|refine aK rfl yM rfl ?_|refine aF rfl rfl ?_|refine TL.nil ?_|refine aA ?_|refine aJ ?_|refine aC ?_|refine T.block ?_|(refine aH ?_;refine aQ rfl yD rfl ?_)|refine aO rfl rfl ?_|refine aE rfl ?_|refine cV ?_|refine bN ?_|refine bP ?_|refine bO ?_)
 refine cU (S:=Nat) (λ i=>[(59,.int .i64 (i:Int)),(58,.int .i64 (n3:Int)),(57,.slice a3 n3 c3),(1,.pointer (some ⟨bk,0,none⟩))]) (λ i w1=>Blk w1 bk 271 [.slice a1 n1 c1,.slice a2 n2 c2,.slice a3 n3 c3]∧Grow w w1∧i≤n3∧∀ j,j<i→jO ks j=true) (λ i=>n3-i) 0 ⟨rfl,rfl,rfl,rfl,trivial⟩ ⟨hbk,hg1,by omega,λ j hj=>by omega⟩ ?_
 clear hbk hk1 hblt hg1
 rintro i w1 ⟨hbk,hg1,hi,hall⟩
 have hblt:=hbk.lt
 have hs1:=hs.grow hg1
 by_cases hlt:i<n3
 rotate_left
 ·have hkeys:gM (jO ks) n3=true:=mW λ j hj=>hall j (by omega)
  repeat (first|(refine aD ?_;refine TL.pure rfl rfl ?_)|refine TL.nil ?_|refine aA ?_|refine aJ ?_|refine aC ?_|(refine aH ?_;refine aQ rfl yD rfl ?_)|refine aE rfl ?_|refine bE ?_|refine cV ?_|refine bN ?_|refine bP ?_|refine bO ?_)
  exact cI rfl ⟨_,rfl,by rw [hkids,hkeys];simp [h1,h2,h8,h4],yG⟩
 obtain ⟨p,hp⟩:∃ p,ks[i]? = some p:=⟨_,List.getElem?_eq_getElem (by omega)⟩
 obtain ⟨ka,kc,g1,s1⟩:=hcell i p hp
 have hcx:w1.cell? (at' a3 i)=some (.slice ka p.length kc):=hs1.row.cell g1
 have s1':=s1.grow hg1
 have hno:jO ks i=false→gM (jO ks) n3=false:=λ h0=>by
  cases hb:gM (jO ks) n3 with
  | false=>rfl
  | true=>have:=mX hb hlt;rw [h0] at this;cases this
 cases hko:dB p with
 | false =>
  repeat (first|refine TL.guard_left rfl rfl rfl ?_|(refine bC ?_;refine aV rfl rfl rfl hlt (Nat.mul_one _) ⟨F,_,hs1⟩ rfl ?_)|(refine aL 94 ?_;refine aI rfl (lZ s1' hko) rfl ?_;rintro _ _ ⟨rfl,rfl⟩)|refine bH rfl rfl rfl ?_|(refine aB ?_;refine TL.pure rfl rfl ?_)|(refine aD ?_;refine TL.pure rfl rfl ?_)|refine aK rfl yM rfl ?_|refine TL.nil ?_|refine aA ?_|refine aJ ?_|refine aC ?_|refine T.block ?_|(refine aH ?_;refine aZ rfl yD rfl ?_)|refine aM rfl ?_|refine bE ?_|refine aW ?_|refine bI ?_|refine cZ ?_|refine dY ?_|refine TL.pure rfl rfl ?_)
  exact cI rfl ⟨_,rfl,by rw [hno (by simp [jO,hp,hko])];simp,yG⟩
 | true =>
  cases i with
  | zero =>
   repeat (first|(refine bC ?_;refine aV rfl rfl rfl hlt (Nat.mul_one _) ⟨F,_,hs1⟩ rfl ?_)|(refine aL 94 ?_;refine aI rfl (lZ s1' hko) rfl ?_;rintro _ _ ⟨rfl,rfl⟩)|(refine eA ?_;first|refine bH rfl rfl rfl ?_|refine aU rfl rfl rfl ?_)|(refine aB ?_;refine TL.pure rfl rfl ?_)|(refine aD ?_;refine TL.pure rfl rfl ?_)|refine aK rfl yM rfl ?_|(refine bL ?_;refine bT rfl rfl (by omega) rfl ?_)|refine TL.nil ?_|refine aA ?_|refine aJ ?_|refine aC ?_|refine T.block ?_|refine aS ?_|(refine aH ?_;first|refine aZ rfl yD rfl ?_|refine aQ rfl yD rfl ?_)|refine aM rfl ?_|refine aE rfl ?_|refine aW ?_|refine TL.pure rfl rfl ?_)
   exact bG 1 ⟨rfl,rfl,rfl,rfl,trivial⟩ ⟨yB,yG,by omega,λ j hj=>by
     obtain rfl:j=0:=by omega
     simp [jO,hp,hko]⟩ (by omega)
  | succ j =>
   obtain ⟨q,hq⟩:∃ q,ks[j]? = some q:=⟨_,List.getElem?_eq_getElem (by omega)⟩
   obtain ⟨ka',kc',q1,r1⟩:=hcell j q hq
   have hcy:w1.cell? (at' a3 j)=some (.slice ka' q.length kc'):=hs1.row.cell q1
   have r1':=r1.grow hg1
   by_cases hc:dX q p<0
   ·repeat (first|(refine bC ?_;first|refine aV rfl rfl rfl hlt (Nat.mul_one _) ⟨F,_,hs1⟩ rfl ?_|refine aV (j:=j) rfl rfl (by omega) (by omega) (Nat.mul_one _) ⟨F,_,hs1⟩ rfl ?_)|(refine aL 94 ?_;refine aI rfl (lZ s1' hko) rfl ?_;rintro _ _ ⟨rfl,rfl⟩)|(refine aL 139 ?_;refine aI rfl (gL _ _ _ _ _ _ _ _ _ _ _ r1' s1') rfl ?_;rintro _ _ ⟨rfl,hgc⟩)|refine aU rfl rfl rfl ?_|(refine aB ?_;refine TL.pure rfl rfl ?_)|(refine aD ?_;refine TL.pure rfl rfl ?_)|refine aK rfl yM rfl ?_|refine aF rfl rfl ?_|(refine bL ?_;refine bT rfl rfl (by omega) rfl ?_)|(refine cN ?_;refine dN rfl rfl (by omega) (by omega) rfl ?_)|refine TL.nil ?_|refine aA ?_|refine aJ ?_|refine aC ?_|refine T.block ?_|refine aS ?_|(refine aH ?_;first|refine aZ rfl yD rfl ?_|refine aQ rfl yD rfl ?_)|refine aM rfl ?_|refine aE rfl ?_|refine aW ?_|refine TL.pure rfl rfl ?_)
    exact bG (j+1+1) ⟨rfl,rfl,rfl,rfl,trivial⟩ ⟨yB,yG,by omega,λ k hk=>by
      by_cases hk2:k=j+1
      ·subst hk2;simp [jO,hp,hq,hko,hc]
      ·exact hall k (by omega)⟩ (by omega)
   ·repeat (first|(refine bC ?_;first|refine aV rfl rfl rfl hlt (Nat.mul_one _) ⟨F,_,hs1⟩ rfl ?_|refine aV (j:=j) rfl rfl (by omega) (by omega) (Nat.mul_one _) ⟨F,_,hs1⟩ rfl ?_)|(refine aL 94 ?_;refine aI rfl (lZ s1' hko) rfl ?_;rintro _ _ ⟨rfl,rfl⟩)|(refine aL 139 ?_;refine aI rfl (gL _ _ _ _ _ _ _ _ _ _ _ r1' s1') rfl ?_;rintro _ _ ⟨rfl,hgc⟩)|refine aU rfl rfl rfl ?_|(refine aB ?_;refine TL.pure rfl rfl ?_)|(refine aD ?_;refine TL.pure rfl rfl ?_)|refine aK rfl yM rfl ?_|refine aF rfl rfl ?_|(refine cN ?_;refine dN rfl rfl (by omega) (by omega) rfl ?_)|refine TL.nil ?_|refine aA ?_|refine aJ ?_|refine aC ?_|refine T.block ?_|(refine aH ?_;refine aZ rfl yD rfl ?_)|refine aM rfl ?_|refine bE ?_|refine aW ?_|refine bI ?_|refine cZ ?_|refine dY ?_|refine TL.pure rfl rfl ?_)
    exact cI rfl ⟨_,rfl,by rw [hno (by simp [jO,hp,hq,hc])];simp,yG⟩
theorem check_c (F:Nat→Prop) (x:NV) (nd:Nd) (w:World) (h:NdAt F w x nd) :
  Calls Tryz.prog 188 #[x.val] w (Ret λ v w'=>v=.int .i64 (if cE nd then 0 else 2)∧Grow w w'):=by
 have hn1:=h.its.len
 have hn2:=eI h.kids
 have hn3:=h.kys.len
 refine V.calls (args:=[_]) Tryz.func188 rfl Tryz.ntmps188 rfl rfl ?_
 by_cases h2:x.n2=0
 ·have hlf:cK nd=true:=by rw [dK];exact List.eq_nil_of_length_eq_zero (by omega)
  have hb:cE nd=(decide (x.n3=0)&&decide (x.n1≤8)&&gM (iB nd.items) x.n1):=by
   unfold cE wholeL
   have e:nd.keys.isEmpty=decide (nd.keys.length=0):=by cases nd.keys<;>simp
   rw [if_pos hlf,hn1,hn3,e]
  cases hok:cE nd with
  | true =>
   repeat (first|(refine aL 189 ?_;refine aI rfl (shape_leaf x _ h2) rfl ?_;rintro _ _ ⟨rfl,hgc⟩)|(refine mG ?_;refine TL.invoke0 rfl (wholeL_c F _ _ _ _ _ _ _ _ (h.its.go (Carry.grow yG))) rfl ?_;rintro _ _ ⟨rfl,hgc⟩;rw [← hb,hok])|(refine aD ?_;refine TL.pure rfl rfl ?_)|(refine aY ?_;refine bK rfl yB (by exact rfl) rfl ?_)|refine TL.nil ?_|refine aA ?_|refine aJ ?_|refine aC ?_|(refine cD ?_;(refine dP rfl rfl ?_;intro bk w' hg hbk hsz hsz'))|refine aE rfl ?_|refine bE ?_|refine aW ?_|refine TL.pure rfl rfl ?_)
   exact cI rfl ⟨_,rfl,rfl,yG⟩
  | false =>
   repeat (first|(refine aL 189 ?_;refine aI rfl (shape_leaf x _ h2) rfl ?_;rintro _ _ ⟨rfl,hgc⟩)|(refine mG ?_;refine TL.invoke0 rfl (wholeL_c F _ _ _ _ _ _ _ _ (h.its.go (Carry.grow yG))) rfl ?_;rintro _ _ ⟨rfl,hgc⟩;rw [← hb,hok])|(refine aD ?_;refine TL.pure rfl rfl ?_)|(refine aY ?_;refine bK rfl yB (by exact rfl) rfl ?_)|refine TL.nil ?_|refine aA ?_|refine aJ ?_|refine aC ?_|(refine cD ?_;(refine dP rfl rfl ?_;intro bk w' hg hbk hsz hsz'))|refine aM rfl ?_|refine bE ?_|refine bI ?_|refine TL.pure rfl rfl ?_)
   exact cI rfl ⟨_,rfl,rfl,yG⟩
 ·have hlf:¬ cK nd=true:=by rw [dK];intro e;rw [e] at hn2;exact h2 hn2
  have hb:cE nd=(decide (x.n1=0)&&decide (2≤x.n2)&&decide (x.n2≤8)&&decide (x.n3+1=x.n2)&&gM (kK nd.kids) x.n2&&gM (jO nd.keys) x.n3):=by
   unfold cE wholeB
   have e:nd.items.isEmpty=decide (nd.items.length=0):=by cases nd.items<;>simp
   rw [if_neg hlf,hn1,hn2,hn3,e]
  cases hok:cE nd with
  | true =>
   repeat (first|(refine aL 189 ?_;refine aI rfl (kN x _ h2) rfl ?_;rintro _ _ ⟨rfl,hgc⟩)|(refine mG ?_;refine TL.invoke0 rfl (wholeB_c F _ _ _ _ _ _ _ _ _ _ _ _ (h.kids.go (Carry.grow yG)) (h.kys.go (Carry.grow yG))) rfl ?_;rintro _ _ ⟨rfl,hgc⟩;rw [← hb,hok])|(refine aD ?_;refine TL.pure rfl rfl ?_)|(refine aY ?_;refine bK rfl yB (by exact rfl) rfl ?_)|refine TL.nil ?_|refine aA ?_|refine aJ ?_|refine aC ?_|(refine cD ?_;(refine dP rfl rfl ?_;intro bk w' hg hbk hsz hsz'))|refine aE rfl ?_|refine bE ?_|refine aW ?_|refine TL.pure rfl rfl ?_)
   exact cI rfl ⟨_,rfl,rfl,yG⟩
  | false =>
   repeat (first|(refine aL 189 ?_;refine aI rfl (kN x _ h2) rfl ?_;rintro _ _ ⟨rfl,hgc⟩)|(refine mG ?_;refine TL.invoke0 rfl (wholeB_c F _ _ _ _ _ _ _ _ _ _ _ _ (h.kids.go (Carry.grow yG)) (h.kys.go (Carry.grow yG))) rfl ?_;rintro _ _ ⟨rfl,hgc⟩;rw [← hb,hok])|(refine aD ?_;refine TL.pure rfl rfl ?_)|(refine aY ?_;refine bK rfl yB (by exact rfl) rfl ?_)|refine TL.nil ?_|refine aA ?_|refine aJ ?_|refine aC ?_|(refine cD ?_;(refine dP rfl rfl ?_;intro bk w' hg hbk hsz hsz'))|refine aM rfl ?_|refine bE ?_|refine bI ?_|refine TL.pure rfl rfl ?_)
   exact cI rfl ⟨_,rfl,rfl,yG⟩
theorem check_ok {F:Nat→Prop} {x:NV} {nd:Nd} {w:World} (h:NdAt F w x nd) (hok:cE nd=true):Calls Tryz.prog 188 #[x.val] w (Ret λ v w'=>v=.int .i64 0∧Grow w w'):=by
 have:=check_c F x nd w h
 rwa [if_pos hok] at this
theorem check_bad {F:Nat→Prop} {x:NV} {nd:Nd} {w:World} (h:NdAt F w x nd) (hok:cE nd=false):Calls Tryz.prog 188 #[x.val] w (Ret λ v w'=>v=.int .i64 2∧Grow w w'):=by
 have:=check_c F x nd w h
 rwa [if_neg (by rw [hok];simp)] at this
end Go.Proofs.YtfpadnmdafiddaaGreatDoor
