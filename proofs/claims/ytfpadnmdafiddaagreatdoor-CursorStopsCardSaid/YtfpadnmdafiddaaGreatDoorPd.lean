import Derived.Test.YtfpadnmdafiddaaGreatDoorP0
import Derived.Test.YtfpadnmdafiddaaGreatDoorPc
import Derived.DeepKeys4
import Derived.Maps.Keyed
import Derived.Carry
import Derived.Laws.OwnMore
set_option linter.all false
set_option maxHeartbeats 16000000
set_option maxRecDepth 100000
namespace Go.Proofs.YtfpadnmdafiddaaGreatDoor
def cD (s:Pg) (n:Nat):Option Nd:=if bK s n then fX (s.body n) else none
def gV (s:Pg) (n:Nd):Option (Nat×Pg):=if bF n then newP s (dC n) else none
def hY {α : Type} (l:List α) (at':Nat) (x:List α):List α:=l.take at'++x++l.drop at'
def dT {α : Type} (l:List α) (a b:Nat):List α:=l.take a++l.drop b
def jK (s:Pg) (key:Bs):Nat→Nat→Option (List (Nd×Nat)×Bool)
 | 0,_=>none
 | f+1,n=>match cD s n with
  | none=>none
  | some nd =>
   if bN nd then some ([(nd,dP nd.items key)],fP nd.items key)
   else match nd.kids[fW nd.keys key]? with
    | none=>none
    | some k=>match jK s key f k with
     | none=>none
     | some (l,th)=>some ((nd,fW nd.keys key)::l,th)
def cP (n:Nd) (at':Nat) (up:Nd) (item:Bs×Bs) (there:Bool):Nd :=
 if bN n then (if there then { n with items:=hY (dT n.items at' (at'+1)) at' [item] } else { n with items:=hY n.items at' [item] })
 else { n with kids:=hY (dT n.kids at' (at'+1)) at' up.kids,keys:=hY n.keys at' up.keys }
def bV (n:Nd):Nd×Nd×Bs :=
 if bN n then (⟨dT n.items 4 n.items.length,[],[]⟩,⟨dT n.items 0 4,[],[]⟩,((dT n.items 0 4).getD 0 ([],[])).1)
 else (⟨[],dT n.kids 4 n.kids.length,dT n.keys 3 n.keys.length⟩,⟨[],dT n.kids 0 4,dT n.keys 0 4⟩,n.keys.getD 3 [])
def storeP (s:Pg) (n:Nd):Option (Nd×Pg) :=
 if 8<aT n then match gV s (bV n).1 with
  | none=>none
  | some (p,s1)=>match gV s1 (bV n).2.1 with
   | none=>none
   | some (q,s2)=>some (⟨[],[p,q],[(bV n).2.2]⟩,s2)
 else match gV s n with
  | none=>none
  | some (p,s1)=>some (⟨[],[p],[]⟩,s1)
def mI (item:Bs×Bs) (there:Bool):List (Nd×Nat)→Pg→Option (Nd×Pg)
 | [],s=>some (nd0,s)
 | f::r,s=>match mI item there r s with
  | none=>none
  | some (up,s1)=>storeP s1 (cP f.1 f.2 up item there)
def putP (s:Pg) (root:Option Nat) (key v:Bs):Option (Nat×Pg) :=
 match root with
 | none=>gV s ⟨[(key,v)],[],[]⟩
 | some n=>match jK s key 16 n with
  | none=>none
  | some (l,there)=>match mI (key,v) there l s with
   | none=>none
   | some (up,s1)=>match up.kids with
    | [k]=>some (k,s1)
    | _=>gV s1 up
def eY (s:Pg):List Nd→Option (List Nat×Pg)
 | []=>some ([],s)
 | x::r=>match gV s x with
  | none=>none
  | some (p,s1)=>match eY s1 r with
   | none=>none
   | some (l,s2)=>some (p::l,s2)
structure Part where
 node:Nd
 levels:Nat
 low:Bs
 high:Bs
abbrev fS:=List (Nat×Part)
def gM (m:fS) (n:Nat):Option Part:=(m.find? λ x=>x.1==n).map (·.2)
def fF (nd:Nd):Part:=⟨nd,1,(nd.items.getD 0 ([],[])).1,(nd.items.getD (nd.items.length-1) ([],[])).1⟩
def lY (rec:Nat→fS→Option (Part×fS)) (nd:Nd):List Nat→Nat→Part→fS→Option (Part×fS)
 | [],_,t,m=>if 16<t.levels then none else some (t,m)
 | k::r,i,t,m=>match rec k m with
  | none=>none
  | some (p,m1) =>
   let t1:Part:=if i=0 then ⟨nd,p.levels+1,p.low,p.high⟩ else ⟨nd,t.levels,t.low,p.high⟩
   if aT p.node<4 || !(p.levels+1==t1.levels) || (decide (0<i)&&decide (bY p.low (nd.keys.getD (i-1) [])<0)) || (decide (i<nd.keys.length)&&decide (0≤bY p.high (nd.keys.getD i []))) then none
   else lY rec nd r (i+1) t1 m1
def kZ (s:Pg):Nat→Nat→fS→Option (Part×fS)
 | f,n,m=>match gM m n with
  | some t=>some (t,m)
  | none=>match f with
   | 0=>none
   | f+1=>match cD s n with
    | none=>none
    | some nd =>
     if bN nd then some (fF nd,(n,fF nd)::m)
     else match lY (kZ s f) nd nd.kids 0 ⟨nd,0,[],[]⟩ m with
      | none=>none
      | some (t,m1)=>some (t,(n,t)::m1)
def treeP (s:Pg) (root:Option Nat) (m:fS):Option (Nat×fS) :=
 match root with
 | none=>some (0,m)
 | some n=>match kZ s 16 n m with
  | none=>none
  | some (t,m1)=>if aT t.node=0 then none else some (t.levels,m1)
def itemsP (m:fS):Nat→Nat→bT
 | 0,_=>[]
 | f+1,n=>match gM m n with
  | none=>[]
  | some t=>t.node.items++t.node.kids.flatMap (itemsP m f)
end Go.Proofs.YtfpadnmdafiddaaGreatDoor
namespace Go.Proofs.YtfpadnmdafiddaaGreatDoor
open Go Go.RowKit Go.V
theorem oread_c (F:Nat→Prop) (a:Option Addr) (n c:Nat) (l:List Nat) (w:World) (hs:Sl F w 1 a n c (bB l)) (hn:n≤1099511627776) :
  Calls Tryz.prog 220 #[.slice a n c] w (Ret λ v w'=>∃ b a' c',v=.pointer (some ⟨b,0,none⟩)∧w.heap.size≤b∧b<w'.heap.size∧Blk w' b 329 (rdr b a' n c' 0 0)∧Sl (λ k=>w.heap.size≤k∧k<b) w' 1 a' n c' (bB l)∧Grow w w'):=by
 refine V.calls (args:=[_]) Tryz.func220 rfl Tryz.ntmps220 rfl rfl ?_;repeat refine dD ?_
 refine aA rfl (grown_c F a n c 0 (bB l) _ hs (bO _) oM) rfl ?_;rintro v1 w1 ⟨a0,e0⟩;obtain ⟨a1,c1,rfl,j0⟩:=aM a0;have g0:=e0.size;repeat (first|refine dD ?_|refine yI λ bk w' hg f0 i0 h0=>?_|refine yJ λ w' hu f0 i0=>?_)
 have k0:Blk w' bk 329 (rdr bk a1 n c1 0 0):=f0;exact bA rfl ⟨_,rfl,bk,a1,c1,rfl,oM,oM,k0,((j0.tight.grow hg).upd hu (λ k hk=>by omega)).mono (λ k hk=>⟨hk.1.1,oM⟩),aH hu oM (e0.trans hg)⟩
theorem own_c (F:Nat→Prop) (a:Option Addr) (n c:Nat) (l:List Nat) (w:World) (hs:Sl F w 1 a n c (bB l)) (hn:n≤1099511627776) :
  Calls Tryz.prog 20 #[.slice a n c] w (Ret λ v w'=>w'.ownsRow w.heap.size 5 1 v n (bB l)∧Grow w w'):=by
 refine V.calls (args:=[_]) Tryz.func20 rfl Tryz.ntmps20 rfl rfl ?_;repeat (first|refine dD ?_|refine yI λ bk w' hg g0 f0 e0=>?_)
 refine kU rfl rfl (eI g0 (Nat.le_of_eq f0)) (hs.grow hg) (bO l) oM oM rfl ?_;intro v' w2 a0 h0;repeat refine dD ?_
 exact bA rfl ⟨_,rfl,a0,yG⟩
def Rd (B b:Nat) (r:List Nat) (e:Nat) (w:World):Prop :=
 ∃ a n c p L,Blk w b 329 (rdr b a n c p e)∧Sl (λ k=>B≤k∧k<b) w 1 a n c (bB L)∧p≤n∧n≤1099511627776∧(∀ x∈L,x<256)∧L.drop p=r
theorem Rd.grow {B b e:Nat} {r:List Nat} {w w':World} (h:Rd B b r e w) (g:Grow w w'):Rd B b r e w':=by
 obtain ⟨a,n,c,p,L,h1,h2,h3⟩:=h;exact ⟨a,n,c,p,L,h1.grow g,h2.grow g,h3⟩
theorem rderr_c {B b e:Nat} {r:List Nat} (w:World) (h:Rd B b r e w):Calls Tryz.prog 222 #[.pointer (some ⟨b,0,none⟩)] w (Ret λ v w'=>v=.int .i64 (e:Int)∧w=w'):=by
 obtain ⟨a,n,c,p,L,h1,h2,h3⟩:=h;exact err_c b a n c p e w h1
theorem numV_le (f:Nat) (t:List Nat):(fV (f::t)).2.1≤(f::t).length:=by
 have hc:=cnt_bd (f:=f);simp only [fV];split
 ·simp
 ·split
  ·simp only [List.length_cons];omega
  ·simp
end Go.Proofs.YtfpadnmdafiddaaGreatDoor
namespace Go.V
open Go Go.RowKit
structure Carry (F:Nat→Prop) (w:World) (F':Nat→Prop) (w':World):Prop where
 size:w.heap.size≤w'.heap.size
 blk:∀ k,F k→k<w.heap.size→F' k∧w'.heap[k]? = w.heap[k]?
theorem Sl.go {F F':Nat→Prop} {w w':World} {sz:Nat} {a:Option Addr} {n c:Nat} {cs:List Value} (h:Sl F w sz a n c cs) (g:Carry F w F' w'):Sl F' w' sz a n c cs :=
 ⟨h.len,h.cap,h.max,h.nil,by
  have hr:=h.row
  cases a with
  | none=>exact hr
  | some p=>exact λ hn=>(λ h=>⟨h.1,(g.blk _ h.2.1 h.2.2.1).1,Nat.lt_of_lt_of_le h.2.2.1 g.size,λ j v hj=>(World.cell?_of_block (w:=w) (a:=⟨p.block,p.off+j,none⟩) (g.blk p.block h.2.1 h.2.2.1).2).trans (h.2.2.2 j v hj)⟩) (hr hn)⟩
theorem Carry.grow {F:Nat→Prop} {w w':World} (g:Grow w w'):Carry F w F w':=⟨g.size,λ k hk h=>⟨hk,g.block k h⟩⟩
theorem Carry.upd {F:Nat→Prop} {w w':World} {b:Nat} (u:Upd b w w') (hb:∀ k,F k→k<w.heap.size→k≠b):Carry F w F w':=⟨Nat.le_of_eq u.size.symm,λ k hk h=>⟨hk,u.block k (hb k hk h)⟩⟩
theorem Carry.mono {F F':Nat→Prop} {w:World} (h:∀ k,F k→k<w.heap.size→F' k):Carry F w F' w:=⟨Nat.le_refl _,λ k hk hl=>⟨h k hk hl,rfl⟩⟩
theorem Carry.trans {F G H:Nat→Prop} {a b c:World} (g:Carry F a G b) (h:Carry G b H c):Carry F a H c :=
 ⟨Nat.le_trans g.size h.size,λ k hk hl=>by
  obtain ⟨h1,h2⟩:=g.blk k hk hl;obtain ⟨h3,h4⟩:=h.blk k h1 (Nat.lt_of_lt_of_le hl g.size)
  exact ⟨h3,h4.trans h2⟩⟩
def concB (P:Program) (t:TypeId):Bool:=match P.underlying t with|some (.interface _)=>false|some _=>true|none=>false
class ConcTy (P:Program) (t:TypeId):Prop where
 h:concB P t=true
def methB (P:Program) (t:TypeId) (s:String) (q:FuncId):Bool :=
 match P.info? t,P.underlying t with
 | some i,some u=>match i.methods.find? (·.name==s) with
  | some mm=>mm.path.isEmpty&&(match mm.func,u with
   | some (f,true),.pointer _=>Nat.beq f q
   | some (f,false),.pointer _=>false
   | some (f,false),_=>Nat.beq f q
   | _,_=>false)
  | none=>false
 | _,_=>false
class MethTy (P:Program) (t:TypeId) (s:String) (q:outParam FuncId):Prop where
 h:methB P t s q=true
theorem ConcTy.und {P:Program} {t:TypeId} (h:ConcTy P t):∃ u,P.underlying t=some u∧∀ ms,u≠.interface ms:=by
 have h:=h.h;unfold concB at h;split at h
 ·cases h
 ·rename_i u hn hu;exact ⟨u,hu,λ ms e=>hn ms e⟩
 ·cases h
section
variable [Rn]
variable {P:Program} {n:Nat} {e:dI} {w:World} {Q:dA} {ops:Array Oper} {rest:List Oper} {d:Nat} {ty:TypeId} {pos:String} {aft:Array Edge}
theorem TL.makeIface {t:TypeId} {x:Operand} {v:Value} [ht:ConcTy P t] (hx:val e x=some v) (hd:Nat.blt d n=true) (k:TL P n ops rest ((d,.iface t v)::e) w Q) :
  TL P n ops (⟨some d,.makeInterface t x,ty,pos,aft,none⟩::rest) e w Q :=
 TL.run (λ a ha=>by
  obtain ⟨u,hu,hn⟩:=ht.und
  cases u<;>first|exact absurd rfl (hn _)|simp [execOp,ha.eval hx,Instr.makeInterface,underlying,hu]) hd k
theorem lL {t s:TypeId} {x:Operand} {v:Value} [ht:ConcTy P t] (hx:val e x=some (.iface t v)) (hd:Nat.blt d n=true) (k:TL P n ops rest ((d,.tuple #[v,.bool true])::e) w Q) :
  TL P n ops (⟨some d,.typeAssert x s t true,ty,pos,aft,none⟩::rest) e w Q :=
 TL.run (λ a ha=>by
  obtain ⟨u,hu,hn⟩:=ht.und
  cases u<;>first|exact absurd rfl (hn _)|simp [execOp,ha.eval hx,Instr.typeAssert,underlying,hu]) hd k
theorem TL.assertNo {t s r:TypeId} {x:Operand} {v z:Value} [ht:ConcTy P t] [hz:Zero P t z] (hx:val e x=some (.iface r v)) (hr:Nat.beq r t=false) (hd:Nat.blt d n=true) (k:TL P n ops rest ((d,.tuple #[z,.bool false])::e) w Q) :
  TL P n ops (⟨some d,.typeAssert x s t true,ty,pos,aft,none⟩::rest) e w Q :=
 TL.run (λ a ha=>by
  obtain ⟨u,hu,hn⟩:=ht.und;have hne:=Nat.ne_of_beq_eq_false hr
  cases u<;>first|exact absurd rfl (hn _)|simp [execOp,ha.eval hx,Instr.typeAssert,underlying,hu,hne,hz.run]) hd k
theorem meth_run {t:TypeId} {s:String} {q:FuncId} (h:methB P t s q=true) (fuel:Nat) (v:Value) (w:World):(method (fuel+1) t v s).run P w=.ok (q,v) w:=by
 unfold methB at h;split at h;rotate_left
 ·cases h
 rename_i i u hi hu;split at h;rotate_left
 ·cases h
 rename_i mm hm;simp only [Bool.and_eq_true] at h;obtain ⟨hp,h⟩:=h;have a0:mm.path.toList=[]:=by simpa [Array.isEmpty_iff] using hp
 unfold method;have e1:(typeInfo t).run P w=.ok i w:=by simp [typeInfo,hi]
 simp only [Sem.run_bind,e1,Result.andThen_ok,hm,a0,follow,Sem.run_pure,hp];split at h
 ·rename_i f e hf;cases Nat.eq_of_beq_eq_true h;simp [hf,receiverAt,underlying,hu,Place.get]
 ·cases h
 ·rename_i u f e0 hf _;cases Nat.eq_of_beq_eq_true h;cases u<;>simp [hf,receiverAt,underlying,hu,Place.get]
 ·cases h
theorem TL.invoke0 {t:TypeId} {s:String} {q:FuncId} {x:Operand} {a0:Array TypeId} {v:Value} {R:Value→World→Prop} [hm:MethTy P t s q] [hf:FnOk P q] (hx:val e x=some (.iface t v))
  (hc:Calls P q #[v] w (Ret R)) (hd:Nat.blt d n=true) (k:∀ u w',R u w'→TL P n ops rest ((d,u)::e) w' Q) :
  TL P n ops (⟨some d,.call ⟨.invoke x s,#[],a0⟩,ty,pos,aft,none⟩::rest) e w Q:=TL.mk λ a ha =>
 wpListIn_plain rfl λ K hK=>by
  have hr:(execOp a.eval ⟨some d,.call ⟨.invoke x s,#[],a0⟩,ty,pos,aft,none⟩).run P w=.ok (.enter q #[v]) w:=by
   have h2:=lE (P:=P) (f:=q) #[v] w;simp only [execOp,resolve,ha.eval hx,Sem.run_bind,Sem.run_pure,Result.andThen_ok,invoke,callMethod,run_program,show P.types.size+Made.depth=P.types.size+99+1 from rfl];simp [meth_run hm.h,callMethod,h2,Result.andThen,show P.types.size+Made.depth=P.types.size+99+1 from rfl]
  refine Oper.wpFR _ (.inr (.inr (.inl ⟨_,_,_,hr,Calls.mono hc ?_⟩)));rintro x w' ⟨v,rfl,hv⟩;exact ⟨v,rfl,hK _ _ ((k v w' hv).out (ha.put hd v))⟩
theorem TL.minV {x y:Operand} {kd:IntKind} {p q r:Int} {t1 t2:TypeId} (hx:val e x=some (.int kd p)) (hy:val e y=some (.int kd q)) (hr:(if q<p then q else p)=r) (hd:Nat.blt d n=true)
  (k:TL P n ops rest ((d,.int kd r)::e) w Q):TL P n ops (⟨some d,.call ⟨.builtin .min,#[x,y],#[t1,t2]⟩,ty,pos,aft,none⟩::rest) e w Q :=
 TL.run (λ a ha=>by simp [execOp,resolve,invoke,builtin,Builtin.min_,Builtin.min2,ha.eval hx,ha.eval hy,← hr]) hd k
theorem lK {x y:Operand} {kd:IntKind} {p q r:Int} {t1 t2:TypeId} (hx:val e x=some (.int kd p)) (hy:val e y=some (.int kd q)) (hr:(if q > p then q else p)=r) (hd:Nat.blt d n=true)
  (k:TL P n ops rest ((d,.int kd r)::e) w Q):TL P n ops (⟨some d,.call ⟨.builtin .max,#[x,y],#[t1,t2]⟩,ty,pos,aft,none⟩::rest) e w Q :=
 TL.run (λ a ha=>by simp [execOp,resolve,invoke,builtin,Builtin.max_,Builtin.max2,ha.eval hx,ha.eval hy,← hr]) hd k
theorem dJ {t m o:Nat} {x:Operand} {a:Option Addr} {F:Nat→Prop} {sz l c:Nat} {cs vs:List Value} [ht:Agg P t m] (hx:val e x=some (.pointer (some (at' a o)))) (hs:Sl F w sz a l c cs) (hv:∀ j v,vs[j]? = some v→cs[o+j]? = some v) (hl:vs.length=m)
  (hd:Nat.blt d n=true) (k:TL P n ops rest ((d,.agg vs.toArray)::e) w Q):TL P n ops (⟨some d,.load t x,ty,pos,aft,none⟩::rest) e w Q:=by
 have hc:∀ j v,vs[j]? = some v→w.cell? ((at' a o).add j)=some v:=by
  intro j v hj;have h1:=hv j v hj;have h2:=hs.row.cell h1
  cases a with
  | none=>have h3:=hs.row;simp only [Row] at h3;subst h3;simp at h1
  | some p=>rw [show at' (some p) o=⟨p.block,p.off+o,none⟩ from rfl,Addr.add_lit,Nat.add_assoc];exact h2
 exact TL.run (λ a ha=>by simp [execOp,Instr.loadAt,ha.eval hx,Instr.sureAddr,iS ht hl hc]) hd k
theorem bJ {s:TypeId} {f a0 o:Nat} {x:Operand} {a:Option Addr} {F:Nat→Prop} {sz l c:Nat} {cs:List Value} {u:Value} [h:FieldAt P s f a0] (hx:val e x=some (.pointer (some (at' a o)))) (hs:Sl F w sz a l c cs) (hu:cs[o]? = some u) (hd:Nat.blt d n=true)
  (k:TL P n ops rest ((d,.pointer (some (at' a (o+a0))))::e) w Q):TL P n ops (⟨some d,.fieldAddr s x f,ty,pos,aft,none⟩::rest) e w Q:=by
 cases a with
 | none=>have h3:=hs.row;simp only [Row] at h3;subst h3;simp at hu
 | some p=>exact TL.fieldAddr (b:=p.block) (o:=p.off+o) hx hd (by rw [Nat.add_assoc];exact k)
theorem two_at {cs:List Value} {k v:Value} {o:Nat} (h0:cs[o]? = some k) (h1:cs[o+1]? = some v):∀ j u,[k,v][j]? = some u→cs[o+j]? = some u:=by
 intro j u hj
 match j,hj with
 | 0,hj=>cases hj;exact h0
 | 1,hj=>cases hj;exact h1
theorem Sl.le {F:Nat→Prop} {sz:Nat} {a:Option Addr} {n c:Nat} {cs:List Value} (h:Sl F w sz a n c cs):n≤9223372036854775807:=by
 have h1:=h.cap;have h2:=h.max;unfold maxLen at h2;omega
theorem TL.isMkIf {t1:TypeId} {x:Operand} {d:Option Nat} (h:TL P n ops (⟨d,.makeInterface t1 x,ty,pos,aft,none⟩::rest) e w Q):TL P n ops (⟨d,.makeInterface t1 x,ty,pos,aft,none⟩::rest) e w Q:=h
theorem mT {t1 t2:TypeId} {x:Operand} {b:Bool} {d:Option Nat} (h:TL P n ops (⟨d,.typeAssert x t1 t2 b,ty,pos,aft,none⟩::rest) e w Q):TL P n ops (⟨d,.typeAssert x t1 t2 b,ty,pos,aft,none⟩::rest) e w Q:=h
theorem mS {s:String} {x:Operand} {xs:Array Operand} {a0:Array TypeId} {d:Option Nat} (h:TL P n ops (⟨d,.call ⟨.invoke x s,xs,a0⟩,ty,pos,aft,none⟩::rest) e w Q):TL P n ops (⟨d,.call ⟨.invoke x s,xs,a0⟩,ty,pos,aft,none⟩::rest) e w Q:=h
end
end Go.V
namespace Go.Proofs.YtfpadnmdafiddaaGreatDoor
open Go Go.RowKit Go.V
def bC (l:List Nat):List Value:=l.map λ (k:Nat)=>.int .i64 (k:Int)
theorem length_ints' (l:List Nat):(bC l).length=l.length:=by simp [bC]
def BsAt (F:Nat→Prop) (w:World) (v:Value) (b:Bs):Prop:=∃ a n c,v=.slice a n c∧Sl F w 1 a n c (bB b)
def ItCells (F:Nat→Prop) (w:World):List Value→bT→Prop
 | [],[]=>True
 | k::v::cs,x::l=>BsAt F w k x.1∧BsAt F w v x.2∧ItCells F w cs l
 | _,_=>False
def KyCells (F:Nat→Prop) (w:World):List Value→List Bs→Prop
 | [],[]=>True
 | k::cs,x::l=>BsAt F w k x∧KyCells F w cs l
 | _,_=>False
theorem BsAt.go {F F':Nat→Prop} {w w':World} {v:Value} {b:Bs} (h:BsAt F w v b) (g:Carry F w F' w'):BsAt F' w' v b:=by
 obtain ⟨a,n,c,rfl,h⟩:=h;exact ⟨a,n,c,rfl,h.go g⟩
theorem ItCells.go {F F':Nat→Prop} {w w':World} (g:Carry F w F' w'):∀ {cs:List Value} {l:bT},ItCells F w cs l→ItCells F' w' cs l
 | [],[],_=>trivial
 | [],_::_,h=>h.elim
 | [_],[],h=>h.elim
 | [_],_::_,h=>h.elim
 | _::_::_,[],h=>h.elim
 | _::_::_,_::_,⟨h1,h2,h3⟩=>⟨h1.go g,h2.go g,ItCells.go g h3⟩
theorem KyCells.go {F F':Nat→Prop} {w w':World} (g:Carry F w F' w'):∀ {cs:List Value} {l:List Bs},KyCells F w cs l→KyCells F' w' cs l
 | [],[],_=>trivial
 | [],_::_,h=>h.elim
 | _::_,[],h=>h.elim
 | _::_,_::_,⟨h1,h3⟩=>⟨h1.go g,KyCells.go g h3⟩
theorem ItCells.len {F:Nat→Prop} {w:World}:∀ {cs:List Value} {l:bT},ItCells F w cs l→cs.length=2*l.length
 | [],[],_=>rfl
 | [],_::_,h=>h.elim
 | [_],[],h=>h.elim
 | [_],_::_,h=>h.elim
 | _::_::_,[],h=>h.elim
 | _::_::_,_::_,⟨_,_,h3⟩=>by have:=h3.len;simp only [List.length_cons];omega
theorem KyCells.len {F:Nat→Prop} {w:World}:∀ {cs:List Value} {l:List Bs},KyCells F w cs l→cs.length=l.length
 | [],[],_=>rfl
 | [],_::_,h=>h.elim
 | _::_,[],h=>h.elim
 | _::_,_::_,⟨_,h3⟩=>by have:=h3.len;simp only [List.length_cons];omega
theorem ItCells.at' {F:Nat→Prop} {w:World}:∀ {cs:List Value} {l:bT} {i:Nat} {x:Bs×Bs},ItCells F w cs l→l[i]? = some x→∃ k v,cs[2*i]? = some k∧cs[2*i+1]? = some v∧BsAt F w k x.1∧BsAt F w v x.2
 | [],[],i,x,_,hx=>by simp at hx
 | [],_::_,_,_,h,_=>h.elim
 | [_],[],_,_,h,_=>h.elim
 | [_],_::_,_,_,h,_=>h.elim
 | _::_::_,[],_,_,h,_=>h.elim
 | k::v::cs,y::l,0,x,⟨h1,h2,h3⟩,hx=>by
  simp only [List.getElem?_cons_zero,Option.some.injEq] at hx;subst hx;exact ⟨k,v,rfl,rfl,h1,h2⟩
 | k::v::cs,y::l,i+1,x,⟨h1,h2,h3⟩,hx=>by
  obtain ⟨k',v',q1,q2,q3⟩:=ItCells.at' h3 (by simpa using hx);exact ⟨k',v',by simpa [Nat.mul_add] using q1,by simpa [Nat.mul_add] using q2,q3⟩
theorem KyCells.at' {F:Nat→Prop} {w:World}:∀ {cs:List Value} {l:List Bs} {i:Nat} {x:Bs},KyCells F w cs l→l[i]? = some x→∃ k,cs[i]? = some k∧BsAt F w k x
 | [],[],i,x,_,hx=>by simp at hx
 | [],_::_,_,_,h,_=>h.elim
 | _::_,[],_,_,h,_=>h.elim
 | k::cs,y::l,0,x,⟨h1,h3⟩,hx=>by
  simp only [List.getElem?_cons_zero,Option.some.injEq] at hx;subst hx;exact ⟨k,rfl,h1⟩
 | k::cs,y::l,i+1,x,⟨h1,h3⟩,hx=>by
  obtain ⟨k',q1,q3⟩:=KyCells.at' h3 (by simpa using hx);exact ⟨k',by simpa using q1,q3⟩
theorem ItCells.append {F:Nat→Prop} {w:World}:∀ {cs ds:List Value} {l m:bT},ItCells F w cs l→ItCells F w ds m→ItCells F w (cs++ds) (l++m)
 | [],_,[],_,_,h=>h
 | [],_,_::_,_,h,_=>h.elim
 | [_],_,[],_,h,_=>h.elim
 | [_],_,_::_,_,h,_=>h.elim
 | _::_::_,_,[],_,h,_=>h.elim
 | _::_::_,_,_::_,_,⟨h1,h2,h3⟩,h=>⟨h1,h2,ItCells.append h3 h⟩
theorem KyCells.append {F:Nat→Prop} {w:World}:∀ {cs ds:List Value} {l m:List Bs},KyCells F w cs l→KyCells F w ds m→KyCells F w (cs++ds) (l++m)
 | [],_,[],_,_,h=>h
 | [],_,_::_,_,h,_=>h.elim
 | _::_,_,[],_,h,_=>h.elim
 | _::_,_,_::_,_,⟨h1,h3⟩,h=>⟨h1,KyCells.append h3 h⟩
theorem ItCells.take {F:Nat→Prop} {w:World}:∀ {cs:List Value} {l:bT} (i:Nat),ItCells F w cs l→ItCells F w (cs.take (2*i)) (l.take i)∧ItCells F w (cs.drop (2*i)) (l.drop i)
 | cs,l,0,h=>by simpa [ItCells] using h
 | [],[],i+1,_=>⟨by simp [ItCells],by simp [ItCells]⟩
 | [],_::_,_+1,h=>h.elim
 | [_],[],_+1,h=>h.elim
 | [_],_::_,_+1,h=>h.elim
 | _::_::_,[],_+1,h=>h.elim
 | k::v::cs,y::l,i+1,⟨h1,h2,h3⟩=>by
  obtain ⟨q1,q2⟩:=ItCells.take i h3;rw [show 2*(i+1)=2*i+1+1 by omega];exact ⟨⟨h1,h2,q1⟩,q2⟩
theorem KyCells.take {F:Nat→Prop} {w:World}:∀ {cs:List Value} {l:List Bs} (i:Nat),KyCells F w cs l→KyCells F w (cs.take i) (l.take i)∧KyCells F w (cs.drop i) (l.drop i)
 | cs,l,0,h=>by simpa [KyCells] using h
 | [],[],i+1,_=>⟨by simp [KyCells],by simp [KyCells]⟩
 | [],_::_,_+1,h=>h.elim
 | _::_,[],_+1,h=>h.elim
 | k::cs,y::l,i+1,⟨h1,h3⟩=>by
  obtain ⟨q1,q2⟩:=KyCells.take i h3;exact ⟨⟨h1,q1⟩,q2⟩
theorem BsAt.one {F:Nat→Prop} {w:World} {v:Value} {b:Bs} (h:BsAt F w v b):v.oneCell'=true:=by
 obtain ⟨a,n,c,rfl,_⟩:=h;rfl
theorem ItCells.one {F:Nat→Prop} {w:World}:∀ {cs:List Value} {l:bT},ItCells F w cs l→∀ u∈cs,u.oneCell'=true
 | [],[],_,u,hu=>by cases hu
 | [],_::_,h,_,_=>h.elim
 | [_],[],h,_,_=>h.elim
 | [_],_::_,h,_,_=>h.elim
 | _::_::_,[],h,_,_=>h.elim
 | k::v::cs,y::l,⟨h1,h2,h3⟩,u,hu=>by
  rcases List.mem_cons.1 hu with rfl|hu
  ·exact h1.one
  ·rcases List.mem_cons.1 hu with rfl|hu
   ·exact h2.one
   ·exact h3.one u hu
theorem KyCells.one {F:Nat→Prop} {w:World}:∀ {cs:List Value} {l:List Bs},KyCells F w cs l→∀ u∈cs,u.oneCell'=true
 | [],[],_,u,hu=>by cases hu
 | [],_::_,h,_,_=>h.elim
 | _::_,[],h,_,_=>h.elim
 | k::cs,y::l,⟨h1,h3⟩,u,hu=>by
  rcases List.mem_cons.1 hu with rfl|hu
  ·exact h1.one
  ·exact h3.one u hu
theorem gC (l:List Nat):∀ u∈bC l,u.oneCell'=true:=by
 intro u hu;simp [bC] at hu;obtain ⟨x,_,rfl⟩:=hu;rfl
theorem BsAt.sl {F:Nat→Prop} {w:World} {v:Value} {b:Bs} (h:BsAt F w v b):∃ a c,v=.slice a b.length c∧Sl F w 1 a b.length c (bB b):=by
 obtain ⟨a,n,c,rfl,h⟩:=h;have hl:=h.len;rw [bE,Nat.mul_one] at hl;subst hl;exact ⟨a,c,rfl,h⟩
structure NV where
 a1:Option Addr
 n1:Nat
 c1:Nat
 a2:Option Addr
 n2:Nat
 c2:Nat
 a3:Option Addr
 n3:Nat
 c3:Nat
abbrev NV.v1 (x:NV):Value:=.slice x.a1 x.n1 x.c1
abbrev NV.v2 (x:NV):Value:=.slice x.a2 x.n2 x.c2
abbrev NV.v3 (x:NV):Value:=.slice x.a3 x.n3 x.c3
abbrev NV.cs (x:NV):List Value:=[.slice x.a1 x.n1 x.c1,.slice x.a2 x.n2 x.c2,.slice x.a3 x.n3 x.c3]
abbrev NV.val (x:NV):Value:=.agg #[.slice x.a1 x.n1 x.c1,.slice x.a2 x.n2 x.c2,.slice x.a3 x.n3 x.c3]
structure ItsAt (F:Nat→Prop) (w:World) (a:Option Addr) (n c:Nat) (l:bT):Prop where
 ex:∃ cs,Sl F w 2 a n c cs∧ItCells F w cs l
structure KysAt (F:Nat→Prop) (w:World) (a:Option Addr) (n c:Nat) (l:List Bs):Prop where
 ex:∃ cs,Sl F w 1 a n c cs∧KyCells F w cs l
theorem ItsAt.len {F:Nat→Prop} {w:World} {a:Option Addr} {n c:Nat} {l:bT} (h:ItsAt F w a n c l):n=l.length:=by
 obtain ⟨cs,h1,h2⟩:=h.ex;have:=h1.len;have:=h2.len;omega
theorem KysAt.len {F:Nat→Prop} {w:World} {a:Option Addr} {n c:Nat} {l:List Bs} (h:KysAt F w a n c l):n=l.length:=by
 obtain ⟨cs,h1,h2⟩:=h.ex;have:=h1.len;have:=h2.len;omega
theorem bR {F:Nat→Prop} {w:World} {a:Option Addr} {n c:Nat} {l:List Nat} (h:Sl F w 1 a n c (bC l)):n=l.length:=by
 have:=h.len;rw [length_ints'] at this;omega
theorem gW {F:Nat→Prop} {w:World} {a:Option Addr} {n c:Nat} {l:Bs} (h:Sl F w 1 a n c (bB l)):n=l.length:=by
 have:=h.len;rw [bE] at this;omega
theorem ItsAt.go {F F':Nat→Prop} {w w':World} {a:Option Addr} {n c:Nat} {l:bT} (h:ItsAt F w a n c l) (g:Carry F w F' w'):ItsAt F' w' a n c l:=by
 obtain ⟨cs,h1,h2⟩:=h.ex;exact ⟨cs,h1.go g,h2.go g⟩
theorem KysAt.go {F F':Nat→Prop} {w w':World} {a:Option Addr} {n c:Nat} {l:List Bs} (h:KysAt F w a n c l) (g:Carry F w F' w'):KysAt F' w' a n c l:=by
 obtain ⟨cs,h1,h2⟩:=h.ex;exact ⟨cs,h1.go g,h2.go g⟩
structure NdAt (F:Nat→Prop) (w:World) (x:NV) (nd:Nd):Prop where
 its:ItsAt F w x.a1 x.n1 x.c1 nd.items
 kids:Sl F w 1 x.a2 x.n2 x.c2 (bC nd.kids)
 kys:KysAt F w x.a3 x.n3 x.c3 nd.keys
theorem NdAt.go {F F':Nat→Prop} {w w':World} {x:NV} {nd:Nd} (h:NdAt F w x nd) (g:Carry F w F' w'):NdAt F' w' x nd:=⟨h.its.go g,h.kids.go g,h.kys.go g⟩
instance:ConcTy Tryz.prog 269:=⟨kR⟩
instance:ConcTy Tryz.prog 271:=⟨kR⟩
instance:MethTy Tryz.prog 269 "headwater/leaf.whole" 291:=⟨kR⟩
instance:MethTy Tryz.prog 271 "headwater/leaf.whole" 292:=⟨kR⟩
theorem clamp_c (m:Nat) (h1:1≤m) (h8:m≤8) (w:World):Calls Tryz.prog 214 #[.int .i64 (m:Int)] w (Ret λ v w'=>v=.int .i64 (m:Int)∧w=w'):=by
 refine V.calls (args:=[_]) Tryz.func214 rfl Tryz.ntmps214 rfl rfl ?_;repeat refine dD ?_
 repeat (first|refine dD ?_|(refine eU ?_;refine lK (r:=(m:Int)) rfl rfl (by split<;>omega) rfl ?_))
 exact bA rfl ⟨_,rfl,rfl,rfl⟩
def byteAt (n i:Nat):Nat:=n / 2^(8*i)%256
theorem word4_eq (n:Nat):bP n=(List.range 4).map (byteAt n):=by
 simp [bP,byteAt,List.range_succ]
theorem word_c (n:Nat) (hn:n<18446744073709551616) (w:World) :
  Calls Tryz.prog 170 #[.slice none 0 0,.int .u64 (n:Int),.int .i64 4] w (Ret λ v w'=>w'.ownsRow w.heap.size 5 1 v 4 (bB (bP n))∧Grow w w'):=by
 refine V.calls (args:=[_,_,_]) Tryz.func170 rfl Tryz.ntmps170 rfl rfl ?_;repeat refine aF ?_
 refine aA rfl (clamp_c 4 oM oM _) rfl ?_;rintro _ _ ⟨rfl,rfl⟩;repeat refine aF ?_
 refine aA rfl (grown_c (λ _=>True) none 0 0 4 [] _ (Sl.nil_mk _ _ _) sM oM) rfl ?_;rintro u w1 ⟨g0,n0⟩;repeat refine aF ?_
 refine aX (S:=Value×Nat) (λ s=>[(14,.int .i64 (s.2:Int)),(13,.int .i64 ((4:Nat):Int)),(1,.int .u64 (n:Int)),(0,s.1)]) (λ s w2=>s.2≤4∧w2.ownsRow w.heap.size 5 1 s.1 s.2 (bB ((List.range s.2).map (byteAt n)))∧Grow w w2) (λ s=>4-s.2) (u,0) ⟨rfl,rfl,rfl,rfl,trivial⟩ ⟨oM,g0,n0⟩ ?_;rintro ⟨v,i⟩ w2 ⟨hi,a0,h0⟩;simp only at hi a0;have i0:=h0.size;by_cases l0:i<4
 ·repeat (first|(refine eM ?_;refine TL.mulN (a:=8) rfl rfl oM rfl ?_)|(refine eS ?_;refine TL.shrS rfl rfl (by show 8*i≤64;omega) rfl ?_)|(refine eA ?_;refine iC rfl (M:=256) rfl rfl ?_)|refine yC ?_)
  refine TL.buildSlice rfl rfl rfl rfl rfl ?_;intro b w3 f0 o0 q0 p0 k0;have j0:Sl (λ _=>True) w3 1 (some ⟨b,0,none⟩) 1 1 (bB [byteAt n i]):=(aU (sz:=1) (m:=1) o0 k0 dM).mono (λ _ _=>trivial);have h4:=f0.size;refine TL.append rfl rfl (aO a0 f0) j0 (bO [byteAt n i]) (by unfold maxLen;omega) oM oM rfl ?_;intro v' w4 e0 m0 _;repeat refine aF ?_
  refine aE (v',i+1) ⟨rfl,rfl,rfl,rfl,trivial⟩ ⟨l0,?_,Grow.mk (aL m0 oM (λ k hk=>(aR (aO a0 f0) hk).1) (h0.trans f0).1)⟩ (by simp only;omega);rw [List.range_succ,List.map_append,dH];exact e0
 ·obtain rfl:i=4:=by omega
  repeat refine aF ?_
  exact bA rfl ⟨_,rfl,by rw [word4_eq];exact a0,h0⟩
theorem block_c (F:Nat→Prop) (a:Option Addr) (n c:Nat) (p:Bs) (w:World) (hs:Sl F w 1 a n c (bB p)) (hn:n≤1000000) :
  Calls Tryz.prog 195 #[.slice none 0 0,.slice a n c] w (Ret λ v w'=>w'.ownsRow w.heap.size 5 1 v (bS p).length (bB (bS p))∧Grow w w'):=by
 have hl:=gW hs;have hz:=sz_le n;refine V.calls (args:=[_,_]) Tryz.func195 rfl Tryz.ntmps195 rfl rfl ?_;repeat (first|(refine aB 233 ?_;refine aA rfl (size_c n oM _) rfl ?_;rintro _ _ ⟨rfl,rfl⟩)|refine yC ?_)
 refine aA rfl (grown_c (λ _=>True) none 0 0 (sz n+n) [] _ (Sl.nil_mk _ _ _) sM oM) rfl ?_;rintro u w1 ⟨g0,h0⟩;have h1:=h0.size;repeat refine aF ?_
 refine aA rfl (number_c w.heap.size u 0 n [] _ g0 h1 oM oM) rfl ?_;rintro u2 w2 ⟨a0,j0⟩;repeat refine aF ?_
 have f0:Grow w w2:=Grow.mk (h0.1.trans j0);refine TL.append rfl rfl a0 (hs.grow f0) (bO _) (by unfold maxLen;omega) oM f0.size rfl ?_;intro v' w4 e0 i0 _;repeat refine aF ?_
 refine bA rfl ⟨_,rfl,?_,Grow.mk (aL i0 (f0.size) (λ k hk=>(aR a0 hk).1) f0.1)⟩;have e:(bS p).length=0+sz n+n:=by unfold bS;rw [List.length_append,length_encL,hl];omega
 rw [e];unfold bS;rw [dH,← hl];exact e0
theorem key_c (a:Option Addr) (n c:Nat) (w:World) :
  Calls Tryz.prog 94 #[.slice a n c] w (Ret λ v w'=>v=.bool (decide (1≤n)&&decide (n≤16))∧w=w'):=by
 refine V.calls (args:=[_]) Tryz.func94 rfl Tryz.ntmps94 rfl rfl ?_;by_cases h1:1≤n
 ·by_cases h2:n≤16
  ·repeat (first|(refine TL.pureT rfl (by simp only [decide_eq_true_eq];omega) rfl ?_)|refine yA ?_)
   exact bA rfl ⟨_,rfl,by simp [h1,h2],rfl⟩
  ·repeat (first|(refine TL.pureT rfl (by simp only [decide_eq_true_eq];omega) rfl ?_)|(refine TL.pureF rfl (by simp only [decide_eq_false_iff_not];omega) rfl ?_)|refine yA ?_)
   exact bA rfl ⟨_,rfl,by simp [h1,h2],rfl⟩
 ·repeat (first|(refine TL.pureF rfl (by simp only [decide_eq_false_iff_not];omega) rfl ?_)|refine yA ?_)
  exact bA rfl ⟨_,rfl,by simp [h1],rfl⟩
theorem value_c (a:Option Addr) (n c:Nat) (w:World) :
  Calls Tryz.prog 148 #[.slice a n c] w (Ret λ v w'=>v=.bool (decide (n≤32))∧w=w'):=by
 refine V.calls (args:=[_]) Tryz.func148 rfl Tryz.ntmps148 rfl rfl ?_;repeat refine dD ?_
 exact bA rfl ⟨_,rfl,congrArg Value.bool (by simp only [decide_eq_decide];omega),rfl⟩
theorem key_t {F:Nat→Prop} {a:Option Addr} {n c:Nat} {k:Bs} {w:World} {b:Bool} (h:Sl F w 1 a n c (bB k)) (hb:dW k=b) :
  Calls Tryz.prog 94 #[.slice a n c] w (Ret λ v w'=>v=.bool b∧w=w'):=by
 have:=key_c a n c w;rwa [show (decide (1≤n)&&decide (n≤16))=b by rw [← hb,gW h];rfl] at this
theorem value_t {F:Nat→Prop} {a:Option Addr} {n c:Nat} {k:Bs} {w:World} {b:Bool} (h:Sl F w 1 a n c (bB k)) (hb:eR k=b) :
  Calls Tryz.prog 148 #[.slice a n c] w (Ret λ v w'=>v=.bool b∧w=w'):=by
 have:=value_c a n c w;rwa [show decide (n≤32)=b by rw [← hb,gW h];rfl] at this
theorem leaf_c (x:NV) (w:World) :
  Calls Tryz.prog 80 #[x.val] w (Ret λ v w'=>v=.bool (decide (x.n2=0))∧Grow w w'):=by
 refine V.calls (args:=[_]) Tryz.func80 rfl Tryz.ntmps80 rfl rfl ?_;repeat (first|refine dD ?_|refine yI λ bk w' hg f0 e0 a0=>?_)
 exact bA rfl ⟨_,rfl,congrArg Value.bool (by rw [Bool.eq_iff_iff];simp),yG⟩
theorem nan8_c (a:Nat) (w:World):Calls Tryz.prog 228 #[.int .u8 (a:Int)] w (Ret λ v w'=>v=.bool false∧w=w'):=by
 refine V.calls (args:=[_]) Tryz.func228 rfl Tryz.ntmps228 rfl rfl ?_;repeat refine dD ?_
 exact bA rfl ⟨_,rfl,sM,rfl⟩
theorem nan64_c (a:Nat) (w:World):Calls Tryz.prog 229 #[.int .i64 (a:Int)] w (Ret λ v w'=>v=.bool false∧w=w'):=by
 refine V.calls (args:=[_]) Tryz.func229 rfl Tryz.ntmps229 rfl rfl ?_;repeat refine dD ?_
 exact bA rfl ⟨_,rfl,sM,rfl⟩
def cmpN (a b:Nat):Int:=if a<b then -1 else if b<a then 1 else 0
theorem cmp8_c (a b:Nat) (w:World):Calls Tryz.prog 182 #[.int .u8 (a:Int),.int .u8 (b:Int)] w (Ret λ v w'=>v=.int .i64 (cmpN a b)∧w=w'):=by
 refine V.calls (args:=[_,_]) Tryz.func182 rfl Tryz.ntmps182 rfl rfl ?_;unfold cmpN;by_cases h1:a<b
 ·repeat (first|(refine aB 228 ?_;refine aA rfl (nan8_c _ _) rfl ?_;rintro _ _ ⟨rfl,rfl⟩)|refine yA ?_)
  exact bA rfl ⟨_,rfl,by rw [if_pos h1],rfl⟩
 ·by_cases h2:b<a
  ·repeat (first|(refine aB 228 ?_;refine aA rfl (nan8_c _ _) rfl ?_;rintro _ _ ⟨rfl,rfl⟩)|refine yA ?_)
   exact bA rfl ⟨_,rfl,by rw [if_neg h1,if_pos h2],rfl⟩
  ·repeat (first|(refine aB 228 ?_;refine aA rfl (nan8_c _ _) rfl ?_;rintro _ _ ⟨rfl,rfl⟩)|refine yA ?_)
   exact bA rfl ⟨_,rfl,by rw [if_neg h1,if_neg h2],rfl⟩
theorem cmp64_c (a b:Nat) (w:World):Calls Tryz.prog 183 #[.int .i64 (a:Int),.int .i64 (b:Int)] w (Ret λ v w'=>v=.int .i64 (cmpN a b)∧w=w'):=by
 refine V.calls (args:=[_,_]) Tryz.func183 rfl Tryz.ntmps183 rfl rfl ?_;unfold cmpN;by_cases h1:a<b
 ·repeat (first|(refine aB 229 ?_;refine aA rfl (nan64_c _ _) rfl ?_;rintro _ _ ⟨rfl,rfl⟩)|refine yA ?_)
  exact bA rfl ⟨_,rfl,by rw [if_pos h1],rfl⟩
 ·by_cases h2:b<a
  ·repeat (first|(refine aB 229 ?_;refine aA rfl (nan64_c _ _) rfl ?_;rintro _ _ ⟨rfl,rfl⟩)|refine yA ?_)
   exact bA rfl ⟨_,rfl,by rw [if_neg h1,if_pos h2],rfl⟩
  ·repeat (first|(refine aB 229 ?_;refine aA rfl (nan64_c _ _) rfl ?_;rintro _ _ ⟨rfl,rfl⟩)|refine yA ?_)
   exact bA rfl ⟨_,rfl,by rw [if_neg h1,if_neg h2],rfl⟩
theorem bys_at {l:Bs} {i x:Nat} (h:l[i]? = some x):(bB l)[i]? = some (.int .u8 (x:Int)):=by simp [bB,h]
theorem cmpB_step {x y:Bs} {i a b:Nat} (hx:x[i]? = some a) (hy:y[i]? = some b):bY (x.drop i) (y.drop i)=if a<b then -1 else if b<a then 1 else bY (x.drop (i+1)) (y.drop (i+1)):=by
 obtain ⟨h1,rfl⟩:=List.getElem?_eq_some_iff.1 hx;obtain ⟨h2,rfl⟩:=List.getElem?_eq_some_iff.1 hy;rw [List.drop_eq_getElem_cons h1,List.drop_eq_getElem_cons h2,bY]
theorem cmpB_end {x y:Bs} {i:Nat} (h:i=min x.length y.length):bY (x.drop i) (y.drop i)=cmpN x.length y.length:=by
 subst h;unfold cmpN;by_cases h1:x.length<y.length
 ·rw [if_pos h1,Nat.min_eq_left oM,List.drop_length]
  cases hd:y.drop x.length with
  | nil=>rw [List.drop_eq_nil_iff] at hd;omega
  | cons _ _=>rfl
 ·rw [if_neg h1,Nat.min_eq_right oM,List.drop_length];by_cases h2:y.length<x.length
  ·rw [if_pos h2]
   cases hd:x.drop y.length with
   | nil=>rw [List.drop_eq_nil_iff] at hd;omega
   | cons _ _=>rfl
  ·rw [if_neg h2,List.drop_eq_nil_of_le oM];rfl
theorem eN (F G:Nat→Prop) (a:Option Addr) (n c:Nat) (b:Option Addr) (m d:Nat) (x y:Bs) (w:World) (hx:Sl F w 1 a n c (bB x)) (hy:Sl G w 1 b m d (bB y)) :
  Calls Tryz.prog 139 #[.slice a n c,.slice b m d] w (Ret λ v w'=>v=.int .i64 (bY x y)∧Grow w w'):=by
 refine V.calls (args:=[_,_]) Tryz.func139 rfl Tryz.ntmps139 rfl rfl ?_;have hn:=hx.le;have hm:=hy.le;have ln:=gW hx;have lm:=gW hy;repeat refine aF ?_
 rw [show (if (m:Int)<(n:Int) then (m:Int) else (n:Int))=((min n m:Nat):Int) by split<;>omega];refine aX (S:=Nat) (λ i=>[(12,.int .i64 (i:Int)),(11,.int .i64 ((min n m:Nat):Int)),(0,.slice a n c),(1,.slice b m d)]) (λ i w'=>Grow w w'∧i≤min n m∧bY x y=bY (x.drop i) (y.drop i)) (λ i=>min n m-i) 0 ⟨rfl,rfl,rfl,rfl,trivial⟩ ⟨Grow.refl w,oM,rfl⟩ ?_;rintro i w1 ⟨e0,hi,hc⟩;by_cases h0:i<min n m
 ·obtain ⟨p,hp⟩:∃ p,x[i]? = some p:=⟨_,List.getElem?_eq_getElem oM⟩
  obtain ⟨q,hq⟩:∃ q,y[i]? = some q:=⟨_,List.getElem?_eq_getElem oM⟩
  have l0:w1.cell? (at' a i)=some (.int .u8 (p:Int)):=(hx.grow e0).row.cell (bys_at hp);have k0:w1.cell? (at' b i)=some (.int .u8 (q:Int)):=(hy.grow e0).row.cell (bys_at hq);have a0:=cmpB_step hp hq;have f0:i<n:=by omega
  have g0:i<m:=by omega
  repeat refine aF ?_
  apply T.any 10 [is _,is _,is _,is _,is _,is _,is _,is _,is _,is _];(· kernel_rfl);(· ((repeat' (first|exact aN|refine aK ?_ ?_));(iterate 10 (· (refine yQ λ wq _ _ j0=>?_;(repeat (first|refine aF ?_|(refine aI ?_;first|refine aC rfl rfl rfl f0 (Nat.mul_one _) ⟨F,_,hx.grow (e0.trans (by assumption))⟩ rfl ?_|refine aC rfl rfl rfl g0 (Nat.mul_one _) ⟨G,_,hy.grow (e0.trans (by assumption))⟩ rfl ?_)|(refine aB 182 ?_;refine aA rfl (cmp8_c _ _ _) rfl ?_;rintro _ _ ⟨rfl,rfl⟩)));exact aD rfl yG rfl)))));(rintro _ _ _ i0 _ _;(refine yT ?_))
  by_cases h1:p<q
  ·have hv:cmpN p q = -1:=if_pos h1;rw [if_pos h1] at a0;repeat refine aF ?_
   exact bA rfl ⟨_,rfl,congrArg (Value.int .i64) oM,yG⟩
  ·rw [if_neg h1] at a0;by_cases h2:q<p
   ·have hv:cmpN p q=1:=by unfold cmpN;rw [if_neg h1,if_pos h2]
    rw [if_pos h2] at a0;repeat refine aF ?_
    exact bA rfl ⟨_,rfl,congrArg (Value.int .i64) oM,yG⟩
   ·have hv:cmpN p q=0:=by unfold cmpN;rw [if_neg h1,if_neg h2]
    rw [if_neg h2] at a0;repeat refine aF ?_
    exact aE (i+1) ⟨rfl,rfl,rfl,rfl,trivial⟩ ⟨yG,oM,oM⟩ oM
 ·have he:=cmpB_end (x:=x) (y:=y) (i:=i) oM;repeat (first|(refine aB 183 ?_;refine aA rfl (cmp64_c _ _ _) rfl ?_;rintro _ _ ⟨rfl,rfl⟩)|refine yC ?_)
  exact bA rfl ⟨_,rfl,congrArg (Value.int .i64) (by rw [hc,he,ln,lm]),yG⟩
theorem shape_leaf (x:NV) (w:World) (h:x.n2=0) :
  Calls Tryz.prog 189 #[x.val] w (Ret λ v w'=>v=.iface 269 (.agg #[.slice x.a1 x.n1 x.c1,.slice x.a3 x.n3 x.c3])∧Grow w w'):=by
 refine V.calls (args:=[_]) Tryz.func189 rfl Tryz.ntmps189 rfl rfl ?_;repeat (first|(refine TL.isMkIf ?_;refine TL.makeIface rfl rfl ?_)|refine yA ?_|refine yI λ bk w' hg f0 e0 a0=>?_)
 exact bA rfl ⟨_,rfl,rfl,yG⟩
theorem lD (x:NV) (w:World) (h:x.n2≠0) :
  Calls Tryz.prog 189 #[x.val] w (Ret λ v w'=>v=.iface 271 x.val∧Grow w w'):=by
 refine V.calls (args:=[_]) Tryz.func189 rfl Tryz.ntmps189 rfl rfl ?_;repeat (first|(refine TL.isMkIf ?_;refine TL.makeIface rfl rfl ?_)|refine yA ?_|refine yI λ bk w' hg f0 e0 a0=>?_)
 exact bA rfl ⟨_,rfl,rfl,yG⟩
theorem ItsAt.at' {F:Nat→Prop} {w:World} {a:Option Addr} {n c:Nat} {l:bT} (h:ItsAt F w a n c l):∃ cs,Sl F w 2 a n c cs∧∀ (i:Nat) (x:Bs×Bs),l[i]? = some x→∃ ka kc va vc,cs[i*2]? = some (.slice ka x.1.length kc)∧cs[i*2+1]? = some (.slice va x.2.length vc) ∧
  Sl F w 1 ka x.1.length kc (bB x.1)∧Sl F w 1 va x.2.length vc (bB x.2):=by
 obtain ⟨cs,h1,h2⟩:=h.ex;refine ⟨cs,h1,λ i x hx=>?_⟩;obtain ⟨k,v,g1,g2,g3,g4⟩:=h2.at' hx;obtain ⟨ka,kc,rfl,s1⟩:=g3.sl;obtain ⟨va,vc,rfl,s2⟩:=g4.sl;rw [Nat.mul_comm] at g1 g2;exact ⟨ka,kc,va,vc,g1,g2,s1,s2⟩
theorem wholeL_c (F:Nat→Prop) (a1:Option Addr) (n1 c1:Nat) (a3:Option Addr) (n3 c3:Nat) (l:bT) (w:World) (h:ItsAt F w a1 n1 c1 l) :
  Calls Tryz.prog 291 #[.agg #[.slice a1 n1 c1,.slice a3 n3 c3]] w (Ret λ v w'=>v=.bool (decide (n3=0)&&decide (n1≤8)&&gF (gL l) n1)∧Grow w w'):=by
 refine V.calls (args:=[_]) Tryz.func291 rfl Tryz.ntmps291 rfl rfl ?_;have hn:=h.len;by_cases h3:n3=0;rotate_left
 ·repeat (first|refine aF ?_|refine yI λ bk w' hg a0 f0 e0=>?_)
  exact bA rfl ⟨_,rfl,by simp [h3],yG⟩
 by_cases h8:n1≤8;rotate_left
 ·repeat (first|refine aF ?_|refine yI λ bk w' hg a0 f0 e0=>?_)
  exact bA rfl ⟨_,rfl,by simp [h8],yG⟩
 obtain ⟨cs,hs,g0⟩:=h.at';repeat (first|refine aF ?_|refine yI λ bk w' hg a0 f0 e0=>?_)
 refine aX (S:=Nat) (λ i=>[(18,.int .i64 (i:Int)),(17,.int .i64 (n1:Int)),(16,.slice a1 n1 c1),(1,.pointer (some ⟨bk,0,none⟩))]) (λ i w1=>Blk w1 bk 269 [.slice a1 n1 c1,.slice a3 n3 c3]∧Grow w w1∧i≤n1∧∀ j,j<i→gL l j=true) (λ i=>n1-i) 0 ⟨rfl,rfl,rfl,rfl,trivial⟩ ⟨a0,hg,oM,λ j hj=>by omega⟩ ?_;clear a0 hg;rintro i w1 ⟨a0,q0,hi,j0⟩;have s0:=a0.lt;by_cases k0:i<n1;rotate_left
 ·repeat refine aF ?_
  exact bA rfl ⟨_,rfl,by rw [nP λ j hj=>j0 j oM];simp [h3,h8],yG⟩
 obtain ⟨x,hx⟩:∃ x,l[i]? = some x:=⟨_,List.getElem?_eq_getElem oM⟩
 obtain ⟨ka,kc,va,vc,g1,g2,s1,s2⟩:=g0 i x hx;have i0:=hs.grow q0
 have l0:gL l i=false→gF (gL l) n1=false:=λ h0=>by
  cases hb:gF (gL l) n1 with
  | false=>rfl
  | true=>have:=jP hb k0;rw [h0] at this;cases this
 cases hko:dW x.1 with
 | false =>
  repeat (first|refine aC rfl rfl rfl k0 rfl ⟨F,_,i0⟩ rfl ?_|(refine aQ ?_;refine dJ rfl i0 (two_at g1 g2) rfl rfl ?_)|(refine aB 94 ?_;refine aA rfl (key_t (s1.grow yG) hko) rfl ?_;rintro _ _ ⟨rfl,rfl⟩)|refine yC ?_|refine yI λ bk w' hg a0 f0 e0=>?_|refine yJ λ w' hu a0 f0=>?_)
  exact bA rfl ⟨_,rfl,by rw [l0 (by simp [gL,hx,hko])];simp,yG⟩
 | true =>
  cases hvo:eR x.2 with
  | false =>
   repeat (first|refine aC rfl rfl rfl k0 rfl ⟨F,_,i0⟩ rfl ?_|(refine aQ ?_;refine dJ rfl i0 (two_at g1 g2) rfl rfl ?_)|(refine aB 94 ?_;refine aA rfl (key_t (s1.grow yG) hko) rfl ?_;rintro _ _ ⟨rfl,rfl⟩)|(refine aB 148 ?_;refine aA rfl (value_t (s2.grow yG) hvo) rfl ?_;rintro _ _ ⟨rfl,rfl⟩)|refine yC ?_|refine yI λ bk w' hg a0 f0 e0=>?_|refine yJ λ w' hu a0 f0=>?_)
   exact bA rfl ⟨_,rfl,by rw [l0 (by simp [gL,hx,hvo])];simp,yG⟩
  | true =>
   repeat (first|refine aC rfl rfl rfl k0 rfl ⟨F,_,i0⟩ rfl ?_|(refine aQ ?_;refine dJ rfl i0 (two_at g1 g2) rfl rfl ?_)|(refine aB 94 ?_;refine aA rfl (key_t (s1.grow yG) hko) rfl ?_;rintro _ _ ⟨rfl,rfl⟩)|(refine aB 148 ?_;refine aA rfl (value_t (s2.grow yG) hvo) rfl ?_;rintro _ _ ⟨rfl,rfl⟩)|refine yC ?_|refine yI λ bk w' hg a0 f0 e0=>?_|refine yJ λ w' hu a0 f0=>?_)
   cases i with
   | zero =>
    apply T.any 15 [is _,is _,is _,is _,is _,is _,is _,is _,is _,is _,is _,is _,is _,is _,is _];(· kernel_rfl);(· ((repeat' (first|exact aN|refine aK ?_ ?_));(iterate 15 (· (refine yQ λ wq _ _ n0=>?_;(repeat refine aF ?_);exact aD rfl yG rfl)))));(rintro _ _ _ m0 _ _;(refine yT ?_))
    repeat refine aF ?_
    exact aE 1 ⟨rfl,rfl,rfl,rfl,trivial⟩ ⟨yB,yG,oM,λ j hj=>by
     obtain rfl:j=0:=by omega
     simp [gL,hx,hko,hvo]⟩ oM
   | succ j =>
    obtain ⟨y,hy⟩:∃ y,l[j]? = some y:=⟨_,List.getElem?_eq_getElem oM⟩
    obtain ⟨x0,v0,u0,t0,q1,q2,r1,r2⟩:=g0 j y hy;by_cases hc:bY y.1 x.1<0
    ·apply T.any 15 [is _,is _,is _,is _,is _,is _,is _,is _,is _,is _,is _,is _,is _,is _,is _];(· kernel_rfl);(· ((repeat' (first|exact aN|refine aK ?_ ?_));(iterate 15 (· (refine yQ λ wq _ _ n0=>?_;(repeat (first|refine aF ?_|(refine aI ?_;refine aC (j:=j) rfl rfl oM oM rfl ⟨F,_,hs.grow yG⟩ rfl ?_)|(refine bM ?_;refine bJ rfl (hs.grow yG) q1 rfl ?_)|(refine aQ ?_;refine aS rfl ((hs.grow yG).row.cell q1) rfl ?_)|(refine aB 139 ?_;refine aA rfl (eN _ _ _ _ _ _ _ _ _ _ _ (r1.grow yG) (s1.grow yG)) rfl ?_;rintro _ _ ⟨rfl,p0⟩)));exact aD rfl yG rfl)))));(rintro _ _ _ m0 _ _;(refine yT ?_))
     repeat refine aF ?_
     exact aE (j+1+1) ⟨rfl,rfl,rfl,rfl,trivial⟩ ⟨yB,yG,oM,λ k hk=>by
      by_cases o0:k=j+1
      ·subst o0;simp [gL,hx,hy,hko,hvo,hc]
      ·exact j0 k oM⟩ oM
    ·apply T.any 15 [is _,is _,is _,is _,is _,is _,is _,is _,is _,is _,is _,is _,is _,is _,is _];(· kernel_rfl);(· ((repeat' (first|exact aN|refine aK ?_ ?_));(iterate 15 (· (refine yQ λ wq _ _ n0=>?_;(repeat (first|refine aF ?_|(refine aI ?_;refine aC (j:=j) rfl rfl oM oM rfl ⟨F,_,hs.grow yG⟩ rfl ?_)|(refine bM ?_;refine bJ rfl (hs.grow yG) q1 rfl ?_)|(refine aQ ?_;refine aS rfl ((hs.grow yG).row.cell q1) rfl ?_)|(refine aB 139 ?_;refine aA rfl (eN _ _ _ _ _ _ _ _ _ _ _ (r1.grow yG) (s1.grow yG)) rfl ?_;rintro _ _ ⟨rfl,p0⟩)));exact aD rfl yG rfl)))));(rintro _ _ _ m0 _ _;(refine yT ?_))
     repeat refine aF ?_
     exact bA rfl ⟨_,rfl,by rw [l0 (by simp [gL,hx,hy,hc])];simp,yG⟩
theorem jM {l:List Nat} {i x:Nat} (h:l[i]? = some x):(bC l)[i]? = some (.int .i64 (x:Int)):=by simp [bC,h]
theorem ints_take (l:List Nat) (i:Nat):(bC l).take i=bC (l.take i):=by simp [bC,List.map_take]
theorem index_c (F:Nat→Prop) (a:Option Addr) (n c:Nat) (l:List Nat) (k:Nat) (w:World) (hs:Sl F w 1 a n c (bC l)) :
  Calls Tryz.prog 294 #[.slice a n c,.int .i64 (k:Int)] w (Ret λ v w'=>(∃ z:Int,v=.int .i64 z∧(0≤z↔l.contains k=true))∧w=w'):=by
 refine V.calls (args:=[_,_]) Tryz.func294 rfl Tryz.ntmps294 rfl rfl ?_;have hn:=bR hs;have g0:=hs.le;repeat refine aF ?_
 refine aX (S:=Nat) (λ i=>[(8,.int .i64 (i:Int)),(7,.int .i64 (n:Int)),(0,.slice a n c),(1,.int .i64 (k:Int))]) (λ i w'=>w=w'∧i≤n∧∀ j,j<i→l[j]?≠some k) (λ i=>n-i) 0 ⟨rfl,rfl,rfl,rfl,trivial⟩ ⟨rfl,oM,λ j hj=>by omega⟩ ?_;rintro i _ ⟨rfl,hi,a0⟩;by_cases e0:i<n
 ·obtain ⟨p,hp⟩:∃ p,l[i]? = some p:=⟨_,List.getElem?_eq_getElem oM⟩
  have h0:w.cell? (at' a i)=some (.int .i64 (p:Int)):=hs.row.cell (jM hp);by_cases he:k=p
  ·repeat (first|(refine aI ?_;refine aC rfl rfl rfl e0 (Nat.mul_one _) ⟨F,_,hs⟩ rfl ?_)|refine yC ?_)
   exact bA rfl ⟨_,rfl,⟨_,rfl,⟨λ _=>List.contains_iff_mem.2 (List.mem_of_getElem? (he▸hp)),λ _=>by omega⟩⟩,rfl⟩
  ·repeat (first|(refine aI ?_;refine aC rfl rfl rfl e0 (Nat.mul_one _) ⟨F,_,hs⟩ rfl ?_)|refine yC ?_)
   exact aE (i+1) ⟨rfl,rfl,rfl,rfl,trivial⟩ ⟨rfl,oM,λ j hj=>by
    by_cases f0:j=i
    ·subst f0;rw [hp];simp;omega
    ·exact a0 j oM⟩ oM
 ·repeat refine aF ?_
  refine bA rfl ⟨_,rfl,⟨_,rfl,⟨λ h=>by omega,λ h=>?_⟩⟩,rfl⟩;obtain ⟨j,hj,e⟩:=List.mem_iff_getElem.1 (List.contains_iff_mem.1 h);exact absurd (by rw [List.getElem?_eq_getElem hj,e]) (a0 j oM)
theorem contains_t {F:Nat→Prop} {a:Option Addr} {n c:Nat} {l:List Nat} {k:Nat} {w:World} {b:Bool} (hs:Sl F w 1 a n c (bC l)) (hb:l.contains k=b) :
  Calls Tryz.prog 293 #[.slice a n c,.int .i64 (k:Int)] w (Ret λ v w'=>v=.bool b∧w=w'):=by
 refine V.calls (args:=[_,_]) Tryz.func293 rfl Tryz.ntmps293 rfl rfl ?_;repeat refine aF ?_
 refine aA rfl (index_c F a n c l k _ hs) rfl ?_;rintro _ _ ⟨⟨z,rfl,hz⟩,rfl⟩;repeat refine aF ?_
 exact bA rfl ⟨_,rfl,congrArg Value.bool (by rw [← hb,Bool.eq_iff_iff,← hz];simp),rfl⟩
theorem KysAt.at' {F:Nat→Prop} {w:World} {a:Option Addr} {n c:Nat} {l:List Bs} (h:KysAt F w a n c l):∃ cs,Sl F w 1 a n c cs∧∀ (i:Nat) (x:Bs),l[i]? = some x→∃ ka kc,cs[i]? = some (.slice ka x.length kc)∧Sl F w 1 ka x.length kc (bB x):=by
 obtain ⟨cs,h1,h2⟩:=h.ex;refine ⟨cs,h1,λ i x hx=>?_⟩;obtain ⟨k,g1,g3⟩:=h2.at' hx;obtain ⟨ka,kc,rfl,s1⟩:=g3.sl;exact ⟨ka,kc,g1,s1⟩
theorem wholeB_c (F:Nat→Prop) (a1:Option Addr) (n1 c1:Nat) (a2:Option Addr) (n2 c2:Nat) (a3:Option Addr) (n3 c3:Nat) (l:List Nat) (ks:List Bs) (w:World) (hk:Sl F w 1 a2 n2 c2 (bC l)) (hy:KysAt F w a3 n3 c3 ks) :
  Calls Tryz.prog 292 #[.agg #[.slice a1 n1 c1,.slice a2 n2 c2,.slice a3 n3 c3]] w (Ret λ v w'=>v=.bool (decide (n1=0)&&decide (2≤n2)&&decide (n2≤8)&&decide (n3+1=n2)&&gF (jW l) n2&&gF (jF ks) n3)∧Grow w w'):=by
 refine V.calls (args:=[_]) Tryz.func292 rfl Tryz.ntmps292 rfl rfl ?_;have u1:=bR hk;have o1:=hy.len;by_cases h1:n1=0;rotate_left
 ·repeat (first|refine aF ?_|refine yI λ bk w' hg a0 s0 g0=>?_)
  exact bA rfl ⟨_,rfl,by simp [h1],yG⟩
 by_cases h2:2≤n2;rotate_left
 ·repeat (first|refine aF ?_|refine yI λ bk w' hg a0 s0 g0=>?_)
  exact bA rfl ⟨_,rfl,by simp [h2],yG⟩
 by_cases h8:n2≤8;rotate_left
 ·repeat (first|refine aF ?_|refine yI λ bk w' hg a0 s0 g0=>?_)
  exact bA rfl ⟨_,rfl,by simp [h8],yG⟩
 by_cases h4:n3+1=n2;rotate_left
 ·repeat (first|refine aF ?_|refine yI λ bk w' hg a0 s0 g0=>?_)
  exact bA rfl ⟨_,rfl,by simp [h4],yG⟩
 repeat (first|refine aF ?_|refine yI λ bk w' hg a0 s0 g0=>?_)
 have u0:=a0;refine aX (S:=Nat) (λ i=>[(36,.int .i64 (i:Int)),(35,.int .i64 (n2:Int)),(34,.slice a2 n2 c2),(1,.pointer (some ⟨bk,0,none⟩))]) (λ i w1=>Blk w1 bk 271 [.slice a1 n1 c1,.slice a2 n2 c2,.slice a3 n3 c3]∧Grow w w1∧i≤n2∧∀ j,j<i→jW l j=true) (λ i=>n2-i) 0 ⟨rfl,rfl,rfl,rfl,trivial⟩ ⟨a0,hg,oM,λ j hj=>by omega⟩ ?_;clear a0 hg u0;rintro i w1 ⟨a0,l0,hi,e0⟩;have q0:=a0.lt;have k0:=hk.grow l0;by_cases f0:i<n2
 ·obtain ⟨p,hp⟩:∃ p,l[i]? = some p:=⟨_,List.getElem?_eq_getElem oM⟩
  have j1:w1.cell? (at' a2 i)=some (.int .i64 (p:Int)):=k0.row.cell (jM hp)
  have n0:jW l i=false→gF (jW l) n2=false:=λ h0=>by
   cases hb:gF (jW l) n2 with
   | false=>rfl
   | true=>have:=jP hb f0;rw [h0] at this;cases this
  by_cases m1:p≤2147483647
  ·cases hct:(l.take i).contains p with
   | false =>
    repeat (first|(refine aI ?_;refine aC rfl rfl rfl f0 (Nat.mul_one _) ⟨F,_,k0⟩ rfl ?_)|(refine cL ?_;refine TL.slice (l:=0) (h:=i) (mm:=c2) rfl k0 (aP _) (bI rfl rfl) (aP _) (by intro h;cases h) oM oM (by have:=hk.cap;omega) (Nat.le_refl _) rfl ?_;intro a' t0 _)|(refine aB 293 ?_;refine aA rfl (contains_t (by simpa [ints_take] using t0) hct) rfl ?_;rintro _ _ ⟨rfl,rfl⟩)|refine yC ?_)
    exact aE (i+1) ⟨rfl,rfl,rfl,rfl,trivial⟩ ⟨yB,yG,oM,λ j hj=>by
     by_cases e1:j=i
     ·subst e1;unfold jW;rw [hp];simp only [hct,Bool.not_false,Bool.and_true,decide_eq_true_eq];omega
     ·exact e0 j oM⟩ oM
   | true =>
    repeat (first|(refine aI ?_;refine aC rfl rfl rfl f0 (Nat.mul_one _) ⟨F,_,k0⟩ rfl ?_)|(refine cL ?_;refine TL.slice (l:=0) (h:=i) (mm:=c2) rfl k0 (aP _) (bI rfl rfl) (aP _) (by intro h;cases h) oM oM (by have:=hk.cap;omega) (Nat.le_refl _) rfl ?_;intro a' t0 _)|(refine aB 293 ?_;refine aA rfl (contains_t (by simpa [ints_take] using t0) hct) rfl ?_;rintro _ _ ⟨rfl,rfl⟩)|refine yC ?_)
    exact bA rfl ⟨_,rfl,by rw [n0 (by unfold jW;rw [hp];simp only [hct,Bool.not_true,Bool.and_false])];simp,yG⟩
  ·repeat (first|(refine aI ?_;refine aC rfl rfl rfl f0 (Nat.mul_one _) ⟨F,_,k0⟩ rfl ?_)|refine yC ?_)
   exact bA rfl ⟨_,rfl,by rw [n0 (by simp [jW,hp];omega)];simp,yG⟩
 have o0:gF (jW l) n2=true:=nP λ j hj=>e0 j oM;clear e0;obtain ⟨cs,hs,j0⟩:=hy.at';repeat refine aF ?_
 refine aX (S:=Nat) (λ i=>[(59,.int .i64 (i:Int)),(58,.int .i64 (n3:Int)),(57,.slice a3 n3 c3),(1,.pointer (some ⟨bk,0,none⟩))]) (λ i w1=>Blk w1 bk 271 [.slice a1 n1 c1,.slice a2 n2 c2,.slice a3 n3 c3]∧Grow w w1∧i≤n3∧∀ j,j<i→jF ks j=true) (λ i=>n3-i) 0 ⟨rfl,rfl,rfl,rfl,trivial⟩ ⟨a0,l0,oM,λ j hj=>by omega⟩ ?_;clear a0 k0 q0 l0;rintro i w1 ⟨a0,l0,hi,e0⟩;have q0:=a0.lt;have i0:=hs.grow l0;by_cases f0:i<n3;rotate_left
 ·have p0:gF (jF ks) n3=true:=nP λ j hj=>e0 j oM;repeat refine aF ?_
  exact bA rfl ⟨_,rfl,by rw [o0,p0];simp [h1,h2,h8,h4],yG⟩
 obtain ⟨p,hp⟩:∃ p,ks[i]? = some p:=⟨_,List.getElem?_eq_getElem oM⟩
 obtain ⟨ka,kc,g1,s1⟩:=j0 i p hp;have j1:w1.cell? (at' a3 i)=some (.slice ka p.length kc):=i0.row.cell g1;have m0:=s1.grow l0
 have n0:jF ks i=false→gF (jF ks) n3=false:=λ h0=>by
  cases hb:gF (jF ks) n3 with
  | false=>rfl
  | true=>have:=jP hb f0;rw [h0] at this;cases this
 cases hko:dW p with
 | false =>
  repeat (first|refine TL.guard_left rfl rfl rfl ?_|(refine aI ?_;refine aC rfl rfl rfl f0 (Nat.mul_one _) ⟨F,_,i0⟩ rfl ?_)|(refine aB 94 ?_;refine aA rfl (key_t m0 hko) rfl ?_;rintro _ _ ⟨rfl,rfl⟩)|refine yC ?_)
  exact bA rfl ⟨_,rfl,by rw [n0 (by simp [jF,hp,hko])];simp,yG⟩
 | true =>
  cases i with
  | zero =>
   repeat (first|(refine aI ?_;refine aC rfl rfl rfl f0 (Nat.mul_one _) ⟨F,_,i0⟩ rfl ?_)|(refine aB 94 ?_;refine aA rfl (key_t m0 hko) rfl ?_;rintro _ _ ⟨rfl,rfl⟩)|refine yC ?_)
   exact aE 1 ⟨rfl,rfl,rfl,rfl,trivial⟩ ⟨yB,yG,oM,λ j hj=>by
     obtain rfl:j=0:=by omega
     simp [jF,hp,hko]⟩ oM
  | succ j =>
   obtain ⟨q,hq⟩:∃ q,ks[j]? = some q:=⟨_,List.getElem?_eq_getElem oM⟩
   obtain ⟨y0,x0,q1,r1⟩:=j0 j q hq;have x1:w1.cell? (at' a3 j)=some (.slice y0 q.length x0):=i0.row.cell q1;have v0:=r1.grow l0;by_cases hc:bY q p<0
   ·repeat (first|(refine aI ?_;first|refine aC rfl rfl rfl f0 (Nat.mul_one _) ⟨F,_,i0⟩ rfl ?_|refine aC (j:=j) rfl rfl oM oM (Nat.mul_one _) ⟨F,_,i0⟩ rfl ?_)|(refine aB 94 ?_;refine aA rfl (key_t m0 hko) rfl ?_;rintro _ _ ⟨rfl,rfl⟩)|(refine aB 139 ?_;refine aA rfl (eN _ _ _ _ _ _ _ _ _ _ _ v0 m0) rfl ?_;rintro _ _ ⟨rfl,f1⟩)|refine yC ?_)
    exact aE (j+1+1) ⟨rfl,rfl,rfl,rfl,trivial⟩ ⟨yB,yG,oM,λ k hk=>by
      by_cases z0:k=j+1
      ·subst z0;simp [jF,hp,hq,hko,hc]
      ·exact e0 k oM⟩ oM
   ·repeat (first|(refine aI ?_;first|refine aC rfl rfl rfl f0 (Nat.mul_one _) ⟨F,_,i0⟩ rfl ?_|refine aC (j:=j) rfl rfl oM oM (Nat.mul_one _) ⟨F,_,i0⟩ rfl ?_)|(refine aB 94 ?_;refine aA rfl (key_t m0 hko) rfl ?_;rintro _ _ ⟨rfl,rfl⟩)|(refine aB 139 ?_;refine aA rfl (eN _ _ _ _ _ _ _ _ _ _ _ v0 m0) rfl ?_;rintro _ _ ⟨rfl,f1⟩)|refine yC ?_)
    exact bA rfl ⟨_,rfl,by rw [n0 (by simp [jF,hp,hq,hc])];simp,yG⟩
theorem check_c (F:Nat→Prop) (x:NV) (nd:Nd) (w:World) (h:NdAt F w x nd) :
  Calls Tryz.prog 188 #[x.val] w (Ret λ v w'=>v=.int .i64 (if bF nd then 0 else 2)∧Grow w w'):=by
 have k0:=h.its.len;have g0:=bR h.kids;have j0:=h.kys.len;refine V.calls (args:=[_]) Tryz.func188 rfl Tryz.ntmps188 rfl rfl ?_;by_cases h2:x.n2=0
 ·have h0:bN nd=true:=by rw [bL];exact List.eq_nil_of_length_eq_zero oM
  have hb:bF nd=(decide (x.n3=0)&&decide (x.n1≤8)&&gF (gL nd.items) x.n1):=by
   unfold bF wholeL;have e:nd.keys.isEmpty=decide (nd.keys.length=0):=by cases nd.keys<;>simp
   rw [if_pos h0,k0,j0,e]
  cases hok:bF nd with
  | true =>
   repeat (first|(refine aB 189 ?_;refine aA rfl (shape_leaf x _ h2) rfl ?_;rintro _ _ ⟨rfl,e0⟩)|(refine mS ?_;refine TL.invoke0 rfl (wholeL_c F _ _ _ _ _ _ _ _ (h.its.go (Carry.grow yG))) rfl ?_;rintro _ _ ⟨rfl,e0⟩;rw [← hb,hok])|refine yC ?_|refine yI λ bk w' hg i0 f0 a0=>?_)
   exact bA rfl ⟨_,rfl,rfl,yG⟩
  | false =>
   repeat (first|(refine aB 189 ?_;refine aA rfl (shape_leaf x _ h2) rfl ?_;rintro _ _ ⟨rfl,e0⟩)|(refine mS ?_;refine TL.invoke0 rfl (wholeL_c F _ _ _ _ _ _ _ _ (h.its.go (Carry.grow yG))) rfl ?_;rintro _ _ ⟨rfl,e0⟩;rw [← hb,hok])|refine yC ?_|refine yI λ bk w' hg i0 f0 a0=>?_)
   exact bA rfl ⟨_,rfl,rfl,yG⟩
 ·have h0:¬ bN nd=true:=by rw [bL];intro e;rw [e] at g0;exact h2 g0
  have hb:bF nd=(decide (x.n1=0)&&decide (2≤x.n2)&&decide (x.n2≤8)&&decide (x.n3+1=x.n2)&&gF (jW nd.kids) x.n2&&gF (jF nd.keys) x.n3):=by
   unfold bF wholeB;have e:nd.items.isEmpty=decide (nd.items.length=0):=by cases nd.items<;>simp
   rw [if_neg h0,k0,g0,j0,e]
  cases hok:bF nd with
  | true =>
   repeat (first|(refine aB 189 ?_;refine aA rfl (lD x _ h2) rfl ?_;rintro _ _ ⟨rfl,e0⟩)|(refine mS ?_;refine TL.invoke0 rfl (wholeB_c F _ _ _ _ _ _ _ _ _ _ _ _ (h.kids.go (Carry.grow yG)) (h.kys.go (Carry.grow yG))) rfl ?_;rintro _ _ ⟨rfl,e0⟩;rw [← hb,hok])|refine yC ?_|refine yI λ bk w' hg i0 f0 a0=>?_)
   exact bA rfl ⟨_,rfl,rfl,yG⟩
  | false =>
   repeat (first|(refine aB 189 ?_;refine aA rfl (lD x _ h2) rfl ?_;rintro _ _ ⟨rfl,e0⟩)|(refine mS ?_;refine TL.invoke0 rfl (wholeB_c F _ _ _ _ _ _ _ _ _ _ _ _ (h.kids.go (Carry.grow yG)) (h.kys.go (Carry.grow yG))) rfl ?_;rintro _ _ ⟨rfl,e0⟩;rw [← hb,hok])|refine yC ?_|refine yI λ bk w' hg i0 f0 a0=>?_)
   exact bA rfl ⟨_,rfl,rfl,yG⟩
theorem check_ok {F:Nat→Prop} {x:NV} {nd:Nd} {w:World} (h:NdAt F w x nd) (a0:bF nd=true):Calls Tryz.prog 188 #[x.val] w (Ret λ v w'=>v=.int .i64 0∧Grow w w'):=by
 have:=check_c F x nd w h;rwa [if_pos a0] at this
theorem check_bad {F:Nat→Prop} {x:NV} {nd:Nd} {w:World} (h:NdAt F w x nd) (a0:bF nd=false):Calls Tryz.prog 188 #[x.val] w (Ret λ v w'=>v=.int .i64 2∧Grow w w'):=by
 have:=check_c F x nd w h;rwa [if_neg (by rw [a0];simp)] at this
end Go.Proofs.YtfpadnmdafiddaaGreatDoor
namespace Go.V
open Go Go.RowKit
section
variable [Rn]
variable {P:Program} {n:Nat} {e:dI} {w:World} {Q:dA} {ops:Array Oper} {rest:List Oper} {d:Nat} {ty:TypeId} {pos:String} {aft:Array Edge}
end
structure But (b:Nat) (w w':World):Prop where
 os:w'.os=w.os
 tape:w'.tape=w.tape
 output:w'.output=w.output
 size:w.heap.size≤w'.heap.size
 block:∀ k,k<w.heap.size→k≠b→w'.heap[k]? = w.heap[k]?
theorem But.refl (b:Nat) (w:World):But b w w:=⟨rfl,rfl,rfl,Nat.le_refl _,λ _ _ _=>rfl⟩
theorem gE {b:Nat} {w0 w w':World} (g:Grow w w') (h:But b w0 w):But b w0 w' :=
 ⟨g.1.os.trans h.os,g.1.tape.trans h.tape,g.1.output.trans h.output,Nat.le_trans h.size g.2,λ k hk hb=>(g.block k (Nat.lt_of_lt_of_le hk h.size)).trans (h.block k hk hb)⟩
theorem but_upd {b:Nat} {w0 w w':World} (u:Upd b w w') (h:But b w0 w):But b w0 w' :=
 ⟨u.os.trans h.os,u.tape.trans h.tape,u.output.trans h.output,Nat.le_trans h.size (Nat.le_of_eq u.size.symm),λ k hk hb=>(u.block k hb).trans (h.block k hk hb)⟩
theorem but_but {b:Nat} {w0 w w':World} (u:But b w w') (h:But b w0 w):But b w0 w' :=
 ⟨u.os.trans h.os,u.tape.trans h.tape,u.output.trans h.output,Nat.le_trans h.size u.size,λ k hk hb=>(u.block k (Nat.lt_of_lt_of_le hk h.size) hb).trans (h.block k hk hb)⟩
theorem cG {b k:Nat} {w w':World} {t:TypeId} {cs:List Value} (u:But b w w') (h:Blk w k t cs) (hk:k≠b):Blk w' k t cs:=by
 have hl:=h.lt;unfold Blk at *;rw [u.block k hl hk];exact h
theorem gR {b:Nat} {w0 w w':World} (u:But b w w') (hb:w0.heap.size≤b) (g:Grow w0 w):Grow w0 w':=Grow.mk
 ⟨u.os.trans g.1.os,u.tape.trans g.1.tape,u.output.trans g.1.output,Nat.le_trans g.2 u.size,λ k hk=>(u.block k (Nat.lt_of_lt_of_le hk g.2) oM).trans (g.1.block k hk)⟩
section
variable [Rn]
variable {P:Program} {n:Nat} {e:dI} {w:World} {Q:dA} {ops:Array Oper} {rest:List Oper} {d:Nat} {ty:TypeId} {pos:String} {aft:Array Edge}
theorem append_where {t ty e:TypeId} {i:TypeInfo} {z:Value} {base size bytes:Nat} (ht:P.underlying t=some (.slice e)) (hi:P.info? e=some i) (hz:i.zero=some z) (j0:i.size=size) (o0:i.bytes=bytes)
  {v:Value} {k:Nat} {xs:List Value} (i0:w.ownsRow base e size v k xs) {a:Addr} {m c:Nat} {e0:List Value} (hl:e0.length=m*size) (f0:∀ j u,e0[j]? = some u→w.cell? (a.add j)=some u) (h1:∀ u∈e0,u.oneCell'=true)
  (p0:k+m≤maxLen) (g0:(k+m)*bytes≤140737488355328) {v':Value} {w':World} (a0:(Builtin.append_ #[t,t] ty #[v,.slice (some a) m c]).run P w=.ok v' w') :
  v'.ownBlock=v.ownBlock∨∀ j,v'.ownBlock=some j→w.heap.size≤j:=by
 subst j0;subst o0;have m0:k+m≤9223372036854775807:=by simp only [maxLen] at p0;omega
 rcases i0.2 with ⟨rfl,rfl⟩|⟨g,k0,q0,rfl,u0,hg,s0,t0,n0,l0⟩
 ·by_cases hm:m=0
  ·subst hm;have hn:e0=[]:=List.eq_nil_of_length_eq_zero (by simpa using hl);subst hn;left;simp [Builtin.append_,run_underlying ht,sizeOf,typeInfo,hi,Builtin.lenOf,Builtin.firstCells,loadCells,loadCellsFrom] at a0;rw [← a0.1]
  ·rw [run_append_nil (P:=P) w t ty e i z ht hi hz a m c e0 hl f0 oM oM (by simp only [Nat.zero_add] at g0;omega)] at a0;cases a0;right;intro j hj;cases hj;exact Nat.le_refl _
 ·by_cases h0:k+m≤k0
  ·rw [run_append_room (P:=P) w t ty e i ht hi g k k0 q0 hg a m c e0 hl f0 h1 h0 (by rw [hl,n0,← Nat.add_mul];exact Nat.mul_le_mul_right _ h0)] at a0;cases a0;exact .inl rfl
  ·rw [run_append_grow (P:=P) w t ty e i z ht hi hz ⟨g,0,none⟩ k k0 xs i0.1 (i0.cells (g:=g) rfl) a m c e0 hl f0 oM oM (growslice_fits oM g0)] at a0;cases a0;right;intro j hj;cases hj;exact Nat.le_refl _
theorem dO {t f0 size bytes:Nat} {x y:Operand} {base m k0 c:Nat} {v:Value} {xs a0:List Value} {F:Nat→Prop} {a:Option Addr} [ht:SliceTy P t f0 size bytes]
  (hx:val e x=some v) (hy:val e y=some (.slice a m c)) (h0:w.ownsRow base f0 size v k0 xs) (hs:Sl F w size a m c a0) (h1:∀ u∈a0,u.oneCell'=true)
  (o0:k0+m≤maxLen) (e0:(k0+m)*bytes≤140737488355328) (j0:base≤w.heap.size) (hd:Nat.blt d n=true)
  (k:∀ v' w',w'.ownsRow base f0 size v' (k0+m) (xs++a0)→w.grownBy w' v.ownBlock→(∀ G:Nat→Prop,Carry (λ j=>G j∧v.ownBlock≠some j) w (λ j=>G j∧v'.ownBlock≠some j) w')→TL P n ops rest ((d,v')::e) w' Q) :
  TL P n ops (⟨some d,.call ⟨.builtin .append,#[x,y],#[t,t]⟩,ty,pos,aft,none⟩::rest) e w Q:=by
 obtain ⟨i,z,hi,m0,n0,hz,q0,s0⟩:=ht.info
 have p0:∀ {v':Value} {w':World},w.grownBy w' v.ownBlock→(v'.ownBlock=v.ownBlock∨∀ j,v'.ownBlock=some j→w.heap.size≤j)→∀ G:Nat→Prop,Carry (λ j=>G j∧v.ownBlock≠some j) w (λ j=>G j∧v'.ownBlock≠some j) w':=by
  intro v' w' g l0 G;refine ⟨g.size,λ j ⟨h1,h2⟩ hl=>⟨⟨h1,λ he=>?_⟩,g.block j hl (λ e=>h2 e.symm)⟩⟩;rcases l0 with h|h
  ·exact h2 (h▸he)
  ·have:=h j he;omega
 cases a with
 | none =>
  have hm:=hs.cap;have hc:=hs.nil rfl;have hn:m=0:=by omega
  subst hn;subst hc;have i0:a0=[]:=List.eq_nil_of_length_eq_zero (by simpa using hs.len);subst i0;have g0:=run_append_owned_none (P:=P) (w:=w) base t ty f0 i size ht.und hi v k0 xs h0;refine TL.run (v:=v) (w':=w) (λ r hr=>?_) hd (k v w (by simpa using h0) (World.grownBy.refl _ _) (p0 (World.grownBy.refl _ _) (.inl rfl)));simp [execOp,resolve,invoke,builtin,hr.eval hx,hr.eval hy,g0]
 | some ad =>
  obtain ⟨v',w',g0,h2,h3,h4⟩:=run_append_own (P:=P) w base t ty f0 i z size bytes ht.und hi hz m0 n0 q0 (Nat.pos_of_ne_zero s0) v k0 xs h0 ad m c a0 hs.len (hs.row.cell_add rfl) h1 o0 e0 j0;have hw:=append_where ht.und hi hz m0 n0 h0 hs.len (hs.row.cell_add rfl) h1 o0 e0 g0;refine TL.run (v:=v') (w':=w') (λ r hr=>?_) hd (k v' w' h2 h3 (p0 h3 hw));simp [execOp,resolve,invoke,builtin,hr.eval hx,hr.eval hy,g0]
end
end Go.V
namespace Go.V
open Go Go.RowKit Go.ChangeShapes Go.WideShapes Go.MapKept Go.ChangeMaps
structure Ordd (l:List MapEntry) (c:Nat):Prop where
 keys:l.Pairwise λ x y=>x.key≠y.key
 lt:∀ x∈l,x.born<c
 born:l.Pairwise λ x y=>x.born<y.born
def MapF (w:World) (m:Nat) (f:Nat→Option Value):Prop:=∃ es clock,w.heap[m]? = some (.map es clock)∧(∀ x∈es.toList,∃ n:Nat,n<9223372036854775808∧x.key=.int .i64 (n:Int)∧f n=some x.val) ∧
 (∀ n v,f n=some v→∃ x∈es.toList,x.key=.int .i64 (n:Int))∧Ordd es.toList clock
def mapB (P:Program) (t kt el:TypeId):Bool:=match P.underlying t with|some (.map k e)=>Nat.beq k kt&&Nat.beq e el|_=>false
class MapTy (P:Program) (t:TypeId) (kt el:outParam TypeId):Prop where
 h:mapB P t kt el=true
theorem MapTy.und {P:Program} {t kt el:TypeId} (h:MapTy P t kt el):P.underlying t=some (.map kt el):=by
 have h:=h.h;unfold mapB at h;split at h
 ·rename_i k e hu;simp only [Bool.and_eq_true] at h;rw [hu,Nat.eq_of_beq_eq_true h.1,Nat.eq_of_beq_eq_true h.2]
 ·cases h
section
variable [Rn]
variable {P:Program} {n:Nat} {e:dI} {w w':World} {Q:dA} {ops:Array Oper} {rest:List Oper} {d:Nat} {ty:TypeId} {pos:String} {aft:Array Edge}
theorem MapF.lt {m:Nat} {f:Nat→Option Value} (h:MapF w m f):m<w.heap.size:=by
 obtain ⟨es,c,h1,_⟩:=h;exact (Array.getElem?_eq_some_iff.1 h1).1
theorem MapF.keep {m:Nat} {f:Nat→Option Value} (h:MapF w m f) (hk:w'.heap[m]? = w.heap[m]?):MapF w' m f:=by
 obtain ⟨es,c,h1,h2⟩:=h;exact ⟨es,c,by rw [hk];exact h1,h2⟩
theorem MapF.grow {m:Nat} {f:Nat→Option Value} (g:Grow w w') (h:MapF w m f):MapF w' m f:=h.keep (g.block m h.lt)
theorem MapF.upd {m c:Nat} {f:Nat→Option Value} (u:Upd c w w') (hm:m≠c) (h:MapF w m f):MapF w' m f:=h.keep (u.block m hm)
theorem mM {kt:TypeId} (ht:IntTy P kt .i64) {k:Nat} (hk:k<9223372036854775808):keyOf P kt (.int .i64 (k:Int))=some (.int .i64 (k:Int)) :=
 Maps.keyOf_int_mk ht.und (by simp [Go.Lit.wf,IntKind.min,IntKind.max,IntKind.bits,IntKind.signed];omega)
theorem TL.makeMapF {t:TypeId} (hd:Nat.blt d n=true)
  (k:∀ b w',Grow w w'→MapF w' b (λ _=>none)→w.heap.size=b→w'.heap.size=b+1→TL P n ops rest ((d,.map (some b))::e) w' Q) :
  TL P n ops (⟨some d,.makeMap t none,ty,pos,aft,none⟩::rest) e w Q :=
 TL.run (v:=.map (some w.heap.size)) (w':=w.alloc (.map #[] 0)) (λ r hr=>by simp [execOp,run_makeMap]) hd
  (k _ _ (lZ _) ⟨#[],0,by show (w.heap.push _)[w.heap.size]? = _;simp,sM,sM,⟨List.Pairwise.nil,sM,List.Pairwise.nil⟩⟩ rfl sM)
theorem MapF.find {kt m:Nat} (ht:IntTy P kt .i64) {f:Nat→Option Value} (h:MapF w m f) {k:Nat} (hk:k<9223372036854775808) :
  ∃ es c,w.heap[m]? = some (.map es c)∧(match f k with
   | none=>(Instr.findKey kt (.int .i64 (k:Int)) es.toList).run P w=.ok none w∧∀ x∈es.toList,x.key≠.int .i64 (k:Int)
   | some v=>∃ j e0,(Instr.findKey kt (.int .i64 (k:Int)) es.toList).run P w=.ok (some (j,v)) w∧es.toList[j]? = some e0∧e0.key=.int .i64 (k:Int)) ∧
   (∀ x∈es.toList,∃ n:Nat,n<9223372036854775808∧x.key=.int .i64 (n:Int)∧f n=some x.val)∧(∀ n v,f n=some v→∃ x∈es.toList,x.key=.int .i64 (n:Int))∧Ordd es.toList c:=by
 obtain ⟨es,c,h1,h2,h3,h5⟩:=h;refine ⟨es,c,h1,?_,h2,h3,h5⟩
 have a0:∀ u∈es.toList,∃ l,keyOf P kt u.key=some l:=λ u hu=>by
  obtain ⟨n,hn,e1,_⟩:=h2 u hu;rw [e1];exact ⟨_,mM ht hn⟩
 rcases (Maps.int_keyed ht.und).find w (mM ht hk) es.toList a0 with ⟨g1,g2⟩|⟨j,e0,g1,g2,g3⟩
 ·cases hf:f k with
  | none=>exact ⟨g1,g2⟩
  | some v=>obtain ⟨x,hx,e⟩:=h3 k v hf;exact absurd e (g2 x hx)
 ·obtain ⟨n,hn,e1,e2⟩:=h2 e0 (List.mem_of_getElem? g2);rw [g3] at e1;have f0:n=k:=by simp only [Value.int.injEq,true_and] at e1;omega
  subst f0;rw [e2];exact ⟨j,e0,g1,g2,g3⟩
theorem TL.lookupYes {t kt el m k:Nat} {x y:Operand} {f:Nat→Option Value} {v:Value} [ht:MapTy P t kt el] [hk:IntTy P kt .i64] (hx:val e x=some (.map (some m))) (hy:val e y=some (.int .i64 (k:Int))) (hm:MapF w m f) (hf:f k=some v) (a0:k<9223372036854775808) (hd:Nat.blt d n=true)
  (kk:TL P n ops rest ((d,.tuple #[v,.bool true])::e) w Q):TL P n ops (⟨some d,.lookup t x y true,ty,pos,aft,none⟩::rest) e w Q :=
 TL.run (λ r hr=>by
  obtain ⟨es,c,h1,h2,h3,h4,h5⟩:=hm.find hk a0;rw [hf] at h2;obtain ⟨j,e0,g1,g2,g3⟩:=h2
  simp [execOp,hr.eval hx,hr.eval hy,Instr.lookup,run_underlying ht.und,MapKept.run_getObj_map h1,(Maps.int_keyed hk.und).check w _ (mM hk a0),g1,Result.andThen]) hd kk
theorem TL.lookupNo {t kt el m k:Nat} {x y:Operand} {f:Nat→Option Value} {z:Value} [ht:MapTy P t kt el] [hk:IntTy P kt .i64] [hz:Zero P el z] (hx:val e x=some (.map (some m))) (hy:val e y=some (.int .i64 (k:Int))) (hm:MapF w m f) (hf:f k=none) (a0:k<9223372036854775808) (hd:Nat.blt d n=true)
  (kk:TL P n ops rest ((d,.tuple #[z,.bool false])::e) w Q):TL P n ops (⟨some d,.lookup t x y true,ty,pos,aft,none⟩::rest) e w Q :=
 TL.run (λ r hr=>by
  obtain ⟨es,c,h1,h2,h3,h4,h5⟩:=hm.find hk a0;rw [hf] at h2;obtain ⟨g1,g2⟩:=h2
  simp [execOp,hr.eval hx,hr.eval hy,Instr.lookup,run_underlying ht.und,MapKept.run_getObj_map h1,(Maps.int_keyed hk.und).check w _ (mM hk a0),g1,hz.run,Result.andThen]) hd kk
theorem TL.lookup1 {t kt el m k:Nat} {x y:Operand} {f:Nat→Option Value} {v:Value} [ht:MapTy P t kt el] [hk:IntTy P kt .i64] (hx:val e x=some (.map (some m))) (hy:val e y=some (.int .i64 (k:Int))) (hm:MapF w m f) (hf:f k=some v) (a0:k<9223372036854775808) (hd:Nat.blt d n=true)
  (kk:TL P n ops rest ((d,v)::e) w Q):TL P n ops (⟨some d,.lookup t x y false,ty,pos,aft,none⟩::rest) e w Q :=
 TL.run (λ r hr=>by
  obtain ⟨es,c,h1,h2,h3,h4,h5⟩:=hm.find hk a0;rw [hf] at h2;obtain ⟨j,e0,g1,g2,g3⟩:=h2
  simp [execOp,hr.eval hx,hr.eval hy,Instr.lookup,run_underlying ht.und,MapKept.run_getObj_map h1,(Maps.int_keyed hk.und).check w _ (mM hk a0),g1,Result.andThen]) hd kk
def upF (f:Nat→Option Value) (k:Nat) (u:Value):Nat→Option Value:=λ j=>if j=k then some u else f j
theorem run_mapUpdate {t kt el m k:Nat} {f:Nat→Option Value} {u:Value} (ht:MapTy P t kt el) (hk:IntTy P kt .i64) (hm:MapF w m f) (h0:k<9223372036854775808) :
  ∃ w',(Instr.mapUpdate t (.map (some m)) (.int .i64 (k:Int)) u).run P w=.ok () w'∧Upd m w w'∧MapF w' m (upF f k u):=by
 obtain ⟨es,c,h1,h2,h3,h4,h5⟩:=hm.find hk h0;have t0:=(Array.getElem?_eq_some_iff.1 h1).1
 cases hf:f k with
 | none =>
  rw [hf] at h2;obtain ⟨g1,g2⟩:=h2;refine ⟨setBlock w m (.map (es.push ⟨.int .i64 (k:Int),u,c⟩) (c+1)),?_,⟨rfl,rfl,rfl,by simp [setBlock],λ i hi=>heap_setBlock_other h1 _ (λ e=>hi e)⟩,_,_,heap_setBlock_same h1 _,λ x hx=>?_,λ j v hj=>?_,?_⟩
  ·simp [Instr.mapUpdate,run_underlying ht.und,MapKept.run_getObj_map h1,(Maps.int_keyed hk.und).check w _ (mM hk h0),g1,MapKept.run_setObj_map _ h1,Result.andThen,setBlock]
  ·simp only [Array.toList_push,List.mem_append,List.mem_singleton] at hx;rcases hx with hx|rfl
   ·obtain ⟨i,hi,e1,e2⟩:=h3 x hx;refine ⟨i,hi,e1,?_⟩;unfold upF;rw [if_neg (λ e=>g2 x hx (by rw [e1,e])),e2]
   ·exact ⟨k,h0,rfl,by simp [upF]⟩
  ·unfold upF at hj;split at hj
   ·rename_i he;subst he;exact ⟨⟨.int .i64 (j:Int),u,c⟩,sM,rfl⟩
   ·obtain ⟨x,hx,e1⟩:=h4 j v hj;exact ⟨x,by simp [hx],e1⟩
  ·rw [Array.toList_push];refine ⟨List.pairwise_append.2 ⟨h5.keys,sM,λ x hx y hy=>by simp only [List.mem_singleton] at hy;subst hy;exact g2 x hx⟩,λ x hx=>?_,List.pairwise_append.2 ⟨h5.born,sM,λ x hx y hy=>by simp only [List.mem_singleton] at hy;subst hy;exact h5.lt x hx⟩⟩;simp only [List.mem_append,List.mem_singleton] at hx;rcases hx with hx|rfl
   ·have:=h5.lt x hx;omega
   ·exact Nat.lt_succ_self _
 | some v0 =>
  rw [hf] at h2;obtain ⟨j,e0,g1,g2,g3⟩:=h2;have s0:es[j]? = some e0:=by simpa using g2
  refine ⟨setBlock w m (.map (es.modify j λ e=>{ e with key:=.int .i64 (k:Int),val:=u }) c),?_,⟨rfl,rfl,rfl,by simp [setBlock],λ i hi=>heap_setBlock_other h1 _ (λ e=>hi e)⟩,_,_,heap_setBlock_same h1 _,λ x hx=>?_,λ i v hi=>?_,?_⟩
  ·simp [Instr.mapUpdate,run_underlying ht.und,MapKept.run_getObj_map h1,(Maps.int_keyed hk.und).check w _ (mM hk h0),g1,s0,g3,(Maps.int_keyed hk.und).stays w (mM hk h0),MapKept.run_setObj_map _ h1,Result.andThen,setBlock]
  ·obtain ⟨i,hi,rfl⟩:=List.mem_iff_getElem.1 hx;have f0:i<es.size:=by simpa using hi
   have ei:(es.modify j λ e=>{ e with key:=.int .i64 (k:Int),val:=u }).toList[i]=if j=i then { es[i] with key:=.int .i64 (k:Int),val:=u } else es[i]:=by
    simp [List.getElem_modify]
   rw [ei];by_cases a0:j=i
   ·rw [if_pos a0];exact ⟨k,h0,rfl,by simp [upF]⟩
   ·rw [if_neg a0];obtain ⟨n,hn,e1,e2⟩:=h3 es[i] sM;refine ⟨n,hn,e1,?_⟩;unfold upF;rw [if_neg ?_,e2];intro e;subst e;have p0:=List.getElem?_eq_some_iff.1 g2;obtain ⟨m0,n0⟩:=p0;have hp:=List.pairwise_iff_getElem.1 h5.keys;have o0:i<es.toList.length:=by simpa using f0
    have ek:es.toList[i].key=e0.key:=by rw [g3];simpa using e1
    rcases Nat.lt_or_gt_of_ne a0 with h|h
    ·exact hp j i m0 o0 h (by rw [n0,ek])
    ·exact hp i j o0 m0 h (by rw [n0,ek])
  ·have i0:∀ x∈es.toList,∃ y∈(es.modify j λ e=>{ e with key:=.int .i64 (k:Int),val:=u }).toList,y.key=x.key:=by
    intro x hx;obtain ⟨i,hi,rfl⟩:=List.mem_iff_getElem.1 hx;have f0:i<es.size:=by simpa using hi
    refine ⟨(es.modify j λ e=>{ e with key:=.int .i64 (k:Int),val:=u }).toList[i]'(by simpa using f0),List.getElem_mem _,?_⟩
    have ei:(es.modify j λ e=>{ e with key:=.int .i64 (k:Int),val:=u }).toList[i]'(by simpa using f0)=if j=i then { es[i] with key:=.int .i64 (k:Int),val:=u } else es[i]:=by
     simp [List.getElem_modify]
    rw [ei];by_cases a0:j=i
    ·rw [if_pos a0];subst a0;have:=(List.getElem?_eq_some_iff.1 g2).2;rw [this,g3]
    ·rw [if_neg a0];simp
   unfold upF at hi;split at hi
   ·rename_i he;obtain ⟨y,hy,e1⟩:=i0 e0 (List.mem_of_getElem? g2);exact ⟨y,hy,by rw [e1,g3,he]⟩
   ·obtain ⟨x,hx,e1⟩:=h4 i v hi;obtain ⟨y,hy,e2⟩:=i0 x hx;exact ⟨y,hy,by rw [e2,e1]⟩
  ·have j0:(es.modify j λ e=>{ e with key:=.int .i64 (k:Int),val:=u }).toList.map (·.key)=es.toList.map (·.key):=by
    apply List.ext_getElem
    ·simp
    ·intro i q0 k0;have f0:i<es.size:=by simpa using k0
     simp only [List.getElem_map]
     have ei:(es.modify j λ e=>{ e with key:=.int .i64 (k:Int),val:=u }).toList[i]'(by simpa using f0)=if j=i then { es[i] with key:=.int .i64 (k:Int),val:=u } else es[i]:=by
      simp [List.getElem_modify]
     rw [ei];by_cases a0:j=i
     ·rw [if_pos a0];subst a0;have:=(List.getElem?_eq_some_iff.1 g2).2;rw [this,g3]
     ·rw [if_neg a0];simp
   have h6:(es.toList.map (·.key)).Pairwise (·≠·):=List.pairwise_map.2 h5.keys;rw [← j0] at h6
   have g0:(es.modify j λ e=>{ e with key:=.int .i64 (k:Int),val:=u }).toList.map (·.born)=es.toList.map (·.born):=by
    apply List.ext_getElem
    ·simp
    ·intro i q0 k0;have f0:i<es.size:=by simpa using k0
     simp only [List.getElem_map]
     have ei:(es.modify j λ e=>{ e with key:=.int .i64 (k:Int),val:=u }).toList[i]'(by simpa using f0)=if j=i then { es[i] with key:=.int .i64 (k:Int),val:=u } else es[i]:=by
      simp [List.getElem_modify]
     rw [ei];by_cases a0:j=i
     ·rw [if_pos a0];simp
     ·rw [if_neg a0];simp
   have h7:(es.toList.map (·.born)).Pairwise (· < ·):=List.pairwise_map.2 h5.born;rw [← g0] at h7;refine ⟨List.pairwise_map.1 h6,λ x hx=>?_,List.pairwise_map.1 h7⟩;have l0:=List.mem_map_of_mem (f:=λ x:MapEntry=>x.born) hx;rw [g0] at l0;obtain ⟨y,hy,e⟩:=List.mem_map.1 l0;rw [← e];exact h5.lt y hy
theorem TL.updateF {t kt el m k:Nat} {x y v:Operand} {f:Nat→Option Value} {u:Value} [ht:MapTy P t kt el] [hk:IntTy P kt .i64] (hx:val e x=some (.map (some m))) (hy:val e y=some (.int .i64 (k:Int))) (hv:val e v=some u) (hm:MapF w m f) (a0:k<9223372036854775808)
  (kk:∀ w',Upd m w w'→MapF w' m (upF f k u)→TL P n ops rest e w' Q):TL P n ops (⟨none,.mapUpdate t x y v,ty,pos,aft,none⟩::rest) e w Q:=by
 obtain ⟨w',h1,h2,h3⟩:=run_mapUpdate (u:=u) ht hk hm a0;exact TL.run_skip (w':=w') (λ r hr=>by simp [execOp,hr.eval hx,hr.eval hy,hr.eval hv,h1]) (kk w' h2 h3)
end
end Go.V
namespace Go.V
open Go Go.RowKit
section
variable [Rn]
variable {P:Program} {n:Nat} {e:dI} {w w':World} {Q:dA} {ops:Array Oper} {rest:List Oper} {d:Nat} {ty:TypeId} {pos:String} {aft:Array Edge}
theorem TL.copyB {t t' g0 bytes:Nat} {x y:Operand} {b o m c k c':Nat} {bt:TypeId} {a:Option Addr} {F:Nat→Prop} {cs a0:List Value} [ht:SliceTy P t g0 1 bytes] (hx:val e x=some (.slice (some ⟨b,o,none⟩) m c)) (hy:val e y=some (.slice a k c'))
  (hb:Blk w b bt cs) (hs:Sl F w 1 a k c' a0) (h1:∀ u∈a0,u.oneCell'=true) (ho:o+min k m≤cs.length) (hd:Nat.blt d n=true)
  (kk:∀ w',Upd b w w'→Blk w' b bt (iJ cs o (a0.take (min k m)))→w'.heap.size=w.heap.size→TL P n ops rest ((d,.int .i64 ((min k m:Nat):Int))::e) w' Q) :
  TL P n ops (⟨some d,.call ⟨.builtin .copy,#[x,y],#[t,t']⟩,ty,pos,aft,none⟩::rest) e w Q:=by
 have hl:=hs.len;rw [Nat.mul_one] at hl;have i0:(a0.take (min k m)).length=min k m:=by rw [List.length_take,hl];omega
 obtain ⟨w',j0,hu,l0⟩:=iV (P:=P) (t:=bt) (a0.take (min k m)) o 0 cs w hb (by rw [i0];omega) (λ u hu=>h1 u (List.mem_of_mem_take hu))
 have k0:(Builtin.firstCells 1 (min k m) (.slice a k c')).run P w=.ok (a0.take (min k m)).toArray w:=by
  cases a with
  | none =>
   have:=hs.nil rfl;have:=hs.cap;have h0:k=0:=by omega
   subst h0;simp [Builtin.firstCells,loadCells,loadCellsFrom]
  | some ad =>
   have e0:∀ j v,(a0.take (min k m))[j]? = some v→w.cell? (ad.add j)=some v:=λ j v hj=>by
    rw [List.getElem?_take] at hj;split at hj
    ·exact hs.row.cell_add rfl j v hj
    ·cases hj
   have:=lT (P:=P) (w:=w) (p:=ad) (min k m) 0 (a0.take (min k m)) #[] i0 (by simpa using e0);simp [Builtin.firstCells,loadCells,this]
 refine TL.run (v:=.int .i64 ((min k m:Nat):Int)) (w':=w') (λ r hr=>?_) hd (kk w' hu l0 hu.size);have f0:Nat.min k m=min k m:=rfl;simp [execOp,resolve,invoke,builtin,hr.eval hx,hr.eval hy,Builtin.copy_,run_underlying ht.und,Builtin.lenOf,ht.size,f0,k0,j0,goInt]
theorem TL.arrayAt {t len a0 size:Nat} {x:Operand} {a:Option Addr} {m c:Nat} [ht:ArrTy P t len a0 size] (hx:val e x=some (.slice a m c)) (hm:len≤m) (hd:Nat.blt d n=true)
  (k:TL P n ops rest ((d,.pointer a)::e) w Q):TL P n ops (⟨some d,.sliceToArrayPointer t x,ty,pos,aft,none⟩::rest) e w Q :=
 TL.run (λ r hr=>by simp [execOp,hr.eval hx,Instr.arrayAt,underlying,ht.und.1,Nat.not_lt.2 hm]) hd k
theorem jA {t a0 size bytes c:Nat} {x y:Operand} {kl kc:IntKind} {z:Value} [ht:SliceTy P t a0 size bytes] [hz:Zero P a0 z] (hx:val e x=some (.int kl (c:Int))) (hy:val e y=some (.int kc (c:Int)))
  (e0:bytes*c≤281474976710656) (k0:c≤maxLen) (hd:Nat.blt d n=true)
  (k:∀ b w',w.heap.size=b→w'.ownsRow w.heap.size a0 size (.slice (some ⟨b,0,none⟩) c c) c (madeCells z.cells (c*size)).toList→Grow w w'→TL P n ops rest ((d,.slice (some ⟨b,0,none⟩) c c)::e) w' Q) :
  TL P n ops (⟨some d,.makeSlice t x y,ty,pos,aft,none⟩::rest) e w Q:=by
 obtain ⟨i,z',hi,i0,j0,g0,l0,m0⟩:=ht.info
 have h0:z'=z:=by
  have:=hz.h;rw [hi] at this;simp only [Option.bind_some,g0,Option.some.injEq] at this;exact this
 subst j0;subst h0;obtain ⟨w',f0,h2,h3⟩:=run_make_full (P:=P) w w.heap.size t a0 i z' size ht.und hi g0 i0 kl kc c e0 k0 (Nat.le_refl _);refine TL.run (v:=.slice (some ⟨w.heap.size,0,none⟩) c c) (w':=w') (λ r hr=>?_) hd (k _ _ rfl h2 (Grow.mk ⟨h3.os,h3.tape,h3.output,h3.size,λ k hk=>h3.block k hk sM⟩));simp [execOp,hr.eval hx,hr.eval hy,f0]
theorem mR {t:TypeId} {x y:Operand} {b:Bool} {d:Option Nat} (h:TL P n ops (⟨d,.lookup t x y b,ty,pos,aft,none⟩::rest) e w Q):TL P n ops (⟨d,.lookup t x y b,ty,pos,aft,none⟩::rest) e w Q:=h
theorem TL.isMapUp {t:TypeId} {x y z:Operand} {d:Option Nat} (h:TL P n ops (⟨d,.mapUpdate t x y z,ty,pos,aft,none⟩::rest) e w Q):TL P n ops (⟨d,.mapUpdate t x y z,ty,pos,aft,none⟩::rest) e w Q:=h
theorem TL.isMakeMap {t:TypeId} {x:Option Operand} {d:Option Nat} (h:TL P n ops (⟨d,.makeMap t x,ty,pos,aft,none⟩::rest) e w Q):TL P n ops (⟨d,.makeMap t x,ty,pos,aft,none⟩::rest) e w Q:=h
end
end Go.V
