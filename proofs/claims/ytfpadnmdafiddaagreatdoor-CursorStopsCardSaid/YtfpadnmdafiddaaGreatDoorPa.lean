import Derived.Test.YtfpadnmdafiddaaGreatDoorP0
import Derived.WalkKit
import Derived.WalkSpells
import Derived.WalkLawsBesides
import Derived.RangeFuncLeaves
import Derived.RangeFuncRecord
import Derived.OrdersIn
set_option linter.all false
set_option maxHeartbeats 16000000
set_option maxRecDepth 100000
namespace Go.V
open Go Go.RowKit
abbrev dI:=List (Nat×Value)
abbrev dA:=Exit→dI→World→Prop
def find:dI→Nat→Option Value
 | [],_=>none
 | (k,v)::r,t=>bif Nat.beq k t then some v else find r t
def val (e:dI):Operand→Option Value
 | .tmp t=>find e t
 | .const v=>some v
 | .global g=>some (.pointer (some ⟨g,0,none⟩))
 | .func f=>some (.func (.func f) #[] #[])
class Rn where
 ro:Option Nat
 ds:List Deferred
 lo:Nat
instance (priority:=low) Rn.plain:Rn:=⟨none,[],0⟩
def mkD (r:Nat):Deferred:={ target:=.collected r,args:=#[] }
def shut:List Nat→World→World
 | [],w=>w
 | r::rs,w=>shut rs (w.putObj r (.deferred none))
theorem shut_append:∀ (l l':List Nat) (w:World),shut (l++l') w=shut l' (shut l w)
 | [],_,_=>rfl
 | r::l,l',w=>shut_append l l' (w.putObj r (.deferred none))
theorem shut_other:∀ {l:List Nat} {w:World} {b:Nat},b∉l→(shut l w).heap[b]? = w.heap[b]?
 | [],_,_,_=>rfl
 | r::l,w,b,h=>by
  simp only [List.mem_cons,not_or] at h;simp only [shut];rw [shut_other h.2,World.putObj_heap_other h.1]
def FR (ro:Option Nat):Fence:={ Fence.wide with round:=ro }
theorem calls_fr {P:Program} {ro:Option Nat} {f:FuncId} {args:Array Value} {w:World} {Φ : Ending→World→Prop} (h:Calls P f args w Φ):CallsIn (FR ro) 0 P f args w Φ :=
 (callsIn_wide (n:=0)).2 h
theorem calls_fr1 {P:Program} {ro:Option Nat} {f:FuncId} {args:Array Value} {w:World} {Φ : Ending→World→Prop} (h:CallsIn (FR ro) 0 P f args w Φ):Calls P f args w Φ :=
 (callsIn_wide (n:=0)).1 h
theorem semAt_run {P:Program} {ρ : Operand→Value} {o:Oper} {w:World} {r:Result Next} (hr:(execOp ρ o).run P w=r) (hd:∀ d w',r≠.ok (.defer d) w') (hh:∀ x w',r≠.halt x w') (ro:Option Nat):o.semAt ro ρ = execOp ρ o:=by
 refine Oper.semAt_eq ro ρ o λ c hc=>?_;unfold execOp at hr;rw [hc] at hr;simp only [Sem.run_bind] at hr
 cases hx:(resolve ρ c o.type).run P w with
 | ok d w'=>rw [hx] at hr;exact hd _ _ hr.symm
 | halt x w'=>rw [hx] at hr;exact hh _ _ hr.symm
theorem Oper.wpFR {P:Program} {o:Oper} {a:Act} {w:World} {K:Act→World→Prop} {Q:Exit→Act→World→Prop} (ro:Option Nat)
  (h:(∃ v w',(execOp a.eval o).run P w=.ok (.value v) w'∧K (a.put o.dst v) w')∨(∃ w',(execOp a.eval o).run P w=.ok .skip w'∧K (a.put o.dst undef) w') ∨
   (∃ f args w',(execOp a.eval o).run P w=.ok (.enter f args) w'∧Calls P f args w' λ e a0=>∃ v,e=.returned v∧K (a.put o.dst v) a0) ∨
   (∃ l f tmps x y w',(execOp a.eval o).run P w=.ok (.round l f tmps x y) w'∧RoundIn Fence.wide 0 P l f tmps x y w' λ e a0=>∃ v,e=.returned v∧K (a.put o.dst v) a0)):o.wpIn (FR ro) 0 P a w K Q:=by
 refine ⟨λ _ _=>trivial,?_⟩;show o.uponIn (FR ro) 0 P a K Q ((o.semAt ro a.eval).run P w);rcases h with ⟨v,w',hr,hk⟩|⟨w',hr,hk⟩|⟨f,args,w',hr,hk⟩|⟨l,f,tmps,x,y,w',hr,hk⟩
 ·rw [semAt_run hr sM sM ro,hr];exact hk
 ·rw [semAt_run hr sM sM ro,hr];exact hk
 ·rw [semAt_run hr sM sM ro,hr];refine ⟨(λ h=>by cases h),calls_fr (Calls.mono hk ?_)⟩;rintro x a0 ⟨v,rfl,hv⟩;exact hv
 ·rw [semAt_run hr sM sM ro,hr];have e0:RoundIn (FR ro) 0 P l f tmps x y w' λ e a0=>∃ v,e=.returned v∧K (a.put o.dst v) a0:=hk;refine ⟨(λ h=>by cases h),RoundIn.mono e0 ?_⟩;rintro x a0 ⟨v,rfl,hv⟩;exact hv
section
variable [Rn]
structure Fits (n:Nat) (e:dI) (a:Act):Prop where
 defers:a.defers=Rn.ds
 size:a.tmps.size=n
 get:∀ t v,find e t=some v→a.tmps.getD t undef=v
theorem Fits.eval {n:Nat} {e:dI} {a:Act} (h:Fits n e a) {x:Operand} {v:Value} (hv:val e x=some v):a.eval x=v:=by
 cases x with
 | tmp t=>exact h.get t v hv
 | const u=>exact Option.some.inj hv
 | global g=>exact Option.some.inj hv
 | func f=>exact Option.some.inj hv
theorem fT (k:Nat) (v:Value) (e:dI) (t:Nat):find ((k,v)::e) t=if k=t then some v else find e t:=by
 simp only [find]
 cases h:Nat.beq k t with
 | true=>simp [Nat.eq_of_beq_eq_true h]
 | false=>simp [Nat.ne_of_beq_eq_false h]
theorem Fits.put {n:Nat} {e:dI} {a:Act} (h:Fits n e a) {d:Nat} (hd:Nat.blt d n=true) (v:Value):Fits n ((d,v)::e) (a.put (some d) v):=by
 have a0:d<a.tmps.size:=by rw [h.size];exact Nat.le_of_ble_eq_true hd
 refine ⟨h.defers,by simp [Act.put,h.size],λ t u hu=>?_⟩;rw [fT] at hu;by_cases ht:d=t
 ·subst ht;simp only [if_true,Option.some.injEq] at hu;subst hu;simp [Act.put,a0]
 ·rw [if_neg ht] at hu;have:=h.get t u hu;simp only [Act.put];simp only [Array.getD_eq_getD_getElem?] at this ⊢;rw [Array.getElem?_setIfInBounds_ne ht];exact this
theorem Fits.same {n:Nat} {e:dI} {a:Act} (h:Fits n e a) {t:Nat} {u v:Value} (hf:find e t=some u) (a0:u=v):Fits n ((t,v)::e) a:=by
 refine ⟨h.defers,h.size,λ s x hx=>?_⟩;rw [fT] at hx;by_cases hs:t=s
 ·subst hs;simp only [if_true,Option.some.injEq] at hx;subst hx;subst a0
  exact h.get t u hf
 ·rw [if_neg hs] at hx;exact h.get s x hx
def Sub:dI→dI→Prop
 | [],_=>True
 | (k,v)::r,e=>find e k=some v∧Sub r e
theorem Sub.find {e' e:dI} (h:Sub e' e) {t:Nat} {v:Value} (hv:find e' t=some v):find e t=some v:=by
 induction e' with
 | nil=>cases hv
 | cons p r ih =>
  obtain ⟨k,u⟩:=p;rw [fT] at hv;by_cases hk:k=t
  ·subst hk;simp only [if_true,Option.some.injEq] at hv;subst hv;exact h.1
  ·rw [if_neg hk] at hv;exact ih h.2 hv
theorem Fits.sub {n:Nat} {e' e:dI} {a:Act} (h:Fits n e a) (hs:Sub e' e):Fits n e' a :=
 ⟨h.defers,h.size,λ t v hv=>h.get t v (hs.find hv)⟩
structure FitsR (n:Nat) (e:dI) (a:Act) (w:World) (ms:List Nat):Prop where
 defers:a.defers=ms.map mkD++Rn.ds
 size:a.tmps.size=n
 get:∀ t v,find e t=some v→a.tmps.getD t undef=v
 nd:ms.Nodup
 blk:∀ r∈ms,Rn.lo≤r∧w.heap[r]? = some (.deferred (some []))
 rnd:Rn.ro=none∨ms=[]
def iG (n:Nat) (Q:dA):Exit→Act→World→Prop:=λ x a w=>match x with
 | .ret=>∃ e ms,FitsR n e a w ms∧Q .ret e (shut ms w)
 | x=>∃ e,Fits n e a∧Q x e w
theorem Fits.r {n:Nat} {e:dI} {a:Act} {w:World} (h:Fits n e a):FitsR n e a w []:=⟨by simpa using h.defers,h.size,h.get,List.nodup_nil,(λ r hr=>by cases hr),.inr rfl⟩
theorem lift_of {n:Nat} {Q:dA} {x:Exit} {e:dI} {a:Act} {w:World} (h:Fits n e a) (hq:Q x e w):iG n Q x a w:=by
 cases x<;>first|exact ⟨e,h,hq⟩|exact ⟨e,[],h.r,hq⟩
theorem lift_mono {n:Nat} {Q Q':dA} {x:Exit} {a:Act} {w:World} (h:iG n Q x a w) (hq:∀ e w,Q x e w→Q' x e w):iG n Q' x a w:=by
 cases x<;>first|(obtain ⟨e,he,h⟩:=h;exact ⟨e,he,hq _ _ h⟩)|(obtain ⟨e,ms,he,h⟩:=h;exact ⟨e,ms,he,hq _ _ h⟩)
theorem lift_no {n:Nat} {Q:dA} {x:Exit} {a:Act} {w:World} (h:iG n Q x a w) (hq:∀ e w,¬ Q x e w):False:=by
 cases x<;>first|(obtain ⟨e,he,h⟩:=h;exact hq _ _ h)|(obtain ⟨e,ms,he,h⟩:=h;exact hq _ _ h)
def T (P:Program) (n:Nat) (c:Code) (e:dI) (w:World) (Q:dA):Prop:=∀ a,Fits n e a→c.wpIn (FR Rn.ro) 0 P (iG n Q) a w
def TL (P:Program) (n:Nat) (ops:Array Oper) (l:List Oper) (e:dI) (w:World) (Q:dA):Prop:=∀ a,Fits n e a→wpListIn (FR Rn.ro) 0 P ops (iG n Q) l a w
def thenQ (P:Program) (n:Nat) (y:Code) (Q:dA):dA:=λ x e w =>
 match x with
 | .normal=>T P n y e w Q
 | x=>Q x e w
def loopQ {S:Type} (E:S→dI) (J:S→World→Prop) (m:S→Nat) (s:S) (Q:dA):dA:=λ x e w =>
 match x with
 | .normal=>∃ s',Sub (E s') e∧J s' w∧m s'<m s
 | x=>Q x e w
def blockQ (id:Nat) (Q:dA):dA:=λ x e w =>
 match x with
 | .exit i=>bif Nat.beq i id then Q .normal e w else Q (.exit i) e w
 | x=>Q x e w
section rules
variable {P:Program} {n:Nat} {e:dI} {w:World} {Q:dA}
theorem T.mono {c:Code} {Q':dA} (h:T P n c e w Q) (hq:∀ x e w,Q x e w→Q' x e w):T P n c e w Q' :=
 λ a ha=>wpIn_mono (h a ha) λ _ _ _ hx=>lift_mono hx λ e w h=>hq _ _ _ h
theorem bD {c:Code} {e':dI} (h:T P n c e' w Q) (hs:Sub e' e):T P n c e w Q:=λ a ha=>h a (ha.sub hs)
theorem T.seq {x y:Code} (h:T P n x e w (thenQ P n y Q)):T P n (.seq x y) e w Q:=λ a ha =>
 wpIn_seq (wpIn_mono (h a ha) λ ex a w hx=>by
  cases ex<;>first|exact hx|(obtain ⟨e,he,hq⟩:=hx;exact hq a he))
theorem T.skip (h:Q .normal e w):T P n .skip e w Q:=λ _ ha=>wpIn_skip (lift_of ha h)
theorem T.exit {id:Nat} (h:Q (.exit id) e w):T P n (.exit id) e w Q:=λ _ ha=>wpIn_exit (lift_of ha h)
theorem T.ret (h:Q .ret e w):T P n .ret e w Q:=λ _ ha=>wpIn_ret (lift_of ha h)
theorem T.block {id:Nat} {c:Code} (h:T P n c e w (blockQ id Q)):T P n (.block id c) e w Q:=λ a ha =>
 wpIn_block (wpIn_mono (h a ha) λ ex a w hx=>by
  cases ex with
  | exit i =>
   obtain ⟨e,he,hq⟩:=hx;simp only [Exit.inBlock,blockQ] at hq ⊢
   cases hi:Nat.beq i id with
   | true=>rw [hi] at hq;rw [if_pos (Nat.eq_of_beq_eq_true hi)];exact ⟨e,he,hq⟩
   | false=>rw [hi] at hq;rw [if_neg (Nat.ne_of_beq_eq_false hi)];exact ⟨e,he,hq⟩
  | _=>exact hx)
theorem T.cond {c:Operand} {x y:Code} {b:Bool} (hc:val e c=some (.bool b)) (ht:b=true→T P n x e w Q) (hf:b=false→T P n y e w Q) :
  T P n (.cond c x y) e w Q:=λ a ha=>wpIn_cond_split (ha.eval hc) (λ h=>ht h a ha) (λ h=>hf h a ha)
theorem T.cond_true {c:Operand} {x y:Code} (hc:val e c=some (.bool true)) (ht:T P n x e w Q):T P n (.cond c x y) e w Q :=
 λ a ha=>wpIn_cond_true (ha.eval hc) (ht a ha)
theorem T.cond_false {c:Operand} {x y:Code} (hc:val e c=some (.bool false)) (hf:T P n y e w Q):T P n (.cond c x y) e w Q :=
 λ a ha=>wpIn_cond_false (ha.eval hc) (hf a ha)
theorem T.cond_yes {c:Operand} {x y:Code} {b:Bool} (hc:val e c=some (.bool b)) (hb:b=true) (ht:T P n x e w Q):T P n (.cond c x y) e w Q :=
 T.cond hc (λ _=>ht) (λ h=>by rw [hb] at h;cases h)
theorem T.cond_no {c:Operand} {x y:Code} {b:Bool} (hc:val e c=some (.bool b)) (hb:b=false) (hf:T P n y e w Q):T P n (.cond c x y) e w Q :=
 T.cond hc (λ h=>by rw [hb] at h;cases h) (λ _=>hf)
theorem aX {c:Code} {S:Type} (E:S→dI) (J:S→World→Prop) (m:S→Nat) (s:S) (h0:Sub (E s) e) (hj:J s w)
  (round:∀ s w,J s w→T P n c (E s) w (loopQ E J m s Q)):T P n (.loop c) e w Q:=by
 intro a ha
 have key:∀ k (s:S) (a:Act) (w:World),m s=k→Fits n (E s) a→J s w →
   ∀ (b:Frame) (kk:List Item) (cs:List Frame),b.roundOf=(FR Rn.ro).round→(FR Rn.ro).fn b.fn→(FR Rn.ro).room (cs.length+1+0)→∃ e a' w',iG n Q e a' w'∧ArrivesIn (Machine.fenced P (FR Rn.ro)) P (lone (b.atR a (.code c::.inLoop c::kk)) cs w) b kk cs e a' w':=by
  intro k
  induction k using Nat.strongRecOn with
  | _ k ih =>
   intro s a w hk hf hj b kk cs f0 hb hr;obtain ⟨ex,a1,w1,hq,a0⟩:=round s w hj a hf b (.inLoop c::kk) cs f0 hb hr
   cases ex with
   | normal =>
    obtain ⟨e1,l0,s',g0,k0,j0⟩:=hq;obtain ⟨e2,a2,w2,i0,e0⟩:=ih (m s') (hk▸j0) s' a1 w1 rfl (l0.sub g0) k0 b kk cs f0 hb hr;exact ⟨e2,a2,w2,i0,.of_steps (StepsIn.trans a0 (.one (fenced_calm hb hr rfl) stepR_inLoop)) e0⟩
   | exit id=>exact ⟨.exit id,a1,w1,hq,.pass (x:=.inLoop c) rfl (λ _ _=>.inl sM) a0⟩
   | goto l=>exact ⟨.goto l,a1,w1,hq,.pass (x:=.inLoop c) rfl (λ _ _=>.inl sM) a0⟩
   | ret=>exact ⟨.ret,a1,w1,hq,.pass (x:=.inLoop c) rfl (λ _ _=>.inl sM) a0⟩
   | panic ch=>exact ⟨.panic ch,a1,w1,hq,.pass (x:=.inLoop c) rfl (λ _ _=>.inl sM) a0⟩
   | outgrown=>exact ⟨.outgrown,a1,w1,hq,.pass (x:=.inLoop c) rfl (λ _ _=>.inl sM) a0⟩
 intro b kk cs f0 hb hr;obtain ⟨ex,a',w',hq,a0⟩:=key _ s a w rfl (ha.sub h0) hj b kk cs f0 hb hr;exact ⟨ex,a',w',hq,.of_steps (.one (fenced_calm hb hr rfl) stepR_loop) a0⟩
theorem nU {id:Nat} {l:List Oper} (h:TL P n l.toArray l e w Q):T P n (.region id l.toArray false) e w Q :=
 λ a ha=>wpIn_region_lit (h a ha)
theorem TL.nil {ops:Array Oper} (h:Q .normal e w):TL P n ops [] e w Q:=λ _ ha=>wpListIn_nil (lift_of ha h)
theorem eP {y:Code} (h:T P n y e w Q):thenQ P n y Q .normal e w:=h
theorem thenQ_exit {y:Code} {i:Nat} (h:Q (.exit i) e w):thenQ P n y Q (.exit i) e w:=h
theorem thenQ_ret {y:Code} (h:Q .ret e w):thenQ P n y Q .ret e w:=h
theorem aE {S:Type} {E:S→dI} {J:S→World→Prop} {m:S→Nat} {s:S} (s':S) (h:Sub (E s') e) (hj:J s' w) (hm:m s'<m s):loopQ E J m s Q .normal e w:=⟨s',h,hj,hm⟩
theorem loopQ_exit {S:Type} {E:S→dI} {J:S→World→Prop} {m:S→Nat} {s:S} {i:Nat} (h:Q (.exit i) e w):loopQ E J m s Q (.exit i) e w:=h
theorem loopQ_ret {S:Type} {E:S→dI} {J:S→World→Prop} {m:S→Nat} {s:S} (h:Q .ret e w):loopQ E J m s Q .ret e w:=h
theorem blockQ_hit {i:Nat} (h:Q .normal e w):blockQ i Q (.exit i) e w:=by
 have:Nat.beq i i=true:=Nat.beq_refl i;simp only [blockQ,this];exact h
theorem blockQ_miss {i j:Nat} (a0:Nat.beq i j=false) (h:Q (.exit i) e w):blockQ j Q (.exit i) e w:=by
 simp only [blockQ,a0];exact h
theorem blockQ_normal {j:Nat} (h:Q .normal e w):blockQ j Q .normal e w:=h
theorem blockQ_ret {j:Nat} (h:Q .ret e w):blockQ j Q .ret e w:=h
def intOp (op:BinOp) (k:IntKind) (a b:Int):Option Value :=
 match op with
 | .add=>some (.int k (k.wrap (a+b)))
 | .sub=>some (.int k (k.wrap (a-b)))
 | .mul=>some (.int k (k.wrap (a*b)))
 | .eql=>some (.bool (a==b))
 | .neq=>some (.bool (a != b))
 | .lss=>some (.bool (decide (a<b)))
 | .leq=>some (.bool (decide (a≤b)))
 | .gtr=>some (.bool (decide (a > b)))
 | .geq=>some (.bool (decide (a≥b)))
 | .and=>some (.int k (k.wrap (BitVec.ofInt k.bits a&&&BitVec.ofInt k.bits b).toNat))
 | .or=>some (.int k (k.wrap (BitVec.ofInt k.bits a|||BitVec.ofInt k.bits b).toNat))
 | .xor=>some (.int k (k.wrap (BitVec.ofInt k.bits a ^^^ BitVec.ofInt k.bits b).toNat))
 | _=>none
def kindEq:IntKind→IntKind→Bool
 | .i8,.i8|.i16,.i16|.i32,.i32|.i64,.i64|.u8,.u8|.u16,.u16|.u32,.u32|.u64,.u64=>true
 | _,_=>false
theorem kindEq_eq {a b:IntKind} (h:kindEq a b=true):a=b:=by cases a<;>cases b<;>first|rfl|cases h
def pureOp (f:Operand→Option Value):Op→Option Value
 | .move x=>f x
 | .assign x=>f x
 | .pick c x y=>match f c with
  | some (.bool true)=>f x
  | some (.bool false)=>f y
  | _=>none
 | .unOp .not _ x=>match f x with
  | some (.bool b)=>some (.bool (!b))
  | _=>none
 | .unOp .neg _ x=>match f x with
  | some (.int k a)=>some (.int k (k.wrap (0-a)))
  | _=>none
 | .binOp op _ x y _=>match f x,f y with
  | some (.int k a),some (.int k' b)=>bif kindEq k k' then intOp op k a b else none
  | _,_=>none
 | .extract x i=>match f x with
  | some (.tuple vs)=>vs.toList[i]?
  | _=>none
 | _=>none
theorem bG (op:BinOp) (t:TypeId) (x y:Operand) (k k':IntKind) (a b:Int):eqGuard op t x y (.int k a) (.int k' b)=Pure.pure ():=by
 cases op<;>rfl
theorem binOp_int {op:BinOp} {t:TypeId} {k:IntKind} {a b:Int} {v:Value} (h:intOp op k a b=some v):binOp op t (.int k a) (.int k b)=Pure.pure v:=by
 unfold intOp at h
 split at h<;>first
  | (cases h;simp [binOp,Op.intArith,Op.intCmp,Op.intBits];done)
  | (cases h;simp [binOp,Op.intArith,Op.intCmp,Op.intBits];rfl)
  | cases h
theorem pureOp_run {a:Act} (hf:Fits n e a) {o:Oper} {v:Value} (h:pureOp (val e) o.op=some v) (w:World):(execOp a.eval o).run P w=.ok (.value v) w:=by
 unfold pureOp at h;split at h
 ·rename_i x hx;simp [execOp,hx,hf.eval h]
 ·rename_i x hx;simp [execOp,hx,hf.eval h]
 ·rename_i c x y hx;split at h
  ·rename_i hc;simp [execOp,hx,hf.eval hc,asBool,hf.eval h]
  ·rename_i hc;simp [execOp,hx,hf.eval hc,asBool,hf.eval h]
  ·cases h
 ·rename_i x hx;split at h
  ·rename_i b hb;cases h;simp [execOp,hx,hf.eval hb,Op.unary]
  ·cases h
 ·rename_i x hx;split at h
  ·rename_i k b hb;cases h;simp [execOp,hx,hf.eval hb,Op.unary,Op.intArith]
  ·cases h
 ·rename_i op t x y t' hx;split at h
  ·rename_i k p k' q h1 h2
   cases hk:kindEq k k' with
   | true =>
    rw [hk] at h;have a0:=kindEq_eq hk;subst a0;simp [execOp,hx,hf.eval h1,hf.eval h2,bG,binOp_int h]
   | false=>rw [hk] at h;cases h
  ·cases h
 ·rename_i x i hx;split at h
  ·rename_i vs hv;simp only [Array.getElem?_toList] at h;simp [execOp,hx,hf.eval hv,Instr.extract,h]
  ·cases h
 ·cases h
theorem TL.pure {ops:Array Oper} {rest:List Oper} {d:Nat} {op:Op} {ty:TypeId} {pos:String} {aft:Array Edge} {v:Value}
  (h:pureOp (val e) op=some v) (hd:Nat.blt d n=true) (k:TL P n ops rest ((d,v)::e) w Q) :
  TL P n ops (⟨some d,op,ty,pos,aft,none⟩::rest) e w Q:=λ a ha =>
 wpListIn_plain rfl λ K hK=>Oper.wpFR _ (.inl ⟨_,_,pureOp_run (o:=⟨some d,op,ty,pos,aft,none⟩) ha h w,hK _ _ (k _ (ha.put hd v))⟩)
theorem TL.run {ops:Array Oper} {rest:List Oper} {d:Nat} {op:Op} {ty:TypeId} {pos:String} {aft:Array Edge} {v:Value} {w':World}
  (h:∀ a,Fits n e a→(execOp a.eval ⟨some d,op,ty,pos,aft,none⟩).run P w=.ok (.value v) w') (hd:Nat.blt d n=true) (k:TL P n ops rest ((d,v)::e) w' Q) :
  TL P n ops (⟨some d,op,ty,pos,aft,none⟩::rest) e w Q:=λ a ha =>
 wpListIn_plain rfl λ K hK=>Oper.wpFR _ (.inl ⟨_,_,h a ha,hK _ _ (k _ (ha.put hd v))⟩)
theorem TL.run_skip {ops:Array Oper} {rest:List Oper} {op:Op} {ty:TypeId} {pos:String} {aft:Array Edge} {w':World}
  (h:∀ a,Fits n e a→(execOp a.eval ⟨none,op,ty,pos,aft,none⟩).run P w=.ok .skip w') (k:TL P n ops rest e w' Q) :
  TL P n ops (⟨none,op,ty,pos,aft,none⟩::rest) e w Q:=λ a ha =>
 wpListIn_plain rfl λ K hK=>Oper.wpFR _ (.inr (.inl ⟨_,h a ha,hK _ _ (k _ ha)⟩))
theorem TL.guard {ops:Array Oper} {rest:List Oper} {d:Option Nat} {op:Op} {ty:TypeId} {pos:String} {aft:Array Edge} {j s:Nat} {a0 b:Bool}
  (hj:(ops[j]?).bind (·.dst)=some s) (hb:find e s=some (.bool b)) (hd:Nat.blt (d.getD 0) n=true)
  (ht:b=a0→TL P n ops (⟨d,op,ty,pos,aft,none⟩::rest) ((s,.bool a0)::e) w Q)
  (hf:b=(!a0)→TL P n ops rest ((d.getD n,undef)::(s,.bool (!a0))::e) w Q) :
  TL P n ops (⟨d,op,ty,pos,aft,some (j,a0)⟩::rest) e w Q:=by
 intro a ha
 have hs:s<a.tmps.size:=by
  rcases Nat.lt_or_ge s a.tmps.size with h|h
  ·exact h
  ·have h1:=ha.get s _ hb;simp [Array.getElem?_eq_none h,undef] at h1
 have hy:yielded ops a.tmps j=some b:=by
  have h1:=ha.get s _ hb
  have h2:a.tmps[s]? = some (.bool b):=by
   simp [hs] at h1;simp [hs,h1]
  simp [yielded,hj,h2]
 by_cases hw:b=a0
 ·have h1:=ht hw a (ha.same hb (by rw [hw]));unfold wpListIn at h1 ⊢;simp only [Region.wanted,hy,hw,beq_self_eq_true,if_true] at h1 ⊢;exact h1
 ·have hn:b=(!a0):=by revert hw;cases b<;>cases a0<;>simp
  unfold wpListIn;have:(some b==some a0)=false:=by revert hw;cases b<;>cases a0<;>simp
  simp only [Region.wanted,hy,this,Bool.false_eq_true,if_false];refine ⟨λ _ _=>trivial,?_⟩;have e0:=ha.same hb (show Value.bool b=Value.bool (!a0) by rw [hn])
  cases d with
  | none =>
   refine hf hn _ ⟨e0.defers,e0.size,λ t v hv=>?_⟩;rw [fT] at hv;by_cases f0:n=t
   ·subst f0;simp only [Option.getD_none,if_true,Option.some.injEq] at hv;subst hv;simp [Act.put,ha.size]
   ·simp only [Option.getD_none,if_neg f0] at hv;exact e0.get t v hv
  | some d=>exact hf hn _ (e0.put hd undef)
theorem eH {ops:Array Oper} {rest:List Oper} {d:Option Nat} {op:Op} {ty:TypeId} {pos:String} {aft:Array Edge} {j s:Nat} {a0:Bool}
  (hj:(ops[j]?).bind (·.dst)=some s) (hb:find e s=some (.bool a0)) (hd:Nat.blt (d.getD 0) n=true)
  (ht:TL P n ops (⟨d,op,ty,pos,aft,none⟩::rest) e w Q) :
  TL P n ops (⟨d,op,ty,pos,aft,some (j,a0)⟩::rest) e w Q :=
 TL.guard hj hb hd (λ _=>λ a ha=>ht a ⟨ha.defers,ha.size,λ t v hv=>ha.get t v (by
   rw [fT];by_cases h:s=t
   ·subst h;rw [hb] at hv;simpa using hv
   ·rw [if_neg h];exact hv)⟩) (λ h=>by cases a0<;>cases h)
theorem TL.guard_skip {ops:Array Oper} {rest:List Oper} {d:Nat} {op:Op} {ty:TypeId} {pos:String} {aft:Array Edge} {j s:Nat} {a0:Bool}
  (hj:(ops[j]?).bind (·.dst)=some s) (hb:find e s=some (.bool (!a0))) (hd:Nat.blt d n=true)
  (hf:TL P n ops rest ((d,undef)::e) w Q) :
  TL P n ops (⟨some d,op,ty,pos,aft,some (j,a0)⟩::rest) e w Q :=
 TL.guard hj hb hd (λ h=>by cases a0<;>cases h) (λ _=>λ a ha=>hf a ⟨ha.defers,ha.size,λ t v hv=>ha.get t v (by
   rw [fT] at hv ⊢;by_cases h:d=t
   ·subst h;simpa using hv
   ·rw [if_neg h] at hv;simp only [Option.getD_some,if_neg h];rw [fT];by_cases h2:s=t
    ·subst h2;rw [hb] at hv;simpa using hv
    ·rw [if_neg h2];exact hv)⟩)
def resE (P:Program) (w:World) (e:dI):ResultVar→Value→Prop
 | .tmp t,v=>find e t=some v
 | .cell t ty,v=>∃ p,find e t=some (.pointer (some p))∧(loadVar ty p).run P w=.ok v w
def resAll (P:Program) (w:World) (e:dI):List ResultVar→List Value→Prop
 | [],vs=>vs=[]
 | r::rs,vs=>∃ v vs',vs=v::vs'∧resE P w e r v∧resAll P w e rs vs'
def packed:List Value→Value
 | [v]=>v
 | vs=>.tuple vs.toArray
def retQ (P:Program) (rs:List ResultVar) (R:Ending→World→Prop):dA:=λ x e w =>
 match x with
 | .normal|.ret=>∃ vs,resAll P w e rs vs∧R (.returned (packed vs)) w
 | .panic ch=>R (.panicked ch) w
 | .outgrown=>R .outgrown w
 | _=>False
theorem resAll_run {g:ResultVar→Sem Value} (hg:∀ r v,resE P w e r v→(g r).run P w=.ok v w):∀ (rs:List ResultVar) (vs:List Value) (e0:Array Value),resAll P w e rs vs →
  (rs.foldlM (λ bs r=>bs.push <$> g r) e0).run P w=.ok (e0++vs.toArray) w:=by
 intro rs
 induction rs with
 | nil=>intro vs e0 h;simp only [resAll] at h;subst h;simp
 | cons r rs ih =>
  intro vs e0 h;obtain ⟨v,f0,rfl,hr,a0⟩:=h;simp only [List.foldlM_cons,Sem.run_bind,Sem.run_map,hg r v hr,Result.andThen_ok];rw [ih f0 (e0.push v) a0];simp
theorem results_run {fn:Func} {a:Act} (hf:Fits n e a) {rs:List ResultVar} (a0:fn.results=rs.toArray) {vs:List Value} (h:resAll P w e rs vs) :
  (results fn a.tmps).run P w=.ok (packed vs) w:=by
 unfold results;rw [a0];simp only [Array.mapM_eq_foldlM,List.foldlM_toArray',bind_pure_comp,Sem.run_map,List.size_toArray];rw [resAll_run (P:=P) (w:=w) ?_ rs vs #[] h]
 ·simp only [Result.andThen_ok,Array.empty_append]
  match vs with
  | []=>rfl
  | [v]=>rfl
  | v::u::r=>rfl
 ·intro r v hr
  cases r with
  | tmp t=>have:=hf.get t v hr;simp only [this];rfl
  | cell b ty =>
   obtain ⟨p,h1,h2⟩:=hr;have:=hf.get b _ h1;simp only [this,asAddr,Sem.run_bind,Sem.run_pure,Result.andThen_ok,h2]
def argsFrom:Nat→List Value→dI
 | _,[]=>[]
 | k,v::vs=>(k,v)::argsFrom (k+1) vs
theorem find_argsFrom:∀ (vs:List Value) (k t:Nat) (v:Value),find (argsFrom k vs) t=some v→k≤t∧vs[t-k]? = some v:=by
 intro vs
 induction vs with
 | nil=>intro k t v h;cases h
 | cons x xs ih =>
  intro k t v h;simp only [argsFrom] at h;rw [fT] at h;by_cases hk:k=t
  ·subst hk;simp only [if_true,Option.some.injEq] at h;subst h;exact ⟨Nat.le_refl _,sM⟩
  ·rw [if_neg hk] at h;obtain ⟨h1,h2⟩:=ih (k+1) t v h;refine ⟨oM,?_⟩;rw [show t-k=(t-(k+1))+1 by omega];simpa using h2
end rules
end
section
variable {P:Program} {n:Nat} {e:dI} {w:World} {Q:dA}
theorem results_run' {fn:Func} {a:Act} (hg:∀ t v,find e t=some v→a.tmps.getD t undef=v) {rs:List ResultVar} (a0:fn.results=rs.toArray) {vs:List Value} (h:resAll P w e rs vs) :
  (results fn a.tmps).run P w=.ok (packed vs) w :=
 results_run (n:=a.tmps.size) (a:={ a with defers:=[] }) ⟨rfl,rfl,hg⟩ a0 h
theorem leaves_marks {fn:Func} {tmps:Array Value} {R:Ending→World→Prop} {v:Value}:∀ (ms:List Nat) (w:World),ms.Nodup→(∀ r∈ms,w.heap[r]? = some (.deferred (some [])))→(results fn tmps).run P (shut ms w)=.ok v (shut ms w)→R (.returned v) (shut ms w) →
  LeavesInM (FR none) 0 P fn tmps R (ms.map mkD) .returning w
 | [],w,_,_,h,hR=>⟨v,h,hR⟩
 | r::ms,w,hnd,hb,h,hR=>by
  obtain ⟨h1,h2⟩:=List.nodup_cons.1 hnd;refine ⟨sM,.inl ⟨r,_,rfl,run_takeDeferred (hb r sM),leaves_marks ms _ h2 (λ x hx=>?_) h hR⟩⟩;have hne:x≠r:=λ e=>h1 (by rw [← e];exact hx);rw [World.putObj_heap_other hne];exact hb x (by simp [hx])
theorem calls {f:FuncId} {fn:Func} {c:Code} {args:List Value} {rs:List ResultVar} {R:Ending→World→Prop} {n:Nat}
  (hf:P.funcs[f]? = some fn) (hb:fn.body=some c) (hn:fn.ntmps=n) (a0:fn.results=rs.toArray) (ha:Nat.ble args.length n=true)
  (h:T P n c (argsFrom 0 args) w (retQ P rs R)):Calls P f args.toArray w R:=by
 have e0:args.length≤n:=Nat.le_of_ble_eq_true ha;refine calls_fr1 (ro:=none) (callsIn_of_wp_marks hf hb trivial (wpIn_mono (h _ ⟨rfl,?_,?_⟩) ?_))
 ·simp [hn];omega
 ·intro t v hv;obtain ⟨_,h2⟩:=find_argsFrom args 0 t v hv
  have h3:t<args.length:=by
   rcases Nat.lt_or_ge t args.length with h|h
   ·exact h
   ·simp [List.getElem?_eq_none h] at h2
  simp only [Nat.sub_zero] at h2;simp only [Array.getD_eq_getD_getElem?];rw [Array.getElem?_append_left (by simpa using h3)];simp [h2]
 ·intro x a w hx
  cases x with
  | normal =>
   obtain ⟨e,he,vs,h1,h2⟩:=hx;have hd:a.defers=[]:=he.defers;show LeavesInM (FR none) 0 P fn a.tmps R a.defers .returning w;rw [hd];exact ⟨_,results_run he a0 h1,h2⟩
  | ret =>
   obtain ⟨e,ms,he,vs,h1,h2⟩:=hx;have hd:a.defers=ms.map mkD:=he.defers.trans (List.append_nil _);show LeavesInM (FR none) 0 P fn a.tmps R a.defers .returning w;rw [hd];exact leaves_marks ms w he.nd (λ r hr=>(he.blk r hr).2) (results_run' he.get a0 h1) h2
  | panic ch =>
   obtain ⟨e,he,hq⟩:=hx;have hd:a.defers=[]:=he.defers;show LeavesInM (FR none) 0 P fn a.tmps R a.defers (.panicking ch) w;rw [hd];exact hq
  | outgrown=>obtain ⟨e,he,hq⟩:=hx;exact hq
  | exit i=>obtain ⟨e,he,hq⟩:=hx;exact hq
  | goto l=>obtain ⟨e,he,hq⟩:=hx;exact hq
end
section
section rules
variable [Rn]
variable {P:Program} {n:Nat} {e:dI} {w:World} {Q:dA}
theorem eF {rs:List ResultVar} {R:Ending→World→Prop} {vs:List Value} {v:Value} (h:resAll P w e rs vs) (hp:packed vs=v) (hR:R (.returned v) w):retQ P rs R .ret e w:=⟨vs,h,by rw [hp];exact hR⟩
theorem dK {rs:List ResultVar} {R:Ending→World→Prop} {vs:List Value} {v:Value} (h:resAll P w e rs vs) (hp:packed vs=v) (hR:R (.returned v) w):retQ P rs R .normal e w:=⟨vs,h,by rw [hp];exact hR⟩
theorem bA {s:Nat} {v:Value} {R:Ending→World→Prop} (h:find e s=some v) (hR:R (.returned v) w):retQ P [.tmp s] R .ret e w:=eF (vs:=[v]) ⟨v,[],rfl,h,rfl⟩ rfl hR
theorem fJ {s t:Nat} {u v:Value} {R:Ending→World→Prop} (h:find e s=some u) (h2:find e t=some v) (hR:R (.returned (.tuple #[u,v])) w):retQ P [.tmp s,.tmp t] R .ret e w :=
 eF (vs:=[u,v]) ⟨u,[v],rfl,h,v,[],rfl,h2,rfl⟩ rfl hR
theorem TL.mk {ops:Array Oper} {l:List Oper} (h:∀ a,Fits n e a→wpListIn (FR Rn.ro) 0 P ops (iG n Q) l a w):TL P n ops l e w Q:=h
theorem TL.out {ops:Array Oper} {l:List Oper} (h:TL P n ops l e w Q) {a:Act} (ha:Fits n e a):wpListIn (FR Rn.ro) 0 P ops (iG n Q) l a w:=h a ha
theorem T.mk {c:Code} (h:∀ a,Fits n e a→c.wpIn (FR Rn.ro) 0 P (iG n Q) a w):T P n c e w Q:=h
theorem T.out {c:Code} (h:T P n c e w Q) {a:Act} (ha:Fits n e a):c.wpIn (FR Rn.ro) 0 P (iG n Q) a w:=h a ha
theorem retC {s t:Nat} {p:Addr} {v:Value} {R:Ending→World→Prop} (h:find e s=some (.pointer (some p))) (hl:(loadVar t p).run P w=.ok v w) (hR:R (.returned v) w):retQ P [.cell s t] R .ret e w :=
 eF (vs:=[v]) ⟨v,[],rfl,⟨p,h,hl⟩,rfl⟩ rfl hR
theorem fL {s t u:Nat} {p:Addr} {v x:Value} {R:Ending→World→Prop} (h:find e s=some (.pointer (some p))) (hl:(loadVar t p).run P w=.ok v w) (h2:find e u=some x) (hR:R (.returned (.tuple #[v,x])) w):retQ P [.cell s t,.tmp u] R .ret e w :=
 eF (vs:=[v,x]) ⟨v,[x],rfl,⟨p,h,hl⟩,x,[],rfl,h2,rfl⟩ rfl hR
end rules
end
attribute [irreducible] T TL thenQ blockQ loopQ retQ
def oneB (P:Program) (t:TypeId):Bool :=
 match P.underlying t,P.info? t with
 | some (.struct _),_|some (.array _ _),_|_,none|none,_=>false
 | some _,some i=>i.size==1
def aggB (P:Program) (t:TypeId) (m:Nat):Bool :=
 match P.underlying t,P.info? t with
 | some (.struct _),some i|some (.array _ _),some i=>i.size==m
 | _,_=>false
class One (P:Program) (t:TypeId):Prop where
 h:oneB P t=true
class Agg (P:Program) (t:TypeId) (m:outParam Nat):Prop where
 h:aggB P t m=true
class Zero (P:Program) (t:TypeId) (z:outParam Value):Prop where
 h:(P.info? t).bind (·.zero)=some z
def fieldB (P:Program) (s:TypeId) (f off:Nat):Bool :=
 match P.underlying s with
 | some (.struct fs)=>match fs[f]? with
  | some fd=>fd.offset==off&&(match P.info? fd.type with|some i=>i.size != 0|none=>false)
  | none=>false
 | _=>false
class FieldAt (P:Program) (s:TypeId) (f:Nat) (off:outParam Nat):Prop where
 h:fieldB P s f off=true
def sliceB (P:Program) (t:TypeId) (elem size bytes:Nat):Bool :=
 match P.underlying t with
 | some (.slice e)=>e==elem&&(match P.info? e with|some i=>i.size==size&&i.bytes==bytes&&size != 0&&(match i.zero with|some z=>z.cells.size==size|none=>false)|none=>false)
 | _=>false
class SliceTy (P:Program) (t:TypeId) (elem size bytes:outParam Nat):Prop where
 h:sliceB P t elem size bytes=true
def arrB (P:Program) (t:TypeId) (len elem size:Nat):Bool :=
 match P.underlying t with
 | some (.array l e)=>l==len&&e==elem&&(match P.info? e with|some i=>i.size==size|none=>false)
 | _=>false
class ArrTy (P:Program) (t:TypeId) (len elem size:outParam Nat):Prop where
 h:arrB P t len elem size=true
def fnB (P:Program) (f:FuncId):Bool :=
 match P.funcs[f]? with
 | some fn=>!(fn.name=="runtime.NumGoroutine")&&!fn.body.isNone
 | none=>false
class FnOk (P:Program) (f:FuncId):Prop where
 h:fnB P f=true
def strB (P:Program) (t:TypeId):Bool:=match P.underlying t with|some .string=>true|_=>false
class StrTy (P:Program) (t:TypeId):Prop where
 h:strB P t=true
section ty
variable {P:Program} {t:TypeId}
theorem One.agg (h:One P t) (w:World):(isAgg t).run P w=.ok false w:=by
 have h:=h.h;unfold oneB at h
 cases hu:P.underlying t with
 | none=>cases hi:P.info? t<;>simp [hu,hi] at h
 | some d =>
  simp only [isAgg,underlying,Sem.run_bind,run_program,Result.andThen_ok,hu];cases d<;>simp_all [Sem.run_pure]
theorem One.size (h:One P t) (w:World):(sizeOf t).run P w=.ok 1 w:=by
 have h:=h.h;unfold oneB at h
 cases hi:P.info? t with
 | none=>cases hu:P.underlying t with
  | none=>simp [hu,hi] at h
  | some d=>cases d<;>simp [hu,hi] at h
 | some i =>
  have h1:i.size=1:=by
   cases hu:P.underlying t with
   | none=>simp [hu,hi] at h
   | some d=>cases d<;>simp_all
  simp [sizeOf,typeInfo,hi,h1]
theorem Agg.agg {m:Nat} (h:Agg P t m) (w:World):(isAgg t).run P w=.ok true w:=by
 have h:=h.h;unfold aggB at h
 cases hu:P.underlying t with
 | none=>simp [hu] at h
 | some d =>
  simp only [isAgg,underlying,Sem.run_bind,run_program,Result.andThen_ok,hu];cases d<;>simp_all [Sem.run_pure]
theorem Agg.size {m:Nat} (h:Agg P t m) (w:World):(sizeOf t).run P w=.ok m w:=by
 have h:=h.h;unfold aggB at h
 cases hi:P.info? t with
 | none=>cases hu:P.underlying t with
  | none=>simp [hu] at h
  | some d=>cases d<;>simp [hu,hi] at h
 | some i =>
  have h1:i.size=m:=by
   cases hu:P.underlying t with
   | none=>simp [hu] at h
   | some d=>cases d<;>simp_all
  simp [sizeOf,typeInfo,hi,h1]
theorem Zero.run {z:Value} (h:Zero P t z) (w:World):(zeroValue t).run P w=.ok z w:=by
 have h:=h.h
 cases hi:P.info? t with
 | none=>simp [hi] at h
 | some i =>
  simp only [hi,Option.bind_some] at h;simp [zeroValue,typeInfo,hi,h]
theorem SliceTy.und {e s b:Nat} (h:SliceTy P t e s b):P.underlying t=some (.slice e):=by
 have h:=h.h;unfold sliceB at h;split at h
 ·rename_i x hu;simp at h;rw [hu,h.1]
 ·cases h
theorem SliceTy.info {e s b:Nat} (h:SliceTy P t e s b):∃ i z,P.info? e=some i∧i.size=s∧i.bytes=b∧i.zero=some z∧z.cells.size=s∧s≠0:=by
 have h1:=h.h;unfold sliceB at h1;split at h1
 ·rename_i x hu;simp only [Bool.and_eq_true,beq_iff_eq] at h1;obtain ⟨hx,h2⟩:=h1;rw [← hx]
  cases hi:P.info? x with
  | none=>rw [hi] at h2;simp at h2
  | some i =>
   rw [hi] at h2
   cases hz:i.zero with
   | none=>simp [hz] at h2
   | some z =>
    simp [hz] at h2;exact ⟨i,z,rfl,h2.1.1.1,h2.1.1.2,hz,h2.2,h2.1.2⟩
 ·cases h1
theorem SliceTy.size {e s b:Nat} (h:SliceTy P t e s b) (w:World):(sizeOf e).run P w=.ok s w:=by
 obtain ⟨i,z,hi,hs,_⟩:=h.info;simp [sizeOf,typeInfo,hi,hs]
end ty
abbrev Grow (w w':World):Prop:=Below w.heap.size w w'∧w.heap.size≤w'.heap.size
theorem Grow.block {w w':World} (g:Grow w w'):∀ k,k<w.heap.size→w'.heap[k]? = w.heap[k]?:=g.1.block
theorem Grow.size {w w':World} (g:Grow w w'):w.heap.size≤w'.heap.size:=g.2
theorem Grow.refl (w:World):Grow w w:=⟨Below.refl _ w,Nat.le_refl _⟩
theorem Grow.mk {w w':World} (h:Below w.heap.size w w'):Grow w w':=⟨h,h.size⟩
theorem Grow.trans {a b c:World} (g:Grow a b) (h:Grow b c):Grow a c:=⟨g.1.trans (h.1.mono g.2),Nat.le_trans g.2 h.2⟩
theorem Grow.drew (w:World):Grow w w.drew:=⟨(Below.refl _ w).drew,Nat.le_refl _⟩
structure Upd (b:Nat) (w w':World):Prop where
 os:w'.os=w.os
 tape:w'.tape=w.tape
 output:w'.output=w.output
 size:w'.heap.size=w.heap.size
 block:∀ k,k≠b→w'.heap[k]? = w.heap[k]?
def Blk (w:World) (b:Nat) (t:TypeId) (cs:List Value):Prop:=w.heap[b]? = some (.cells cs.toArray t (0,0))
section mem
variable {P:Program} {w w' w0:World}
theorem Blk.lt {b:Nat} {t:TypeId} {cs:List Value} (h:Blk w b t cs):b<w.heap.size:=(Array.getElem?_eq_some_iff.1 h).1
theorem Blk.cell {b:Nat} {t:TypeId} {cs:List Value} {o:Nat} {v:Value} (h:Blk w b t cs) (hv:cs[o]? = some v):w.cell? ⟨b,o,none⟩=some v:=by
 unfold Blk at h;simp [World.cell?,h,hv]
theorem Blk.frozen {b:Nat} {t:TypeId} {cs:List Value} (h:Blk w b t cs) (o:Nat):w.frozen? ⟨b,o,none⟩=false:=by
 unfold Blk at h;simp [World.frozen?,h]
theorem Blk.grow {b:Nat} {t:TypeId} {cs:List Value} (g:Grow w w') (h:Blk w b t cs):Blk w' b t cs:=by
 unfold Blk at *;rw [g.block b (Array.getElem?_eq_some_iff.1 h).1];exact h
theorem Blk.upd {b c:Nat} {t:TypeId} {cs:List Value} (u:Upd c w w') (hb:b≠c) (h:Blk w b t cs):Blk w' b t cs:=by
 unfold Blk at *;rw [u.block b hb];exact h
theorem cell_grow {p:Addr} {v:Value} (g:Grow w w') (h:w.cell? p=some v):w'.cell? p=some v :=
 (World.cell?_of_block (w:=w) (g.block p.block (World.block_lt_of_cell? w p h))).trans h
theorem kB {B:Nat} (g:Grow w w') (hB:B≤w.heap.size) (h:Below B w0 w):Below B w0 w':=h.trans (g.1.mono hB)
theorem below_upd {B b:Nat} (u:Upd b w w') (hB:B≤b) (h:Below B w0 w):Below B w0 w' :=
 h.trans ⟨u.os,u.tape,u.output,Nat.le_of_eq u.size.symm,λ k hk=>u.block k oM⟩
theorem grow_trans (g:Grow w w') (h:Grow w0 w):Grow w0 w':=h.trans g
theorem aH {b:Nat} (u:Upd b w w') (hB:w0.heap.size≤b) (h:Grow w0 w):Grow w0 w':=Grow.mk (below_upd u hB h.1)
theorem lZ (o:Obj):Grow w (w.alloc o):=Grow.mk ((Below.refl _ w).alloc (Nat.le_refl _) o)
theorem blk_alloc (cs:List Value) (t:TypeId):Blk (w.alloc (.cells cs.toArray t)) w.heap.size t cs:=by
 show (w.heap.push _)[w.heap.size]? = _;simp
theorem upd_setCell (b o:Nat) (v:Value):Upd b w (w.setCell ⟨b,o,none⟩ v) :=
 ⟨rfl,rfl,rfl,sM,λ k hk=>Below.heap_setCell _ _ _ _ hk⟩
theorem blk_setCell {b o:Nat} {t:TypeId} {cs:List Value} (v:Value) (h:Blk w b t cs):Blk (w.setCell ⟨b,o,none⟩ v) b t (cs.set o v):=by
 unfold Blk at *;simp only [World.setCell,Array.getElem?_modify,if_true,h,Option.map_some];simp
theorem Upd.trans {b:Nat} (h:Upd b w0 w) (k:Upd b w w'):Upd b w0 w' :=
 ⟨k.os.trans h.os,k.tape.trans h.tape,k.output.trans h.output,k.size.trans h.size,λ i hi=>(k.block i hi).trans (h.block i hi)⟩
theorem Upd.refl (b:Nat) (w:World):Upd b w w:=⟨rfl,rfl,rfl,rfl,λ _ _=>rfl⟩
def iJ (cs:List Value) (o:Nat):List Value→List Value
 | []=>cs
 | v::vs=>iJ (cs.set o v) (o+1) vs
theorem iV {b:Nat} {t:TypeId}:∀ (vs:List Value) (o i:Nat) (cs:List Value) (w:World),Blk w b t cs→o+i+vs.length≤cs.length →
  (∀ v∈vs,v.oneCell'=true)→∃ w',(storeCells ⟨b,o,none⟩ vs i).run P w=.ok () w'∧Upd b w w'∧Blk w' b t (iJ cs (o+i) vs):=by
 intro vs
 induction vs with
 | nil=>intro o i cs w h _ _;exact ⟨w,rfl,Upd.refl b w,h⟩
 | cons v vs ih =>
  intro o i cs w h hl h1;have ha:(⟨b,o,none⟩:Addr).add i=⟨b,o+i,none⟩:=Addr.add_lit ..;have e0:o+i<cs.length:=by simp at hl;omega
  have hc:w.cell? ⟨b,o+i,none⟩=some cs[o+i]:=h.cell (by simp [e0])
  have a0:(store ⟨b,o+i,none⟩ v .plain).run P w=.ok () (w.setCell ⟨b,o+i,none⟩ v):=by
   rw [run_store P w _ v .plain (h1 v sM)];simp only [hc,h.frozen,Bool.false_eq_true,if_false]
  obtain ⟨w',hr,hu,hb⟩:=ih o (i+1) (cs.set (o+i) v) (w.setCell ⟨b,o+i,none⟩ v) (blk_setCell v h) (by simp at hl ⊢;omega) (λ u hu=>h1 u (by simp [hu]));refine ⟨w',?_,(upd_setCell b (o+i) v).trans hu,hb⟩;simp only [storeCells,ha,Sem.run_bind,a0,Result.andThen_ok];exact hr
theorem lT {p:Addr}:∀ (m i:Nat) (vs:List Value) (a0:Array Value),vs.length=m→(∀ j v,vs[j]? = some v→w.cell? (p.add (i+j))=some v) →
  (loadCellsFrom p i m a0).run P w=.ok (a0++vs.toArray) w:=by
 intro m
 induction m with
 | zero=>intro i vs a0 h _;cases vs with
  | nil=>simp [loadCellsFrom]
  | cons _ _=>simp at h
 | succ m ih =>
  intro i vs a0 h hc
  cases vs with
  | nil=>simp at h
  | cons v vs =>
   have h0:=hc 0 v sM;simp only [Nat.add_zero] at h0;simp only [loadCellsFrom,Sem.run_bind,run_load,h0,Result.andThen_ok];rw [ih (i+1) vs (a0.push v) (by simpa using h) (λ j u hu=>by have:=hc (j+1) u (by simpa using hu);rwa [show i+(j+1)=i+1+j by omega] at this)];simp
theorem run_loadVar_one {t:TypeId} {p:Addr} {v:Value} (ht:One P t) (hc:w.cell? p=some v):(loadVar t p).run P w=.ok v w:=by
 simp [loadVar,ht.agg,hc]
theorem iS {t:TypeId} {m:Nat} {p:Addr} {vs:List Value} (ht:Agg P t m) (hl:vs.length=m) (hc:∀ j v,vs[j]? = some v→w.cell? (p.add j)=some v):(loadVar t p).run P w=.ok (.agg vs.toArray) w:=by
 have:=lT (P:=P) (w:=w) (p:=p) m 0 vs #[] hl (by simpa using hc);simp [loadVar,ht.agg,ht.size,loadCells,this]
theorem Blk.cells {b:Nat} {t:TypeId} {cs vs:List Value} {o m:Nat} (h:Blk w b t cs) (hv:(cs.drop o).take m=vs):∀ j v,vs[j]? = some v→w.cell? ((⟨b,o,none⟩:Addr).add j)=some v:=by
 intro j v hj;rw [show (⟨b,o,none⟩:Addr).add j=⟨b,o+j,none⟩ from Addr.add_lit ..];refine h.cell ?_;rw [← hv,List.getElem?_take] at hj;split at hj
 ·simpa using hj
 ·cases hj
theorem run_storeVar_one {t bt:TypeId} {b o:Nat} {v:Value} {cs a0:List Value} (ht:One P t) (h:Blk w b bt cs) (ho:Nat.blt o cs.length=true) (h1:v.oneCell'=true) (f0:cs.set o v=a0) :
  ∃ w',(storeVar t ⟨b,o,none⟩ v).run P w=.ok () w'∧Upd b w w'∧Blk w' b bt a0:=by
 have e0:o+0+[v].length≤cs.length:=Nat.le_of_ble_eq_true ho;obtain ⟨w',hr,hu,hb⟩:=iV (P:=P) (t:=bt) [v] o 0 cs w h e0 (by simpa using h1);refine ⟨w',?_,hu,by rw [← f0];exact hb⟩;have hv:v.cells = #[v]:=by cases v<;>first|rfl|cases h1
 simp only [storeVar,hv,ht.size,Sem.run_bind,Result.andThen_ok];simpa using hr
theorem run_storeVar_agg {t bt:TypeId} {m b o:Nat} {vs cs a0:List Value} (ht:Agg P t m) (h:Blk w b bt cs) (hm:Nat.beq vs.length m=true) (ho:Nat.ble (o+vs.length) cs.length=true) (h1:vs.all Value.oneCell'=true) (f0:iJ cs o vs=a0) :
  ∃ w',(storeVar t ⟨b,o,none⟩ (.agg vs.toArray)).run P w=.ok () w'∧Upd b w w'∧Blk w' b bt a0:=by
 have e0:o+0+vs.length≤cs.length:=Nat.le_of_ble_eq_true ho;obtain ⟨w',hr,hu,hb⟩:=iV (P:=P) (t:=bt) vs o 0 cs w h e0 (λ v hv=>List.all_eq_true.1 h1 v hv);refine ⟨w',?_,hu,by rw [← f0];exact hb⟩;simp only [storeVar,ht.size,Sem.run_bind,Result.andThen_ok,Value.cells];simpa [Nat.eq_of_beq_eq_true hm] using hr
end mem
section rules
variable [Rn]
variable {P:Program} {n:Nat} {e:dI} {w:World} {Q:dA} {ops:Array Oper} {rest:List Oper} {d:Nat} {ty:TypeId} {pos:String} {aft:Array Edge}
theorem TL.box {t:TypeId} {x:Operand} {v:Value} {cs:List Value} (hx:val e x=some v) (a0:v.cells.toList=cs) (hd:Nat.blt d n=true)
  (k:∀ b w',Grow w w'→Blk w' b t cs→w.heap.size=b→w'.heap.size=b+1→TL P n ops rest ((d,.pointer (some ⟨b,0,none⟩))::e) w' Q) :
  TL P n ops (⟨some d,.box t x,ty,pos,aft,none⟩::rest) e w Q :=
 TL.run (v:=.pointer (some ⟨w.heap.size,0,none⟩)) (w':=w.alloc (.cells cs.toArray t)) (λ a ha=>by
  have hca:v.cells=cs.toArray:=by rw [← a0]
  simp [execOp,Instr.box,newVar,newRow,ha.eval hx,hca]) hd
  (k _ _ (lZ _) (blk_alloc cs t) rfl sM)
theorem TL.alloc {t:TypeId} {z:Value} {cs:List Value} [hz:Zero P t z] (a0:z.cells.toList=cs) (hd:Nat.blt d n=true)
  (k:∀ b w',Grow w w'→Blk w' b t cs→w.heap.size=b→w'.heap.size=b+1→TL P n ops rest ((d,.pointer (some ⟨b,0,none⟩))::e) w' Q) :
  TL P n ops (⟨some d,.alloc t,ty,pos,aft,none⟩::rest) e w Q :=
 TL.run (v:=.pointer (some ⟨w.heap.size,0,none⟩)) (w':=w.alloc (.cells cs.toArray t)) (λ a ha=>by
  have hca:z.cells=cs.toArray:=by rw [← a0]
  simp [execOp,Instr.alloc,newVar,newRow,hz.run,hca]) hd
  (k _ _ (lZ _) (blk_alloc cs t) rfl sM)
theorem aS {t:TypeId} {x:Operand} {p:Addr} {v:Value} [ht:One P t] (hx:val e x=some (.pointer (some p))) (hc:w.cell? p=some v) (hd:Nat.blt d n=true)
  (k:TL P n ops rest ((d,v)::e) w Q):TL P n ops (⟨some d,.load t x,ty,pos,aft,none⟩::rest) e w Q :=
 TL.run (λ a ha=>by simp [execOp,Instr.loadAt,ha.eval hx,Instr.sureAddr,run_loadVar_one ht hc]) hd k
theorem TL.loadN {t bt:TypeId} {m b o:Nat} {x:Operand} {cs vs:List Value} [ht:Agg P t m] (hx:val e x=some (.pointer (some ⟨b,o,none⟩))) (hb:Blk w b bt cs) (hv:(cs.drop o).take m=vs) (hl:Nat.beq vs.length m=true)
  (hd:Nat.blt d n=true) (k:TL P n ops rest ((d,.agg vs.toArray)::e) w Q):TL P n ops (⟨some d,.load t x,ty,pos,aft,none⟩::rest) e w Q :=
 TL.run (λ a ha=>by simp [execOp,Instr.loadAt,ha.eval hx,Instr.sureAddr,iS ht (Nat.eq_of_beq_eq_true hl) (hb.cells hv)]) hd k
theorem dR {t bt:TypeId} {x y:Operand} {b o:Nat} {v:Value} {cs a0:List Value} [ht:One P t] (hx:val e x=some (.pointer (some ⟨b,o,none⟩))) (hy:val e y=some v) (hb:Blk w b bt cs)
  (h1:v.oneCell'=true) (ho:Nat.blt o cs.length=true) (e0:cs.set o v=a0)
  (k:∀ w',Upd b w w'→Blk w' b bt a0→w'.heap.size=w.heap.size→TL P n ops rest e w' Q):TL P n ops (⟨none,.store t x y,ty,pos,aft,none⟩::rest) e w Q:=by
 obtain ⟨w',hr,hu,f0⟩:=run_storeVar_one (P:=P) ht hb ho h1 e0;exact TL.run_skip (λ a ha=>by simp [execOp,Instr.storeAt,ha.eval hx,ha.eval hy,Instr.sureAddr,hr]) (k w' hu f0 hu.size)
theorem run_fieldPlace {s:TypeId} {f a0 b o:Nat} (h:FieldAt P s f a0) (w:World):(Instr.fieldAt s (.pointer (some ⟨b,o,none⟩)) f).run P w=.ok (.pointer (some ⟨b,o+a0,none⟩)) w:=by
 have h:=h.h;unfold fieldB at h;split at h
 ·rename_i fs hu;split at h
  ·rename_i fd e0
   cases hi:P.info? fd.type with
   | none=>simp [hi] at h
   | some i =>
    simp [hi] at h;obtain ⟨rfl,h2⟩:=h;simp [Instr.fieldAt,underlying,hu,e0,Instr.sureAddr,fieldPlace,sizeOf,typeInfo,hi,h2,Addr.add_lit]
  ·cases h
 ·cases h
theorem TL.fieldAddr {s:TypeId} {f a0 b o:Nat} {x:Operand} [h:FieldAt P s f a0] (hx:val e x=some (.pointer (some ⟨b,o,none⟩))) (hd:Nat.blt d n=true)
  (k:TL P n ops rest ((d,.pointer (some ⟨b,o+a0,none⟩))::e) w Q):TL P n ops (⟨some d,.fieldAddr s x f,ty,pos,aft,none⟩::rest) e w Q :=
 TL.run (λ a ha=>by simp [execOp,ha.eval hx,run_fieldPlace h]) hd k
theorem TL.len_slice {t a0 size bytes:Nat} {x:Operand} {a:Option Addr} {m c:Nat} [ht:SliceTy P t a0 size bytes] (hx:val e x=some (.slice a m c)) (hd:Nat.blt d n=true)
  (k:TL P n ops rest ((d,.int .i64 (m:Int))::e) w Q):TL P n ops (⟨some d,.call ⟨.builtin .len,#[x],#[t]⟩,ty,pos,aft,none⟩::rest) e w Q :=
 TL.run (λ a ha=>by simp [execOp,resolve,invoke,builtin,Builtin.len_,underlying,ht.und,ha.eval hx,goInt]) hd k
theorem TL.min2 {x y:Operand} {kd:IntKind} {p q:Int} {t1 t2:TypeId} (hx:val e x=some (.int kd p)) (hy:val e y=some (.int kd q)) (hd:Nat.blt d n=true)
  (k:TL P n ops rest ((d,.int kd (if q<p then q else p))::e) w Q):TL P n ops (⟨some d,.call ⟨.builtin .min,#[x,y],#[t1,t2]⟩,ty,pos,aft,none⟩::rest) e w Q :=
 TL.run (λ a ha=>by simp [execOp,resolve,invoke,builtin,Builtin.min_,Builtin.min2,ha.eval hx,ha.eval hy]) hd k
theorem TL.addI {x y:Operand} {p q:Int} {t1 t2:TypeId} (hx:val e x=some (.int .i64 p)) (hy:val e y=some (.int .i64 q)) (h1 : -9223372036854775808≤p+q) (h2:p+q≤9223372036854775807) (hd:Nat.blt d n=true)
  (k:TL P n ops rest ((d,.int .i64 (p+q))::e) w Q):TL P n ops (⟨some d,.binOp .add t1 x y t2,ty,pos,aft,none⟩::rest) e w Q :=
 TL.run (λ a ha=>by simp [execOp,binOp,bG,Op.intArith,ha.eval hx,ha.eval hy,IntWalk.i64_in _ ⟨h1,h2⟩]) hd k
theorem TL.subI {x y:Operand} {p q:Int} {t1 t2:TypeId} (hx:val e x=some (.int .i64 p)) (hy:val e y=some (.int .i64 q)) (h1 : -9223372036854775808≤p-q) (h2:p-q≤9223372036854775807) (hd:Nat.blt d n=true)
  (k:TL P n ops rest ((d,.int .i64 (p-q))::e) w Q):TL P n ops (⟨some d,.binOp .sub t1 x y t2,ty,pos,aft,none⟩::rest) e w Q :=
 TL.run (λ a ha=>by simp [execOp,binOp,bG,Op.intArith,ha.eval hx,ha.eval hy,IntWalk.i64_in _ ⟨h1,h2⟩]) hd k
theorem TL.rem {x y:Operand} {kd:IntKind} {p q:Int} {t1 t2:TypeId} (hx:val e x=some (.int kd p)) (hy:val e y=some (.int kd q)) (h0:q≠0) (hd:Nat.blt d n=true)
  (k:TL P n ops rest ((d,.int kd (p.tmod q))::e) w Q):TL P n ops (⟨some d,.binOp .rem t1 x y t2,ty,pos,aft,none⟩::rest) e w Q :=
 TL.run (λ a ha=>by simp [execOp,binOp,bG,Op.intDiv,ha.eval hx,ha.eval hy,h0]) hd k
end rules
attribute [irreducible] Blk
def Ret (R:Value→World→Prop):Ending→World→Prop:=λ x w=>∃ v,x=.returned v∧R v w
theorem Ret.mono {R R':Value→World→Prop} {x:Ending} {w:World} (h:Ret R x w) (k:∀ v w,R v w→R' v w):Ret R' x w :=
 let ⟨v,hx,hr⟩:=h;⟨v,hx,k v w hr⟩
def at':Option Addr→Nat→Addr
 | some p,k=>⟨p.block,p.off+k,none⟩
 | none,_=>default
theorem at_some (b o k:Nat):at' (some ⟨b,o,none⟩) k=⟨b,o+k,none⟩:=rfl
def Row (F:Nat→Prop) (w:World) (a:Option Addr) (cs:List Value):Prop :=
 match a with
 | none=>cs=[]
 | some p=>cs≠[]→p.spot=none∧F p.block∧p.block<w.heap.size∧∀ j v,cs[j]? = some v→w.cell? ⟨p.block,p.off+j,none⟩=some v
theorem ne_nil_at {cs:List Value} {j:Nat} {v:Value} (h:cs[j]? = some v):cs≠[]:=by rintro rfl;simp at h
structure Sl (F:Nat→Prop) (w:World) (sz:Nat) (a:Option Addr) (n c:Nat) (cs:List Value):Prop where
 len:cs.length=n*sz
 cap:n≤c
 max:c≤maxLen
 nil:a=none→c=0
 row:Row F w a cs
section sl
variable {P:Program} {F:Nat→Prop} {w w':World} {sz:Nat} {a:Option Addr} {n c:Nat} {cs:List Value}
theorem Row.cell (h:Row F w a cs) {j:Nat} {v:Value} (hj:cs[j]? = some v):w.cell? (at' a j)=some v:=by
 cases a with
 | none=>simp only [Row] at h;subst h;simp at hj
 | some p=>exact (h (ne_nil_at hj)).2.2.2 j v hj
theorem Row.cell_add (h:Row F w a cs) {p:Addr} (hp:a=some p):∀ j v,cs[j]? = some v→w.cell? (p.add j)=some v:=by
 subst hp;intro j v hj;obtain ⟨h1,h2,h3,h4⟩:=h (ne_nil_at hj);obtain ⟨b,o,s⟩:=p;simp only at h1;subst h1;rw [Addr.add_lit];exact h4 j v hj
theorem Row.mono {F':Nat→Prop} (h:Row F w a cs) (hF:∀ k,F k→F' k):Row F' w a cs:=by
 cases a with
 | none=>exact h
 | some p=>exact λ hn=>⟨(h hn).1,hF _ (h hn).2.1,(h hn).2.2⟩
theorem Row.keep (h:Row F w a cs) (hb:∀ k,F k→k<w.heap.size→w'.heap[k]? = w.heap[k]?) (hs:w.heap.size≤w'.heap.size):Row F w' a cs:=by
 cases a with
 | none=>exact h
 | some p=>exact λ hn=>(λ h=>⟨h.1,h.2.1,Nat.lt_of_lt_of_le h.2.2.1 hs,λ j v hj=>(World.cell?_of_block (w:=w) (a:=⟨p.block,p.off+j,none⟩) (hb p.block h.2.1 h.2.2.1)).trans (h.2.2.2 j v hj)⟩) (h hn)
theorem Sl.keep (h:Sl F w sz a n c cs) (hb:∀ k,F k→k<w.heap.size→w'.heap[k]? = w.heap[k]?) (hs:w.heap.size≤w'.heap.size):Sl F w' sz a n c cs :=
 ⟨h.len,h.cap,h.max,h.nil,h.row.keep hb hs⟩
theorem Sl.grow (h:Sl F w sz a n c cs) (g:Grow w w'):Sl F w' sz a n c cs:=h.keep (λ k _ hk=>g.block k hk) g.size
theorem Sl.upd {b:Nat} (h:Sl F w sz a n c cs) (u:Upd b w w') (hF:∀ k,F k→k≠b):Sl F w' sz a n c cs:=h.keep (λ k hk _=>u.block k (hF k hk)) (Nat.le_of_eq u.size.symm)
theorem Sl.mono {F':Nat→Prop} (h:Sl F w sz a n c cs) (hF:∀ k,F k→F' k):Sl F' w sz a n c cs:=⟨h.len,h.cap,h.max,h.nil,h.row.mono hF⟩
theorem Sl.nil_mk (F:Nat→Prop) (w:World) (sz:Nat):Sl F w sz none 0 0 []:=⟨sM,Nat.le_refl _,Nat.zero_le _,λ _=>rfl,rfl⟩
theorem Sl.tight (h:Sl F w sz a n c cs):Sl (λ k=>F k∧k<w.heap.size) w sz a n c cs:=⟨h.len,h.cap,h.max,h.nil,by
 have h1:=h.row
 cases a with
 | none=>exact h1
 | some p=>exact λ hn=>⟨(h1 hn).1,⟨(h1 hn).2.1,(h1 hn).2.2.1⟩,(h1 hn).2.2⟩⟩
theorem aM {base:Nat} {e:TypeId} {v:Value} {xs:List Value} (h:w.ownsRow base e sz v n xs):∃ a c,v=.slice a n c∧Sl (λ k=>base≤k∧v.ownBlock=some k) w sz a n c xs:=by
 obtain ⟨h1,h2⟩:=h;rcases h2 with ⟨rfl,rfl⟩|⟨g,e0,a0,rfl,hg,hh,hn,hm,hs,ht⟩
 ·simp at h1;subst h1;exact ⟨none,0,rfl,Sl.nil_mk _ _ _⟩
 ·refine ⟨some ⟨g,0,none⟩,e0,rfl,h1,hn,hm,λ h=>by simp at h,λ _=>⟨rfl,⟨hg,rfl⟩,(Array.getElem?_eq_some_iff.1 hh).1,λ j v hj=>?_⟩⟩
  have:a0[j]? = some v:=by
   rw [← ht,List.getElem?_take] at hj;split at hj
   ·simpa using hj
   ·cases hj
  simp [World.cell?,hh,this]
theorem aU {b m:Nat} {t:TypeId} {cs:List Value} (hb:Blk w b t cs) (hl:cs.length=m*sz) (hm:m≤maxLen):Sl (λ k=>k=b) w sz (some ⟨b,0,none⟩) m m cs :=
 ⟨hl,Nat.le_refl _,hm,(λ h=>by cases h),λ _=>⟨rfl,rfl,hb.lt,(λ j v hj=>by rw [Nat.zero_add];exact hb.cell hj)⟩⟩
theorem cB {base:Nat} {e:TypeId} {v:Value} {xs:List Value} (h:w.ownsRow base e sz v n xs) (hb:∀ k,base≤k→v.ownBlock=some k→w'.heap[k]? = w.heap[k]?):w'.ownsRow base e sz v n xs:=by
 obtain ⟨h1,h2⟩:=h;refine ⟨h1,?_⟩;rcases h2 with h2|⟨g,e0,a0,hv,hg,hh,r⟩
 ·exact Or.inl h2
 ·exact Or.inr ⟨g,e0,a0,hv,hg,by rw [hb g hg (by rw [hv];rfl)];exact hh,r⟩
theorem aR {base:Nat} {e:TypeId} {v:Value} {xs:List Value} (h:w.ownsRow base e sz v n xs) {k:Nat} (hk:v.ownBlock=some k):base≤k∧k<w.heap.size:=h.lt k hk
theorem aO {base:Nat} {e:TypeId} {v:Value} {xs:List Value} (h:w.ownsRow base e sz v n xs) (g:Grow w w'):w'.ownsRow base e sz v n xs:=cB h λ k _ hv=>g.block k (aR h hv).2
theorem fZ {base b:Nat} {e:TypeId} {v:Value} {xs:List Value} (h:w.ownsRow base e sz v n xs) (u:Upd b w w') (hb:b<base):w'.ownsRow base e sz v n xs:=cB h λ k hk _=>u.block k oM
theorem eB {base a0:Nat} {e:TypeId} {v:Value} {xs:List Value} (h:w.ownsRow base e sz v n xs) (hb:a0≤base):w.ownsRow a0 e sz v n xs:=by
 obtain ⟨h1,h2⟩:=h;refine ⟨h1,?_⟩;rcases h2 with h2|⟨g,f0,e0,hv,hg,r⟩
 ·exact Or.inl h2
 ·exact Or.inr ⟨g,f0,e0,hv,Nat.le_trans hb hg,r⟩
theorem dE {v:Value} {b:Nat} {t:TypeId} {cs:List Value} (g:w.grownBy w' v.ownBlock) (hb:v.ownBlock≠some b) (h:Blk w b t cs):Blk w' b t cs:=by
 unfold Blk at *;rw [g.block b (Array.getElem?_eq_some_iff.1 h).1 (λ e=>hb e.symm)];exact h
theorem aL {w0:World} {B:Nat} {row:Option Nat} (g:w.grownBy w' row) (hB:B≤w.heap.size) (hr:∀ k,row=some k→B≤k) (h:Below B w0 w):Below B w0 w':=h.grown g hB hr
end sl
section rules
variable [Rn]
variable {P:Program} {n:Nat} {e:dI} {w:World} {Q:dA} {ops:Array Oper} {rest:List Oper} {d:Nat} {ty:TypeId} {pos:String} {aft:Array Edge}
theorem lE {f:FuncId} [h:FnOk P f] (args:Array Value) (w:World):(callFunc f args).run P w=.ok (.enter f args) w:=by
 have h:=h.h;unfold fnB at h
 cases hf:P.funcs[f]? with
 | none=>simp [hf] at h
 | some fn =>
  simp [hf] at h;obtain ⟨c,hc⟩:=Option.isSome_iff_exists.1 h.2;simp [callFunc,hf,h.1,hc]
def argsV (f:Operand→Option Value):List Operand→Option (List Value)
 | []=>some []
 | x::r=>match f x,argsV f r with
  | some v,some vs=>some (v::vs)
  | _,_=>none
theorem argsV_eval {r:Act} (hr:Fits n e r):∀ (xs:List Operand) (vs:List Value),argsV (val e) xs=some vs→xs.toArray.map r.eval=vs.toArray:=by
 have key:∀ (xs:List Operand) (vs:List Value),argsV (val e) xs=some vs→xs.map r.eval=vs:=by
  intro xs
  induction xs with
  | nil=>intro vs h;simp only [argsV,Option.some.injEq] at h;subst h;rfl
  | cons x xs ih =>
   intro vs h;simp only [argsV] at h;split at h
   ·rename_i v a0 h1 h2;simp only [Option.some.injEq] at h;subst h;simp [hr.eval h1,ih a0 h2]
   ·cases h
 intro xs vs h;simp [key xs vs h]
theorem aA {f:FuncId} {xs:List Operand} {a0:Array TypeId} {vs:List Value} {R:Value→World→Prop} [hf:FnOk P f] (hx:argsV (val e) xs=some vs)
  (hc:Calls P f vs.toArray w (Ret R)) (hd:Nat.blt d n=true)
  (k:∀ v w',R v w'→TL P n ops rest ((d,v)::e) w' Q) :
  TL P n ops (⟨some d,.call ⟨.value (.func f),xs.toArray,a0⟩,ty,pos,aft,none⟩::rest) e w Q:=TL.mk λ a ha =>
 wpListIn_plain rfl λ K hK=>by
  have hr:(execOp a.eval ⟨some d,.call ⟨.value (.func f),xs.toArray,a0⟩,ty,pos,aft,none⟩).run P w=.ok (.enter f vs.toArray) w:=by
   have:=argsV_eval ha xs vs hx;simp [execOp,resolve,Act.eval,Deferred.ofValue,invoke,lE] at this ⊢;exact this
  refine Oper.wpFR _ (.inr (.inr (.inl ⟨_,_,_,hr,Calls.mono hc ?_⟩)));rintro x w' ⟨v,rfl,hv⟩;exact ⟨v,rfl,hK _ _ ((k v w' hv).out (ha.put hd v))⟩
theorem aC {t a0 size bytes:Nat} {x i:Operand} {a:Option Addr} {m c j:Nat} {kd:IntKind} {z:Int} [ht:SliceTy P t a0 size bytes] (hx:val e x=some (.slice a m c)) (hi:val e i=some (.int kd z))
  (hz:z=(j:Int)) (hj:j<m) {o':Nat} (ho:j*size=o') (hs:∃ F cs,Sl F w size a m c cs) (hd:Nat.blt d n=true)
  (k:TL P n ops rest ((d,.pointer (some (at' a o')))::e) w Q):TL P n ops (⟨some d,.indexAddr t x i,ty,pos,aft,none⟩::rest) e w Q :=
 TL.run (λ r hr=>by
  obtain ⟨F,cs,hs⟩:=hs;subst ho
  cases a with
  | none=>have:=hs.nil rfl;have:=hs.cap;omega
  | some p =>
   obtain ⟨b,o,s⟩:=p
   have hne:cs≠[]:=by
    rintro rfl;have h2:=hs.len;obtain ⟨_,_,_,_,_,_,_,h3⟩:=ht.info;simp only [List.length_nil] at h2;have:=Nat.mul_pos (show 0<m by omega) (Nat.pos_of_ne_zero h3);omega
   have h1:s=none:=(hs.row hne).1;subst h1;subst hz
   simp [execOp,hr.eval hx,hr.eval hi,Instr.indexAt,asIntOf,underlying,ht.und,ht.size,Nat.not_le.2 hj,Addr.add_lit,at']) hd k
theorem cR {k:IntKind} {z:Int} {j y:Nat} {code:BoundsCode} (hz:z=(j:Int)) (hj:j≤y) (w:World):(Instr.sliceBound (.int k z) y code).run P w=.ok j w:=by
 subst hz;have:(j:Int)≤(y:Int):=by omega
 simp [Instr.sliceBound,asIntOf,this]
def bnd (e:dI):Option Operand→Nat→Nat→Prop
 | none,j,dflt=>j=dflt
 | some x,j,_=>∃ k z,val e x=some (.int k z)∧z=(j:Int)
theorem aP (j:Nat):bnd e none j j:=rfl
theorem bI {x:Operand} {k:IntKind} {z:Int} {j a0:Nat} (h:val e x=some (.int k z)) (hz:z=(j:Int)):bnd e (some x) j a0:=⟨k,z,h,hz⟩
theorem TL.slice {t f0 size bytes:Nat} {x:Operand} {lo hi mx:Option Operand} {F:Nat→Prop} {a:Option Addr} {m c l h mm:Nat} {cs:List Value} [ht:SliceTy P t f0 size bytes]
  (hx:val e x=some (.slice a m c)) (hs:Sl F w size a m c cs) (hl:bnd e lo l 0) (hh:bnd e hi h m) (hm:bnd e mx mm c) (g0:hi=none→mx=none) (b1:l≤h) (b2:h≤m) (b3:h≤mm) (b4:mm≤c) (hd:Nat.blt d n=true)
  (k:∀ a',Sl F w size a' (h-l) (mm-l) ((cs.drop (l*size)).take ((h-l)*size))→(a'=none↔a=none)→TL P n ops rest ((d,.slice a' (h-l) (mm-l))::e) w Q) :
  TL P n ops (⟨some d,.slice t x lo hi mx,ty,pos,aft,none⟩::rest) e w Q:=by
 have j0:∀ r,Fits n e r→(Instr.sliceBounds true m c (lo.map r.eval) (hi.map r.eval) (mx.map r.eval)).run P w=.ok (l,h,mm) w:=by
  intro r hr
  cases lo with
  | none =>
   simp only [bnd] at hl;subst hl
   cases hi with
   | none =>
    have h0:=g0 rfl;subst h0
    simp only [bnd] at hh hm;subst hh;subst hm
    simp [Instr.sliceBounds]
   | some y =>
    obtain ⟨k2,z2,v2,e2⟩:=hh
    cases mx with
    | none=>simp only [bnd] at hm;subst hm;simp [Instr.sliceBounds,hr.eval v2,cR e2 b3]
    | some u=>obtain ⟨k3,z3,v3,e3⟩:=hm;simp [Instr.sliceBounds,hr.eval v2,hr.eval v3,cR e2 b3,cR e3 b4]
  | some x1 =>
   obtain ⟨k1,z1,v1,e1⟩:=hl
   cases hi with
   | none =>
    have h0:=g0 rfl;subst h0
    simp only [bnd] at hh hm;subst hh;subst hm
    simp [Instr.sliceBounds,hr.eval v1,cR e1 b1]
   | some y =>
    obtain ⟨k2,z2,v2,e2⟩:=hh
    cases mx with
    | none=>simp only [bnd] at hm;subst hm;simp [Instr.sliceBounds,hr.eval v1,hr.eval v2,cR e2 b3,cR e1 b1]
    | some u=>obtain ⟨k3,z3,v3,e3⟩:=hm;simp [Instr.sliceBounds,hr.eval v1,hr.eval v2,hr.eval v3,cR e2 b3,cR e3 b4,cR e1 b1]
 have e0:((cs.drop (l*size)).take ((h-l)*size)).length=(h-l)*size:=by
  rw [List.length_take,List.length_drop,hs.len,← Nat.sub_mul];exact Nat.min_eq_left (Nat.mul_le_mul_right _ oM)
 refine TL.run (v:=.slice (if mm=l then a else a.map (·.add (l*size))) (h-l) (mm-l)) (w':=w) (λ r hr=>?_) hd (k _ ⟨e0,oM,by have:=hs.max;omega,?_,?_⟩ ?_)
 ·simp [execOp,hr.eval hx,Instr.sliceAt,underlying,ht.und,Instr.slice,j0 r hr,ht.size]
 ·intro h0;split at h0
  ·have:=hs.nil h0;omega
  ·have:=hs.nil (by simpa using h0);omega
 ·have a0:=hs.row;split
  ·rename_i k0;have:(h-l)=0:=by omega
   rw [this]
   cases a with
   | none=>simp [Row]
   | some p=>exact λ hn=>by simp at hn
  ·cases a with
   | none=>simp only [Row] at a0;subst a0;simp [Row]
   | some p =>
    obtain ⟨b,o,s⟩:=p;intro i0;obtain ⟨h1,h2,h3,h4⟩:=a0 (by rintro rfl;simp at i0);simp only at h1;subst h1
    simp only [Addr.add_lit];refine ⟨trivial,h2,h3,λ j v hj=>?_⟩;rw [List.getElem?_take] at hj;split at hj
    ·rw [List.getElem?_drop] at hj;have:=h4 (l*size+j) v hj;simpa [Nat.add_assoc] using this
    ·cases hj
 ·split
  ·exact Iff.rfl
  ·simp
theorem TL.append {t e0 size bytes:Nat} {x y:Operand} {base m k0 c:Nat} {v:Value} {xs a0:List Value} {F:Nat→Prop} {a:Option Addr} [ht:SliceTy P t e0 size bytes]
  (hx:val e x=some v) (hy:val e y=some (.slice a m c)) (g0:w.ownsRow base e0 size v k0 xs) (hs:Sl F w size a m c a0) (h1:∀ u∈a0,u.oneCell'=true)
  (p0:k0+m≤maxLen) (h0:(k0+m)*bytes≤140737488355328) (j0:base≤w.heap.size) (hd:Nat.blt d n=true)
  (k:∀ v' w',w'.ownsRow base e0 size v' (k0+m) (xs++a0)→w.grownBy w' v.ownBlock→(v'=.slice none 0 0↔v=.slice none 0 0∧m=0)→TL P n ops rest ((d,v')::e) w' Q) :
  TL P n ops (⟨some d,.call ⟨.builtin .append,#[x,y],#[t,t]⟩,ty,pos,aft,none⟩::rest) e w Q:=by
 obtain ⟨i,z,hi,m0,o0,hz,l0,n0⟩:=ht.info
 cases a with
 | none =>
  have hm:=hs.cap;have hc:=hs.nil rfl;have hn:m=0:=by omega
  subst hn;subst hc;have i0:a0=[]:=List.eq_nil_of_length_eq_zero (by simpa using hs.len);subst i0;have f0:=run_append_owned_none (P:=P) (w:=w) base t ty e0 i size ht.und hi v k0 xs g0;refine TL.run (v:=v) (w':=w) (λ r hr=>?_) hd (k v w (by simpa using g0) (World.grownBy.refl _ _) sM);simp [execOp,resolve,invoke,builtin,hr.eval hx,hr.eval hy,f0]
 | some ad =>
  obtain ⟨v',w',f0,h2,h3,h4⟩:=run_append_own (P:=P) w base t ty e0 i z size bytes ht.und hi hz m0 o0 l0 (Nat.pos_of_ne_zero n0) v k0 xs g0 ad m c a0 hs.len (hs.row.cell_add rfl) h1 p0 h0 j0;refine TL.run (v:=v') (w':=w') (λ r hr=>?_) hd (k v' w' h2 h3 h4);simp [execOp,resolve,invoke,builtin,hr.eval hx,hr.eval hy,f0]
theorem run_eqNil {t e:TypeId} {a:Option Addr} {m c:Nat} (h:P.underlying t=some (.slice e)) (w:World):(binOp .eql t (.slice a m c) (.slice none 0 0)).run P w=.ok (.bool a.isNone) w:=by
 simp only [binOp];simp [Op.equal,Op.maxDepth,Lib.run_equalIn_slice_nil w 9999 t e a m c 0 0 h]
def boolB (P:Program) (t:TypeId):Bool:=match P.underlying t with|some .bool=>true|_=>false
class BoolTy (P:Program) (t:TypeId):Prop where
 h:boolB P t=true
theorem BoolTy.und {t:TypeId} (h:BoolTy P t):P.underlying t=some .bool:=by
 have h:=h.h;unfold boolB at h;split at h
 ·assumption
 ·cases h
theorem TL.eqNil {t a0 size bytes:Nat} {x y:Operand} {a:Option Addr} {m c:Nat} {t2:TypeId} [ht:SliceTy P t a0 size bytes] (hx:val e x=some (.slice a m c)) (hy:val e y=some (.slice none 0 0)) (hd:Nat.blt d n=true)
  (k:TL P n ops rest ((d,.bool a.isNone)::e) w Q):TL P n ops (⟨some d,.binOp .eql t x y t2,ty,pos,aft,none⟩::rest) e w Q :=
 TL.run (λ r hr=>by
  have hg:eqGuard .eql t x y (.slice a m c) (.slice none 0 0)=Pure.pure ():=rfl;simp only [execOp,hr.eval hx,hr.eval hy,hg]
  simp [run_eqNil ht.und]) hd k
theorem TL.neNil {t a0 size bytes:Nat} {x y:Operand} {a:Option Addr} {m c:Nat} {t2:TypeId} [ht:SliceTy P t a0 size bytes] (hx:val e x=some (.slice a m c)) (hy:val e y=some (.slice none 0 0)) (hd:Nat.blt d n=true)
  (k:TL P n ops rest ((d,.bool (!a.isNone))::e) w Q):TL P n ops (⟨some d,.binOp .neq t x y t2,ty,pos,aft,none⟩::rest) e w Q :=
 TL.run (λ r hr=>by
  have hg:eqGuard .neq t x y (.slice a m c) (.slice none 0 0)=Pure.pure ():=rfl;simp only [execOp,hr.eval hx,hr.eval hy,hg]
  simp [run_neq_slice_nil_any w t a0 a m c 0 0 ht.und]) hd k
theorem run_append_empty {t e0 size bytes:Nat} (ht:SliceTy P t e0 size bytes) {ty':TypeId} {base m c:Nat} {a0 a:Option Addr} {f0:List Value} {F:Nat→Prop}
  (i0:w.ownsRow base e0 size (.slice a0 0 0) 0 []) (hs:Sl F w size a m c f0) (h1:∀ u∈f0,u.oneCell'=true) (g0:m*bytes≤140737488355328) (h0:base≤w.heap.size) :
  ∃ v' w',(Builtin.append_ #[t,t] ty' #[.slice a0 0 0,.slice a m c]).run P w=.ok v' w'∧w'.ownsRow base e0 size v' m f0∧Grow w w':=by
 obtain ⟨i,z,hi,m0,n0,hz,l0,p0⟩:=ht.info;have o0:m≤maxLen:=Nat.le_trans hs.cap hs.max;have t0:m≤9223372036854775807:=by simp only [maxLen] at o0;omega
 by_cases hm:m=0
 ·subst hm;have hn:f0=[]:=List.eq_nil_of_length_eq_zero (by simpa using hs.len);subst hn;refine ⟨.slice a0 0 0,w,?_,i0,Grow.refl _⟩;cases a0<;>cases a<;>simp [Builtin.append_,run_underlying ht.und,sizeOf,typeInfo,hi,Builtin.lenOf,Builtin.firstCells,loadCells,loadCellsFrom,storeCells]
 ·cases a with
  | none=>have:=hs.nil rfl;have:=hs.cap;omega
  | some ad =>
   have hl:=hs.len;rw [← m0] at hl
   cases a0 with
   | none =>
    obtain ⟨v',w',k0,h2,h3,h4⟩:=run_append_own (P:=P) w base t ty' e0 i z size bytes ht.und hi hz m0 n0 l0 (Nat.pos_of_ne_zero p0) _ 0 [] i0 ad m c f0 hs.len (hs.row.cell_add rfl) h1 oM (by simpa using g0) h0;refine ⟨v',w',k0,by simpa using h2,Grow.mk ⟨h3.os,h3.tape,h3.output,h3.size,λ k hk=>h3.block k hk (by simp [Value.ownBlock])⟩⟩
   | some b0 =>
    have j0:=growslice_fits (need:=m) (old:=0) (bytes:=bytes) oM g0;rw [← n0] at j0;have hr:=run_append_grow (P:=P) w t ty' e0 i z ht.und hi hz b0 0 0 [] sM sM ad m c f0 hl (hs.row.cell_add rfl) oM oM (by simpa using j0);have q0:=grownCap_ge w m 0 e0;have s0:grownCap w m 0 e0≤maxLen:=grownCap_le_maxLen w m 0 e0 o0;simp only [Nat.zero_add,Array.empty_append] at hr;refine ⟨_,_,hr,⟨hs.len,.inr ⟨w.heap.size,_,_,rfl,h0,heap_alloc_new w.drew _,q0,s0,?_,?_⟩⟩,Grow.mk ⟨rfl,rfl,rfl,sM,λ k hk=>Below.heap_alloc w.drew _ k hk⟩⟩
    ·simp only [Array.size_append,List.size_toArray,List.length_nil,size_zeroCells,l0,hs.len,Nat.zero_add,← Nat.add_mul];congr 1
     omega
    ·simp only [Array.toList_append,← hs.len];exact List.take_left
theorem kU {t g0 size bytes:Nat} {x y:Operand} {base m c:Nat} {a0 a:Option Addr} {e0:List Value} {F:Nat→Prop} [ht:SliceTy P t g0 size bytes]
  (hx:val e x=some (.slice a0 0 0)) (hy:val e y=some (.slice a m c)) (j0:w.ownsRow base g0 size (.slice a0 0 0) 0 []) (hs:Sl F w size a m c e0) (h1:∀ u∈e0,u.oneCell'=true)
  (f0:m*bytes≤140737488355328) (h0:base≤w.heap.size) (hd:Nat.blt d n=true)
  (k:∀ v' w',w'.ownsRow base g0 size v' m e0→Grow w w'→TL P n ops rest ((d,v')::e) w' Q) :
  TL P n ops (⟨some d,.call ⟨.builtin .append,#[x,y],#[t,t]⟩,ty,pos,aft,none⟩::rest) e w Q:=by
 obtain ⟨v',w',i0,h2,h3⟩:=run_append_empty ht (ty':=ty) j0 hs h1 f0 h0;refine TL.run (v:=v') (w':=w') (λ r hr=>?_) hd (k v' w' h2 h3);simp [execOp,resolve,invoke,builtin,hr.eval hx,hr.eval hy,i0]
theorem eI {base e0 size b:Nat} (hb:Blk w b e0 []) (a0:base≤b):w.ownsRow base e0 size (.slice (some ⟨b,0,none⟩) 0 0) 0 [] :=
 ⟨sM,.inr ⟨b,0,#[],rfl,a0,by simpa [Blk] using hb,Nat.le_refl _,Nat.zero_le _,sM,sM⟩⟩
theorem own_lit {base e0 size b m:Nat} {cs:List Value} (hb:Blk w b e0 cs) (a0:base≤b) (hl:cs.length=m*size) (hm:m≤maxLen):w.ownsRow base e0 size (.slice (some ⟨b,0,none⟩) m m) m cs :=
 ⟨hl,.inr ⟨b,m,cs.toArray,rfl,a0,by simpa [Blk] using hb,Nat.le_refl _,hm,by simp [hl],by simp [← hl]⟩⟩
def partsV (f:Operand→Option Value):List (Nat×Operand)→Option (List (Nat×Value))
 | []=>some []
 | (i,x)::r=>match f x,partsV f r with
  | some v,some vs=>some ((i,v)::vs)
  | _,_=>none
theorem mJ {r:Act} (hr:Fits n e r):∀ (ps:List (Nat×Operand)) (vs:List (Nat×Value)),partsV (val e) ps=some vs→ps.map (λ (p:Nat×Operand)=>(p.1,r.eval p.2))=vs
 | [],vs,h=>by simp only [partsV,Option.some.injEq] at h;subst h;rfl
 | (i,x)::ps,vs,h=>by
  simp only [partsV] at h;split at h
  ·rename_i v vs' h1 h2;simp only [Option.some.injEq] at h;subst h;simp [hr.eval h1,mJ hr ps vs' h2]
  ·cases h
def fillV (ps:List (Nat×Nat)):List Value→List (Nat×Value)→Option (List Value)
 | cs,[]=>some cs
 | cs,(i,v)::r=>match ps[i]? with
  | some (off,sz)=>bif Nat.beq v.cells.size sz&&Nat.ble (off+v.cells.toList.length) cs.length then fillV ps (iJ cs off v.cells.toList) r else none
  | none=>none
theorem length_putAt:∀ (vs:List Value) (cs:List Value) (o:Nat),(iJ cs o vs).length=cs.length
 | [],_,_=>rfl
 | v::vs,cs,o=>by simp [iJ,length_putAt vs]
theorem foldl_set_eq (a0:Nat):∀ (vs:List Value) (k:Nat) (cs:List Value),
  ((vs.zipIdx k).foldl (λ cs (x:Value×Nat)=>cs.setIfInBounds (a0+x.2) x.1) cs.toArray)=(iJ cs (a0+k) vs).toArray
 | [],_,_=>rfl
 | v::vs,k,cs=>by
  simp only [List.zipIdx_cons,List.foldl_cons,List.setIfInBounds_toArray,iJ];rw [foldl_set_eq a0 vs (k+1) (cs.set (a0+k) v)];rw [show a0+k+1=a0+(k+1) by omega]
theorem fill_eq {ps:List (Nat×Nat)} {pl:Nat→Option (Nat×Nat)} (e0:∀ i x,ps[i]? = some x→pl i=some x):∀ (parts:List (Nat×Value)) (cs a0:List Value),fillV ps cs parts=some a0 →
  Instr.fill pl cs.toArray parts=some a0.toArray
 | [],cs,a0,h=>by simp only [fillV,Option.some.injEq] at h;subst h;rfl
 | (i,v)::r,cs,a0,h=>by
  simp only [fillV] at h
  cases hp:ps[i]? with
  | none=>rw [hp] at h;cases h
  | some x =>
   obtain ⟨off,sz⟩:=x;rw [hp] at h;simp only [cond_eq_ite] at h;split at h
   ·rename_i hc;simp only [Bool.and_eq_true] at hc;have h1:=Nat.eq_of_beq_eq_true hc.1;have h2:=Nat.le_of_ble_eq_true hc.2;simp only [Instr.fill,e0 i _ hp];have h3:v.cells.toList.length=v.cells.size:=by simp
    rw [if_neg (by simp [h1];rw [h3,h1] at h2;exact h2)];have:=foldl_set_eq off v.cells.toList 0 cs;rw [Nat.add_zero] at this
    have e2:v.cells.zipIdx.foldl (λ cs (x:Value×Nat)=>cs.setIfInBounds (off+x.2) x.1) cs.toArray=(iJ cs off v.cells.toList).toArray:=by
     rw [← this,← Array.foldl_toList];congr 1
     simp
    simp only [e2];exact fill_eq e0 r _ _ h
   ·cases h
def placesB (P:Program) (t:TypeId) (ps:List (Nat×Nat)):Bool :=
 match P.underlying t with
 | some (.struct fs)=>fs.toList.map (λ f=>(f.offset,((P.info? f.type).map (·.size)).getD 0))==ps&&fs.all λ f=>(P.info? f.type).isSome
 | _=>false
class Places (P:Program) (t:TypeId) (ps:outParam (List (Nat×Nat))):Prop where
 h:placesB P t ps=true
theorem Places.run {P:Program} {t:TypeId} {ps:List (Nat×Nat)} (h:Places P t ps):∃ fs,P.underlying t=some (.struct fs)∧∀ w,(fs.mapM λ f=>do pure (f.offset,← sizeOf f.type):Sem (Array (Nat×Nat))).run P w=.ok ps.toArray w:=by
 have h:=h.h;unfold placesB at h;split at h
 ·rename_i fs hu;refine ⟨fs,hu,λ w=>?_⟩;simp only [Bool.and_eq_true,beq_iff_eq] at h;obtain ⟨h1,h2⟩:=h;rw [Array.mapM_eq_foldlM]
  have key:∀ (l:List Field) (a0:Array (Nat×Nat)),(∀ f∈l,(P.info? f.type).isSome=true) →
    (l.foldlM (λ bs f=>bs.push <$> (do pure (f.offset,← sizeOf f.type):Sem (Nat×Nat))) a0).run P w=.ok (a0++(l.map (λ f=>(f.offset,((P.info? f.type).map (·.size)).getD 0))).toArray) w:=by
   intro l
   induction l with
   | nil=>intro a0 _;simp
   | cons f l ih =>
    intro a0 hl;obtain ⟨i,hi⟩:=Option.isSome_iff_exists.1 (hl f sM);simp only [List.foldlM_cons,Sem.run_bind,Sem.run_map,sizeOf,typeInfo,run_program,Result.andThen_ok,hi,Sem.run_pure];have:=ih (a0.push (f.offset,i.size)) (λ g hg=>hl g (by simp [hg]));simp only [sizeOf,typeInfo] at this;rw [this];simp [hi]
  have:=key fs.toList #[] (λ f hf=>by
   have:=Array.all_eq_true_iff_forall_mem.1 h2 f (by simpa using hf)
   exact this)
  rw [← Array.foldlM_toList];rw [this,h1];simp
 ·cases h
theorem TL.build {t:TypeId} {z:Value} {ps:List (Nat×Nat)} {parts:List (Nat×Operand)} {vs:List (Nat×Value)} {cs:List Value} [hz:Zero P t z] [hp:Places P t ps]
  (hx:partsV (val e) parts=some vs) (hf:fillV ps z.cells.toList vs=some cs) (hd:Nat.blt d n=true)
  (k:TL P n ops rest ((d,.agg cs.toArray)::e) w Q):TL P n ops (⟨some d,.build t parts.toArray,ty,pos,aft,none⟩::rest) e w Q:=by
 obtain ⟨fs,hu,e0⟩:=hp.run;refine TL.run (λ r hr=>?_) hd k
 have f0:parts.toArray.map (λ (i,x)=>(i,r.eval x))=vs.toArray:=by
  simp [mJ hr parts vs hx]
 have a0:Instr.fill (ps.toArray[·]?) z.cells vs=some cs.toArray:=fill_eq (pl:=(ps.toArray[·]?)) (by intro i x h;simpa using h) vs _ cs hf;simp only [execOp,f0,Instr.build,hz.run,underlying,hu,Sem.run_bind,run_program,Result.andThen_ok,Sem.run_pure];rw [e0 w];simp only [Result.andThen_ok,a0,Sem.run_pure]
theorem TL.buildSlice0 {t a0 size bytes:Nat} [ht:SliceTy P t a0 size bytes] (hd:Nat.blt d n=true)
  (k:∀ b w',Grow w w'→Blk w' b a0 []→w.heap.size=b→w'.heap.size=b+1→TL P n ops rest ((d,.slice (some ⟨b,0,none⟩) 0 0)::e) w' Q) :
  TL P n ops (⟨some d,.buildSlice t 0 #[],ty,pos,aft,none⟩::rest) e w Q:=by
 refine TL.run (v:=.slice (some ⟨w.heap.size,0,none⟩) 0 0) (w':=w.alloc (.cells #[] a0)) (λ r hr=>?_) hd (k _ _ (lZ _) (blk_alloc [] a0) rfl sM);have e0:Array.map (λ _=>(default:Value)) (Array.range 0) = #[]:=by apply Array.ext';simp
 simp [execOp,Instr.buildSlice,underlying,ht.und,ht.size,Instr.fill];rw [e0];simp [newRow]
theorem TL.buildSlice {t f0 size bytes len:Nat} {parts:List (Nat×Operand)} {vs:List (Nat×Value)} {zs cs:List Value} {z:Value} [ht:SliceTy P t f0 size bytes] [hz:Zero P f0 z]
  (hx:partsV (val e) parts=some vs) (g0:zs=(List.range (len*size)).map (λ i=>z.cells[i%z.cells.size]!)) (hf:fillV ((List.range len).map λ i=>(i*size,size)) zs vs=some cs)
  (hl:Nat.ble (len*size) 16777216=true) (hd:Nat.blt d n=true)
  (k:∀ b w',Grow w w'→Blk w' b f0 cs→w.heap.size=b→w'.heap.size=b+1→cs.length=len*size→TL P n ops rest ((d,.slice (some ⟨b,0,none⟩) len len)::e) w' Q) :
  TL P n ops (⟨some d,.buildSlice t len parts.toArray,ty,pos,aft,none⟩::rest) e w Q:=by
 have l0:∀ r,Fits n e r→parts.toArray.map (λ (i,x)=>(i,r.eval x))=vs.toArray:=by
  intro r hr;simp [mJ hr parts vs hx]
 have i0:∀ (vs:List (Nat×Value)) (ps:List (Nat×Nat)) (a b:List Value),fillV ps a vs=some b→b.length=a.length:=by
  intro vs ps
  induction vs with
  | nil=>intro a b h;simp only [fillV,Option.some.injEq] at h;rw [h]
  | cons p vs ih =>
   intro a b h;obtain ⟨i,v⟩:=p;simp only [fillV] at h;split at h
   ·simp only [cond_eq_ite] at h;split at h
    ·rw [ih _ _ h,length_putAt]
    ·cases h
   ·cases h
 have n0:cs.length=len*size:=by rw [i0 _ _ _ _ hf,g0];simp
 refine TL.run (v:=.slice (some ⟨w.heap.size,0,none⟩) len len) (w':=w.alloc (.cells cs.toArray f0)) (λ r hr=>?_) hd (k _ _ (lZ _) (blk_alloc cs f0) rfl sM n0)
 have a0:Instr.fill (λ i=>some (i*size,size)) zs.toArray vs=some cs.toArray:=fill_eq (pl:=λ i=>some (i*size,size)) (by
  intro i x h;simp only [List.getElem?_map] at h
  cases hr:(List.range len)[i]? with
  | none=>simp [hr] at h
  | some j =>
   have:j=i:=by simpa using (List.getElem?_eq_some_iff.1 hr).2.symm
   simp [hr,this] at h
   rw [← h]) vs _ cs hf
 have o0:=Nat.le_of_ble_eq_true hl;have m0:¬ (2^24<len*size):=by omega
 have j0:zs.toArray=(Array.range (len*size)).map (λ i=>z.cells[i%z.cells.size]!):=by
  rw [g0];apply Array.ext';simp
 simp only [execOp,l0 r hr,Instr.buildSlice,underlying,ht.und,ht.size,Sem.run_bind,run_program,Result.andThen_ok,Sem.run_pure,gt_iff_lt,if_neg m0];by_cases h0:len*size=0
 ·have k0:zs=[]:=by rw [g0,h0];rfl
  subst k0;have e0:Array.map (λ _=>(default:Value)) (Array.range 0) = #[]:=by apply Array.ext';simp
  simp [h0];rw [e0,a0];simp [newRow]
 ·simp only [h0,if_false,Sem.run_bind,hz.run,Result.andThen_ok,Sem.run_pure];rw [j0] at a0;simp [a0,newRow]
end rules
end Go.V
