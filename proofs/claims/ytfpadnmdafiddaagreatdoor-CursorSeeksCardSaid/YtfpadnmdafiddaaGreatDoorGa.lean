import Derived.Test.YtfpadnmdafiddaaGreatDoorG0
import Derived.WalkKit
import Derived.WalkSpells
import Derived.WalkLawsBesides
import Derived.RangeFuncLeaves
import Derived.RangeFuncRecord
import Derived.OrdersIn
import Derived.Test.YtfpadnmdafiddaaGreatDoorRows
import Derived.ProofKit
import Derived.OpenShut
import Derived.ShutString
import Derived.ChangeOld
import Derived.Below
import Derived.Lib.SmallJoins
import Derived.Stop.BytesEq
import Derived.Laws.Externs
import Derived.Test.YtfpadnmdafiddaaGreatDoorProg
import Derived.KernelRfl
import Derived.RowKit
import GoSem.Claim
set_option linter.all false
set_option maxHeartbeats 16000000
set_option maxRecDepth 100000
namespace Go.V
open Go Go.RowKit
abbrev dJ:=List (Nat×Value)
abbrev dI:=Exit→dJ→World→Prop
def find:dJ→Nat→Option Value
 | [],_=>none
 | (k,v)::r,t=>bif Nat.beq k t then some v else find r t
def val (e:dJ):Operand→Option Value
 | .tmp t=>find e t
 | .const v=>some v
 | .global g=>some (.pointer (some ⟨g,0,none⟩))
 | .func f=>some (.func (.func f) #[] #[])
class Rn where
 ro:Option Nat
 ds:List Deferred
 lo:Nat
instance (priority:=low) Rn.plain:Rn:=⟨none,[],0⟩
def mkD (r:Nat):Deferred:={ target:=.collected r,args:=#[] }
def shut:List Nat→World→World
 | [],w=>w
 | r::rs,w=>shut rs (w.putObj r (.deferred none))
theorem shut_append:∀ (l l':List Nat) (w:World),shut (l++l') w=shut l' (shut l w)
 | [],_,_=>rfl
 | r::l,l',w=>shut_append l l' (w.putObj r (.deferred none))
theorem shut_other:∀ {l:List Nat} {w:World} {b:Nat},b∉l→(shut l w).heap[b]? = w.heap[b]?
 | [],_,_,_=>rfl
 | r::l,w,b,h=>by
  simp only [List.mem_cons,not_or] at h;simp only [shut];rw [shut_other h.2,World.putObj_heap_other h.1]
def FR (ro:Option Nat):Fence:={ Fence.wide with round:=ro }
theorem calls_fr {P:Program} {ro:Option Nat} {f:FuncId} {args:Array Value} {w:World} {Φ : Ending→World→Prop} (h:Calls P f args w Φ):CallsIn (FR ro) 0 P f args w Φ :=
 (callsIn_wide (n:=0)).2 h
theorem calls_fr1 {P:Program} {ro:Option Nat} {f:FuncId} {args:Array Value} {w:World} {Φ : Ending→World→Prop} (h:CallsIn (FR ro) 0 P f args w Φ):Calls P f args w Φ :=
 (callsIn_wide (n:=0)).1 h
theorem semAt_run {P:Program} {ρ : Operand→Value} {o:Oper} {w:World} {r:Result Next} (hr:(execOp ρ o).run P w=r) (hd:∀ d w',r≠.ok (.defer d) w') (hh:∀ x w',r≠.halt x w') (ro:Option Nat):o.semAt ro ρ = execOp ρ o:=by
 refine Oper.semAt_eq ro ρ o λ c hc=>?_;unfold execOp at hr;rw [hc] at hr;simp only [Sem.run_bind] at hr
 cases hx:(resolve ρ c o.type).run P w with
 | ok d w'=>rw [hx] at hr;exact hd _ _ hr.symm
 | halt x w'=>rw [hx] at hr;exact hh _ _ hr.symm
theorem Oper.wpFR {P:Program} {o:Oper} {a:Act} {w:World} {K:Act→World→Prop} {Q:Exit→Act→World→Prop} (ro:Option Nat)
  (h:(∃ v w',(execOp a.eval o).run P w=.ok (.value v) w'∧K (a.put o.dst v) w')∨(∃ w',(execOp a.eval o).run P w=.ok .skip w'∧K (a.put o.dst undef) w') ∨
   (∃ f args w',(execOp a.eval o).run P w=.ok (.enter f args) w'∧Calls P f args w' λ e w''=>∃ v,e=.returned v∧K (a.put o.dst v) w'') ∨
   (∃ l f tmps x y w',(execOp a.eval o).run P w=.ok (.round l f tmps x y) w'∧RoundIn Fence.wide 0 P l f tmps x y w' λ e w''=>∃ v,e=.returned v∧K (a.put o.dst v) w'')):o.wpIn (FR ro) 0 P a w K Q:=by
 refine ⟨λ _ _=>trivial,?_⟩;show o.uponIn (FR ro) 0 P a K Q ((o.semAt ro a.eval).run P w);rcases h with ⟨v,w',hr,hk⟩|⟨w',hr,hk⟩|⟨f,args,w',hr,hk⟩|⟨l,f,tmps,x,y,w',hr,hk⟩
 ·rw [semAt_run hr sM sM ro,hr];exact hk
 ·rw [semAt_run hr sM sM ro,hr];exact hk
 ·rw [semAt_run hr sM sM ro,hr];refine ⟨(λ h=>by cases h),calls_fr (Calls.mono hk ?_)⟩;rintro x w'' ⟨v,rfl,hv⟩;exact hv
 ·rw [semAt_run hr sM sM ro,hr];have hk2:RoundIn (FR ro) 0 P l f tmps x y w' λ e w''=>∃ v,e=.returned v∧K (a.put o.dst v) w'':=hk;refine ⟨(λ h=>by cases h),RoundIn.mono hk2 ?_⟩;rintro x w'' ⟨v,rfl,hv⟩;exact hv
section
variable [Rn]
structure Fits (n:Nat) (e:dJ) (a:Act):Prop where
 defers:a.defers=Rn.ds
 size:a.tmps.size=n
 get:∀ t v,find e t=some v→a.tmps.getD t undef=v
theorem Fits.eval {n:Nat} {e:dJ} {a:Act} (h:Fits n e a) {x:Operand} {v:Value} (hv:val e x=some v):a.eval x=v:=by
 cases x with
 | tmp t=>exact h.get t v hv
 | const u=>exact Option.some.inj hv
 | global g=>exact Option.some.inj hv
 | func f=>exact Option.some.inj hv
theorem fT (k:Nat) (v:Value) (e:dJ) (t:Nat):find ((k,v)::e) t=if k=t then some v else find e t:=by
 simp only [find]
 cases h:Nat.beq k t with
 | true=>simp [Nat.eq_of_beq_eq_true h]
 | false=>simp [Nat.ne_of_beq_eq_false h]
theorem Fits.put {n:Nat} {e:dJ} {a:Act} (h:Fits n e a) {d:Nat} (hd:Nat.blt d n=true) (v:Value):Fits n ((d,v)::e) (a.put (some d) v):=by
 have hlt:d<a.tmps.size:=by rw [h.size];exact Nat.le_of_ble_eq_true hd
 refine ⟨h.defers,by simp [Act.put,h.size],λ t u hu=>?_⟩;rw [fT] at hu;by_cases ht:d=t
 ·subst ht;simp only [if_true,Option.some.injEq] at hu;subst hu;simp [Act.put,hlt]
 ·rw [if_neg ht] at hu;have:=h.get t u hu;simp only [Act.put];simp only [Array.getD_eq_getD_getElem?] at this ⊢;rw [Array.getElem?_setIfInBounds_ne ht];exact this
theorem Fits.same {n:Nat} {e:dJ} {a:Act} (h:Fits n e a) {t:Nat} {u v:Value} (hf:find e t=some u) (huv:u=v):Fits n ((t,v)::e) a:=by
 refine ⟨h.defers,h.size,λ s x hx=>?_⟩;rw [fT] at hx;by_cases hs:t=s
 ·subst hs;simp only [if_true,Option.some.injEq] at hx;subst hx;subst huv
  exact h.get t u hf
 ·rw [if_neg hs] at hx;exact h.get s x hx
def Sub:dJ→dJ→Prop
 | [],_=>True
 | (k,v)::r,e=>find e k=some v∧Sub r e
theorem Sub.find {e' e:dJ} (h:Sub e' e) {t:Nat} {v:Value} (hv:find e' t=some v):find e t=some v:=by
 induction e' with
 | nil=>cases hv
 | cons p r ih =>
  obtain ⟨k,u⟩:=p;rw [fT] at hv;by_cases hk:k=t
  ·subst hk;simp only [if_true,Option.some.injEq] at hv;subst hv;exact h.1
  ·rw [if_neg hk] at hv;exact ih h.2 hv
theorem Fits.sub {n:Nat} {e' e:dJ} {a:Act} (h:Fits n e a) (hs:Sub e' e):Fits n e' a :=
 ⟨h.defers,h.size,λ t v hv=>h.get t v (hs.find hv)⟩
structure FitsR (n:Nat) (e:dJ) (a:Act) (w:World) (ms:List Nat):Prop where
 defers:a.defers=ms.map mkD++Rn.ds
 size:a.tmps.size=n
 get:∀ t v,find e t=some v→a.tmps.getD t undef=v
 nd:ms.Nodup
 blk:∀ r∈ms,Rn.lo≤r∧w.heap[r]? = some (.deferred (some []))
 rnd:Rn.ro=none∨ms=[]
def iL (n:Nat) (Q:dI):Exit→Act→World→Prop:=λ x a w=>match x with
 | .ret=>∃ e ms,FitsR n e a w ms∧Q .ret e (shut ms w)
 | x=>∃ e,Fits n e a∧Q x e w
theorem Fits.r {n:Nat} {e:dJ} {a:Act} {w:World} (h:Fits n e a):FitsR n e a w []:=⟨by simpa using h.defers,h.size,h.get,List.nodup_nil,(λ r hr=>by cases hr),.inr rfl⟩
theorem lift_of {n:Nat} {Q:dI} {x:Exit} {e:dJ} {a:Act} {w:World} (h:Fits n e a) (hq:Q x e w):iL n Q x a w:=by
 cases x<;>first|exact ⟨e,h,hq⟩|exact ⟨e,[],h.r,hq⟩
theorem lift_mono {n:Nat} {Q Q':dI} {x:Exit} {a:Act} {w:World} (h:iL n Q x a w) (hq:∀ e w,Q x e w→Q' x e w):iL n Q' x a w:=by
 cases x<;>first|(obtain ⟨e,he,h⟩:=h;exact ⟨e,he,hq _ _ h⟩)|(obtain ⟨e,ms,he,h⟩:=h;exact ⟨e,ms,he,hq _ _ h⟩)
theorem lift_no {n:Nat} {Q:dI} {x:Exit} {a:Act} {w:World} (h:iL n Q x a w) (hq:∀ e w,¬ Q x e w):False:=by
 cases x<;>first|(obtain ⟨e,he,h⟩:=h;exact hq _ _ h)|(obtain ⟨e,ms,he,h⟩:=h;exact hq _ _ h)
def T (P:Program) (n:Nat) (c:Code) (e:dJ) (w:World) (Q:dI):Prop:=∀ a,Fits n e a→c.wpIn (FR Rn.ro) 0 P (iL n Q) a w
def TL (P:Program) (n:Nat) (ops:Array Oper) (l:List Oper) (e:dJ) (w:World) (Q:dI):Prop:=∀ a,Fits n e a→wpListIn (FR Rn.ro) 0 P ops (iL n Q) l a w
def thenQ (P:Program) (n:Nat) (y:Code) (Q:dI):dI:=λ x e w =>
 match x with
 | .normal=>T P n y e w Q
 | x=>Q x e w
def loopQ {S:Type} (E:S→dJ) (J:S→World→Prop) (m:S→Nat) (s:S) (Q:dI):dI:=λ x e w =>
 match x with
 | .normal=>∃ s',Sub (E s') e∧J s' w∧m s'<m s
 | x=>Q x e w
def blockQ (id:Nat) (Q:dI):dI:=λ x e w =>
 match x with
 | .exit i=>bif Nat.beq i id then Q .normal e w else Q (.exit i) e w
 | x=>Q x e w
section rules
variable {P:Program} {n:Nat} {e:dJ} {w:World} {Q:dI}
theorem T.mono {c:Code} {Q':dI} (h:T P n c e w Q) (hq:∀ x e w,Q x e w→Q' x e w):T P n c e w Q' :=
 λ a ha=>wpIn_mono (h a ha) λ _ _ _ hx=>lift_mono hx λ e w h=>hq _ _ _ h
theorem bD {c:Code} {e':dJ} (h:T P n c e' w Q) (hs:Sub e' e):T P n c e w Q:=λ a ha=>h a (ha.sub hs)
theorem T.seq {x y:Code} (h:T P n x e w (thenQ P n y Q)):T P n (.seq x y) e w Q:=λ a ha =>
 wpIn_seq (wpIn_mono (h a ha) λ ex a w hx=>by
  cases ex<;>first|exact hx|(obtain ⟨e,he,hq⟩:=hx;exact hq a he))
theorem T.skip (h:Q .normal e w):T P n .skip e w Q:=λ _ ha=>wpIn_skip (lift_of ha h)
theorem T.exit {id:Nat} (h:Q (.exit id) e w):T P n (.exit id) e w Q:=λ _ ha=>wpIn_exit (lift_of ha h)
theorem T.ret (h:Q .ret e w):T P n .ret e w Q:=λ _ ha=>wpIn_ret (lift_of ha h)
theorem T.block {id:Nat} {c:Code} (h:T P n c e w (blockQ id Q)):T P n (.block id c) e w Q:=λ a ha =>
 wpIn_block (wpIn_mono (h a ha) λ ex a w hx=>by
  cases ex with
  | exit i =>
   obtain ⟨e,he,hq⟩:=hx;simp only [Exit.inBlock,blockQ] at hq ⊢
   cases hi:Nat.beq i id with
   | true=>rw [hi] at hq;rw [if_pos (Nat.eq_of_beq_eq_true hi)];exact ⟨e,he,hq⟩
   | false=>rw [hi] at hq;rw [if_neg (Nat.ne_of_beq_eq_false hi)];exact ⟨e,he,hq⟩
  | _=>exact hx)
theorem T.cond {c:Operand} {x y:Code} {b:Bool} (hc:val e c=some (.bool b)) (ht:b=true→T P n x e w Q) (hf:b=false→T P n y e w Q) :
  T P n (.cond c x y) e w Q:=λ a ha=>wpIn_cond_split (ha.eval hc) (λ h=>ht h a ha) (λ h=>hf h a ha)
theorem T.cond_true {c:Operand} {x y:Code} (hc:val e c=some (.bool true)) (ht:T P n x e w Q):T P n (.cond c x y) e w Q :=
 λ a ha=>wpIn_cond_true (ha.eval hc) (ht a ha)
theorem T.cond_false {c:Operand} {x y:Code} (hc:val e c=some (.bool false)) (hf:T P n y e w Q):T P n (.cond c x y) e w Q :=
 λ a ha=>wpIn_cond_false (ha.eval hc) (hf a ha)
theorem T.cond_yes {c:Operand} {x y:Code} {b:Bool} (hc:val e c=some (.bool b)) (hb:b=true) (ht:T P n x e w Q):T P n (.cond c x y) e w Q :=
 T.cond hc (λ _=>ht) (λ h=>by rw [hb] at h;cases h)
theorem T.cond_no {c:Operand} {x y:Code} {b:Bool} (hc:val e c=some (.bool b)) (hb:b=false) (hf:T P n y e w Q):T P n (.cond c x y) e w Q :=
 T.cond hc (λ h=>by rw [hb] at h;cases h) (λ _=>hf)
theorem aX {c:Code} {S:Type} (E:S→dJ) (J:S→World→Prop) (m:S→Nat) (s:S) (h0:Sub (E s) e) (hj:J s w)
  (round:∀ s w,J s w→T P n c (E s) w (loopQ E J m s Q)):T P n (.loop c) e w Q:=by
 intro a ha
 have key:∀ k (s:S) (a:Act) (w:World),m s=k→Fits n (E s) a→J s w →
   ∀ (b:Frame) (kk:List Item) (cs:List Frame),b.roundOf=(FR Rn.ro).round→(FR Rn.ro).fn b.fn→(FR Rn.ro).room (cs.length+1+0)→∃ e a' w',iL n Q e a' w'∧ArrivesIn (Machine.fenced P (FR Rn.ro)) P (lone (b.atR a (.code c::.inLoop c::kk)) cs w) b kk cs e a' w':=by
  intro k
  induction k using Nat.strongRecOn with
  | _ k ih =>
   intro s a w hk hf hj b kk cs hro hb hr;obtain ⟨ex,a1,w1,hq,harr⟩:=round s w hj a hf b (.inLoop c::kk) cs hro hb hr
   cases ex with
   | normal =>
    obtain ⟨e1,he1,s',hs',hj',hlt⟩:=hq;obtain ⟨e2,a2,w2,hq2,harr2⟩:=ih (m s') (hk▸hlt) s' a1 w1 rfl (he1.sub hs') hj' b kk cs hro hb hr;exact ⟨e2,a2,w2,hq2,.of_steps (StepsIn.trans harr (.one (fenced_calm hb hr rfl) stepR_inLoop)) harr2⟩
   | exit id=>exact ⟨.exit id,a1,w1,hq,.pass (x:=.inLoop c) rfl (λ _ _=>.inl sM) harr⟩
   | goto l=>exact ⟨.goto l,a1,w1,hq,.pass (x:=.inLoop c) rfl (λ _ _=>.inl sM) harr⟩
   | ret=>exact ⟨.ret,a1,w1,hq,.pass (x:=.inLoop c) rfl (λ _ _=>.inl sM) harr⟩
   | panic ch=>exact ⟨.panic ch,a1,w1,hq,.pass (x:=.inLoop c) rfl (λ _ _=>.inl sM) harr⟩
   | outgrown=>exact ⟨.outgrown,a1,w1,hq,.pass (x:=.inLoop c) rfl (λ _ _=>.inl sM) harr⟩
 intro b kk cs hro hb hr;obtain ⟨ex,a',w',hq,harr⟩:=key _ s a w rfl (ha.sub h0) hj b kk cs hro hb hr;exact ⟨ex,a',w',hq,.of_steps (.one (fenced_calm hb hr rfl) stepR_loop) harr⟩
theorem nZ {id:Nat} {l:List Oper} (h:TL P n l.toArray l e w Q):T P n (.region id l.toArray false) e w Q :=
 λ a ha=>wpIn_region_lit (h a ha)
theorem TL.nil {ops:Array Oper} (h:Q .normal e w):TL P n ops [] e w Q:=λ _ ha=>wpListIn_nil (lift_of ha h)
theorem fA {y:Code} (h:T P n y e w Q):thenQ P n y Q .normal e w:=h
theorem thenQ_exit {y:Code} {i:Nat} (h:Q (.exit i) e w):thenQ P n y Q (.exit i) e w:=h
theorem thenQ_ret {y:Code} (h:Q .ret e w):thenQ P n y Q .ret e w:=h
theorem aE {S:Type} {E:S→dJ} {J:S→World→Prop} {m:S→Nat} {s:S} (s':S) (h:Sub (E s') e) (hj:J s' w) (hm:m s'<m s):loopQ E J m s Q .normal e w:=⟨s',h,hj,hm⟩
theorem loopQ_exit {S:Type} {E:S→dJ} {J:S→World→Prop} {m:S→Nat} {s:S} {i:Nat} (h:Q (.exit i) e w):loopQ E J m s Q (.exit i) e w:=h
theorem loopQ_ret {S:Type} {E:S→dJ} {J:S→World→Prop} {m:S→Nat} {s:S} (h:Q .ret e w):loopQ E J m s Q .ret e w:=h
theorem blockQ_hit {i:Nat} (h:Q .normal e w):blockQ i Q (.exit i) e w:=by
 have:Nat.beq i i=true:=Nat.beq_refl i;simp only [blockQ,this];exact h
theorem blockQ_miss {i j:Nat} (hij:Nat.beq i j=false) (h:Q (.exit i) e w):blockQ j Q (.exit i) e w:=by
 simp only [blockQ,hij];exact h
theorem blockQ_normal {j:Nat} (h:Q .normal e w):blockQ j Q .normal e w:=h
theorem blockQ_ret {j:Nat} (h:Q .ret e w):blockQ j Q .ret e w:=h
def intOp (op:BinOp) (k:IntKind) (a b:Int):Option Value :=
 match op with
 | .add=>some (.int k (k.wrap (a+b)))
 | .sub=>some (.int k (k.wrap (a-b)))
 | .mul=>some (.int k (k.wrap (a*b)))
 | .eql=>some (.bool (a==b))
 | .neq=>some (.bool (a != b))
 | .lss=>some (.bool (decide (a<b)))
 | .leq=>some (.bool (decide (a≤b)))
 | .gtr=>some (.bool (decide (a > b)))
 | .geq=>some (.bool (decide (a≥b)))
 | .and=>some (.int k (k.wrap (BitVec.ofInt k.bits a&&&BitVec.ofInt k.bits b).toNat))
 | .or=>some (.int k (k.wrap (BitVec.ofInt k.bits a|||BitVec.ofInt k.bits b).toNat))
 | .xor=>some (.int k (k.wrap (BitVec.ofInt k.bits a ^^^ BitVec.ofInt k.bits b).toNat))
 | _=>none
def kindEq:IntKind→IntKind→Bool
 | .i8,.i8|.i16,.i16|.i32,.i32|.i64,.i64|.u8,.u8|.u16,.u16|.u32,.u32|.u64,.u64=>true
 | _,_=>false
theorem kindEq_eq {a b:IntKind} (h:kindEq a b=true):a=b:=by cases a<;>cases b<;>first|rfl|cases h
def pureOp (f:Operand→Option Value):Op→Option Value
 | .move x=>f x
 | .assign x=>f x
 | .pick c x y=>match f c with
  | some (.bool true)=>f x
  | some (.bool false)=>f y
  | _=>none
 | .unOp .not _ x=>match f x with
  | some (.bool b)=>some (.bool (!b))
  | _=>none
 | .unOp .neg _ x=>match f x with
  | some (.int k a)=>some (.int k (k.wrap (0-a)))
  | _=>none
 | .binOp op _ x y _=>match f x,f y with
  | some (.int k a),some (.int k' b)=>bif kindEq k k' then intOp op k a b else none
  | _,_=>none
 | .extract x i=>match f x with
  | some (.tuple vs)=>vs.toList[i]?
  | _=>none
 | _=>none
theorem bG (op:BinOp) (t:TypeId) (x y:Operand) (k k':IntKind) (a b:Int):eqGuard op t x y (.int k a) (.int k' b)=Pure.pure ():=by
 cases op<;>rfl
theorem binOp_int {op:BinOp} {t:TypeId} {k:IntKind} {a b:Int} {v:Value} (h:intOp op k a b=some v):binOp op t (.int k a) (.int k b)=Pure.pure v:=by
 unfold intOp at h
 split at h<;>first
  | (cases h;simp [binOp,Op.intArith,Op.intCmp,Op.intBits];done)
  | (cases h;simp [binOp,Op.intArith,Op.intCmp,Op.intBits];rfl)
  | cases h
theorem pureOp_run {a:Act} (hf:Fits n e a) {o:Oper} {v:Value} (h:pureOp (val e) o.op=some v) (w:World):(execOp a.eval o).run P w=.ok (.value v) w:=by
 unfold pureOp at h;split at h
 ·rename_i x hx;simp [execOp,hx,hf.eval h]
 ·rename_i x hx;simp [execOp,hx,hf.eval h]
 ·rename_i c x y hx;split at h
  ·rename_i hc;simp [execOp,hx,hf.eval hc,asBool,hf.eval h]
  ·rename_i hc;simp [execOp,hx,hf.eval hc,asBool,hf.eval h]
  ·cases h
 ·rename_i x hx;split at h
  ·rename_i b hb;cases h;simp [execOp,hx,hf.eval hb,Op.unary]
  ·cases h
 ·rename_i x hx;split at h
  ·rename_i k b hb;cases h;simp [execOp,hx,hf.eval hb,Op.unary,Op.intArith]
  ·cases h
 ·rename_i op t x y t' hx;split at h
  ·rename_i k p k' q h1 h2
   cases hk:kindEq k k' with
   | true =>
    rw [hk] at h;have hkk:=kindEq_eq hk;subst hkk;simp [execOp,hx,hf.eval h1,hf.eval h2,bG,binOp_int h]
   | false=>rw [hk] at h;cases h
  ·cases h
 ·rename_i x i hx;split at h
  ·rename_i vs hv;simp only [Array.getElem?_toList] at h;simp [execOp,hx,hf.eval hv,Instr.extract,h]
  ·cases h
 ·cases h
theorem TL.pure {ops:Array Oper} {rest:List Oper} {d:Nat} {op:Op} {ty:TypeId} {pos:String} {aft:Array Edge} {v:Value}
  (h:pureOp (val e) op=some v) (hd:Nat.blt d n=true) (k:TL P n ops rest ((d,v)::e) w Q) :
  TL P n ops (⟨some d,op,ty,pos,aft,none⟩::rest) e w Q:=λ a ha =>
 wpListIn_plain rfl λ K hK=>Oper.wpFR _ (.inl ⟨_,_,pureOp_run (o:=⟨some d,op,ty,pos,aft,none⟩) ha h w,hK _ _ (k _ (ha.put hd v))⟩)
theorem TL.run {ops:Array Oper} {rest:List Oper} {d:Nat} {op:Op} {ty:TypeId} {pos:String} {aft:Array Edge} {v:Value} {w':World}
  (h:∀ a,Fits n e a→(execOp a.eval ⟨some d,op,ty,pos,aft,none⟩).run P w=.ok (.value v) w') (hd:Nat.blt d n=true) (k:TL P n ops rest ((d,v)::e) w' Q) :
  TL P n ops (⟨some d,op,ty,pos,aft,none⟩::rest) e w Q:=λ a ha =>
 wpListIn_plain rfl λ K hK=>Oper.wpFR _ (.inl ⟨_,_,h a ha,hK _ _ (k _ (ha.put hd v))⟩)
theorem TL.run_skip {ops:Array Oper} {rest:List Oper} {op:Op} {ty:TypeId} {pos:String} {aft:Array Edge} {w':World}
  (h:∀ a,Fits n e a→(execOp a.eval ⟨none,op,ty,pos,aft,none⟩).run P w=.ok .skip w') (k:TL P n ops rest e w' Q) :
  TL P n ops (⟨none,op,ty,pos,aft,none⟩::rest) e w Q:=λ a ha =>
 wpListIn_plain rfl λ K hK=>Oper.wpFR _ (.inr (.inl ⟨_,h a ha,hK _ _ (k _ ha)⟩))
theorem TL.guard {ops:Array Oper} {rest:List Oper} {d:Option Nat} {op:Op} {ty:TypeId} {pos:String} {aft:Array Edge} {j s:Nat} {want b:Bool}
  (hj:(ops[j]?).bind (·.dst)=some s) (hb:find e s=some (.bool b)) (hd:Nat.blt (d.getD 0) n=true)
  (ht:b=want→TL P n ops (⟨d,op,ty,pos,aft,none⟩::rest) ((s,.bool want)::e) w Q)
  (hf:b=(!want)→TL P n ops rest ((d.getD n,undef)::(s,.bool (!want))::e) w Q) :
  TL P n ops (⟨d,op,ty,pos,aft,some (j,want)⟩::rest) e w Q:=by
 intro a ha
 have hs:s<a.tmps.size:=by
  rcases Nat.lt_or_ge s a.tmps.size with h|h
  ·exact h
  ·have h1:=ha.get s _ hb;simp [Array.getElem?_eq_none h,undef] at h1
 have hy:yielded ops a.tmps j=some b:=by
  have h1:=ha.get s _ hb
  have h2:a.tmps[s]? = some (.bool b):=by
   simp [hs] at h1;simp [hs,h1]
  simp [yielded,hj,h2]
 by_cases hw:b=want
 ·have h1:=ht hw a (ha.same hb (by rw [hw]));unfold wpListIn at h1 ⊢;simp only [Region.wanted,hy,hw,beq_self_eq_true,if_true] at h1 ⊢;exact h1
 ·have hn:b=(!want):=by revert hw;cases b<;>cases want<;>simp
  unfold wpListIn;have:(some b==some want)=false:=by revert hw;cases b<;>cases want<;>simp
  simp only [Region.wanted,hy,this,Bool.false_eq_true,if_false];refine ⟨λ _ _=>trivial,?_⟩;have hs':=ha.same hb (show Value.bool b=Value.bool (!want) by rw [hn])
  cases d with
  | none =>
   refine hf hn _ ⟨hs'.defers,hs'.size,λ t v hv=>?_⟩;rw [fT] at hv;by_cases htn:n=t
   ·subst htn;simp only [Option.getD_none,if_true,Option.some.injEq] at hv;subst hv;simp [Act.put,ha.size]
   ·simp only [Option.getD_none,if_neg htn] at hv;exact hs'.get t v hv
  | some d=>exact hf hn _ (hs'.put hd undef)
theorem eK {ops:Array Oper} {rest:List Oper} {d:Option Nat} {op:Op} {ty:TypeId} {pos:String} {aft:Array Edge} {j s:Nat} {want:Bool}
  (hj:(ops[j]?).bind (·.dst)=some s) (hb:find e s=some (.bool want)) (hd:Nat.blt (d.getD 0) n=true)
  (ht:TL P n ops (⟨d,op,ty,pos,aft,none⟩::rest) e w Q) :
  TL P n ops (⟨d,op,ty,pos,aft,some (j,want)⟩::rest) e w Q :=
 TL.guard hj hb hd (λ _=>λ a ha=>ht a ⟨ha.defers,ha.size,λ t v hv=>ha.get t v (by
   rw [fT];by_cases h:s=t
   ·subst h;rw [hb] at hv;simpa using hv
   ·rw [if_neg h];exact hv)⟩) (λ h=>by cases want<;>cases h)
theorem TL.guard_skip {ops:Array Oper} {rest:List Oper} {d:Nat} {op:Op} {ty:TypeId} {pos:String} {aft:Array Edge} {j s:Nat} {want:Bool}
  (hj:(ops[j]?).bind (·.dst)=some s) (hb:find e s=some (.bool (!want))) (hd:Nat.blt d n=true)
  (hf:TL P n ops rest ((d,undef)::e) w Q) :
  TL P n ops (⟨some d,op,ty,pos,aft,some (j,want)⟩::rest) e w Q :=
 TL.guard hj hb hd (λ h=>by cases want<;>cases h) (λ _=>λ a ha=>hf a ⟨ha.defers,ha.size,λ t v hv=>ha.get t v (by
   rw [fT] at hv ⊢;by_cases h:d=t
   ·subst h;simpa using hv
   ·rw [if_neg h] at hv;simp only [Option.getD_some,if_neg h];rw [fT];by_cases h2:s=t
    ·subst h2;rw [hb] at hv;simpa using hv
    ·rw [if_neg h2];exact hv)⟩)
def resE (P:Program) (w:World) (e:dJ):ResultVar→Value→Prop
 | .tmp t,v=>find e t=some v
 | .cell t ty,v=>∃ p,find e t=some (.pointer (some p))∧(loadVar ty p).run P w=.ok v w
def resAll (P:Program) (w:World) (e:dJ):List ResultVar→List Value→Prop
 | [],vs=>vs=[]
 | r::rs,vs=>∃ v vs',vs=v::vs'∧resE P w e r v∧resAll P w e rs vs'
def packed:List Value→Value
 | [v]=>v
 | vs=>.tuple vs.toArray
def retQ (P:Program) (rs:List ResultVar) (R:Ending→World→Prop):dI:=λ x e w =>
 match x with
 | .normal|.ret=>∃ vs,resAll P w e rs vs∧R (.returned (packed vs)) w
 | .panic ch=>R (.panicked ch) w
 | .outgrown=>R .outgrown w
 | _=>False
theorem resAll_run {g:ResultVar→Sem Value} (hg:∀ r v,resE P w e r v→(g r).run P w=.ok v w):∀ (rs:List ResultVar) (vs:List Value) (acc:Array Value),resAll P w e rs vs →
  (rs.foldlM (λ bs r=>bs.push <$> g r) acc).run P w=.ok (acc++vs.toArray) w:=by
 intro rs
 induction rs with
 | nil=>intro vs acc h;simp only [resAll] at h;subst h;simp
 | cons r rs ih =>
  intro vs acc h;obtain ⟨v,vs',rfl,hr,hrest⟩:=h;simp only [List.foldlM_cons,Sem.run_bind,Sem.run_map,hg r v hr,Result.andThen_ok];rw [ih vs' (acc.push v) hrest];simp
theorem results_run {fn:Func} {a:Act} (hf:Fits n e a) {rs:List ResultVar} (hrs:fn.results=rs.toArray) {vs:List Value} (h:resAll P w e rs vs) :
  (results fn a.tmps).run P w=.ok (packed vs) w:=by
 unfold results;rw [hrs];simp only [Array.mapM_eq_foldlM,List.foldlM_toArray',bind_pure_comp,Sem.run_map,List.size_toArray];rw [resAll_run (P:=P) (w:=w) ?_ rs vs #[] h]
 ·simp only [Result.andThen_ok,Array.empty_append]
  match vs with
  | []=>rfl
  | [v]=>rfl
  | v::u::r=>rfl
 ·intro r v hr
  cases r with
  | tmp t=>have:=hf.get t v hr;simp only [this];rfl
  | cell b ty =>
   obtain ⟨p,h1,h2⟩:=hr;have:=hf.get b _ h1;simp only [this,asAddr,Sem.run_bind,Sem.run_pure,Result.andThen_ok,h2]
def argsFrom:Nat→List Value→dJ
 | _,[]=>[]
 | k,v::vs=>(k,v)::argsFrom (k+1) vs
theorem find_argsFrom:∀ (vs:List Value) (k t:Nat) (v:Value),find (argsFrom k vs) t=some v→k≤t∧vs[t-k]? = some v:=by
 intro vs
 induction vs with
 | nil=>intro k t v h;cases h
 | cons x xs ih =>
  intro k t v h;simp only [argsFrom] at h;rw [fT] at h;by_cases hk:k=t
  ·subst hk;simp only [if_true,Option.some.injEq] at h;subst h;exact ⟨Nat.le_refl _,sM⟩
  ·rw [if_neg hk] at h;obtain ⟨h1,h2⟩:=ih (k+1) t v h;refine ⟨oM,?_⟩;rw [show t-k=(t-(k+1))+1 by omega];simpa using h2
end rules
end
section
variable {P:Program} {n:Nat} {e:dJ} {w:World} {Q:dI}
theorem results_run' {fn:Func} {a:Act} (hg:∀ t v,find e t=some v→a.tmps.getD t undef=v) {rs:List ResultVar} (hrs:fn.results=rs.toArray) {vs:List Value} (h:resAll P w e rs vs) :
  (results fn a.tmps).run P w=.ok (packed vs) w :=
 results_run (n:=a.tmps.size) (a:={ a with defers:=[] }) ⟨rfl,rfl,hg⟩ hrs h
theorem leaves_marks {fn:Func} {tmps:Array Value} {R:Ending→World→Prop} {v:Value}:∀ (ms:List Nat) (w:World),ms.Nodup→(∀ r∈ms,w.heap[r]? = some (.deferred (some [])))→(results fn tmps).run P (shut ms w)=.ok v (shut ms w)→R (.returned v) (shut ms w) →
  LeavesInM (FR none) 0 P fn tmps R (ms.map mkD) .returning w
 | [],w,_,_,h,hR=>⟨v,h,hR⟩
 | r::ms,w,hnd,hb,h,hR=>by
  obtain ⟨h1,h2⟩:=List.nodup_cons.1 hnd;refine ⟨sM,.inl ⟨r,_,rfl,run_takeDeferred (hb r sM),leaves_marks ms _ h2 (λ x hx=>?_) h hR⟩⟩;have hne:x≠r:=λ e=>h1 (by rw [← e];exact hx);rw [World.putObj_heap_other hne];exact hb x (by simp [hx])
theorem calls {f:FuncId} {fn:Func} {c:Code} {args:List Value} {rs:List ResultVar} {R:Ending→World→Prop} {n:Nat}
  (hf:P.funcs[f]? = some fn) (hb:fn.body=some c) (hn:fn.ntmps=n) (hrs:fn.results=rs.toArray) (ha:Nat.ble args.length n=true)
  (h:T P n c (argsFrom 0 args) w (retQ P rs R)):Calls P f args.toArray w R:=by
 have hle:args.length≤n:=Nat.le_of_ble_eq_true ha;refine calls_fr1 (ro:=none) (callsIn_of_wp_marks hf hb trivial (wpIn_mono (h _ ⟨rfl,?_,?_⟩) ?_))
 ·simp [hn];omega
 ·intro t v hv;obtain ⟨_,h2⟩:=find_argsFrom args 0 t v hv
  have h3:t<args.length:=by
   rcases Nat.lt_or_ge t args.length with h|h
   ·exact h
   ·simp [List.getElem?_eq_none h] at h2
  simp only [Nat.sub_zero] at h2;simp only [Array.getD_eq_getD_getElem?];rw [Array.getElem?_append_left (by simpa using h3)];simp [h2]
 ·intro x a w hx
  cases x with
  | normal =>
   obtain ⟨e,he,vs,h1,h2⟩:=hx;have hd:a.defers=[]:=he.defers;show LeavesInM (FR none) 0 P fn a.tmps R a.defers .returning w;rw [hd];exact ⟨_,results_run he hrs h1,h2⟩
  | ret =>
   obtain ⟨e,ms,he,vs,h1,h2⟩:=hx;have hd:a.defers=ms.map mkD:=he.defers.trans (List.append_nil _);show LeavesInM (FR none) 0 P fn a.tmps R a.defers .returning w;rw [hd];exact leaves_marks ms w he.nd (λ r hr=>(he.blk r hr).2) (results_run' he.get hrs h1) h2
  | panic ch =>
   obtain ⟨e,he,hq⟩:=hx;have hd:a.defers=[]:=he.defers;show LeavesInM (FR none) 0 P fn a.tmps R a.defers (.panicking ch) w;rw [hd];exact hq
  | outgrown=>obtain ⟨e,he,hq⟩:=hx;exact hq
  | exit i=>obtain ⟨e,he,hq⟩:=hx;exact hq
  | goto l=>obtain ⟨e,he,hq⟩:=hx;exact hq
end
section
section rules
variable [Rn]
variable {P:Program} {n:Nat} {e:dJ} {w:World} {Q:dI}
theorem eB {rs:List ResultVar} {R:Ending→World→Prop} {vs:List Value} {v:Value} (h:resAll P w e rs vs) (hp:packed vs=v) (hR:R (.returned v) w):retQ P rs R .ret e w:=⟨vs,h,by rw [hp];exact hR⟩
theorem cE {rs:List ResultVar} {R:Ending→World→Prop} {vs:List Value} {v:Value} (h:resAll P w e rs vs) (hp:packed vs=v) (hR:R (.returned v) w):retQ P rs R .normal e w:=⟨vs,h,by rw [hp];exact hR⟩
theorem bA {s:Nat} {v:Value} {R:Ending→World→Prop} (h:find e s=some v) (hR:R (.returned v) w):retQ P [.tmp s] R .ret e w:=eB (vs:=[v]) ⟨v,[],rfl,h,rfl⟩ rfl hR
theorem fM {s t:Nat} {u v:Value} {R:Ending→World→Prop} (h:find e s=some u) (h2:find e t=some v) (hR:R (.returned (.tuple #[u,v])) w):retQ P [.tmp s,.tmp t] R .ret e w :=
 eB (vs:=[u,v]) ⟨u,[v],rfl,h,v,[],rfl,h2,rfl⟩ rfl hR
theorem TL.mk {ops:Array Oper} {l:List Oper} (h:∀ a,Fits n e a→wpListIn (FR Rn.ro) 0 P ops (iL n Q) l a w):TL P n ops l e w Q:=h
theorem TL.out {ops:Array Oper} {l:List Oper} (h:TL P n ops l e w Q) {a:Act} (ha:Fits n e a):wpListIn (FR Rn.ro) 0 P ops (iL n Q) l a w:=h a ha
theorem T.mk {c:Code} (h:∀ a,Fits n e a→c.wpIn (FR Rn.ro) 0 P (iL n Q) a w):T P n c e w Q:=h
theorem T.out {c:Code} (h:T P n c e w Q) {a:Act} (ha:Fits n e a):c.wpIn (FR Rn.ro) 0 P (iL n Q) a w:=h a ha
theorem retC {s t:Nat} {p:Addr} {v:Value} {R:Ending→World→Prop} (h:find e s=some (.pointer (some p))) (hl:(loadVar t p).run P w=.ok v w) (hR:R (.returned v) w):retQ P [.cell s t] R .ret e w :=
 eB (vs:=[v]) ⟨v,[],rfl,⟨p,h,hl⟩,rfl⟩ rfl hR
theorem fN {s t u:Nat} {p:Addr} {v x:Value} {R:Ending→World→Prop} (h:find e s=some (.pointer (some p))) (hl:(loadVar t p).run P w=.ok v w) (h2:find e u=some x) (hR:R (.returned (.tuple #[v,x])) w):retQ P [.cell s t,.tmp u] R .ret e w :=
 eB (vs:=[v,x]) ⟨v,[x],rfl,⟨p,h,hl⟩,x,[],rfl,h2,rfl⟩ rfl hR
end rules
end
attribute [irreducible] T TL thenQ blockQ loopQ retQ
def oneB (P:Program) (t:TypeId):Bool :=
 match P.underlying t,P.info? t with
 | some (.struct _),_|some (.array _ _),_|_,none|none,_=>false
 | some _,some i=>i.size==1
def aggB (P:Program) (t:TypeId) (m:Nat):Bool :=
 match P.underlying t,P.info? t with
 | some (.struct _),some i|some (.array _ _),some i=>i.size==m
 | _,_=>false
class One (P:Program) (t:TypeId):Prop where
 h:oneB P t=true
class Agg (P:Program) (t:TypeId) (m:outParam Nat):Prop where
 h:aggB P t m=true
class Zero (P:Program) (t:TypeId) (z:outParam Value):Prop where
 h:(P.info? t).bind (·.zero)=some z
def fieldB (P:Program) (s:TypeId) (f off:Nat):Bool :=
 match P.underlying s with
 | some (.struct fs)=>match fs[f]? with
  | some fd=>fd.offset==off&&(match P.info? fd.type with|some i=>i.size != 0|none=>false)
  | none=>false
 | _=>false
class FieldAt (P:Program) (s:TypeId) (f:Nat) (off:outParam Nat):Prop where
 h:fieldB P s f off=true
def sliceB (P:Program) (t:TypeId) (elem size bytes:Nat):Bool :=
 match P.underlying t with
 | some (.slice e)=>e==elem&&(match P.info? e with|some i=>i.size==size&&i.bytes==bytes&&size != 0&&(match i.zero with|some z=>z.cells.size==size|none=>false)|none=>false)
 | _=>false
class SliceTy (P:Program) (t:TypeId) (elem size bytes:outParam Nat):Prop where
 h:sliceB P t elem size bytes=true
def arrB (P:Program) (t:TypeId) (len elem size:Nat):Bool :=
 match P.underlying t with
 | some (.array l e)=>l==len&&e==elem&&(match P.info? e with|some i=>i.size==size|none=>false)
 | _=>false
class ArrTy (P:Program) (t:TypeId) (len elem size:outParam Nat):Prop where
 h:arrB P t len elem size=true
def fnB (P:Program) (f:FuncId):Bool :=
 match P.funcs[f]? with
 | some fn=>!(fn.name=="runtime.NumGoroutine")&&!fn.body.isNone
 | none=>false
class FnOk (P:Program) (f:FuncId):Prop where
 h:fnB P f=true
def strB (P:Program) (t:TypeId):Bool:=match P.underlying t with|some .string=>true|_=>false
class StrTy (P:Program) (t:TypeId):Prop where
 h:strB P t=true
section ty
variable {P:Program} {t:TypeId}
theorem One.agg (h:One P t) (w:World):(isAgg t).run P w=.ok false w:=by
 have h:=h.h;unfold oneB at h
 cases hu:P.underlying t with
 | none=>cases hi:P.info? t<;>simp [hu,hi] at h
 | some d =>
  simp only [isAgg,underlying,Sem.run_bind,run_program,Result.andThen_ok,hu];cases d<;>simp_all [Sem.run_pure]
theorem One.size (h:One P t) (w:World):(sizeOf t).run P w=.ok 1 w:=by
 have h:=h.h;unfold oneB at h
 cases hi:P.info? t with
 | none=>cases hu:P.underlying t with
  | none=>simp [hu,hi] at h
  | some d=>cases d<;>simp [hu,hi] at h
 | some i =>
  have h1:i.size=1:=by
   cases hu:P.underlying t with
   | none=>simp [hu,hi] at h
   | some d=>cases d<;>simp_all
  simp [sizeOf,typeInfo,hi,h1]
theorem Agg.agg {m:Nat} (h:Agg P t m) (w:World):(isAgg t).run P w=.ok true w:=by
 have h:=h.h;unfold aggB at h
 cases hu:P.underlying t with
 | none=>simp [hu] at h
 | some d =>
  simp only [isAgg,underlying,Sem.run_bind,run_program,Result.andThen_ok,hu];cases d<;>simp_all [Sem.run_pure]
theorem Agg.size {m:Nat} (h:Agg P t m) (w:World):(sizeOf t).run P w=.ok m w:=by
 have h:=h.h;unfold aggB at h
 cases hi:P.info? t with
 | none=>cases hu:P.underlying t with
  | none=>simp [hu] at h
  | some d=>cases d<;>simp [hu,hi] at h
 | some i =>
  have h1:i.size=m:=by
   cases hu:P.underlying t with
   | none=>simp [hu] at h
   | some d=>cases d<;>simp_all
  simp [sizeOf,typeInfo,hi,h1]
theorem Zero.run {z:Value} (h:Zero P t z) (w:World):(zeroValue t).run P w=.ok z w:=by
 have h:=h.h
 cases hi:P.info? t with
 | none=>simp [hi] at h
 | some i =>
  simp only [hi,Option.bind_some] at h;simp [zeroValue,typeInfo,hi,h]
theorem SliceTy.und {e s b:Nat} (h:SliceTy P t e s b):P.underlying t=some (.slice e):=by
 have h:=h.h;unfold sliceB at h;split at h
 ·rename_i x hu;simp at h;rw [hu,h.1]
 ·cases h
theorem SliceTy.info {e s b:Nat} (h:SliceTy P t e s b):∃ i z,P.info? e=some i∧i.size=s∧i.bytes=b∧i.zero=some z∧z.cells.size=s∧s≠0:=by
 have h1:=h.h;unfold sliceB at h1;split at h1
 ·rename_i x hu;simp only [Bool.and_eq_true,beq_iff_eq] at h1;obtain ⟨hx,h2⟩:=h1;rw [← hx]
  cases hi:P.info? x with
  | none=>rw [hi] at h2;simp at h2
  | some i =>
   rw [hi] at h2
   cases hz:i.zero with
   | none=>simp [hz] at h2
   | some z =>
    simp [hz] at h2;exact ⟨i,z,rfl,h2.1.1.1,h2.1.1.2,hz,h2.2,h2.1.2⟩
 ·cases h1
theorem SliceTy.size {e s b:Nat} (h:SliceTy P t e s b) (w:World):(sizeOf e).run P w=.ok s w:=by
 obtain ⟨i,z,hi,hs,_⟩:=h.info;simp [sizeOf,typeInfo,hi,hs]
end ty
abbrev Grow (w w':World):Prop:=Below w.heap.size w w'∧w.heap.size≤w'.heap.size
theorem Grow.block {w w':World} (g:Grow w w'):∀ k,k<w.heap.size→w'.heap[k]? = w.heap[k]?:=g.1.block
theorem Grow.size {w w':World} (g:Grow w w'):w.heap.size≤w'.heap.size:=g.2
theorem Grow.refl (w:World):Grow w w:=⟨Below.refl _ w,Nat.le_refl _⟩
theorem Grow.mk {w w':World} (h:Below w.heap.size w w'):Grow w w':=⟨h,h.size⟩
theorem Grow.trans {a b c:World} (g:Grow a b) (h:Grow b c):Grow a c:=⟨g.1.trans (h.1.mono g.2),Nat.le_trans g.2 h.2⟩
theorem Grow.drew (w:World):Grow w w.drew:=⟨(Below.refl _ w).drew,Nat.le_refl _⟩
structure Upd (b:Nat) (w w':World):Prop where
 os:w'.os=w.os
 tape:w'.tape=w.tape
 output:w'.output=w.output
 size:w'.heap.size=w.heap.size
 block:∀ k,k≠b→w'.heap[k]? = w.heap[k]?
def Blk (w:World) (b:Nat) (t:TypeId) (cs:List Value):Prop:=w.heap[b]? = some (.cells cs.toArray t (0,0))
section mem
variable {P:Program} {w w' w0:World}
theorem Blk.lt {b:Nat} {t:TypeId} {cs:List Value} (h:Blk w b t cs):b<w.heap.size:=(Array.getElem?_eq_some_iff.1 h).1
theorem Blk.cell {b:Nat} {t:TypeId} {cs:List Value} {o:Nat} {v:Value} (h:Blk w b t cs) (hv:cs[o]? = some v):w.cell? ⟨b,o,none⟩=some v:=by
 unfold Blk at h;simp [World.cell?,h,hv]
theorem Blk.frozen {b:Nat} {t:TypeId} {cs:List Value} (h:Blk w b t cs) (o:Nat):w.frozen? ⟨b,o,none⟩=false:=by
 unfold Blk at h;simp [World.frozen?,h]
theorem Blk.grow {b:Nat} {t:TypeId} {cs:List Value} (g:Grow w w') (h:Blk w b t cs):Blk w' b t cs:=by
 unfold Blk at *;rw [g.block b (Array.getElem?_eq_some_iff.1 h).1];exact h
theorem Blk.upd {b c:Nat} {t:TypeId} {cs:List Value} (u:Upd c w w') (hb:b≠c) (h:Blk w b t cs):Blk w' b t cs:=by
 unfold Blk at *;rw [u.block b hb];exact h
theorem cell_grow {p:Addr} {v:Value} (g:Grow w w') (h:w.cell? p=some v):w'.cell? p=some v :=
 (World.cell?_of_block (w:=w) (g.block p.block (World.block_lt_of_cell? w p h))).trans h
theorem below_grow {B:Nat} (g:Grow w w') (hB:B≤w.heap.size) (h:Below B w0 w):Below B w0 w':=h.trans (g.1.mono hB)
theorem below_upd {B b:Nat} (u:Upd b w w') (hB:B≤b) (h:Below B w0 w):Below B w0 w' :=
 h.trans ⟨u.os,u.tape,u.output,Nat.le_of_eq u.size.symm,λ k hk=>u.block k oM⟩
theorem grow_trans (g:Grow w w') (h:Grow w0 w):Grow w0 w':=h.trans g
theorem aI {b:Nat} (u:Upd b w w') (hB:w0.heap.size≤b) (h:Grow w0 w):Grow w0 w':=Grow.mk (below_upd u hB h.1)
theorem mD (o:Obj):Grow w (w.alloc o):=Grow.mk ((Below.refl _ w).alloc (Nat.le_refl _) o)
theorem blk_alloc (cs:List Value) (t:TypeId):Blk (w.alloc (.cells cs.toArray t)) w.heap.size t cs:=by
 show (w.heap.push _)[w.heap.size]? = _;simp
theorem upd_setCell (b o:Nat) (v:Value):Upd b w (w.setCell ⟨b,o,none⟩ v) :=
 ⟨rfl,rfl,rfl,sM,λ k hk=>Below.heap_setCell _ _ _ _ hk⟩
theorem blk_setCell {b o:Nat} {t:TypeId} {cs:List Value} (v:Value) (h:Blk w b t cs):Blk (w.setCell ⟨b,o,none⟩ v) b t (cs.set o v):=by
 unfold Blk at *;simp only [World.setCell,Array.getElem?_modify,if_true,h,Option.map_some];simp
theorem Upd.trans {b:Nat} (h:Upd b w0 w) (k:Upd b w w'):Upd b w0 w' :=
 ⟨k.os.trans h.os,k.tape.trans h.tape,k.output.trans h.output,k.size.trans h.size,λ i hi=>(k.block i hi).trans (h.block i hi)⟩
theorem Upd.refl (b:Nat) (w:World):Upd b w w:=⟨rfl,rfl,rfl,rfl,λ _ _=>rfl⟩
def iH (cs:List Value) (o:Nat):List Value→List Value
 | []=>cs
 | v::vs=>iH (cs.set o v) (o+1) vs
theorem iV {b:Nat} {t:TypeId}:∀ (vs:List Value) (o i:Nat) (cs:List Value) (w:World),Blk w b t cs→o+i+vs.length≤cs.length →
  (∀ v∈vs,v.oneCell'=true)→∃ w',(storeCells ⟨b,o,none⟩ vs i).run P w=.ok () w'∧Upd b w w'∧Blk w' b t (iH cs (o+i) vs):=by
 intro vs
 induction vs with
 | nil=>intro o i cs w h _ _;exact ⟨w,rfl,Upd.refl b w,h⟩
 | cons v vs ih =>
  intro o i cs w h hl h1;have ha:(⟨b,o,none⟩:Addr).add i=⟨b,o+i,none⟩:=Addr.add_lit ..;have hlt:o+i<cs.length:=by simp at hl;omega
  have hc:w.cell? ⟨b,o+i,none⟩=some cs[o+i]:=h.cell (by simp [hlt])
  have hst:(store ⟨b,o+i,none⟩ v .plain).run P w=.ok () (w.setCell ⟨b,o+i,none⟩ v):=by
   rw [run_store P w _ v .plain (h1 v sM)];simp only [hc,h.frozen,Bool.false_eq_true,if_false]
  obtain ⟨w',hr,hu,hb⟩:=ih o (i+1) (cs.set (o+i) v) (w.setCell ⟨b,o+i,none⟩ v) (blk_setCell v h) (by simp at hl ⊢;omega) (λ u hu=>h1 u (by simp [hu]));refine ⟨w',?_,(upd_setCell b (o+i) v).trans hu,hb⟩;simp only [storeCells,ha,Sem.run_bind,hst,Result.andThen_ok];exact hr
theorem lZ {p:Addr}:∀ (m i:Nat) (vs:List Value) (acc:Array Value),vs.length=m→(∀ j v,vs[j]? = some v→w.cell? (p.add (i+j))=some v) →
  (loadCellsFrom p i m acc).run P w=.ok (acc++vs.toArray) w:=by
 intro m
 induction m with
 | zero=>intro i vs acc h _;cases vs with
  | nil=>simp [loadCellsFrom]
  | cons _ _=>simp at h
 | succ m ih =>
  intro i vs acc h hc
  cases vs with
  | nil=>simp at h
  | cons v vs =>
   have h0:=hc 0 v sM;simp only [Nat.add_zero] at h0;simp only [loadCellsFrom,Sem.run_bind,run_load,h0,Result.andThen_ok];rw [ih (i+1) vs (acc.push v) (by simpa using h) (λ j u hu=>by have:=hc (j+1) u (by simpa using hu);rwa [show i+(j+1)=i+1+j by omega] at this)];simp
theorem run_loadVar_one {t:TypeId} {p:Addr} {v:Value} (ht:One P t) (hc:w.cell? p=some v):(loadVar t p).run P w=.ok v w:=by
 simp [loadVar,ht.agg,hc]
theorem iR {t:TypeId} {m:Nat} {p:Addr} {vs:List Value} (ht:Agg P t m) (hl:vs.length=m) (hc:∀ j v,vs[j]? = some v→w.cell? (p.add j)=some v):(loadVar t p).run P w=.ok (.agg vs.toArray) w:=by
 have:=lZ (P:=P) (w:=w) (p:=p) m 0 vs #[] hl (by simpa using hc);simp [loadVar,ht.agg,ht.size,loadCells,this]
theorem Blk.cells {b:Nat} {t:TypeId} {cs vs:List Value} {o m:Nat} (h:Blk w b t cs) (hv:(cs.drop o).take m=vs):∀ j v,vs[j]? = some v→w.cell? ((⟨b,o,none⟩:Addr).add j)=some v:=by
 intro j v hj;rw [show (⟨b,o,none⟩:Addr).add j=⟨b,o+j,none⟩ from Addr.add_lit ..];refine h.cell ?_;rw [← hv,List.getElem?_take] at hj;split at hj
 ·simpa using hj
 ·cases hj
theorem run_storeVar_one {t bt:TypeId} {b o:Nat} {v:Value} {cs cs':List Value} (ht:One P t) (h:Blk w b bt cs) (ho:Nat.blt o cs.length=true) (h1:v.oneCell'=true) (hcs:cs.set o v=cs') :
  ∃ w',(storeVar t ⟨b,o,none⟩ v).run P w=.ok () w'∧Upd b w w'∧Blk w' b bt cs':=by
 have hlt:o+0+[v].length≤cs.length:=Nat.le_of_ble_eq_true ho;obtain ⟨w',hr,hu,hb⟩:=iV (P:=P) (t:=bt) [v] o 0 cs w h hlt (by simpa using h1);refine ⟨w',?_,hu,by rw [← hcs];exact hb⟩;have hv:v.cells = #[v]:=by cases v<;>first|rfl|cases h1
 simp only [storeVar,hv,ht.size,Sem.run_bind,Result.andThen_ok];simpa using hr
theorem run_storeVar_agg {t bt:TypeId} {m b o:Nat} {vs cs cs':List Value} (ht:Agg P t m) (h:Blk w b bt cs) (hm:Nat.beq vs.length m=true) (ho:Nat.ble (o+vs.length) cs.length=true) (h1:vs.all Value.oneCell'=true) (hcs:iH cs o vs=cs') :
  ∃ w',(storeVar t ⟨b,o,none⟩ (.agg vs.toArray)).run P w=.ok () w'∧Upd b w w'∧Blk w' b bt cs':=by
 have hlt:o+0+vs.length≤cs.length:=Nat.le_of_ble_eq_true ho;obtain ⟨w',hr,hu,hb⟩:=iV (P:=P) (t:=bt) vs o 0 cs w h hlt (λ v hv=>List.all_eq_true.1 h1 v hv);refine ⟨w',?_,hu,by rw [← hcs];exact hb⟩;simp only [storeVar,ht.size,Sem.run_bind,Result.andThen_ok,Value.cells];simpa [Nat.eq_of_beq_eq_true hm] using hr
end mem
section rules
variable [Rn]
variable {P:Program} {n:Nat} {e:dJ} {w:World} {Q:dI} {ops:Array Oper} {rest:List Oper} {d:Nat} {ty:TypeId} {pos:String} {aft:Array Edge}
theorem TL.box {t:TypeId} {x:Operand} {v:Value} {cs:List Value} (hx:val e x=some v) (hcs:v.cells.toList=cs) (hd:Nat.blt d n=true)
  (k:∀ b w',Grow w w'→Blk w' b t cs→w.heap.size=b→w'.heap.size=b+1→TL P n ops rest ((d,.pointer (some ⟨b,0,none⟩))::e) w' Q) :
  TL P n ops (⟨some d,.box t x,ty,pos,aft,none⟩::rest) e w Q :=
 TL.run (v:=.pointer (some ⟨w.heap.size,0,none⟩)) (w':=w.alloc (.cells cs.toArray t)) (λ a ha=>by
  have hca:v.cells=cs.toArray:=by rw [← hcs]
  simp [execOp,Instr.box,newVar,newRow,ha.eval hx,hca]) hd
  (k _ _ (mD _) (blk_alloc cs t) rfl sM)
theorem TL.alloc {t:TypeId} {z:Value} {cs:List Value} [hz:Zero P t z] (hcs:z.cells.toList=cs) (hd:Nat.blt d n=true)
  (k:∀ b w',Grow w w'→Blk w' b t cs→w.heap.size=b→w'.heap.size=b+1→TL P n ops rest ((d,.pointer (some ⟨b,0,none⟩))::e) w' Q) :
  TL P n ops (⟨some d,.alloc t,ty,pos,aft,none⟩::rest) e w Q :=
 TL.run (v:=.pointer (some ⟨w.heap.size,0,none⟩)) (w':=w.alloc (.cells cs.toArray t)) (λ a ha=>by
  have hca:z.cells=cs.toArray:=by rw [← hcs]
  simp [execOp,Instr.alloc,newVar,newRow,hz.run,hca]) hd
  (k _ _ (mD _) (blk_alloc cs t) rfl sM)
theorem aQ {t:TypeId} {x:Operand} {p:Addr} {v:Value} [ht:One P t] (hx:val e x=some (.pointer (some p))) (hc:w.cell? p=some v) (hd:Nat.blt d n=true)
  (k:TL P n ops rest ((d,v)::e) w Q):TL P n ops (⟨some d,.load t x,ty,pos,aft,none⟩::rest) e w Q :=
 TL.run (λ a ha=>by simp [execOp,Instr.loadAt,ha.eval hx,Instr.sureAddr,run_loadVar_one ht hc]) hd k
theorem TL.loadN {t bt:TypeId} {m b o:Nat} {x:Operand} {cs vs:List Value} [ht:Agg P t m] (hx:val e x=some (.pointer (some ⟨b,o,none⟩))) (hb:Blk w b bt cs) (hv:(cs.drop o).take m=vs) (hl:Nat.beq vs.length m=true)
  (hd:Nat.blt d n=true) (k:TL P n ops rest ((d,.agg vs.toArray)::e) w Q):TL P n ops (⟨some d,.load t x,ty,pos,aft,none⟩::rest) e w Q :=
 TL.run (λ a ha=>by simp [execOp,Instr.loadAt,ha.eval hx,Instr.sureAddr,iR ht (Nat.eq_of_beq_eq_true hl) (hb.cells hv)]) hd k
theorem dQ {t bt:TypeId} {x y:Operand} {b o:Nat} {v:Value} {cs cs':List Value} [ht:One P t] (hx:val e x=some (.pointer (some ⟨b,o,none⟩))) (hy:val e y=some v) (hb:Blk w b bt cs)
  (h1:v.oneCell'=true) (ho:Nat.blt o cs.length=true) (hcs:cs.set o v=cs')
  (k:∀ w',Upd b w w'→Blk w' b bt cs'→w'.heap.size=w.heap.size→TL P n ops rest e w' Q):TL P n ops (⟨none,.store t x y,ty,pos,aft,none⟩::rest) e w Q:=by
 obtain ⟨w',hr,hu,hb'⟩:=run_storeVar_one (P:=P) ht hb ho h1 hcs;exact TL.run_skip (λ a ha=>by simp [execOp,Instr.storeAt,ha.eval hx,ha.eval hy,Instr.sureAddr,hr]) (k w' hu hb' hu.size)
theorem run_fieldPlace {s:TypeId} {f off b o:Nat} (h:FieldAt P s f off) (w:World):(Instr.fieldAt s (.pointer (some ⟨b,o,none⟩)) f).run P w=.ok (.pointer (some ⟨b,o+off,none⟩)) w:=by
 have h:=h.h;unfold fieldB at h;split at h
 ·rename_i fs hu;split at h
  ·rename_i fd hfd
   cases hi:P.info? fd.type with
   | none=>simp [hi] at h
   | some i =>
    simp [hi] at h;obtain ⟨rfl,h2⟩:=h;simp [Instr.fieldAt,underlying,hu,hfd,Instr.sureAddr,fieldPlace,sizeOf,typeInfo,hi,h2,Addr.add_lit]
  ·cases h
 ·cases h
theorem TL.fieldAddr {s:TypeId} {f off b o:Nat} {x:Operand} [h:FieldAt P s f off] (hx:val e x=some (.pointer (some ⟨b,o,none⟩))) (hd:Nat.blt d n=true)
  (k:TL P n ops rest ((d,.pointer (some ⟨b,o+off,none⟩))::e) w Q):TL P n ops (⟨some d,.fieldAddr s x f,ty,pos,aft,none⟩::rest) e w Q :=
 TL.run (λ a ha=>by simp [execOp,ha.eval hx,run_fieldPlace h]) hd k
theorem TL.len_slice {t elem size bytes:Nat} {x:Operand} {a:Option Addr} {m c:Nat} [ht:SliceTy P t elem size bytes] (hx:val e x=some (.slice a m c)) (hd:Nat.blt d n=true)
  (k:TL P n ops rest ((d,.int .i64 (m:Int))::e) w Q):TL P n ops (⟨some d,.call ⟨.builtin .len,#[x],#[t]⟩,ty,pos,aft,none⟩::rest) e w Q :=
 TL.run (λ a ha=>by simp [execOp,resolve,invoke,builtin,Builtin.len_,underlying,ht.und,ha.eval hx,goInt]) hd k
theorem TL.min2 {x y:Operand} {kd:IntKind} {p q:Int} {t1 t2:TypeId} (hx:val e x=some (.int kd p)) (hy:val e y=some (.int kd q)) (hd:Nat.blt d n=true)
  (k:TL P n ops rest ((d,.int kd (if q<p then q else p))::e) w Q):TL P n ops (⟨some d,.call ⟨.builtin .min,#[x,y],#[t1,t2]⟩,ty,pos,aft,none⟩::rest) e w Q :=
 TL.run (λ a ha=>by simp [execOp,resolve,invoke,builtin,Builtin.min_,Builtin.min2,ha.eval hx,ha.eval hy]) hd k
theorem TL.addI {x y:Operand} {p q:Int} {t1 t2:TypeId} (hx:val e x=some (.int .i64 p)) (hy:val e y=some (.int .i64 q)) (h1 : -9223372036854775808≤p+q) (h2:p+q≤9223372036854775807) (hd:Nat.blt d n=true)
  (k:TL P n ops rest ((d,.int .i64 (p+q))::e) w Q):TL P n ops (⟨some d,.binOp .add t1 x y t2,ty,pos,aft,none⟩::rest) e w Q :=
 TL.run (λ a ha=>by simp [execOp,binOp,bG,Op.intArith,ha.eval hx,ha.eval hy,IntWalk.i64_in _ ⟨h1,h2⟩]) hd k
theorem TL.subI {x y:Operand} {p q:Int} {t1 t2:TypeId} (hx:val e x=some (.int .i64 p)) (hy:val e y=some (.int .i64 q)) (h1 : -9223372036854775808≤p-q) (h2:p-q≤9223372036854775807) (hd:Nat.blt d n=true)
  (k:TL P n ops rest ((d,.int .i64 (p-q))::e) w Q):TL P n ops (⟨some d,.binOp .sub t1 x y t2,ty,pos,aft,none⟩::rest) e w Q :=
 TL.run (λ a ha=>by simp [execOp,binOp,bG,Op.intArith,ha.eval hx,ha.eval hy,IntWalk.i64_in _ ⟨h1,h2⟩]) hd k
theorem TL.rem {x y:Operand} {kd:IntKind} {p q:Int} {t1 t2:TypeId} (hx:val e x=some (.int kd p)) (hy:val e y=some (.int kd q)) (h0:q≠0) (hd:Nat.blt d n=true)
  (k:TL P n ops rest ((d,.int kd (p.tmod q))::e) w Q):TL P n ops (⟨some d,.binOp .rem t1 x y t2,ty,pos,aft,none⟩::rest) e w Q :=
 TL.run (λ a ha=>by simp [execOp,binOp,bG,Op.intDiv,ha.eval hx,ha.eval hy,h0]) hd k
end rules
attribute [irreducible] Blk
def Ret (R:Value→World→Prop):Ending→World→Prop:=λ x w=>∃ v,x=.returned v∧R v w
theorem Ret.mono {R R':Value→World→Prop} {x:Ending} {w:World} (h:Ret R x w) (k:∀ v w,R v w→R' v w):Ret R' x w :=
 let ⟨v,hx,hr⟩:=h;⟨v,hx,k v w hr⟩
def at':Option Addr→Nat→Addr
 | some p,k=>⟨p.block,p.off+k,none⟩
 | none,_=>default
theorem at_some (b o k:Nat):at' (some ⟨b,o,none⟩) k=⟨b,o+k,none⟩:=rfl
def Row (F:Nat→Prop) (w:World) (a:Option Addr) (cs:List Value):Prop :=
 match a with
 | none=>cs=[]
 | some p=>cs≠[]→p.spot=none∧F p.block∧p.block<w.heap.size∧∀ j v,cs[j]? = some v→w.cell? ⟨p.block,p.off+j,none⟩=some v
theorem ne_nil_at {cs:List Value} {j:Nat} {v:Value} (h:cs[j]? = some v):cs≠[]:=by rintro rfl;simp at h
structure Sl (F:Nat→Prop) (w:World) (sz:Nat) (a:Option Addr) (n c:Nat) (cs:List Value):Prop where
 len:cs.length=n*sz
 cap:n≤c
 max:c≤maxLen
 nil:a=none→c=0
 row:Row F w a cs
section sl
variable {P:Program} {F:Nat→Prop} {w w':World} {sz:Nat} {a:Option Addr} {n c:Nat} {cs:List Value}
theorem Row.cell (h:Row F w a cs) {j:Nat} {v:Value} (hj:cs[j]? = some v):w.cell? (at' a j)=some v:=by
 cases a with
 | none=>simp only [Row] at h;subst h;simp at hj
 | some p=>exact (h (ne_nil_at hj)).2.2.2 j v hj
theorem Row.cell_add (h:Row F w a cs) {p:Addr} (hp:a=some p):∀ j v,cs[j]? = some v→w.cell? (p.add j)=some v:=by
 subst hp;intro j v hj;obtain ⟨h1,h2,h3,h4⟩:=h (ne_nil_at hj);obtain ⟨b,o,s⟩:=p;simp only at h1;subst h1;rw [Addr.add_lit];exact h4 j v hj
theorem Row.mono {F':Nat→Prop} (h:Row F w a cs) (hF:∀ k,F k→F' k):Row F' w a cs:=by
 cases a with
 | none=>exact h
 | some p=>exact λ hn=>⟨(h hn).1,hF _ (h hn).2.1,(h hn).2.2⟩
theorem Row.keep (h:Row F w a cs) (hb:∀ k,F k→k<w.heap.size→w'.heap[k]? = w.heap[k]?) (hs:w.heap.size≤w'.heap.size):Row F w' a cs:=by
 cases a with
 | none=>exact h
 | some p=>exact λ hn=>(λ h=>⟨h.1,h.2.1,Nat.lt_of_lt_of_le h.2.2.1 hs,λ j v hj=>(World.cell?_of_block (w:=w) (a:=⟨p.block,p.off+j,none⟩) (hb p.block h.2.1 h.2.2.1)).trans (h.2.2.2 j v hj)⟩) (h hn)
theorem Sl.keep (h:Sl F w sz a n c cs) (hb:∀ k,F k→k<w.heap.size→w'.heap[k]? = w.heap[k]?) (hs:w.heap.size≤w'.heap.size):Sl F w' sz a n c cs :=
 ⟨h.len,h.cap,h.max,h.nil,h.row.keep hb hs⟩
theorem Sl.grow (h:Sl F w sz a n c cs) (g:Grow w w'):Sl F w' sz a n c cs:=h.keep (λ k _ hk=>g.block k hk) g.size
theorem Sl.upd {b:Nat} (h:Sl F w sz a n c cs) (u:Upd b w w') (hF:∀ k,F k→k≠b):Sl F w' sz a n c cs:=h.keep (λ k hk _=>u.block k (hF k hk)) (Nat.le_of_eq u.size.symm)
theorem Sl.mono {F':Nat→Prop} (h:Sl F w sz a n c cs) (hF:∀ k,F k→F' k):Sl F' w sz a n c cs:=⟨h.len,h.cap,h.max,h.nil,h.row.mono hF⟩
theorem Sl.nil_mk (F:Nat→Prop) (w:World) (sz:Nat):Sl F w sz none 0 0 []:=⟨sM,Nat.le_refl _,Nat.zero_le _,λ _=>rfl,rfl⟩
theorem Sl.tight (h:Sl F w sz a n c cs):Sl (λ k=>F k∧k<w.heap.size) w sz a n c cs:=⟨h.len,h.cap,h.max,h.nil,by
 have h1:=h.row
 cases a with
 | none=>exact h1
 | some p=>exact λ hn=>⟨(h1 hn).1,⟨(h1 hn).2.1,(h1 hn).2.2.1⟩,(h1 hn).2.2⟩⟩
theorem aM {base:Nat} {e:TypeId} {v:Value} {xs:List Value} (h:w.ownsRow base e sz v n xs):∃ a c,v=.slice a n c∧Sl (λ k=>base≤k∧v.ownBlock=some k) w sz a n c xs:=by
 obtain ⟨h1,h2⟩:=h;rcases h2 with ⟨rfl,rfl⟩|⟨g,cap,cur,rfl,hg,hh,hn,hm,hs,ht⟩
 ·simp at h1;subst h1;exact ⟨none,0,rfl,Sl.nil_mk _ _ _⟩
 ·refine ⟨some ⟨g,0,none⟩,cap,rfl,h1,hn,hm,λ h=>by simp at h,λ _=>⟨rfl,⟨hg,rfl⟩,(Array.getElem?_eq_some_iff.1 hh).1,λ j v hj=>?_⟩⟩
  have:cur[j]? = some v:=by
   rw [← ht,List.getElem?_take] at hj;split at hj
   ·simpa using hj
   ·cases hj
  simp [World.cell?,hh,this]
theorem aV {b m:Nat} {t:TypeId} {cs:List Value} (hb:Blk w b t cs) (hl:cs.length=m*sz) (hm:m≤maxLen):Sl (λ k=>k=b) w sz (some ⟨b,0,none⟩) m m cs :=
 ⟨hl,Nat.le_refl _,hm,(λ h=>by cases h),λ _=>⟨rfl,rfl,hb.lt,(λ j v hj=>by rw [Nat.zero_add];exact hb.cell hj)⟩⟩
theorem cL {base:Nat} {e:TypeId} {v:Value} {xs:List Value} (h:w.ownsRow base e sz v n xs) (hb:∀ k,base≤k→v.ownBlock=some k→w'.heap[k]? = w.heap[k]?):w'.ownsRow base e sz v n xs:=by
 obtain ⟨h1,h2⟩:=h;refine ⟨h1,?_⟩;rcases h2 with h2|⟨g,cap,cur,hv,hg,hh,r⟩
 ·exact Or.inl h2
 ·exact Or.inr ⟨g,cap,cur,hv,hg,by rw [hb g hg (by rw [hv];rfl)];exact hh,r⟩
theorem aT {base:Nat} {e:TypeId} {v:Value} {xs:List Value} (h:w.ownsRow base e sz v n xs) {k:Nat} (hk:v.ownBlock=some k):base≤k∧k<w.heap.size:=h.lt k hk
theorem aS {base:Nat} {e:TypeId} {v:Value} {xs:List Value} (h:w.ownsRow base e sz v n xs) (g:Grow w w'):w'.ownsRow base e sz v n xs:=cL h λ k _ hv=>g.block k (aT h hv).2
theorem gA {base b:Nat} {e:TypeId} {v:Value} {xs:List Value} (h:w.ownsRow base e sz v n xs) (u:Upd b w w') (hb:b<base):w'.ownsRow base e sz v n xs:=cL h λ k hk _=>u.block k oM
theorem eC {base base':Nat} {e:TypeId} {v:Value} {xs:List Value} (h:w.ownsRow base e sz v n xs) (hb:base'≤base):w.ownsRow base' e sz v n xs:=by
 obtain ⟨h1,h2⟩:=h;refine ⟨h1,?_⟩;rcases h2 with h2|⟨g,cap,cur,hv,hg,r⟩
 ·exact Or.inl h2
 ·exact Or.inr ⟨g,cap,cur,hv,Nat.le_trans hb hg,r⟩
theorem dD {v:Value} {b:Nat} {t:TypeId} {cs:List Value} (g:w.grownBy w' v.ownBlock) (hb:v.ownBlock≠some b) (h:Blk w b t cs):Blk w' b t cs:=by
 unfold Blk at *;rw [g.block b (Array.getElem?_eq_some_iff.1 h).1 (λ e=>hb e.symm)];exact h
theorem aL {w0:World} {B:Nat} {row:Option Nat} (g:w.grownBy w' row) (hB:B≤w.heap.size) (hr:∀ k,row=some k→B≤k) (h:Below B w0 w):Below B w0 w':=h.grown g hB hr
end sl
section rules
variable [Rn]
variable {P:Program} {n:Nat} {e:dJ} {w:World} {Q:dI} {ops:Array Oper} {rest:List Oper} {d:Nat} {ty:TypeId} {pos:String} {aft:Array Edge}
theorem run_callFunc {f:FuncId} [h:FnOk P f] (args:Array Value) (w:World):(callFunc f args).run P w=.ok (.enter f args) w:=by
 have h:=h.h;unfold fnB at h
 cases hf:P.funcs[f]? with
 | none=>simp [hf] at h
 | some fn =>
  simp [hf] at h;obtain ⟨c,hc⟩:=Option.isSome_iff_exists.1 h.2;simp [callFunc,hf,h.1,hc]
def argsV (f:Operand→Option Value):List Operand→Option (List Value)
 | []=>some []
 | x::r=>match f x,argsV f r with
  | some v,some vs=>some (v::vs)
  | _,_=>none
theorem argsV_eval {r:Act} (hr:Fits n e r):∀ (xs:List Operand) (vs:List Value),argsV (val e) xs=some vs→xs.toArray.map r.eval=vs.toArray:=by
 have key:∀ (xs:List Operand) (vs:List Value),argsV (val e) xs=some vs→xs.map r.eval=vs:=by
  intro xs
  induction xs with
  | nil=>intro vs h;simp only [argsV,Option.some.injEq] at h;subst h;rfl
  | cons x xs ih =>
   intro vs h;simp only [argsV] at h;split at h
   ·rename_i v vs' h1 h2;simp only [Option.some.injEq] at h;subst h;simp [hr.eval h1,ih vs' h2]
   ·cases h
 intro xs vs h;simp [key xs vs h]
theorem aA {f:FuncId} {xs:List Operand} {tys:Array TypeId} {vs:List Value} {R:Value→World→Prop} [hf:FnOk P f] (hx:argsV (val e) xs=some vs)
  (hc:Calls P f vs.toArray w (Ret R)) (hd:Nat.blt d n=true)
  (k:∀ v w',R v w'→TL P n ops rest ((d,v)::e) w' Q) :
  TL P n ops (⟨some d,.call ⟨.value (.func f),xs.toArray,tys⟩,ty,pos,aft,none⟩::rest) e w Q:=TL.mk λ a ha =>
 wpListIn_plain rfl λ K hK=>by
  have hr:(execOp a.eval ⟨some d,.call ⟨.value (.func f),xs.toArray,tys⟩,ty,pos,aft,none⟩).run P w=.ok (.enter f vs.toArray) w:=by
   have:=argsV_eval ha xs vs hx;simp [execOp,resolve,Act.eval,Deferred.ofValue,invoke,run_callFunc] at this ⊢;exact this
  refine Oper.wpFR _ (.inr (.inr (.inl ⟨_,_,_,hr,Calls.mono hc ?_⟩)));rintro x w' ⟨v,rfl,hv⟩;exact ⟨v,rfl,hK _ _ ((k v w' hv).out (ha.put hd v))⟩
theorem aC {t elem size bytes:Nat} {x i:Operand} {a:Option Addr} {m c j:Nat} {kd:IntKind} {z:Int} [ht:SliceTy P t elem size bytes] (hx:val e x=some (.slice a m c)) (hi:val e i=some (.int kd z))
  (hz:z=(j:Int)) (hj:j<m) {o':Nat} (ho:j*size=o') (hs:∃ F cs,Sl F w size a m c cs) (hd:Nat.blt d n=true)
  (k:TL P n ops rest ((d,.pointer (some (at' a o')))::e) w Q):TL P n ops (⟨some d,.indexAddr t x i,ty,pos,aft,none⟩::rest) e w Q :=
 TL.run (λ r hr=>by
  obtain ⟨F,cs,hs⟩:=hs;subst ho
  cases a with
  | none=>have:=hs.nil rfl;have:=hs.cap;omega
  | some p =>
   obtain ⟨b,o,s⟩:=p
   have hne:cs≠[]:=by
    rintro rfl;have h2:=hs.len;obtain ⟨_,_,_,_,_,_,_,h3⟩:=ht.info;simp only [List.length_nil] at h2;have:=Nat.mul_pos (show 0<m by omega) (Nat.pos_of_ne_zero h3);omega
   have h1:s=none:=(hs.row hne).1;subst h1;subst hz
   simp [execOp,hr.eval hx,hr.eval hi,Instr.indexAt,asIntOf,underlying,ht.und,ht.size,Nat.not_le.2 hj,Addr.add_lit,at']) hd k
theorem cT {k:IntKind} {z:Int} {j y:Nat} {code:BoundsCode} (hz:z=(j:Int)) (hj:j≤y) (w:World):(Instr.sliceBound (.int k z) y code).run P w=.ok j w:=by
 subst hz;have:(j:Int)≤(y:Int):=by omega
 simp [Instr.sliceBound,asIntOf,this]
def bnd (e:dJ):Option Operand→Nat→Nat→Prop
 | none,j,dflt=>j=dflt
 | some x,j,_=>∃ k z,val e x=some (.int k z)∧z=(j:Int)
theorem aP (j:Nat):bnd e none j j:=rfl
theorem bI {x:Operand} {k:IntKind} {z:Int} {j dflt:Nat} (h:val e x=some (.int k z)) (hz:z=(j:Int)):bnd e (some x) j dflt:=⟨k,z,h,hz⟩
theorem TL.slice {t elem size bytes:Nat} {x:Operand} {lo hi mx:Option Operand} {F:Nat→Prop} {a:Option Addr} {m c l h mm:Nat} {cs:List Value} [ht:SliceTy P t elem size bytes]
  (hx:val e x=some (.slice a m c)) (hs:Sl F w size a m c cs) (hl:bnd e lo l 0) (hh:bnd e hi h m) (hm:bnd e mx mm c) (hno:hi=none→mx=none) (b1:l≤h) (b2:h≤m) (b3:h≤mm) (b4:mm≤c) (hd:Nat.blt d n=true)
  (k:∀ a',Sl F w size a' (h-l) (mm-l) ((cs.drop (l*size)).take ((h-l)*size))→(a'=none↔a=none)→TL P n ops rest ((d,.slice a' (h-l) (mm-l))::e) w Q) :
  TL P n ops (⟨some d,.slice t x lo hi mx,ty,pos,aft,none⟩::rest) e w Q:=by
 have hbs:∀ r,Fits n e r→(Instr.sliceBounds true m c (lo.map r.eval) (hi.map r.eval) (mx.map r.eval)).run P w=.ok (l,h,mm) w:=by
  intro r hr
  cases lo with
  | none =>
   simp only [bnd] at hl;subst hl
   cases hi with
   | none =>
    have h0:=hno rfl;subst h0
    simp only [bnd] at hh hm;subst hh;subst hm
    simp [Instr.sliceBounds]
   | some y =>
    obtain ⟨k2,z2,v2,e2⟩:=hh
    cases mx with
    | none=>simp only [bnd] at hm;subst hm;simp [Instr.sliceBounds,hr.eval v2,cT e2 b3]
    | some u=>obtain ⟨k3,z3,v3,e3⟩:=hm;simp [Instr.sliceBounds,hr.eval v2,hr.eval v3,cT e2 b3,cT e3 b4]
  | some x1 =>
   obtain ⟨k1,z1,v1,e1⟩:=hl
   cases hi with
   | none =>
    have h0:=hno rfl;subst h0
    simp only [bnd] at hh hm;subst hh;subst hm
    simp [Instr.sliceBounds,hr.eval v1,cT e1 b1]
   | some y =>
    obtain ⟨k2,z2,v2,e2⟩:=hh
    cases mx with
    | none=>simp only [bnd] at hm;subst hm;simp [Instr.sliceBounds,hr.eval v1,hr.eval v2,cT e2 b3,cT e1 b1]
    | some u=>obtain ⟨k3,z3,v3,e3⟩:=hm;simp [Instr.sliceBounds,hr.eval v1,hr.eval v2,hr.eval v3,cT e2 b3,cT e3 b4,cT e1 b1]
 have hlen:((cs.drop (l*size)).take ((h-l)*size)).length=(h-l)*size:=by
  rw [List.length_take,List.length_drop,hs.len,← Nat.sub_mul];exact Nat.min_eq_left (Nat.mul_le_mul_right _ oM)
 refine TL.run (v:=.slice (if mm=l then a else a.map (·.add (l*size))) (h-l) (mm-l)) (w':=w) (λ r hr=>?_) hd (k _ ⟨hlen,oM,by have:=hs.max;omega,?_,?_⟩ ?_)
 ·simp [execOp,hr.eval hx,Instr.sliceAt,underlying,ht.und,Instr.slice,hbs r hr,ht.size]
 ·intro h0;split at h0
  ·have:=hs.nil h0;omega
  ·have:=hs.nil (by simpa using h0);omega
 ·have hrow:=hs.row;split
  ·rename_i hml;have:(h-l)=0:=by omega
   rw [this]
   cases a with
   | none=>simp [Row]
   | some p=>exact λ hn=>by simp at hn
  ·cases a with
   | none=>simp only [Row] at hrow;subst hrow;simp [Row]
   | some p =>
    obtain ⟨b,o,s⟩:=p;intro hne;obtain ⟨h1,h2,h3,h4⟩:=hrow (by rintro rfl;simp at hne);simp only at h1;subst h1
    simp only [Addr.add_lit];refine ⟨trivial,h2,h3,λ j v hj=>?_⟩;rw [List.getElem?_take] at hj;split at hj
    ·rw [List.getElem?_drop] at hj;have:=h4 (l*size+j) v hj;simpa [Nat.add_assoc] using this
    ·cases hj
 ·split
  ·exact Iff.rfl
  ·simp
theorem TL.append {t elem size bytes:Nat} {x y:Operand} {base m k0 c:Nat} {v:Value} {xs news:List Value} {F:Nat→Prop} {a:Option Addr} [ht:SliceTy P t elem size bytes]
  (hx:val e x=some v) (hy:val e y=some (.slice a m c)) (hown:w.ownsRow base elem size v k0 xs) (hs:Sl F w size a m c news) (h1:∀ u∈news,u.oneCell'=true)
  (h63:k0+m≤maxLen) (hbytes:(k0+m)*bytes≤140737488355328) (hbase:base≤w.heap.size) (hd:Nat.blt d n=true)
  (k:∀ v' w',w'.ownsRow base elem size v' (k0+m) (xs++news)→w.grownBy w' v.ownBlock→(v'=.slice none 0 0↔v=.slice none 0 0∧m=0)→TL P n ops rest ((d,v')::e) w' Q) :
  TL P n ops (⟨some d,.call ⟨.builtin .append,#[x,y],#[t,t]⟩,ty,pos,aft,none⟩::rest) e w Q:=by
 obtain ⟨i,z,hi,hsz,hby,hz,hzs,hne⟩:=ht.info
 cases a with
 | none =>
  have hm:=hs.cap;have hc:=hs.nil rfl;have hn:m=0:=by omega
  subst hn;subst hc;have hnews:news=[]:=List.eq_nil_of_length_eq_zero (by simpa using hs.len);subst hnews;have hrun:=run_append_owned_none (P:=P) (w:=w) base t ty elem i size ht.und hi v k0 xs hown;refine TL.run (v:=v) (w':=w) (λ r hr=>?_) hd (k v w (by simpa using hown) (World.grownBy.refl _ _) sM);simp [execOp,resolve,invoke,builtin,hr.eval hx,hr.eval hy,hrun]
 | some ad =>
  obtain ⟨v',w',hrun,h2,h3,h4⟩:=run_append_own (P:=P) w base t ty elem i z size bytes ht.und hi hz hsz hby hzs (Nat.pos_of_ne_zero hne) v k0 xs hown ad m c news hs.len (hs.row.cell_add rfl) h1 h63 hbytes hbase;refine TL.run (v:=v') (w':=w') (λ r hr=>?_) hd (k v' w' h2 h3 h4);simp [execOp,resolve,invoke,builtin,hr.eval hx,hr.eval hy,hrun]
theorem run_eqNil {t e:TypeId} {a:Option Addr} {m c:Nat} (h:P.underlying t=some (.slice e)) (w:World):(binOp .eql t (.slice a m c) (.slice none 0 0)).run P w=.ok (.bool a.isNone) w:=by
 simp only [binOp];simp [Op.equal,Op.maxDepth,Lib.run_equalIn_slice_nil w 9999 t e a m c 0 0 h]
def boolB (P:Program) (t:TypeId):Bool:=match P.underlying t with|some .bool=>true|_=>false
class BoolTy (P:Program) (t:TypeId):Prop where
 h:boolB P t=true
theorem BoolTy.und {t:TypeId} (h:BoolTy P t):P.underlying t=some .bool:=by
 have h:=h.h;unfold boolB at h;split at h
 ·assumption
 ·cases h
theorem TL.eqNil {t elem size bytes:Nat} {x y:Operand} {a:Option Addr} {m c:Nat} {t2:TypeId} [ht:SliceTy P t elem size bytes] (hx:val e x=some (.slice a m c)) (hy:val e y=some (.slice none 0 0)) (hd:Nat.blt d n=true)
  (k:TL P n ops rest ((d,.bool a.isNone)::e) w Q):TL P n ops (⟨some d,.binOp .eql t x y t2,ty,pos,aft,none⟩::rest) e w Q :=
 TL.run (λ r hr=>by
  have hg:eqGuard .eql t x y (.slice a m c) (.slice none 0 0)=Pure.pure ():=rfl;simp only [execOp,hr.eval hx,hr.eval hy,hg]
  simp [run_eqNil ht.und]) hd k
theorem TL.neNil {t elem size bytes:Nat} {x y:Operand} {a:Option Addr} {m c:Nat} {t2:TypeId} [ht:SliceTy P t elem size bytes] (hx:val e x=some (.slice a m c)) (hy:val e y=some (.slice none 0 0)) (hd:Nat.blt d n=true)
  (k:TL P n ops rest ((d,.bool (!a.isNone))::e) w Q):TL P n ops (⟨some d,.binOp .neq t x y t2,ty,pos,aft,none⟩::rest) e w Q :=
 TL.run (λ r hr=>by
  have hg:eqGuard .neq t x y (.slice a m c) (.slice none 0 0)=Pure.pure ():=rfl;simp only [execOp,hr.eval hx,hr.eval hy,hg]
  simp [run_neq_slice_nil_any w t elem a m c 0 0 ht.und]) hd k
theorem run_append_empty {t elem size bytes:Nat} (ht:SliceTy P t elem size bytes) {ty':TypeId} {base m c:Nat} {a0 a:Option Addr} {news:List Value} {F:Nat→Prop}
  (hown:w.ownsRow base elem size (.slice a0 0 0) 0 []) (hs:Sl F w size a m c news) (h1:∀ u∈news,u.oneCell'=true) (hbytes:m*bytes≤140737488355328) (hbase:base≤w.heap.size) :
  ∃ v' w',(Builtin.append_ #[t,t] ty' #[.slice a0 0 0,.slice a m c]).run P w=.ok v' w'∧w'.ownsRow base elem size v' m news∧Grow w w':=by
 obtain ⟨i,z,hi,hsz,hby,hz,hzs,hne⟩:=ht.info;have h63:m≤maxLen:=Nat.le_trans hs.cap hs.max;have h63':m≤9223372036854775807:=by simp only [maxLen] at h63;omega
 by_cases hm:m=0
 ·subst hm;have hn:news=[]:=List.eq_nil_of_length_eq_zero (by simpa using hs.len);subst hn;refine ⟨.slice a0 0 0,w,?_,hown,Grow.refl _⟩;cases a0<;>cases a<;>simp [Builtin.append_,run_underlying ht.und,sizeOf,typeInfo,hi,Builtin.lenOf,Builtin.firstCells,loadCells,loadCellsFrom,storeCells]
 ·cases a with
  | none=>have:=hs.nil rfl;have:=hs.cap;omega
  | some ad =>
   have hl:=hs.len;rw [← hsz] at hl
   cases a0 with
   | none =>
    obtain ⟨v',w',hrun,h2,h3,h4⟩:=run_append_own (P:=P) w base t ty' elem i z size bytes ht.und hi hz hsz hby hzs (Nat.pos_of_ne_zero hne) _ 0 [] hown ad m c news hs.len (hs.row.cell_add rfl) h1 oM (by simpa using hbytes) hbase;refine ⟨v',w',hrun,by simpa using h2,Grow.mk ⟨h3.os,h3.tape,h3.output,h3.size,λ k hk=>h3.block k hk (by simp [Value.ownBlock])⟩⟩
   | some b0 =>
    have hfit:=growslice_fits (need:=m) (old:=0) (bytes:=bytes) oM hbytes;rw [← hby] at hfit;have hr:=run_append_grow (P:=P) w t ty' elem i z ht.und hi hz b0 0 0 [] sM sM ad m c news hl (hs.row.cell_add rfl) oM oM (by simpa using hfit);have hge:=grownCap_ge w m 0 elem;have hcm:grownCap w m 0 elem≤maxLen:=grownCap_le_maxLen w m 0 elem h63;simp only [Nat.zero_add,Array.empty_append] at hr;refine ⟨_,_,hr,⟨hs.len,.inr ⟨w.heap.size,_,_,rfl,hbase,heap_alloc_new w.drew _,hge,hcm,?_,?_⟩⟩,Grow.mk ⟨rfl,rfl,rfl,sM,λ k hk=>Below.heap_alloc w.drew _ k hk⟩⟩
    ·simp only [Array.size_append,List.size_toArray,List.length_nil,size_zeroCells,hzs,hs.len,Nat.zero_add,← Nat.add_mul];congr 1
     omega
    ·simp only [Array.toList_append,← hs.len];exact List.take_left
theorem lC {t elem size bytes:Nat} {x y:Operand} {base m c:Nat} {a0 a:Option Addr} {news:List Value} {F:Nat→Prop} [ht:SliceTy P t elem size bytes]
  (hx:val e x=some (.slice a0 0 0)) (hy:val e y=some (.slice a m c)) (hown:w.ownsRow base elem size (.slice a0 0 0) 0 []) (hs:Sl F w size a m c news) (h1:∀ u∈news,u.oneCell'=true)
  (hbytes:m*bytes≤140737488355328) (hbase:base≤w.heap.size) (hd:Nat.blt d n=true)
  (k:∀ v' w',w'.ownsRow base elem size v' m news→Grow w w'→TL P n ops rest ((d,v')::e) w' Q) :
  TL P n ops (⟨some d,.call ⟨.builtin .append,#[x,y],#[t,t]⟩,ty,pos,aft,none⟩::rest) e w Q:=by
 obtain ⟨v',w',hrun,h2,h3⟩:=run_append_empty ht (ty':=ty) hown hs h1 hbytes hbase;refine TL.run (v:=v') (w':=w') (λ r hr=>?_) hd (k v' w' h2 h3);simp [execOp,resolve,invoke,builtin,hr.eval hx,hr.eval hy,hrun]
theorem eL {base elem size b:Nat} (hb:Blk w b elem []) (hbase:base≤b):w.ownsRow base elem size (.slice (some ⟨b,0,none⟩) 0 0) 0 [] :=
 ⟨sM,.inr ⟨b,0,#[],rfl,hbase,by simpa [Blk] using hb,Nat.le_refl _,Nat.zero_le _,sM,sM⟩⟩
theorem own_lit {base elem size b m:Nat} {cs:List Value} (hb:Blk w b elem cs) (hbase:base≤b) (hl:cs.length=m*size) (hm:m≤maxLen):w.ownsRow base elem size (.slice (some ⟨b,0,none⟩) m m) m cs :=
 ⟨hl,.inr ⟨b,m,cs.toArray,rfl,hbase,by simpa [Blk] using hb,Nat.le_refl _,hm,by simp [hl],by simp [← hl]⟩⟩
def partsV (f:Operand→Option Value):List (Nat×Operand)→Option (List (Nat×Value))
 | []=>some []
 | (i,x)::r=>match f x,partsV f r with
  | some v,some vs=>some ((i,v)::vs)
  | _,_=>none
theorem mM {r:Act} (hr:Fits n e r):∀ (ps:List (Nat×Operand)) (vs:List (Nat×Value)),partsV (val e) ps=some vs→ps.map (λ (p:Nat×Operand)=>(p.1,r.eval p.2))=vs
 | [],vs,h=>by simp only [partsV,Option.some.injEq] at h;subst h;rfl
 | (i,x)::ps,vs,h=>by
  simp only [partsV] at h;split at h
  ·rename_i v vs' h1 h2;simp only [Option.some.injEq] at h;subst h;simp [hr.eval h1,mM hr ps vs' h2]
  ·cases h
def fillV (ps:List (Nat×Nat)):List Value→List (Nat×Value)→Option (List Value)
 | cs,[]=>some cs
 | cs,(i,v)::r=>match ps[i]? with
  | some (off,sz)=>bif Nat.beq v.cells.size sz&&Nat.ble (off+v.cells.toList.length) cs.length then fillV ps (iH cs off v.cells.toList) r else none
  | none=>none
theorem length_putAt:∀ (vs:List Value) (cs:List Value) (o:Nat),(iH cs o vs).length=cs.length
 | [],_,_=>rfl
 | v::vs,cs,o=>by simp [iH,length_putAt vs]
theorem foldl_set_eq (off:Nat):∀ (vs:List Value) (k:Nat) (cs:List Value),
  ((vs.zipIdx k).foldl (λ cs (x:Value×Nat)=>cs.setIfInBounds (off+x.2) x.1) cs.toArray)=(iH cs (off+k) vs).toArray
 | [],_,_=>rfl
 | v::vs,k,cs=>by
  simp only [List.zipIdx_cons,List.foldl_cons,List.setIfInBounds_toArray,iH];rw [foldl_set_eq off vs (k+1) (cs.set (off+k) v)];rw [show off+k+1=off+(k+1) by omega]
theorem fill_eq {ps:List (Nat×Nat)} {pl:Nat→Option (Nat×Nat)} (hpl:∀ i x,ps[i]? = some x→pl i=some x):∀ (parts:List (Nat×Value)) (cs cs':List Value),fillV ps cs parts=some cs' →
  Instr.fill pl cs.toArray parts=some cs'.toArray
 | [],cs,cs',h=>by simp only [fillV,Option.some.injEq] at h;subst h;rfl
 | (i,v)::r,cs,cs',h=>by
  simp only [fillV] at h
  cases hp:ps[i]? with
  | none=>rw [hp] at h;cases h
  | some x =>
   obtain ⟨off,sz⟩:=x;rw [hp] at h;simp only [cond_eq_ite] at h;split at h
   ·rename_i hc;simp only [Bool.and_eq_true] at hc;have h1:=Nat.eq_of_beq_eq_true hc.1;have h2:=Nat.le_of_ble_eq_true hc.2;simp only [Instr.fill,hpl i _ hp];have h3:v.cells.toList.length=v.cells.size:=by simp
    rw [if_neg (by simp [h1];rw [h3,h1] at h2;exact h2)];have:=foldl_set_eq off v.cells.toList 0 cs;rw [Nat.add_zero] at this
    have e2:v.cells.zipIdx.foldl (λ cs (x:Value×Nat)=>cs.setIfInBounds (off+x.2) x.1) cs.toArray=(iH cs off v.cells.toList).toArray:=by
     rw [← this,← Array.foldl_toList];congr 1
     simp
    simp only [e2];exact fill_eq hpl r _ _ h
   ·cases h
def placesB (P:Program) (t:TypeId) (ps:List (Nat×Nat)):Bool :=
 match P.underlying t with
 | some (.struct fs)=>fs.toList.map (λ f=>(f.offset,((P.info? f.type).map (·.size)).getD 0))==ps&&fs.all λ f=>(P.info? f.type).isSome
 | _=>false
class Places (P:Program) (t:TypeId) (ps:outParam (List (Nat×Nat))):Prop where
 h:placesB P t ps=true
theorem Places.run {P:Program} {t:TypeId} {ps:List (Nat×Nat)} (h:Places P t ps):∃ fs,P.underlying t=some (.struct fs)∧∀ w,(fs.mapM λ f=>do pure (f.offset,← sizeOf f.type):Sem (Array (Nat×Nat))).run P w=.ok ps.toArray w:=by
 have h:=h.h;unfold placesB at h;split at h
 ·rename_i fs hu;refine ⟨fs,hu,λ w=>?_⟩;simp only [Bool.and_eq_true,beq_iff_eq] at h;obtain ⟨h1,h2⟩:=h;rw [Array.mapM_eq_foldlM]
  have key:∀ (l:List Field) (acc:Array (Nat×Nat)),(∀ f∈l,(P.info? f.type).isSome=true) →
    (l.foldlM (λ bs f=>bs.push <$> (do pure (f.offset,← sizeOf f.type):Sem (Nat×Nat))) acc).run P w=.ok (acc++(l.map (λ f=>(f.offset,((P.info? f.type).map (·.size)).getD 0))).toArray) w:=by
   intro l
   induction l with
   | nil=>intro acc _;simp
   | cons f l ih =>
    intro acc hl;obtain ⟨i,hi⟩:=Option.isSome_iff_exists.1 (hl f sM);simp only [List.foldlM_cons,Sem.run_bind,Sem.run_map,sizeOf,typeInfo,run_program,Result.andThen_ok,hi,Sem.run_pure];have:=ih (acc.push (f.offset,i.size)) (λ g hg=>hl g (by simp [hg]));simp only [sizeOf,typeInfo] at this;rw [this];simp [hi]
  have:=key fs.toList #[] (λ f hf=>by
   have:=Array.all_eq_true_iff_forall_mem.1 h2 f (by simpa using hf)
   exact this)
  rw [← Array.foldlM_toList];rw [this,h1];simp
 ·cases h
theorem TL.build {t:TypeId} {z:Value} {ps:List (Nat×Nat)} {parts:List (Nat×Operand)} {vs:List (Nat×Value)} {cs:List Value} [hz:Zero P t z] [hp:Places P t ps]
  (hx:partsV (val e) parts=some vs) (hf:fillV ps z.cells.toList vs=some cs) (hd:Nat.blt d n=true)
  (k:TL P n ops rest ((d,.agg cs.toArray)::e) w Q):TL P n ops (⟨some d,.build t parts.toArray,ty,pos,aft,none⟩::rest) e w Q:=by
 obtain ⟨fs,hu,hrun⟩:=hp.run;refine TL.run (λ r hr=>?_) hd k
 have hvs:parts.toArray.map (λ (i,x)=>(i,r.eval x))=vs.toArray:=by
  simp [mM hr parts vs hx]
 have hfill:Instr.fill (ps.toArray[·]?) z.cells vs=some cs.toArray:=fill_eq (pl:=(ps.toArray[·]?)) (by intro i x h;simpa using h) vs _ cs hf;simp only [execOp,hvs,Instr.build,hz.run,underlying,hu,Sem.run_bind,run_program,Result.andThen_ok,Sem.run_pure];rw [hrun w];simp only [Result.andThen_ok,hfill,Sem.run_pure]
theorem TL.buildSlice0 {t elem size bytes:Nat} [ht:SliceTy P t elem size bytes] (hd:Nat.blt d n=true)
  (k:∀ b w',Grow w w'→Blk w' b elem []→w.heap.size=b→w'.heap.size=b+1→TL P n ops rest ((d,.slice (some ⟨b,0,none⟩) 0 0)::e) w' Q) :
  TL P n ops (⟨some d,.buildSlice t 0 #[],ty,pos,aft,none⟩::rest) e w Q:=by
 refine TL.run (v:=.slice (some ⟨w.heap.size,0,none⟩) 0 0) (w':=w.alloc (.cells #[] elem)) (λ r hr=>?_) hd (k _ _ (mD _) (blk_alloc [] elem) rfl sM);have e0:Array.map (λ _=>(default:Value)) (Array.range 0) = #[]:=by apply Array.ext';simp
 simp [execOp,Instr.buildSlice,underlying,ht.und,ht.size,Instr.fill];rw [e0];simp [newRow]
theorem TL.buildSlice {t elem size bytes len:Nat} {parts:List (Nat×Operand)} {vs:List (Nat×Value)} {zs cs:List Value} {z:Value} [ht:SliceTy P t elem size bytes] [hz:Zero P elem z]
  (hx:partsV (val e) parts=some vs) (hzs:zs=(List.range (len*size)).map (λ i=>z.cells[i%z.cells.size]!)) (hf:fillV ((List.range len).map λ i=>(i*size,size)) zs vs=some cs)
  (hl:Nat.ble (len*size) 16777216=true) (hd:Nat.blt d n=true)
  (k:∀ b w',Grow w w'→Blk w' b elem cs→w.heap.size=b→w'.heap.size=b+1→cs.length=len*size→TL P n ops rest ((d,.slice (some ⟨b,0,none⟩) len len)::e) w' Q) :
  TL P n ops (⟨some d,.buildSlice t len parts.toArray,ty,pos,aft,none⟩::rest) e w Q:=by
 have hvs:∀ r,Fits n e r→parts.toArray.map (λ (i,x)=>(i,r.eval x))=vs.toArray:=by
  intro r hr;simp [mM hr parts vs hx]
 have hlen:∀ (vs:List (Nat×Value)) (ps:List (Nat×Nat)) (a b:List Value),fillV ps a vs=some b→b.length=a.length:=by
  intro vs ps
  induction vs with
  | nil=>intro a b h;simp only [fillV,Option.some.injEq] at h;rw [h]
  | cons p vs ih =>
   intro a b h;obtain ⟨i,v⟩:=p;simp only [fillV] at h;split at h
   ·simp only [cond_eq_ite] at h;split at h
    ·rw [ih _ _ h,length_putAt]
    ·cases h
   ·cases h
 have hcl:cs.length=len*size:=by rw [hlen _ _ _ _ hf,hzs];simp
 refine TL.run (v:=.slice (some ⟨w.heap.size,0,none⟩) len len) (w':=w.alloc (.cells cs.toArray elem)) (λ r hr=>?_) hd (k _ _ (mD _) (blk_alloc cs elem) rfl sM hcl)
 have hfill:Instr.fill (λ i=>some (i*size,size)) zs.toArray vs=some cs.toArray:=fill_eq (pl:=λ i=>some (i*size,size)) (by
  intro i x h;simp only [List.getElem?_map] at h
  cases hr:(List.range len)[i]? with
  | none=>simp [hr] at h
  | some j =>
   have:j=i:=by simpa using (List.getElem?_eq_some_iff.1 hr).2.symm
   simp [hr,this] at h
   rw [← h]) vs _ cs hf
 have hle:=Nat.le_of_ble_eq_true hl;have hne:¬ (2^24<len*size):=by omega
 have hzz:zs.toArray=(Array.range (len*size)).map (λ i=>z.cells[i%z.cells.size]!):=by
  rw [hzs];apply Array.ext';simp
 simp only [execOp,hvs r hr,Instr.buildSlice,underlying,ht.und,ht.size,Sem.run_bind,run_program,Result.andThen_ok,Sem.run_pure,gt_iff_lt,if_neg hne];by_cases h0:len*size=0
 ·have hz0:zs=[]:=by rw [hzs,h0];rfl
  subst hz0;have e0:Array.map (λ _=>(default:Value)) (Array.range 0) = #[]:=by apply Array.ext';simp
  simp [h0];rw [e0,hfill];simp [newRow]
 ·simp only [h0,if_false,Sem.run_bind,hz.run,Result.andThen_ok,Sem.run_pure];rw [hzz] at hfill;simp [hfill,newRow]
end rules
class Mixed (P:Program):Prop where
 h:P.follows .mixedOrders=true
def bH (o:Oper):List Nat:=o.after.toList.filterMap λ e=>if Region.binds .any e then some e.on else none
def lI:List Nat→List Nat
 | []=>[]
 | x::xs=>if xs.any (Nat.beq x) then lI xs else x::lI xs
theorem fI {x:Nat}:∀ {xs:List Nat},x∈lI xs↔x∈xs
 | []=>Iff.rfl
 | y::ys=>by
  unfold lI;split
  ·rename_i h;obtain ⟨z,hz,hb⟩:=List.any_eq_true.1 h;have hyz:=Nat.eq_of_beq_eq_true hb;subst hyz;rw [fI,List.mem_cons];exact ⟨Or.inr,λ h=>h.elim (λ h=>h▸hz) id⟩
  ·rw [List.mem_cons,List.mem_cons,fI]
def fP (l:List Oper) (i:Nat):Nat:=((l[i]?).bind (·.dst)).getD 0
abbrev Fact:=Value→Nat→Nat→World→Prop
structure SFact (B:Nat) where
 G:Fact
 st:∀ v lo hi w w',Grow w w'→G v lo hi w→G v lo hi w'
 firm:Bool:=false
 fm:firm=true→∀ v lo hi w w',Below B w w'→G v lo hi w→G v lo hi w':=by intro h;cases h
variable {B:Nat}
def gP:List (SFact B)→Nat→Fact
 | [],_=>λ _ _ _ _=>True
 | g::_,0=>g.G
 | _::gs,i+1=>gP gs i
def mE:List (SFact B)→Nat→Bool
 | [],_=>true
 | g::_,0=>g.firm
 | _::gs,i+1=>mE gs i
theorem factAt_keep:∀ (Gs:List (SFact B)) (i:Nat) (v:Value) (lo hi:Nat) (w w':World),Grow w w'→gP Gs i v lo hi w→gP Gs i v lo hi w'
 | [],_,_,_,_,_,_,_,_=>trivial
 | g::_,0,v,lo,hi,w,w',h,k=>g.st v lo hi w w' h k
 | _::gs,i+1,v,lo,hi,w,w',h,k=>factAt_keep gs i v lo hi w w' h k
theorem factAt_firm:∀ (Gs:List (SFact B)) (i:Nat) (v:Value) (lo hi:Nat) (w w':World),mE Gs i=true→Below B w w'→gP Gs i v lo hi w→gP Gs i v lo hi w'
 | [],_,_,_,_,_,_,_,_,_=>trivial
 | g::_,0,v,lo,hi,w,w',hf,h,k=>g.fm hf v lo hi w w' h k
 | _::gs,i+1,v,lo,hi,w,w',hf,h,k=>factAt_firm gs i v lo hi w w' hf h k
def anyFact:SFact B:=⟨λ _ _ _ _=>True,λ _ _ _ _ _ _ _=>trivial,true,λ _ _ _ _ _ _ _ _=>trivial⟩
def leftOf (L:Nat):Nat→List (SFact B)→List (SFact B)
 | _,[]=>[]
 | i,g::gs=>(bif g.firm || Nat.beq i L then g else anyFact)::leftOf L (i+1) gs
theorem leftOf_at (L:Nat):∀ (Gs:List (SFact B)) (k i:Nat) (v:Value) (lo hi:Nat) (w:World),((mE Gs i=true∨k+i=L)→gP Gs i v lo hi w)→gP (leftOf L k Gs) i v lo hi w
 | [],_,_,_,_,_,_,_=>trivial
 | g::_,k,0,v,lo,hi,w,h=>by
  simp only [leftOf,gP]
  cases hc:(g.firm || Nat.beq k L) with
  | true =>
   simp only [cond_true];refine h ?_;simp only [Bool.or_eq_true] at hc;rcases hc with hc|hc
   ·exact Or.inl hc
   ·exact Or.inr (Nat.eq_of_beq_eq_true hc)
  | false=>trivial
 | _::gs,k,i+1,v,lo,hi,w,h=>leftOf_at L gs (k+1) i v lo hi w λ hh=>h (hh.imp id (λ h2=>by omega))
def Need (l:List Oper) (Gs:List (SFact B)) (w:World) (lo hi:Nat→Nat) (K:dJ→Prop):List Nat→dJ→Prop
 | [],acc=>K acc
 | j::js,acc=>∀ v,gP Gs j v (lo j) (hi j) w→Need l Gs w lo hi K js ((fP l j,v)::acc)
def stepR (loose:Bool) (B:Nat) (w w':World):Prop:=match loose with
 | true=>Below B w w'
 | false=>Grow w w'
def oneQ (loose:Bool) (B:Nat) (d:Nat) (G:Fact) (w:World):dI:=λ x e' w' =>
 match x with
 | .normal=>∃ v,find e' d=some v∧stepR loose B w w'∧G v w.heap.size w'.heap.size w'
 | _=>False
def Does [Rn] (P:Program) (n:Nat) (l:List Oper) (e:dJ) (w0:World) (Gs:List (SFact B)) (L i:Nat):Prop :=
 match l[i]? with
 | none=>True
 | some o=>∀ w lo hi,Grow w0 w→Need l Gs w lo hi (λ acc=>TL P n l.toArray [o] acc w (oneQ (Nat.beq i L) B (fP l i) (gP Gs i) w)) (lI (bH o)) e
def AllDo [Rn] (P:Program) (n:Nat) (l:List Oper) (e:dJ) (w0:World) (Gs:List (SFact B)) (L:Nat):Nat→Nat→Prop
 | _,0=>True
 | i,k+1=>Does P n l e w0 Gs L i∧AllDo P n l e w0 Gs L (i+1) k
def looseOk (l:List Oper) (Gs:List (SFact B)) (L:Nat):Nat→Nat→Bool
 | _,0=>true
 | i,k+1=>(Nat.beq i L || (match l[L]? with|some o=>(bH o).any (Nat.beq i)|none=>false) || (match l[i]? with|some o=>(bH o).all λ j=>mE Gs j || Nat.beq j L|none=>true))&&looseOk l Gs L (i+1) k
def nD:Nat→Nat→List Nat
 | _,0=>[]
 | i,k+1=>i::nD (i+1) k
def headOk (l:List Oper) (e:dJ) (n:Nat):Nat→Nat→Bool
 | _,0=>true
 | i,k+1=>(match l[i]? with
   | some o=>(match o.dst with|some d=>Nat.blt d n&&(find e d).isNone&&(nD 0 i).all (λ j=>!(Nat.beq (fP l j) d))|none=>false)&&(bH o).all (λ j=>Nat.blt j i)
   | none=>false)&&headOk l e n (i+1) k
def sinkOk (l:List Oper) (N:Nat):Bool :=
 (nD 0 N).all λ i=>(nD (i+1) (N-i)).any λ j=>(match l[j]? with|some o=>(bH o).any (Nat.beq i)|none=>false)
def mZ (l:List Oper):Nat→Nat→Nat→Bool
 | _,_,0=>true
 | N,i,k+1=>(match l[i]? with
   | some o=>(bH o).all (λ j=>Nat.blt j i)&&(Nat.beq i N || (bH o).any (Nat.beq (i-1)))
   | none=>false)&&mZ l N (i+1) k
theorem fH {x:Nat}:∀ {k i:Nat},x∈nD i k↔i≤x∧x<i+k
 | 0,i=>by simp only [nD,List.not_mem_nil,false_iff];omega
 | k+1,i=>by simp only [nD,List.mem_cons,fH (k:=k) (i:=i+1)];omega
theorem looseOk_at {l:List Oper} {Gs:List (SFact B)} {L:Nat}:∀ {k i:Nat},looseOk l Gs L i k=true→∀ j,i≤j→j<i+k→j=L∨(∃ o,l[L]? = some o∧j∈bH o)∨∀ o,l[j]? = some o→∀ x∈bH o,mE Gs x=true∨x=L
 | 0,i,_,j,h1,h2=>by omega
 | k+1,i,h,j,h1,h2=>by
  simp only [looseOk,Bool.and_eq_true,Bool.or_eq_true] at h;obtain ⟨h,hr⟩:=h;by_cases hj:j=i
  ·subst hj;rcases h with (h|h)|h
   ·exact Or.inl (Nat.eq_of_beq_eq_true h)
   ·cases ho:l[L]? with
    | none=>simp [ho] at h
    | some o =>
     simp only [ho] at h;obtain ⟨y,hy,hb⟩:=List.any_eq_true.1 h;have hxy:=Nat.eq_of_beq_eq_true hb;rw [hxy];exact Or.inr (Or.inl ⟨o,rfl,hy⟩)
   ·refine Or.inr (Or.inr λ o ho x hx=>?_);rw [ho] at h;simp only at h;have:=List.all_eq_true.1 h x hx;simp only [Bool.or_eq_true] at this;exact this.imp id Nat.eq_of_beq_eq_true
  ·exact looseOk_at hr j oM oM
structure HeadAt (l:List Oper) (e:dJ) (n i:Nat):Prop where
 ex:∃ o d,l[i]? = some o∧o.dst=some d∧d<n∧find e d=none∧(∀ j,j<i→fP l j≠d)∧∀ j∈bH o,j<i
theorem headOk_at {l:List Oper} {e:dJ} {n:Nat}:∀ {k i:Nat},headOk l e n i k=true→∀ j,i≤j→j<i+k→HeadAt l e n j
 | 0,i,_,j,h1,h2=>by omega
 | k+1,i,h,j,h1,h2=>by
  simp only [headOk,Bool.and_eq_true] at h;obtain ⟨h,hr⟩:=h;by_cases hj:j=i
  ·subst hj
   cases ho:l[j]? with
   | none=>simp [ho] at h
   | some o =>
    simp only [ho] at h
    cases hd:o.dst with
    | none=>simp [hd] at h
    | some d =>
     simp only [hd,Bool.and_eq_true,List.all_eq_true] at h;obtain ⟨⟨⟨h3,h4⟩,h5⟩,h6⟩:=h;refine ⟨o,d,ho,hd,Nat.le_of_ble_eq_true h3,by simpa using h4,λ x hx=>?_,λ x hx=>Nat.le_of_ble_eq_true (h6 x hx)⟩;have:=h5 x (fH.2 ⟨Nat.zero_le _,oM⟩);simp only [Bool.not_eq_true'] at this;exact Nat.ne_of_beq_eq_false this
  ·exact headOk_at hr j oM oM
theorem lR {l:List Oper} {N:Nat}:∀ {k i:Nat},mZ l N i k=true→∀ j,i≤j→j<i+k→∃ o,l[j]? = some o∧(∀ x∈bH o,x<j)∧(j=N∨j-1∈bH o)
 | 0,i,_,j,h1,h2=>by omega
 | k+1,i,h,j,h1,h2=>by
  simp only [mZ,Bool.and_eq_true] at h;obtain ⟨h,hr⟩:=h;by_cases hj:j=i
  ·subst hj
   cases ho:l[j]? with
   | none=>simp [ho] at h
   | some o =>
    simp only [ho,Bool.and_eq_true,List.all_eq_true,Bool.or_eq_true] at h;refine ⟨o,rfl,λ x hx=>Nat.le_of_ble_eq_true (h.1 x hx),?_⟩;rcases h.2 with h2|h2
    ·exact Or.inl (Nat.eq_of_beq_eq_true h2)
    ·obtain ⟨y,hy,hb⟩:=List.any_eq_true.1 h2;have hxy:=Nat.eq_of_beq_eq_true hb;rw [hxy];exact Or.inr hy
  ·exact lR hr j oM oM
theorem mem_depsOf {o:Oper} {j:Nat}:j∈bH o↔∃ e∈o.after,Region.binds .any e=true∧e.on=j:=by
 unfold bH;rw [List.mem_filterMap];constructor
 ·rintro ⟨e,he,h⟩;split at h
  ·rename_i hb;exact ⟨e,by simpa using he,hb,by simpa using h⟩
  ·cases h
 ·rintro ⟨e,he,hb,rfl⟩;exact ⟨e,by simpa using he,by simp [hb]⟩
theorem sinkOk_at {l:List Oper} {N:Nat} (h:sinkOk l N=true) (i:Nat) (hi:i<N):∃ j o,i<j∧j≤N∧l[j]? = some o∧i∈bH o:=by
 have:=List.all_eq_true.1 h i (fH.2 ⟨Nat.zero_le _,oM⟩);obtain ⟨j,hj,hb⟩:=List.any_eq_true.1 this;obtain ⟨h1,h2⟩:=fH.1 hj
 cases ho:l[j]? with
 | none=>simp [ho] at hb
 | some o =>
  simp only [ho] at hb;obtain ⟨y,hy,hb⟩:=List.any_eq_true.1 hb;have hxy:=Nat.eq_of_beq_eq_true hb;subst hxy;exact ⟨j,o,oM,oM,ho,hy⟩
theorem cZ {l:List Oper} {listed:Array Bool} {j:Nat}:j∈Region.ready .any l.toArray listed↔listed.getD j true=false∧∃ o,l[j]? = some o∧∀ x∈bH o,listed.getD x false=true:=by
 rw [mem_ready];constructor
 ·rintro ⟨h1,o,h2,h3⟩;refine ⟨h1,o,by simpa using h2,λ x hx=>?_⟩;obtain ⟨e,he,hb,rfl⟩:=mem_depsOf.1 hx;exact h3 e he hb
 ·rintro ⟨h1,o,h2,h3⟩;exact ⟨h1,o,by simpa using h2,λ e he hb=>h3 e.on (mem_depsOf.2 ⟨e,he,hb,rfl⟩)⟩
theorem wp_frame {P:Program} {ro:Option Nat} {o:Oper} {a:Act} {w:World} {K:Act→World→Prop} {Q:Exit→Act→World→Prop} (h:o.wpIn (FR ro) 0 P a w K Q) :
  o.wpIn (FR ro) 0 P a w (λ a' w'=>K a' w'∧∃ v,a'.tmps=(a.put o.dst v).tmps) Q:=by
 unfold Oper.wpIn at *;refine ⟨λ _ _=>trivial,?_⟩;have h:=h.2;generalize (o.semAt (FR ro).round a.eval).run P w=r at *
 cases r with
 | ok nx w' =>
  cases nx<;>simp only [Oper.uponIn] at h ⊢ <;>
   first
    | exact ⟨h,_,rfl⟩
    | exact ⟨h.1,CallsIn.mono h.2 (λ e w'' he=>by cases e<;>first|exact ⟨he,_,rfl⟩|exact he)⟩
    | exact ⟨h.1,RowsIn.mono h.2 (λ _ _ he=>⟨he,_,rfl⟩)⟩
    | exact ⟨h.1,RoundIn.mono h.2 (λ e w'' he=>by cases e<;>first|exact ⟨he,_,rfl⟩|exact he)⟩
    | (refine ⟨h,undef,?_⟩;cases o.dst<;>rfl)
 | halt x w'=>cases x<;>simp only [Oper.uponIn] at h ⊢<;>exact h
theorem wp_swap {P:Program} {ro:Option Nat} {o:Oper} {a:Act} {w:World} {K:Act→World→Prop} {Q Q':Exit→Act→World→Prop} (h:o.wpIn (FR ro) 0 P a w K Q) (hq:∀ x a w,x≠.normal→Q x a w→Q' x a w):o.wpIn (FR ro) 0 P a w K Q':=by
 unfold Oper.wpIn at *;refine ⟨λ _ _=>trivial,?_⟩;have h:=h.2;generalize (o.semAt (FR ro).round a.eval).run P w=r at *
 have hc:∀ {K2:Value→World→Prop} (e:Ending) (w'':World),(match e,w'' with
   | .returned v,w''=>K2 v w''
   | .panicked chain,w''=>Q (.panic chain) a w''
   | .outgrown,_=>LetsOut Q)→(match e,w'' with
   | .returned v,w''=>K2 v w''
   | .panicked chain,w''=>Q' (.panic chain) a w''
   | .outgrown,_=>LetsOut Q'):=λ e w'' he=>by
  cases e with
  | returned v=>exact he
  | panicked ch=>exact hq _ _ _ sM he
  | outgrown=>obtain ⟨a1,w1,h1⟩:=he;exact ⟨a1,w1,hq _ _ _ sM h1⟩
 cases r with
 | ok nx w' =>
  cases nx<;>simp only [Oper.uponIn] at h ⊢ <;>
   first
    | exact h
    | exact ⟨h.1,CallsIn.mono h.2 λ e w'' he=>hc e w'' he⟩
    | exact ⟨h.1,RowsIn.mono h.2 (λ _ _ he=>he)⟩
    | exact ⟨h.1,RoundIn.mono h.2 λ e w'' he=>hc e w'' he⟩
 | halt x w'=>cases x<;>simp only [Oper.uponIn] at h ⊢<;>first|exact h|exact hq _ _ _ sM h
theorem jS {a:Act} {d t:Nat} {v:Value} (hd:d<a.tmps.size):(a.put (some d) v).tmps.getD t undef=if d=t then v else a.tmps.getD t undef:=by
 simp only [Act.put,Array.getD_eq_getD_getElem?];by_cases h:d=t
 ·subst h;simp [hd]
 ·rw [Array.getElem?_setIfInBounds_ne h,if_neg h]
def getG:List (SFact B)→Nat→Option (SFact B)
 | [],_=>none
 | g::_,0=>some g
 | _::gs,i+1=>getG gs i
theorem getG_at:∀ {Gs:List (SFact B)} {i:Nat} {g:SFact B},getG Gs i=some g→gP Gs i=g.G
 | _::_,0,_,h=>by simp only [getG,Option.some.injEq] at h;subst h;rfl
 | _::gs,i+1,g,h=>getG_at (Gs:=gs) (i:=i) (g:=g) h
theorem dstAt_of {l:List Oper} {i d:Nat} (h:(l[i]?).bind (·.dst)=some d):fP l i=d:=by unfold fP;rw [h];rfl
theorem aJ {l:List Oper} {Gs:List (SFact B)} {w:World} {lo hi:Nat→Nat} {K:dJ→Prop} {j d:Nat} {g:SFact B} {js:List Nat} {acc:dJ} (hd:(l[j]?).bind (·.dst)=some d) (hg:getG Gs j=some g) (h:∀ v,g.G v (lo j) (hi j) w→Need l Gs w lo hi K js ((d,v)::acc)):Need l Gs w lo hi K (j::js) acc:=by
 intro v hv;rw [getG_at hg] at hv;rw [dstAt_of hd];exact h v hv
theorem aZ {l:List Oper} {Gs:List (SFact B)} {w:World} {lo hi:Nat→Nat} {K:dJ→Prop} {acc:dJ} (h:K acc):Need l Gs w lo hi K [] acc:=h
theorem need_mono {l:List Oper} {Gs:List (SFact B)} {w:World} {lo hi:Nat→Nat} {K K':dJ→Prop} (hk:∀ acc,K acc→K' acc):∀ {js:List Nat} {acc:dJ},Need l Gs w lo hi K js acc→Need l Gs w lo hi K' js acc
 | [],acc,h=>hk acc h
 | j::js,acc,h=>λ v hv=>need_mono hk (h v hv)
theorem need_env {l:List Oper} {Gs:List (SFact B)} {w:World} {lo hi:Nat→Nat} {K:dJ→Prop} {vs:Nat→Value}:∀ {js:List Nat} {acc:dJ},Need l Gs w lo hi K js acc→(∀ j∈js,gP Gs j (vs j) (lo j) (hi j) w) →
  ∃ acc',K acc'∧∀ t v,find acc' t=some v→(∃ j∈js,t=fP l j∧v=vs j)∨find acc t=some v
 | [],acc,h,_=>⟨acc,h,λ t v hv=>Or.inr hv⟩
 | j::js,acc,h,hf=>by
  obtain ⟨acc',hk,hall⟩:=need_env (h (vs j) (hf j sM)) (λ x hx=>hf x (by simp [hx]));refine ⟨acc',hk,λ t v hv=>?_⟩;rcases hall t v hv with ⟨x,hx,h1,h2⟩|h3
  ·exact Or.inl ⟨x,by simp [hx],h1,h2⟩
  ·rw [fT] at h3;by_cases ht:fP l j=t
   ·rw [if_pos ht] at h3;exact Or.inl ⟨j,sM,ht.symm,(Option.some.inj h3).symm⟩
   ·rw [if_neg ht] at h3;exact Or.inr h3
section any
variable [Rn]
variable {P:Program} {n:Nat} {l:List Oper} {e:dJ} {w0:World} {Gs:List (SFact w0.heap.size)} {N L:Nat} {Q:dI}
structure Mid (n:Nat) (l:List Oper) (e:dJ) (w0:World) (Gs:List (SFact B)) (N L:Nat) (listed:Array Bool) (a:Act) (w:World) (vs:Nat→Value) (lo hi:Nat→Nat):Prop where
 size:listed.size=l.length
 grow:Grow w0 w
 defers:a.defers=Rn.ds
 tmps:a.tmps.size=n
 get:∀ t v,find e t=some v→a.tmps.getD t undef=v
 did:∀ i,i<N→listed.getD i false=true→((mE Gs i=true∨i=L∨listed.getD L false=false)→gP Gs i (vs i) (lo i) (hi i) w)∧a.tmps.getD (fP l i) undef=vs i
 span:∀ i,i<N→listed.getD i false=true→w0.heap.size≤lo i∧lo i≤hi i∧hi i≤w.heap.size
 apart:∀ i j,i<N→j<N→i≠j→listed.getD i false=true→listed.getD j false=true→hi i≤lo j∨hi j≤lo i
 rest:∀ i,N≤i→listed.getD i false=false
 closed:∀ j o,l[j]? = some o→listed.getD j false=true→∀ x∈bH o,listed.getD x false=true
theorem allDo_at:∀ {k i:Nat},AllDo P n l e w0 Gs L i k→∀ j,i≤j→j<i+k→Does P n l e w0 Gs L j
 | 0,_,_,j,h1,h2=>by omega
 | k+1,i,h,j,h1,h2=>by
  by_cases hj:j=i
  ·subst hj;exact h.1
  ·exact allDo_at h.2 j oM oM
theorem nG {Q:Exit→Act→World→Prop} (ht:∀ j,N≤j→j<l.length→∃ o,l[j]? = some o∧(∀ x∈bH o,x<j)∧(j=N∨j-1∈bH o)) :
  ∀ (f i:Nat) (listed:Array Bool) (a:Act) (w:World),i+f=l.length→N≤i→listed.size=l.length→(∀ x,x<i→listed.getD x false=true)→(∀ x,i≤x→x<l.length→listed.getD x true=false) →
   wpListIn (FR Rn.ro) 0 P l.toArray Q (l.drop i) a w→wpAnyIn (FR Rn.ro) 0 P .any l.toArray Q f listed a w:=by
 intro f
 induction f with
 | zero =>
  intro i listed a w hi hN hs h1 h2 h;have hil:i=l.length:=by omega
  subst hil;refine ⟨?_,by simpa [wpListIn] using h⟩;rw [List.eq_nil_iff_forall_not_mem];intro j hj;obtain ⟨h3,o,h4,_⟩:=cZ.1 hj;have hlt:j<l.length:=(List.getElem?_eq_some_iff.1 h4).1;have:=h1 j hlt;rw [Array.getD_eq_getD_getElem?] at this h3
  cases hx:listed[j]? with
  | none=>rw [Array.getElem?_eq_none_iff] at hx;omega
  | some b=>simp [hx] at this h3;rw [this] at h3;cases h3
 | succ f ih =>
  intro i listed a w hi hN hs h1 h2 h;obtain ⟨o,ho,hb,hall⟩:=ht i hN oM
  have hri:∀ j,j∈Region.ready .any l.toArray listed→j=i:=by
   intro j hj;obtain ⟨h3,o',h4,h5⟩:=cZ.1 hj;have hlt:j<l.length:=(List.getElem?_eq_some_iff.1 h4).1;rcases Nat.lt_or_ge j i with hji|hji
   ·have:=h1 j hji;rw [Array.getD_eq_getD_getElem?] at this h3
    cases hx:listed[j]? with
    | none=>rw [Array.getElem?_eq_none_iff] at hx;omega
    | some b=>simp [hx] at this h3;rw [this] at h3;cases h3
   ·by_cases hji':j=i
    ·exact hji'
    ·obtain ⟨o2,h6,_,h7⟩:=ht j oM hlt;rw [h4] at h6;cases h6;have h8:=h5 (j-1) (h7.resolve_left oM);have h9:=h2 (j-1) oM oM;rw [Array.getD_eq_getD_getElem?] at h8 h9
     cases hx:listed[j-1]? with
     | none=>rw [Array.getElem?_eq_none_iff] at hx;omega
     | some b=>simp [hx] at h8 h9;rw [h8] at h9;cases h9
  have hin:i∈Region.ready .any l.toArray listed:=cZ.2 ⟨h2 i (Nat.le_refl _) oM,o,ho,λ x hx=>h1 x (hb x hx)⟩;refine ⟨(λ h0=>by rw [h0] at hin;cases hin),λ j hj=>?_⟩;have:=hri j hj;subst this
  have hdrop:l.drop j=o::l.drop (j+1):=by
   rw [List.drop_eq_getElem_cons oM]
   have:l[j]'(by omega)=o:=by
    have:=List.getElem?_eq_some_iff.1 ho;exact this.2
   rw [this]
  rw [hdrop] at h;unfold wpOpIn;rw [show l.toArray[j]? = some o by simpa using ho];unfold wpListIn at h;simp only
  have hnext:∀ a w,wpListIn (FR Rn.ro) 0 P l.toArray Q (l.drop (j+1)) a w→wpAnyIn (FR Rn.ro) 0 P .any l.toArray Q f (listed.setIfInBounds j true) a w:=λ a w hh =>
   ih (j+1) (listed.setIfInBounds j true) a w oM oM (by simp [hs])
    (λ x hx=>by
     by_cases hxj:j=x
     ·subst hxj;simp [Array.getD_eq_getD_getElem?,hs];omega
     ·rw [Array.getD_eq_getD_getElem?,Array.getElem?_setIfInBounds_ne hxj,← Array.getD_eq_getD_getElem?];exact h1 x oM)
    (λ x hx hx2=>by rw [Array.getD_eq_getD_getElem?,Array.getElem?_setIfInBounds_ne oM,← Array.getD_eq_getD_getElem?];exact h2 x oM hx2) hh
  split
  ·rename_i hw;rw [if_pos hw] at h;exact Oper.wpIn_mono hnext h
  ·rename_i hw;rw [if_neg hw] at h;exact ⟨h.1,hnext _ _ h.2⟩
theorem any_runs (F:Nat) (hN:N≤l.length) (hsink:N<l.length→∀ i,i<N→i≠F→∃ j o,i<j∧j≤N∧j≠F∧l[j]? = some o∧i∈bH o)
  (hfl:∀ (listed:Array Bool) (a:Act) (w:World) (vs:Nat→Value) (lo hi:Nat→Nat),F<N→Mid n l e w0 Gs N L listed a w vs lo hi→(∀ i,i<N→i≠F→listed.getD i false=true)→listed.getD F false=false→wpAnyIn (FR Rn.ro) 0 P .any l.toArray (iL n Q) (1+(l.length-N)) listed a w)
  (hlo:N≤L∨∀ j,j<N→j=L∨(∃ o,l[L]? = some o∧j∈bH o)∨∀ o,l[j]? = some o→∀ x∈bH o,mE Gs x=true∨x=L)
  (Gs':List (SFact w0.heap.size)) (hleft:∀ i v lo hi w,((mE Gs i=true∨i=L∨N≤L)→gP Gs i v lo hi w)→gP Gs' i v lo hi w)
  (hh:∀ i,i<N→HeadAt l e n i) (ht:∀ j,N≤j→j<l.length→∃ o,l[j]? = some o∧(∀ x∈bH o,x<j)∧(j=N∨j-1∈bH o))
  (hdo:∀ i,i<N→Does P n l e w0 Gs L i)
  (htail:∀ w (lo hi:Nat→Nat) (vs:Nat→Value),Grow w0 w→(∀ i,i<N→w0.heap.size≤lo i∧lo i≤hi i∧hi i≤w.heap.size)→(∀ i j,i<N→j<N→i≠j→hi i≤lo j∨hi j≤lo i)→(∀ j,j<N→gP Gs' j (vs j) (lo j) (hi j) w) →
   ∃ acc,TL P n l.toArray (l.drop N) acc w Q∧∀ t v,find acc t=some v→(∃ j,j<N∧t=fP l j∧v=vs j)∨find e t=some v) :
  ∀ (m:Nat) (listed:Array Bool) (a:Act) (w:World) (vs:Nat→Value) (lo hi:Nat→Nat) (f:Nat),Mid n l e w0 Gs N L listed a w vs lo hi →
   ((List.range N).filter λ i=>!(listed.getD i false)).length=m→f=m+(l.length-N)→wpAnyIn (FR Rn.ro) 0 P .any l.toArray (iL n Q) f listed a w:=by
 intro m
 induction m with
 | zero =>
  intro listed a w vs lo hi f mid hm hf
  have hall:∀ i,i<N→listed.getD i false=true:=by
   intro i hi;have:=List.eq_nil_of_length_eq_zero hm;have h2:=List.eq_nil_iff_forall_not_mem.1 this i;simp only [List.mem_filter,List.mem_range,not_and,Bool.not_eq_true',Bool.not_eq_false] at h2;exact h2 hi
  refine nG ht f N listed a w oM (Nat.le_refl _) mid.size hall (λ x hx hx2=>?_) ?_
  ·have:=mid.rest x hx;rw [Array.getD_eq_getD_getElem?] at this ⊢
   cases hy:listed[x]? with
   | none=>rw [Array.getElem?_eq_none_iff] at hy;have:=mid.size;omega
   | some b=>simpa [hy] using this
  ·obtain ⟨acc,hk,hfind⟩:=htail w lo hi vs mid.grow (λ i hi'=>mid.span i hi' (hall i hi')) (λ i j h1 h2 h3=>mid.apart i j h1 h2 h3 (hall i h1) (hall j h2)) (λ j hj=>hleft j _ _ _ _ λ hh=>(mid.did j hj (hall j hj)).1 (hh.imp id (λ h=>h.imp id (λ h=>mid.rest L h))));refine hk.out ⟨mid.defers,mid.tmps,λ t v hv=>?_⟩;rcases hfind t v hv with ⟨j,hj,rfl,rfl⟩|h3
   ·exact (mid.did j hj (hall j hj)).2
   ·exact mid.get t v h3
 | succ m ih =>
  intro listed a w vs lo hi f mid hm hf;by_cases honly:F<N∧listed.getD F false=false∧∀ i,i<N→i≠F→listed.getD i false=true
  ·obtain ⟨hF1,hF2,hF3⟩:=honly;have hnd:((List.range N).filter λ i=>!(listed.getD i false)).Nodup:=List.Pairwise.filter _ List.nodup_range
   have hmem:∀ x∈((List.range N).filter λ i=>!(listed.getD i false)),x=F:=by
    intro x hx;simp only [List.mem_filter,List.mem_range,Bool.not_eq_true'] at hx;by_cases hxF:x=F
    ·exact hxF
    ·have:=hF3 x hx.1 hxF;rw [this] at hx;cases hx.2
   have hm0:m=0:=by
    generalize ((List.range N).filter λ i=>!(listed.getD i false))=xs at *
    match xs,hm,hnd,hmem with
    | [_],hm,_,_=>simp at hm;exact hm
    | x::y::r,_,hnd,hmem =>
     exfalso;have h1:=hmem x sM;have h2:=hmem y sM;rw [List.nodup_cons] at hnd;exact hnd.1 (by rw [h1,← h2];simp)
   subst hm0;rw [hf];exact hfl listed a w vs lo hi hF1 mid hF3 hF2
  have hopen:∃ i,i<N∧i≠F∧listed.getD i false=false:=by
   have hne:((List.range N).filter λ i=>!(listed.getD i false))≠[]:=by intro h0;rw [h0] at hm;simp at hm
   obtain ⟨i,hi⟩:=List.exists_mem_of_ne_nil _ hne;simp only [List.mem_filter,List.mem_range,Bool.not_eq_true'] at hi;by_cases hiF:i=F
   ·subst hiF;apply Classical.byContradiction;intro hno;refine honly ⟨hi.1,hi.2,λ x hx hxF=>?_⟩
    cases hv:listed.getD x false with
    | true=>rfl
    | false=>exact absurd ⟨x,hx,hxF,hv⟩ hno
   ·exact ⟨i,hi.1,hiF,hi.2⟩
  obtain ⟨f',rfl⟩:∃ f',f=f'+1:=⟨f-1,oM⟩
  have hready:∀ j,j∈Region.ready .any l.toArray listed→j<N∧listed.getD j false=false:=by
   intro j hj;obtain ⟨h3,o,h4,h5⟩:=cZ.1 hj;have hlt:j<l.length:=(List.getElem?_eq_some_iff.1 h4).1
   have hf2:listed.getD j false=false:=by
    rw [Array.getD_eq_getD_getElem?] at h3 ⊢
    cases hx:listed[j]? with
    | none=>simp
    | some b=>simpa [hx] using h3
   refine ⟨?_,hf2⟩;rcases Nat.lt_or_ge j N with h|h
   ·exact h
   ·exfalso;obtain ⟨o2,h6,_,h7⟩:=ht j h hlt;rw [h4] at h6;cases h6;obtain ⟨i,hi,hiF,hi0⟩:=hopen;by_cases hjN:j=N
    ·subst hjN
     have key:∀ k i,j-i≤k→i<j→i≠F→listed.getD i false=false→False:=by
      intro k
      induction k with
      | zero=>intro i h1 h2;omega
      | succ k ihk =>
       intro i h1 h2 hiF hl;obtain ⟨x,o3,hx1,hx2,hxF,hx3,hx4⟩:=hsink hlt i h2 hiF;by_cases hxj:x=j
       ·subst hxj;rw [h4] at hx3;cases hx3;have:=h5 i hx4;rw [hl] at this;cases this
       ·refine ihk x oM oM hxF ?_
        cases hv:listed.getD x false with
        | false=>rfl
        | true =>
         have:=mid.closed x o3 hx3 hv i hx4;rw [hl] at this;cases this
     exact key _ i (Nat.le_refl _) hi hiF hi0
    ·have h8:=h5 (j-1) (h7.resolve_left hjN);rw [mid.rest (j-1) oM] at h8;cases h8
  have hsome:Region.ready .any l.toArray listed≠[]:=by
   have key:∀ k i,i≤k→i<N→listed.getD i false=false→∃ j,j∈Region.ready .any l.toArray listed:=by
    intro k
    induction k with
    | zero =>
     intro i hi hiN hl;obtain ⟨o,d,ho,_,_,_,_,hdeps⟩:=(hh i hiN).ex;refine ⟨i,cZ.2 ⟨?_,o,ho,λ x hx=>?_⟩⟩
     ·rw [Array.getD_eq_getD_getElem?] at hl ⊢
      cases hx:listed[i]? with
      | none=>rw [Array.getElem?_eq_none_iff] at hx;have:=mid.size;omega
      | some b=>simpa [hx] using hl
     ·have:=hdeps x hx;omega
    | succ k ihk =>
     intro i hi hiN hl;obtain ⟨o,d,ho,_,_,_,_,hdeps⟩:=(hh i hiN).ex;by_cases hx:∃ x∈bH o,listed.getD x false=false
     ·obtain ⟨x,hx1,hx2⟩:=hx;have:=hdeps x hx1;exact ihk x oM oM hx2
     ·refine ⟨i,cZ.2 ⟨?_,o,ho,λ x hx1=>?_⟩⟩
      ·rw [Array.getD_eq_getD_getElem?] at hl ⊢
       cases hx:listed[i]? with
       | none=>rw [Array.getElem?_eq_none_iff] at hx;have:=mid.size;omega
       | some b=>simpa [hx] using hl
      ·cases hv:listed.getD x false with
       | true=>rfl
       | false=>exact absurd ⟨x,hx1,hv⟩ hx
   have hne:((List.range N).filter λ i=>!(listed.getD i false))≠[]:=by intro h0;rw [h0] at hm;simp at hm
   obtain ⟨i,hi⟩:=List.exists_mem_of_ne_nil _ hne;simp only [List.mem_filter,List.mem_range,Bool.not_eq_true'] at hi;obtain ⟨j,hj⟩:=key i i (Nat.le_refl _) hi.1 hi.2;intro h0;rw [h0] at hj;cases hj
  refine ⟨λ h0=>absurd h0 hsome,λ i hir=>?_⟩;obtain ⟨hiN,hil⟩:=hready i hir;obtain ⟨_,o,ho,hdl⟩:=cZ.1 hir;obtain ⟨o',d,ho',hd,hdn,hdf,hdd,hdeps⟩:=(hh i hiN).ex;rw [ho] at ho';cases ho';have hdst:fP l i=d:=by simp [fP,ho,hd]
  have hdo':=hdo i hiN;unfold Does at hdo';simp only [ho] at hdo'
  have halive:∀ j∈bH o,mE Gs j=true∨j=L∨listed.getD L false=false:=by
   intro j hj;rcases hlo with h|hlo
   ·exact Or.inr (Or.inr (mid.rest L h))
   rcases hlo i hiN with h|⟨oL,hoL,hiL⟩|h
   ·subst h;exact Or.inr (Or.inr hil)
   ·refine Or.inr (Or.inr ?_)
    cases hv:listed.getD L false with
    | false=>rfl
    | true =>
     have:=mid.closed L oL hoL hv i hiL;rw [hil] at this;cases this
   ·exact (h o ho j hj).imp id Or.inl
  obtain ⟨acc,hk,hfind⟩:=need_env (vs:=vs) (hdo' w lo hi mid.grow) (λ j hj=>(mid.did j (by have:=hdeps j (fI.1 hj);omega) (hdl j (fI.1 hj))).1 (halive j (fI.1 hj)))
  have hfit:Fits n acc a:=⟨mid.defers,mid.tmps,λ t v hv=>by
   rcases hfind t v hv with ⟨j,hj,rfl,rfl⟩|h3
   ·exact (mid.did j (by have:=hdeps j (fI.1 hj);omega) (hdl j (fI.1 hj))).2
   ·exact mid.get t v h3⟩
  have hrun:=hk.out hfit;unfold wpOpIn;rw [show l.toArray[i]? = some o by simpa using ho];simp only
  have hnext:∀ a' w',iL n (oneQ (Nat.beq i L) w0.heap.size (fP l i) (gP Gs i) w) .normal a' w'→(∃ v,a'.tmps=(a.put o.dst v).tmps)→wpAnyIn (FR Rn.ro) 0 P .any l.toArray (iL n Q) f' (listed.setIfInBounds i true) a' w':=by
   rintro a' w' ⟨e',he',v,hv,hg,hG⟩ ⟨u,hu⟩
   have hgr:Grow w0 w':=by
    cases hb:Nat.beq i L with
    | true=>rw [hb] at hg;exact Grow.mk (mid.grow.1.trans hg)
    | false=>rw [hb] at hg;exact mid.grow.trans hg
   rw [hdst] at hv;have hva:a'.tmps.getD d undef=v:=he'.get d v hv;rw [hu,hd] at hva;have hds:d<a.tmps.size:=by rw [mid.tmps];exact hdn
   rw [jS hds,if_pos rfl] at hva;subst hva
   have hother:∀ t,t≠d→a'.tmps.getD t undef=a.tmps.getD t undef:=λ t ht=>by
    rw [hu,hd,jS hds,if_neg (λ h=>ht h.symm)]
   have hws:w.heap.size≤w'.heap.size:=by
    cases hb:Nat.beq i L with
    | true=>rw [hb] at hg;exact hg.size
    | false=>rw [hb] at hg;exact hg.size
   refine ih (listed.setIfInBounds i true) a' w' (λ j=>if j=i then u else vs j) (λ j=>if j=i then w.heap.size else lo j) (λ j=>if j=i then w'.heap.size else hi j) f' ⟨by simp [mid.size],hgr,he'.defers,he'.size,λ t v hv=>?_,λ j hj hjl=>?_,λ j hj hjl=>?_,λ j k hj hk hjk hjl hkl=>?_,λ j hj=>?_,λ j oj hoj hjl x hx=>?_⟩ ?_ oM
   ·have htd:t≠d:=λ h=>by rw [h,hdf] at hv;cases hv
    rw [hother t htd];exact mid.get t v hv
   ·by_cases hji:j=i
    ·subst hji;simp only [if_true];refine ⟨λ _=>hG,?_⟩;rw [hdst,hu,hd,jS hds,if_pos rfl]
    ·simp only [if_neg hji]
     have hjl':listed.getD j false=true:=by
      rwa [Array.getD_eq_getD_getElem?,Array.getElem?_setIfInBounds_ne (λ h=>hji h.symm),← Array.getD_eq_getD_getElem?] at hjl
     obtain ⟨h1,h2⟩:=mid.did j hj hjl';refine ⟨λ hal=>?_,?_⟩
     ·cases hb:Nat.beq i L with
      | false =>
       rw [hb] at hg;have hiL:=Nat.ne_of_beq_eq_false hb;refine factAt_keep Gs j _ _ _ w w' hg (h1 (hal.imp id (λ h=>h.imp id (λ h=>?_))));rwa [Array.getD_eq_getD_getElem?,Array.getElem?_setIfInBounds_ne hiL,← Array.getD_eq_getD_getElem?] at h
      | true =>
       rw [hb] at hg;have hiL:=Nat.eq_of_beq_eq_true hb;subst hiL;have hsz:i<listed.size:=by rw [mid.size];exact (List.getElem?_eq_some_iff.1 ho).1
       have hfirm:mE Gs j=true:=by
        rcases hal with h|h|h
        ·exact h
        ·exact absurd h hji
        ·simp [Array.getD_eq_getD_getElem?,hsz] at h
       exact factAt_firm Gs j _ _ _ w w' hfirm hg (h1 (Or.inl hfirm))
     have hne:fP l j≠d:=by
      rcases Nat.lt_or_ge j i with h|h
      ·exact hdd j h
      ·obtain ⟨oj,dj,hoj,hdj,_,_,hddj,_⟩:=(hh j hj).ex;have h3:=hddj i oM;rw [hdst] at h3;have:fP l j=dj:=by simp [fP,hoj,hdj]
       rw [this];exact λ h=>h3 h.symm
     rw [hother _ hne];exact h2
   ·by_cases hji:j=i
    ·subst hji;simp only [if_true];exact ⟨mid.grow.size,hws,Nat.le_refl _⟩
    ·have hjl':listed.getD j false=true:=by
      rwa [Array.getD_eq_getD_getElem?,Array.getElem?_setIfInBounds_ne (λ h=>hji h.symm),← Array.getD_eq_getD_getElem?] at hjl
     simp only [if_neg hji];have:=mid.span j hj hjl';omega
   ·have old:∀ x,x≠i→(listed.setIfInBounds i true).getD x false=true→listed.getD x false=true:=λ x hx h=>by
     rwa [Array.getD_eq_getD_getElem?,Array.getElem?_setIfInBounds_ne (λ h=>hx h.symm),← Array.getD_eq_getD_getElem?] at h
    by_cases hji:j=i
    ·by_cases hki:k=i
     ·omega
     ·simp only [if_pos hji,if_neg hki];have:=mid.span k hk (old k hki hkl);omega
    ·by_cases hki:k=i
     ·simp only [if_neg hji,if_pos hki];have:=mid.span j hj (old j hji hjl);omega
     ·simp only [if_neg hji,if_neg hki];exact mid.apart j k hj hk hjk (old j hji hjl) (old k hki hkl)
   ·rw [Array.getD_eq_getD_getElem?,Array.getElem?_setIfInBounds_ne oM,← Array.getD_eq_getD_getElem?];exact mid.rest j hj
   ·by_cases hxi:i=x
    ·subst hxi;have hsz:i<listed.size:=by rw [mid.size];exact (List.getElem?_eq_some_iff.1 ho).1
     simp [Array.getD_eq_getD_getElem?,hsz]
    ·rw [Array.getD_eq_getD_getElem?,Array.getElem?_setIfInBounds_ne hxi,← Array.getD_eq_getD_getElem?];by_cases hji:i=j
     ·subst hji;rw [ho] at hoj;cases hoj;exact hdl x hx
     ·rw [Array.getD_eq_getD_getElem?,Array.getElem?_setIfInBounds_ne hji,← Array.getD_eq_getD_getElem?] at hjl;exact mid.closed j oj hoj hjl x hx
   ·
    have hcount:∀ (L:List Nat),L.Nodup→i∈L→(L.filter λ j=>!((listed.setIfInBounds i true).getD j false)).length+1=(L.filter λ j=>!(listed.getD j false)).length:=by
     intro L
     induction L with
     | nil=>intro _ h;cases h
     | cons x xs ihx =>
      intro hnd hmem;rw [List.nodup_cons] at hnd;have hsz:i<listed.size:=by rw [mid.size];exact (List.getElem?_eq_some_iff.1 ho).1
      by_cases hxi:x=i
      ·subst hxi
       have hsame:(xs.filter λ j=>!((listed.setIfInBounds x true).getD j false))=xs.filter λ j=>!(listed.getD j false):=by
        apply List.filter_congr;intro y hy;have hyx:x≠y:=λ h=>hnd.1 (h▸hy);rw [Array.getD_eq_getD_getElem?,Array.getElem?_setIfInBounds_ne hyx,← Array.getD_eq_getD_getElem?]
       have h1:(listed.setIfInBounds x true).getD x false=true:=by simp [Array.getD_eq_getD_getElem?,hsz]
       rw [List.filter_cons_of_neg (by simp [h1]),hsame,List.filter_cons_of_pos (by simp [hil])];simp
      ·have hmem':i∈xs:=by
        rcases List.mem_cons.1 hmem with h|h
        ·exact absurd h.symm hxi
        ·exact h
       have:=ihx hnd.2 hmem'
       have hx2:(listed.setIfInBounds i true).getD x false=listed.getD x false:=by
        rw [Array.getD_eq_getD_getElem?,Array.getElem?_setIfInBounds_ne (λ h=>hxi h.symm),← Array.getD_eq_getD_getElem?]
       cases hc:listed.getD x false with
       | true=>rw [List.filter_cons_of_neg (by simp [hx2,hc]),List.filter_cons_of_neg (by simp [hc])];exact this
       | false=>rw [List.filter_cons_of_pos (by simp [hx2,hc]),List.filter_cons_of_pos (by simp [hc])];simp only [List.length_cons];omega
    have:=hcount (List.range N) List.nodup_range (List.mem_range.2 hiN);omega
  unfold wpListIn at hrun;split
  ·rename_i hw;rw [if_pos hw] at hrun
   exact (Oper.wpIn_mono (λ a' w' hh=>hnext a' w' hh.1 hh.2) (wp_swap (wp_frame hrun) (λ x a w hx hq=>by
     refine (lift_no hq λ e0 w0 hq=>?_).elim
     cases x<;>first|exact absurd rfl hx|exact hq)))
  ·rename_i hw;rw [if_neg hw] at hrun;exact ⟨hrun.1,hnext _ _ hrun.2 ⟨undef,rfl⟩⟩
def is (v:Value):SFact B:=⟨λ u _ _ _=>u=v,λ _ _ _ _ _ _ h=>h,true,λ _ _ _ _ _ _ _ h=>h⟩
def own (base elem sz m:Nat) (xs:List Value):SFact B:={ G:=λ v _ _ w=>w.ownsRow base elem sz v m xs,st:=λ _ _ _ _ _ g h=>aS h g }
def slF (F:Nat→Prop) (sz m c:Nat) (cs:List Value):SFact B:={ G:=λ v _ _ w=>∃ a,v=.slice a m c∧Sl F w sz a m c cs,st:=λ v _ _ w w' g h=>by obtain ⟨a,h1,h2⟩:=h;exact ⟨a,h1,h2.grow g⟩ }
def newB (t:TypeId) (cs:List Value):SFact B:={ G:=λ v lo hi w=>∃ b,v=.pointer (some ⟨b,0,none⟩)∧lo≤b∧b<hi∧Blk w b t cs,st:=λ v _ _ w w' g h=>by obtain ⟨b,h1,h2,h3,h4⟩:=h;exact ⟨b,h1,h2,h3,h4.grow g⟩ }
theorem aN {i:Nat}:AllDo P n l e w0 Gs L i 0:=trivial
theorem aK {i k:Nat} (h:Does P n l e w0 Gs L i) (hs:AllDo P n l e w0 Gs L (i+1) k):AllDo P n l e w0 Gs L i (k+1):=⟨h,hs⟩
theorem does_mk {i d:Nat} {o:Oper} {g:SFact w0.heap.size} {b:Bool} (ho:l[i]? = some o) (hd:o.dst=some d) (hg:getG Gs i=some g) (hb:Nat.beq i L=b) (h:∀ w lo hi,Grow w0 w→Need l Gs w lo hi (λ acc=>TL P n l.toArray [o] acc w (oneQ b w0.heap.size d g.G w)) (lI (bH o)) e):Does P n l e w0 Gs L i:=by
 unfold Does;rw [ho];simp only;rw [getG_at hg,hb,dstAt_of (d:=d) (by rw [ho];exact hd)];exact h
theorem TL.lone {ops:Array Oper} {d:Option Nat} {op:Op} {ty:TypeId} {pos:String} {aft:Array Edge} {Q:dI} {w:World} (h:TL P n #[] [⟨d,op,ty,pos,aft,none⟩] e w Q):TL P n ops [⟨d,op,ty,pos,aft,none⟩] e w Q:=TL.mk λ a ha=>by
 have h:=h.out ha;simp only [wpListIn,Region.wanted,if_true] at h ⊢;exact h
theorem bX {i d:Nat} {op:Op} {ty:TypeId} {pos:String} {aft:Array Edge} {g:SFact w0.heap.size} {b:Bool} (ho:l[i]? = some ⟨some d,op,ty,pos,aft,none⟩) (hg:getG Gs i=some g) (hb:Nat.beq i L=b) (h:∀ w lo hi,Grow w0 w→Need l Gs w lo hi (λ acc=>TL P n #[] [⟨some d,op,ty,pos,aft,none⟩] acc w (oneQ b w0.heap.size d g.G w)) (lI (bH ⟨some d,op,ty,pos,aft,none⟩)) e):Does P n l e w0 Gs L i :=
 does_mk ho rfl hg hb λ w lo hi hgr=>need_mono (λ acc=>TL.lone) (h w lo hi hgr)
theorem T.anyG {rid:Nat} (N L:Nat) (Gs Gs':List (SFact w0.heap.size)) [hm:Mixed P] (hc:(headOk l e n 0 N&&mZ l N N (l.length-N)&&Nat.ble N l.length&&(Nat.ble l.length N || sinkOk l N))=true) (hlo:N≤L∨looseOk l Gs L 0 N=true)
  (hleft:∀ i v lo hi w,((mE Gs i=true∨i=L∨N≤L)→gP Gs i v lo hi w)→gP Gs' i v lo hi w)
  (hdo:AllDo P n l e w0 Gs L 0 N) (htail:∀ w (lo hi:Nat→Nat),Grow w0 w→(∀ i,i<N→w0.heap.size≤lo i∧lo i≤hi i∧hi i≤w.heap.size)→(∀ i j,i<N→j<N→i≠j→hi i≤lo j∨hi j≤lo i)→Need l Gs' w lo hi (λ acc=>TL P n l.toArray (l.drop N) acc w Q) (nD 0 N) e):T P n (.region rid l.toArray true) e w0 Q:=by
 simp only [Bool.and_eq_true] at hc;obtain ⟨⟨⟨hc1,hc2⟩,hc3⟩,hc4⟩:=hc
 have hsink:N<l.length→sinkOk l N=true:=by
  intro hlt;simp only [Bool.or_eq_true] at hc4;rcases hc4 with h|h
  ·have:=Nat.le_of_ble_eq_true h;omega
  ·exact h
 have hN:N≤l.length:=Nat.le_of_ble_eq_true hc3;refine T.mk λ a ha=>wpIn_region_any hm.h ?_
 refine any_runs (L:=L) (N+1) hN (λ hl i hi _=>by obtain ⟨j,o,h1,h2,h3⟩:=sinkOk_at (hsink hl) i hi;exact ⟨j,o,h1,h2,oM,h3⟩) (λ _ _ _ _ _ _ h=>by omega) (hlo.imp id (λ hlo j hj=>looseOk_at hlo j (Nat.zero_le _) oM)) Gs' hleft (λ i hi=>headOk_at hc1 i (Nat.zero_le _) oM) (λ j h1 h2=>lR hc2 j h1 oM) (λ i hi=>allDo_at hdo i (Nat.zero_le _) oM) (λ w lo hi vs h1 h2 h3 h4=>by
   obtain ⟨acc,hk,hf⟩:=need_env (vs:=vs) (htail w lo hi h1 h2 h3) (λ j hj=>h4 j (by have:=(fH.1 hj).2;omega))
   exact ⟨acc,hk,λ t v hv=>(hf t v hv).imp (λ ⟨j,hj,h5⟩=>⟨j,by have:=(fH.1 hj).2;omega,h5⟩) id⟩)
  N (Array.replicate l.toArray.size false) a _ (λ _=>undef) (λ _=>0) (λ _=>0) _ ⟨sM,Grow.drew _,ha.defers,ha.size,ha.get,λ i _ h=>?_,λ i _ h=>?_,λ i j _ _ _ h _=>?_,λ i _=>?_,λ j o _ h x _=>?_⟩ ?_ (by simp;omega)
 ·exfalso;rw [Array.getD_eq_getD_getElem?] at h;rcases Nat.lt_or_ge i l.length with hi|hi
  ·simp [hi] at h
  ·simp [hi] at h
 ·exfalso;rw [Array.getD_eq_getD_getElem?] at h;rcases Nat.lt_or_ge i l.length with hi|hi
  ·simp [hi] at h
  ·simp [hi] at h
 ·exfalso;rw [Array.getD_eq_getD_getElem?] at h;rcases Nat.lt_or_ge i l.length with hi|hi
  ·simp [hi] at h
  ·simp [hi] at h
 ·rw [Array.getD_eq_getD_getElem?];rcases Nat.lt_or_ge i l.length with hi|hi
  ·simp [hi]
  ·simp [hi]
 ·exfalso;rw [Array.getD_eq_getD_getElem?] at h;rcases Nat.lt_or_ge j l.length with hi|hi
  ·simp [hi] at h
  ·simp [hi] at h
 ·have:((List.range N).filter λ i=>!((Array.replicate l.toArray.size false).getD i false))=List.range N:=by
   rw [List.filter_eq_self];intro i hi;rw [Array.getD_eq_getD_getElem?];rcases Nat.lt_or_ge i l.length with hi|hi
   ·simp [hi]
   ·simp [hi]
  rw [this];simp
theorem T.anyL {rid:Nat} (N L:Nat) (Gs:List (SFact w0.heap.size)) [hm:Mixed P] (hc:(headOk l e n 0 N&&mZ l N N (l.length-N)&&Nat.ble N l.length&&(Nat.ble l.length N || sinkOk l N))=true) (hlo:looseOk l Gs L 0 N=true)
  (hdo:AllDo P n l e w0 Gs L 0 N) (htail:∀ w (lo hi:Nat→Nat),Grow w0 w→(∀ i,i<N→w0.heap.size≤lo i∧lo i≤hi i∧hi i≤w.heap.size)→(∀ i j,i<N→j<N→i≠j→hi i≤lo j∨hi j≤lo i)→Need l (leftOf L 0 Gs) w lo hi (λ acc=>TL P n l.toArray (l.drop N) acc w Q) (nD 0 N) e):T P n (.region rid l.toArray true) e w0 Q :=
 T.anyG N L Gs (leftOf L 0 Gs) hc (Or.inr hlo) (λ i v lo hi w h=>leftOf_at L Gs 0 i v lo hi w λ hh=>h (hh.imp id (λ h=>Or.inl oM))) hdo htail
theorem T.any {rid:Nat} (N:Nat) (Gs:List (SFact w0.heap.size)) [hm:Mixed P] (hc:(headOk l e n 0 N&&mZ l N N (l.length-N)&&Nat.ble N l.length&&(Nat.ble l.length N || sinkOk l N))=true)
  (hdo:AllDo P n l e w0 Gs N 0 N) (htail:∀ w (lo hi:Nat→Nat),Grow w0 w→(∀ i,i<N→w0.heap.size≤lo i∧lo i≤hi i∧hi i≤w.heap.size)→(∀ i j,i<N→j<N→i≠j→hi i≤lo j∨hi j≤lo i)→Need l Gs w lo hi (λ acc=>TL P n l.toArray (l.drop N) acc w Q) (nD 0 N) e):T P n (.region rid l.toArray true) e w0 Q :=
 T.anyG N N Gs Gs hc (Or.inl (Nat.le_refl _)) (λ _ _ _ _ _ h=>h (Or.inr (Or.inr (Nat.le_refl _)))) hdo htail
def but (F:Nat):Nat→Nat→List Nat
 | _,0=>[]
 | i,k+1=>if Nat.beq i F then but F (i+1) k else i::but F (i+1) k
theorem aD {d B:Nat} {G:Fact} {w w':World} {e':dJ} {v:Value} (hv:find e' d=some v) (hg:Grow w w') (hG:G v w.heap.size w'.heap.size w'):oneQ false B d G w .normal e' w':=⟨v,hv,hg,hG⟩
theorem one_loose {d B:Nat} {G:Fact} {w w':World} {e':dJ} {v:Value} (hv:find e' d=some v) (hg:Below B w w') (hG:G v w.heap.size w'.heap.size w'):oneQ true B d G w .normal e' w':=⟨v,hv,hg,hG⟩
end any
end Go.V
namespace Go.Proofs.YtfpadnmdafiddaaGreatDoor
open Go Go.RowKit Go.V Go.ChangeShapes Go.WideShapes Go.ChangeAt
theorem godebug_own:ownKnob Tryz.prog.godebug=none:=by kernel_rfl
theorem laid_out:laidOutB Tryz.prog=true:=by kernel_rfl
section
variable {H:Type} {enc:TypeId×Value→H} {P:Program} {W W':World}
theorem kept_all (hl:laidOutB P=true) (hb:Below W.heap.size W W'):∀ (ts:List TypeId) (vs:List Value) (ds:List (DataW H)) (ps:List MemPlace),
  (ts.all λ t=>P.readableRec t&&decide (t<P.types.size))=true→DataW.TrodAll enc P W 0 (λ _=>true) true ts vs ds ps→DataW.TrodAll enc P W' 0 (λ b=>decide (b<W.heap.size)) true ts vs ds ps
 | [],[],[],_,_,h=>h
 | t::ts,v::vs,d::ds,_,hr,⟨p,q,h1,h2,h3⟩=>by
  simp only [List.all_cons,Bool.and_eq_true,decide_eq_true_eq] at hr;refine ⟨p,q,Below.trod hl hr.1.1 hr.1.2 h1 hb ?_,kept_all hl hb ts vs ds q (by simpa using hr.2) h2,h3⟩;obtain ⟨m,hm⟩:=h1;exact DataW.trod_lt m _ _ _ hm
 | [],[],_::_,_,_,h=>h.elim
 | [],_::_,_,_,_,h=>by cases ‹List (DataW H)›<;>exact h.elim
 | _::_,[],_,_,_,h=>by cases ‹List (DataW H)›<;>exact h.elim
 | _::_,_::_,[],_,_,h=>h.elim
theorem sl_in {t e:TypeId} {k:IntKind} {fuel:Nat} {c:Value} {x:DataW H×List MemPlace} (ht:P.underlying t=some (.slice e)) (he:P.underlying e=some (.int k)) (hc:P.cellsOf e=1)
  (h:DataW.trod enc P W 0 (λ _=>true) true fuel t [c]=some x) :
  ∃ (a:Option Addr) (n m:Nat) (zs:List Int),c=.slice a n m∧Sl (λ k=>k<W.heap.size) W 1 a n m (zs.map (Value.int k))∧∀ z∈zs,(Lit.int k z).wf=true:=by
 rcases open_ints ht he hc h with ⟨hcs,_⟩|⟨p,n,m,zs,hcs,_,hl,hm,hz,_,hcell,hwz⟩
 ·simp only [List.cons.injEq,and_true] at hcs;subst hcs;exact ⟨none,0,0,[],rfl,Sl.nil_mk _ _ _,sM⟩
 ·simp only [List.cons.injEq,and_true] at hcs;subst hcs;have hz':zs.length=m:=by simpa using hz
  refine ⟨some p,n,m,zs.take n,rfl,⟨by simp;omega,hl,hm,(λ h=>by cases h),λ hn=>?_⟩,λ z hz=>hwz z (List.mem_of_mem_take hz)⟩
  have hpos:0<zs.length:=by
   rcases Nat.eq_zero_or_pos zs.length with h0|h0
   ·exact absurd (by rw [List.eq_nil_of_length_eq_zero h0];simp) hn
   ·exact h0
  have h0:=hcell 0 hpos;rw [show p.add 0=p from rfl] at h0;have hs:p.spot=none:=World.cell?_spot h0;obtain ⟨b,o,s⟩:=p;simp only at hs;subst hs;refine ⟨rfl,World.block_lt_of_cell? W _ h0,World.block_lt_of_cell? W _ h0,λ j v hj=>?_⟩
  have hjl:j<zs.length:=by
   have:=(List.getElem?_eq_some_iff.1 hj).1;simp at this;omega
  have:=hcell j hjl;rw [Addr.add_lit] at this;rw [this];simp only [List.getElem?_map,List.getElem?_take] at hj;split at hj
  ·simp [hjl] at hj;simp [hj,hjl]
  ·simp at hj
end
end Go.Proofs.YtfpadnmdafiddaaGreatDoor
namespace Go.V
open Go Go.RowKit
def ulim:IntKind→Option Nat
 | .u8=>some 256
 | .u16=>some 65536
 | .u32=>some 4294967296
 | .u64=>some 18446744073709551616
 | _=>none
theorem wrap_u {kd:IntKind} {M:Nat} (h:ulim kd=some M) (z:Nat):kd.wrap (z:Int)=((z%M:Nat):Int):=by
 unfold ulim at h;split at h<;>first|(cases h;done)|(cases h;simp [IntKind.wrap,IntKind.bits,IntKind.signed])
theorem eV {kd:IntKind} {M:Nat} (h:ulim kd=some M) {z:Nat} (hz:z<M):kd.wrap (z:Int)=(z:Int):=by
 rw [wrap_u h,Nat.mod_eq_of_lt hz]
theorem ulim_bits {kd:IntKind} {M:Nat} (h:ulim kd=some M):M=2^kd.bits:=by
 unfold ulim at h;split at h<;>first|(cases h;done)|(cases h;simp [IntKind.bits])
def p2:Nat→Option Nat
 | 0=>some 1
 | 1=>some 2
 | 2=>some 4
 | 3=>some 8
 | 4=>some 16
 | 5=>some 32
 | 6=>some 64
 | 7=>some 128
 | 8=>some 256
 | 9=>some 512
 | 10=>some 1024
 | 11=>some 2048
 | 12=>some 4096
 | 13=>some 8192
 | 14=>some 16384
 | 15=>some 32768
 | 16=>some 65536
 | 17=>some 131072
 | 18=>some 262144
 | 19=>some 524288
 | 20=>some 1048576
 | 21=>some 2097152
 | 22=>some 4194304
 | 23=>some 8388608
 | 24=>some 16777216
 | 25=>some 33554432
 | 26=>some 67108864
 | 27=>some 134217728
 | 28=>some 268435456
 | 29=>some 536870912
 | 30=>some 1073741824
 | 31=>some 2147483648
 | 32=>some 4294967296
 | 33=>some 8589934592
 | 34=>some 17179869184
 | 35=>some 34359738368
 | 36=>some 68719476736
 | 37=>some 137438953472
 | 38=>some 274877906944
 | 39=>some 549755813888
 | 40=>some 1099511627776
 | 41=>some 2199023255552
 | 42=>some 4398046511104
 | 43=>some 8796093022208
 | 44=>some 17592186044416
 | 45=>some 35184372088832
 | 46=>some 70368744177664
 | 47=>some 140737488355328
 | 48=>some 281474976710656
 | 49=>some 562949953421312
 | 50=>some 1125899906842624
 | 51=>some 2251799813685248
 | 52=>some 4503599627370496
 | 53=>some 9007199254740992
 | 54=>some 18014398509481984
 | 55=>some 36028797018963968
 | 56=>some 72057594037927936
 | 57=>some 144115188075855872
 | 58=>some 288230376151711744
 | 59=>some 576460752303423488
 | 60=>some 1152921504606846976
 | 61=>some 2305843009213693952
 | 62=>some 4611686018427387904
 | 63=>some 9223372036854775808
 | _=>none
theorem p2_eq {k p:Nat} (h:p2 k=some p):p=2^k∧k<64:=by
 unfold p2 at h;split at h<;>first|(cases h;done)|(cases h;decide)
def m2:Nat→Option Nat
 | 1=>some 2
 | 3=>some 4
 | 7=>some 8
 | 15=>some 16
 | 31=>some 32
 | 63=>some 64
 | 127=>some 128
 | 255=>some 256
 | 511=>some 512
 | 1023=>some 1024
 | 2047=>some 2048
 | 4095=>some 4096
 | 8191=>some 8192
 | 16383=>some 16384
 | 32767=>some 32768
 | 65535=>some 65536
 | 131071=>some 131072
 | 262143=>some 262144
 | 524287=>some 524288
 | 1048575=>some 1048576
 | 2097151=>some 2097152
 | 4194303=>some 4194304
 | 8388607=>some 8388608
 | 16777215=>some 16777216
 | 33554431=>some 33554432
 | 67108863=>some 67108864
 | 134217727=>some 134217728
 | 268435455=>some 268435456
 | 536870911=>some 536870912
 | 1073741823=>some 1073741824
 | 2147483647=>some 2147483648
 | 4294967295=>some 4294967296
 | 8589934591=>some 8589934592
 | 17179869183=>some 17179869184
 | 34359738367=>some 34359738368
 | 68719476735=>some 68719476736
 | 137438953471=>some 137438953472
 | 274877906943=>some 274877906944
 | 549755813887=>some 549755813888
 | 1099511627775=>some 1099511627776
 | 2199023255551=>some 2199023255552
 | 4398046511103=>some 4398046511104
 | 8796093022207=>some 8796093022208
 | 17592186044415=>some 17592186044416
 | 35184372088831=>some 35184372088832
 | 70368744177663=>some 70368744177664
 | 140737488355327=>some 140737488355328
 | 281474976710655=>some 281474976710656
 | 562949953421311=>some 562949953421312
 | 1125899906842623=>some 1125899906842624
 | 2251799813685247=>some 2251799813685248
 | 4503599627370495=>some 4503599627370496
 | 9007199254740991=>some 9007199254740992
 | 18014398509481983=>some 18014398509481984
 | 36028797018963967=>some 36028797018963968
 | 72057594037927935=>some 72057594037927936
 | 144115188075855871=>some 144115188075855872
 | 288230376151711743=>some 288230376151711744
 | 576460752303423487=>some 576460752303423488
 | 1152921504606846975=>some 1152921504606846976
 | 2305843009213693951=>some 2305843009213693952
 | 4611686018427387903=>some 4611686018427387904
 | 9223372036854775807=>some 9223372036854775808
 | 18446744073709551615=>some 18446744073709551616
 | _=>none
theorem m2_eq {c m:Nat} (h:m2 c=some m):m=c+1∧∃ k,m=2^k:=by
 unfold m2 at h;split at h<;>first|(cases h;done)|(cases h;refine ⟨rfl,?_⟩)
 ·exact ⟨1,dM⟩
 ·exact ⟨2,dM⟩
 ·exact ⟨3,dM⟩
 ·exact ⟨4,dM⟩
 ·exact ⟨5,dM⟩
 ·exact ⟨6,dM⟩
 ·exact ⟨7,dM⟩
 ·exact ⟨8,dM⟩
 ·exact ⟨9,dM⟩
 ·exact ⟨10,dM⟩
 ·exact ⟨11,dM⟩
 ·exact ⟨12,dM⟩
 ·exact ⟨13,dM⟩
 ·exact ⟨14,dM⟩
 ·exact ⟨15,dM⟩
 ·exact ⟨16,dM⟩
 ·exact ⟨17,dM⟩
 ·exact ⟨18,dM⟩
 ·exact ⟨19,dM⟩
 ·exact ⟨20,dM⟩
 ·exact ⟨21,dM⟩
 ·exact ⟨22,dM⟩
 ·exact ⟨23,dM⟩
 ·exact ⟨24,dM⟩
 ·exact ⟨25,dM⟩
 ·exact ⟨26,dM⟩
 ·exact ⟨27,dM⟩
 ·exact ⟨28,dM⟩
 ·exact ⟨29,dM⟩
 ·exact ⟨30,dM⟩
 ·exact ⟨31,dM⟩
 ·exact ⟨32,dM⟩
 ·exact ⟨33,dM⟩
 ·exact ⟨34,dM⟩
 ·exact ⟨35,dM⟩
 ·exact ⟨36,dM⟩
 ·exact ⟨37,dM⟩
 ·exact ⟨38,dM⟩
 ·exact ⟨39,dM⟩
 ·exact ⟨40,dM⟩
 ·exact ⟨41,dM⟩
 ·exact ⟨42,dM⟩
 ·exact ⟨43,dM⟩
 ·exact ⟨44,dM⟩
 ·exact ⟨45,dM⟩
 ·exact ⟨46,dM⟩
 ·exact ⟨47,dM⟩
 ·exact ⟨48,dM⟩
 ·exact ⟨49,dM⟩
 ·exact ⟨50,dM⟩
 ·exact ⟨51,dM⟩
 ·exact ⟨52,dM⟩
 ·exact ⟨53,dM⟩
 ·exact ⟨54,dM⟩
 ·exact ⟨55,dM⟩
 ·exact ⟨56,dM⟩
 ·exact ⟨57,dM⟩
 ·exact ⟨58,dM⟩
 ·exact ⟨59,dM⟩
 ·exact ⟨60,dM⟩
 ·exact ⟨61,dM⟩
 ·exact ⟨62,dM⟩
 ·exact ⟨63,dM⟩
 ·exact ⟨64,dM⟩
class Lit (z:Int) (a:outParam Nat):Prop where
 h:z=(a:Int)
instance (m:Nat):Lit (m:Int) m:=⟨rfl⟩
instance (priority:=low) (m:Nat):Lit (no_index (@OfNat.ofNat Int m instOfNat)) (@OfNat.ofNat Nat m (instOfNatNat m)):=⟨rfl⟩
def intTyB (P:Program) (t:TypeId) (k:IntKind):Bool:=match P.underlying t with|some (.int k')=>k'==k|_=>false
class IntTy (P:Program) (t:TypeId) (k:outParam IntKind):Prop where
 h:intTyB P t k=true
theorem IntTy.und {P:Program} {t:TypeId} {k:IntKind} (h:IntTy P t k):P.underlying t=some (.int k):=by
 have h:=h.h;unfold intTyB at h;split at h
 ·rename_i k' hu;rw [hu];simp at h;rw [h]
 ·cases h
section rules
variable [Rn]
variable {P:Program} {n:Nat} {e:dJ} {w:World} {Q:dI} {ops:Array Oper} {rest:List Oper} {d:Nat} {ty:TypeId} {pos:String} {aft:Array Edge}
theorem TL.addU {zx zy:Int} {x y:Operand} {kd:IntKind} {M a b:Nat} {t1 t2:TypeId} (hx:val e x=some (.int kd zx)) [ix:Lit zx a] (hy:val e y=some (.int kd zy)) [iy:Lit zy b] (hM:ulim kd=some M) (h:a+b<M) (hd:Nat.blt d n=true)
  (k:TL P n ops rest ((d,.int kd ((a+b:Nat):Int))::e) w Q):TL P n ops (⟨some d,.binOp .add t1 x y t2,ty,pos,aft,none⟩::rest) e w Q :=
 TL.run (λ r hr=>by
  rw [ix.h] at hx;rw [iy.h] at hy
  have:=eV hM h;simp only [Int.natCast_add] at this ⊢
  simp [execOp,binOp,bG,Op.intArith,hr.eval hx,hr.eval hy,this]) hd k
theorem TL.addW {zx zy:Int} {x y:Operand} {kd:IntKind} {M a b:Nat} {t1 t2:TypeId} (hx:val e x=some (.int kd zx)) [ix:Lit zx a] (hy:val e y=some (.int kd zy)) [iy:Lit zy b] (hM:ulim kd=some M) (hd:Nat.blt d n=true)
  (k:TL P n ops rest ((d,.int kd (((a+b)%M:Nat):Int))::e) w Q):TL P n ops (⟨some d,.binOp .add t1 x y t2,ty,pos,aft,none⟩::rest) e w Q :=
 TL.run (λ r hr=>by
  rw [ix.h] at hx;rw [iy.h] at hy
  have:=wrap_u hM (a+b);rw [Int.natCast_add] at this;simp only [execOp,binOp,bG,Op.intArith,hr.eval hx,hr.eval hy]
  simp [this]) hd k
theorem TL.subU {zx zy:Int} {x y:Operand} {kd:IntKind} {M a b:Nat} {t1 t2:TypeId} (hx:val e x=some (.int kd zx)) [ix:Lit zx a] (hy:val e y=some (.int kd zy)) [iy:Lit zy b] (hM:ulim kd=some M) (h:b≤a) (h2:a<M) (hd:Nat.blt d n=true)
  (k:TL P n ops rest ((d,.int kd ((a-b:Nat):Int))::e) w Q):TL P n ops (⟨some d,.binOp .sub t1 x y t2,ty,pos,aft,none⟩::rest) e w Q :=
 TL.run (λ r hr=>by
  rw [ix.h] at hx;rw [iy.h] at hy
  have:=eV hM (show a-b<M by omega);rw [Int.ofNat_sub h] at this ⊢
  simp [execOp,binOp,bG,Op.intArith,hr.eval hx,hr.eval hy,this]) hd k
theorem TL.mulU {zx zy:Int} {x y:Operand} {kd:IntKind} {M a b:Nat} {t1 t2:TypeId} (hx:val e x=some (.int kd zx)) [ix:Lit zx a] (hy:val e y=some (.int kd zy)) [iy:Lit zy b] (hM:ulim kd=some M) (h:a*b<M) (hd:Nat.blt d n=true)
  (k:TL P n ops rest ((d,.int kd ((a*b:Nat):Int))::e) w Q):TL P n ops (⟨some d,.binOp .mul t1 x y t2,ty,pos,aft,none⟩::rest) e w Q :=
 TL.run (λ r hr=>by
  rw [ix.h] at hx;rw [iy.h] at hy
  have:=eV hM h;simp only [Int.natCast_mul] at this ⊢
  simp [execOp,binOp,bG,Op.intArith,hr.eval hx,hr.eval hy,this]) hd k
theorem TL.mulW {zx zy:Int} {x y:Operand} {kd:IntKind} {M a b:Nat} {t1 t2:TypeId} (hx:val e x=some (.int kd zx)) [ix:Lit zx a] (hy:val e y=some (.int kd zy)) [iy:Lit zy b] (hM:ulim kd=some M) (hd:Nat.blt d n=true)
  (k:TL P n ops rest ((d,.int kd ((a*b%M:Nat):Int))::e) w Q):TL P n ops (⟨some d,.binOp .mul t1 x y t2,ty,pos,aft,none⟩::rest) e w Q :=
 TL.run (λ r hr=>by
  rw [ix.h] at hx;rw [iy.h] at hy
  have:=wrap_u hM (a*b);rw [Int.natCast_mul] at this;simp only [execOp,binOp,bG,Op.intArith,hr.eval hx,hr.eval hy]
  simp [this]) hd k
theorem bits_nat {kd:IntKind} {M:Nat} (h:ulim kd=some M) (a:Nat):(BitVec.ofInt kd.bits (a:Int)).toNat=a%M:=by
 rw [ulim_bits h,BitVec.toNat_ofInt];rw [show ((2^kd.bits:Nat):Int)=((2^kd.bits:Nat):Int) from rfl,← Int.natCast_emod,Int.toNat_natCast]
theorem TL.andU {zx zy:Int} {x y:Operand} {kd:IntKind} {M a c m:Nat} {t1 t2:TypeId} (hx:val e x=some (.int kd zx)) [ix:Lit zx a] (hy:val e y=some (.int kd zy)) [iy:Lit zy c] (hM:ulim kd=some M) (hm:m2 c=some m) (ha:a<M) (hc:c<M) (hd:Nat.blt d n=true)
  (k:TL P n ops rest ((d,.int kd ((a%m:Nat):Int))::e) w Q):TL P n ops (⟨some d,.binOp .and t1 x y t2,ty,pos,aft,none⟩::rest) e w Q :=
 TL.run (λ r hr=>by
  rw [ix.h] at hx;rw [iy.h] at hy
  obtain ⟨h1,j,h2⟩:=m2_eq hm;have hc':c=2^j-1:=by omega
  have e1:((BitVec.ofInt kd.bits (a:Int))&&&(BitVec.ofInt kd.bits (c:Int))).toNat=a%m:=by
   rw [BitVec.toNat_and,bits_nat hM,bits_nat hM,Nat.mod_eq_of_lt ha,Nat.mod_eq_of_lt hc,hc',Nat.and_two_pow_sub_one_eq_mod,← h2]
  have e2:=eV hM (show a%m<M from Nat.lt_of_le_of_lt (Nat.mod_le _ _) ha);rw [← e1] at e2
  have hb:binOp .and t1 (.int kd (a:Int)) (.int kd (c:Int))=Pure.pure (.int kd ((a%m:Nat):Int)):=by
   simp only [binOp,Op.intBits,ne_eq,not_true_eq_false,if_false];rw [e2,e1]
  simp only [execOp,bG,hr.eval hx,hr.eval hy,hb]
  rfl) hd k
theorem or_apart {a b m k:Nat} (hm:m=2^k) (ha:a<m) (hb:b%m=0):a|||b=a+b:=by
 subst hm;obtain ⟨q,rfl⟩:=Nat.dvd_of_mod_eq_zero hb;rw [Nat.or_comm,Nat.add_comm];exact (Nat.two_pow_add_eq_or_of_lt ha q).symm
theorem TL.orL {zx zy:Int} {x y:Operand} {kd:IntKind} {M a b q m:Nat} {t1 t2:TypeId} (hx:val e x=some (.int kd zx)) [ix:Lit zx a] (hy:val e y=some (.int kd zy)) [iy:Lit zy b] (hM:ulim kd=some M) (hq:a=q*m%M) (hm:m2 (m-1)=some m) (hb:b<m) (hmM:Nat.ble m M=true) (hd:Nat.blt d n=true)
  (k:TL P n ops rest ((d,.int kd ((a+b:Nat):Int))::e) w Q):TL P n ops (⟨some d,.binOp .or t1 x y t2,ty,pos,aft,none⟩::rest) e w Q :=
 TL.run (λ r hr=>by
  rw [ix.h] at hx;rw [iy.h] at hy
  have hmM':=Nat.le_of_ble_eq_true hmM;obtain ⟨_,j,hj⟩:=m2_eq hm;have hMp:=ulim_bits hM
  have hdvd:m ∣ M:=by
   rw [hj,hMp];rw [hj,hMp] at hmM'
   exact Nat.pow_dvd_pow 2 ((Nat.pow_le_pow_iff_right dM).1 hmM')
  have haM:a<M:=by rw [hq];exact Nat.mod_lt _ (by rw [hMp];exact Nat.two_pow_pos _)
  have ham:a%m=0:=by rw [hq,Nat.mod_mod_of_dvd _ hdvd];exact Nat.mul_mod_left _ _
  have hbM:b<M:=by omega
  have e1:((BitVec.ofInt kd.bits (a:Int))|||(BitVec.ofInt kd.bits (b:Int))).toNat=a+b:=by
   rw [BitVec.toNat_or,bits_nat hM,bits_nat hM,Nat.mod_eq_of_lt haM,Nat.mod_eq_of_lt hbM,Nat.or_comm,or_apart hj hb ham,Nat.add_comm]
  have hlt:a+b<M:=by
   rw [← e1,ulim_bits hM];exact BitVec.isLt _
  have e2:=eV hM hlt;rw [← e1] at e2
  have hb:binOp .or t1 (.int kd (a:Int)) (.int kd (b:Int))=Pure.pure (.int kd ((a+b:Nat):Int)):=by
   simp only [binOp,Op.intBits,ne_eq,not_true_eq_false,if_false];rw [e2,e1]
  simp only [execOp,bG,hr.eval hx,hr.eval hy,hb]
  rfl) hd k
theorem TL.shrU {zx zy:Int} {x y:Operand} {kd ky:IntKind} {M a s p:Nat} {t1 t2:TypeId} (hx:val e x=some (.int kd zx)) [ix:Lit zx a] (hy:val e y=some (.int ky zy)) [iy:Lit zy s] (hM:ulim kd=some M) (hp:p2 s=some p) (hs:Nat.ble s kd.bits=true) (hd:Nat.blt d n=true)
  (k:TL P n ops rest ((d,.int kd ((a / p:Nat):Int))::e) w Q):TL P n ops (⟨some d,.binOp .shr t1 x y t2,ty,pos,aft,none⟩::rest) e w Q :=
 TL.run (λ r hr=>by
  rw [ix.h] at hx;rw [iy.h] at hy
  obtain ⟨h1,h2⟩:=p2_eq hp;have h3:min s kd.bits=s:=Nat.min_eq_left (Nat.le_of_ble_eq_true hs);have h4:¬ ((s:Int)<0):=by omega
  have e1:(a:Int).fdiv (2^s)=((a / p:Nat):Int):=by
   rw [Int.fdiv_eq_ediv_of_nonneg _ (by exact_mod_cast Nat.zero_le (2^s)),h1];simp
  simp only [execOp,binOp,bG,Op.shift,hr.eval hx,hr.eval hy]
  simp [h3,h4,e1]) hd k
theorem TL.shlW {zx zy:Int} {x y:Operand} {kd ky:IntKind} {M a s p:Nat} {t1 t2:TypeId} (hx:val e x=some (.int kd zx)) [ix:Lit zx a] (hy:val e y=some (.int ky zy)) [iy:Lit zy s] (hM:ulim kd=some M) (hp:p2 s=some p) (hs:Nat.ble s kd.bits=true) (hd:Nat.blt d n=true)
  (k:TL P n ops rest ((d,.int kd ((a*p%M:Nat):Int))::e) w Q):TL P n ops (⟨some d,.binOp .shl t1 x y t2,ty,pos,aft,none⟩::rest) e w Q :=
 TL.run (λ r hr=>by
  rw [ix.h] at hx;rw [iy.h] at hy
  obtain ⟨h1,h2⟩:=p2_eq hp;have h3:min s kd.bits=s:=Nat.min_eq_left (Nat.le_of_ble_eq_true hs);have h4:¬ ((s:Int)<0):=by omega
  have e1:(a:Int)*2^s=((a*p:Nat):Int):=by rw [h1];simp
  have e2:=wrap_u hM (a*p);rw [← e1] at e2;simp only [execOp,binOp,bG,Op.shift,hr.eval hx,hr.eval hy]
  simp [h3,h4,e2]) hd k
theorem jC {s t:TypeId} {k1 k2 kd:IntKind} (hs:IntTy P s k1) (ht:IntTy P t k2) (z:Int) (w:World):(convert s t (.int kd z)).run P w=.ok (.int k2 (k2.wrap z)) w:=by
 simp [convert,underlying,hs.und,ht.und,Conv.intToInt]
theorem TL.convU {zx:Int} {s t:TypeId} {x:Operand} {k1 k2 kd:IntKind} {a M:Nat} [hs:IntTy P s k1] [ht:IntTy P t k2] (hx:val e x=some (.int kd zx)) [ix:Lit zx a] (hM:ulim k2=some M) (h:a<M) (hd:Nat.blt d n=true)
  (k:TL P n ops rest ((d,.int k2 (a:Int))::e) w Q):TL P n ops (⟨some d,.convert s t x,ty,pos,aft,none⟩::rest) e w Q :=
 TL.run (λ r hr=>by
  rw [ix.h] at hx
  simp [execOp,hr.eval hx,jC hs ht,eV hM h]) hd k
theorem iC {zx:Int} {s t:TypeId} {x:Operand} {k1 k2 kd:IntKind} {a M:Nat} [hs:IntTy P s k1] [ht:IntTy P t k2] (hx:val e x=some (.int kd zx)) [ix:Lit zx a] (hM:ulim k2=some M) (hd:Nat.blt d n=true)
  (k:TL P n ops rest ((d,.int k2 ((a%M:Nat):Int))::e) w Q):TL P n ops (⟨some d,.convert s t x,ty,pos,aft,none⟩::rest) e w Q :=
 TL.run (λ r hr=>by
  rw [ix.h] at hx
  simp only [execOp,hr.eval hx];simp only [Sem.run_bind,jC hs ht,Result.andThen_ok,wrap_u hM];rfl) hd k
theorem TL.nilCheck {x:Operand} {p:Addr} (hx:val e x=some (.pointer (some p))) (hd:Nat.blt d n=true)
  (k:TL P n ops rest ((d,.pointer (some p))::e) w Q):TL P n ops (⟨some d,.nilCheck x,ty,pos,aft,none⟩::rest) e w Q :=
 TL.run (λ r hr=>by simp [execOp,hr.eval hx]) hd k
theorem ArrTy.und {t len elem size:Nat} (h:ArrTy P t len elem size):P.underlying t=some (.array len elem)∧∃ i,P.info? elem=some i∧i.size=size:=by
 have h:=h.h;unfold arrB at h;split at h
 ·rename_i l el hu;simp only [Bool.and_eq_true,beq_iff_eq] at h;obtain ⟨⟨rfl,rfl⟩,h2⟩:=h;refine ⟨hu,?_⟩
  cases hi:P.info? el with
  | none=>rw [hi] at h2;cases h2
  | some i=>rw [hi] at h2;exact ⟨i,rfl,by simpa using h2⟩
 ·cases h
theorem ArrTy.size {t len elem size:Nat} (h:ArrTy P t len elem size) (w:World):(sizeOf elem).run P w=.ok size w:=by
 obtain ⟨_,i,hi,hs⟩:=h.und;simp [sizeOf,typeInfo,hi,hs]
theorem TL.indexArr {t len elem size:Nat} {x i:Operand} {b o j:Nat} {kd:IntKind} {z:Int} [ht:ArrTy P t len elem size] (hx:val e x=some (.pointer (some ⟨b,o,none⟩))) (hi:val e i=some (.int kd z))
  [iz:Lit z j] (hj:j<len) {o':Nat} (ho:o+j*size=o') (hd:Nat.blt d n=true)
  (k:TL P n ops rest ((d,.pointer (some ⟨b,o',none⟩))::e) w Q):TL P n ops (⟨some d,.indexAddr t x i,ty,pos,aft,none⟩::rest) e w Q :=
 TL.run (λ r hr=>by
  subst ho;rw [iz.h] at hi
  simp [execOp,hr.eval hx,hr.eval hi,Instr.indexAt,Instr.sureAddr,asIntOf,underlying,ht.und.1,ht.size,hj,Addr.add_lit]) hd k
theorem TL.indexAt {t elem size bytes:Nat} {x i:Operand} {b o m c j:Nat} {kd:IntKind} {z:Int} [ht:SliceTy P t elem size bytes] (hx:val e x=some (.slice (some ⟨b,o,none⟩) m c)) (hi:val e i=some (.int kd z))
  [iz:Lit z j] (hj:j<m) {o':Nat} (ho:o+j*size=o') (hd:Nat.blt d n=true)
  (k:TL P n ops rest ((d,.pointer (some ⟨b,o',none⟩))::e) w Q):TL P n ops (⟨some d,.indexAddr t x i,ty,pos,aft,none⟩::rest) e w Q :=
 TL.run (λ r hr=>by
  subst ho;rw [iz.h] at hi
  simp [execOp,hr.eval hx,hr.eval hi,Instr.indexAt,asIntOf,underlying,ht.und,ht.size,Nat.not_le.2 hj,hj,Addr.add_lit]) hd k
theorem mS {x:Operand} {k:IntKind} {z:Int} {j dflt:Nat} (h:val e x=some (.int k z)) [i:Lit z j]:bnd e (some x) j dflt:=⟨k,z,h,i.h⟩
theorem gJ {t len elem size:Nat} {x:Operand} {lo hi:Option Operand} {b o l h:Nat} [ht:ArrTy P t len elem size]
  (hx:val e x=some (.pointer (some ⟨b,o,none⟩))) (hl:bnd e lo l 0) (hh:bnd e hi h len) (b1:l≤h) (b2:h≤len) (b3:l<len) {o':Nat} (ho:o+l*size=o') (hd:Nat.blt d n=true)
  (k:TL P n ops rest ((d,.slice (some ⟨b,o',none⟩) (h-l) (len-l))::e) w Q):TL P n ops (⟨some d,.slice t x lo hi none,ty,pos,aft,none⟩::rest) e w Q:=by
 have hbs:∀ r,Fits n e r→(Instr.sliceBounds false len len (lo.map r.eval) (hi.map r.eval) none).run P w=.ok (l,h,len) w:=by
  intro r hr
  cases lo with
  | none =>
   simp only [bnd] at hl;subst hl
   cases hi with
   | none=>simp only [bnd] at hh;subst hh;simp [Instr.sliceBounds]
   | some y=>obtain ⟨k2,z2,v2,e2⟩:=hh;simp [Instr.sliceBounds,hr.eval v2,cT e2 b2]
  | some x1 =>
   obtain ⟨k1,z1,v1,e1⟩:=hl
   cases hi with
   | none=>simp only [bnd] at hh;subst hh;simp [Instr.sliceBounds,hr.eval v1,cT e1 b1]
   | some y=>obtain ⟨k2,z2,v2,e2⟩:=hh;simp [Instr.sliceBounds,hr.eval v1,hr.eval v2,cT e2 b2,cT e1 b1]
 have hne:¬ (len=l):=by omega
 subst ho;exact TL.run (λ r hr=>by simp [execOp,hr.eval hx,Instr.sliceAt,Instr.sureAddr,underlying,ht.und.1,hbs r hr,ht.size,hne,Addr.add_lit]) hd k
theorem mX {t len elem size:Nat} {z:Value} {parts:List (Nat×Operand)} {vs:List (Nat×Value)} {cs:List Value} [hz:Zero P t z] [ht:ArrTy P t len elem size]
  (hx:partsV (val e) parts=some vs) (hf:fillV ((List.range len).map λ i=>(i*size,size)) z.cells.toList vs=some cs) (hd:Nat.blt d n=true)
  (k:TL P n ops rest ((d,.agg cs.toArray)::e) w Q):TL P n ops (⟨some d,.build t parts.toArray,ty,pos,aft,none⟩::rest) e w Q:=by
 refine TL.run (λ r hr=>?_) hd k
 have hvs:parts.toArray.map (λ (i,x)=>(i,r.eval x))=vs.toArray:=by
  simp [mM hr parts vs hx]
 have hfill:Instr.fill (λ i=>some (i*size,size)) z.cells vs=some cs.toArray:=fill_eq (pl:=(λ i=>some (i*size,size))) (by intro i x h;rw [List.getElem?_map] at h;cases hr:(List.range len)[i]? with
   | none=>rw [hr] at h;cases h
   | some j=>rw [hr] at h;have:=(List.getElem?_eq_some_iff.1 hr).2;simp at this;subst this;exact h) vs _ cs hf
 simp only [execOp,hvs,Instr.build,hz.run,underlying,ht.und.1,Sem.run_bind,run_program,Result.andThen_ok,Sem.run_pure,ht.size];simp only [Result.andThen_ok,hfill,Sem.run_pure]
theorem TL.indexV {t len elem size:Nat} {x i:Operand} {j:Nat} {kd:IntKind} {z:Int} {cs:List Value} {v:Value} [ht:ArrTy P t len elem size] [h1:One P elem] (hx:val e x=some (.agg cs.toArray)) (hi:val e i=some (.int kd z))
  [iz:Lit z j] (hj:j<len) (hs:size=1) (hv:cs[j]? = some v) (hd:Nat.blt d n=true)
  (k:TL P n ops rest ((d,v)::e) w Q):TL P n ops (⟨some d,.index t x i,ty,pos,aft,none⟩::rest) e w Q :=
 TL.run (λ r hr=>by
  rw [iz.h] at hi;subst hs
  simp [execOp,hr.eval hx,hr.eval hi,Instr.index,asIntOf,underlying,ht.und.1,ht.size,hj,part,h1.agg,hv]) hd k
def kL:List Value→List Value→Prop
 | [],[]=>True
 | .int k a::xs,.int k' b::ys=>k=k'∧kL xs ys
 | _,_=>False
theorem sameInts_at:∀ {xs ys:List Value},kL xs ys→xs.length=ys.length∧∀ i,i<xs.length→∃ k a b,xs[i]? = some (.int k a)∧ys[i]? = some (.int k b)
 | [],[],_=>⟨rfl,λ i h=>absurd h (Nat.not_lt_zero _)⟩
 | [],_::_,h=>by simp [kL] at h
 | x::_,[],h=>by cases x<;>simp [kL] at h
 | x::xs,y::ys,h=>by
  cases x<;>cases y<;>simp only [kL] at h
  rename_i k a k' b;obtain ⟨rfl,h2⟩:=h;obtain ⟨h3,h4⟩:=sameInts_at h2;refine ⟨by simp [h3],λ i hi=>?_⟩
  cases i with
  | zero=>exact ⟨k,a,b,sM⟩
  | succ i=>simpa using h4 i (by simpa using hi)
theorem run_eqArr {t len elem kd:_} {size:Nat} (ht:ArrTy P t len elem size) (hs:size=1) (he:IntTy P elem kd) {xs ys:List Value} (hsame:kL xs ys) (hl:xs.length=len) {c:Bool} (hc:c=true↔xs=ys) (dp:Nat) (w:World) :
  (Op.equalIn (dp+2) t (.agg xs.toArray) (.agg ys.toArray)).run P w=.ok c w:=by
 classical
 obtain ⟨hlen,hat⟩:=sameInts_at hsame;subst hs
 have hc':c=((List.range len).all λ i=>decide (xs[i]? = ys[i]?)):=by
  rw [Bool.eq_iff_iff,hc];simp only [List.all_eq_true,List.mem_range,decide_eq_true_eq];constructor
  ·rintro rfl _ _;rfl
  ·intro h;apply List.ext_getElem?;intro i;by_cases hi:i<len
   ·exact h i hi
   ·rw [List.getElem?_eq_none oM,List.getElem?_eq_none oM]
 rw [hc',List.range_eq_range',Op.equalIn];simp only [Sem.run_bind,run_underlying ht.und.1,Result.andThen_ok,ht.size,Std.Legacy.Range.forIn_eq_forIn_range',Std.Legacy.Range.size,Nat.sub_zero,Nat.add_sub_cancel,Nat.div_one];have hlr:∀ i∈List.range' 0 len 1,i<len:=λ i hi=>by simpa using (List.mem_range'_1.1 hi).2
 generalize List.range' 0 len 1=l at hlr ⊢
 induction l with
 | nil=>simp
 | cons i l ih =>
  have hi:i<len:=hlr i sM;obtain ⟨k,a,b,hxa,hyb⟩:=hat i oM
  have px:(part elem xs.toArray (i*1)).run P w=.ok (.int k a) w:=by
   simp [part,isAgg,run_underlying he.und,hxa]
  have py:(part elem ys.toArray (i*1)).run P w=.ok (.int k b) w:=by
   simp [part,isAgg,run_underlying he.und,hyb]
  have pe:(Op.equalIn (dp+1) elem (.int k a) (.int k b)).run P w=.ok (decide (xs[i]? = ys[i]?)) w:=by
   rw [run_equalIn_int w dp elem k kd a b he.und,hxa,hyb];congr 1
   rw [Bool.eq_iff_iff];simp
  simp only [List.forIn_cons,Sem.run_bind,px,py,pe,Result.andThen_ok,List.all_cons];cases hb:(decide (xs[i]? = ys[i]?))
  ·simp
  ·simp only [Bool.not_true,Bool.false_eq_true,if_false,Sem.run_pure,Result.andThen_ok,Bool.true_and];exact ih λ j hj=>hlr j (by simp [hj])
theorem noGuard {t len elem size:Nat} {kd:IntKind} (ht:ArrTy P t len elem size) (he:IntTy P elem kd):P.eqGuardType P.depth t=false:=by
 have:P.depth=(2*(P.types.size+Made.depth))+2:=rfl;rw [this];simp [Program.eqGuardType,ht.und.1,he.und]
theorem run_guardArr {op:BinOp} {t len elem size:Nat} {kd:IntKind} (ht:ArrTy P t len elem size) (he:IntTy P elem kd) (x y:Operand) (a b:Array Value) (w:World):(eqGuard op t x y (.agg a) (.agg b)).run P w=.ok () w:=by
 unfold eqGuard;split<;>simp [noGuard ht he]
theorem TL.neArr {t t2 len elem size:Nat} {x y:Operand} {kd:IntKind} {xs ys:List Value} [ht:ArrTy P t len elem size] [he:IntTy P elem kd] (c:Bool) (hx:val e x=some (.agg xs.toArray)) (hy:val e y=some (.agg ys.toArray)) (hs:size=1)
  (hsame:kL xs ys) (hl:xs.length=len) (hc:c=true↔xs=ys) (hd:Nat.blt d n=true)
  (k:TL P n ops rest ((d,.bool (!c))::e) w Q):TL P n ops (⟨some d,.binOp .neq t x y t2,ty,pos,aft,none⟩::rest) e w Q :=
 TL.run (λ r hr=>by
  simp only [execOp,hr.eval hx,hr.eval hy,Sem.run_bind,run_guardArr ht he,Result.andThen_ok]
  simp [binOp,Op.equal,Op.maxDepth,run_eqArr ht hs he hsame hl hc 9998]) hd k
theorem putAt_past:∀ (vs pre cs:List Value),vs.length=cs.length→iH (pre++cs) pre.length vs=pre++vs
 | [],pre,cs,h=>by
  have:cs=[]:=List.eq_nil_of_length_eq_zero (by simpa using h.symm);subst this;rfl
 | v::vs,pre,[],h=>by simp at h
 | v::vs,pre,c::cs,h=>by
  have:=putAt_past vs (pre++[v]) cs (by simpa using h);simp only [iH];rw [List.set_append_right _ _ (Nat.le_refl _),Nat.sub_self,List.set_cons_zero];simpa using this
theorem putAt_whole {vs cs:List Value} (h:vs.length=cs.length):iH cs 0 vs=vs:=putAt_past vs [] cs h
theorem aW {t bt:TypeId} {m b:Nat} {cs:List Value} [ht:Agg P t m] (hb:Blk w b bt cs) (hl:Nat.beq cs.length m=true):(loadVar t ⟨b,0,none⟩).run P w=.ok (.agg cs.toArray) w :=
 iR ht (Nat.eq_of_beq_eq_true hl) (hb.cells (by rw [List.drop_zero];exact List.take_of_length_le (Nat.le_of_eq (Nat.eq_of_beq_eq_true hl))))
theorem iO {t bt:TypeId} {m b:Nat} {x:Operand} {cs:List Value} [ht:Agg P t m] (hx:val e x=some (.pointer (some ⟨b,0,none⟩))) (hb:Blk w b bt cs) (hl:Nat.beq cs.length m=true)
  (hd:Nat.blt d n=true) (k:TL P n ops rest ((d,.agg cs.toArray)::e) w Q):TL P n ops (⟨some d,.load t x,ty,pos,aft,none⟩::rest) e w Q :=
 TL.run (λ a ha=>by simp [execOp,Instr.loadAt,ha.eval hx,Instr.sureAddr,aW (P:=P) hb hl]) hd k
theorem eJ {t bt:TypeId} {m:Nat} {x y:Operand} {b:Nat} {vs cs:List Value} [ht:Agg P t m] (hx:val e x=some (.pointer (some ⟨b,0,none⟩))) (hy:val e y=some (.agg vs.toArray)) (hb:Blk w b bt cs)
  (hm:Nat.beq vs.length m=true) (hl:Nat.beq cs.length m=true) (h1:vs.all Value.oneCell'=true)
  (k:∀ w',Upd b w w'→Blk w' b bt vs→w'.heap.size=w.heap.size→TL P n ops rest e w' Q):TL P n ops (⟨none,.store t x y,ty,pos,aft,none⟩::rest) e w Q:=by
 have e1:=Nat.eq_of_beq_eq_true hm;have e2:=Nat.eq_of_beq_eq_true hl;obtain ⟨w',hr,hu,hb'⟩:=run_storeVar_agg (P:=P) ht hb hm (Nat.ble_eq_true_of_le oM) h1 (putAt_whole oM);exact TL.run_skip (λ a ha=>by simp [execOp,Instr.storeAt,ha.eval hx,ha.eval hy,Instr.sureAddr,hr]) (k w' hu hb' hu.size)
end rules
section kinds
variable [Rn]
variable {P:Program} {n:Nat} {e:dJ} {w:World} {Q:dI} {ops:Array Oper} {rest:List Oper} {d:Option Nat} {ty:TypeId} {pos:String} {aft:Array Edge} {t1 t2:Nat} {x y:Operand} {l1 l2 l3:Option Operand} {o:BinOp} {c:Call} {ps:Array (Nat×Operand)}
theorem TL.isMove (h:TL P n ops (⟨d,(.move x),ty,pos,aft,none⟩::rest) e w Q):TL P n ops (⟨d,(.move x),ty,pos,aft,none⟩::rest) e w Q:=h
theorem TL.isAsg (h:TL P n ops (⟨d,(.assign x),ty,pos,aft,none⟩::rest) e w Q):TL P n ops (⟨d,(.assign x),ty,pos,aft,none⟩::rest) e w Q:=h
theorem nY (h:TL P n ops (⟨d,(.binOp .add t1 x y t2),ty,pos,aft,none⟩::rest) e w Q):TL P n ops (⟨d,(.binOp .add t1 x y t2),ty,pos,aft,none⟩::rest) e w Q:=h
theorem iP (h:TL P n ops (⟨d,(.binOp .sub t1 x y t2),ty,pos,aft,none⟩::rest) e w Q):TL P n ops (⟨d,(.binOp .sub t1 x y t2),ty,pos,aft,none⟩::rest) e w Q:=h
theorem eQ (h:TL P n ops (⟨d,(.binOp .mul t1 x y t2),ty,pos,aft,none⟩::rest) e w Q):TL P n ops (⟨d,(.binOp .mul t1 x y t2),ty,pos,aft,none⟩::rest) e w Q:=h
theorem TL.isAnd (h:TL P n ops (⟨d,(.binOp .and t1 x y t2),ty,pos,aft,none⟩::rest) e w Q):TL P n ops (⟨d,(.binOp .and t1 x y t2),ty,pos,aft,none⟩::rest) e w Q:=h
theorem TL.isOr (h:TL P n ops (⟨d,(.binOp .or t1 x y t2),ty,pos,aft,none⟩::rest) e w Q):TL P n ops (⟨d,(.binOp .or t1 x y t2),ty,pos,aft,none⟩::rest) e w Q:=h
theorem jW (h:TL P n ops (⟨d,(.binOp .shl t1 x y t2),ty,pos,aft,none⟩::rest) e w Q):TL P n ops (⟨d,(.binOp .shl t1 x y t2),ty,pos,aft,none⟩::rest) e w Q:=h
theorem eU (h:TL P n ops (⟨d,(.binOp .shr t1 x y t2),ty,pos,aft,none⟩::rest) e w Q):TL P n ops (⟨d,(.binOp .shr t1 x y t2),ty,pos,aft,none⟩::rest) e w Q:=h
theorem iQ (h:TL P n ops (⟨d,(.binOp o t1 x y t2),ty,pos,aft,none⟩::rest) e w Q):TL P n ops (⟨d,(.binOp o t1 x y t2),ty,pos,aft,none⟩::rest) e w Q:=h
theorem bK (h:TL P n ops (⟨d,(.fieldAddr t1 x t2),ty,pos,aft,none⟩::rest) e w Q):TL P n ops (⟨d,(.fieldAddr t1 x t2),ty,pos,aft,none⟩::rest) e w Q:=h
theorem aH (h:TL P n ops (⟨d,(.indexAddr t1 x y),ty,pos,aft,none⟩::rest) e w Q):TL P n ops (⟨d,(.indexAddr t1 x y),ty,pos,aft,none⟩::rest) e w Q:=h
theorem aO (h:TL P n ops (⟨d,(.load t1 x),ty,pos,aft,none⟩::rest) e w Q):TL P n ops (⟨d,(.load t1 x),ty,pos,aft,none⟩::rest) e w Q:=h
theorem bZ (h:TL P n ops (⟨d,(.store t1 x y),ty,pos,aft,none⟩::rest) e w Q):TL P n ops (⟨d,(.store t1 x y),ty,pos,aft,none⟩::rest) e w Q:=h
theorem TL.isBox (h:TL P n ops (⟨d,(.box t1 x),ty,pos,aft,none⟩::rest) e w Q):TL P n ops (⟨d,(.box t1 x),ty,pos,aft,none⟩::rest) e w Q:=h
theorem fL (h:TL P n ops (⟨d,(.alloc t1),ty,pos,aft,none⟩::rest) e w Q):TL P n ops (⟨d,(.alloc t1),ty,pos,aft,none⟩::rest) e w Q:=h
theorem dL (h:TL P n ops (⟨d,(.convert t1 t2 x),ty,pos,aft,none⟩::rest) e w Q):TL P n ops (⟨d,(.convert t1 t2 x),ty,pos,aft,none⟩::rest) e w Q:=h
theorem cG (h:TL P n ops (⟨d,(.slice t1 x l1 l2 l3),ty,pos,aft,none⟩::rest) e w Q):TL P n ops (⟨d,(.slice t1 x l1 l2 l3),ty,pos,aft,none⟩::rest) e w Q:=h
theorem TL.isBuild (h:TL P n ops (⟨d,(.build t1 ps),ty,pos,aft,none⟩::rest) e w Q):TL P n ops (⟨d,(.build t1 ps),ty,pos,aft,none⟩::rest) e w Q:=h
theorem TL.isNilC (h:TL P n ops (⟨d,(.nilCheck x),ty,pos,aft,none⟩::rest) e w Q):TL P n ops (⟨d,(.nilCheck x),ty,pos,aft,none⟩::rest) e w Q:=h
theorem eW (h:TL P n ops (⟨d,(.call c),ty,pos,aft,none⟩::rest) e w Q):TL P n ops (⟨d,(.call c),ty,pos,aft,none⟩::rest) e w Q:=h
theorem TL.isBuildS (h:TL P n ops (⟨d,(.buildSlice t1 t2 ps),ty,pos,aft,none⟩::rest) e w Q):TL P n ops (⟨d,(.buildSlice t1 t2 ps),ty,pos,aft,none⟩::rest) e w Q:=h
theorem TL.isGuard {op:Op} {g:Nat×Bool} (h:TL P n ops (⟨d,op,ty,pos,aft,some g⟩::rest) e w Q):TL P n ops (⟨d,op,ty,pos,aft,some g⟩::rest) e w Q:=h
end kinds
theorem yB {p:Prop} (h:p:=by (repeat (first|assumption|(apply Blk.grow;assumption)|(apply Blk.upd;assumption;omega)))):p:=h
theorem yM {p:Prop} (h:p:=by (first|assumption|exact Blk.cell yB (by exact rfl)|(repeat (first|assumption|(apply cell_grow;assumption)|(apply cell_upd;assumption;(first|omega|(simp only [];omega))))))):p:=h
theorem yG {p:Prop} (h:p:=by (repeat (first|assumption|exact Below.refl _ _|exact Grow.refl _|refine grow_trans (by assumption) ?_|refine aI (by assumption) oM ?_|refine below_grow (by assumption) oM ?_|refine below_upd (by assumption) oM ?_))):p:=h
theorem yD {p:Prop} (h:p:=by (first|assumption|(simp only [decide_eq_true_eq,decide_eq_false_iff_not,beq_iff_eq,beq_eq_false_iff_ne,bne_iff_ne,bne_eq_false_iff_eq,ne_eq,gt_iff_lt,ge_iff_le,Bool.not_eq_true',Bool.not_eq_false',Bool.not_true,Bool.not_false];(first|done|omega)))):p:=h
theorem yI {p:Nat→World→Prop} (h:∀ b w,p b w):∀ b w,p b w:=h
theorem yJ {p:World→Prop} (h:∀ w,p w):∀ w,p w:=h
structure Wr (p:Prop):Prop where
 h:p
theorem yA {A G:Prop} (k:A) (h:Wr A→G:=by (intro k;(first|(refine TL.isGuard ?_;first|refine TL.guard_skip rfl rfl rfl ?_|refine eK rfl rfl rfl ?_|refine TL.guard_yes rfl rfl yD rfl ?_|refine TL.guard_no rfl rfl yD rfl ?_)|(refine TL.isMove ?_;refine TL.pure rfl rfl ?_)|(refine TL.isAsg ?_;refine TL.pure rfl rfl ?_)|(refine aO ?_;first|refine aQ rfl yM rfl ?_|refine iO rfl yB (by exact rfl) rfl ?_|refine TL.loadN rfl yB (by exact rfl) (by exact rfl) rfl ?_)|(refine aH ?_;first|refine TL.indexArr rfl rfl oM rfl rfl ?_|refine TL.indexAt rfl rfl oM rfl rfl ?_)|refine TL.fieldAddr rfl rfl ?_|(refine nY ?_;first|refine TL.addI rfl rfl oM oM rfl ?_|refine TL.addU rfl rfl rfl oM rfl ?_|refine TL.addW rfl rfl rfl rfl ?_|refine TL.pure rfl rfl ?_)|(refine iP ?_;first|refine TL.subI rfl rfl oM oM rfl ?_|refine TL.subU rfl rfl rfl oM oM rfl ?_|refine TL.pure rfl rfl ?_)|(refine eQ ?_;first|refine TL.mulI rfl rfl oM oM rfl ?_|refine TL.mulU rfl rfl rfl oM rfl ?_|refine TL.mulW rfl rfl rfl rfl ?_|refine TL.pure rfl rfl ?_)|(refine TL.isAnd ?_;refine TL.andU rfl rfl rfl rfl oM oM rfl ?_)|refine TL.nil ?_|refine fA ?_|refine T.seq ?_|refine nZ ?_|refine T.block ?_|refine blockQ_normal ?_|(refine TL.isOr ?_;first|refine TL.orM rfl rfl rfl rfl rfl oM oM rfl rfl ?_|refine TL.orMW rfl rfl rfl rfl rfl oM rfl rfl ?_|refine TL.orL rfl rfl rfl rfl rfl oM rfl rfl ?_)|(refine jW ?_;first|refine TL.shlU rfl rfl rfl rfl rfl oM rfl ?_|refine TL.shlW rfl rfl rfl rfl rfl rfl ?_)|refine TL.shrU rfl rfl rfl rfl rfl rfl ?_|(refine iQ ?_;first|refine TL.pure rfl rfl ?_|refine TL.eqNil rfl rfl rfl ?_|refine TL.neNil rfl rfl rfl ?_)|(refine dL ?_;first|refine TL.convU rfl rfl oM rfl ?_|refine TL.convI rfl oM oM rfl ?_|refine iC rfl rfl rfl ?_)|(refine bZ ?_;first|refine dQ rfl rfl yB (by exact rfl) (by exact rfl) (by exact rfl) ?_|refine eJ rfl rfl yB (by exact rfl) (by exact rfl) (by exact rfl) ?_|refine TL.storeN rfl rfl yB (by exact rfl) (by exact rfl) (by exact rfl) (by exact rfl) ?_)|refine TL.box rfl rfl rfl ?_|refine TL.alloc rfl rfl ?_|(refine cG ?_;first|refine gJ rfl (mS rfl) (mS rfl) oM oM oM rfl rfl ?_|refine gJ rfl (aP _) (mS rfl) oM oM oM rfl rfl ?_|refine gJ rfl (mS rfl) (aP _) oM oM oM rfl rfl ?_|refine gJ rfl (aP _) (aP _) oM oM oM rfl rfl ?_)|(refine TL.isBuild ?_;first|refine TL.build rfl rfl rfl ?_|refine mX rfl rfl rfl ?_)|refine TL.nilCheck rfl rfl ?_|refine TL.buildSlice0 rfl ?_|(refine eW ?_;first|refine TL.len_slice rfl rfl ?_|refine TL.min2 rfl rfl rfl ?_)|refine T.cond_true rfl ?_|refine T.cond_false rfl ?_|refine T.cond_yes rfl yD ?_|refine T.cond_no rfl yD ?_|refine T.ret ?_|refine T.skip ?_|refine T.exit ?_|refine thenQ_ret ?_|refine thenQ_exit ?_|refine blockQ_hit ?_|refine blockQ_miss rfl ?_|refine blockQ_ret ?_|refine loopQ_ret ?_|refine loopQ_exit ?_|refine TL.pure rfl rfl ?_|refine uptoQ_normal ?_|refine upto_seq ?_|refine upto_end ?_|refine uptoQ_ret ?_|refine uptoQ_exit ?_);exact k.h)):G:=h ⟨k⟩
theorem dF {A G:Prop} (k:A) (h:Wr A→G:=by (intro k;repeat1' (refine yA ?_);exact k.h)):G:=h ⟨k⟩
theorem yC {A G:Prop} (k:A) (h:Wr A→G:=by (intro k;(first|(refine TL.isGuard ?_;first|refine TL.guard_skip rfl rfl rfl ?_|refine eK rfl rfl rfl ?_|refine TL.guard_yes rfl rfl yD rfl ?_|refine TL.guard_no rfl rfl yD rfl ?_)|(refine TL.isMove ?_;refine TL.pure rfl rfl ?_)|(refine TL.isAsg ?_;refine TL.pure rfl rfl ?_)|(refine aO ?_;first|refine aQ rfl yM rfl ?_|refine iO rfl yB (by exact rfl) rfl ?_|refine TL.loadN rfl yB (by exact rfl) (by exact rfl) rfl ?_)|(refine aH ?_;first|refine TL.indexA1 rfl rfl (by first|omega|assumption) rfl ?_|refine TL.indexArr rfl rfl oM rfl rfl ?_|refine TL.indexAt rfl rfl oM rfl rfl ?_)|refine TL.fieldAddr rfl rfl ?_|(refine nY ?_;first|refine TL.addN rfl rfl (by first|omega|assumption) rfl ?_|refine TL.addI rfl rfl oM oM rfl ?_|refine TL.addU rfl rfl rfl oM rfl ?_|refine TL.addW rfl rfl rfl rfl ?_|refine TL.pure rfl rfl ?_)|(refine iP ?_;first|refine TL.subN rfl rfl (by first|omega|assumption) (by first|omega|assumption) rfl ?_|refine TL.subI rfl rfl oM oM rfl ?_|refine TL.subU rfl rfl rfl oM oM rfl ?_|refine TL.pure rfl rfl ?_)|(refine eQ ?_;first|refine TL.mulN rfl rfl (by first|omega|assumption) rfl ?_|refine TL.mulI rfl rfl oM oM rfl ?_|refine TL.mulU rfl rfl rfl oM rfl ?_|refine TL.mulW rfl rfl rfl rfl ?_|refine TL.pure rfl rfl ?_)|(refine TL.isAnd ?_;refine TL.andU rfl rfl rfl rfl oM oM rfl ?_)|refine TL.nil ?_|refine fA ?_|refine T.seq ?_|refine nZ ?_|refine T.block ?_|refine blockQ_normal ?_|(refine TL.isOr ?_;first|refine TL.orM rfl rfl rfl rfl rfl oM oM rfl rfl ?_|refine TL.orMW rfl rfl rfl rfl rfl oM rfl rfl ?_|refine TL.orL rfl rfl rfl rfl rfl oM rfl rfl ?_)|(refine jW ?_;first|refine TL.shlN rfl rfl (by first|omega|assumption) (by first|omega|assumption) rfl ?_|refine TL.shlS rfl rfl rfl (by first|(simp only [IntKind.bits];omega)|decide) (by first|omega|assumption) rfl ?_|refine TL.shlU rfl rfl rfl rfl rfl oM rfl ?_|refine TL.shlW rfl rfl rfl rfl rfl rfl ?_)|(refine eU ?_;first|refine TL.shrS rfl rfl (by first|(simp only [IntKind.bits];omega)|decide) rfl ?_|refine TL.shrU rfl rfl rfl rfl rfl rfl ?_)|(refine TL.isRem ?_;refine TL.remU rfl rfl oM rfl ?_)|(refine TL.isQuo ?_;first|refine TL.quoN rfl rfl oM (by first|omega|assumption) rfl ?_|refine TL.quoU rfl rfl rfl oM (by first|omega|assumption) rfl ?_)|(refine iQ ?_;first|refine TL.pureT rfl yD rfl ?_|refine TL.pureF rfl yD rfl ?_|refine TL.pure rfl rfl ?_|refine TL.eqNil rfl rfl rfl ?_|refine TL.neNil rfl rfl rfl ?_)|(refine dL ?_;first|refine TL.convU rfl rfl oM rfl ?_|refine TL.convN rfl (by first|omega|assumption) rfl ?_|refine TL.convI rfl oM oM rfl ?_|refine iC rfl rfl rfl ?_)|(refine bZ ?_;first|refine dQ rfl rfl yB (by exact rfl) (by exact rfl) (by exact rfl) ?_|refine eJ rfl rfl yB (by exact rfl) (by exact rfl) (by exact rfl) ?_|refine TL.storeN rfl rfl yB (by exact rfl) (by exact rfl) (by exact rfl) (by exact rfl) ?_)|(refine TL.isBox ?_;first|refine TL.boxA rfl rfl ?_|refine TL.box rfl rfl rfl ?_)|refine TL.alloc rfl rfl ?_|(refine cG ?_;first|refine gJ rfl (mS rfl) (mS rfl) oM oM oM rfl rfl ?_|refine gJ rfl (aP _) (mS rfl) oM oM oM rfl rfl ?_|refine gJ rfl (mS rfl) (aP _) oM oM oM rfl rfl ?_|refine gJ rfl (aP _) (aP _) oM oM oM rfl rfl ?_)|(refine TL.isBuild ?_;first|refine TL.build rfl rfl rfl ?_|refine mX rfl rfl rfl ?_)|refine TL.nilCheck rfl rfl ?_|refine TL.buildSlice0 rfl ?_|(refine eW ?_;first|refine TL.len_slice rfl rfl ?_|refine TL.min2 rfl rfl rfl ?_)|refine T.cond_true rfl ?_|refine T.cond_false rfl ?_|refine T.cond_yes rfl yD ?_|refine T.cond_no rfl yD ?_|refine T.ret ?_|refine T.skip ?_|refine T.exit ?_|refine thenQ_ret ?_|refine thenQ_exit ?_|refine blockQ_hit ?_|refine blockQ_miss rfl ?_|refine blockQ_ret ?_|refine loopQ_ret ?_|refine loopQ_exit ?_|refine TL.pure rfl rfl ?_|refine uptoQ_normal ?_|refine upto_seq ?_|refine upto_end ?_|refine uptoQ_ret ?_|refine uptoQ_exit ?_);exact k.h)):G:=h ⟨k⟩
theorem aF {A G:Prop} (k:A) (h:Wr A→G:=by (intro k;repeat1' (refine yC ?_);exact k.h)):G:=h ⟨k⟩
theorem yQ {A G:Prop} (k:A) (h:Wr A→G:=by (intro k;(first|refine bX rfl rfl rfl ?_|refine does_mk rfl rfl rfl rfl ?_);intro wq r1 r2 hgq;(repeat (refine aJ rfl rfl ?_;intro vq hvq;obtain rfl:=hvq));refine aZ ?_;revert wq r1 r2 hgq;exact k.h)):G:=h ⟨k⟩
theorem yT {A G:Prop} (k:A) (h:Wr A→G:=by (intro k;(repeat (refine aJ rfl rfl ?_;intro vq hvq;obtain rfl:=hvq));refine aZ ?_;exact k.h)):G:=h ⟨k⟩
theorem yU {A G:Prop} (k:A) (h:Wr A→G:=by (intro k;(repeat (refine needA_cons rfl rfl ?_;intro vq hvq;obtain rfl:=Eq.symm hvq));refine needA_nil ?_;exact k.h)):G:=h ⟨k⟩
end Go.V
namespace Go.Proofs.YtfpadnmdafiddaaGreatDoor
open Go.V
instance:Mixed Tryz.prog:=⟨kR⟩
set_option maxRecDepth 100000
instance:One Tryz.prog 3:=⟨kR⟩
instance:Zero Tryz.prog 3 (.int .i64 0):=⟨kR⟩
instance:IntTy Tryz.prog 3 .i64:=⟨kR⟩
instance:One Tryz.prog 4:=⟨kR⟩
instance:Zero Tryz.prog 4 (.bool false):=⟨kR⟩
instance:One Tryz.prog 5:=⟨kR⟩
instance:Zero Tryz.prog 5 (.int .u8 0):=⟨kR⟩
instance:IntTy Tryz.prog 5 .u8:=⟨kR⟩
instance:StrTy Tryz.prog 9:=⟨kR⟩
instance:One Tryz.prog 25:=⟨kR⟩
instance:One Tryz.prog 29:=⟨kR⟩
instance:Zero Tryz.prog 29 (.slice none 0 0):=⟨kR⟩
instance:SliceTy Tryz.prog 29 30 1 24:=⟨kR⟩
instance:One Tryz.prog 30:=⟨kR⟩
instance:Zero Tryz.prog 30 (.slice none 0 0):=⟨kR⟩
instance:SliceTy Tryz.prog 30 5 1 1:=⟨kR⟩
instance:One Tryz.prog 37:=⟨kR⟩
instance:Zero Tryz.prog 37 (.int .i64 0):=⟨kR⟩
instance:One Tryz.prog 43:=⟨kR⟩
instance:Zero Tryz.prog 43 (.slice none 0 0):=⟨kR⟩
instance:SliceTy Tryz.prog 43 3 1 8:=⟨kR⟩
instance:One Tryz.prog 54:=⟨kR⟩
instance:Zero Tryz.prog 54 (.slice none 0 0):=⟨kR⟩
instance:SliceTy Tryz.prog 54 58 2 48:=⟨kR⟩
instance:Agg Tryz.prog 58 2:=⟨kR⟩
instance:Zero Tryz.prog 58 (.agg #[.slice none 0 0,.slice none 0 0]):=⟨kR⟩
instance:Places Tryz.prog 58 [(0,1),(1,1)]:=⟨kR⟩
instance:FieldAt Tryz.prog 58 0 0:=⟨kR⟩
instance:FieldAt Tryz.prog 58 1 1:=⟨kR⟩
instance:One Tryz.prog 62:=⟨kR⟩
instance:Agg Tryz.prog 79 3:=⟨kR⟩
instance:Zero Tryz.prog 79 (.agg #[.slice none 0 0,.slice none 0 0,.slice none 0 0]):=⟨kR⟩
instance:Places Tryz.prog 79 [(0,1),(1,1),(2,1)]:=⟨kR⟩
instance:FieldAt Tryz.prog 79 0 0:=⟨kR⟩
instance:FieldAt Tryz.prog 79 1 1:=⟨kR⟩
instance:FieldAt Tryz.prog 79 2 2:=⟨kR⟩
instance:Agg Tryz.prog 92 4:=⟨kR⟩
instance:Zero Tryz.prog 92 (.agg #[.slice none 0 0,.slice none 0 0,.bool false,.int .i64 0]):=⟨kR⟩
instance:Places Tryz.prog 92 [(0,1),(1,1),(2,1),(3,1)]:=⟨kR⟩
instance:FieldAt Tryz.prog 92 0 0:=⟨kR⟩
instance:FieldAt Tryz.prog 92 1 1:=⟨kR⟩
instance:FieldAt Tryz.prog 92 2 2:=⟨kR⟩
instance:FieldAt Tryz.prog 92 3 3:=⟨kR⟩
instance:One Tryz.prog 97:=⟨kR⟩
instance:One Tryz.prog 118:=⟨kR⟩
instance:One Tryz.prog 136:=⟨kR⟩
instance:SliceTy Tryz.prog 136 143 4 80:=⟨kR⟩
instance:Agg Tryz.prog 143 4:=⟨kR⟩
instance:Zero Tryz.prog 143 (.agg #[.slice none 0 0,.slice none 0 0,.slice none 0 0,.int .i64 0]):=⟨kR⟩
instance:Places Tryz.prog 143 [(0,3),(3,1)]:=⟨kR⟩
instance:FieldAt Tryz.prog 143 0 0:=⟨kR⟩
instance:FieldAt Tryz.prog 143 1 3:=⟨kR⟩
instance:One Tryz.prog 148:=⟨kR⟩
instance:SliceTy Tryz.prog 148 168 1 8:=⟨kR⟩
instance:Zero Tryz.prog 150 (.agg #[.pointer none,.pointer none,.int .i64 0,.slice none 0 0]):=⟨kR⟩
instance:Places Tryz.prog 150 [(0,1),(1,1),(2,1),(3,1)]:=⟨kR⟩
instance:FieldAt Tryz.prog 150 0 0:=⟨kR⟩
instance:FieldAt Tryz.prog 150 1 1:=⟨kR⟩
instance:FieldAt Tryz.prog 150 2 2:=⟨kR⟩
instance:FieldAt Tryz.prog 150 3 3:=⟨kR⟩
instance:One Tryz.prog 152:=⟨kR⟩
instance:One Tryz.prog 168:=⟨kR⟩
instance:Zero Tryz.prog 168 (.int .u64 0):=⟨kR⟩
instance:IntTy Tryz.prog 168 .u64:=⟨kR⟩
instance:Zero Tryz.prog 171 (.agg #[.slice none 0 0,.slice none 0 0]):=⟨kR⟩
instance:Places Tryz.prog 171 [(0,1),(1,1)]:=⟨kR⟩
instance:FieldAt Tryz.prog 171 1 1:=⟨kR⟩
instance:One Tryz.prog 172:=⟨kR⟩
instance:SliceTy Tryz.prog 172 4 1 1:=⟨kR⟩
instance:Zero Tryz.prog 174 (.agg #[.pointer none,.slice none 0 0]):=⟨kR⟩
instance:Places Tryz.prog 174 [(0,1),(1,1)]:=⟨kR⟩
instance:FieldAt Tryz.prog 174 0 0:=⟨kR⟩
instance:FieldAt Tryz.prog 174 1 1:=⟨kR⟩
instance:One Tryz.prog 175:=⟨kR⟩
instance:SliceTy Tryz.prog 175 79 3 72:=⟨kR⟩
instance:Agg Tryz.prog 177 2:=⟨kR⟩
instance:Zero Tryz.prog 177 (.agg #[.slice none 0 0,.slice none 0 0]):=⟨kR⟩
instance:FieldAt Tryz.prog 177 0 0:=⟨kR⟩
instance:FieldAt Tryz.prog 177 1 1:=⟨kR⟩
instance:Zero Tryz.prog 191 (.agg #[.slice none 0 0,.slice none 0 0,.int .i64 0]):=⟨kR⟩
instance:Places Tryz.prog 191 [(0,1),(1,1),(2,1)]:=⟨kR⟩
instance:FieldAt Tryz.prog 191 0 0:=⟨kR⟩
instance:FieldAt Tryz.prog 191 1 1:=⟨kR⟩
instance:FieldAt Tryz.prog 191 2 2:=⟨kR⟩
instance:IntTy Tryz.prog 196 .u64:=⟨kR⟩
instance:Agg Tryz.prog 197 512:=⟨kR⟩
instance:ArrTy Tryz.prog 197 512 5 1:=⟨kR⟩
instance:One Tryz.prog 204:=⟨kR⟩
instance:SliceTy Tryz.prog 204 254 4 80:=⟨kR⟩
instance:Zero Tryz.prog 206 (.agg #[.pointer none,.pointer none,.int .i64 0,.slice none 0 0,.slice none 0 0,.bool false,.int .i64 0,.int .i64 0,.slice none 0 0]):=⟨kR⟩
instance:Places Tryz.prog 206 [(0,1),(1,1),(2,1),(3,4),(7,1),(8,1)]:=⟨kR⟩
instance:FieldAt Tryz.prog 206 0 0:=⟨kR⟩
instance:FieldAt Tryz.prog 206 1 1:=⟨kR⟩
instance:FieldAt Tryz.prog 206 2 2:=⟨kR⟩
instance:FieldAt Tryz.prog 206 3 3:=⟨kR⟩
instance:FieldAt Tryz.prog 206 4 7:=⟨kR⟩
instance:FieldAt Tryz.prog 206 5 8:=⟨kR⟩
instance:One Tryz.prog 215:=⟨kR⟩
instance:SliceTy Tryz.prog 215 247 256 256:=⟨kR⟩
instance:One Tryz.prog 224:=⟨kR⟩
instance:Zero Tryz.prog 226 (.agg #[.pointer none,.map none]):=⟨kR⟩
instance:Places Tryz.prog 226 [(0,1),(1,1)]:=⟨kR⟩
instance:FieldAt Tryz.prog 226 0 0:=⟨kR⟩
instance:FieldAt Tryz.prog 226 1 1:=⟨kR⟩
instance:Agg Tryz.prog 228 6:=⟨kR⟩
instance:Zero Tryz.prog 228 (.agg #[.slice none 0 0,.slice none 0 0,.slice none 0 0,.int .i64 0,.slice none 0 0,.slice none 0 0]):=⟨kR⟩
instance:Places Tryz.prog 228 [(0,3),(3,1),(4,1),(5,1)]:=⟨kR⟩
instance:FieldAt Tryz.prog 228 0 0:=⟨kR⟩
instance:FieldAt Tryz.prog 228 1 3:=⟨kR⟩
instance:FieldAt Tryz.prog 228 2 4:=⟨kR⟩
instance:FieldAt Tryz.prog 228 3 5:=⟨kR⟩
instance:Agg Tryz.prog 238 64:=⟨kR⟩
instance:ArrTy Tryz.prog 238 64 5 1:=⟨kR⟩
instance:Agg Tryz.prog 243 32:=⟨kR⟩
instance:ArrTy Tryz.prog 243 32 5 1:=⟨kR⟩
instance:Agg Tryz.prog 247 256:=⟨kR⟩
instance:ArrTy Tryz.prog 247 256 5 1:=⟨kR⟩
instance:One Tryz.prog 248:=⟨kR⟩
instance:Zero Tryz.prog 250 (.agg #[.pointer none,.slice none 0 0,.map none]):=⟨kR⟩
instance:Places Tryz.prog 250 [(0,1),(1,1),(2,1)]:=⟨kR⟩
instance:FieldAt Tryz.prog 250 0 0:=⟨kR⟩
instance:FieldAt Tryz.prog 250 1 1:=⟨kR⟩
instance:FieldAt Tryz.prog 250 2 2:=⟨kR⟩
instance:Agg Tryz.prog 254 4:=⟨kR⟩
instance:Zero Tryz.prog 254 (.agg #[.slice none 0 0,.slice none 0 0,.slice none 0 0,.int .i64 0]):=⟨kR⟩
instance:Places Tryz.prog 254 [(0,3),(3,1)]:=⟨kR⟩
instance:FieldAt Tryz.prog 254 0 0:=⟨kR⟩
instance:FieldAt Tryz.prog 254 1 3:=⟨kR⟩
instance:Agg Tryz.prog 269 2:=⟨kR⟩
instance:Zero Tryz.prog 269 (.agg #[.slice none 0 0,.slice none 0 0]):=⟨kR⟩
instance:Places Tryz.prog 269 [(0,1),(1,1)]:=⟨kR⟩
instance:FieldAt Tryz.prog 269 0 0:=⟨kR⟩
instance:FieldAt Tryz.prog 269 1 1:=⟨kR⟩
instance:Agg Tryz.prog 271 3:=⟨kR⟩
instance:Zero Tryz.prog 271 (.agg #[.slice none 0 0,.slice none 0 0,.slice none 0 0]):=⟨kR⟩
instance:Places Tryz.prog 271 [(0,1),(1,1),(2,1)]:=⟨kR⟩
instance:FieldAt Tryz.prog 271 0 0:=⟨kR⟩
instance:FieldAt Tryz.prog 271 1 1:=⟨kR⟩
instance:FieldAt Tryz.prog 271 2 2:=⟨kR⟩
instance:SliceTy Tryz.prog 272 54 1 24:=⟨kR⟩
instance:SliceTy Tryz.prog 283 43 1 24:=⟨kR⟩
instance:SliceTy Tryz.prog 284 29 1 24:=⟨kR⟩
instance:Zero Tryz.prog 289 (.agg #[.slice none 0 0,.int .i64 0]):=⟨kR⟩
instance:Places Tryz.prog 289 [(0,1),(1,1)]:=⟨kR⟩
instance:FieldAt Tryz.prog 289 0 0:=⟨kR⟩
instance:FieldAt Tryz.prog 289 1 1:=⟨kR⟩
instance:Agg Tryz.prog 295 8:=⟨kR⟩
instance:Zero Tryz.prog 295 (.agg #[.int .u64 0,.int .u64 0,.int .u64 0,.int .u64 0,.int .u64 0,.int .u64 0,.int .u64 0,.int .u64 0]):=⟨kR⟩
instance:ArrTy Tryz.prog 295 8 168 1:=⟨kR⟩
instance:One Tryz.prog 302:=⟨kR⟩
instance:Agg Tryz.prog 327 128:=⟨kR⟩
instance:ArrTy Tryz.prog 327 128 5 1:=⟨kR⟩
instance:Zero Tryz.prog 329 (.agg #[.pointer none,.slice none 0 0,.int .i64 0,.int .i64 0]):=⟨kR⟩
instance:Places Tryz.prog 329 [(0,1),(1,1),(2,1),(3,1)]:=⟨kR⟩
instance:FieldAt Tryz.prog 329 0 0:=⟨kR⟩
instance:FieldAt Tryz.prog 329 1 1:=⟨kR⟩
instance:FieldAt Tryz.prog 329 2 2:=⟨kR⟩
instance:FieldAt Tryz.prog 329 3 3:=⟨kR⟩
instance:Zero Tryz.prog 339 (.agg #[.int .u64 0,.int .u64 0]):=⟨kR⟩
instance:ArrTy Tryz.prog 339 2 168 1:=⟨kR⟩
instance:Agg Tryz.prog 340 80:=⟨kR⟩
instance:ArrTy Tryz.prog 340 80 168 1:=⟨kR⟩
instance:FnOk Tryz.prog 20:=⟨kR⟩
instance:FnOk Tryz.prog 21:=⟨kR⟩
instance:FnOk Tryz.prog 23:=⟨kR⟩
instance:FnOk Tryz.prog 25:=⟨kR⟩
instance:FnOk Tryz.prog 31:=⟨kR⟩
instance:FnOk Tryz.prog 32:=⟨kR⟩
instance:FnOk Tryz.prog 35:=⟨kR⟩
instance:FnOk Tryz.prog 36:=⟨kR⟩
instance:FnOk Tryz.prog 37:=⟨kR⟩
instance:FnOk Tryz.prog 38:=⟨kR⟩
instance:FnOk Tryz.prog 45:=⟨kR⟩
instance:FnOk Tryz.prog 46:=⟨kR⟩
instance:FnOk Tryz.prog 50:=⟨kR⟩
instance:FnOk Tryz.prog 51:=⟨kR⟩
instance:FnOk Tryz.prog 52:=⟨kR⟩
instance:FnOk Tryz.prog 53:=⟨kR⟩
instance:FnOk Tryz.prog 54:=⟨kR⟩
instance:FnOk Tryz.prog 55:=⟨kR⟩
instance:FnOk Tryz.prog 56:=⟨kR⟩
instance:FnOk Tryz.prog 57:=⟨kR⟩
instance:FnOk Tryz.prog 59:=⟨kR⟩
instance:FnOk Tryz.prog 60:=⟨kR⟩
instance:FnOk Tryz.prog 67:=⟨kR⟩
instance:FnOk Tryz.prog 68:=⟨kR⟩
instance:FnOk Tryz.prog 77:=⟨kR⟩
instance:FnOk Tryz.prog 78:=⟨kR⟩
instance:FnOk Tryz.prog 79:=⟨kR⟩
instance:FnOk Tryz.prog 80:=⟨kR⟩
instance:FnOk Tryz.prog 81:=⟨kR⟩
instance:FnOk Tryz.prog 83:=⟨kR⟩
instance:FnOk Tryz.prog 84:=⟨kR⟩
instance:FnOk Tryz.prog 85:=⟨kR⟩
instance:FnOk Tryz.prog 86:=⟨kR⟩
instance:FnOk Tryz.prog 87:=⟨kR⟩
instance:FnOk Tryz.prog 88:=⟨kR⟩
instance:FnOk Tryz.prog 91:=⟨kR⟩
instance:FnOk Tryz.prog 92:=⟨kR⟩
instance:FnOk Tryz.prog 93:=⟨kR⟩
instance:FnOk Tryz.prog 94:=⟨kR⟩
instance:FnOk Tryz.prog 95:=⟨kR⟩
instance:FnOk Tryz.prog 96:=⟨kR⟩
instance:FnOk Tryz.prog 97:=⟨kR⟩
instance:FnOk Tryz.prog 98:=⟨kR⟩
instance:FnOk Tryz.prog 99:=⟨kR⟩
instance:FnOk Tryz.prog 100:=⟨kR⟩
instance:FnOk Tryz.prog 102:=⟨kR⟩
instance:FnOk Tryz.prog 103:=⟨kR⟩
instance:FnOk Tryz.prog 104:=⟨kR⟩
instance:FnOk Tryz.prog 105:=⟨kR⟩
instance:FnOk Tryz.prog 106:=⟨kR⟩
instance:FnOk Tryz.prog 107:=⟨kR⟩
instance:FnOk Tryz.prog 108:=⟨kR⟩
instance:FnOk Tryz.prog 109:=⟨kR⟩
instance:FnOk Tryz.prog 110:=⟨kR⟩
instance:FnOk Tryz.prog 111:=⟨kR⟩
instance:FnOk Tryz.prog 113:=⟨kR⟩
instance:FnOk Tryz.prog 114:=⟨kR⟩
instance:FnOk Tryz.prog 115:=⟨kR⟩
instance:FnOk Tryz.prog 116:=⟨kR⟩
instance:FnOk Tryz.prog 117:=⟨kR⟩
instance:FnOk Tryz.prog 118:=⟨kR⟩
instance:FnOk Tryz.prog 119:=⟨kR⟩
instance:FnOk Tryz.prog 120:=⟨kR⟩
instance:FnOk Tryz.prog 121:=⟨kR⟩
instance:FnOk Tryz.prog 122:=⟨kR⟩
instance:FnOk Tryz.prog 123:=⟨kR⟩
instance:FnOk Tryz.prog 124:=⟨kR⟩
instance:FnOk Tryz.prog 125:=⟨kR⟩
instance:FnOk Tryz.prog 126:=⟨kR⟩
instance:FnOk Tryz.prog 127:=⟨kR⟩
instance:FnOk Tryz.prog 128:=⟨kR⟩
instance:FnOk Tryz.prog 129:=⟨kR⟩
instance:FnOk Tryz.prog 130:=⟨kR⟩
instance:FnOk Tryz.prog 131:=⟨kR⟩
instance:FnOk Tryz.prog 132:=⟨kR⟩
instance:FnOk Tryz.prog 133:=⟨kR⟩
instance:FnOk Tryz.prog 134:=⟨kR⟩
instance:FnOk Tryz.prog 135:=⟨kR⟩
instance:FnOk Tryz.prog 136:=⟨kR⟩
instance:FnOk Tryz.prog 137:=⟨kR⟩
instance:FnOk Tryz.prog 138:=⟨kR⟩
instance:FnOk Tryz.prog 139:=⟨kR⟩
instance:FnOk Tryz.prog 140:=⟨kR⟩
instance:FnOk Tryz.prog 141:=⟨kR⟩
instance:FnOk Tryz.prog 142:=⟨kR⟩
instance:FnOk Tryz.prog 148:=⟨kR⟩
instance:FnOk Tryz.prog 149:=⟨kR⟩
instance:FnOk Tryz.prog 150:=⟨kR⟩
instance:FnOk Tryz.prog 151:=⟨kR⟩
instance:FnOk Tryz.prog 152:=⟨kR⟩
instance:FnOk Tryz.prog 154:=⟨kR⟩
instance:FnOk Tryz.prog 155:=⟨kR⟩
instance:FnOk Tryz.prog 156:=⟨kR⟩
instance:FnOk Tryz.prog 160:=⟨kR⟩
instance:FnOk Tryz.prog 161:=⟨kR⟩
instance:FnOk Tryz.prog 162:=⟨kR⟩
instance:FnOk Tryz.prog 163:=⟨kR⟩
instance:FnOk Tryz.prog 164:=⟨kR⟩
instance:FnOk Tryz.prog 165:=⟨kR⟩
instance:FnOk Tryz.prog 166:=⟨kR⟩
instance:FnOk Tryz.prog 167:=⟨kR⟩
instance:FnOk Tryz.prog 168:=⟨kR⟩
instance:FnOk Tryz.prog 169:=⟨kR⟩
instance:FnOk Tryz.prog 170:=⟨kR⟩
instance:FnOk Tryz.prog 171:=⟨kR⟩
instance:FnOk Tryz.prog 172:=⟨kR⟩
instance:FnOk Tryz.prog 173:=⟨kR⟩
instance:FnOk Tryz.prog 174:=⟨kR⟩
instance:FnOk Tryz.prog 175:=⟨kR⟩
instance:FnOk Tryz.prog 176:=⟨kR⟩
instance:FnOk Tryz.prog 177:=⟨kR⟩
instance:FnOk Tryz.prog 178:=⟨kR⟩
instance:FnOk Tryz.prog 179:=⟨kR⟩
instance:FnOk Tryz.prog 180:=⟨kR⟩
instance:FnOk Tryz.prog 181:=⟨kR⟩
instance:FnOk Tryz.prog 182:=⟨kR⟩
instance:FnOk Tryz.prog 183:=⟨kR⟩
instance:FnOk Tryz.prog 184:=⟨kR⟩
instance:FnOk Tryz.prog 188:=⟨kR⟩
instance:FnOk Tryz.prog 189:=⟨kR⟩
instance:FnOk Tryz.prog 190:=⟨kR⟩
instance:FnOk Tryz.prog 194:=⟨kR⟩
instance:FnOk Tryz.prog 195:=⟨kR⟩
instance:FnOk Tryz.prog 196:=⟨kR⟩
instance:FnOk Tryz.prog 201:=⟨kR⟩
instance:FnOk Tryz.prog 202:=⟨kR⟩
instance:FnOk Tryz.prog 203:=⟨kR⟩
instance:FnOk Tryz.prog 204:=⟨kR⟩
instance:FnOk Tryz.prog 205:=⟨kR⟩
instance:FnOk Tryz.prog 206:=⟨kR⟩
instance:FnOk Tryz.prog 207:=⟨kR⟩
instance:FnOk Tryz.prog 208:=⟨kR⟩
instance:FnOk Tryz.prog 209:=⟨kR⟩
instance:FnOk Tryz.prog 210:=⟨kR⟩
instance:FnOk Tryz.prog 211:=⟨kR⟩
instance:FnOk Tryz.prog 212:=⟨kR⟩
instance:FnOk Tryz.prog 213:=⟨kR⟩
instance:FnOk Tryz.prog 214:=⟨kR⟩
instance:FnOk Tryz.prog 215:=⟨kR⟩
instance:FnOk Tryz.prog 216:=⟨kR⟩
instance:FnOk Tryz.prog 217:=⟨kR⟩
instance:FnOk Tryz.prog 218:=⟨kR⟩
instance:FnOk Tryz.prog 219:=⟨kR⟩
instance:FnOk Tryz.prog 220:=⟨kR⟩
instance:FnOk Tryz.prog 221:=⟨kR⟩
instance:FnOk Tryz.prog 222:=⟨kR⟩
instance:FnOk Tryz.prog 223:=⟨kR⟩
instance:FnOk Tryz.prog 224:=⟨kR⟩
instance:FnOk Tryz.prog 225:=⟨kR⟩
instance:FnOk Tryz.prog 226:=⟨kR⟩
instance:FnOk Tryz.prog 227:=⟨kR⟩
instance:FnOk Tryz.prog 228:=⟨kR⟩
instance:FnOk Tryz.prog 229:=⟨kR⟩
instance:FnOk Tryz.prog 231:=⟨kR⟩
instance:FnOk Tryz.prog 232:=⟨kR⟩
instance:FnOk Tryz.prog 233:=⟨kR⟩
instance:FnOk Tryz.prog 244:=⟨kR⟩
instance:FnOk Tryz.prog 245:=⟨kR⟩
instance:FnOk Tryz.prog 246:=⟨kR⟩
instance:FnOk Tryz.prog 247:=⟨kR⟩
instance:FnOk Tryz.prog 248:=⟨kR⟩
instance:FnOk Tryz.prog 249:=⟨kR⟩
instance:FnOk Tryz.prog 250:=⟨kR⟩
instance:FnOk Tryz.prog 251:=⟨kR⟩
instance:FnOk Tryz.prog 252:=⟨kR⟩
instance:FnOk Tryz.prog 253:=⟨kR⟩
instance:FnOk Tryz.prog 254:=⟨kR⟩
instance:FnOk Tryz.prog 255:=⟨kR⟩
instance:FnOk Tryz.prog 256:=⟨kR⟩
instance:FnOk Tryz.prog 257:=⟨kR⟩
instance:FnOk Tryz.prog 258:=⟨kR⟩
instance:FnOk Tryz.prog 259:=⟨kR⟩
instance:FnOk Tryz.prog 265:=⟨kR⟩
instance:FnOk Tryz.prog 266:=⟨kR⟩
instance:FnOk Tryz.prog 267:=⟨kR⟩
instance:FnOk Tryz.prog 268:=⟨kR⟩
instance:FnOk Tryz.prog 269:=⟨kR⟩
instance:FnOk Tryz.prog 270:=⟨kR⟩
instance:FnOk Tryz.prog 271:=⟨kR⟩
instance:FnOk Tryz.prog 272:=⟨kR⟩
instance:FnOk Tryz.prog 273:=⟨kR⟩
instance:FnOk Tryz.prog 275:=⟨kR⟩
instance:FnOk Tryz.prog 291:=⟨kR⟩
instance:FnOk Tryz.prog 292:=⟨kR⟩
instance:FnOk Tryz.prog 293:=⟨kR⟩
instance:FnOk Tryz.prog 294:=⟨kR⟩
end Go.Proofs.YtfpadnmdafiddaaGreatDoor
namespace Go.V
open Go Go.RowKit
section
variable [Rn]
variable {P:Program} {n:Nat} {e:dJ} {w:World} {Q:dI} {ops:Array Oper} {rest:List Oper} {d:Nat} {ty:TypeId} {pos:String} {aft:Array Edge}
theorem TL.remU {zx zy:Int} {x y:Operand} {kd:IntKind} {a b:Nat} {t1 t2:TypeId} (hx:val e x=some (.int kd zx)) [ix:Lit zx a] (hy:val e y=some (.int kd zy)) [iy:Lit zy b] (h:0<b) (hd:Nat.blt d n=true)
  (k:TL P n ops rest ((d,.int kd ((a%b:Nat):Int))::e) w Q):TL P n ops (⟨some d,.binOp .rem t1 x y t2,ty,pos,aft,none⟩::rest) e w Q :=
 TL.run (λ r hr=>by
  rw [ix.h] at hx;rw [iy.h] at hy
  have h1:b≠0:=by omega
  have h2:Int.tmod (a:Int) (b:Int)=((a%b:Nat):Int):=rfl
  simp [execOp,binOp,bG,Op.intDiv,hr.eval hx,hr.eval hy,h1,h2]) hd k
theorem TL.isRem {t1 t2:TypeId} {x y:Operand} {d:Option Nat} (h:TL P n ops (⟨d,.binOp .rem t1 x y t2,ty,pos,aft,none⟩::rest) e w Q):TL P n ops (⟨d,.binOp .rem t1 x y t2,ty,pos,aft,none⟩::rest) e w Q:=h
theorem aB (f:Nat) {xs:Array Operand} {tys:Array TypeId} {d:Option Nat} (h:TL P n ops (⟨d,.call ⟨.value (.func f),xs,tys⟩,ty,pos,aft,none⟩::rest) e w Q):TL P n ops (⟨d,.call ⟨.value (.func f),xs,tys⟩,ty,pos,aft,none⟩::rest) e w Q:=h
theorem kU (t1:TypeId) {t2:TypeId} {x y:Operand} {d:Option Nat} (h:TL P n ops (⟨d,.binOp .eql t1 x y t2,ty,pos,aft,none⟩::rest) e w Q):TL P n ops (⟨d,.binOp .eql t1 x y t2,ty,pos,aft,none⟩::rest) e w Q:=h
theorem TL.isNeT (t1:TypeId) {t2:TypeId} {x y:Operand} {d:Option Nat} (h:TL P n ops (⟨d,.binOp .neq t1 x y t2,ty,pos,aft,none⟩::rest) e w Q):TL P n ops (⟨d,.binOp .neq t1 x y t2,ty,pos,aft,none⟩::rest) e w Q:=h
theorem TL.isQuo {t1 t2:TypeId} {x y:Operand} {d:Option Nat} (h:TL P n ops (⟨d,.binOp .quo t1 x y t2,ty,pos,aft,none⟩::rest) e w Q):TL P n ops (⟨d,.binOp .quo t1 x y t2,ty,pos,aft,none⟩::rest) e w Q:=h
end
section
variable [Rn]
variable {P:Program} {n:Nat} {e:dJ} {w:World} {Q:dI}
def Upto (P:Program) (n:Nat) (R:dJ→World→Prop) (Q:dI):Nat→Code→dJ→World→Prop
 | 0,_,e,w=>R e w
 | k+1,.seq a r,e,w=>T P n a e w (λ x e' w'=>match x with
  | .normal=>Upto P n R Q k r e' w'
  | x=>Q x e' w')
 | _+1,_,_,_=>False
def dropC:Nat→Code→Code
 | k+1,.seq _ r=>dropC k r
 | _,c=>c
def uptoQ (P:Program) (n:Nat) (R:dJ→World→Prop) (Q:dI) (k:Nat) (r:Code):dI:=λ x e' w' =>
 match x with
 | .normal=>Upto P n R Q k r e' w'
 | x=>Q x e' w'
theorem upto_seq {R:dJ→World→Prop} {k:Nat} {a r:Code} (h:T P n a e w (uptoQ P n R Q k r)):Upto P n R Q (k+1) (.seq a r) e w:=h
theorem upto_end {R:dJ→World→Prop} {c:Code} (h:R e w):Upto P n R Q 0 c e w:=h
theorem uptoQ_normal {R:dJ→World→Prop} {k:Nat} {r:Code} (h:Upto P n R Q k r e w):uptoQ P n R Q k r .normal e w:=h
theorem uptoQ_ret {R:dJ→World→Prop} {k:Nat} {r:Code} (h:Q .ret e w):uptoQ P n R Q k r .ret e w:=h
theorem dV {Q:dI} (k:Nat) (R:dJ→World→Prop):∀ {c:Code} {e:dJ} {w:World},(∀ e' w',R e' w'→T P n (dropC k c) e' w' Q)→Upto P n R Q k c e w→T P n c e w Q:=by
 induction k with
 | zero=>intro c e w h2 h1;exact h2 _ _ h1
 | succ k ih =>
  intro c e w h2 h1
  cases c with
  | seq a r =>
   refine T.seq (T.mono h1 λ x e' w' hx=>?_)
   cases x with
   | normal=>exact fA (ih h2 hx)
   | exit i=>unfold thenQ;exact hx
   | goto l=>unfold thenQ;exact hx
   | ret=>unfold thenQ;exact hx
   | panic ch=>unfold thenQ;exact hx
   | outgrown=>unfold thenQ;exact hx
  | _=>exact h1.elim
end
attribute [irreducible] Upto uptoQ
section
variable [Rn]
variable {P:Program} {n:Nat} {e:dJ} {w:World} {Q:dI} {ops:Array Oper} {rest:List Oper} {d:Nat} {ty:TypeId} {pos:String} {aft:Array Edge}
theorem i64_nat {a:Nat} (h:a<9223372036854775808):IntKind.i64.wrap (a:Int)=(a:Int):=IntWalk.i64_in _ ⟨oM,oM⟩
theorem TL.addN {zx zy:Int} {x y:Operand} {a b:Nat} {t1 t2:TypeId} (hx:val e x=some (.int .i64 zx)) [ix:Lit zx a] (hy:val e y=some (.int .i64 zy)) [iy:Lit zy b] (h:a+b<9223372036854775808) (hd:Nat.blt d n=true)
  (k:TL P n ops rest ((d,.int .i64 ((a+b:Nat):Int))::e) w Q):TL P n ops (⟨some d,.binOp .add t1 x y t2,ty,pos,aft,none⟩::rest) e w Q :=
 TL.run (λ r hr=>by
  rw [ix.h] at hx;rw [iy.h] at hy
  have:=i64_nat h;simp only [Int.natCast_add] at this ⊢
  simp [execOp,binOp,bG,Op.intArith,hr.eval hx,hr.eval hy,this]) hd k
theorem TL.subN {zx zy:Int} {x y:Operand} {a b:Nat} {t1 t2:TypeId} (hx:val e x=some (.int .i64 zx)) [ix:Lit zx a] (hy:val e y=some (.int .i64 zy)) [iy:Lit zy b] (h:b≤a) (h2:a<9223372036854775808) (hd:Nat.blt d n=true)
  (k:TL P n ops rest ((d,.int .i64 ((a-b:Nat):Int))::e) w Q):TL P n ops (⟨some d,.binOp .sub t1 x y t2,ty,pos,aft,none⟩::rest) e w Q :=
 TL.run (λ r hr=>by
  rw [ix.h] at hx;rw [iy.h] at hy
  have:=i64_nat (show a-b<9223372036854775808 by omega);rw [Int.ofNat_sub h] at this ⊢
  simp [execOp,binOp,bG,Op.intArith,hr.eval hx,hr.eval hy,this]) hd k
theorem TL.mulN {zx zy:Int} {x y:Operand} {a b:Nat} {t1 t2:TypeId} (hx:val e x=some (.int .i64 zx)) [ix:Lit zx a] (hy:val e y=some (.int .i64 zy)) [iy:Lit zy b] (h:a*b<9223372036854775808) (hd:Nat.blt d n=true)
  (k:TL P n ops rest ((d,.int .i64 ((a*b:Nat):Int))::e) w Q):TL P n ops (⟨some d,.binOp .mul t1 x y t2,ty,pos,aft,none⟩::rest) e w Q :=
 TL.run (λ r hr=>by
  rw [ix.h] at hx;rw [iy.h] at hy
  have:=i64_nat h;simp only [Int.natCast_mul] at this ⊢
  simp [execOp,binOp,bG,Op.intArith,hr.eval hx,hr.eval hy,this]) hd k
theorem TL.quoN {zx zy:Int} {x y:Operand} {a b:Nat} {t1 t2:TypeId} (hx:val e x=some (.int .i64 zx)) [ix:Lit zx a] (hy:val e y=some (.int .i64 zy)) [iy:Lit zy b] (h:0<b) (h2:a<9223372036854775808) (hd:Nat.blt d n=true)
  (k:TL P n ops rest ((d,.int .i64 ((a / b:Nat):Int))::e) w Q):TL P n ops (⟨some d,.binOp .quo t1 x y t2,ty,pos,aft,none⟩::rest) e w Q :=
 TL.run (λ r hr=>by
  rw [ix.h] at hx;rw [iy.h] at hy
  have h1:b≠0:=by omega
  have h3:Int.tdiv (a:Int) (b:Int)=((a / b:Nat):Int):=rfl;have h4:=i64_nat (show a / b<9223372036854775808 from Nat.lt_of_le_of_lt (Nat.div_le_self a b) h2);simp only [execOp,binOp,bG,Op.intDiv,hr.eval hx,hr.eval hy];simp only [h3]
  simp [h1,← Int.natCast_ediv,h4]) hd k
theorem TL.shrS {zx zy:Int} {x y:Operand} {kd ky:IntKind} {a s:Nat} {t1 t2:TypeId} (hx:val e x=some (.int kd zx)) [ix:Lit zx a] (hy:val e y=some (.int ky zy)) [iy:Lit zy s] (hs:s≤kd.bits) (hd:Nat.blt d n=true)
  (k:TL P n ops rest ((d,.int kd ((a / 2^s:Nat):Int))::e) w Q):TL P n ops (⟨some d,.binOp .shr t1 x y t2,ty,pos,aft,none⟩::rest) e w Q :=
 TL.run (λ r hr=>by
  rw [ix.h] at hx;rw [iy.h] at hy
  have h3:min s kd.bits=s:=Nat.min_eq_left hs;have h4:¬ ((s:Int)<0):=by omega
  have e1:(a:Int).fdiv (2^s)=((a / 2^s:Nat):Int):=by
   rw [Int.fdiv_eq_ediv_of_nonneg _ (by exact_mod_cast Nat.zero_le (2^s))];simp
  simp only [execOp,binOp,bG,Op.shift,hr.eval hx,hr.eval hy]
  simp [h3,h4,e1]) hd k
theorem TL.shlS {zx zy:Int} {x y:Operand} {kd ky:IntKind} {M a s:Nat} {t1 t2:TypeId} (hx:val e x=some (.int kd zx)) [ix:Lit zx a] (hy:val e y=some (.int ky zy)) [iy:Lit zy s] (hM:ulim kd=some M) (hs:s≤kd.bits) (h:a*2^s<M) (hd:Nat.blt d n=true)
  (k:TL P n ops rest ((d,.int kd ((a*2^s:Nat):Int))::e) w Q):TL P n ops (⟨some d,.binOp .shl t1 x y t2,ty,pos,aft,none⟩::rest) e w Q :=
 TL.run (λ r hr=>by
  rw [ix.h] at hx;rw [iy.h] at hy
  have h3:min s kd.bits=s:=Nat.min_eq_left hs;have h4:¬ ((s:Int)<0):=by omega
  have e1:(a:Int)*2^s=((a*2^s:Nat):Int):=by simp
  have e2:=eV hM h;rw [← e1] at e2;simp only [execOp,binOp,bG,Op.shift,hr.eval hx,hr.eval hy]
  simp [h3,h4,e2,← e1]) hd k
theorem TL.convN {zx:Int} {s t:TypeId} {x:Operand} {k1 kd:IntKind} {a:Nat} [hs:IntTy P s k1] [ht:IntTy P t .i64] (hx:val e x=some (.int kd zx)) [ix:Lit zx a] (h:a<9223372036854775808) (hd:Nat.blt d n=true)
  (k:TL P n ops rest ((d,.int .i64 (a:Int))::e) w Q):TL P n ops (⟨some d,.convert s t x,ty,pos,aft,none⟩::rest) e w Q :=
 TL.run (λ r hr=>by
  rw [ix.h] at hx
  simp [execOp,hr.eval hx,jC hs ht,i64_nat h]) hd k
theorem TL.indexA1 {t len elem:Nat} {x i:Operand} {b j:Nat} {kd:IntKind} {z:Int} [ht:ArrTy P t len elem 1] (hx:val e x=some (.pointer (some ⟨b,0,none⟩))) (hi:val e i=some (.int kd z))
  [iz:Lit z j] (hj:j<len) (hd:Nat.blt d n=true)
  (k:TL P n ops rest ((d,.pointer (some ⟨b,j,none⟩))::e) w Q):TL P n ops (⟨some d,.indexAddr t x i,ty,pos,aft,none⟩::rest) e w Q :=
 TL.indexArr (o':=j) hx hi hj oM hd k
theorem TL.pureT {op:Op} {b:Bool} (h:pureOp (val e) op=some (.bool b)) (hb:b=true) (hd:Nat.blt d n=true) (k:TL P n ops rest ((d,.bool true)::e) w Q) :
  TL P n ops (⟨some d,op,ty,pos,aft,none⟩::rest) e w Q:=TL.pure (hb▸h) hd k
theorem TL.pureF {op:Op} {b:Bool} (h:pureOp (val e) op=some (.bool b)) (hb:b=false) (hd:Nat.blt d n=true) (k:TL P n ops rest ((d,.bool false)::e) w Q) :
  TL P n ops (⟨some d,op,ty,pos,aft,none⟩::rest) e w Q:=TL.pure (hb▸h) hd k
theorem TL.boxA {t:TypeId} {x:Operand} {vs:List Value} (hx:val e x=some (.agg vs.toArray)) (hd:Nat.blt d n=true)
  (k:∀ b w',Grow w w'→Blk w' b t vs→w.heap.size=b→w'.heap.size=b+1→TL P n ops rest ((d,.pointer (some ⟨b,0,none⟩))::e) w' Q) :
  TL P n ops (⟨some d,.box t x,ty,pos,aft,none⟩::rest) e w Q:=TL.box hx rfl hd k
theorem TL.isIndexV {t1:TypeId} {x y:Operand} {d:Option Nat} (h:TL P n ops (⟨d,.index t1 x y,ty,pos,aft,none⟩::rest) e w Q):TL P n ops (⟨d,.index t1 x y,ty,pos,aft,none⟩::rest) e w Q:=h
end
section
variable [Rn]
variable {P:Program} {n:Nat} {e:dJ} {w:World} {Q:dI} {ops:Array Oper} {rest:List Oper} {d:Nat} {ty:TypeId} {pos:String} {aft:Array Edge}
theorem StrTy.und' {t:TypeId} (h:StrTy P t):P.underlying t=some .string:=by
 have h:=h.h;unfold strB at h;split at h
 ·assumption
 ·cases h
theorem TL.indexStr {t1:TypeId} {x i:Operand} {s:ByteArray} {kd:IntKind} {a v:Nat} [ht:StrTy P t1] (hx:val e x=some (.string s)) (hi:val e i=some (.int kd (a:Int))) (hs:(s.data.toList[a]?).map (·.toNat)=some v) (hd:Nat.blt d n=true)
  (k:TL P n ops rest ((d,.int .u8 (v:Int))::e) w Q):TL P n ops (⟨some d,.index t1 x i,ty,pos,aft,none⟩::rest) e w Q :=
 TL.run (λ r hr=>by
  have h1:∃ b,s.data.toList[a]? = some b∧b.toNat=v:=by
   cases h:s.data.toList[a]? with
   | none=>rw [h] at hs;cases hs
   | some b=>rw [h] at hs;exact ⟨b,rfl,by simpa using hs⟩
  obtain ⟨b,h2,h3⟩:=h1
  have hlt:a<s.size:=by
   have:=(List.getElem?_eq_some_iff.1 h2).1;rw [Array.length_toList] at this;exact this
  have h4:s[a]? = some b:=by
   rw [getElem?_pos s a hlt];have h5:=(List.getElem?_eq_some_iff.1 h2).2;rw [Array.getElem_toList] at h5;exact congrArg some h5
  subst h3
  simp [execOp,hr.eval hx,hr.eval hi,Instr.index,asIntOf,underlying,StrTy.und' ht,h4]) hd k
theorem or_one (n:Nat):n|||1=n / 2*2+1:=by
 have h:=Nat.two_pow_add_eq_or_of_lt (i:=1) (b:=1) dM (n / 2);rw [Nat.pow_one,Nat.mul_comm] at h;rcases Nat.mod_two_eq_zero_or_one n with h0|h0
 ·rw [h,show n / 2*2=n by omega]
 ·have e:n=n / 2*2|||1:=by rw [← h];omega
  rw [h];conv=>lhs;rw [e]
  rw [Nat.or_assoc,Nat.or_self]
theorem TL.or1 {x y:Operand} {a:Nat} {t1 t2:TypeId} (hx:val e x=some (.int .u64 (a:Int))) (hy:val e y=some (.int .u64 1)) (ha:a<18446744073709551616) (hd:Nat.blt d n=true)
  (k:TL P n ops rest ((d,.int .u64 ((a / 2*2+1:Nat):Int))::e) w Q):TL P n ops (⟨some d,.binOp .or t1 x y t2,ty,pos,aft,none⟩::rest) e w Q :=
 TL.run (λ r hr=>by
  have e1:((BitVec.ofInt IntKind.u64.bits (a:Int))|||(BitVec.ofInt IntKind.u64.bits ((1:Nat):Int))).toNat=a / 2*2+1:=by
   rw [BitVec.toNat_or,bits_nat (M:=18446744073709551616) rfl,bits_nat (M:=18446744073709551616) rfl,Nat.mod_eq_of_lt ha];exact or_one a
  have e2:=eV (kd:=.u64) (M:=18446744073709551616) rfl (show a / 2*2+1<18446744073709551616 by omega);rw [← e1] at e2
  have hb:binOp .or t1 (.int .u64 (a:Int)) (.int .u64 ((1:Nat):Int))=Pure.pure (.int .u64 ((a / 2*2+1:Nat):Int)):=by
   simp only [binOp,Op.intBits,ne_eq,not_true_eq_false,if_false];rw [e2,e1]
  have hy':r.eval y=.int .u64 ((1:Nat):Int):=hr.eval hy;simp only [execOp,bG,hr.eval hx,hy',hb]
  rfl) hd k
end
end Go.V
namespace Go.Proofs.YtfpadnmdafiddaaGreatDoor
open Go Go.RowKit Go.V
def bl (n:Nat):Nat:=if n=0 then 0 else Nat.log2 n+1
theorem bl_le {a k:Nat} (h:a<2^k):bl a≤k:=by
 unfold bl;split
 ·omega
 ·rename_i h0;have:=(Nat.log2_lt h0).2 h;omega
theorem bl_gt {a k:Nat} (h:2^k≤a):k<bl a:=by
 have h0:a≠0:=by have:=Nat.two_pow_pos k;omega
 unfold bl;rw [if_neg h0];rcases Nat.lt_or_ge (Nat.log2 a) k with h1|h1
 ·exact absurd ((Nat.log2_lt h0).1 h1) oM
 ·omega
theorem bl_shift {a s:Nat} (h:2^s≤a):bl a=bl (a / 2^s)+s:=by
 have h0:a≠0:=by have:=Nat.two_pow_pos s;omega
 have h1:a / 2^s≠0:=by
  have:=(Nat.le_div_iff_mul_le (Nat.two_pow_pos s)).2 (show 1*2^s≤a by omega);omega
 unfold bl;rw [if_neg h0,if_neg h1]
 have hl:Nat.log2 a=Nat.log2 (a / 2^s)+s:=by
  refine (Nat.log2_eq_iff h0).2 ?_;obtain ⟨u,v⟩:=(Nat.log2_eq_iff h1).1 rfl;rw [Nat.le_div_iff_mul_le (Nat.two_pow_pos s)] at u;rw [Nat.div_lt_iff_lt_mul (Nat.two_pow_pos s)] at v;rw [Nat.pow_add,show Nat.log2 (a / 2^s)+s+1=Nat.log2 (a / 2^s)+1+s by omega,Nat.pow_add _ _ s];exact ⟨u,v⟩
 omega
theorem len8_c (a:Nat) (ha:a<256) (w:World):Calls Tryz.prog 275 #[.int .u8 (a:Int)] w (Ret λ v w'=>v=.int .i64 (bl a:Int)∧w=w'):=by
 refine V.calls (args:=[_]) Tryz.func275 rfl Tryz.ntmps275 rfl rfl ?_;repeat refine aF ?_
 have hb:bl a≤8:=bl_le ha;refine TL.indexStr (v:=bl a) rfl rfl ?_ rfl ?_
 ·clear w;obtain ⟨b,rfl⟩:∃ b:Fin 256,b.1=a:=⟨⟨a,ha⟩,rfl⟩
  clear ha hb;revert b
  decide +kernel
 repeat refine aF ?_
 exact bA rfl ⟨_,rfl,rfl,rfl⟩
theorem lz8_c (a:Nat) (ha:a<256) (w:World):Calls Tryz.prog 273 #[.int .u8 (a:Int)] w (Ret λ v w'=>v=.int .i64 ((8-bl a:Nat):Int)∧w=w'):=by
 refine V.calls (args:=[_]) Tryz.func273 rfl Tryz.ntmps273 rfl rfl ?_;have hb:bl a≤8:=bl_le ha;repeat (first|refine aF ?_|(refine aB 275 ?_;refine aA rfl (len8_c a ha _) rfl ?_;rintro _ _ ⟨rfl,rfl⟩))
 exact bA rfl ⟨_,rfl,rfl,rfl⟩
theorem len64_c (a:Nat) (ha:a<18446744073709551616) (w:World):Calls Tryz.prog 244 #[.int .u64 (a:Int)] w (Ret λ v w'=>v=.int .i64 (bl a:Int)∧w=w'):=by
 refine V.calls (args:=[_]) Tryz.func244 rfl Tryz.ntmps244 rfl rfl ?_;refine dV 2 (λ e v=>∃ b s:Nat,Sub [(2,.int .i64 (s:Int)),(0,.int .u64 (b:Int))] e∧w=v∧b<4294967296∧bl a=s+bl b∧s≤32) ?_ ?_;rotate_left
 ·by_cases h:a<4294967296
  ·repeat refine aF ?_
   exact ⟨a,0,⟨rfl,rfl,trivial⟩,rfl,h,oM,oM⟩
  ·have hs:=bl_shift (a:=a) (s:=32) oM;repeat refine aF ?_
   exact ⟨a / 4294967296,32,⟨rfl,rfl,trivial⟩,rfl,oM,by rw [hs];simp only [Nat.reducePow];omega,oM⟩
 rintro e v ⟨b,s,hsub,rfl,hb,hbl,hs⟩;refine bD (e':=[(2,_),(0,_)]) ?_ hsub;clear hsub;refine dV 1 (λ e v=>∃ b s:Nat,Sub [(2,.int .i64 (s:Int)),(0,.int .u64 (b:Int))] e∧w=v∧b<65536∧bl a=s+bl b∧s≤48) ?_ ?_;rotate_left
 ·by_cases h:b<65536
  ·repeat refine aF ?_
   exact ⟨b,s,⟨rfl,rfl,trivial⟩,rfl,h,oM,oM⟩
  ·have hs2:=bl_shift (a:=b) (s:=16) oM;repeat refine aF ?_
   exact ⟨b / 65536,s+16,⟨rfl,rfl,trivial⟩,rfl,oM,by rw [hbl,hs2];simp only [Nat.reducePow];omega,oM⟩
 clear hb hbl hs;rintro e v ⟨b,s,hsub,rfl,hb,hbl,hs⟩;refine bD (e':=[(2,_),(0,_)]) ?_ hsub;clear hsub;refine dV 1 (λ e v=>∃ b s:Nat,Sub [(2,.int .i64 (s:Int)),(0,.int .u64 (b:Int))] e∧w=v∧b<256∧bl a=s+bl b∧s≤56) ?_ ?_;rotate_left
 ·by_cases h:b<256
  ·repeat refine aF ?_
   exact ⟨b,s,⟨rfl,rfl,trivial⟩,rfl,h,oM,oM⟩
  ·have hs2:=bl_shift (a:=b) (s:=8) oM;repeat refine aF ?_
   exact ⟨b / 256,s+8,⟨rfl,rfl,trivial⟩,rfl,oM,by rw [hbl,hs2];simp only [Nat.reducePow];omega,oM⟩
 clear hb hbl hs;rintro e v ⟨b,s,hsub,rfl,hb,hbl,hs⟩;refine bD (e':=[(2,_),(0,_)]) ?_ hsub;clear hsub;have hb8:bl b≤8:=bl_le hb;repeat refine aF ?_
 refine TL.indexStr (v:=bl b) rfl rfl ?_ rfl ?_
 ·clear hbl hb8;obtain ⟨c,rfl⟩:∃ c:Fin 256,c.1=b:=⟨⟨b,hb⟩,rfl⟩
  clear hb;revert c
  decide +kernel
 repeat refine aF ?_
 exact bA rfl ⟨_,rfl,by rw [hbl],rfl⟩
theorem bl_or1 (n:Nat):bl (n / 2*2+1)=max (bl n) 1:=by
 rcases Nat.lt_or_ge n 2 with h|h
 ·obtain rfl|rfl:n=0∨n=1:=by omega
  ·decide
  ·decide
 ·have h1:=bl_shift (a:=n) (s:=1) oM;have h2:=bl_shift (a:=n / 2*2+1) (s:=1) oM;have h3:=bl_gt (a:=n) (k:=1) oM;simp only [Nat.pow_one] at h1 h2;rw [h2,show (n / 2*2+1) / 2=n / 2 by omega];omega
def sz (n:Nat):Nat:=min ((max (bl n) 1+6) / 7) 9
theorem sz_le (n:Nat):1≤sz n∧sz n≤9:=by unfold sz;omega
theorem size_c (n:Nat) (hn:n<18446744073709551616) (w:World):Calls Tryz.prog 233 #[.int .u64 (n:Int)] w (Ret λ v w'=>v=.int .i64 (sz n:Int)∧w=w'):=by
 refine V.calls (args:=[_]) Tryz.func233 rfl Tryz.ntmps233 rfl rfl ?_;have hb:bl (n / 2*2+1)≤64:=bl_le (by show _<18446744073709551616;omega);have hs:sz n=min ((bl (n / 2*2+1)+6) / 7) 9:=by unfold sz;rw [bl_or1]
 repeat (first|refine TL.or1 rfl rfl hn rfl ?_|refine yC ?_|(refine aB 244 ?_;refine aA rfl (len64_c _ oM _) rfl ?_;rintro _ _ ⟨rfl,rfl⟩))
 exact bA rfl ⟨_,rfl,congrArg (Value.int .i64) (by rw [hs];split<;>omega),rfl⟩
end Go.Proofs.YtfpadnmdafiddaaGreatDoor
namespace Go.V
open Go Go.RowKit
section
variable [Rn]
variable {P:Program} {n:Nat} {e:dJ} {w:World} {Q:dI} {ops:Array Oper} {rest:List Oper} {d:Nat} {ty:TypeId} {pos:String} {aft:Array Edge}
theorem TL.make0 {t elem size bytes c:Nat} {x y:Operand} {kl kc:IntKind} [ht:SliceTy P t elem size bytes] (hx:val e x=some (.int kl 0)) (hy:val e y=some (.int kc (c:Int)))
  (hbytes:bytes*c≤281474976710656) (h63:c≤maxLen) (hd:Nat.blt d n=true)
  (k:∀ b w',w.heap.size=b→w'.ownsRow w.heap.size elem size (.slice (some ⟨b,0,none⟩) 0 c) 0 []→Grow w w'→TL P n ops rest ((d,.slice (some ⟨b,0,none⟩) 0 c)::e) w' Q) :
  TL P n ops (⟨some d,.makeSlice t x y,ty,pos,aft,none⟩::rest) e w Q:=by
 obtain ⟨i,z,hi,hsz,hby,hz,hzs,hne⟩:=ht.info;subst hby;obtain ⟨w',hrun,h2,h3⟩:=run_make_own (P:=P) (w:=w) w.heap.size t elem i z size ht.und hi hz hsz kl kc c hbytes h63 (Nat.le_refl _);refine TL.run (v:=.slice (some ⟨w.heap.size,0,none⟩) 0 c) (w':=w') (λ r hr=>?_) hd (k _ _ rfl h2 (Grow.mk ⟨h3.os,h3.tape,h3.output,h3.size,λ k hk=>h3.block k hk sM⟩));simp [execOp,hr.eval hx,hr.eval hy,hrun]
theorem TL.isMake {t:TypeId} {x y:Operand} {d:Option Nat} (h:TL P n ops (⟨d,.makeSlice t x y,ty,pos,aft,none⟩::rest) e w Q):TL P n ops (⟨d,.makeSlice t x y,ty,pos,aft,none⟩::rest) e w Q:=h
theorem TL.orB {x y:Operand} {a b:Nat} {zx zy:Int} {t1 t2:TypeId} (hx:val e x=some (.int .u8 zx)) [ix:Lit zx a] (hy:val e y=some (.int .u8 zy)) [iy:Lit zy b] (ha:a<256) (hb:b<256) (hd:Nat.blt d n=true)
  (k:TL P n ops rest ((d,.int .u8 ((a|||b:Nat):Int))::e) w Q):TL P n ops (⟨some d,.binOp .or t1 x y t2,ty,pos,aft,none⟩::rest) e w Q :=
 TL.run (λ r hr=>by
  rw [ix.h] at hx;rw [iy.h] at hy
  have e1:((BitVec.ofInt IntKind.u8.bits (a:Int))|||(BitVec.ofInt IntKind.u8.bits (b:Int))).toNat=a|||b:=by
   rw [BitVec.toNat_or,bits_nat (M:=256) rfl,bits_nat (M:=256) rfl,Nat.mod_eq_of_lt ha,Nat.mod_eq_of_lt hb]
  have e2:=eV (kd:=.u8) (M:=256) rfl (show a|||b<256 from Nat.or_lt_two_pow (n:=8) ha hb);rw [← e1] at e2
  have hb:binOp .or t1 (.int .u8 (a:Int)) (.int .u8 (b:Int))=Pure.pure (.int .u8 ((a|||b:Nat):Int)):=by
   simp only [binOp,Op.intBits,ne_eq,not_true_eq_false,if_false];rw [e2,e1]
  simp only [execOp,bG,hr.eval hx,hr.eval hy,hb]
  rfl) hd k
theorem TL.andB {x y:Operand} {a b:Nat} {zx zy:Int} {t1 t2:TypeId} (hx:val e x=some (.int .u8 zx)) [ix:Lit zx a] (hy:val e y=some (.int .u8 zy)) [iy:Lit zy b] (ha:a<256) (hb:b<256) (hd:Nat.blt d n=true)
  (k:TL P n ops rest ((d,.int .u8 ((a&&&b:Nat):Int))::e) w Q):TL P n ops (⟨some d,.binOp .and t1 x y t2,ty,pos,aft,none⟩::rest) e w Q :=
 TL.run (λ r hr=>by
  rw [ix.h] at hx;rw [iy.h] at hy
  have e1:((BitVec.ofInt IntKind.u8.bits (a:Int))&&&(BitVec.ofInt IntKind.u8.bits (b:Int))).toNat=a&&&b:=by
   rw [BitVec.toNat_and,bits_nat (M:=256) rfl,bits_nat (M:=256) rfl,Nat.mod_eq_of_lt ha,Nat.mod_eq_of_lt hb]
  have e2:=eV (kd:=.u8) (M:=256) rfl (show a&&&b<256 from Nat.lt_of_le_of_lt Nat.and_le_left ha);rw [← e1] at e2
  have hb:binOp .and t1 (.int .u8 (a:Int)) (.int .u8 (b:Int))=Pure.pure (.int .u8 ((a&&&b:Nat):Int)):=by
   simp only [binOp,Op.intBits,ne_eq,not_true_eq_false,if_false];rw [e2,e1]
  simp only [execOp,bG,hr.eval hx,hr.eval hy,hb]
  rfl) hd k
theorem TL.shlT {zx zy:Int} {x y:Operand} {ky:IntKind} {a s:Nat} {t1 t2:TypeId} (hx:val e x=some (.int .u8 zx)) [ix:Lit zx a] (hy:val e y=some (.int ky zy)) [iy:Lit zy s] (hs:s≤8) (hd:Nat.blt d n=true)
  (k:TL P n ops rest ((d,.int .u8 ((a*2^s%256:Nat):Int))::e) w Q):TL P n ops (⟨some d,.binOp .shl t1 x y t2,ty,pos,aft,none⟩::rest) e w Q :=
 TL.run (λ r hr=>by
  rw [ix.h] at hx;rw [iy.h] at hy
  have h3:min s IntKind.u8.bits=s:=Nat.min_eq_left hs;have h4:¬ ((s:Int)<0):=by omega
  have e1:(a:Int)*2^s=((a*2^s:Nat):Int):=by simp
  have e2:IntKind.u8.wrap ((a*2^s:Nat):Int)=((a*2^s%256:Nat):Int):=wrap_u (M:=256) rfl (a*2^s);rw [← e1] at e2;simp only [execOp,binOp,bG,Op.shift,hr.eval hx,hr.eval hy]
  simp [h3,h4,e2]) hd k
end
end Go.V
namespace Go.Proofs.YtfpadnmdafiddaaGreatDoor
open Go Go.RowKit Go.V
def bB (l:List Nat):List Value:=l.map λ (b:Nat)=>.int .u8 (b:Int)
theorem bO (l:List Nat):∀ u∈bB l,u.oneCell'=true:=by
 intro u hu;simp [bB] at hu;obtain ⟨x,_,rfl⟩:=hu;rfl
theorem dH (l r:List Nat):bB (l++r)=bB l++bB r:=by simp [bB]
theorem bE (l:List Nat):(bB l).length=l.length:=by simp [bB]
theorem grown_c (F:Nat→Prop) (a:Option Addr) (n c m:Nat) (l:List Value) (w:World) (hs:Sl F w 1 a n c l) (h1:∀ u∈l,u.oneCell'=true) (hn:n+m≤1099511627776) :
  Calls Tryz.prog 215 #[.slice a n c,.int .i64 (m:Int)] w (Ret λ v w'=>w'.ownsRow w.heap.size 5 1 v n l∧Grow w w'):=by
 refine V.calls (args:=[_,_]) Tryz.func215 rfl Tryz.ntmps215 rfl rfl ?_;repeat refine dF ?_
 refine TL.make0 (c:=n+m) rfl rfl oM (by unfold maxLen;omega) rfl ?_;intro b w1 hb hown hg;repeat refine dF ?_
 refine TL.append rfl rfl hown (hs.grow hg) h1 (by unfold maxLen;omega) oM hg.size rfl ?_;intro v' w3 hown3 hgb _;repeat refine dF ?_
 refine bA rfl ⟨_,rfl,?_,Grow.mk (aL hgb hg.size (λ k hk=>(aT hown hk).1) hg.1)⟩;simpa using hown3
end Go.Proofs.YtfpadnmdafiddaaGreatDoor
