import Derived.Test.YtfpadnmdafiddaaGreatDoorMl
import Derived.RangeFuncIn
set_option linter.all false
set_option maxHeartbeats 16000000
set_option maxRecDepth 100000
namespace Go.V
open Go Go.RowKit
theorem iU (b:Nat) (w:World) (o:Obj):Upd b w (w.putObj b o):=⟨rfl,rfl,rfl,World.putObj_size,λ k hk=>World.putObj_heap_other hk⟩
def T2 [Rn] (P:Program) (n:Nat) (x y:Code) (e:dQ) (w:World) (Q:dS):Prop :=
 ∀ a,Fits n e a→x.wpIn (FR Rn.ro) 0 P (Exit.then (y.wpIn (FR Rn.ro) 0 P (iP n Q)) (iP n Q)) a w
def thenQ2 [Rn] (P:Program) (n:Nat) (x y:Code) (Q:dS):dS:=λ ex e w =>
 match ex with
 | .normal=>T2 P n x y e w Q
 | ex=>Q ex e w
def roundQ (l:Nat) (rc:LoopState→Option Code→Loop) (R:Value→World→Prop):dS:=λ ex _ w =>
 match ex with
 | .normal=>w.heap[l]? = some (.loop (rc .busy none))∧∀ w',Upd l w w'→w'.heap[l]? = some (.loop (rc .ready none))→R (.bool true) w'
 | .ret=>w.heap[l]? = some (.loop (rc .busy none))∧∀ w',Upd l w w'→w'.heap[l]? = some (.loop (rc .done (some .ret)))→R (.bool false) w'
 | .exit j=>w.heap[l]? = some (.loop (rc .busy none))∧∀ w',Upd l w w'→w'.heap[l]? = some (.loop (rc .done (some (.exit j))))→R (.bool false) w'
 | _=>False
structure LoopIn (n:Nat) (ps:List Tmp) (x y:Code) (e:dQ) (rc:LoopState→Option Code→Loop):Prop where
 is:∃ fn tm D,(tm.size=n∧∀ t v,find e t=some v→tm.getD t undef=v)∧rc=λ st pd=>{ state:=st,pending:=pd,fn:=fn,tmps:=tm,params:=ps.toArray,assign:=x,body:=y,defers:=D }
def Yld (P:Program) (l:Nat) (vs:List Value) (w:World) (R:Value→World→Prop):Prop :=
 ∃ f tmps x y,(Instr.yield l vs.toArray).run P w=.ok (.round l f tmps x y) w∧RoundIn Fence.wide 0 P l f tmps x y w (Ret R)
theorem Yld.mono {P:Program} {l:Nat} {vs:List Value} {w:World} {R R':Value→World→Prop} (h:Yld P l vs w R) (hr:∀ v w,R v w→R' v w):Yld P l vs w R':=by
 obtain ⟨f,tmps,x,y,h1,h2⟩:=h
 exact ⟨f,tmps,x,y,h1,RoundIn.mono h2 λ e w ⟨v,h3,h4⟩=>⟨v,h3,hr _ _ h4⟩⟩
def psEnv:List Tmp→List Value→dQ→dQ
 | p::ps,v::vs,e=>psEnv ps vs ((p,v)::e)
 | _,_,e=>e
abbrev inR (l:Nat):Rn:=⟨some l,[],0⟩
theorem fits_ps [Rn] {n:Nat} (hds:Rn.ds=[]):∀ (ps:List Tmp) (vs:List Value) (e:dQ) (tm:Array Value),(∀ p∈ps,p<n)→Fits n e { tmps:=tm,defers:=[] }→Fits n (psEnv ps vs e) { tmps:=(ps.zip vs).foldl (λ t (p,v)=>t.setIfInBounds p v) tm,defers:=[] }
 | [],_,e,tm,_,h=>by simpa [psEnv] using h
 | p::ps,[],e,tm,_,h=>by simpa [psEnv] using h
 | p::ps,v::vs,e,tm,hp,h=>by
  have h1:=h.put (d:=p) (Nat.ble_eq_true_of_le (hp p (by simp))) v
  exact fits_ps hds ps vs _ _ (λ q hq=>hp q (by simp [hq])) h1
theorem yld_of {P:Program} {n l:Nat} {ps:List Tmp} {x y:Code} {e:dQ} {w:World} {rc:LoopState→Option Code→Loop} {vs:List Value} {R:Value→World→Prop} (hl:LoopIn n ps x y e rc) (h:w.heap[l]? = some (.loop (rc .ready none)))
  (hlen:vs.length=ps.length) (hb:ps.all (λ p=>Nat.blt p n)=true)
  (ha':∀ I:Rn,T P n x (psEnv ps vs e) w (λ ex e1 w1=>match ex with
   | .normal=>w1.heap[l]? = some (.loop (rc .ready none))∧∀ w2,Upd l w1 w2→w2.heap[l]? = some (.loop (rc .busy none))→T P n y e1 w2 (roundQ l rc R)
   | _=>False)):Yld P l vs w R:=by
 letI:=inR l
 have ha:=ha' (inR l)
 obtain ⟨fn,tm,D,⟨ht,hg⟩,hrc⟩:=hl.is
 have hy:=run_yield (P:=P) (args:=vs.toArray) h (by subst hrc;simp [hlen])
 refine ⟨_,_,_,_,hy,?_⟩
 have hb':∀ p∈ps,p<n:=λ p hp=>Nat.le_of_ble_eq_true (List.all_eq_true.1 hb p hp)
 have hfit:Fits n (psEnv ps vs e) { tmps:=((rc .ready none).params.zip vs.toArray).foldl (λ t (p,v)=>t.setIfInBounds p v) (rc .ready none).tmps,defers:=[] }:=by
  have hT:((rc .ready none).params.zip vs.toArray).foldl (λ t (p,v)=>t.setIfInBounds p v) (rc .ready none).tmps=(ps.zip vs).foldl (λ t (p,v)=>t.setIfInBounds p v) tm:=by
   subst hrc
   rw [← Array.foldl_toList];simp
  rw [hT]
  exact fits_ps rfl ps vs e tm hb' ⟨rfl,ht,hg⟩
 have hx0:(rc .ready none).assign=x:=by subst hrc;rfl
 have hy0:(rc .ready none).body=y:=by subst hrc;rfl
 have hbusy : { (rc .ready none) with state:=LoopState.busy }=rc .busy none:=by subst hrc;rfl
 have hend:∀ j:Option Code,{ (rc .busy none) with state:=if j.isNone then LoopState.ready else LoopState.done,pending:=j }=rc (if j.isNone then .ready else .done) j:=by subst hrc;exact λ _=>rfl
 refine roundIn_of_wpIn (F:=Fence.wide) trivial ?_
 rw [hx0,hy0]
 refine wpIn_mono (T.out ha hfit) ?_
 intro ex a1 w1 hx
 cases ex with
 | normal =>
  obtain ⟨e1,he1,h1,h2⟩:=hx
  have hlt:=(Array.getElem?_eq_some_iff.1 h1).1
  refine ⟨_,run_beginRound h1 (by subst hrc;rfl),?_⟩
  rw [hbusy]
  refine wpIn_mono (T.out (h2 _ (iU l w1 _) (World.putObj_heap_same hlt)) he1) ?_
  intro ex a2 w3 hx
  have fin:∀ jump:Option Code,w3.heap[l]? = some (.loop (rc .busy none))→(∀ w',Upd l w3 w'→w'.heap[l]? = some (.loop (rc (if jump.isNone then .ready else .done) jump))→R (.bool jump.isNone) w') →
    ∃ v w',(Instr.endRound l jump).run P w3=.ok v w'∧Ret R (.returned v) w':=λ jump h3 h4=>by
   refine ⟨_,_,run_endRound jump h3,_,rfl,h4 _ (iU l w3 _) ?_⟩
   rw [hend]
   exact World.putObj_heap_same (Array.getElem?_eq_some_iff.1 h3).1
  cases ex with
  | normal=>obtain ⟨e2,he2,h3,h4⟩:=hx;exact fin none h3 h4
  | ret =>
   obtain ⟨e2,ms,he2,hq⟩:=hx
   have hms:ms=[]:=he2.rnd.resolve_left (by simp [Rn.ro])
   subst hms
   obtain ⟨h3,h4⟩:=hq
   exact fin (some .ret) h3 h4
  | exit j=>obtain ⟨e2,he2,h3,h4⟩:=hx;exact fin (some (.exit j)) h3 h4
  | goto t=>obtain ⟨e2,he2,hq⟩:=hx;exact hq.elim
  | panic c=>obtain ⟨e2,he2,hq⟩:=hx;exact hq.elim
  | outgrown=>obtain ⟨e2,he2,hq⟩:=hx;exact hq.elim
 | ret=>obtain ⟨e2,ms,he2,hq⟩:=hx;exact hq.elim
 | exit j=>obtain ⟨e2,he2,hq⟩:=hx;exact hq.elim
 | goto t=>obtain ⟨e2,he2,hq⟩:=hx;exact hq.elim
 | panic c=>obtain ⟨e2,he2,hq⟩:=hx;exact hq.elim
 | outgrown=>obtain ⟨e2,he2,hq⟩:=hx;exact hq.elim
theorem TL.makeFunc [Rn] {P:Program} {n:Nat} {e:dQ} {w:World} {Q:dS} {ops:Array Oper} {rest:List Oper} {d:Nat} {ty:TypeId} {pos:String} {aft:Array Edge} {f:Fn} {xs cs:List Operand} {us vs:List Value} (hxs:argsV (val e) xs=some us) (hcs:argsV (val e) cs=some vs) (hd:Nat.blt d n=true)
  (k:TL P n ops rest ((d,.func f us.toArray vs.toArray)::e) w Q):TL P n ops (⟨some d,.makeFunc f xs.toArray cs.toArray,ty,pos,aft,none⟩::rest) e w Q :=
 TL.run (λ r hr=>by
  have h1:=argsV_eval hr xs us hxs
  have h2:=argsV_eval hr cs vs hcs
  simp [execOp,Instr.makeFunc] at h1 h2 ⊢
  rw [h1,h2];exact ⟨rfl,rfl⟩) hd k
theorem mM [Rn] {P:Program} {n:Nat} {e:dQ} {w:World} {Q:dS} {ops:Array Oper} {rest:List Oper} {ty:TypeId} {pos:String} {aft:Array Edge} {f:Fn} {xs cs:Array Operand} {d:Option Nat} (h:TL P n ops (⟨d,.makeFunc f xs cs,ty,pos,aft,none⟩::rest) e w Q):TL P n ops (⟨d,.makeFunc f xs cs,ty,pos,aft,none⟩::rest) e w Q:=h
theorem TL.yield [Rn] {P:Program} {n:Nat} {e:dQ} {w:World} {Q:dS} {ops:Array Oper} {rest:List Oper} {d:Nat} {ty:TypeId} {pos:String} {aft:Array Edge} {l:Nat} {x:Operand} {xs:List Operand} {tys:Array TypeId} {vs:List Value} {R:Value→World→Prop} (hx:val e x=some (.func (.yield l) #[] #[])) (hxs:argsV (val e) xs=some vs)
  (hy:Yld P l vs w R) (hd:Nat.blt d n=true) (k:∀ v w',R v w'→TL P n ops rest ((d,v)::e) w' Q) :
  TL P n ops (⟨some d,.call ⟨.value x,xs.toArray,tys⟩,ty,pos,aft,none⟩::rest) e w Q:=TL.mk λ a ha =>
 wpListIn_plain rfl λ K hK=>by
  obtain ⟨f,tmps,y,z,h1,h2⟩:=hy
  have hr:(execOp a.eval ⟨some d,.call ⟨.value x,xs.toArray,tys⟩,ty,pos,aft,none⟩).run P w=.ok (.round l f tmps y z) w:=by
   have:=argsV_eval ha xs vs hxs
   simp [execOp,resolve,ha.eval hx,Deferred.ofValue,invoke,h1] at this ⊢
   rw [this];exact h1
  refine Oper.wpFR _ (.inr (.inr (.inr ⟨_,_,_,_,_,_,hr,RoundIn.mono h2 ?_⟩)))
  rintro x w' ⟨v,rfl,hv⟩
  exact ⟨v,rfl,hK _ _ ((k v w' hv).out (ha.put hd v))⟩
section
variable [Rn]
variable {P:Program} {n:Nat} {e:dQ} {w:World} {Q:dS}
theorem T.seq2 {x y z:Code} (h:T P n x e w (thenQ2 P n y z Q)):T P n (.seq (.seq x y) z) e w Q:=T.mk λ a ha =>
 wpIn_seq (wpIn_seq (wpIn_mono (T.out h ha) λ ex a w hx=>by
  cases ex<;>first|exact hx|(obtain ⟨e,he,hq⟩:=hx;exact hq a he)))
theorem mK {x y:Code} (h:T2 P n x y e w Q):thenQ2 P n x y Q .normal e w:=h
theorem T.seqR {i:Nat} {x z p q:Code} {g:Operand} {ps:Array Tmp} (h:T P n x e w (thenQ2 P n (.block i (.rangeFunc g ps p q)) z Q)):T P n (.seq (.seq x (.block i (.rangeFunc g ps p q))) z) e w Q:=T.seq2 h
def markQ (D:Nat) (Q:dS):dS:=λ x e w =>
 match x with
 | .ret=>w.heap[D]? = some (.deferred (some []))∧∀ w',Upd D w w'→Q .ret e w'
 | _=>False
abbrev behind (D:Nat):Rn:=⟨none,mkD D::Rn.ds,D+1⟩
theorem lift_mark {D:Nat} {x:Exit} {a:Act} {w:World} (hro:Rn.ro=none) (hlo:Rn.lo≤D) (h:@iP (behind D) n (markQ D Q) x a w):iP n Q x a w:=by
 cases x with
 | ret =>
  obtain ⟨e,ms,⟨k1,k2,k3,k4,k5,k6⟩,h1,h2⟩:=h
  have k5:∀ r∈ms,D+1≤r∧w.heap[r]? = some (.deferred (some [])):=k5
  have k1:a.defers=ms.map mkD++mkD D::Rn.ds:=k1
  have hD:D∉ms:=λ hm=>by have:=(k5 D hm).1;omega
  refine ⟨e,ms++[D],⟨by rw [k1];simp,k2,k3,?_,λ r hr=>?_,.inl hro⟩,?_⟩
  ·rw [List.nodup_append]
   exact ⟨k4,by simp,λ x hx y hy=>by simp only [List.mem_singleton] at hy;subst hy;exact λ e=>hD (by rw [← e];exact hx)⟩
  ·rcases List.mem_append.1 hr with h3|h3
   ·have:=k5 r h3
    exact ⟨by omega,this.2⟩
   ·simp only [List.mem_singleton] at h3
    subst h3
    exact ⟨hlo,by rw [shut_other hD] at h1;exact h1⟩
  ·rw [shut_append]
   exact h2 _ (iU D _ _)
 | normal=>obtain ⟨e,he,hq⟩:=h;exact hq.elim
 | exit j=>obtain ⟨e,he,hq⟩:=h;exact hq.elim
 | goto j=>obtain ⟨e,he,hq⟩:=h;exact hq.elim
 | panic c=>obtain ⟨e,he,hq⟩:=h;exact hq.elim
 | outgrown=>obtain ⟨e,he,hq⟩:=h;exact hq.elim
structure RangeOut (P:Program) (n:Nat) (i:Nat) (B:Code) (Q:dS) (e:dQ) (D:Nat) (rc:LoopState→Option Code→Loop) (w:World):Prop where
 mark:w.heap[D]? = some (.deferred (some []))
 cases':(w.heap[D+1]? = some (.loop (rc .ready none))∧∀ (I:Rn) (w4:World),Upd (D+1) w w4→@T I P n B e w4 (markQ D Q)) ∨
  (w.heap[D+1]? = some (.loop (rc .done (some .ret)))∧∀ w4 w5,Upd (D+1) w w4→Upd D w4 w5→Q .ret e w5) ∨
  (w.heap[D+1]? = some (.loop (rc .done (some (.exit i))))∧∀ (I:Rn) (w4:World),Upd (D+1) w w4→@T I P n B e w4 (markQ D Q))
theorem T2.range {i:Nat} {g:Operand} {ps:List Tmp} {x y B:Code} {gf:FuncId} {lb:List Value} [hf:FnOk P gf] (hro:Rn.ro=none) (hlo:Rn.lo≤w.heap.size) (hg:val e g=some (.func (.func gf) #[] lb.toArray))
  (h:∀ rc w1,LoopIn n ps x y e rc→w1.heap.size=w.heap.size+2→Grow w w1→w1.heap[w.heap.size+1]? = some (.loop (rc .ready none))→w1.heap[w.heap.size]? = some (.deferred (some [])) →
   Calls P gf (.func (.yield (w.heap.size+1)) #[] #[]::lb).toArray w1 (Ret λ _ w2=>RangeOut P n i B Q e w.heap.size rc w2)) :
  T2 P n (.block i (.rangeFunc g ps.toArray x y)) B e w Q:=λ a ha=>by
 have hF:FR Rn.ro=FR none:=by rw [hro]
 refine wpIn_block (wpIn_rangeFunc λ fn _=>?_)
 obtain ⟨rc,hrc⟩:∃ rc:LoopState→Option Code→Loop,rc=λ st pd=>{ state:=st,pending:=pd,fn:=fn,tmps:=a.tmps,params:=ps.toArray,assign:=x,body:=y,defers:=w.heap.size }:=⟨_,rfl⟩
 have hent:(Instr.enterLoop fn a.tmps ps.toArray x y (FR Rn.ro).round).run P w=.ok (w.heap.size+1,[mkD w.heap.size]) ((w.alloc (.deferred (some []))).alloc (.loop (rc .ready none))):=by
  rw [hF,hrc];exact run_enterLoop_outer _ _ _ _ _
 generalize hW:(w.alloc (.deferred (some []))).alloc (.loop (rc .ready none))=W1 at hent
 have hl1:W1.heap[w.heap.size+1]? = some (.loop (rc .ready none)):=by
  rw [← hW]
  have:=World.alloc_heap_new (w.alloc (.deferred (some []))) (.loop (rc .ready none));rwa [World.size_alloc] at this
 have hk1:W1.heap[w.heap.size]? = some (.deferred (some [])):=by
  rw [← hW];exact (Below.heap_alloc _ _ _ (by simp)).trans (World.alloc_heap_new w _)
 have hgr:Grow w W1:=by rw [← hW];exact Grow.mk (((Below.refl _ w).alloc (Nat.le_refl _) _).alloc (by simp) _)
 have hc:=h rc W1 ⟨fn,a.tmps,w.heap.size,⟨ha.size,ha.get⟩,hrc⟩ (by rw [← hW];simp) hgr hl1 hk1
 have hend:∀ st pd,{ (rc st pd) with state:=LoopState.exhausted }=rc .exhausted pd:=by subst hrc;exact λ _ _=>rfl
 have hst:∀ st pd,(rc st pd).state=st:=by subst hrc;exact λ _ _=>rfl
 have hpd:∀ st pd,(rc st pd).pending=pd:=by subst hrc;exact λ _ _=>rfl
 refine ⟨w.heap.size+1,[mkD w.heap.size],_,⟨.fn (.func gf) lb.toArray,#[.func (.yield (w.heap.size+1)) #[] #[]]⟩,W1,gf,(.func (.yield (w.heap.size+1)) #[] #[]::lb).toArray,W1,hent,?_,λ _ _=>trivial,?_,(λ h=>by cases h),?_⟩
 ·simp [rangeCall,resolve,ha.eval hg,Deferred.ofValue,Sem.run_bind,Result.andThen]
  rfl
 ·show (callFunc gf (#[Value.func (.yield (w.heap.size+1)) #[] #[]]++lb.toArray)).run P _=_
  have:=run_callFunc (P:=P) (f:=gf) (.func (.yield (w.heap.size+1)) #[] #[]::lb).toArray W1
  simpa using this
 ·refine CallsIn.mono (calls_fr hc) λ en w2 hen=>?_
  obtain ⟨v,rfl,hD,hcase⟩:=hen
  have hfit:@Fits (behind w.heap.size) n e { a with defers:=mkD w.heap.size::a.defers } :=
   @Fits.mk (behind w.heap.size) n e _ (show mkD w.heap.size::a.defers=mkD w.heap.size::Rn.ds by rw [ha.defers]) ha.size ha.get
  have hB:∀ w4,@T (behind w.heap.size) P n B e w4 (markQ w.heap.size Q)→B.wpIn (FR Rn.ro) 0 P (iP n Q) { a with defers:=mkD w.heap.size::a.defers } w4:=λ w4 hT=>by
   rw [hF]
   exact wpIn_mono (@T.out (behind w.heap.size) _ _ _ _ _ _ hT _ hfit) λ ex a w hx=>lift_mark hro hlo hx
  rcases hcase with ⟨h1,h2⟩|⟨h1,h2⟩|⟨h1,h2⟩
  ·exact ⟨none,_,by have:=run_endLoop (P:=P) h1 (by rw [hst];simp);rw [hpd] at this;exact this,hB _ (h2 _ _ (iU _ _ _))⟩
  ·refine ⟨some .ret,_,by have:=run_endLoop (P:=P) h1 (by rw [hst];simp);rw [hpd] at this;exact this,wpIn_ret ?_⟩
   refine ⟨e,[w.heap.size],⟨by rw [← ha.defers];rfl,ha.size,ha.get,by simp,λ r hr=>?_,.inl hro⟩,h2 _ _ (iU _ _ _) (iU _ _ _)⟩
   simp only [List.mem_singleton] at hr
   subst hr
   exact ⟨hlo,by rw [World.putObj_heap_other (by omega)];exact hD⟩
  ·refine ⟨some (.exit i),_,by have:=run_endLoop (P:=P) h1 (by rw [hst];simp);rw [hpd] at this;exact this,wpIn_exit ?_⟩
   simp only [Exit.inBlock,if_true]
   exact hB _ (h2 _ _ (iU _ _ _))
end
end Go.V
