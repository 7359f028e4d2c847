import Derived.Test.YtfpadnmdafiddaaGreatDoorP0
import Derived.Test.YtfpadnmdafiddaaGreatDoorPj
import Derived.Test.YtfpadnmdafiddaaGreatDoorPf
set_option linter.all false
set_option maxHeartbeats 16000000
set_option maxRecDepth 100000
namespace Go.V
open Go Go.RowKit
def mO (l:List Oper) (vs:Nat→Value):List Nat→dI→dI
 | [],e=>e
 | j::js,e=>mO l vs js (match mB l j with|some d=>(d,vs j)::e|none=>e)
def upB (dn:Nat→Bool) (i:Nat):Nat→Bool:=λ j=>Nat.beq j i || dn j
def upV (vs:Nat→Value) (i:Nat) (v:Value):Nat→Value:=λ j=>bif Nat.beq j i then v else vs j
def invQ (d:Option Nat) (i:Nat) (dn:Nat→Bool) (vs:Nat→Value) (J:(Nat→Bool)→(Nat→Value)→World→Prop):dA:=λ x e' w'=>match x with
 | .normal=>∃ v,(∀ t,d=some t→find e' t=some v)∧J (upB dn i) (upV vs i v) w'
 | _=>False
theorem cQ {d i:Nat} {dn:Nat→Bool} {vs:Nat→Value} {v:Value} {J:(Nat→Bool)→(Nat→Value)→World→Prop} {e':dI} {w':World} (h:find e' d=some v) (hI:J (upB dn i) (upV vs i v) w'):invQ (some d) i dn vs J .normal e' w':=⟨v,λ t ht=>(by cases ht;exact h),hI⟩
def InvOp [Rn] (P:Program) (n:Nat) (l:List Oper) (e:dI) (J:(Nat→Bool)→(Nat→Value)→World→Prop) (i:Nat):Prop :=
 match l[i]? with
 | none=>True
 | some o=>∀ dn vs w,J dn vs w→dn i=false→(∀ x∈bH o,dn x=true)→TL P n l.toArray [o] (mO l vs (lC (bH o)) e) w (invQ o.dst i dn vs J)
def AllInv [Rn] (P:Program) (n:Nat) (l:List Oper) (e:dI) (J:(Nat→Bool)→(Nat→Value)→World→Prop):Nat→Nat→Prop
 | _,0=>True
 | i,k+1=>InvOp P n l e J i∧AllInv P n l e J (i+1) k
theorem depEnvF_find {l:List Oper} {vs:Nat→Value}:∀ {js:List Nat} {e0:dI} {t:Nat} {v:Value},find (mO l vs js e0) t=some v→(∃ j∈js,mB l j=some t∧v=vs j)∨find e0 t=some v
 | [],e0,t,v,h=>.inr h
 | j::js,e0,t,v,h=>by
  unfold mO at h;rcases depEnvF_find h with ⟨x,hx,h1⟩|h1
  ·exact .inl ⟨x,by simp [hx],h1⟩
  ·cases hd:mB l j with
   | none=>rw [hd] at h1;exact .inr h1
   | some d =>
    rw [hd] at h1;simp only [fT] at h1;by_cases ht:d=t
    ·rw [if_pos ht] at h1;exact .inl ⟨j,sM,by rw [hd,ht],(Option.some.inj h1).symm⟩
    ·rw [if_neg ht] at h1;exact .inr h1
section
variable [Rn]
variable {P:Program} {n:Nat} {l:List Oper} {e:dI} {J:(Nat→Bool)→(Nat→Value)→World→Prop} {N:Nat} {Q:dA}
theorem allInv_at:∀ {k i:Nat},AllInv P n l e J i k→∀ j,i≤j→j<i+k→InvOp P n l e J j
 | 0,_,_,j,h1,h2=>by omega
 | k+1,i,h,j,h1,h2=>by
  by_cases hj:j=i
  ·subst hj;exact h.1
  ·exact allInv_at h.2 j oM oM
theorem allInv_end {i:Nat}:AllInv P n l e J i 0:=trivial
theorem allInv_cons {i k:Nat} (h:InvOp P n l e J i) (hs:AllInv P n l e J (i+1) k):AllInv P n l e J i (k+1):=⟨h,hs⟩
theorem dY {i:Nat} {d:Option Nat} {op:Op} {ty:TypeId} {pos:String} {aft:Array Edge} {js:List Nat} (ho:l[i]? = some ⟨d,op,ty,pos,aft,none⟩) (hj:lC (bH ⟨d,op,ty,pos,aft,none⟩)=js)
  (h:∀ dn vs w,J dn vs w→dn i=false→(∀ x∈js,dn x=true)→TL P n #[] [⟨d,op,ty,pos,aft,none⟩] (mO l vs js e) w (invQ d i dn vs J)):InvOp P n l e J i:=by
 unfold InvOp;rw [ho];simp only;intro dn vs w hJ h0 h1;subst hj;exact TL.lone (h dn vs w hJ h0 (λ x hx=>h1 x (fE.1 hx)))
structure MidI (n:Nat) (l:List Oper) (e:dI) (J:(Nat→Bool)→(Nat→Value)→World→Prop) (N:Nat) (listed:Array Bool) (a:Act) (w:World) (vs:Nat→Value):Prop where
 size:listed.size=l.length
 inv:J (λ i=>listed.getD i false) vs w
 defers:a.defers=Rn.ds
 tmps:a.tmps.size=n
 get:∀ t v,find e t=some v→a.tmps.getD t undef=v
 did:∀ i,i<N→listed.getD i false=true→∀ d,mB l i=some d→a.tmps.getD d undef=vs i
 rest:∀ i,N≤i→listed.getD i false=false
 closed:∀ j o,l[j]? = some o→listed.getD j false=true→∀ x∈bH o,listed.getD x false=true
theorem inv_runs (hN:N≤l.length) (hh:∀ i,i<N→DHead l e n i) (f1:∀ o,l[N]? = some o→∀ i,i<N→i∈bH o)
  (ht:∀ j,N≤j→j<l.length→∃ o,l[j]? = some o∧(∀ x∈bH o,x<j)∧(j=N∨j-1∈bH o)) (d3:∀ i,i<N→InvOp P n l e J i)
  (y0:∀ dn vs w,J dn vs w→(∀ i,i<N→dn i=true)→TL P n l.toArray (l.drop N) (mO l vs (mY 0 N) e) w Q) :
  ∀ (m:Nat) (a0:Array Bool) (a:Act) (w:World) (vs:Nat→Value) (f:Nat),MidI n l e J N a0 a w vs →
   ((List.range N).filter λ i=>!(a0.getD i false)).length=m→f=m+(l.length-N)→wpAnyIn (FR Rn.ro) 0 P .any l.toArray (iG n Q) f a0 a w:=by
 intro m
 induction m with
 | zero =>
  intro a0 a w vs f f0 hm hf
  have s0:∀ i,i<N→a0.getD i false=true:=by
   intro i hi;have:=List.eq_nil_of_length_eq_zero hm;have h2:=List.eq_nil_iff_forall_not_mem.1 this i;simp only [List.mem_filter,List.mem_range,not_and,Bool.not_eq_true',Bool.not_eq_false] at h2;exact h2 hi
  refine nB ht f N a0 a w oM (Nat.le_refl _) f0.size s0 (λ x hx x0=>?_) ?_
  ·have:=f0.rest x hx;rw [Array.getD_eq_getD_getElem?] at this ⊢
   cases hy:a0[x]? with
   | none=>rw [Array.getElem?_eq_none_iff] at hy;have:=f0.size;omega
   | some b=>simpa [hy] using this
  ·refine (y0 _ vs w f0.inv s0).out ⟨f0.defers,f0.tmps,λ t v hv=>?_⟩;rcases depEnvF_find hv with ⟨j,hj,h1,rfl⟩|h3
   ·have d2:=(fC.1 hj).2;exact f0.did j oM (s0 j oM) t h1
   ·exact f0.get t v h3
 | succ m ih =>
  intro a0 a w vs f f0 hm hf
  have l0:∃ i,i<N∧a0.getD i false=false:=by
   have x1:((List.range N).filter λ i=>!(a0.getD i false))≠[]:=by intro h0;rw [h0] at hm;simp at hm
   obtain ⟨i,hi⟩:=List.exists_mem_of_ne_nil _ x1;simp only [List.mem_filter,List.mem_range,Bool.not_eq_true'] at hi;exact ⟨i,hi.1,hi.2⟩
  obtain ⟨f',rfl⟩:∃ f',f=f'+1:=⟨f-1,oM⟩
  have n0:∀ j,j∈Region.ready .any l.toArray a0→j<N∧a0.getD j false=false:=by
   intro j hj;obtain ⟨h3,o,h4,h5⟩:=cT.1 hj;have y2:j<l.length:=(List.getElem?_eq_some_iff.1 h4).1
   have z2:a0.getD j false=false:=by
    rw [Array.getD_eq_getD_getElem?] at h3 ⊢
    cases hx:a0[j]? with
    | none=>simp
    | some b=>simpa [hx] using h3
   refine ⟨?_,z2⟩;rcases Nat.lt_or_ge j N with h|h
   ·exact h
   ·exfalso;obtain ⟨o2,h6,_,h7⟩:=ht j h y2;rw [h4] at h6;cases h6;obtain ⟨i,hi,f2⟩:=l0;by_cases d2:j=N
    ·subst d2;have:=h5 i (f1 o h4 i hi);rw [f2] at this;cases this
    ·have h8:=h5 (j-1) (h7.resolve_left d2);rw [f0.rest (j-1) oM] at h8;cases h8
  have z0:Region.ready .any l.toArray a0≠[]:=by
   have key:∀ k i,i≤k→i<N→a0.getD i false=false→∃ j,j∈Region.ready .any l.toArray a0:=by
    intro k
    induction k with
    | zero =>
     intro i hi o0 hl;obtain ⟨o,ho,_,g0⟩:=(hh i o0).ex;refine ⟨i,cT.2 ⟨?_,o,ho,λ x hx=>?_⟩⟩
     ·rw [Array.getD_eq_getD_getElem?] at hl ⊢
      cases hx:a0[i]? with
      | none=>rw [Array.getElem?_eq_none_iff] at hx;have:=f0.size;omega
      | some b=>simpa [hx] using hl
     ·have:=g0 x hx;omega
    | succ k ihk =>
     intro i hi o0 hl;obtain ⟨o,ho,_,g0⟩:=(hh i o0).ex;by_cases hx:∃ x∈bH o,a0.getD x false=false
     ·obtain ⟨x,s1,x0⟩:=hx;have:=g0 x s1;exact ihk x oM oM x0
     ·refine ⟨i,cT.2 ⟨?_,o,ho,λ x s1=>?_⟩⟩
      ·rw [Array.getD_eq_getD_getElem?] at hl ⊢
       cases hx:a0[i]? with
       | none=>rw [Array.getElem?_eq_none_iff] at hx;have:=f0.size;omega
       | some b=>simpa [hx] using hl
      ·cases hv:a0.getD x false with
       | true=>rfl
       | false=>exact absurd ⟨x,s1,hv⟩ hx
   obtain ⟨i,hi,f2⟩:=l0;obtain ⟨j,hj⟩:=key i i (Nat.le_refl _) hi f2;intro h0;rw [h0] at hj;cases hj
  refine ⟨λ h0=>absurd h0 z0,λ i u2=>?_⟩;obtain ⟨o0,w2⟩:=n0 i u2;obtain ⟨_,o,ho,q2⟩:=cT.1 u2;obtain ⟨o',r2,hd,g0⟩:=(hh i o0).ex;rw [ho] at r2;cases r2;have r1:mB l i=o.dst:=by simp [mB,ho]
  have p0:=d3 i o0;unfold InvOp at p0;simp only [ho] at p0
  have g2:Fits n (mO l vs (lC (bH o)) e) a:=⟨f0.defers,f0.tmps,λ t v hv=>by
   rcases depEnvF_find hv with ⟨j,hj,h1,rfl⟩|h3
   ·have s2:=fE.1 hj;exact f0.did j (by have:=g0 j s2;omega) (q2 j s2) t h1
   ·exact f0.get t v h3⟩
  have i0:=(p0 _ vs w f0.inv w2 q2).out g2;unfold wpOpIn;rw [show l.toArray[i]? = some o by simpa using ho];simp only
  have m0:∀ a' w',iG n (invQ o.dst i (λ i=>a0.getD i false) vs J) .normal a' w'→(∃ v,a'.tmps=(a.put o.dst v).tmps)→wpAnyIn (FR Rn.ro) 0 P .any l.toArray (iG n Q) f' (a0.setIfInBounds i true) a' w':=by
   rintro a' w' ⟨e',j2,v0,hv,i3⟩ ⟨u,hu⟩
   have j0:∀ t,o.dst≠some t→a'.tmps.getD t undef=a.tmps.getD t undef:=λ t x2=>by
    rw [hu]
    cases m1:o.dst with
    | none=>rfl
    | some d =>
     rw [jN (by rw [f0.tmps];exact (hd d m1).1),if_neg (λ h=>x2 (by rw [m1,h]))]
   have u1:i<a0.size:=by rw [f0.size];exact (List.getElem?_eq_some_iff.1 ho).1
   have g3:J (λ j=>(a0.setIfInBounds i true).getD j false) (upV vs i v0) w':=by
    have e1:(λ j=>(a0.setIfInBounds i true).getD j false)=upB (λ i=>a0.getD i false) i:=by
     funext j
     unfold upB;by_cases k0:j=i
     ·subst k0;rw [Nat.beq_refl,Bool.true_or];simp [Array.getD_eq_getD_getElem?,u1]
     ·rw [eE k0]
      have e2:Nat.beq j i=false:=by
       cases hb:Nat.beq j i with
       | false=>rfl
       | true=>exact absurd (Nat.eq_of_beq_eq_true hb) k0
      rw [e2,Bool.false_or]
    rw [e1];exact i3
   refine ih (a0.setIfInBounds i true) a' w' (upV vs i v0) f' ⟨by simp [f0.size],g3,j2.defers,j2.size,λ t v hv=>?_,λ j hj q1 d u0=>?_,λ j hj=>?_,λ j oj j1 q1 x hx=>?_⟩ ?_ oM
   ·rw [j0 t (λ h=>by rw [(hd t h).2.1] at hv;cases hv)];exact f0.get t v hv
   ·by_cases k0:j=i
    ·subst k0;rw [r1] at u0;unfold upV;rw [Nat.beq_refl];exact j2.get d _ (hv d u0)
    ·rw [eE k0] at q1
     have x1:o.dst≠some d:=by
      intro m1;rcases Nat.lt_or_ge j i with h|h
      ·exact (hd d m1).2.2 j h u0
      ·obtain ⟨oj,j1,f3,_⟩:=(hh j hj).ex;have:mB l j=oj.dst:=by simp [mB,j1]
       rw [this] at u0;exact (f3 d u0).2.2 i oM (by rw [r1];exact m1)
     rw [j0 d x1]
     have e2:Nat.beq j i=false:=by
      cases hb:Nat.beq j i with
      | false=>rfl
      | true=>exact absurd (Nat.eq_of_beq_eq_true hb) k0
     unfold upV;rw [e2];exact f0.did j hj q1 d u0
   ·rw [eE oM];exact f0.rest j hj
   ·by_cases t0:x=i
    ·subst t0;have w1:x<a0.size:=by rw [f0.size];exact (List.getElem?_eq_some_iff.1 ho).1
     simp [Array.getD_eq_getD_getElem?,w1]
    ·rw [eE t0];by_cases k0:j=i
     ·subst k0;rw [ho] at j1;cases j1;exact q2 x hx
     ·rw [eE k0] at q1;exact f0.closed j oj j1 q1 x hx
   ·have q0:∀ (L:List Nat),L.Nodup→i∈L→(L.filter λ j=>!((a0.setIfInBounds i true).getD j false)).length+1=(L.filter λ j=>!(a0.getD j false)).length:=by
     intro L
     induction L with
     | nil=>intro _ h;cases h
     | cons x xs ihx =>
      intro y1 z1;rw [List.nodup_cons] at y1;have w1:i<a0.size:=by rw [f0.size];exact (List.getElem?_eq_some_iff.1 ho).1
      by_cases t0:x=i
      ·subst t0
       have g1:(xs.filter λ j=>!((a0.setIfInBounds x true).getD j false))=xs.filter λ j=>!(a0.getD j false):=by
        apply List.filter_congr;intro y hy;rw [eE (λ (h:y=x)=>y1.1 (by rw [← h];exact hy))]
       have h1:(a0.setIfInBounds x true).getD x false=true:=by simp [Array.getD_eq_getD_getElem?,w1]
       rw [List.filter_cons_of_neg (by simp [h1]),g1,List.filter_cons_of_pos (by simp [w2])];simp
      ·have o1:i∈xs:=by
        rcases List.mem_cons.1 z1 with h|h
        ·exact absurd h.symm t0
        ·exact h
       have:=ihx y1.2 o1;have x0:(a0.setIfInBounds i true).getD x false=a0.getD x false:=eE t0
       cases hc:a0.getD x false with
       | true=>rw [List.filter_cons_of_neg (by simp [x0,hc]),List.filter_cons_of_neg (by simp [hc])];exact this
       | false=>rw [List.filter_cons_of_pos (by simp [x0,hc]),List.filter_cons_of_pos (by simp [hc])];simp only [List.length_cons];omega
    have:=q0 (List.range N) List.nodup_range (List.mem_range.2 o0);omega
  unfold wpListIn at i0;split
  ·rename_i hw;rw [if_pos hw] at i0
   exact (Oper.wpIn_mono (λ a' w' hh=>m0 a' w' hh.1 hh.2) (wp_swap (wp_frame i0) (λ x a w hx hq=>by
     refine (lift_no hq λ e0 w0 hq=>?_).elim
     cases x<;>first|exact absurd rfl hx|exact hq)))
  ·rename_i hw;rw [if_neg hw] at i0;exact ⟨i0.1,m0 _ _ i0.2 ⟨undef,by cases o.dst<;>rfl⟩⟩
theorem T.inv {g0:Nat} {w0:World} (N:Nat) (J:(Nat→Bool)→(Nat→Value)→World→Prop) [hm:Mixed P] (hc:(headDet l e n 0 N&&mV l N N (l.length-N)&&Nat.ble N l.length&&sinkDet l N)=true) (h0:∀ w,Grow w0 w→J (λ _=>false) (λ _=>undef) w)
  (i0:AllInv P n l e J 0 N) (a0:∀ dn vs w,J dn vs w→(∀ i,i<N→dn i=true)→TL P n l.toArray (l.drop N) (mO l vs (mY 0 N) e) w Q):T P n (.region g0 l.toArray true) e w0 Q:=by
 simp only [Bool.and_eq_true] at hc;obtain ⟨⟨⟨k0,j0⟩,f0⟩,e0⟩:=hc;refine T.mk λ a ha=>wpIn_region_any hm.h ?_
 refine inv_runs (N:=N) (Nat.le_of_ble_eq_true f0) (λ i hi=>headDet_at k0 i (Nat.zero_le _) oM) (λ o ho i hi=>?_) (λ j h1 h2=>lM j0 j h1 oM) (λ i hi=>allInv_at i0 i (Nat.zero_le _) oM) a0
  N (Array.replicate l.toArray.size false) a _ (λ _=>undef) _ ⟨sM,(by
   have e1:(λ i=>(Array.replicate l.toArray.size false).getD i false)=λ _=>false:=by
    funext i
    rw [Array.getD_eq_getD_getElem?];rcases Nat.lt_or_ge i l.length with hi|hi
    ·simp [hi]
    ·simp [hi]
   rw [e1];exact h0 _ (Grow.drew _)),ha.defers,ha.size,ha.get,λ i _ h=>?_,λ i _=>?_,λ j o _ h x _=>?_⟩ ?_ ?_
 ·unfold sinkDet at e0;rw [ho] at e0;exact any_beq.1 (List.all_eq_true.1 e0 i (fC.2 ⟨Nat.zero_le _,oM⟩))
 ·exfalso;rw [Array.getD_eq_getD_getElem?] at h;rcases Nat.lt_or_ge i l.length with hi|hi
  ·simp [hi] at h
  ·simp [hi] at h
 ·rw [Array.getD_eq_getD_getElem?];rcases Nat.lt_or_ge i l.length with hi|hi
  ·simp [hi]
  ·simp [hi]
 ·exfalso;rw [Array.getD_eq_getD_getElem?] at h;rcases Nat.lt_or_ge j l.length with hi|hi
  ·simp [hi] at h
  ·simp [hi] at h
 ·have:((List.range N).filter λ i=>!((Array.replicate l.toArray.size false).getD i false))=List.range N:=by
   rw [List.filter_eq_self];intro i hi;rw [Array.getD_eq_getD_getElem?];rcases Nat.lt_or_ge i l.length with hi|hi
   ·simp [hi]
   ·simp [hi]
  rw [this];simp
 ·have:=Nat.le_of_ble_eq_true f0;simp;omega
end
end Go.V
namespace Go.Proofs.YtfpadnmdafiddaaGreatDoor
theorem Vt.leaf {s:Pg} {h:Nat} {nd:Nd} {l:bT} {ps:List Nat} (hv:Vt s h nd l ps):bN nd=true↔h=0:=by
 cases h with
 | zero=>obtain ⟨rfl,_⟩:=hv;simp [bN]
 | succ h =>
  obtain ⟨ls,e1,e2,e3,_⟩:=hv;rw [bL,e2]
  cases ls with
  | nil=>cases e3
  | cons _ _=>simp
theorem node_le {s:Pg} {n:Nat} {nd:Nd} (h:cD s n=some nd):aT nd≤8:=by
 have a0:=fB h;unfold bF at a0;split at a0
 ·rename_i hl;obtain ⟨_,h8,_⟩:=dG a0;rw [bL] at hl;simp [aT,hl];omega
 ·obtain ⟨h1,_,w8,_⟩:=cO a0;simp [aT,h1];omega
end Go.Proofs.YtfpadnmdafiddaaGreatDoor
namespace Go.V
theorem upV_self (vs:Nat→Value) (i:Nat) (v:Value):upV vs i v i=v:=by unfold upV;rw [Nat.beq_refl];rfl
theorem beq_ne {i j:Nat} (h:j≠i):Nat.beq j i=false:=by
 cases hb:Nat.beq j i with
 | false=>rfl
 | true=>exact absurd (Nat.eq_of_beq_eq_true hb) h
theorem upB_ne {dn:Nat→Bool} {i j:Nat} (h:j≠i):upB dn i j=dn j:=by unfold upB;rw [beq_ne h];rfl
theorem upV_ne {vs:Nat→Value} {i j:Nat} {v:Value} (h:j≠i):upV vs i v j=vs j:=by unfold upV;rw [beq_ne h];rfl
end Go.V
namespace Go.Proofs.YtfpadnmdafiddaaGreatDoor
open Go Go.RowKit Go.V
def repC (s y x:NV) (b5 i:Nat) (kv:Value):Nat→Value
 | 0=>.agg #[.slice s.a1 s.n1 s.c1,.slice s.a2 s.n2 s.c2,.slice s.a3 s.n3 s.c3]
 | 1=>.agg #[.slice y.a1 y.n1 y.c1,.slice y.a2 y.n2 y.c2,.slice y.a3 y.n3 y.c3]
 | 2=>.pointer (some ⟨b5,2,none⟩)
 | 3=>.slice x.a3 x.n3 x.c3
 | 4=>.int .i64 ((i-1:Nat):Int)
 | 5=>.pointer (some (at' x.a3 ((i-1)*1)))
 | _=>kv
structure RepJ (G:Nat→Prop) (w w5:World) (s y x:NV) (b5 b7 b8 b12 i:Nat) (kv:Value) (dn:Nat→Bool) (vs:Nat→Value) (w1:World):Prop where
 ic:Carry G w5 G w1
 i12:Blk w1 b12 79 s.cs
 i7:Blk w1 b7 79 y.cs
 i5:Blk w1 b5 79 x.cs
 i8:Blk w1 b8 79 nil3
 ig:Grow w w1
 iv:∀ j,j<7→dn j=true→vs j=repC s y x b5 i kv j
 i77:dn 7=true→∃ b,vs 7=.pointer (some ⟨b,0,none⟩)∧w5.heap.size≤b∧b<w1.heap.size∧Blk w1 b 79 (if dn 9 then s.cs else nil3)
 i88:dn 8=true→∃ b,vs 8=.pointer (some ⟨b,0,none⟩)∧w5.heap.size≤b∧b<w1.heap.size∧Blk w1 b 79 (if dn 10 then y.cs else nil3)
 ine:dn 7=true→dn 8=true→vs 7≠vs 8
 d9:dn 9=true→dn 7=true
 d10:dn 10=true→dn 8=true
theorem RepJ.plain {G:Nat→Prop} {w w5:World} {s y x:NV} {b5 b7 b8 e0 i:Nat} {kv:Value} {dn:Nat→Bool} {vs:Nat→Value} {w1:World} (h:RepJ G w w5 s y x b5 b7 b8 e0 i kv dn vs w1) (j:Nat) (hj:j<7) {v:Value} (hv:v=repC s y x b5 i kv j) :
  RepJ G w w5 s y x b5 b7 b8 e0 i kv (upB dn j) (upV vs j v) w1:=by
 have u:∀ m,7≤m→upB dn j m=dn m:=λ m hm=>upB_ne oM;have uv:∀ m,7≤m→upV vs j v m=vs m:=λ m hm=>upV_ne oM;refine ⟨h.ic,h.i12,h.i7,h.i5,h.i8,h.ig,λ m hm hd=>?_,?_,?_,?_,?_,?_⟩
 ·by_cases a0:m=j
  ·subst a0;rw [upV_self];exact hv
  ·rw [upV_ne a0];rw [upB_ne a0] at hd;exact h.iv m hm hd
 ·rw [u 7 oM,uv 7 oM,u 9 oM];exact h.i77
 ·rw [u 8 oM,uv 8 oM,u 10 oM];exact h.i88
 ·rw [u 7 oM,uv 7 oM,u 8 oM,uv 8 oM];exact h.ine
 ·rw [u 7 oM,u 9 oM];exact h.d9
 ·rw [u 8 oM,u 10 oM];exact h.d10
end Go.Proofs.YtfpadnmdafiddaaGreatDoor
namespace Go.V
open Go Go.RowKit
theorem aY [Rn] {P:Program} {n:Nat} {l:List Oper} {e:dI} {I:World→Prop} {vs:List Value} {i:Nat} {o:Oper} {v:Value} {e':dI} (ho:l[i]? = some o) (hv:vs.getD i undef=v) (he:iY l vs (lC (bH o)) e=e')
  (h:∀ w,I w→TL P n l.toArray [o] e' w (detQ o.dst v I)):Det P n l e I vs i:=by
 unfold Det;rw [ho];simp only;intro w hw;subst he;rw [hv];exact h w hw
end Go.V
namespace Go.Proofs.YtfpadnmdafiddaaGreatDoor
open Go Go.RowKit Go.V
instance:MapTy Tryz.prog 224 3 228:=⟨kR⟩
abbrev PtC (t:Part) (x:NV) (lo hi:Value):List Value:=[.slice x.a1 x.n1 x.c1,.slice x.a2 x.n2 x.c2,.slice x.a3 x.n3 x.c3,.int .i64 (t.levels:Int),lo,hi]
abbrev PtV (t:Part) (x:NV) (lo hi:Value):Value:=.agg #[.slice x.a1 x.n1 x.c1,.slice x.a2 x.n2 x.c2,.slice x.a3 x.n3 x.c3,.int .i64 (t.levels:Int),lo,hi]
structure PtAt (G:Nat→Prop) (w:World) (t:Part) (x:NV) (lo hi:Value):Prop where
 nd:NdAt G w x t.node
 lo:BsAt G w lo t.low
 hi:BsAt G w hi t.high
 ok:bF t.node=true
theorem PtAt.go {F F':Nat→Prop} {w w':World} {t:Part} {x:NV} {lo hi:Value} (h:PtAt F w t x lo hi) (g:Carry F w F' w'):PtAt F' w' t x lo hi:=⟨h.nd.go g,h.lo.go g,h.hi.go g,h.ok⟩
def MemAt (G:Nat→Prop) (w:World) (m:Nat) (M:fS):Prop:=∃ f,MapF w m f∧(∀ n,gM M n=none→f n=none)∧∀ n t,gM M n=some t→∃ x lo hi,f n=some (PtV t x lo hi)∧PtAt G w t x lo hi
theorem MemAt.go {F F':Nat→Prop} {w w':World} {m:Nat} {M:fS} (h:MemAt F w m M) (g:Carry F w F' w') (hm:w'.heap[m]? = w.heap[m]?):MemAt F' w' m M:=by
 obtain ⟨f,h1,h2,h3⟩:=h;refine ⟨f,h1.keep hm,h2,λ n t ht=>?_⟩;obtain ⟨x,lo,hi,e,hp⟩:=h3 n t ht;exact ⟨x,lo,hi,e,hp.go g⟩
theorem MemAt.lt {F:Nat→Prop} {w:World} {m:Nat} {M:fS} (h:MemAt F w m M):m<w.heap.size:=by
 obtain ⟨f,h1,_⟩:=h;exact h1.lt
theorem getM_cons (n k:Nat) (t:Part) (M:fS):gM ((n,t)::M) k=if k=n then some t else gM M k:=by
 unfold gM;rw [List.find?_cons];by_cases h:k=n
 ·subst h;simp
 ·rw [if_neg h];have:(n==k)=false:=by simp;omega
  simp [this]
def PartC (L:PL) (g:Pg) (b m f:Nat):Prop:=∀ (w:World) (G:Nat→Prop) (M M':fS) (n:Nat) (t:Part),PgAt w L g→Blk w b 226 [.pointer (some ⟨L.p,0,none⟩),.map (some m)]→MemAt G w m M→(∀ k,G k→k≠m)→(∀ k,w.heap.size≤k→G k)→n<4294967296 →
 kZ g f n M=some (t,M')→Calls Tryz.prog 156 #[.pointer (some ⟨b,0,none⟩),.int .i64 (n:Int),.int .i64 ((17-f:Nat):Int)] w (Ret λ v w'=>(∃ x lo hi,v=.tuple #[PtV t x lo hi,.int .i64 0]∧PtAt G w' t x lo hi)∧MemAt G w' m M'∧ButS (λ k=>k=m) w w')
def BranchC (L:PL) (g:Pg) (b m f:Nat):Prop:=∀ (w:World) (G:Nat→Prop) (M M':fS) (x:NV) (nd:Nd) (t:Part),PgAt w L g→Blk w b 226 [.pointer (some ⟨L.p,0,none⟩),.map (some m)]→MemAt G w m M→(∀ k,G k→k≠m)→(∀ k,w.heap.size≤k→G k)→NdAt G w x nd→bF nd=true→bN nd=false →
 lY (kZ g f) nd nd.kids 0 ⟨nd,0,[],[]⟩ M=some (t,M')→Calls Tryz.prog 196 #[.pointer (some ⟨b,0,none⟩),x.val,.int .i64 ((16-f:Nat):Int)] w (Ret λ v w'=>(∃ x lo hi,v=.tuple #[PtV t x lo hi,.int .i64 0]∧PtAt G w' t x lo hi)∧MemAt G w' m M'∧ButS (λ k=>k=m) w w')
theorem partP_hit {s:Pg} {f n:Nat} {M:fS} {t:Part} (h:gM M n=some t):kZ s f n M=some (t,M):=by
 unfold kZ;rw [h]
theorem partP_new {s:Pg} {f n:Nat} {M M':fS} {t:Part} (h0:gM M n=none) (h:kZ s f n M=some (t,M')):∃ f' nd,f=f'+1∧cD s n=some nd ∧
  ((bN nd=true∧t=fF nd∧M'=(n,fF nd)::M)∨(bN nd=false∧∃ M1,lY (kZ s f') nd nd.kids 0 ⟨nd,0,[],[]⟩ M=some (t,M1)∧M'=(n,t)::M1)):=by
 unfold kZ at h;rw [h0] at h;simp only at h
 cases f with
 | zero=>cases h
 | succ f =>
  simp only at h;split at h
  ·cases h
  ·rename_i nd hn;refine ⟨f,nd,rfl,hn,?_⟩;split at h
   ·rename_i hl;simp only [Option.some.injEq,Prod.mk.injEq] at h;exact .inl ⟨hl,h.1.symm,h.2.symm⟩
   ·rename_i hl;split at h
    ·cases h
    ·rename_i t' m1 e;simp only [Option.some.injEq,Prod.mk.injEq] at h;obtain ⟨rfl,rfl⟩:=h;exact .inr ⟨by simpa using hl,m1,e,rfl⟩
theorem part_of {L:PL} {g:Pg} {b m f:Nat} (hf:f≤16) (n5:b≠m∧m≠L.p∧m≠L.d∧m≠L.u∧m≠L.m) (hB:∀ f',f=f'+1→BranchC L g b m f'):PartC L g b m f:=by
 intro w G M M' n t h s3 hM o4 n4 hn x2;obtain ⟨fm,p3,f5,d5⟩:=id hM;have c4:=p3.lt;have r6:=s3.lt;have g5:=h.lts;refine V.calls (args:=[_,_,_]) Tryz.func156 rfl Tryz.ntmps156 rfl rfl ?_
 refine dU 7 (λ e W=>∃ (b6 h0:Nat) (x:NV) (lo hi:Value) (G1:Nat→Prop) (M1:fS),Sub [(12,.pointer (some ⟨h0,0,none⟩)),(6,.pointer (some ⟨b6,0,none⟩)),(1,.int .i64 (n:Int)),(0,.pointer (some ⟨b,0,none⟩))] e ∧
  (∀ k,G1 k↔G k∧k≠b6)∧MemAt G1 W m M1∧M'=(n,t)::M1∧PtAt G1 W t x lo hi∧lo.oneCell'=true∧hi.oneCell'=true∧Blk W h0 228 (PtC t x lo hi)∧Blk W b6 228 [.slice none 0 0,.slice none 0 0,.slice none 0 0,.int .i64 0,.slice none 0 0,.slice none 0 0]∧ButS (λ k=>k=m) w W∧w.heap.size≤b6∧w.heap.size≤h0∧b6≠h0) ?_ ?_
 rotate_left
 ·cases hg0:gM M n with
  | some t0 =>
   rw [partP_hit hg0] at x2;simp only [Option.some.injEq,Prod.mk.injEq] at x2;obtain ⟨rfl,rfl⟩:=x2;obtain ⟨x,lo,hi,l5,s0⟩:=d5 n t0 hg0;obtain ⟨la,lc,rfl,d4⟩:=s0.lo.sl;obtain ⟨ha,hc,rfl,f4⟩:=s0.hi.sl;repeat (first|(refine mR ?_;refine TL.lookupYes rfl rfl (p3.grow hg) l5 oM rfl ?_)|refine yC ?_|refine yI λ bk w' hg i0 n0 f1=>?_|refine yJ λ w' hu i0 n0=>?_)
   rename_i b6 w1 g1 k1 p1 s4 w2 k2 p2 w3 u3 k3 z3;have q1:Grow w w':=aH hu oM (aH u3 oM (g1.trans hg));exact fL rfl (aW i0 rfl) rfl ⟨_,rfl,⟨x,_,_,rfl,s0.go (Carry.grow q1)⟩,hM.go (Carry.grow q1) (q1.block m c4),ButS.grow q1⟩
  | none =>
   obtain ⟨f',nd,rfl,z1,z4⟩:=partP_new hg0 x2;rw [show 17-(f'+1)=16-f' by omega];have hu:=dL z1;have a5:=dV hu;have o6:=h.cnt;have y2:=fB z1;have y4:fX (g.body n)=some nd:=by unfold cD at z1;rw [if_pos hu] at z1;exact z1
   repeat (first|(refine mR ?_;refine TL.lookupNo rfl rfl (p3.grow hg) (f5 n hg0) oM rfl ?_)|refine yC ?_|refine yI λ bk w' hg i0 n0 f1=>?_|refine yJ λ w' hu i0 n0=>?_)
   rename_i b6 w1 g1 k1 p1 s4 w2 k2 p2;have q1:Grow w w':=aH hu oM (g1.trans hg);have e6:Blk w' b6 228 [.slice none 0 0,.slice none 0 0,.slice none 0 0,.int .i64 0,.slice none 0 0,.slice none 0 0]:=(k1.grow hg).upd hu oM;have q6:w.heap.size=b6∧b6<w'.heap.size:=by have:=hu.size;omega
   clear i0 hu hg g1 k1 k2;obtain ⟨w0,rfl⟩:=yE w';refine aB 127 ?_;refine aA rfl (node_c (h.grow q1) n oM (dL z1)) rfl ?_;rintro _ w3 ⟨hv,d3⟩;rw [y4] at hv;obtain ⟨x,rfl,b4⟩:=hv;have z3:=d3.size;obtain ⟨G1,v0⟩:∃ G1:Nat→Prop,∀ k,G1 k↔G k∧k≠b6:=⟨_,λ _=>Iff.rfl⟩
   have j0:NdAt G1 w3 x nd:=b4.go (Carry.mono λ k hk _=>(v0 k).2 ⟨n4 k oM,oM⟩);have p0:=q1.trans d3;have m1:MemAt G1 w3 m M:=hM.go ((Carry.mono (λ k hk hl=>(v0 k).2 ⟨hk,oM⟩)).trans (Carry.grow p0)) (p0.block m c4);have f6:=e6.grow d3;have fw:=s3.grow p0;obtain ⟨t4,x5,v5⟩:=j0.nums;clear b4 e6 d3 q1;obtain ⟨z0,rfl⟩:=yE w3;rcases z4 with ⟨hl,rfl,rfl⟩|⟨hl,M1,h5,rfl⟩
   ·have s1:=y2;unfold bF at s1;rw [if_pos hl] at s1;obtain ⟨_,h6,_⟩:=dG s1;by_cases x1:nd.items.length=0
    ·repeat (first|refine aF ?_|refine yI λ bk w' hg i0 n0 f1=>?_|refine yJ λ w' hu i0 n0=>?_|(refine aB 80 ?_;refine aA rfl (eX j0 hl _) rfl ?_;rintro _ _ ⟨rfl,k0⟩))
     rename_i m0 w4 g4 k4 p4 x3 w5 u5 k5 z5 w6 k6 p6 w7;obtain ⟨h0,rfl⟩:=yE bk;have l0:Grow w w7:=(aH hu oM ((aH u5 oM (p0.trans g4)).trans hg)).trans k0;have c7:Grow z0 w7:=(aH hu oM ((aH u5 oM g4).trans hg)).trans k0;have z7:=c7.size;have g3:z0.heap.size=m0∧h0=m0+1∧h0<w7.heap.size:=by have:=k0.size;have:=hu.size;omega
     have f2:Blk w7 m0 79 x.cs:=((Blk.grow hg k5).upd hu oM).grow k0;have u0:Blk w7 h0 228 [.slice x.a1 x.n1 x.c1,.slice x.a2 x.n2 x.c2,.slice x.a3 x.n3 x.c3,.int .i64 1,.slice none 0 0,.slice none 0 0]:=Blk.grow k0 i0;have r1:=f6.grow c7;have f3:=fw.grow c7;obtain ⟨G2,q0⟩:∃ G2:Nat→Prop,∀ k,G2 k↔G1 k∧k≠h0:=⟨_,λ _=>Iff.rfl⟩
     have cg:Carry G1 z0 G2 w7:=(Carry.mono (λ k hk hl=>(q0 k).2 ⟨hk,oM⟩)).trans (Carry.grow c7);have o0:=j0.go cg;have u2:=m1.go cg (c7.block m (by have:=m1.lt;omega));have g2:∀ wz:World,Carry G2 wz G1 wz:=λ wz=>Carry.mono λ k hk _=>((q0 k).1 hk).1;clear i0 hu hg k0 g4 u5 k4 k5 k6 f6 fw c7 cg j0 m1;have e0:nd.items=[]:=List.eq_nil_of_length_eq_zero x1;have j4:BsAt G1 w7 (.slice none 0 0) []:=⟨_,_,_,rfl,by simp [bB],Nat.le_refl _,Nat.zero_le _,λ _=>rfl,by simp [Row,bB]⟩
     exact ⟨b6,h0,x,.slice none 0 0,.slice none 0 0,G1,M,⟨rfl,rfl,rfl,rfl,trivial⟩,v0,u2.go (g2 _) rfl,rfl,⟨o0.go (g2 _),(by simp only [fF,e0];exact j4),(by simp only [fF,e0];exact j4),y2⟩,rfl,rfl,u0,r1,ButS.grow l0,oM,oM,oM⟩
    ·repeat (first|refine aF ?_|refine yI λ bk w' hg i0 n0 f1=>?_|refine yJ λ w' hu i0 n0=>?_|(refine aB 80 ?_;refine aA rfl (eX j0 hl _) rfl ?_;rintro _ _ ⟨rfl,k0⟩))
     rename_i m0 w4 g4 k4 p4 x3 w5 u5 k5 z5 w6 k6 p6 w7;obtain ⟨h0,rfl⟩:=yE bk;have l0:Grow w w7:=(aH hu oM ((aH u5 oM (p0.trans g4)).trans hg)).trans k0;have c7:Grow z0 w7:=(aH hu oM ((aH u5 oM g4).trans hg)).trans k0;have z7:=c7.size;have g3:z0.heap.size=m0∧h0=m0+1∧h0<w7.heap.size:=by have:=k0.size;have:=hu.size;omega
     have f2:Blk w7 m0 79 x.cs:=((Blk.grow hg k5).upd hu oM).grow k0;have u0:Blk w7 h0 228 [.slice x.a1 x.n1 x.c1,.slice x.a2 x.n2 x.c2,.slice x.a3 x.n3 x.c3,.int .i64 1,.slice none 0 0,.slice none 0 0]:=Blk.grow k0 i0;have r1:=f6.grow c7;have f3:=fw.grow c7;obtain ⟨G2,q0⟩:∃ G2:Nat→Prop,∀ k,G2 k↔G1 k∧k≠h0:=⟨_,λ _=>Iff.rfl⟩
     have cg:Carry G1 z0 G2 w7:=(Carry.mono (λ k hk hl=>(q0 k).2 ⟨hk,oM⟩)).trans (Carry.grow c7);have o0:=j0.go cg;have u2:=m1.go cg (c7.block m (by have:=m1.lt;omega));have g2:∀ wz:World,Carry G2 wz G1 wz:=λ wz=>Carry.mono λ k hk _=>((q0 k).1 hk).1;clear i0 hu hg k0 g4 u5 k4 k5 k6 f6 fw c7 cg j0 m1;obtain ⟨y0,y3⟩:∃ y,nd.items[0]? = some y:=⟨_,List.getElem?_eq_getElem oM⟩
     obtain ⟨y1,m3⟩:∃ y,nd.items[x.n1-1]? = some y:=⟨_,List.getElem?_eq_getElem oM⟩
     obtain ⟨cs,d2,h4⟩:=o0.its.ex;obtain ⟨c6,t5,a0,a1,m4,_⟩:=h4.at' y3;obtain ⟨a6,s5,b0,b1,l4,_⟩:=h4.at' m3;obtain ⟨j2,h2,rfl,_⟩:=m4.sl;obtain ⟨i3,h3,rfl,_⟩:=l4.sl;rw [Nat.mul_comm] at b0
     apply T.detA 16 15 [.pointer (some ⟨m0,0,none⟩),.slice x.a1 x.n1 x.c1,.pointer (some (at' x.a1 0)),.pointer (some (at' x.a1 0)),(.slice j2 y0.1.length h2),.pointer (some ⟨m0,0,none⟩),.slice x.a1 x.n1 x.c1,.pointer (some ⟨m0,0,none⟩),.slice x.a1 x.n1 x.c1,.int .i64 (x.n1:Int),.int .i64 ((x.n1-1:Nat):Int),.pointer (some (at' x.a1 ((x.n1-1)*2))),.pointer (some (at' x.a1 ((x.n1-1)*2))),(.slice i3 y1.1.length h3),.pointer (some ⟨h0,4,none⟩),undef]
      (λ q w1=>Blk w1 m0 79 x.cs∧Blk w1 h0 228 [.slice x.a1 x.n1 x.c1,.slice x.a2 x.n2 x.c2,.slice x.a3 x.n3 x.c3,.int .i64 1,(if q then (.slice j2 y0.1.length h2) else .slice none 0 0),.slice none 0 0]∧Blk w1 b6 228 [.slice none 0 0,.slice none 0 0,.slice none 0 0,.int .i64 0,.slice none 0 0,.slice none 0 0]∧Carry G2 w7 G2 w1∧Grow w w1∧w1.heap[m]? = w7.heap[m]?)
     ·rfl
     ·exact λ w1 h1=>⟨f2.grow h1,u0.grow h1,r1.grow h1,Carry.grow h1,l0.trans h1,h1.block m oM⟩
     ·clear f2 u0 r1;repeat' (first|exact gH|refine fU ?_ ?_)
      ·refine aV rfl rfl rfl ?_;rintro q wq _ ⟨g0,f0,i6,ic,ig,im⟩;repeat refine aF ?_
       refine aG rfl ?_;rw [show (q || Nat.beq 0 15)=q from Bool.or_false q];exact ⟨g0,f0,i6,ic,ig,im⟩
      ·refine aV rfl rfl rfl ?_;rintro q wq _ ⟨g0,f0,i6,ic,ig,im⟩;repeat refine aF ?_
       refine aG rfl ?_;rw [show (q || Nat.beq 1 15)=q from Bool.or_false q];exact ⟨g0,f0,i6,ic,ig,im⟩
      ·refine aV rfl rfl rfl ?_;rintro q wq _ ⟨g0,f0,i6,ic,ig,im⟩;repeat (first|(refine aI ?_;refine aC (j:=0) rfl rfl rfl oM rfl ⟨_,_,d2.go ic⟩ rfl ?_)|refine yC ?_)
       refine aG rfl ?_;rw [show (q || Nat.beq 2 15)=q from Bool.or_false q];exact ⟨g0,f0,i6,ic,ig,im⟩
      ·refine aV rfl rfl rfl ?_;rintro q wq _ ⟨g0,f0,i6,ic,ig,im⟩;repeat (first|(refine bM ?_;refine bJ (o:=0) rfl (d2.go ic) a0 rfl ?_)|refine yC ?_)
       refine aG rfl ?_;rw [show (q || Nat.beq 3 15)=q from Bool.or_false q];exact ⟨g0,f0,i6,ic,ig,im⟩
      ·refine aV rfl rfl rfl ?_;rintro q wq _ ⟨g0,f0,i6,ic,ig,im⟩;have m5:wq.cell? (at' x.a1 0)=some (.slice j2 y0.1.length h2):=(d2.go ic).row.cell a0;repeat refine aF ?_
       refine aG rfl ?_;rw [show (q || Nat.beq 4 15)=q from Bool.or_false q];exact ⟨g0,f0,i6,ic,ig,im⟩
      ·refine aV rfl rfl rfl ?_;rintro q wq _ ⟨g0,f0,i6,ic,ig,im⟩;repeat refine aF ?_
       refine aG rfl ?_;rw [show (q || Nat.beq 5 15)=q from Bool.or_false q];exact ⟨g0,f0,i6,ic,ig,im⟩
      ·refine aV rfl rfl rfl ?_;rintro q wq _ ⟨g0,f0,i6,ic,ig,im⟩;repeat refine aF ?_
       refine aG rfl ?_;rw [show (q || Nat.beq 6 15)=q from Bool.or_false q];exact ⟨g0,f0,i6,ic,ig,im⟩
      ·refine aV rfl rfl rfl ?_;rintro q wq _ ⟨g0,f0,i6,ic,ig,im⟩;repeat refine aF ?_
       refine aG rfl ?_;rw [show (q || Nat.beq 7 15)=q from Bool.or_false q];exact ⟨g0,f0,i6,ic,ig,im⟩
      ·refine aV rfl rfl rfl ?_;rintro q wq _ ⟨g0,f0,i6,ic,ig,im⟩;repeat refine aF ?_
       refine aG rfl ?_;rw [show (q || Nat.beq 8 15)=q from Bool.or_false q];exact ⟨g0,f0,i6,ic,ig,im⟩
      ·refine aV rfl rfl rfl ?_;rintro q wq _ ⟨g0,f0,i6,ic,ig,im⟩;repeat refine aF ?_
       refine aG rfl ?_;rw [show (q || Nat.beq 9 15)=q from Bool.or_false q];exact ⟨g0,f0,i6,ic,ig,im⟩
      ·refine aV rfl rfl rfl ?_;rintro q wq _ ⟨g0,f0,i6,ic,ig,im⟩;repeat refine aF ?_
       refine aG rfl ?_;rw [show (q || Nat.beq 10 15)=q from Bool.or_false q];exact ⟨g0,f0,i6,ic,ig,im⟩
      ·refine aV rfl rfl rfl ?_;rintro q wq _ ⟨g0,f0,i6,ic,ig,im⟩;repeat (first|(refine aI ?_;refine aC (j:=x.n1-1) rfl rfl rfl oM rfl ⟨_,_,d2.go ic⟩ rfl ?_)|refine yC ?_)
       refine aG rfl ?_;rw [show (q || Nat.beq 11 15)=q from Bool.or_false q];exact ⟨g0,f0,i6,ic,ig,im⟩
      ·refine aV rfl rfl rfl ?_;rintro q wq _ ⟨g0,f0,i6,ic,ig,im⟩;repeat (first|(refine bM ?_;refine bJ (o:=(x.n1-1)*2) rfl (d2.go ic) b0 rfl ?_)|refine yC ?_)
       refine aG rfl ?_;rw [show (q || Nat.beq 12 15)=q from Bool.or_false q];exact ⟨g0,f0,i6,ic,ig,im⟩
      ·refine aV rfl rfl rfl ?_;rintro q wq _ ⟨g0,f0,i6,ic,ig,im⟩;have m5:wq.cell? (at' x.a1 ((x.n1-1)*2))=some (.slice i3 y1.1.length h3):=(d2.go ic).row.cell b0;repeat refine aF ?_
       refine aG rfl ?_;rw [show (q || Nat.beq 13 15)=q from Bool.or_false q];exact ⟨g0,f0,i6,ic,ig,im⟩
      ·refine aV rfl rfl rfl ?_;rintro q wq _ ⟨g0,f0,i6,ic,ig,im⟩;repeat refine aF ?_
       refine aG rfl ?_;rw [show (q || Nat.beq 14 15)=q from Bool.or_false q];exact ⟨g0,f0,i6,ic,ig,im⟩
      ·refine aV rfl rfl rfl ?_;rintro q wq hb ⟨g0,f0,i6,ic,ig,im⟩;obtain rfl:=hb rfl;have j3:Blk wq h0 228 [.slice x.a1 x.n1 x.c1,.slice x.a2 x.n2 x.c2,.slice x.a3 x.n3 x.c3,.int .i64 1,.slice none 0 0,.slice none 0 0]:=f0;clear f0;repeat (first|refine aF ?_|refine yJ λ w' hu i0 n0=>?_)
       exact gS ⟨g0.upd hu oM,i0,i6.upd hu oM,ic.trans (Carry.upd hu (λ k hk _=>((q0 k).1 hk).2)),aH hu oM ig,(hu.block m oM).trans im⟩
     ·rintro w8 ⟨g0,f0,i6,ic,ig,im⟩;have j3:Blk w8 h0 228 [.slice x.a1 x.n1 x.c1,.slice x.a2 x.n2 x.c2,.slice x.a3 x.n3 x.c3,.int .i64 1,(.slice j2 y0.1.length h2),.slice none 0 0]:=f0;have z8:=ic.size;clear f0 u0 f2 r1;repeat (first|refine aF ?_|refine yJ λ w' hu i0 n0=>?_)
      have cz:Carry G2 w7 G1 w':=(ic.trans (Carry.upd hu (λ k hk _=>((q0 k).1 hk).2))).trans (g2 _);refine ⟨b6,h0,x,(.slice j2 y0.1.length h2),(.slice i3 y1.1.length h3),G1,M,⟨rfl,rfl,rfl,rfl,trivial⟩,v0,u2.go cz ((hu.block m oM).trans im),rfl,⟨o0.go cz,?_,?_,y2⟩,rfl,rfl,i0,i6.upd hu oM,ButS.grow (aH hu oM ig),oM,oM,oM⟩
      ·have:=m4.go cz;simp only [fF,List.getD_eq_getElem?_getD,y3];exact this
      ·have:=l4.go cz;rw [t4] at m3;simp only [fF,List.getD_eq_getElem?_getD,m3];exact this
   ·repeat (first|refine aF ?_|refine yI λ bk w' hg i0 n0 f1=>?_|refine yJ λ w' hu i0 n0=>?_|(refine aB 80 ?_;refine aA rfl (eX j0 hl _) rfl ?_;rintro _ _ ⟨rfl,k0⟩))
    rename_i m0 w4 g4 k4 p4 x3 w5 u5 k5 z5 w6 k6 p6 w7;obtain ⟨h0,rfl⟩:=yE bk;have l0:Grow w w7:=(aH hu oM ((aH u5 oM (p0.trans g4)).trans hg)).trans k0;have c7:Grow z0 w7:=(aH hu oM ((aH u5 oM g4).trans hg)).trans k0;have z7:=c7.size;have g3:z0.heap.size=m0∧h0=m0+1∧h0<w7.heap.size:=by have:=k0.size;have:=hu.size;omega
    have f2:Blk w7 m0 79 x.cs:=((Blk.grow hg k5).upd hu oM).grow k0;have u0:Blk w7 h0 228 [.slice x.a1 x.n1 x.c1,.slice x.a2 x.n2 x.c2,.slice x.a3 x.n3 x.c3,.int .i64 1,.slice none 0 0,.slice none 0 0]:=Blk.grow k0 i0;have r1:=f6.grow c7;have f3:=fw.grow c7;obtain ⟨G2,q0⟩:∃ G2:Nat→Prop,∀ k,G2 k↔G1 k∧k≠h0:=⟨_,λ _=>Iff.rfl⟩
    have cg:Carry G1 z0 G2 w7:=(Carry.mono (λ k hk hl=>(q0 k).2 ⟨hk,oM⟩)).trans (Carry.grow c7);have o0:=j0.go cg;have u2:=m1.go cg (c7.block m (by have:=m1.lt;omega));have g2:∀ wz:World,Carry G2 wz G1 wz:=λ wz=>Carry.mono λ k hk _=>((q0 k).1 hk).1;clear i0 hu hg k0 g4 u5 k4 k5 k6 f6 fw c7 cg j0 m1;refine aB 196 ?_;refine aA rfl (hB f' rfl w7 G2 M M1 x nd t (h.grow l0) f3 u2 (λ k hk=>o4 k ((v0 k).1 ((q0 k).1 hk).1).1) (λ k hk=>(q0 k).2 ⟨(v0 k).2 ⟨n4 k (by have:=l0.size;omega),oM⟩,oM⟩) o0 y2 hl h5) rfl ?_;rintro _ w8 ⟨⟨x',lo,hi,rfl,s0⟩,q5,j1⟩;have z8:=j1.size;obtain ⟨la,lc,rfl,d4⟩:=s0.lo.sl;obtain ⟨ha,hc,rfl,f4⟩:=s0.hi.sl;have v4:=bX u0 j1 oM;have l6:=bX r1 j1 oM;clear f2 u0 r1 f3;repeat (first|refine aF ?_|refine yJ λ w' hu i0 n0=>?_)
    have cz:Carry G2 w8 G1 w':=(Carry.upd hu (λ k hk _=>((q0 k).1 hk).2)).trans (g2 _);exact ⟨b6,h0,x',_,_,G1,M1,⟨rfl,rfl,rfl,rfl,trivial⟩,v0,q5.go cz (hu.block m oM),rfl,s0.go cz,rfl,rfl,i0,l6.upd hu oM,((ButS.grow l0).trans j1).upd hu oM,oM,oM,oM⟩
 rintro e W ⟨b6,h0,x,lo,hi,G1,M1,o2,v0,t3,rfl,s0,_,_,u0,f6,i4,q6,g3,r4⟩;refine bD (e':=[(12,_),(6,_),(1,_),(0,_)]) ?_ o2;clear o2;obtain ⟨la,lc,rfl,d4⟩:=s0.lo.sl;obtain ⟨ha,hc,rfl,f4⟩:=s0.hi.sl;have fw:=bX s3 i4 n5.1;have c5:=t3.lt;have v4:=u0.lt;have l6:=f6.lt;repeat refine aF ?_
 apply T.any 6 [is (.pointer (some ⟨b,0,none⟩)),is (.pointer (some ⟨b,0,none⟩)),is (.pointer (some ⟨b,1,none⟩)),is (.map (some m)),is (.int .i64 (n:Int)),is (PtV t x (.slice la t.low.length lc) (.slice ha t.high.length hc))]
 ·rfl
 ·repeat' (first|exact aN|refine aK ?_ ?_)
  iterate 6
   ·refine yQ λ wq _ _ n6=>?_;repeat refine aF ?_
    exact aD rfl yG rfl
 ·intro wt y5 m6 o1 _ _;iterate 6 (refine aJ rfl rfl ?_;intro vq x4;try (obtain rfl:=x4))
  refine aZ ?_;have zt:=o1.size;have o3:=s0.go (Carry.grow o1);have p5:=t3.go (Carry.grow o1) (o1.block m c5);have q4:=u0.grow o1;have g6:=f6.grow o1;have s2:=i4.trans (ButS.grow o1);clear u0 f6 fw o1 s0 t3;obtain ⟨s6,r2,r3,q3⟩:=p5;refine TL.isMapUp ?_;refine TL.updateF rfl rfl rfl r2 oM ?_;intro w2 x0 q2;have cu:Carry G1 wt G1 w2:=Carry.upd x0 (λ k hk _=>o4 k ((v0 k).1 hk).1);have d6:=q4.upd x0 oM;have j6:=g6.upd x0 oM;have a4:=o3.go cu
  have r5:MemAt G1 w2 m ((n,t)::M1):=by
   refine ⟨_,q2,λ k hk=>?_,λ k t' hk=>?_⟩
   ·rw [getM_cons] at hk;unfold upF;by_cases u1:k=n
    ·rw [if_pos u1] at hk;cases hk
    ·rw [if_neg u1] at hk ⊢;exact r3 k hk
   ·rw [getM_cons] at hk;unfold upF;by_cases u1:k=n
    ·rw [if_pos u1] at hk;cases hk;rw [if_pos u1];exact ⟨x,_,_,rfl,a4⟩
    ·rw [if_neg u1] at hk;rw [if_neg u1];obtain ⟨x',u4,j5,e1,e2⟩:=q3 k t' hk;exact ⟨x',u4,j5,e1,e2.go cu⟩
  have o5:ButS (λ k=>k=m) w w2:=⟨x0.os.trans s2.os,x0.tape.trans s2.tape,x0.output.trans s2.output,by have:=x0.size;have:=s2.size;omega,λ k hk e4=>(x0.block k e4).trans (s2.block k hk e4)⟩
  have z2:=x0.size;clear q4 g6 x0 q2 r2;repeat (first|refine aF ?_|refine yJ λ w' hu i0 n0=>?_)
  have cz:Carry G1 w2 G w':=(Carry.upd hu (λ k hk _=>((v0 k).1 hk).2)).trans (Carry.mono λ k hk _=>((v0 k).1 hk).1);exact fL rfl (aW i0 rfl) rfl ⟨_,rfl,⟨x,_,_,rfl,a4.go cz⟩,r5.go cz (hu.block m oM),o5.upd hu q6⟩
def iL (nd:Nd) (i:Nat) (t p:Part):Part:=if i=0 then ⟨nd,p.levels+1,p.low,p.high⟩ else ⟨nd,t.levels,t.low,p.high⟩
theorem kidsP_cons {a0:Nat→fS→Option (Part×fS)} {nd:Nd} {k:Nat} {r:List Nat} {i:Nat} {t T:Part} {m M:fS} (h:lY a0 nd (k::r) i t m=some (T,M)) :
  ∃ p m1,a0 k m=some (p,m1)∧¬ aT p.node<4∧p.levels+1=(iL nd i t p).levels∧(0<i→¬ bY p.low (nd.keys.getD (i-1) [])<0)∧(i<nd.keys.length→¬ 0≤bY p.high (nd.keys.getD i [])) ∧
   lY a0 nd r (i+1) (iL nd i t p) m1=some (T,M):=by
 unfold lY at h;split at h
 ·cases h
 ·rename_i p m1 e;change (if (decide (aT p.node<4) || !(p.levels+1==(iL nd i t p).levels) || (decide (0<i)&&decide (bY p.low (nd.keys.getD (i-1) [])<0)) || (decide (i<nd.keys.length)&&decide (0≤bY p.high (nd.keys.getD i []))))=true then none else lY a0 nd r (i+1) (iL nd i t p) m1)=some (T,M) at h;refine ⟨p,m1,e,?_⟩;generalize iL nd i t p=t1 at h ⊢;split at h
  ·cases h
  ·rename_i hc;simp only [Bool.or_eq_true,Bool.and_eq_true,decide_eq_true_eq,Bool.not_eq_true',not_or,not_and] at hc;obtain ⟨⟨⟨c1,c2⟩,c3⟩,c4⟩:=hc;refine ⟨c1,?_,c3,c4,h⟩
   have e0:(p.levels+1==t1.levels)=true:=by
    cases hb:(p.levels+1==t1.levels) with
    | true=>rfl
    | false=>exact absurd hb c2
   exact eq_of_beq e0
theorem kidsP_nil {a0:Nat→fS→Option (Part×fS)} {nd:Nd} {i:Nat} {t T:Part} {m M:fS} (h:lY a0 nd [] i t m=some (T,M)):t.levels≤16∧T=t∧M=m:=by
 unfold lY at h;split at h
 ·cases h
 ·simp only [Option.some.injEq,Prod.mk.injEq] at h;exact ⟨oM,h.1.symm,h.2.symm⟩
theorem kidsP_levels {a0:Nat→fS→Option (Part×fS)} {nd:Nd}:∀ {r:List Nat} {i:Nat} {t T:Part} {m M:fS},lY a0 nd r i t m=some (T,M)→0<i→t.levels≤16
 | [],i,t,T,m,M,h,hi=>(kidsP_nil h).1
 | k::r,i,t,T,m,M,h,hi=>by
  obtain ⟨p,m1,_,_,_,_,_,h2⟩:=kidsP_cons h;have:=kidsP_levels h2 oM;unfold iL at this;rw [if_neg oM] at this;exact this
theorem branch_of {L:PL} {g:Pg} {b m f:Nat} (hf:f≤15) (g7:b≠m∧m≠L.p∧m≠L.d∧m≠L.u∧m≠L.m) (hP:PartC L g b m f):BranchC L g b m f:=by
 intro w G M M' x nd t h q5 hM l7 k7 hx l5 q6 x6;have r6:=hM.lt;have c8:=q5.lt;have s6:=h.lts;obtain ⟨r7,q7,p7⟩:=hx.nums;have m1:=l5;unfold bF at m1;rw [if_neg (by rw [q6];simp)] at m1;obtain ⟨v7,y7,x7,u7,q4,p6⟩:=cO m1;refine V.calls (args:=[_,_,_]) Tryz.func196 rfl Tryz.ntmps196 rfl rfl ?_;repeat (first|refine aF ?_|refine yI λ bk w' hg f0 n0 t0=>?_|refine yJ λ w' hu f0 n0=>?_)
 rename_i b4 w1 g1 k1 p1 a6 b6 w2 g2 k2 p2 y5 w3 k3 p3;obtain ⟨b8,rfl⟩:=yE bk;have x1:Grow w w':=aH hu oM (g1.trans (g2.trans hg));have e4:Blk w' b4 79 x.cs:=((k1.grow g2).grow hg).upd hu oM;have e6:Blk w' b6 228 [.slice none 0 0,.slice none 0 0,.slice none 0 0,.int .i64 0,.slice none 0 0,.slice none 0 0]:=(k2.grow hg).upd hu oM;have e8:Blk w' b8 228 (PtC ⟨nd,0,[],[]⟩ x (.slice none 0 0) (.slice none 0 0)):=f0;have z0:=hu.size;have q0:w.heap.size=b4∧b6=b4+1∧b8=b6+1∧w'.heap.size=b8+1:=by omega
 obtain ⟨G1,v0⟩:∃ G1:Nat→Prop,∀ k,G1 k↔G k∧k≠b8∧k≠b6:=⟨_,λ _=>Iff.rfl⟩
 have cg:Carry G w G1 w':=(Carry.mono (λ k hk hl=>(v0 k).2 ⟨hk,oM,oM⟩)).trans (Carry.grow x1);have n4:=hx.go cg;have r5:=hM.go cg (x1.block m r6);clear f0 hu hg g1 g2 k1 k2 k3 cg n0 t0 p1 a6 p2 y5 p3;obtain ⟨w0,rfl⟩:=yE w';have m4:BsAt G1 w0 (.slice none 0 0) []:=⟨_,_,_,rfl,by simp [bB],Nat.le_refl _,Nat.zero_le _,λ _=>rfl,by simp [Row,bB]⟩
 have f3:∀ k,G1 k→k≠m:=λ k hk=>l7 k ((v0 k).1 hk).1;have h3:=n4.kids;have g3:=n4.kys
 refine aX (S:=Nat×Part×fS×Value×Value) (λ q=>[(18,.int .i64 (q.1:Int)),(17,.int .i64 (x.n2:Int)),(16,.slice x.a2 x.n2 x.c2),(8,.pointer (some ⟨b8,0,none⟩)),(6,.pointer (some ⟨b6,0,none⟩)),(4,.pointer (some ⟨b4,0,none⟩)),(2,.int .i64 ((16-f:Nat):Int)),(0,.pointer (some ⟨b,0,none⟩))])
  (λ q w1=>q.1≤x.n2∧lY (kZ g f) nd (nd.kids.drop q.1) q.1 q.2.1 q.2.2.1=some (t,M')∧q.2.1.node=nd∧Blk w1 b8 228 (PtC q.2.1 x q.2.2.2.1 q.2.2.2.2)∧Blk w1 b4 79 x.cs∧Blk w1 b6 228 [.slice none 0 0,.slice none 0 0,.slice none 0 0,.int .i64 0,.slice none 0 0,.slice none 0 0] ∧
   MemAt G1 w1 m q.2.2.1∧BsAt G1 w1 q.2.2.2.1 q.2.1.low∧BsAt G1 w1 q.2.2.2.2 q.2.1.high∧Carry G1 w0 G1 w1∧ButS (λ k=>k=m) w w1) (λ q=>x.n2-q.1) (0,⟨nd,0,[],[]⟩,M,.slice none 0 0,.slice none 0 0) ⟨rfl,rfl,rfl,rfl,rfl,rfl,rfl,rfl,trivial⟩
  ⟨by simp only;omega,x6,rfl,e8,e4,e6,r5,m4,m4,Carry.mono (λ k hk _=>hk),ButS.grow x1⟩ ?_
 clear e8 e4 e6 r5 m4;rintro ⟨i,ti,Mi,lo,hi⟩ w1 ⟨b7,hk,r4,e8,e4,e6,q3,r2,z2,ec,eb⟩;simp only at b7 hk r4 e8 q3 r2 z2;have z1:=ec.size;obtain ⟨la,lc,rfl,u6⟩:=r2.sl;obtain ⟨ha,hc,rfl,c7⟩:=z2.sl;by_cases t6:i<x.n2;rotate_left
 ·obtain rfl:i=x.n2:=by omega
  rw [List.drop_eq_nil_of_le oM] at hk;obtain ⟨u2,rfl,rfl⟩:=kidsP_nil hk;repeat (first|refine aF ?_|refine yJ λ w' hu f0 n0=>?_)
  have cz:Carry G1 w1 G w':=(Carry.upd hu (λ k hk _=>((v0 k).1 hk).2.2)).trans (Carry.mono λ k hk _=>((v0 k).1 hk).1);refine fL rfl (aW f0 rfl) rfl ⟨_,rfl,⟨x,_,_,rfl,⟨?_,r2.go cz,z2.go cz,by rw [r4];exact l5⟩⟩,q3.go cz (hu.block m oM),eb.upd hu oM⟩;rw [r4];exact (n4.go ec).go cz
 obtain ⟨x3,s1⟩:∃ q,nd.kids[i]? = some q:=⟨_,List.getElem?_eq_getElem oM⟩
 rw [List.drop_eq_getElem_cons oM,show nd.kids[i]'(by omega)=x3 from (List.getElem?_eq_some_iff.1 s1).2] at hk;obtain ⟨p,M1,o4,h4,s2,p5,o3,o5⟩:=kidsP_cons hk;have u2:=kidsP_levels o5 oM;have y6:=kid_ok q4 (List.mem_of_getElem? s1);have m3:w1.cell? (at' x.a2 i)=some (.int .i64 (x3:Int)):=(h3.go ec).row.cell (by rw [show bC nd.kids=nd.kids.map λ (k:Nat)=>(.int .i64 (k:Int):Value) from rfl,List.getElem?_map,s1];rfl);have o6:PgAt w1 L g:=h.keep (λ c hc=>eb.block c oM oM);have d3:=bX q5 eb g7.1
 refine dU 3 (λ e w1=>Sub [(18,.int .i64 (i:Int)),(17,.int .i64 (x.n2:Int)),(16,.slice x.a2 x.n2 x.c2),(8,.pointer (some ⟨b8,0,none⟩)),(6,.pointer (some ⟨b6,0,none⟩)),(4,.pointer (some ⟨b4,0,none⟩)),(2,.int .i64 ((16-f:Nat):Int)),(0,.pointer (some ⟨b,0,none⟩))] e ∧
  ∃ i3 j3,MemAt G1 w1 m M1∧Blk w1 b8 228 (PtC (iL nd i ti p) x i3 j3)∧Blk w1 b4 79 x.cs∧Blk w1 b6 228 [.slice none 0 0,.slice none 0 0,.slice none 0 0,.int .i64 0,.slice none 0 0,.slice none 0 0]∧BsAt G1 w1 i3 (iL nd i ti p).low∧BsAt G1 w1 j3 (iL nd i ti p).high∧Carry G1 w0 G1 w1∧ButS (λ k=>k=m) w w1) ?_ ?_
 rotate_left
 ·repeat (first|(refine aI ?_;refine aC (j:=i) rfl rfl rfl t6 (Nat.mul_one _) ⟨_,_,h3.go ec⟩ rfl ?_)|refine yC ?_)
  rw [show 16-f+1=17-f by omega];refine aB 156 ?_;refine aA rfl (hP w1 G1 Mi M1 x3 p o6 d3 q3 f3 (λ k hk=>(v0 k).2 ⟨k7 k oM,oM,oM⟩) oM o4) rfl ?_;rintro _ w3 ⟨⟨y,s7,a7,rfl,j1⟩,a5,y1⟩;obtain ⟨qa,qc,rfl,j5⟩:=j1.lo.sl;obtain ⟨ra,rc,rfl,h5⟩:=j1.hi.sl;have z3:=y1.size;obtain ⟨f5,d5,o7⟩:=j1.nd.nums;have n6:4≤y.n1+y.n2:=by unfold aT at h4;omega
  have m6:y.n1≤8∧y.n2≤8:=by
   have e2:=j1.ok;unfold bF at e2;split at e2
   ·rename_i n5;obtain ⟨_,q2,_⟩:=dG e2;rw [bL] at n5;rw [n5] at d5;simp at d5;omega
   ·obtain ⟨q1,_,q2,_⟩:=cO e2;rw [q1] at f5;simp at f5;omega
  have d8:=bX e8 y1 oM;have d4:=bX e4 y1 oM;have d6:=bX e6 y1 oM;have c3:Carry G1 w1 G1 w3:=Carry.buts y1 (λ k hk _=>f3 k hk);have t4:=r2.go c3;have d7:=z2.go c3;have s5:=ec.trans c3;have t5:=eb.trans y1;have m5:=a5.lt;clear e8 e4 e6 q3 r2 z2 ec eb u6 c7 m3 d3 c3 y1;obtain ⟨s0,rfl⟩:=yE w3;by_cases o0:i=0
  ·have v6:p.levels+1≤16:=by rw [s2];exact u2
   repeat (first|refine aF ?_|refine yI λ bk w' hg f0 n0 t0=>?_|refine yJ λ w' hu f0 n0=>?_)
   obtain ⟨h0,rfl⟩:=yE bk;have i0:Grow s0 w':=aH hu oM hg;have m0:Blk w' h0 228 (PtC p y (.slice qa p.low.length qc) (.slice ra p.high.length rc)):=f0;have f8:=d8.grow i0;have f4:=d4.grow i0;have f6:=d6.grow i0;have fb:=t5.trans (ButS.grow i0);have z4:=i0.size;have x5:s0.heap.size=h0:=by omega
   clear f0 hu hg n0 t0 d8 d4 d6;obtain ⟨w4,rfl⟩:=yE w'
   apply T.detA 7 6 [.pointer (some ⟨h0,3,none⟩),.int .i64 (p.levels:Int),.int .i64 ((p.levels+1:Nat):Int),.pointer (some ⟨h0,4,none⟩),.slice qa p.low.length qc,.pointer (some ⟨b8,3,none⟩),undef]
    (λ q wz=>Blk wz h0 228 (PtC p y (.slice qa p.low.length qc) (.slice ra p.high.length rc))∧Blk wz b8 228 [.slice x.a1 x.n1 x.c1,.slice x.a2 x.n2 x.c2,.slice x.a3 x.n3 x.c3,(if q then .int .i64 ((p.levels+1:Nat):Int) else .int .i64 (ti.levels:Int)),.slice la ti.low.length lc,.slice ha ti.high.length hc]∧Blk wz b4 79 x.cs∧Blk wz b6 228 [.slice none 0 0,.slice none 0 0,.slice none 0 0,.int .i64 0,.slice none 0 0,.slice none 0 0]∧Carry G1 w4 G1 wz∧ButS (λ k=>k=m) w wz∧wz.heap[m]? = w4.heap[m]?)
   ·rfl
   ·exact λ wz h1=>⟨m0.grow h1,f8.grow h1,f4.grow h1,f6.grow h1,Carry.grow h1,fb.trans (ButS.grow h1),h1.block m oM⟩
   ·clear m0 f8 f4 f6;repeat' (first|exact gH|refine fU ?_ ?_)
    ·refine aV rfl rfl rfl ?_;rintro q wq _ ⟨a0,i8,i4,i6,ic,ig,im⟩;repeat refine aF ?_
     refine aG rfl ?_;rw [show (q || Nat.beq 0 6)=q from Bool.or_false q];exact ⟨a0,i8,i4,i6,ic,ig,im⟩
    ·refine aV rfl rfl rfl ?_;rintro q wq _ ⟨a0,i8,i4,i6,ic,ig,im⟩;repeat refine aF ?_
     refine aG rfl ?_;rw [show (q || Nat.beq 1 6)=q from Bool.or_false q];exact ⟨a0,i8,i4,i6,ic,ig,im⟩
    ·refine aV rfl rfl rfl ?_;rintro q wq _ ⟨a0,i8,i4,i6,ic,ig,im⟩;repeat refine aF ?_
     refine aG rfl ?_;rw [show (q || Nat.beq 2 6)=q from Bool.or_false q];exact ⟨a0,i8,i4,i6,ic,ig,im⟩
    ·refine aV rfl rfl rfl ?_;rintro q wq _ ⟨a0,i8,i4,i6,ic,ig,im⟩;repeat refine aF ?_
     refine aG rfl ?_;rw [show (q || Nat.beq 3 6)=q from Bool.or_false q];exact ⟨a0,i8,i4,i6,ic,ig,im⟩
    ·refine aV rfl rfl rfl ?_;rintro q wq _ ⟨a0,i8,i4,i6,ic,ig,im⟩;repeat refine aF ?_
     refine aG rfl ?_;rw [show (q || Nat.beq 4 6)=q from Bool.or_false q];exact ⟨a0,i8,i4,i6,ic,ig,im⟩
    ·refine aV rfl rfl rfl ?_;rintro q wq _ ⟨a0,i8,i4,i6,ic,ig,im⟩;repeat refine aF ?_
     refine aG rfl ?_;rw [show (q || Nat.beq 5 6)=q from Bool.or_false q];exact ⟨a0,i8,i4,i6,ic,ig,im⟩
    ·refine aV rfl rfl rfl ?_;rintro q wq hb ⟨a0,i8,i4,i6,ic,ig,im⟩;obtain rfl:=hb rfl;have g5:Blk wq b8 228 (PtC ti x (.slice la ti.low.length lc) (.slice ha ti.high.length hc)):=i8;clear i8;repeat (first|refine aF ?_|refine yJ λ w' hu f0 n0=>?_)
     exact gS ⟨a0.upd hu oM,f0,i4.upd hu oM,i6.upd hu oM,ic.trans (Carry.upd hu (λ k hk _=>((v0 k).1 hk).2.1)),ig.upd hu oM,(hu.block m oM).trans im⟩
   ·rintro w5 ⟨a0,i8,i4,i6,ic,ig,im⟩;have g5:Blk w5 b8 228 [.slice x.a1 x.n1 x.c1,.slice x.a2 x.n2 x.c2,.slice x.a3 x.n3 x.c3,.int .i64 ((p.levels+1:Nat):Int),.slice la ti.low.length lc,.slice ha ti.high.length hc]:=i8;have z5:=ic.size;clear i8 m0 f8 f4 f6;repeat (first|refine aF ?_|refine yJ λ w' hu f0 n0=>?_|(refine aB 83 ?_;refine aA rfl (size_nd y _ oM oM) rfl ?_;rintro _ _ ⟨rfl,e0⟩))
    rename_i w7 e1 h7 z7 w6;have z6:=e0.size;have m0:=((a0.upd e1 oM).upd hu oM).grow e0;have f8:Blk w6 b8 228 [.slice x.a1 x.n1 x.c1,.slice x.a2 x.n2 x.c2,.slice x.a3 x.n3 x.c3,.int .i64 ((p.levels+1:Nat):Int),.slice qa p.low.length qc,.slice ra p.high.length rc]:=Blk.grow e0 f0;have f4:=((i4.upd e1 oM).upd hu oM).grow e0;have f6:=((i6.upd e1 oM).upd hu oM).grow e0;have cu:Carry G1 s0 G1 w6:=(Carry.grow i0).trans (ic.trans ((Carry.upd e1 (λ k hk _=>((v0 k).1 hk).2.1)).trans ((Carry.upd hu (λ k hk _=>((v0 k).1 hk).2.1)).trans (Carry.grow e0))));have c6:=s5.trans cu;have u3:ButS (λ k=>k=m) w w6:=((ig.upd e1 oM).upd hu oM).trans (ButS.grow e0);have s4:w6.heap[m]? = s0.heap[m]?:=(e0.block m oM).trans ((hu.block m oM).trans ((e1.block m oM).trans (im.trans (i0.block m m5))));have d2:=a5.go cu s4;have s3:=j1.lo.go cu;have t3:=j1.hi.go cu;have o2:=j5.go cu;have f1:=h5.go cu;have u0:=g3.go c6;clear a0 g5 i4 i6 ic ig im f0 hu h7 e1 e0 cu i0
    apply T.det 14 [.int .i64 (i:Int),.bool false,.bool false,undef,undef,undef,undef,undef,undef,undef,undef,undef,undef,.bool false]
     (λ wz=>Blk wz h0 228 (PtC p y (.slice qa p.low.length qc) (.slice ra p.high.length rc))∧Blk wz b8 228 [.slice x.a1 x.n1 x.c1,.slice x.a2 x.n2 x.c2,.slice x.a3 x.n3 x.c3,.int .i64 ((p.levels+1:Nat):Int),.slice qa p.low.length qc,.slice ra p.high.length rc]∧Blk wz b4 79 x.cs∧Blk wz b6 228 [.slice none 0 0,.slice none 0 0,.slice none 0 0,.int .i64 0,.slice none 0 0,.slice none 0 0]∧Grow w6 wz)
    ·rfl
    ·exact λ wz h1=>⟨m0.grow h1,f8.grow h1,f4.grow h1,f6.grow h1,(Grow.refl w6).trans h1⟩
    ·clear m0 f8 f4 f6;repeat' (first|exact iZ|refine iB ?_ ?_)
     ·refine aY rfl rfl rfl ?_;rintro wq ⟨a0,i8,i4,i6,ic⟩;repeat refine aF ?_
      exact aG rfl ⟨a0,i8,i4,i6,ic⟩
     ·refine aY rfl rfl rfl ?_;rintro wq ⟨a0,i8,i4,i6,ic⟩;repeat refine aF ?_
      exact aG rfl ⟨a0,i8,i4,i6,ic⟩
     ·refine aY rfl rfl rfl ?_;rintro wq ⟨a0,i8,i4,i6,ic⟩;repeat refine aF ?_
      exact aG rfl ⟨a0,i8,i4,i6,ic⟩
     ·refine aY rfl rfl rfl ?_;rintro wq ⟨a0,i8,i4,i6,ic⟩;repeat refine aF ?_
      exact aG rfl ⟨a0,i8,i4,i6,ic⟩
     ·refine aY rfl rfl rfl ?_;rintro wq ⟨a0,i8,i4,i6,ic⟩;repeat refine aF ?_
      exact aG rfl ⟨a0,i8,i4,i6,ic⟩
     ·refine aY rfl rfl rfl ?_;rintro wq ⟨a0,i8,i4,i6,ic⟩;repeat refine aF ?_
      exact aG rfl ⟨a0,i8,i4,i6,ic⟩
     ·refine aY rfl rfl rfl ?_;rintro wq ⟨a0,i8,i4,i6,ic⟩;repeat refine aF ?_
      exact aG rfl ⟨a0,i8,i4,i6,ic⟩
     ·refine aY rfl rfl rfl ?_;rintro wq ⟨a0,i8,i4,i6,ic⟩;repeat refine aF ?_
      exact aG rfl ⟨a0,i8,i4,i6,ic⟩
     ·refine aY rfl rfl rfl ?_;rintro wq ⟨a0,i8,i4,i6,ic⟩;repeat refine aF ?_
      exact aG rfl ⟨a0,i8,i4,i6,ic⟩
     ·refine aY rfl rfl rfl ?_;rintro wq ⟨a0,i8,i4,i6,ic⟩;repeat refine aF ?_
      exact aG rfl ⟨a0,i8,i4,i6,ic⟩
     ·refine aY rfl rfl rfl ?_;rintro wq ⟨a0,i8,i4,i6,ic⟩;repeat refine aF ?_
      exact aG rfl ⟨a0,i8,i4,i6,ic⟩
     ·refine aY rfl rfl rfl ?_;rintro wq ⟨a0,i8,i4,i6,ic⟩;repeat refine aF ?_
      exact aG rfl ⟨a0,i8,i4,i6,ic⟩
     ·refine aY rfl rfl rfl ?_;rintro wq ⟨a0,i8,i4,i6,ic⟩;repeat refine aF ?_
      exact aG rfl ⟨a0,i8,i4,i6,ic⟩
     ·refine aY rfl rfl rfl ?_;rintro wq ⟨a0,i8,i4,i6,ic⟩;repeat refine aF ?_
      exact aG rfl ⟨a0,i8,i4,i6,ic⟩
    ·rintro v5 ⟨p0,g8,g4,g6,r3⟩;clear m0 f8 f4 f6;repeat refine aF ?_
     obtain ⟨j0,l0⟩:∃ q,nd.keys[i]? = some q:=⟨_,List.getElem?_eq_getElem oM⟩
     obtain ⟨a4,k0,u1⟩:=u0.ex;obtain ⟨h6,y3,o1⟩:=u1.at' l0;obtain ⟨y0,x0,rfl,r1⟩:=o1.sl;have f2:nd.keys.getD (i) []=j0:=by rw [List.getD_eq_getElem?_getD,l0];rfl
     rw [f2] at o3;have y4:=o3 oM
     apply T.det 16 [.int .i64 (i:Int),.pointer (some ⟨b4,2,none⟩),.slice x.a3 x.n3 x.c3,.int .i64 (x.n3:Int),.bool true,.bool true,.pointer (some ⟨h0,5,none⟩),.slice ra p.high.length rc,.pointer (some ⟨b4,2,none⟩),.slice x.a3 x.n3 x.c3,.int .i64 (i:Int),.pointer (some (at' x.a3 (i*1))),(.slice y0 j0.length x0),.int .i64 (bY p.high j0),.bool false,.bool false]
      (λ wz=>Blk wz h0 228 (PtC p y (.slice qa p.low.length qc) (.slice ra p.high.length rc))∧Blk wz b8 228 [.slice x.a1 x.n1 x.c1,.slice x.a2 x.n2 x.c2,.slice x.a3 x.n3 x.c3,.int .i64 ((p.levels+1:Nat):Int),.slice qa p.low.length qc,.slice ra p.high.length rc]∧Blk wz b4 79 x.cs∧Blk wz b6 228 [.slice none 0 0,.slice none 0 0,.slice none 0 0,.int .i64 0,.slice none 0 0,.slice none 0 0]∧Grow w6 wz)
     ·rfl
     ·exact λ wz h1=>⟨p0.grow h1,g8.grow h1,g4.grow h1,g6.grow h1,r3.trans h1⟩
     ·clear p0 g8 g4 g6;repeat' (first|exact iZ|refine iB ?_ ?_)
      ·refine aY rfl rfl rfl ?_;rintro wq ⟨a0,i8,i4,i6,ic⟩;repeat refine aF ?_
       exact aG rfl ⟨a0,i8,i4,i6,ic⟩
      ·refine aY rfl rfl rfl ?_;rintro wq ⟨a0,i8,i4,i6,ic⟩;repeat refine aF ?_
       exact aG rfl ⟨a0,i8,i4,i6,ic⟩
      ·refine aY rfl rfl rfl ?_;rintro wq ⟨a0,i8,i4,i6,ic⟩;repeat refine aF ?_
       exact aG rfl ⟨a0,i8,i4,i6,ic⟩
      ·refine aY rfl rfl rfl ?_;rintro wq ⟨a0,i8,i4,i6,ic⟩;repeat refine aF ?_
       exact aG rfl ⟨a0,i8,i4,i6,ic⟩
      ·refine aY rfl rfl rfl ?_;rintro wq ⟨a0,i8,i4,i6,ic⟩;repeat refine aF ?_
       exact aG rfl ⟨a0,i8,i4,i6,ic⟩
      ·refine aY rfl rfl rfl ?_;rintro wq ⟨a0,i8,i4,i6,ic⟩;repeat refine aF ?_
       exact aG rfl ⟨a0,i8,i4,i6,ic⟩
      ·refine aY rfl rfl rfl ?_;rintro wq ⟨a0,i8,i4,i6,ic⟩;repeat refine aF ?_
       exact aG rfl ⟨a0,i8,i4,i6,ic⟩
      ·refine aY rfl rfl rfl ?_;rintro wq ⟨a0,i8,i4,i6,ic⟩;repeat refine aF ?_
       exact aG rfl ⟨a0,i8,i4,i6,ic⟩
      ·refine aY rfl rfl rfl ?_;rintro wq ⟨a0,i8,i4,i6,ic⟩;repeat refine aF ?_
       exact aG rfl ⟨a0,i8,i4,i6,ic⟩
      ·refine aY rfl rfl rfl ?_;rintro wq ⟨a0,i8,i4,i6,ic⟩;repeat refine aF ?_
       exact aG rfl ⟨a0,i8,i4,i6,ic⟩
      ·refine aY rfl rfl rfl ?_;rintro wq ⟨a0,i8,i4,i6,ic⟩;repeat refine aF ?_
       exact aG rfl ⟨a0,i8,i4,i6,ic⟩
      ·refine aY rfl rfl rfl ?_;rintro wq ⟨a0,i8,i4,i6,ic⟩;repeat (first|refine eH rfl rfl rfl ?_|(refine aI ?_;refine aC (j:=i) rfl rfl rfl oM rfl ⟨_,_,k0.grow ic⟩ rfl ?_)|refine yC ?_)
       exact aG rfl ⟨a0,i8,i4,i6,ic⟩
      ·refine aY rfl rfl rfl ?_;rintro wq ⟨a0,i8,i4,i6,ic⟩;have m3:wq.cell? (at' x.a3 (i*1))=some (.slice y0 j0.length x0):=(k0.grow ic).row.cell (by rw [Nat.mul_one];exact y3);repeat refine aF ?_
       exact aG rfl ⟨a0,i8,i4,i6,ic⟩
      ·refine aY rfl rfl rfl ?_;rintro wq ⟨a0,i8,i4,i6,ic⟩;refine eH rfl rfl rfl ?_;refine aB 139 ?_;refine aA rfl (eN _ _ ra p.high.length rc y0 j0.length x0 p.high j0 _ (f1.grow ic) (r1.grow ic)) rfl ?_;rintro _ wr ⟨rfl,g0⟩;repeat refine aF ?_
       exact aG rfl ⟨a0.grow g0,i8.grow g0,i4.grow g0,i6.grow g0,ic.trans g0⟩
      ·refine aY rfl rfl rfl ?_;rintro wq ⟨a0,i8,i4,i6,ic⟩;repeat refine aF ?_
       exact aG rfl ⟨a0,i8,i4,i6,ic⟩
      ·refine aY rfl rfl rfl ?_;rintro wq ⟨a0,i8,i4,i6,ic⟩;repeat refine aF ?_
       exact aG rfl ⟨a0,i8,i4,i6,ic⟩
     ·rintro w9 ⟨a0,i8,i4,i6,ic⟩;clear p0 g8 g4 g6;repeat refine aF ?_
      have cz:=c6.trans (Carry.grow ic);refine ⟨⟨rfl,rfl,rfl,rfl,rfl,rfl,rfl,rfl,trivial⟩,.slice qa p.low.length qc,.slice ra p.high.length rc,d2.go (Carry.grow ic) (ic.block m d2.lt),?_,i4,i6,?_,?_,cz,u3.trans (ButS.grow ic)⟩
      ·simp only [iL,if_pos o0];exact i8
      ·simp only [iL,if_pos o0];exact s3.go (Carry.grow ic)
      ·simp only [iL,if_pos o0];exact t3.go (Carry.grow ic)
  ·have v6:p.levels+1=ti.levels:=by rw [s2];simp only [iL,if_neg o0]
   repeat (first|refine aF ?_|refine yI λ bk w' hg f0 n0 t0=>?_|refine yJ λ w' hu f0 n0=>?_|(refine aB 83 ?_;refine aA rfl (size_nd y _ oM oM) rfl ?_;rintro _ _ ⟨rfl,e0⟩))
   rename_i w4 k4 p4 w5 u5 k5 z5 w6;obtain ⟨h0,rfl⟩:=yE bk;have z6:=e0.size;have i0:Grow s0 w5:=aH u5 oM hg;have m0:Blk w6 h0 228 (PtC p y (.slice qa p.low.length qc) (.slice ra p.high.length rc)):=(Blk.upd hu oM k5).grow e0;have f8:Blk w6 b8 228 [.slice x.a1 x.n1 x.c1,.slice x.a2 x.n2 x.c2,.slice x.a3 x.n3 x.c3,.int .i64 (ti.levels:Int),.slice la ti.low.length lc,.slice ra p.high.length rc]:=Blk.grow e0 f0;have f4:=((d4.grow i0).upd hu oM).grow e0;have f6:=((d6.grow i0).upd hu oM).grow e0;have cu:Carry G1 s0 G1 w6:=(Carry.grow i0).trans ((Carry.upd hu (λ k hk _=>((v0 k).1 hk).2.1)).trans (Carry.grow e0));have c6:=s5.trans cu;have u3:ButS (λ k=>k=m) w w6:=((t5.trans (ButS.grow i0)).upd hu oM).trans (ButS.grow e0);have z4:=i0.size;have s4:w6.heap[m]? = s0.heap[m]?:=(e0.block m oM).trans ((hu.block m oM).trans (i0.block m m5));have d2:=a5.go cu s4;have s3:=(show BsAt G1 s0 (.slice la ti.low.length lc) ti.low from t4).go cu;have t3:=j1.hi.go cu;have o2:=j5.go cu;have f1:=h5.go cu;have u0:=g3.go c6;have x5:s0.heap.size=h0∧h0<w6.heap.size:=by omega
   clear f0 hu k4 k5 u5 hg e0 cu i0 d8 d4 d6;obtain ⟨h2,y2⟩:∃ q,nd.keys[i-1]? = some q:=⟨_,List.getElem?_eq_getElem oM⟩
   obtain ⟨l6,x2,x4⟩:=u0.ex;obtain ⟨t7,k6,u4⟩:=x4.at' y2;obtain ⟨l4,c4,rfl,v4⟩:=u4.sl;have c5:nd.keys.getD (i-1) []=h2:=by rw [List.getD_eq_getElem?_getD,y2];rfl
   rw [c5] at p5;have f7:=p5 oM
   apply T.det 14 [.int .i64 (i:Int),.bool true,.bool true,.pointer (some ⟨h0,4,none⟩),.slice qa p.low.length qc,.pointer (some ⟨b4,2,none⟩),.slice x.a3 x.n3 x.c3,.int .i64 (i:Int),.int .i64 ((i-1:Nat):Int),.pointer (some (at' x.a3 ((i-1)*1))),(.slice l4 h2.length c4),.int .i64 (bY p.low h2),.bool false,.bool false]
    (λ wz=>Blk wz h0 228 (PtC p y (.slice qa p.low.length qc) (.slice ra p.high.length rc))∧Blk wz b8 228 [.slice x.a1 x.n1 x.c1,.slice x.a2 x.n2 x.c2,.slice x.a3 x.n3 x.c3,.int .i64 (ti.levels:Int),.slice la ti.low.length lc,.slice ra p.high.length rc]∧Blk wz b4 79 x.cs∧Blk wz b6 228 [.slice none 0 0,.slice none 0 0,.slice none 0 0,.int .i64 0,.slice none 0 0,.slice none 0 0]∧Grow w6 wz)
   ·rfl
   ·exact λ wz h1=>⟨m0.grow h1,f8.grow h1,f4.grow h1,f6.grow h1,(Grow.refl w6).trans h1⟩
   ·clear m0 f8 f4 f6;repeat' (first|exact iZ|refine iB ?_ ?_)
    ·refine aY rfl rfl rfl ?_;rintro wq ⟨a0,i8,i4,i6,ic⟩;repeat refine aF ?_
     exact aG rfl ⟨a0,i8,i4,i6,ic⟩
    ·refine aY rfl rfl rfl ?_;rintro wq ⟨a0,i8,i4,i6,ic⟩;repeat refine aF ?_
     exact aG rfl ⟨a0,i8,i4,i6,ic⟩
    ·refine aY rfl rfl rfl ?_;rintro wq ⟨a0,i8,i4,i6,ic⟩;repeat refine aF ?_
     exact aG rfl ⟨a0,i8,i4,i6,ic⟩
    ·refine aY rfl rfl rfl ?_;rintro wq ⟨a0,i8,i4,i6,ic⟩;repeat refine aF ?_
     exact aG rfl ⟨a0,i8,i4,i6,ic⟩
    ·refine aY rfl rfl rfl ?_;rintro wq ⟨a0,i8,i4,i6,ic⟩;repeat refine aF ?_
     exact aG rfl ⟨a0,i8,i4,i6,ic⟩
    ·refine aY rfl rfl rfl ?_;rintro wq ⟨a0,i8,i4,i6,ic⟩;repeat refine aF ?_
     exact aG rfl ⟨a0,i8,i4,i6,ic⟩
    ·refine aY rfl rfl rfl ?_;rintro wq ⟨a0,i8,i4,i6,ic⟩;repeat refine aF ?_
     exact aG rfl ⟨a0,i8,i4,i6,ic⟩
    ·refine aY rfl rfl rfl ?_;rintro wq ⟨a0,i8,i4,i6,ic⟩;repeat refine aF ?_
     exact aG rfl ⟨a0,i8,i4,i6,ic⟩
    ·refine aY rfl rfl rfl ?_;rintro wq ⟨a0,i8,i4,i6,ic⟩;repeat refine aF ?_
     exact aG rfl ⟨a0,i8,i4,i6,ic⟩
    ·refine aY rfl rfl rfl ?_;rintro wq ⟨a0,i8,i4,i6,ic⟩;repeat (first|refine eH rfl rfl rfl ?_|(refine aI ?_;refine aC (j:=(i-1)) rfl rfl rfl oM rfl ⟨_,_,x2.grow ic⟩ rfl ?_)|refine yC ?_)
     exact aG rfl ⟨a0,i8,i4,i6,ic⟩
    ·refine aY rfl rfl rfl ?_;rintro wq ⟨a0,i8,i4,i6,ic⟩;have m3:wq.cell? (at' x.a3 ((i-1)*1))=some (.slice l4 h2.length c4):=(x2.grow ic).row.cell (by rw [Nat.mul_one];exact k6);repeat refine aF ?_
     exact aG rfl ⟨a0,i8,i4,i6,ic⟩
    ·refine aY rfl rfl rfl ?_;rintro wq ⟨a0,i8,i4,i6,ic⟩;refine eH rfl rfl rfl ?_;refine aB 139 ?_;refine aA rfl (eN _ _ qa p.low.length qc l4 h2.length c4 p.low h2 _ (o2.grow ic) (v4.grow ic)) rfl ?_;rintro _ wr ⟨rfl,g0⟩;repeat refine aF ?_
     exact aG rfl ⟨a0.grow g0,i8.grow g0,i4.grow g0,i6.grow g0,ic.trans g0⟩
    ·refine aY rfl rfl rfl ?_;rintro wq ⟨a0,i8,i4,i6,ic⟩;repeat refine aF ?_
     exact aG rfl ⟨a0,i8,i4,i6,ic⟩
    ·refine aY rfl rfl rfl ?_;rintro wq ⟨a0,i8,i4,i6,ic⟩;repeat refine aF ?_
     exact aG rfl ⟨a0,i8,i4,i6,ic⟩
   ·rintro v5 ⟨p0,g8,g4,g6,r3⟩;clear m0 f8 f4 f6;repeat refine aF ?_
    by_cases e7:i<x.n3
    ·repeat refine aF ?_
     obtain ⟨j0,l0⟩:∃ q,nd.keys[i]? = some q:=⟨_,List.getElem?_eq_getElem oM⟩
     obtain ⟨a4,k0,u1⟩:=u0.ex;obtain ⟨h6,y3,o1⟩:=u1.at' l0;obtain ⟨y0,x0,rfl,r1⟩:=o1.sl;have f2:nd.keys.getD (i) []=j0:=by rw [List.getD_eq_getElem?_getD,l0];rfl
     rw [f2] at o3;have y4:=o3 oM
     apply T.det 16 [.int .i64 (i:Int),.pointer (some ⟨b4,2,none⟩),.slice x.a3 x.n3 x.c3,.int .i64 (x.n3:Int),.bool true,.bool true,.pointer (some ⟨h0,5,none⟩),.slice ra p.high.length rc,.pointer (some ⟨b4,2,none⟩),.slice x.a3 x.n3 x.c3,.int .i64 (i:Int),.pointer (some (at' x.a3 (i*1))),(.slice y0 j0.length x0),.int .i64 (bY p.high j0),.bool false,.bool false]
      (λ wz=>Blk wz h0 228 (PtC p y (.slice qa p.low.length qc) (.slice ra p.high.length rc))∧Blk wz b8 228 [.slice x.a1 x.n1 x.c1,.slice x.a2 x.n2 x.c2,.slice x.a3 x.n3 x.c3,.int .i64 (ti.levels:Int),.slice la ti.low.length lc,.slice ra p.high.length rc]∧Blk wz b4 79 x.cs∧Blk wz b6 228 [.slice none 0 0,.slice none 0 0,.slice none 0 0,.int .i64 0,.slice none 0 0,.slice none 0 0]∧Grow w6 wz)
     ·rfl
     ·exact λ wz h1=>⟨p0.grow h1,g8.grow h1,g4.grow h1,g6.grow h1,r3.trans h1⟩
     ·clear p0 g8 g4 g6;repeat' (first|exact iZ|refine iB ?_ ?_)
      ·refine aY rfl rfl rfl ?_;rintro wq ⟨a0,i8,i4,i6,ic⟩;repeat refine aF ?_
       exact aG rfl ⟨a0,i8,i4,i6,ic⟩
      ·refine aY rfl rfl rfl ?_;rintro wq ⟨a0,i8,i4,i6,ic⟩;repeat refine aF ?_
       exact aG rfl ⟨a0,i8,i4,i6,ic⟩
      ·refine aY rfl rfl rfl ?_;rintro wq ⟨a0,i8,i4,i6,ic⟩;repeat refine aF ?_
       exact aG rfl ⟨a0,i8,i4,i6,ic⟩
      ·refine aY rfl rfl rfl ?_;rintro wq ⟨a0,i8,i4,i6,ic⟩;repeat refine aF ?_
       exact aG rfl ⟨a0,i8,i4,i6,ic⟩
      ·refine aY rfl rfl rfl ?_;rintro wq ⟨a0,i8,i4,i6,ic⟩;repeat refine aF ?_
       exact aG rfl ⟨a0,i8,i4,i6,ic⟩
      ·refine aY rfl rfl rfl ?_;rintro wq ⟨a0,i8,i4,i6,ic⟩;repeat refine aF ?_
       exact aG rfl ⟨a0,i8,i4,i6,ic⟩
      ·refine aY rfl rfl rfl ?_;rintro wq ⟨a0,i8,i4,i6,ic⟩;repeat refine aF ?_
       exact aG rfl ⟨a0,i8,i4,i6,ic⟩
      ·refine aY rfl rfl rfl ?_;rintro wq ⟨a0,i8,i4,i6,ic⟩;repeat refine aF ?_
       exact aG rfl ⟨a0,i8,i4,i6,ic⟩
      ·refine aY rfl rfl rfl ?_;rintro wq ⟨a0,i8,i4,i6,ic⟩;repeat refine aF ?_
       exact aG rfl ⟨a0,i8,i4,i6,ic⟩
      ·refine aY rfl rfl rfl ?_;rintro wq ⟨a0,i8,i4,i6,ic⟩;repeat refine aF ?_
       exact aG rfl ⟨a0,i8,i4,i6,ic⟩
      ·refine aY rfl rfl rfl ?_;rintro wq ⟨a0,i8,i4,i6,ic⟩;repeat refine aF ?_
       exact aG rfl ⟨a0,i8,i4,i6,ic⟩
      ·refine aY rfl rfl rfl ?_;rintro wq ⟨a0,i8,i4,i6,ic⟩;repeat (first|refine eH rfl rfl rfl ?_|(refine aI ?_;refine aC (j:=i) rfl rfl rfl oM rfl ⟨_,_,k0.grow ic⟩ rfl ?_)|refine yC ?_)
       exact aG rfl ⟨a0,i8,i4,i6,ic⟩
      ·refine aY rfl rfl rfl ?_;rintro wq ⟨a0,i8,i4,i6,ic⟩;have m3:wq.cell? (at' x.a3 (i*1))=some (.slice y0 j0.length x0):=(k0.grow ic).row.cell (by rw [Nat.mul_one];exact y3);repeat refine aF ?_
       exact aG rfl ⟨a0,i8,i4,i6,ic⟩
      ·refine aY rfl rfl rfl ?_;rintro wq ⟨a0,i8,i4,i6,ic⟩;refine eH rfl rfl rfl ?_;refine aB 139 ?_;refine aA rfl (eN _ _ ra p.high.length rc y0 j0.length x0 p.high j0 _ (f1.grow ic) (r1.grow ic)) rfl ?_;rintro _ wr ⟨rfl,g0⟩;repeat refine aF ?_
       exact aG rfl ⟨a0.grow g0,i8.grow g0,i4.grow g0,i6.grow g0,ic.trans g0⟩
      ·refine aY rfl rfl rfl ?_;rintro wq ⟨a0,i8,i4,i6,ic⟩;repeat refine aF ?_
       exact aG rfl ⟨a0,i8,i4,i6,ic⟩
      ·refine aY rfl rfl rfl ?_;rintro wq ⟨a0,i8,i4,i6,ic⟩;repeat refine aF ?_
       exact aG rfl ⟨a0,i8,i4,i6,ic⟩
     ·rintro w9 ⟨a0,i8,i4,i6,ic⟩;clear p0 g8 g4 g6;repeat refine aF ?_
      have cz:=c6.trans (Carry.grow ic);refine ⟨⟨rfl,rfl,rfl,rfl,rfl,rfl,rfl,rfl,trivial⟩,.slice la ti.low.length lc,.slice ra p.high.length rc,d2.go (Carry.grow ic) (ic.block m d2.lt),?_,i4,i6,?_,?_,cz,u3.trans (ButS.grow ic)⟩
      ·simp only [iL,if_neg o0];exact i8
      ·simp only [iL,if_neg o0];exact s3.go (Carry.grow ic)
      ·simp only [iL,if_neg o0];exact t3.go (Carry.grow ic)
    ·repeat refine aF ?_
     apply T.det 16 [.int .i64 (i:Int),.pointer (some ⟨b4,2,none⟩),.slice x.a3 x.n3 x.c3,.int .i64 (x.n3:Int),.bool false,.bool false,undef,undef,undef,undef,undef,undef,undef,undef,undef,.bool false]
      (λ wz=>Blk wz h0 228 (PtC p y (.slice qa p.low.length qc) (.slice ra p.high.length rc))∧Blk wz b8 228 [.slice x.a1 x.n1 x.c1,.slice x.a2 x.n2 x.c2,.slice x.a3 x.n3 x.c3,.int .i64 (ti.levels:Int),.slice la ti.low.length lc,.slice ra p.high.length rc]∧Blk wz b4 79 x.cs∧Blk wz b6 228 [.slice none 0 0,.slice none 0 0,.slice none 0 0,.int .i64 0,.slice none 0 0,.slice none 0 0]∧Grow w6 wz)
     ·rfl
     ·exact λ wz h1=>⟨p0.grow h1,g8.grow h1,g4.grow h1,g6.grow h1,r3.trans h1⟩
     ·clear p0 g8 g4 g6;repeat' (first|exact iZ|refine iB ?_ ?_)
      ·refine aY rfl rfl rfl ?_;rintro wq ⟨a0,i8,i4,i6,ic⟩;repeat refine aF ?_
       exact aG rfl ⟨a0,i8,i4,i6,ic⟩
      ·refine aY rfl rfl rfl ?_;rintro wq ⟨a0,i8,i4,i6,ic⟩;repeat refine aF ?_
       exact aG rfl ⟨a0,i8,i4,i6,ic⟩
      ·refine aY rfl rfl rfl ?_;rintro wq ⟨a0,i8,i4,i6,ic⟩;repeat refine aF ?_
       exact aG rfl ⟨a0,i8,i4,i6,ic⟩
      ·refine aY rfl rfl rfl ?_;rintro wq ⟨a0,i8,i4,i6,ic⟩;repeat refine aF ?_
       exact aG rfl ⟨a0,i8,i4,i6,ic⟩
      ·refine aY rfl rfl rfl ?_;rintro wq ⟨a0,i8,i4,i6,ic⟩;repeat refine aF ?_
       exact aG rfl ⟨a0,i8,i4,i6,ic⟩
      ·refine aY rfl rfl rfl ?_;rintro wq ⟨a0,i8,i4,i6,ic⟩;repeat refine aF ?_
       exact aG rfl ⟨a0,i8,i4,i6,ic⟩
      ·refine aY rfl rfl rfl ?_;rintro wq ⟨a0,i8,i4,i6,ic⟩;repeat refine aF ?_
       exact aG rfl ⟨a0,i8,i4,i6,ic⟩
      ·refine aY rfl rfl rfl ?_;rintro wq ⟨a0,i8,i4,i6,ic⟩;repeat refine aF ?_
       exact aG rfl ⟨a0,i8,i4,i6,ic⟩
      ·refine aY rfl rfl rfl ?_;rintro wq ⟨a0,i8,i4,i6,ic⟩;repeat refine aF ?_
       exact aG rfl ⟨a0,i8,i4,i6,ic⟩
      ·refine aY rfl rfl rfl ?_;rintro wq ⟨a0,i8,i4,i6,ic⟩;repeat refine aF ?_
       exact aG rfl ⟨a0,i8,i4,i6,ic⟩
      ·refine aY rfl rfl rfl ?_;rintro wq ⟨a0,i8,i4,i6,ic⟩;repeat refine aF ?_
       exact aG rfl ⟨a0,i8,i4,i6,ic⟩
      ·refine aY rfl rfl rfl ?_;rintro wq ⟨a0,i8,i4,i6,ic⟩;repeat refine aF ?_
       exact aG rfl ⟨a0,i8,i4,i6,ic⟩
      ·refine aY rfl rfl rfl ?_;rintro wq ⟨a0,i8,i4,i6,ic⟩;repeat refine aF ?_
       exact aG rfl ⟨a0,i8,i4,i6,ic⟩
      ·refine aY rfl rfl rfl ?_;rintro wq ⟨a0,i8,i4,i6,ic⟩;repeat refine aF ?_
       exact aG rfl ⟨a0,i8,i4,i6,ic⟩
      ·refine aY rfl rfl rfl ?_;rintro wq ⟨a0,i8,i4,i6,ic⟩;repeat refine aF ?_
       exact aG rfl ⟨a0,i8,i4,i6,ic⟩
      ·refine aY rfl rfl rfl ?_;rintro wq ⟨a0,i8,i4,i6,ic⟩;repeat refine aF ?_
       exact aG rfl ⟨a0,i8,i4,i6,ic⟩
     ·rintro w9 ⟨a0,i8,i4,i6,ic⟩;clear p0 g8 g4 g6;repeat refine aF ?_
      have cz:=c6.trans (Carry.grow ic);refine ⟨⟨rfl,rfl,rfl,rfl,rfl,rfl,rfl,rfl,trivial⟩,.slice la ti.low.length lc,.slice ra p.high.length rc,d2.go (Carry.grow ic) (ic.block m d2.lt),?_,i4,i6,?_,?_,cz,u3.trans (ButS.grow ic)⟩
      ·simp only [iL,if_neg o0];exact i8
      ·simp only [iL,if_neg o0];exact s3.go (Carry.grow ic)
      ·simp only [iL,if_neg o0];exact t3.go (Carry.grow ic)
 rintro e w9 ⟨j2,i3,j3,j7,j8,j4,j6,m7,n7,c9,b9⟩;refine bD (e':=[(18,_),(17,_),(16,_),(8,_),(6,_),(4,_),(2,_),(0,_)]) ?_ j2;clear j2;repeat refine aF ?_
 exact aE (i+1,iL nd i ti p,M1,i3,j3) ⟨rfl,rfl,rfl,rfl,rfl,rfl,rfl,rfl,trivial⟩ ⟨by simp only;omega,o5,by unfold iL;split<;>rfl,j8,j4,j6,j7,m7,n7,c9,b9⟩ (by simp only;omega)
end Go.Proofs.YtfpadnmdafiddaaGreatDoor
namespace Go.V
open Go Go.RowKit
def fieldTB (P:Program) (s:TypeId) (f off ft:Nat):Bool :=
 match P.underlying s with
 | some (.struct fs)=>match fs[f]? with
  | some fd=>fd.offset==off&&fd.type==ft
  | none=>false
 | _=>false
class FieldT (P:Program) (s:TypeId) (f:Nat) (off ft:outParam Nat):Prop where
 h:fieldTB P s f off ft=true
theorem run_field {P:Program} {s f a0 ft m:Nat} [h:FieldT P s f a0 ft] [ha:Agg P ft m] (cs:List Value) (w:World) :
  (Instr.field s (.agg cs.toArray) f).run P w=.ok (.agg ((cs.drop a0).take m).toArray) w:=by
 have h:=h.h;unfold fieldTB at h;split at h
 ·rename_i fs hu;split at h
  ·rename_i fd hf;simp only [Bool.and_eq_true,beq_iff_eq] at h;obtain ⟨h1,h2⟩:=h;simp [Instr.field,underlying,hu,hf,h1,h2,asAgg,part,ha.agg,ha.size,List.extract_toArray,List.extract]
  ·cases h
 ·cases h
section
variable [Rn]
variable {P:Program} {n:Nat} {e:dI} {w:World} {Q:dA} {ops:Array Oper} {rest:List Oper} {d:Nat} {ty:TypeId} {pos:String} {aft:Array Edge}
theorem TL.fieldV {s f a0 ft m:Nat} {x:Operand} {cs:List Value} [h:FieldT P s f a0 ft] [ha:Agg P ft m] (hx:val e x=some (.agg cs.toArray)) (hd:Nat.blt d n=true)
  (k:TL P n ops rest ((d,.agg ((cs.drop a0).take m).toArray)::e) w Q):TL P n ops (⟨some d,.field s x f,ty,pos,aft,none⟩::rest) e w Q :=
 TL.run (λ a ha=>by simp [execOp,ha.eval hx,run_field]) hd k
end
end Go.V
namespace Go.Proofs.YtfpadnmdafiddaaGreatDoor
open Go Go.RowKit Go.V
instance:FieldT Tryz.prog 228 0 0 79:=⟨kR⟩
theorem partC_all {L:PL} {g:Pg} {b m:Nat} (a0:b≠m∧m≠L.p∧m≠L.d∧m≠L.u∧m≠L.m):∀ f,f≤16→PartC L g b m f:=by
 intro f
 induction f with
 | zero=>exact λ hf=>part_of hf a0 (λ f' h=>by omega)
 | succ f ih =>
  intro hf;refine part_of hf a0 (λ f' h=>?_);obtain rfl:f=f':=by omega
  exact branch_of oM a0 (ih oM)
theorem sizeN_le {n:Nd} (h:bF n=true):aT n≤8:=by
 unfold bF at h;unfold aT;split at h
 ·obtain ⟨_,h8,_⟩:=dG h;have:n.kids=[]:=bL.1 (by assumption);simp only [this,List.length_nil];omega
 ·obtain ⟨h0,_,h8,_⟩:=cO h;simp only [h0,List.length_nil];omega
theorem tree_c {L:PL} {g:Pg} {w:World} {b m lv:Nat} {G:Nat→Prop} {M M':fS} {a0:Option Nat} (h:PgAt w L g) (i0:Blk w b 226 [.pointer (some ⟨L.p,0,none⟩),.map (some m)]) (hM:MemAt G w m M) (o0:b≠m∧m≠L.p∧m≠L.d∧m≠L.u∧m≠L.m)
  (t0:∀ k,G k→k≠m) (s0:∀ k,w.heap.size≤k→G k) (hr:∀ n,a0=some n→n<4294967296) (ht:treeP g a0 M=some (lv,M')) :
  Calls Tryz.prog 88 #[.pointer (some ⟨b,0,none⟩),.int .i64 (dS a0)] w (Ret λ v w'=>v=.tuple #[.int .i64 (lv:Int),.int .i64 0]∧MemAt G w' m M'∧ButS (λ k=>k=m) w w'):=by
 have z0:=hM.lt;have g1:=i0.lt;have m0:=h.lts;refine V.calls (args:=[_,_]) Tryz.func88 rfl Tryz.ntmps88 rfl rfl ?_
 cases a0 with
 | none =>
  unfold treeP at ht;simp only [Option.some.injEq,Prod.mk.injEq] at ht;obtain ⟨rfl,rfl⟩:=ht;simp only [dS];repeat (first|(refine aB 93 ?_;refine aA rfl (ready_c h (-1) oM oM) rfl ?_;rintro _ _ ⟨rfl,rfl⟩)|refine yC ?_)
  exact fJ rfl rfl ⟨_,rfl,rfl,hM,ButS.grow (Grow.refl _)⟩
 | some n =>
  unfold treeP at ht;simp only at ht;split at ht
  ·cases ht
  rename_i t M1 hp;split at ht
  ·cases ht
  rename_i hz;simp only [Option.some.injEq,Prod.mk.injEq] at ht;obtain ⟨rfl,rfl⟩:=ht;simp only [dS];have hn:=hr n rfl;repeat (first|(refine aB 93 ?_;refine aA rfl (ready_c h (n:Int) oM oM) rfl ?_;rintro _ _ ⟨rfl,rfl⟩)|refine yC ?_)
  refine aB 156 ?_;refine aA rfl (partC_all o0 16 (Nat.le_refl _) w G M M1 n t h i0 hM t0 s0 hn hp) rfl ?_;rintro _ w1 ⟨⟨x,lo,hi,rfl,f0⟩,q0,j0⟩;obtain ⟨la,lc,rfl,e1⟩:=f0.lo.sl;obtain ⟨ha,hc,rfl,f1⟩:=f0.hi.sl;have g0:=f0.nd;obtain ⟨x0,v0,u0⟩:=g0.nums;have z1:=j0.size;have e0:=sizeN_le f0.ok
  have y0:(((x.n1+x.n2:Nat):Int)==0)=false:=by
   rw [beq_eq_false_iff_ne];unfold aT at hz;omega
  repeat (first|(refine aB 83 ?_;refine aA rfl (size_nd _ _ (by unfold aT at e0;omega) (by unfold aT at e0;omega)) rfl ?_;rintro _ _ ⟨rfl,n0⟩)|refine yC ?_|refine yI λ bk w' hg p0 l0 k0=>?_|refine yJ λ w' hu p0 l0=>?_)
  have h0:=(aH hu oM hg).trans n0;exact fJ rfl rfl ⟨_,rfl,rfl,q0.go (Carry.grow h0) (h0.block m oM),j0.trans (ButS.grow h0)⟩
theorem wnode_c {w:World} {b m n p:Nat} {G:Nat→Prop} {M:fS} {t:Part} (l0:Blk w b 226 [.pointer (some ⟨p,0,none⟩),.map (some m)]) (hM:MemAt G w m M) (hn:n<4294967296) (ht:gM M n=some t) :
  Calls Tryz.prog 163 #[.pointer (some ⟨b,0,none⟩),.int .i64 (n:Int)] w (Ret λ v w'=>∃ x:NV,v=x.val∧NdAt G w' x t.node∧Grow w w'):=by
 have o0:=l0.lt;obtain ⟨fm,a0,n0,j0⟩:=id hM;have m0:=a0.lt;obtain ⟨x,lo,hi,k0,i0⟩:=j0 n t ht;refine V.calls (args:=[_,_]) Tryz.func163 rfl Tryz.ntmps163 rfl rfl ?_;repeat (first|(refine mR ?_;refine TL.lookup1 rfl rfl (a0.grow hg) k0 oM rfl ?_)|refine yA ?_|refine yI λ bk w' hg f0 h0 g0=>?_)
 refine TL.fieldV (cs:=PtC t x lo hi) rfl rfl ?_;repeat (first|refine dD ?_|refine yJ λ w' hu f0 h0=>?_)
 have e0:Grow w w':=aH hu oM (by assumption);exact retC rfl (aW f0 rfl) ⟨_,rfl,x,rfl,i0.nd.go (Carry.grow e0),e0⟩
theorem mem_new {w w':World} {b p m:Nat} (h:WkAt w b p m (λ _=>none)) {G:Nat→Prop}:MemAt G w m [] :=
 ⟨_,h.map,λ _ _=>rfl,λ n t ht=>by cases ht⟩
theorem grow_buts {w w0 w1:World} {m:Nat} (hg:Grow w w0) (h:ButS (λ k=>k=m) w0 w1) (hm:w.heap.size≤m):Grow w w1 :=
 ⟨⟨h.os.trans hg.1.os,h.tape.trans hg.1.tape,h.output.trans hg.1.output,by have:=hg.2;have:=h.size;omega,λ k hk=>(h.block k (by have:=hg.2;omega) oM).trans (hg.block k hk)⟩,by have:=hg.2;have:=h.size;omega⟩
end Go.Proofs.YtfpadnmdafiddaaGreatDoor
namespace Go.Proofs.YtfpadnmdafiddaaGreatDoor
theorem Vt.height {s:Pg}:∀ {h h':Nat} {nd:Nd} {l l':bT} {ps a0:List Nat},Vt s h nd l ps→Vt s h' nd l' a0→h=h'
 | 0,h',nd,_,_,_,_,a,b=>by
  have:=b.leaf.1 (a.leaf.2 rfl);omega
 | h+1,0,nd,_,_,_,_,a,b=>by
  have:=a.leaf.1 (b.leaf.2 rfl);omega
 | h+1,h'+1,nd,_,_,_,_,⟨ls,e1,e2,e3,_,_,_,_,e8⟩,⟨ls',f1,f2,f3,_,_,_,_,f8⟩=>by
  rw [e2] at f2
  cases ls with
  | nil=>cases e3
  | cons x r =>
   cases ls' with
   | nil=>cases f3
   | cons y r' =>
    simp only [List.map_cons,List.cons.injEq] at f2;obtain ⟨n1,g1,_,g3⟩:=e8 x sM;obtain ⟨n2,k1,_,k3⟩:=f8 y sM;rw [f2.1,k1] at g1;cases g1;have:=g3.height k3;omega
theorem Vt.many {s:Pg}:∀ {h:Nat} {nd:Nd} {l:bT} {ps:List Nat},Vt s h nd l ps→aT nd*4^h≤l.length
 | 0,nd,l,ps,h=>by obtain ⟨rfl,_⟩:=h;simp [aT]
 | h+1,nd,l,ps,⟨ls,e1,e2,e3,e4,e5,e6,e7,e8⟩=>by
  have hz:aT nd=ls.length:=by simp [aT,e1,e2]
  rw [hz,e6];clear e6 e3 hz e2 e4 e5 e7
  induction ls with
  | nil=>simp
  | cons x r ih =>
   obtain ⟨a0,g1,g2,g3⟩:=e8 x sM;have h1:=g3.many;have h2:=ih (λ y hy=>e8 y (List.mem_cons_of_mem _ hy));have h3:4*4^h≤aT a0*4^h:=Nat.mul_le_mul_right _ g2;simp only [List.flatMap_cons,List.length_append,List.length_cons,Nat.pow_succ] at h2 ⊢;have h4:(r.length+1)*(4^h*4)=r.length*(4^h*4)+4^h*4:=by rw [Nat.add_mul,Nat.one_mul]
   omega
theorem Vt.pages {s:Pg}:∀ {h:Nat} {nd:Nd} {l:bT} {ps:List Nat},Vt s h nd l ps→3*ps.length+aT nd≤l.length
 | 0,nd,l,ps,h=>by obtain ⟨rfl,rfl,_⟩:=h;simp [aT]
 | h+1,nd,l,ps,⟨ls,e1,e2,e3,e4,e5,e6,e7,e8⟩=>by
  have hz:aT nd=ls.length:=by simp [aT,e1,e2]
  rw [hz,e6,e7];clear e6 e3 hz e2 e7 e4 e5
  induction ls with
  | nil=>simp
  | cons x r ih =>
   obtain ⟨a0,g1,g2,g3⟩:=e8 x sM;have h1:=g3.pages;have h2:=ih (λ y hy=>e8 y (List.mem_cons_of_mem _ hy));simp only [List.flatMap_cons,List.length_append,List.length_cons] at h2 ⊢;omega
theorem Vt.below {s:Pg}:∀ {h:Nat} {nd:Nd} {l:bT} {ps:List Nat},Vt s h nd l ps→∀ p∈ps,∃ h' a0 l' e0,h'<h∧cD s p=some a0∧Vt s h' a0 l' e0
 | 0,nd,l,ps,h,p,hp=>by obtain ⟨_,rfl,_⟩:=h;cases hp
 | h+1,nd,l,ps,⟨ls,e1,e2,e3,_,_,e6,e7,e8⟩,p,hp=>by
  rw [e7] at hp;obtain ⟨x,hx,hpx⟩:=List.mem_flatMap.1 hp;obtain ⟨a0,g1,g2,g3⟩:=e8 x hx;rcases List.mem_cons.1 hpx with rfl|hpx
  ·exact ⟨h,a0,_,_,oM,g1,g3⟩
  ·obtain ⟨h',n',l',e0,q1,q2,q3⟩:=g3.below p hpx;exact ⟨h',n',l',e0,oM,q2,q3⟩
def TrAt (s:Pg):Option Nat→Nat→bT→List Nat→Prop
 | none,lv,l,ps=>lv=0∧l=[]∧ps=[]
 | some n,lv,l,ps=>∃ h nd ps',lv=h+1∧cD s n=some nd∧Vt s h nd l ps'∧1≤aT nd∧ps=n::ps'
theorem TrAt.srt {s:Pg} {r:Option Nat} {lv:Nat} {l:bT} {ps:List Nat} (h:TrAt s r lv l ps):Srt l:=by
 cases r with
 | none=>rw [h.2.1];exact List.Pairwise.nil
 | some n=>obtain ⟨h,nd,a0,e1,e2,e3,e4,e5⟩:=h;exact e3.srt
theorem TrAt.items {s:Pg} {r:Option Nat} {lv:Nat} {l:bT} {ps:List Nat} (h:TrAt s r lv l ps):∀ x∈l,dW x.1=true∧eR x.2=true:=by
 cases r with
 | none=>rw [h.2.1];intro x hx;cases hx
 | some n=>obtain ⟨h,nd,a0,e1,e2,e3,e4,e5⟩:=h;exact e3.items
theorem TrAt.lt {s:Pg} (hs:PgOk s) {n lv:Nat} {l:bT} {ps:List Nat} (h:TrAt s (some n) lv l ps):n<8192:=by
 obtain ⟨h,nd,a0,e1,e2,e3,e4,e5⟩:=h;have:=dV (dL e2);have:=hs.cnt;omega
theorem TrAt.many {s:Pg} {r:Option Nat} {lv:Nat} {l:bT} {ps:List Nat} (h:TrAt s r lv l ps) (h2:2≤lv):2*4^(lv-1)≤l.length:=by
 cases r with
 | none=>have:=h.1;omega
 | some n =>
  obtain ⟨h,nd,e0,rfl,e2,e3,e4,e5⟩:=h;have h1:=e3.many
  have hz:2≤aT nd:=by
   have a0:=fB e2;obtain ⟨h,rfl⟩:∃ g,h=g+1:=⟨h-1,oM⟩
   have hl:¬ bN nd=true:=λ e=>by have:=e3.leaf.1 e;omega
   unfold bF at a0;rw [if_neg hl] at a0;obtain ⟨_,w2,_⟩:=cO a0;unfold aT;omega
  have h3:2*4^h≤aT nd*4^h:=Nat.mul_le_mul_right _ hz;rw [Nat.add_sub_cancel];omega
theorem TrAt.pages {s:Pg} {r:Option Nat} {lv:Nat} {l:bT} {ps:List Nat} (h:TrAt s r lv l ps):3*ps.length≤l.length+2:=by
 cases r with
 | none=>rw [h.2.2];simp
 | some n =>
  obtain ⟨h,nd,a0,rfl,e2,e3,e4,rfl⟩:=h;have:=e3.pages;simp only [List.length_cons];omega
theorem TrAt.levels {s:Pg} {r:Option Nat} {lv k:Nat} {l:bT} {ps:List Nat} (h:TrAt s r lv l ps) (hk:1≤k) (hl:l.length<2*4^k):lv≤k:=by
 by_cases h2:lv≤k
 ·exact h2
 ·have h3:=h.many oM;have h4:4^k≤4^(lv-1):=Nat.pow_le_pow_right oM oM;omega
theorem Ext.spare {s s':Pg} (h:Ext s s'):cC s'≤cC s:=by
 unfold cC
 have:fN s≤fN s':=by
  unfold fN;rw [h.count,← List.countP_eq_length_filter,← List.countP_eq_length_filter];exact List.countP_mono_left λ n _ hn=>(h.used n hn).1
 rw [h.count];omega
theorem put_tr {s:Pg} {r:Option Nat} {lv:Nat} {l:bT} {ps:List Nat} (hs:PgOk s) (h:TrAt s r lv l ps) {key v:Bs} (hk:dW key=true) (hv:eR v=true) (o0:lv≤16) (n0:2*lv+1≤cC s) :
  ∃ n s' lv' f0,putP s r key v=some (n,s')∧Ext s s'∧PgOk s'∧TrAt s' (some n) lv' (gQ key v l) f0∧cC s'+lv+f0.length=cC s+ps.length∧cC s≤cC s'+(2*lv+1)∧cC s'≤cC s:=by
 cases r with
 | none =>
  obtain ⟨rfl,rfl,rfl⟩:=h
  have g0:bF ⟨[(key,v)],[],[]⟩=true:=leaf_ok (List.pairwise_singleton _ _) (λ x hx=>by
   rw [List.mem_singleton] at hx;subst hx;exact ⟨hk,hv⟩) sM
  obtain ⟨n,s',e,hw⟩:=hO hs oM g0;have:=hw.spare
  refine ⟨n,s',1,[n],by simpa [putP] using e,hw.ext,hw.ok,⟨0,_,[],rfl,hw.node,⟨rfl,rfl,List.pairwise_singleton _ _,λ x hx=>by
   simp only [gQ,List.mem_singleton] at hx;subst hx;exact ⟨hk,hv⟩⟩,by simp [aT,gQ],rfl⟩,by simp;omega,oM,oM⟩
 | some n =>
  obtain ⟨h,nd,f0,rfl,e2,e3,e4,rfl⟩:=h;obtain ⟨fr,th,q1,_,q3,up,s',l0,q4,q5,q6,q7⟩:=put_up key v hk hv h (f:=16) hs e2 e3 oM e4 oM
  have k0:∀ {z:Option (Nat×Pg)},(match up.kids with | [k]=>some (k,s')|_=>gV s' up)=z→putP s (some n) key v=z:=by
   intro z hz;simp only [putP,q1,q4];exact hz
  have a0:=q5.len;have e0:=q5.two;simp only [List.length_cons]
  match l0,q5,a0,e0,q6,q7 with
  | [],q5,a0,_,_,_=>simp at a0
  | [x],q5,a0,_,q6,q7 =>
   obtain ⟨i0,g1,g2,g3⟩:=q5.sub x sM;have hz:1≤aT i0:=by omega
   have hi:gQ key v l=x.its:=by rw [q5.its];simp
   rw [pgs_one] at q6 q7;simp only [List.length_cons] at q6 q7;refine ⟨x.page,s',h+1,x.page::x.ps,k0 (by rw [q5.kids];rfl),q5.ext,q5.ok,⟨h,i0,x.ps,rfl,g1,by rw [hi];exact g3,hz,rfl⟩,by simp only [List.length_cons];omega,oM,q5.ext.spare⟩
  | [x,y],q5,a0,_,q6,q7 =>
   have h0:=q5.big rfl
   have j0:Vt s' (h+1) up (gQ key v l) (pgs [x,y]):=⟨[x,y],q5.items,q5.kids,q5.len,q5.toks,q5.keys,q5.its,rfl,λ z hz=>by
    obtain ⟨n1,g1,g2,g3⟩:=q5.sub z hz;obtain ⟨n2,g4,g5⟩:=h0 z hz;rw [g1] at g4;cases g4
    exact ⟨n1,g1,g5,g3⟩⟩
   have m0:aT up=2:=by simp [aT,q5.items,q5.kids]
   have g0:=j0.ok q5.ok (.inl oM) oM;obtain ⟨m,s2,w1,w2⟩:=hO q5.ok (by simp [pgs] at q6 q7;omega) g0;have:=w2.spare;refine ⟨m,s2,h+2,m::pgs [x,y],k0 (by rw [q5.kids];exact w1),q5.ext.trans w2.ext,w2.ok,⟨h+1,up,_,rfl,w2.node,j0.ext w2.ext,oM,rfl⟩,by simp only [List.length_cons];omega,oM,(q5.ext.trans w2.ext).spare⟩
  | x::y::z::r,q5,a0,e0,_,_=>simp at e0
end Go.Proofs.YtfpadnmdafiddaaGreatDoor
