import Derived.Test.YtfpadnmdafiddaaGreatDoorP0
import Derived.Test.YtfpadnmdafiddaaGreatDoorPb
import Derived.Test.YtfpadnmdafiddaaGreatDoorPd
import Derived.Test.YtfpadnmdafiddaaGreatDoorPc
set_option linter.all false
set_option maxHeartbeats 16000000
set_option maxRecDepth 100000
namespace Go.V
open Go Go.RowKit
structure AFact (SA:World→World→Prop) where
 G:Fact
 st:∀ v lo hi w w',Grow w w'→G v lo hi w→G v lo hi w'
 firm:Bool:=false
 fm:firm=true→∀ v lo hi w w',SA w w'→G v lo hi w→G v lo hi w':=by intro h;cases h
section any
variable {SA:World→World→Prop}
def afAt:List (AFact SA)→Nat→Fact
 | [],_=>λ _ _ _ _=>True
 | g::_,0=>g.G
 | _::gs,i+1=>afAt gs i
def afFirm:List (AFact SA)→Nat→Bool
 | [],_=>true
 | g::_,0=>g.firm
 | _::gs,i+1=>afFirm gs i
theorem afAt_keep:∀ (Gs:List (AFact SA)) (i:Nat) (v:Value) (lo hi:Nat) (w w':World),Grow w w'→afAt Gs i v lo hi w→afAt Gs i v lo hi w'
 | [],_,_,_,_,_,_,_,_=>trivial
 | g::_,0,v,lo,hi,w,w',hg,h=>g.st v lo hi w w' hg h
 | _::gs,i+1,v,lo,hi,w,w',hg,h=>afAt_keep gs i v lo hi w w' hg h
theorem afAt_firm:∀ (Gs:List (AFact SA)) (i:Nat) (v:Value) (lo hi:Nat) (w w':World),afFirm Gs i=true→SA w w'→afAt Gs i v lo hi w→afAt Gs i v lo hi w'
 | [],_,_,_,_,_,_,_,_,_=>trivial
 | g::_,0,v,lo,hi,w,w',hf,hg,h=>g.fm hf v lo hi w w' hg h
 | _::gs,i+1,v,lo,hi,w,w',hf,hg,h=>afAt_firm gs i v lo hi w w' hf hg h
def NeedA (l:List Oper) (Gs:List (AFact SA)) (w:World) (lo hi:Nat→Nat) (K:dI→Prop):List Nat→dI→Prop
 | [],acc=>K acc
 | j::js,acc=>∀ v,afAt Gs j v (lo j) (hi j) w→NeedA l Gs w lo hi K js ((fM l j,v)::acc)
theorem needA_env {l:List Oper} {Gs:List (AFact SA)} {w:World} {lo hi:Nat→Nat} {K:dI→Prop} {vs:Nat→Value}:∀ {js:List Nat} {e0:dI},NeedA l Gs w lo hi K js e0→(∀ j∈js,afAt Gs j (vs j) (lo j) (hi j) w) →
  ∃ a0,K a0∧∀ t v,find a0 t=some v→(∃ j,j∈js∧t=fM l j∧v=vs j)∨find e0 t=some v
 | [],e0,h,_=>⟨e0,h,λ t v hv=>Or.inr hv⟩
 | j::js,e0,h,hf=>by
  obtain ⟨a0,hk,hfd⟩:=needA_env (vs:=vs) (js:=js) (h (vs j) (hf j sM)) (λ x hx=>hf x (by simp [hx]));refine ⟨a0,hk,λ t v hv=>?_⟩;rcases hfd t v hv with ⟨x,hx,h1,h2⟩|h1
  ·exact Or.inl ⟨x,by simp [hx],h1,h2⟩
  ·rw [fT] at h1;split at h1
   ·rename_i hd;cases h1;exact Or.inl ⟨j,sM,hd.symm,rfl⟩
   ·exact Or.inr h1
def oneA (d:Nat) (G:Fact) (R:World→World→Prop) (w:World):dA:=λ x e' w' =>
 match x with
 | .normal=>∃ v,find e' d=some v∧R w w'∧G v w.heap.size w'.heap.size w'
 | _=>False
def DoesA [Rn] (P:Program) (n:Nat) (l:List Oper) (e:dI) (I0 I1 Iw:World→Prop) (Gs:List (AFact SA)) (A i:Nat):Prop :=
 match l[i]? with
 | none=>True
 | some o=>match Nat.beq i A with
  | true=>∀ w lo hi,I0 w→NeedA l Gs w lo hi (λ acc=>TL P n l.toArray [o] acc w (oneA (fM l i) (afAt Gs i) (λ w w'=>SA w w'∧I1 w') w)) (lC (bH o)) e
  | false=>∀ w lo hi,Iw w→NeedA l Gs w lo hi (λ acc=>TL P n l.toArray [o] acc w (oneA (fM l i) (afAt Gs i) Grow w)) (lC (bH o)) e
def AllA [Rn] (P:Program) (n:Nat) (l:List Oper) (e:dI) (I0 I1 Iw:World→Prop) (Gs:List (AFact SA)) (A:Nat):Nat→Nat→Prop
 | _,0=>True
 | i,k+1=>DoesA P n l e I0 I1 Iw Gs A i∧AllA P n l e I0 I1 Iw Gs A (i+1) k
theorem allA_at [Rn] {P:Program} {n:Nat} {l:List Oper} {e:dI} {I0 I1 Iw:World→Prop} {Gs:List (AFact SA)} {A:Nat}:∀ {k i:Nat},AllA P n l e I0 I1 Iw Gs A i k→∀ j,i≤j→j<i+k→DoesA P n l e I0 I1 Iw Gs A j
 | 0,_,_,j,h1,h2=>by omega
 | k+1,i,h,j,h1,h2=>by
  by_cases hj:j=i
  ·subst hj;exact h.1
  ·exact allA_at h.2 j oM oM
def lateB (l:List Oper) (A:Nat):Nat→Nat→Bool
 | 0,_=>false
 | f+1,j=>match l[j]? with
  | some o=>(bH o).any λ x=>Nat.beq x A || lateB l A f x
  | none=>false
def lateOk (l:List Oper) (Gs:List (AFact SA)) (A N:Nat):Bool:=(mY 0 N).all λ j=>afFirm Gs j || Nat.beq j A || lateB l A N j
structure MidA [Rn] (n:Nat) (l:List Oper) (e:dI) (b0:Nat) (I0 I1 Iw:World→Prop) (Gs:List (AFact SA)) (N A:Nat) (listed:Array Bool) (a:Act) (w:World) (vs:Nat→Value) (lo hi:Nat→Nat):Prop where
 size:listed.size=l.length
 before:listed.getD A false=false→I0 w
 behind:listed.getD A false=true→I1 w
 defers:a.defers=Rn.ds
 tmps:a.tmps.size=n
 get:∀ t v,find e t=some v→a.tmps.getD t undef=v
 did:∀ i,i<N→listed.getD i false=true→afAt Gs i (vs i) (lo i) (hi i) w∧a.tmps.getD (fM l i) undef=vs i
 span:∀ i,i<N→listed.getD i false=true→b0≤lo i∧lo i≤hi i∧hi i≤w.heap.size
 apart:∀ i j,i<N→j<N→i≠j→listed.getD i false=true→listed.getD j false=true→hi i≤lo j∨hi j≤lo i
 rest:∀ i,N≤i→listed.getD i false=false
 closed:∀ j o,l[j]? = some o→listed.getD j false=true→∀ x∈bH o,listed.getD x false=true
theorem MidA.iw [Rn] {n:Nat} {l:List Oper} {e:dI} {b0:Nat} {I0 I1 Iw:World→Prop} {Gs:List (AFact SA)} {N A:Nat} {a0:Array Bool} {a:Act} {w:World} {vs:Nat→Value} {lo hi:Nat→Nat} (m:MidA n l e b0 I0 I1 Iw Gs N A a0 a w vs lo hi) (h0:∀ w,I0 w→Iw w) (h1:∀ w,I1 w→Iw w):Iw w:=by
 cases hA:a0.getD A false with
 | false=>exact h0 w (m.before hA)
 | true=>exact h1 w (m.behind hA)
theorem late_listed {l:List Oper} {A:Nat} {a0:Array Bool} (hc:∀ j o,l[j]? = some o→a0.getD j false=true→∀ x∈bH o,a0.getD x false=true):∀ (f j:Nat),lateB l A f j=true→a0.getD j false=true→a0.getD A false=true
 | 0,_,h,_=>by cases h
 | f+1,j,h,hj=>by
  unfold lateB at h;split at h
  ·rename_i o ho;obtain ⟨x,hx,hb⟩:=List.any_eq_true.1 h;have hxl:=hc j o ho hj x hx;simp only [Bool.or_eq_true] at hb;rcases hb with hb|hb
   ·rw [Nat.eq_of_beq_eq_true hb] at hxl;exact hxl
   ·exact late_listed hc f x hb hxl
  ·cases h
variable [Rn]
variable {P:Program} {n:Nat} {l:List Oper} {e:dI} {b0:Nat} {I0 I1 Iw:World→Prop} {Gs:List (AFact SA)} {N A:Nat} {Q:dA}
theorem anyA_runs (hA:A<N) (hN:N≤l.length) (r1:N<l.length→∀ i,i<N→∃ j o,i<j∧j≤N∧l[j]? = some o∧i∈bH o)
  (i4:∀ w,I0 w→Iw w) (g4:∀ w,I1 w→Iw w) (e4:∀ w,Iw w→b0≤w.heap.size) (x3:∀ w w',I0 w→Grow w w'→I0 w') (w3:∀ w w',I1 w→Grow w w'→I1 w') (f4:∀ w w',SA w w'→w.heap.size≤w'.heap.size)
  (y1:lateOk l Gs A N=true)
  (hh:∀ i,i<N→HeadAt l e n i) (ht:∀ j,N≤j→j<l.length→∃ o,l[j]? = some o∧(∀ x∈bH o,x<j)∧(j=N∨j-1∈bH o))
  (z3:∀ i,i<N→DoesA P n l e I0 I1 Iw Gs A i)
  (o1:∀ w (lo hi:Nat→Nat) (vs:Nat→Value),I1 w→(∀ i,i<N→b0≤lo i∧lo i≤hi i∧hi i≤w.heap.size)→(∀ i j,i<N→j<N→i≠j→hi i≤lo j∨hi j≤lo i)→(∀ j,j<N→afAt Gs j (vs j) (lo j) (hi j) w) →
   ∃ u0,TL P n l.toArray (l.drop N) u0 w Q∧∀ t v,find u0 t=some v→(∃ j,j<N∧t=fM l j∧v=vs j)∨find e t=some v) :
  ∀ (m:Nat) (a0:Array Bool) (a:Act) (w:World) (vs:Nat→Value) (lo hi:Nat→Nat) (f:Nat),MidA n l e b0 I0 I1 Iw Gs N A a0 a w vs lo hi →
   ((List.range N).filter λ i=>!(a0.getD i false)).length=m→f=m+(l.length-N)→wpAnyIn (FR Rn.ro) 0 P .any l.toArray (iG n Q) f a0 a w:=by
 intro m
 induction m with
 | zero =>
  intro a0 a w vs lo hi f f0 hm hf
  have j0:∀ i,i<N→a0.getD i false=true:=by
   intro i hi;have:=List.eq_nil_of_length_eq_zero hm;have h2:=List.eq_nil_iff_forall_not_mem.1 this i;simp only [List.mem_filter,List.mem_range,not_and,Bool.not_eq_true',Bool.not_eq_false] at h2;exact h2 hi
  refine nB ht f N a0 a w oM (Nat.le_refl _) f0.size j0 (λ x hx g1=>?_) ?_
  ·have:=f0.rest x hx;rw [Array.getD_eq_getD_getElem?] at this ⊢
   cases hy:a0[x]? with
   | none=>rw [Array.getElem?_eq_none_iff] at hy;have:=f0.size;omega
   | some b=>simpa [hy] using this
  ·obtain ⟨u0,hk,n0⟩:=o1 w lo hi vs (f0.behind (j0 A hA)) (λ i k3=>f0.span i k3 (j0 i k3)) (λ i j h1 h2 h3=>f0.apart i j h1 h2 h3 (j0 i h1) (j0 j h2)) (λ j hj=>(f0.did j hj (j0 j hj)).1);refine hk.out ⟨f0.defers,f0.tmps,λ t v hv=>?_⟩;rcases n0 t v hv with ⟨j,hj,rfl,rfl⟩|h3
   ·exact (f0.did j hj (j0 j hj)).2
   ·exact f0.get t v h3
 | succ m ih =>
  intro a0 a w vs lo hi f f0 hm hf
  have u1:∃ i,i<N∧a0.getD i false=false:=by
   have x0:((List.range N).filter λ i=>!(a0.getD i false))≠[]:=by intro h0;rw [h0] at hm;simp at hm
   obtain ⟨i,hi⟩:=List.exists_mem_of_ne_nil _ x0;simp only [List.mem_filter,List.mem_range,Bool.not_eq_true'] at hi;exact ⟨i,hi.1,hi.2⟩
  obtain ⟨f',rfl⟩:∃ f',f=f'+1:=⟨f-1,oM⟩
  have v0:∀ j,j∈Region.ready .any l.toArray a0→j<N∧a0.getD j false=false:=by
   intro j hj;obtain ⟨h3,o,h4,h5⟩:=cT.1 hj;have d3:j<l.length:=(List.getElem?_eq_some_iff.1 h4).1
   have y3:a0.getD j false=false:=by
    rw [Array.getD_eq_getD_getElem?] at h3 ⊢
    cases hx:a0[j]? with
    | none=>simp
    | some b=>simpa [hx] using h3
   refine ⟨?_,y3⟩;rcases Nat.lt_or_ge j N with h|h
   ·exact h
   ·exfalso;obtain ⟨o2,h6,_,h7⟩:=ht j h d3;rw [h4] at h6;cases h6;obtain ⟨i,hi,u3⟩:=u1;by_cases g3:j=N
    ·subst g3
     have key:∀ k i,j-i≤k→i<j→a0.getD i false=false→False:=by
      intro k
      induction k with
      | zero=>intro i h1 h2;omega
      | succ k ihk =>
       intro i h1 h2 hl;obtain ⟨x,o3,z1,g1,d2,y2⟩:=r1 d3 i h2;by_cases q3:x=j
       ·subst q3;rw [h4] at d2;cases d2;have:=h5 i y2;rw [hl] at this;cases this
       ·refine ihk x oM oM ?_
        cases hv:a0.getD x false with
        | false=>rfl
        | true =>
         have:=f0.closed x o3 d2 hv i y2;rw [hl] at this;cases this
     exact key _ i (Nat.le_refl _) hi u3
    ·have h8:=h5 (j-1) (h7.resolve_left g3);rw [f0.rest (j-1) oM] at h8;cases h8
  have q1:Region.ready .any l.toArray a0≠[]:=by
   have key:∀ k i,i≤k→i<N→a0.getD i false=false→∃ j,j∈Region.ready .any l.toArray a0:=by
    intro k
    induction k with
    | zero =>
     intro i hi y0 hl;obtain ⟨o,d,ho,_,_,_,_,g0⟩:=(hh i y0).ex;refine ⟨i,cT.2 ⟨?_,o,ho,λ x hx=>?_⟩⟩
     ·rw [Array.getD_eq_getD_getElem?] at hl ⊢
      cases hx:a0[i]? with
      | none=>rw [Array.getElem?_eq_none_iff] at hx;have:=f0.size;omega
      | some b=>simpa [hx] using hl
     ·have:=g0 x hx;omega
    | succ k ihk =>
     intro i hi y0 hl;obtain ⟨o,d,ho,_,_,_,_,g0⟩:=(hh i y0).ex;by_cases hx:∃ x∈bH o,a0.getD x false=false
     ·obtain ⟨x,z1,g1⟩:=hx;have:=g0 x z1;exact ihk x oM oM g1
     ·refine ⟨i,cT.2 ⟨?_,o,ho,λ x z1=>?_⟩⟩
      ·rw [Array.getD_eq_getD_getElem?] at hl ⊢
       cases hx:a0[i]? with
       | none=>rw [Array.getElem?_eq_none_iff] at hx;have:=f0.size;omega
       | some b=>simpa [hx] using hl
      ·cases hv:a0.getD x false with
       | true=>rfl
       | false=>exact absurd ⟨x,z1,hv⟩ hx
   have x0:((List.range N).filter λ i=>!(a0.getD i false))≠[]:=by intro h0;rw [h0] at hm;simp at hm
   obtain ⟨i,hi⟩:=List.exists_mem_of_ne_nil _ x0;simp only [List.mem_filter,List.mem_range,Bool.not_eq_true'] at hi;obtain ⟨j,hj⟩:=key i i (Nat.le_refl _) hi.1 hi.2;intro h0;rw [h0] at hj;cases hj
  refine ⟨λ h0=>absurd h0 q1,λ i j3=>?_⟩;obtain ⟨y0,q2⟩:=v0 i j3;obtain ⟨_,o,ho,w2⟩:=cT.1 j3;obtain ⟨o',d,z2,hd,a4,c4,d4,g0⟩:=(hh i y0).ex;rw [ho] at z2;cases z2;have z0:fM l i=d:=by simp [fM,ho,hd]
  have l0:=z3 i y0;unfold DoesA at l0;simp only [ho] at l0;have i3:=f0.iw i4 g4;have o0:∀ j∈lC (bH o),afAt Gs j (vs j) (lo j) (hi j) w:=λ j hj=>(f0.did j (by have:=g0 j (fE.1 hj);omega) (w2 j (fE.1 hj))).1
  obtain ⟨u0,hk,n0⟩:∃ u0,TL P n l.toArray [o] u0 w (oneA (fM l i) (afAt Gs i) (λ w w'=>match Nat.beq i A with|true=>SA w w'∧I1 w'|false=>Grow w w') w)∧∀ t v,find u0 t=some v→(∃ j,j∈lC (bH o)∧t=fM l j∧v=vs j)∨find e t=some v:=by
   cases hb:Nat.beq i A with
   | true =>
    rw [hb] at l0;have m1:=Nat.eq_of_beq_eq_true hb;exact needA_env (vs:=vs) (l0 w lo hi (f0.before (by rw [← m1];exact q2))) o0
   | false =>
    rw [hb] at l0;exact needA_env (vs:=vs) (l0 w lo hi i3) o0
  have r2:Fits n u0 a:=⟨f0.defers,f0.tmps,λ t v hv=>by
   rcases n0 t v hv with ⟨j,hj,rfl,rfl⟩|h3
   ·exact (f0.did j (by have:=g0 j (fE.1 hj);omega) (w2 j (fE.1 hj))).2
   ·exact f0.get t v h3⟩
  have k0:=hk.out r2;unfold wpOpIn;rw [show l.toArray[i]? = some o by simpa using ho];simp only
  have s0:∀ a' w',iG n (oneA (fM l i) (afAt Gs i) (λ w w'=>match Nat.beq i A with|true=>SA w w'∧I1 w'|false=>Grow w w') w) .normal a' w'→(∃ v,a'.tmps=(a.put o.dst v).tmps)→wpAnyIn (FR Rn.ro) 0 P .any l.toArray (iG n Q) f' (a0.setIfInBounds i true) a' w':=by
   rintro a' w' ⟨e',s2,v,hv,hg,hG⟩ ⟨u,hu⟩;rw [z0] at hv;have e2:a'.tmps.getD d undef=v:=s2.get d v hv;rw [hu,hd] at e2;have u2:d<a.tmps.size:=by rw [f0.tmps];exact a4
   rw [jN u2,if_pos rfl] at e2;subst e2
   have m0:∀ t,t≠d→a'.tmps.getD t undef=a.tmps.getD t undef:=λ t ht=>by
    rw [hu,hd,jN u2,if_neg (λ h=>ht h.symm)]
   have r3:w.heap.size≤w'.heap.size:=by
    cases hb:Nat.beq i A with
    | true=>rw [hb] at hg;exact f4 _ _ hg.1
    | false=>rw [hb] at hg;exact hg.size
   have f2:i<a0.size:=by rw [f0.size];exact (List.getElem?_eq_some_iff.1 ho).1
   have m3:∀ b,(a0.setIfInBounds i true).getD A false=b→i≠A→a0.getD A false=b:=λ b h x0=>by
    rwa [Array.getD_eq_getD_getElem?,Array.getElem?_setIfInBounds_ne x0,← Array.getD_eq_getD_getElem?] at h
   refine ih (a0.setIfInBounds i true) a' w' (λ j=>if j=i then u else vs j) (λ j=>if j=i then w.heap.size else lo j) (λ j=>if j=i then w'.heap.size else hi j) f' ⟨by simp [f0.size],λ h=>?_,λ h=>?_,s2.defers,s2.size,λ t v hv=>?_,λ j hj q0=>?_,λ j hj q0=>?_,λ j k hj hk t3 q0 f3=>?_,λ j hj=>?_,λ j oj w1 q0 x hx=>?_⟩ ?_ oM
   ·cases hb:Nat.beq i A with
    | true =>
     have m1:=Nat.eq_of_beq_eq_true hb;rw [← m1] at h;simp [Array.getD_eq_getD_getElem?,f2] at h
    | false =>
     rw [hb] at hg;exact x3 _ _ (f0.before (m3 _ h (Nat.ne_of_beq_eq_false hb))) hg
   ·cases hb:Nat.beq i A with
    | true=>rw [hb] at hg;exact hg.2
    | false =>
     rw [hb] at hg;exact w3 _ _ (f0.behind (m3 _ h (Nat.ne_of_beq_eq_false hb))) hg
   ·have s3:t≠d:=λ h=>by rw [h,c4] at hv;cases hv
    rw [m0 t s3];exact f0.get t v hv
   ·by_cases i0:j=i
    ·subst i0;simp only [if_true];refine ⟨hG,?_⟩;rw [z0,hu,hd,jN u2,if_pos rfl]
    ·simp only [if_neg i0]
     have p0:a0.getD j false=true:=by
      rwa [Array.getD_eq_getD_getElem?,Array.getElem?_setIfInBounds_ne (λ h=>i0 h.symm),← Array.getD_eq_getD_getElem?] at q0
     obtain ⟨h1,h2⟩:=f0.did j hj p0;refine ⟨?_,?_⟩
     ·cases hb:Nat.beq i A with
      | false =>
       rw [hb] at hg;exact afAt_keep Gs j _ _ _ w w' hg h1
      | true =>
       rw [hb] at hg;have m1:=Nat.eq_of_beq_eq_true hb;have t0:=List.all_eq_true.1 y1 j (fC.2 ⟨Nat.zero_le _,oM⟩);simp only [Bool.or_eq_true] at t0;rcases t0 with (t0|t0)|t0
       ·exact afAt_firm Gs j _ _ _ w w' t0 hg.1 h1
       ·exact absurd ((Nat.eq_of_beq_eq_true t0).trans m1.symm) i0
       ·have:=late_listed f0.closed N j t0 p0;rw [← m1,q2] at this;cases this
     have x0:fM l j≠d:=by
      rcases Nat.lt_or_ge j i with h|h
      ·exact d4 j h
      ·obtain ⟨oj,dj,w1,b4,_,_,x2,_⟩:=(hh j hj).ex;have h3:=x2 i oM;rw [z0] at h3;have:fM l j=dj:=by simp [fM,w1,b4]
       rw [this];exact λ h=>h3 h.symm
     rw [m0 _ x0];exact h2
   ·by_cases i0:j=i
    ·subst i0;simp only [if_true];exact ⟨e4 _ i3,r3,Nat.le_refl _⟩
    ·have p0:a0.getD j false=true:=by
      rwa [Array.getD_eq_getD_getElem?,Array.getElem?_setIfInBounds_ne (λ h=>i0 h.symm),← Array.getD_eq_getD_getElem?] at q0
     simp only [if_neg i0];have:=f0.span j hj p0;omega
   ·have old:∀ x,x≠i→(a0.setIfInBounds i true).getD x false=true→a0.getD x false=true:=λ x hx h=>by
     rwa [Array.getD_eq_getD_getElem?,Array.getElem?_setIfInBounds_ne (λ h=>hx h.symm),← Array.getD_eq_getD_getElem?] at h
    by_cases i0:j=i
    ·by_cases j1:k=i
     ·omega
     ·simp only [if_pos i0,if_neg j1];have:=f0.span k hk (old k j1 f3);omega
    ·by_cases j1:k=i
     ·simp only [if_neg i0,if_pos j1];have:=f0.span j hj (old j i0 q0);omega
     ·simp only [if_neg i0,if_neg j1];exact f0.apart j k hj hk t3 (old j i0 q0) (old k j1 f3)
   ·rw [Array.getD_eq_getD_getElem?,Array.getElem?_setIfInBounds_ne oM,← Array.getD_eq_getD_getElem?];exact f0.rest j hj
   ·by_cases f1:i=x
    ·subst f1;simp [Array.getD_eq_getD_getElem?,f2]
    ·rw [Array.getD_eq_getD_getElem?,Array.getElem?_setIfInBounds_ne f1,← Array.getD_eq_getD_getElem?];by_cases i0:i=j
     ·subst i0;rw [ho] at w1;cases w1;exact w2 x hx
     ·rw [Array.getD_eq_getD_getElem?,Array.getElem?_setIfInBounds_ne i0,← Array.getD_eq_getD_getElem?] at q0;exact f0.closed j oj w1 q0 x hx
   ·
    have e1:∀ (L:List Nat),L.Nodup→i∈L→(L.filter λ j=>!((a0.setIfInBounds i true).getD j false)).length+1=(L.filter λ j=>!(a0.getD j false)).length:=by
     intro L
     induction L with
     | nil=>intro _ h;cases h
     | cons x xs ihx =>
      intro g2 j2;rw [List.nodup_cons] at g2;by_cases f1:x=i
      ·subst f1
       have s1:(xs.filter λ j=>!((a0.setIfInBounds x true).getD j false))=xs.filter λ j=>!(a0.getD j false):=by
        apply List.filter_congr;intro y hy;have p3:x≠y:=λ h=>g2.1 (h▸hy);rw [Array.getD_eq_getD_getElem?,Array.getElem?_setIfInBounds_ne p3,← Array.getD_eq_getD_getElem?]
       have h1:(a0.setIfInBounds x true).getD x false=true:=by simp [Array.getD_eq_getD_getElem?,f2]
       rw [List.filter_cons_of_neg (by simp [h1]),s1,List.filter_cons_of_pos (by simp [q2])];simp
      ·have x1:i∈xs:=by
        rcases List.mem_cons.1 j2 with h|h
        ·exact absurd h.symm f1
        ·exact h
       have:=ihx g2.2 x1
       have g1:(a0.setIfInBounds i true).getD x false=a0.getD x false:=by
        rw [Array.getD_eq_getD_getElem?,Array.getElem?_setIfInBounds_ne (λ h=>f1 h.symm),← Array.getD_eq_getD_getElem?]
       cases hc:a0.getD x false with
       | true=>rw [List.filter_cons_of_neg (by simp [g1,hc]),List.filter_cons_of_neg (by simp [hc])];exact this
       | false=>rw [List.filter_cons_of_pos (by simp [g1,hc]),List.filter_cons_of_pos (by simp [hc])];simp only [List.length_cons];omega
    have:=e1 (List.range N) List.nodup_range (List.mem_range.2 y0);omega
  unfold wpListIn at k0;split
  ·rename_i hw;rw [if_pos hw] at k0
   exact (Oper.wpIn_mono (λ a' w' hh=>s0 a' w' hh.1 hh.2) (wp_swap (wp_frame k0) (λ x a w hx hq=>by
     refine (lift_no hq λ e0 w0 hq=>?_).elim
     cases x<;>first|exact absurd rfl hx|exact hq)))
  ·rename_i hw;rw [if_neg hw] at k0;exact ⟨k0.1,s0 _ _ k0.2 ⟨undef,rfl⟩⟩
def gY (v:Value):AFact SA:=⟨λ u _ _ _=>u=v,λ _ _ _ _ _ _ h=>h,true,λ _ _ _ _ _ _ _ h=>h⟩
def ofA (R:Value→World→Prop) (h:∀ v w w',Grow w w'→R v w→R v w'):AFact SA:={ G:=λ v _ _ w=>R v w,st:=λ v _ _ w w' g=>h v w w' g }
theorem iO {i:Nat}:AllA P n l e I0 I1 Iw Gs A i 0:=trivial
theorem gT {i k:Nat} (h:DoesA P n l e I0 I1 Iw Gs A i) (hs:AllA P n l e I0 I1 Iw Gs A (i+1) k):AllA P n l e I0 I1 Iw Gs A i (k+1):=⟨h,hs⟩
theorem cZ {i d:Nat} {o:Oper} {g:AFact SA} (ho:l[i]? = some o) (hd:o.dst=some d) (hg:afAt Gs i=g.G) (hb:Nat.beq i A=false) (h:∀ w lo hi,Iw w→NeedA l Gs w lo hi (λ a0=>TL P n l.toArray [o] a0 w (oneA d g.G Grow w)) (lC (bH o)) e):DoesA P n l e I0 I1 Iw Gs A i:=by
 unfold DoesA;rw [ho];simp only [hb];rw [hg,dstAt_of (d:=d) (by rw [ho];exact hd)];exact h
theorem iN {i d:Nat} {o:Oper} {g:AFact SA} (ho:l[i]? = some o) (hd:o.dst=some d) (hg:afAt Gs i=g.G) (hb:Nat.beq i A=true) (h:∀ w lo hi,I0 w→NeedA l Gs w lo hi (λ a0=>TL P n l.toArray [o] a0 w (oneA d g.G (λ w w'=>SA w w'∧I1 w') w)) (lC (bH o)) e):DoesA P n l e I0 I1 Iw Gs A i:=by
 unfold DoesA;rw [ho];simp only [hb];rw [hg,dstAt_of (d:=d) (by rw [ho];exact hd)];exact h
theorem needA_cons {w:World} {lo hi:Nat→Nat} {K:dI→Prop} {j d:Nat} {g:AFact SA} {js:List Nat} {a0:dI} (hd:(l[j]?).bind (·.dst)=some d) (hg:afAt Gs j=g.G) (h:∀ v,g.G v (lo j) (hi j) w→NeedA l Gs w lo hi K js ((d,v)::a0)):NeedA l Gs w lo hi K (j::js) a0:=by
 unfold NeedA;rw [hg,dstAt_of hd];exact h
theorem needA_nil {w:World} {lo hi:Nat→Nat} {K:dI→Prop} {a0:dI} (h:K a0):NeedA l Gs w lo hi K [] a0:=h
theorem bQ {d:Nat} {G:Fact} {w w':World} {R:World→World→Prop} {e':dI} {v:Value} (hv:find e' d=some v) (hg:R w w') (hG:G v w.heap.size w'.heap.size w'):oneA d G R w .normal e' w':=⟨v,hv,hg,hG⟩
theorem mX {j0:Nat} {w0:World} (SA:World→World→Prop) (N A:Nat) (I0 I1 Iw:World→Prop) (Gs:List (AFact SA)) [hm:Mixed P] (hc:(headOk l e n 0 N&&mV l N N (l.length-N)&&Nat.ble N l.length&&(Nat.ble l.length N || sinkOk l N)&&Nat.blt A N&&lateOk l Gs A N)=true)
  (hI:I0 w0) (v0:∀ w,I0 w→Iw w) (u0:∀ w,I1 w→Iw w) (s0:∀ w,Iw w→w0.heap.size≤w.heap.size) (h0:∀ w w',I0 w→Grow w w'→I0 w') (k0:∀ w w',I1 w→Grow w w'→I1 w') (t0:∀ w w',SA w w'→w.heap.size≤w'.heap.size)
  (l0:AllA P n l e I0 I1 Iw Gs A 0 N) (e0:∀ w (lo hi:Nat→Nat),I1 w→(∀ i,i<N→w0.heap.size≤lo i∧lo i≤hi i∧hi i≤w.heap.size)→(∀ i j,i<N→j<N→i≠j→hi i≤lo j∨hi j≤lo i)→NeedA l Gs w lo hi (λ g0=>TL P n l.toArray (l.drop N) g0 w Q) (mY 0 N) e):T P n (.region j0 l.toArray true) e w0 Q:=by
 simp only [Bool.and_eq_true] at hc;obtain ⟨⟨⟨⟨⟨q0,p0⟩,o0⟩,i0⟩,n0⟩,m0⟩:=hc;have hN:N≤l.length:=Nat.le_of_ble_eq_true o0
 have f0:N<l.length→sinkOk l N=true:=by
  intro h;simp only [Bool.or_eq_true] at i0;rcases i0 with h2|h2
  ·have:=Nat.le_of_ble_eq_true h2;omega
  ·exact h2
 have a0:∀ i,(Array.replicate l.toArray.size false).getD i false=false:=by
  intro i;rw [Array.getD_eq_getD_getElem?];rcases Nat.lt_or_ge i l.length with hi|hi
  ·simp [hi]
  ·simp [hi]
 refine T.mk λ a ha=>wpIn_region_any hm.h ?_
 refine anyA_runs (b0:=w0.heap.size) (A:=A) (Nat.le_of_ble_eq_true n0) hN (λ h i hi=>sinkOk_at (f0 h) i hi) v0 u0 s0 h0 k0 t0 m0 (λ i hi=>headOk_at q0 i (Nat.zero_le _) oM) (λ j h1 h2=>lM p0 j h1 oM) (λ i hi=>allA_at l0 i (Nat.zero_le _) oM) ?_
  N (Array.replicate l.toArray.size false) a _ (λ _=>undef) (λ _=>0) (λ _=>0) _ ⟨sM,λ _=>h0 _ _ hI (Grow.drew _),λ h=>?_,ha.defers,ha.size,ha.get,λ i _ h=>?_,λ i _ h=>?_,λ i j _ _ _ h _=>?_,λ i _=>a0 i,λ j o _ h x _=>?_⟩ ?_ (by simp;omega)
 ·intro w lo hi vs h1 h2 h3 h4;obtain ⟨g0,hk,hf⟩:=needA_env (vs:=vs) (e0 w lo hi h1 h2 h3) (λ j hj=>h4 j (by have:=fC.1 hj;omega));refine ⟨g0,hk,λ t v hv=>?_⟩;rcases hf t v hv with ⟨j,hj,h5⟩|h5
  ·exact Or.inl ⟨j,by have:=fC.1 hj;omega,h5⟩
  ·exact Or.inr h5
 ·rw [a0] at h;cases h
 ·rw [a0] at h;cases h
 ·rw [a0] at h;cases h
 ·rw [a0] at h;cases h
 ·rw [a0] at h;cases h
 ·have:((List.range N).filter λ i=>!((Array.replicate l.toArray.size false).getD i false))=List.range N:=by
   rw [List.filter_eq_self];intro i hi;rw [a0];rfl
  rw [this];simp
end any
section
variable [Rn]
variable {P:Program} {n:Nat} {e:dI} {w:World} {Q:dA} {ops:Array Oper} {rest:List Oper} {d:Nat} {ty:TypeId} {pos:String} {aft:Array Edge}
theorem TL.orP (j:Nat) {zx zy:Int} {x y:Operand} {kd:IntKind} {M a b:Nat} {t1 t2:TypeId} (hx:val e x=some (.int kd zx)) [ix:Lit zx a] (hy:val e y=some (.int kd zy)) [iy:Lit zy b] (hM:ulim kd=some M) (ha:a<2^j) (hb:b%2^j=0) (f0:a<M) (e0:b<M) (hd:Nat.blt d n=true)
  (k:TL P n ops rest ((d,.int kd ((a+b:Nat):Int))::e) w Q):TL P n ops (⟨some d,.binOp .or t1 x y t2,ty,pos,aft,none⟩::rest) e w Q :=
 TL.run (λ r hr=>by
  rw [ix.h] at hx;rw [iy.h] at hy
  have e1:((BitVec.ofInt kd.bits (a:Int))|||(BitVec.ofInt kd.bits (b:Int))).toNat=a+b:=by
   rw [BitVec.toNat_or,bits_nat hM,bits_nat hM,Nat.mod_eq_of_lt f0,Nat.mod_eq_of_lt e0,or_apart rfl ha hb]
  have a0:a+b<M:=by
   rw [← e1,ulim_bits hM];exact BitVec.isLt _
  have e2:=eT hM a0;rw [← e1] at e2
  have hb:binOp .or t1 (.int kd (a:Int)) (.int kd (b:Int))=Pure.pure (.int kd ((a+b:Nat):Int)):=by
   simp only [binOp,Op.intBits,ne_eq,not_true_eq_false,if_false];rw [e2,e1]
  simp only [execOp,bG,hr.eval hx,hr.eval hy,hb]
  rfl) hd k
end
end Go.V
namespace Go.Proofs.YtfpadnmdafiddaaGreatDoor
open Go Go.RowKit Go.V
theorem Rd.lt {B b e:Nat} {r:Bs} {w:World} (h:Rd B b r e w):b<w.heap.size:=by
 obtain ⟨a,n,c,p,L,h1,_⟩:=h;exact h1.lt
theorem Rd.bytes {B b e:Nat} {r:Bs} {w:World} (h:Rd B b r e w):∀ x∈r,x<256:=by
 obtain ⟨a,n,c,p,L,h1,h2,h3,h4,h5,h6⟩:=h;intro x hx;exact h5 x (List.mem_of_mem_drop (i:=p) (by rw [h6];exact hx))
theorem Rd.len {B b e:Nat} {r:Bs} {w:World} (h:Rd B b r e w):r.length≤1099511627776:=by
 obtain ⟨a,n,c,p,L,h1,h2,h3,h4,h5,h6⟩:=h;have:=gW h2;have:=congrArg List.length h6;simp at this;omega
theorem take_yes' {B b m:Nat} {r:Bs} {w:World} (h:Rd B b r 0 w) (hm:m≤r.length) :
  Calls Tryz.prog 256 #[.pointer (some ⟨b,0,none⟩),.int .u64 (m:Int)] w (Ret λ v w'=>∃ a' c',v=.tuple #[.slice a' m c',.bool true]∧Sl (λ k=>B≤k∧k<b) w' 1 a' m c' (bB (r.take m))∧Rd B b (r.drop m) 0 w'∧Mut b w w'):=by
 obtain ⟨a,n,c,p,L,h1,h2,h3,h4,h5,h6⟩:=h;have hl:=gW h2;have hr:=congrArg List.length h6;simp at hr;refine Calls.mono (take_yes _ b a n c p m L w h1 h2 oM oM h3 oM) (λ x w' hx=>Ret.mono hx λ v w' hv=>?_);obtain ⟨a',c',q1,q2,q3,q4⟩:=hv;exact ⟨a',c',q1,by rw [← h6];exact q2,⟨a,n,c,p+m,L,q3,lQ h2 q4 oM,oM,h4,h5,by rw [← List.drop_drop,h6]⟩,q4⟩
theorem take_no' {B b m:Nat} {r:Bs} {w:World} (h:Rd B b r 0 w) (hm:r.length<m) (a0:m<18446744073709551616) :
  Calls Tryz.prog 256 #[.pointer (some ⟨b,0,none⟩),.int .u64 (m:Int)] w (Ret λ v w'=>v=.tuple #[.slice none 0 0,.bool false]∧Rd B b r 5 w'∧Mut b w w'):=by
 obtain ⟨a,n,c,p,L,h1,h2,h3,h4,h5,h6⟩:=h;have hl:=gW h2;have hr:=congrArg List.length h6;simp at hr;refine Calls.mono (take_no b a n c p m w h1 oM h3 oM a0) (λ x w' hx=>Ret.mono hx λ v w' hv=>?_);obtain ⟨q1,q3,q4⟩:=hv;exact ⟨q1,⟨a,n,c,p,L,q3,lQ h2 q4 oM,h3,h4,h5,h6⟩,q4⟩
theorem take_err' {B b m e:Nat} {r:Bs} {w:World} (h:Rd B b r e w) (he:e≠0) :
  Calls Tryz.prog 256 #[.pointer (some ⟨b,0,none⟩),.int .u64 (m:Int)] w (Ret λ v w'=>v=.tuple #[.slice none 0 0,.bool false]∧w=w'):=by
 obtain ⟨a,n,c,p,L,h1,h2⟩:=h;exact take_err b a n c p e m w h1 he
theorem left' {B b e:Nat} {r:Bs} {w:World} (h:Rd B b r e w) :
  Calls Tryz.prog 225 #[.pointer (some ⟨b,0,none⟩)] w (Ret λ v w'=>v=.int .i64 (r.length:Int)∧Grow w w'):=by
 obtain ⟨a,n,c,p,L,h1,h2,h3,h4,h5,h6⟩:=h;have hl:=gW h2;have hr:=congrArg List.length h6;simp at hr;have:=left_c b a n c p e w h1 oM h3;rwa [show n-p=r.length by omega] at this
def leW (r:Bs):Nat→Nat
 | 0=>0
 | i+1=>leW r i+r.getD i 0*2^(8*i)
theorem leW_lt {r:Bs} (hr:∀ x∈r,x<256):∀ i,leW r i<2^(8*i)
 | 0=>by simp [leW]
 | i+1=>by
  have ih:=leW_lt hr i
  have hg:r.getD i 0<256:=by
   rw [List.getD_eq_getElem?_getD]
   cases hx:r[i]? with
   | none=>simp
   | some x=>exact hr x (List.mem_of_getElem? hx)
  simp only [leW];rw [show 8*(i+1)=8*i+8 by omega,Nat.pow_add];generalize 2^(8*i)=X at *;have:(r.getD i 0+1)*X≤256*X:=Nat.mul_le_mul_right _ oM;rw [Nat.add_mul] at this;omega
theorem le4_eq (r:Bs):leW r 4=le4 r:=by simp [leW,le4];omega
theorem word_yes {B b m:Nat} {r:Bs} {w:World} (h:Rd B b r 0 w) (h1:1≤m) (h8:m≤8) (hm:m≤r.length) :
  Calls Tryz.prog 221 #[.pointer (some ⟨b,0,none⟩),.int .i64 (m:Int)] w (Ret λ v w'=>v=.int .u64 (leW r m:Int)∧Rd B b (r.drop m) 0 w'∧Mut b w w'):=by
 have g0:=h.bytes;refine V.calls (args:=[_,_]) Tryz.func221 rfl Tryz.ntmps221 rfl rfl ?_;repeat (first|(refine aB 214 ?_;refine aA rfl (clamp_c m h1 h8 _) rfl ?_;rintro _ _ ⟨rfl,rfl⟩)|refine yC ?_)
 refine aA rfl (take_yes' h hm) rfl ?_;rintro _ w1 ⟨a,c,rfl,hs,i0,k0⟩;repeat refine aF ?_
 refine aX (S:=Nat) (λ i=>[(22,.int .i64 (i:Int)),(21,.int .i64 (m:Int)),(20,.slice a m c),(7,.int .u64 (leW r i:Int))]) (λ i w'=>i≤m∧w1=w') (λ i=>m-i) 0 ⟨rfl,rfl,rfl,rfl,trivial⟩ ⟨oM,rfl⟩ ?_;rintro i _ ⟨hi,rfl⟩;by_cases a0:i<m
 ·obtain ⟨p,hp⟩:∃ p,r[i]? = some p:=⟨_,List.getElem?_eq_getElem oM⟩
  have j0:(r.take m)[i]? = some p:=by rw [List.getElem?_take,if_pos a0];exact hp
  have n0:w1.cell? (at' a i)=some (.int .u8 (p:Int)):=hs.row.cell (by unfold bB;rw [List.getElem?_map,j0];rfl);have f0:=g0 p (List.mem_of_getElem? hp)
  have e0:p*2^(8*i)<18446744073709551616:=by
   have:(2:Nat)^(8*i)≤2^56:=Nat.pow_le_pow_right dM oM;have h3:p*2^(8*i)≤255*2^56:=Nat.mul_le_mul oM this;omega
  have m0:=leW_lt g0 i
  have l0:leW r i<18446744073709551616:=by
   have:(2:Nat)^(8*i)≤2^64:=Nat.pow_le_pow_right dM oM;omega
  have h0:leW r (i+1)=leW r i+p*2^(8*i):=by simp [leW,List.getD_eq_getElem?_getD,hp]
  repeat (first|(refine aI ?_;refine aC rfl rfl rfl a0 (Nat.mul_one _) ⟨_,_,hs⟩ rfl ?_)|(refine eM ?_;refine TL.mulN (a:=8) rfl rfl oM rfl ?_)|(refine jR ?_;refine TL.shlS (M:=18446744073709551616) rfl rfl rfl (by show 8*i≤64;omega) e0 rfl ?_)|(refine TL.isOr ?_;refine TL.orP (8*i) rfl rfl rfl m0 sM l0 e0 rfl ?_)|refine yC ?_)
  rw [← h0];exact aE (i+1) ⟨rfl,rfl,rfl,rfl,trivial⟩ ⟨a0,rfl⟩ oM
 ·obtain rfl:i=m:=by omega
  repeat refine aF ?_
  exact bA rfl ⟨_,rfl,rfl,i0,k0⟩
theorem word_no {B b m:Nat} {r:Bs} {w:World} (h:Rd B b r 0 w) (h1:1≤m) (h8:m≤8) (hm:r.length<m) :
  Calls Tryz.prog 221 #[.pointer (some ⟨b,0,none⟩),.int .i64 (m:Int)] w (Ret λ v w'=>v=.int .u64 0∧Rd B b r 5 w'∧Mut b w w'):=by
 refine V.calls (args:=[_,_]) Tryz.func221 rfl Tryz.ntmps221 rfl rfl ?_;repeat (first|(refine aB 214 ?_;refine aA rfl (clamp_c m h1 h8 _) rfl ?_;rintro _ _ ⟨rfl,rfl⟩)|refine yC ?_)
 refine aA rfl (take_no' h hm oM) rfl ?_;rintro _ w1 ⟨rfl,a0,e0⟩;repeat refine aF ?_
 exact bA rfl ⟨_,rfl,rfl,a0,e0⟩
theorem word_err {B b m e:Nat} {r:Bs} {w:World} (h:Rd B b r e w) (he:e≠0) (h1:1≤m) (h8:m≤8) :
  Calls Tryz.prog 221 #[.pointer (some ⟨b,0,none⟩),.int .i64 (m:Int)] w (Ret λ v w'=>v=.int .u64 0∧w=w'):=by
 refine V.calls (args:=[_,_]) Tryz.func221 rfl Tryz.ntmps221 rfl rfl ?_;repeat (first|(refine aB 214 ?_;refine aA rfl (clamp_c m h1 h8 _) rfl ?_;rintro _ _ ⟨rfl,rfl⟩)|refine yC ?_)
 refine aA rfl (take_err' h he) rfl ?_;rintro _ _ ⟨rfl,rfl⟩;repeat refine aF ?_
 exact bA rfl ⟨_,rfl,rfl,rfl⟩
theorem take_all {B b:Nat} {r:Bs} {w:World} (h:Rd B b r 0 w) :
  Calls Tryz.prog 224 #[.pointer (some ⟨b,0,none⟩),.int .i64 (r.length:Int)] w (Ret λ v w'=>∃ a c,v=.slice a r.length c∧Sl (λ k=>w.heap.size≤k) w' 1 a r.length c (bB r)∧Rd B b [] 0 w'∧Mut b w w'):=by
 have i0:=h.len;have j0:=h.lt;refine V.calls (args:=[_,_]) Tryz.func224 rfl Tryz.ntmps224 rfl rfl ?_;repeat (first|(refine eU ?_;refine lK (r:=(r.length:Int)) rfl rfl (by split<;>omega) rfl ?_)|refine yC ?_)
 refine aA rfl (take_yes' h (Nat.le_refl _)) rfl ?_;rintro _ w1 ⟨a,c,rfl,hs,e0,f0⟩;rw [List.take_length] at hs;rw [List.drop_length] at e0;repeat refine aF ?_
 refine aA rfl (grown_c _ a _ c 0 (bB r) _ hs (bO _) oM) rfl ?_;rintro v2 w2 ⟨a0,g0⟩;obtain ⟨a2,c2,rfl,h0⟩:=aM a0;repeat refine aF ?_
 have:=f0.size;exact bA rfl ⟨_,rfl,a2,c2,rfl,h0.mono (λ k hk=>by have:=hk.1;omega),e0.grow g0,f0.trans (iM g0)⟩
theorem take_alle {B b e:Nat} {r:Bs} {w:World} (h:Rd B b r e w) (he:e≠0) :
  Calls Tryz.prog 224 #[.pointer (some ⟨b,0,none⟩),.int .i64 (r.length:Int)] w (Ret λ v w'=>v=.slice none 0 0∧w=w'):=by
 have a0:=h.len;refine V.calls (args:=[_,_]) Tryz.func224 rfl Tryz.ntmps224 rfl rfl ?_;repeat (first|(refine eU ?_;refine lK (r:=(r.length:Int)) rfl rfl (by split<;>omega) rfl ?_)|refine yC ?_)
 refine aA rfl (take_err' h he) rfl ?_;rintro _ _ ⟨rfl,rfl⟩;repeat refine aF ?_
 exact bA rfl ⟨_,rfl,rfl,rfl⟩
theorem rdblk_ok {B b:Nat} {r p r':Bs} {w:World} (h:Rd B b r 0 w) (hr:jV r=some (p,r')) :
  Calls Tryz.prog 223 #[.pointer (some ⟨b,0,none⟩)] w (Ret λ v w'=>∃ a c,v=.slice a p.length c∧Sl (λ k=>w.heap.size≤k) w' 1 a p.length c (bB p)∧Rd B b r' 0 w'∧Mut b w w'):=by
 have u0:=h.bytes;have s0:=h.len;have y0:=h.lt;obtain ⟨a,n,c,q,L,h1,h2,h3,h4,h5,h6⟩:=h;have hl:=gW h2;have e0:=congrArg List.length h6;simp at e0;unfold jV at hr;split at hr;rotate_left
 ·cases hr
 rename_i g0;split at hr;rotate_left
 ·cases hr
 rename_i j0
 cases r with
 | nil=>simp [fV] at g0
 | cons f t =>
  have hc:=numV_le f t;simp only [Option.some.injEq,Prod.mk.injEq] at hr;obtain ⟨hp,q0⟩:=hr;have x0:=numV_back (r:=f::t) (v:=(fV (f::t)).1) (k:=(fV (f::t)).2.1) u0 (by rw [← g0]);refine V.calls (args:=[_]) Tryz.func223 rfl Tryz.ntmps223 rfl rfl ?_;have n0:=h1;unfold rdr at n0;repeat (first|(refine aB 257 ?_;refine aA rfl (made_c b a n c q 0 _ h1) rfl ?_;rintro _ _ ⟨rfl,rfl⟩)|refine yC ?_)
  refine aA rfl (rnum_some _ b a n c q L f t _ h1 h2 oM oM h3 h5 h6) rfl ?_;rintro _ w1 ⟨rfl,o0,i0⟩;rw [g0] at o0;clear n0;repeat refine aF ?_
  have k0:=lQ h2 i0 oM;have e3:L.drop (q+(fV (f::t)).2.1)=(f::t).drop (fV (f::t)).2.1:=by rw [← List.drop_drop,h6]
  have t0:(fV (f::t)).1≤n-(q+(fV (f::t)).2.1):=by
   have:=j0;rw [List.length_drop] at this;simp only [List.length_cons] at this e0;omega
  refine aA rfl (take_yes _ b a n c (q+(fV (f::t)).2.1) (fV (f::t)).1 L _ o0 k0 oM oM (by simp only [List.length_cons] at hc e0;omega) t0) rfl ?_;rintro _ w2 ⟨a2,c2,rfl,a0,v0,h0⟩;rw [e3,hp] at a0;have l0:(fV (f::t)).1=p.length:=gW a0;rw [l0] at a0 ⊢;repeat refine aF ?_
  refine aA rfl (grown_c _ a2 p.length c2 0 (bB p) _ a0 (bO _) (by have:=a0.cap;rw [← l0];omega)) rfl ?_;rintro v3 w3 ⟨f0,m0⟩;obtain ⟨a4,c4,rfl,p0⟩:=aM f0;repeat refine aF ?_
  have:=i0.size;have:=h0.size;refine bA rfl ⟨_,rfl,a4,c4,rfl,p0.mono (λ k hk=>by have:=hk.1;omega),Rd.grow ⟨a,n,c,q+(fV (f::t)).2.1+(fV (f::t)).1,L,v0,lQ k0 h0 oM,oM,h4,h5,?_⟩ m0,(i0.trans h0).trans (iM m0)⟩;rw [← q0,← List.drop_drop,e3]
theorem rdblk_no {B b e:Nat} {r:Bs} {w:World} (h:Rd B b r e w) (hr:e≠0∨jV r=none) :
  Calls Tryz.prog 223 #[.pointer (some ⟨b,0,none⟩)] w (Ret λ v w'=>v=.slice none 0 0∧(∃ e',e'≠0∧Rd B b r e' w')∧Mut b w w'):=by
 have u0:=h.bytes;have t0:=h.len;have v0:=h.lt;obtain ⟨a,n,c,q,L,h1,h2,h3,h4,h5,h6⟩:=h;have hl:=gW h2;have o0:=congrArg List.length h6;simp at o0;refine V.calls (args:=[_]) Tryz.func223 rfl Tryz.ntmps223 rfl rfl ?_;have i0:=h1;unfold rdr at i0
 have n0:∀ (w1:World) (q1 e1:Nat),e1≠0→Blk w1 b 329 (rdr b a n c q1 e1)→Mut b w w1→Sl (λ k=>B≤k∧k<b) w1 1 a n c (bB L)→∀ w2:World,Blk w2 b 329 (rdr b a n c q e1)→Mut b w1 w2→(∃ e',e'≠0∧Rd B b r e' w2)∧Mut b w w2:=by
  intro w1 q1 e1 he a0 e0 m0 w2 i0 k0;exact ⟨⟨e1,he,a,n,c,q,L,i0,lQ m0 k0 oM,h3,h4,h5,h6⟩,e0.trans k0⟩
 by_cases he:e=0;rotate_left
 ·repeat (first|(refine aB 257 ?_;refine aA rfl (made_c b a n c q e _ h1) rfl ?_;rintro _ _ ⟨rfl,rfl⟩)|(refine aB 258 ?_;refine aA rfl (rnum_err b a n c q e _ h1 he) rfl ?_;rintro _ _ ⟨rfl,rfl⟩)|(refine aB 256 ?_;refine aA rfl (take_err b a n c q e 0 _ h1 he) rfl ?_;rintro _ _ ⟨rfl,rfl⟩)|refine yC ?_)
  refine aA rfl (fail_c b a n c q e q e _ h1) rfl ?_;rintro _ w4 ⟨g0,f0⟩;repeat refine aF ?_
  obtain ⟨g1,g2⟩:=n0 w q e he h1 (iM (Grow.refl _)) h2 w4 g0 f0;exact bA rfl ⟨_,rfl,rfl,g1,g2⟩
 subst he;have hr:=hr.resolve_left (λ h=>h rfl)
 cases r with
 | nil =>
  have hq:q=n:=by simp at o0;omega
  subst hq;repeat (first|(refine aB 257 ?_;refine aA rfl (made_c b a q c q 0 _ h1) rfl ?_;rintro _ _ ⟨rfl,rfl⟩)|refine yC ?_)
  refine aA rfl (rnum_none b a q c _ h1 oM) rfl ?_;rintro _ w1 ⟨rfl,a0,e0⟩;have h0:=a0;unfold rdr at h0;clear i0;repeat (first|(refine aB 256 ?_;refine aA rfl (take_err b a q c q 5 0 _ a0 oM) rfl ?_;rintro _ _ ⟨rfl,rfl⟩)|refine yC ?_)
  refine aA rfl (fail_c b a q c q 5 q 5 _ a0) rfl ?_;rintro _ w4 ⟨g0,f0⟩;repeat refine aF ?_
  obtain ⟨g1,g2⟩:=n0 w1 q 5 oM a0 e0 (lQ h2 e0 oM) w4 g0 f0;exact bA rfl ⟨_,rfl,rfl,g1,g2⟩
 | cons f t =>
  have hc:=numV_le f t;repeat (first|(refine aB 257 ?_;refine aA rfl (made_c b a n c q 0 _ h1) rfl ?_;rintro _ _ ⟨rfl,rfl⟩)|refine yC ?_)
  refine aA rfl (rnum_some _ b a n c q L f t _ h1 h2 oM oM h3 h5 h6) rfl ?_;rintro _ w1 ⟨rfl,a0,e0⟩;have m0:=lQ h2 e0 oM;by_cases j0:(fV (f::t)).2.2=0
  ·rw [j0] at a0;have s0:=numV_back (r:=f::t) (v:=(fV (f::t)).1) (k:=(fV (f::t)).2.1) u0 (by rw [← j0])
   have l0:¬ (fV (f::t)).1≤((f::t).drop (fV (f::t)).2.1).length:=by
    intro hf;unfold jV at hr;rw [if_pos j0,if_pos hf] at hr;cases hr
   rw [List.length_drop] at l0;simp only [List.length_cons] at l0 o0 hc;clear i0;repeat refine aF ?_
   refine aA rfl (take_no b a n c (q+(fV (f::t)).2.1) (fV (f::t)).1 _ a0 oM oM oM s0.2.2) rfl ?_;rintro _ w2 ⟨rfl,q0,k0⟩;have p0:=q0;unfold rdr at p0;repeat refine aF ?_
   refine aA rfl (fail_c b a n c _ 5 q 5 _ q0) rfl ?_;rintro _ w4 ⟨g0,f0⟩;repeat refine aF ?_
   obtain ⟨g1,g2⟩:=n0 w2 _ 5 oM q0 (e0.trans k0) (lQ m0 k0 oM) w4 g0 f0;exact bA rfl ⟨_,rfl,rfl,g1,g2⟩
  ·have h0:=a0;unfold rdr at h0;clear i0;repeat refine aF ?_
   refine aA rfl (take_err b a n c _ _ _ _ a0 j0) rfl ?_;rintro _ _ ⟨rfl,rfl⟩;repeat refine aF ?_
   refine aA rfl (fail_c b a n c _ _ q _ _ a0) rfl ?_;rintro _ w4 ⟨g0,f0⟩;repeat refine aF ?_
   obtain ⟨g1,g2⟩:=n0 w1 _ _ j0 a0 e0 m0 w4 g0 f0;exact bA rfl ⟨_,rfl,rfl,g1,g2⟩
def RS (B b:Nat) (o:Option Bs) (w:World):Prop:=match o with
 | some r=>Rd B b r 0 w
 | none=>∃ r e,e≠0∧Rd B b r e w
def gZ:Option Bs→Bs×Option Bs
 | none=>([],none)
 | some r=>match jV r with
  | some (p,r')=>(p,some r')
  | none=>([],none)
def rdW (m:Nat):Option Bs→Nat×Option Bs
 | none=>(0,none)
 | some r=>if m≤r.length then (leW r m,some (r.drop m)) else (0,none)
theorem RS.grow {B b:Nat} {o:Option Bs} {w w':World} (h:RS B b o w) (g:Grow w w'):RS B b o w':=by
 cases o with
 | some r=>exact Rd.grow h g
 | none=>obtain ⟨r,e,he,h⟩:=h;exact ⟨r,e,he,h.grow g⟩
theorem RS.lt {B b:Nat} {o:Option Bs} {w:World} (h:RS B b o w):b<w.heap.size:=by
 cases o with
 | some r=>exact Rd.lt h
 | none=>obtain ⟨r,e,he,h⟩:=h;exact h.lt
theorem rs_block {B b:Nat} {o:Option Bs} {w:World} (h:RS B b o w) :
  Calls Tryz.prog 223 #[.pointer (some ⟨b,0,none⟩)] w (Ret λ v w'=>∃ a c,v=.slice a (gZ o).1.length c∧Sl (λ k=>w.heap.size≤k) w' 1 a (gZ o).1.length c (bB (gZ o).1)∧RS B b (gZ o).2 w'∧Mut b w w'):=by
 cases o with
 | none =>
  obtain ⟨r,e,he,h⟩:=h;refine Calls.mono (rdblk_no h (.inl he)) (λ x w' hx=>Ret.mono hx λ v w' hv=>?_);obtain ⟨q1,⟨e',q2,q3⟩,q4⟩:=hv;exact ⟨none,0,q1,Sl.nil_mk _ _ _,⟨r,e',q2,q3⟩,q4⟩
 | some r =>
  cases hr:jV r with
  | none =>
   have e1:gZ (some r)=([],none):=by simp [gZ,hr]
   rw [e1];refine Calls.mono (rdblk_no h (.inr hr)) (λ x w' hx=>Ret.mono hx λ v w' hv=>?_);obtain ⟨q1,⟨e',q2,q3⟩,q4⟩:=hv;exact ⟨none,0,q1,Sl.nil_mk _ _ _,⟨r,e',q2,q3⟩,q4⟩
  | some x =>
   obtain ⟨p,r'⟩:=x;have e1:gZ (some r)=(p,some r'):=by simp [gZ,hr]
   rw [e1];exact rdblk_ok h hr
theorem rs_word {B b m:Nat} {o:Option Bs} {w:World} (h:RS B b o w) (h1:1≤m) (h8:m≤8) :
  Calls Tryz.prog 221 #[.pointer (some ⟨b,0,none⟩),.int .i64 (m:Int)] w (Ret λ v w'=>v=.int .u64 ((rdW m o).1:Int)∧RS B b (rdW m o).2 w'∧Mut b w w'):=by
 cases o with
 | none =>
  have h0:=h;obtain ⟨r,e,he,h⟩:=h;refine Calls.mono (word_err h he h1 h8) (λ x w' hx=>Ret.mono hx λ v w' hv=>?_);obtain ⟨q1,rfl⟩:=hv;exact ⟨q1,h0,iM (Grow.refl _)⟩
 | some r =>
  by_cases hm:m≤r.length
  ·simp only [rdW,if_pos hm];exact word_yes h h1 h8 hm
  ·simp only [rdW,if_neg hm];refine Calls.mono (word_no h h1 h8 oM) (λ x w' hx=>Ret.mono hx λ v w' hv=>?_);obtain ⟨q1,q2,q3⟩:=hv;exact ⟨q1,⟨r,5,oM,q2⟩,q3⟩
theorem rs_err {B b:Nat} {o:Option Bs} {w:World} (h:RS B b o w) :
  Calls Tryz.prog 222 #[.pointer (some ⟨b,0,none⟩)] w (Ret λ v w'=>(∃ e:Nat,v=.int .i64 (e:Int)∧(e=0↔o≠none))∧w=w'):=by
 cases o with
 | none =>
  obtain ⟨r,e,he,h⟩:=h;refine Calls.mono (rderr_c w h) (λ x w' hx=>Ret.mono hx λ v w' hv=>?_);exact ⟨⟨e,hv.1,by simp [he]⟩,hv.2⟩
 | some r =>
  refine Calls.mono (rderr_c w h) (λ x w' hx=>Ret.mono hx λ v w' hv=>?_);exact ⟨⟨0,hv.1,sM⟩,hv.2⟩
theorem rs_rest {B b:Nat} {o:Option Bs} {w:World} (h:RS B b o w):∃ n:Nat,n≤1099511627776 ∧
  Calls Tryz.prog 225 #[.pointer (some ⟨b,0,none⟩)] w (Ret λ v w'=>v=.int .i64 (n:Int)∧Grow w w') ∧
  ∀ w1,RS B b o w1→Grow w w1→Calls Tryz.prog 224 #[.pointer (some ⟨b,0,none⟩),.int .i64 (n:Int)] w1 (Ret λ v w'=>∃ a c,v=.slice a (o.getD []).length c∧Sl (λ k=>w1.heap.size≤k) w' 1 a (o.getD []).length c (bB (o.getD []))∧RS B b (o.map λ _=>[]) w'∧Mut b w1 w'):=by
 cases o with
 | none =>
  obtain ⟨r,e,he,h⟩:=h;refine ⟨r.length,h.len,left' h,λ w1 h1 hg=>?_⟩;refine Calls.mono (take_alle (h.grow hg) he) (λ x w' hx=>Ret.mono hx λ v w' hv=>?_);obtain ⟨q1,rfl⟩:=hv;exact ⟨none,0,q1,Sl.nil_mk _ _ _,⟨r,e,he,h.grow hg⟩,iM (Grow.refl _)⟩
 | some r =>
  refine ⟨r.length,Rd.len h,left' h,λ w1 h1 hg=>?_⟩;exact take_all h1
def kY:Nat→Option Bs→bT×Option Bs
 | 0,o=>([],o)
 | c+1,o=>(((gZ o).1,(gZ (gZ o).2).1)::(kY c (gZ (gZ o).2).2).1,(kY c (gZ (gZ o).2).2).2)
def kF:Nat→Option Bs→List Nat×Option Bs
 | 0,o=>([],o)
 | c+1,o=>((rdW 4 o).1::(kF c (rdW 4 o).2).1,(kF c (rdW 4 o).2).2)
def kX:Nat→Option Bs→List Bs×Option Bs
 | 0,o=>([],o)
 | c+1,o=>((gZ o).1::(kX c (gZ o).2).1,(kX c (gZ o).2).2)
theorem rdIts_none:∀ c,(kY c none).2=none
 | 0=>rfl
 | c+1=>by simp only [kY,gZ];exact rdIts_none c
theorem rdKds_none:∀ c,(kF c none).2=none
 | 0=>rfl
 | c+1=>by simp only [kF,rdW];exact rdKds_none c
theorem rdKys_none:∀ c,(kX c none).2=none
 | 0=>rfl
 | c+1=>by simp only [kX,gZ];exact rdKys_none c
theorem rdItems_eq:∀ (c:Nat) (r:Bs),iT c r=(kY c (some r)).2.map λ r'=>((kY c (some r)).1,r')
 | 0,r=>rfl
 | c+1,r=>by
  simp only [iT,kY]
  cases h1:jV r with
  | none=>simp [gZ,h1,rdIts_none]
  | some x =>
   obtain ⟨k,r1⟩:=x;simp only [gZ,h1]
   cases h2:jV r1 with
   | none=>simp [rdIts_none]
   | some y =>
    obtain ⟨v,r2⟩:=y;simp only;rw [rdItems_eq c r2];cases (kY c (some r2)).2<;>rfl
theorem rdKids_eq:∀ (c:Nat) (r:Bs),kQ c r=(kF c (some r)).2.map λ r'=>((kF c (some r)).1,r')
 | 0,r=>rfl
 | c+1,r=>by
  simp only [kQ,kF];by_cases h:4≤r.length
  ·simp only [rdWord,rdW,if_pos h,le4_eq];rw [rdKids_eq c (r.drop 4)];cases (kF c (some (r.drop 4))).2<;>rfl
  ·simp only [rdWord,rdW,if_neg h];simp [rdKds_none]
theorem rdKeys_eq:∀ (c:Nat) (r:Bs),kS c r=(kX c (some r)).2.map λ r'=>((kX c (some r)).1,r')
 | 0,r=>rfl
 | c+1,r=>by
  simp only [kS,kX]
  cases h1:jV r with
  | none=>simp [gZ,h1,rdKys_none]
  | some x =>
   obtain ⟨k,r1⟩:=x;simp only [gZ,h1];rw [rdKeys_eq c r1];cases (kX c (some r1)).2<;>rfl
theorem readN_eq (b:Bs):fX b=(
  let x:=rdW 1 (some b)
  let y:=rdW 1 x.2
  if y.2=none∨8<y.1 then none
  else if x.1=0 then (kY y.1 y.2).2.bind (finN ⟨(kY y.1 y.2).1,[],[]⟩)
  else if x.1=1∧2≤y.1 then (kX (y.1-1) (kF y.1 y.2).2).2.bind (finN ⟨[],(kF y.1 y.2).1,(kX (y.1-1) (kF y.1 y.2).2).1⟩)
  else none):=by
 match b with
 | []=>simp [fX,rdW]
 | [k]=>simp [fX,rdW]
 | k::c::r =>
  have e1:rdW 1 (some (k::c::r))=(k,some (c::r)):=by simp [rdW,leW]
  have e2:rdW 1 (some (c::r))=(c,some r):=by simp [rdW,leW]
  simp only [e1,e2,fX];by_cases h8:8<c
  ·simp [h8]
  ·rw [if_neg h8,if_neg (show ¬ (some r=none∨8<c) by simp [h8])];by_cases h0:k=0
   ·rw [if_pos h0,if_pos h0,rdItems_eq];cases (kY c (some r)).2<;>rfl
   ·rw [if_neg h0,if_neg h0];by_cases h2:k=1∧2≤c
    ·rw [if_pos h2,if_pos h2,rdKids_eq]
     cases hk:(kF c (some r)).2 with
     | none=>simp [rdKys_none]
     | some r1 =>
      simp only [Option.map_some];rw [rdKeys_eq];cases (kX (c-1) (some r1)).2<;>rfl
    ·rw [if_neg h2,if_neg h2]
end Go.Proofs.YtfpadnmdafiddaaGreatDoor
namespace Go.Proofs.YtfpadnmdafiddaaGreatDoor
structure PgOk (s:Pg):Prop where
 wl:s.words.length=(s.count+63) / 64
 w64:∀ x∈s.words,x<18446744073709551616
 top:∀ n,s.count≤n→(s.words.getD (n / 64) 0).testBit (n%64)=false
 cnt:s.count≤8192
structure Ext (s s':Pg):Prop where
 count:s'.count=s.count
 used:∀ k,bK s k=true→bK s' k=true∧s'.body k=s.body k
theorem Ext.refl (s:Pg):Ext s s:=⟨rfl,λ _ h=>⟨h,rfl⟩⟩
theorem Ext.trans {a b c:Pg} (h:Ext a b) (k:Ext b c):Ext a c :=
 ⟨k.count.trans h.count,λ n hn=>⟨(k.used n (h.used n hn).1).1,((k.used n (h.used n hn).1).2).trans (h.used n hn).2⟩⟩
theorem Ext.node {s s':Pg} (h:Ext s s') {n:Nat} {nd:Nd} (hn:cD s n=some nd):cD s' n=some nd:=by
 unfold cD at *;split at hn
 ·rename_i hu;rw [if_pos (h.used n hu).1,(h.used n hu).2];exact hn
 ·cases hn
theorem dX {α : Type} (p : α→Bool):∀ l:List α,(l.takeWhile p).length≤l.length
 | []=>Nat.le_refl _
 | a::l=>by
  rw [List.takeWhile_cons];split
  ·exact Nat.succ_le_succ (dX p l)
  ·simp
theorem jI {α : Type} (p : α→Bool):∀ (l:List α) (x : α),l[(l.takeWhile p).length]? = some x→p x=false
 | [],x,h=>by simp at h
 | a::l,x,h=>by
  rw [List.takeWhile_cons] at h;split at h
  ·simp only [List.length_cons,List.getElem?_cons_succ] at h;exact jI p l x h
  ·rename_i ha;simp at h;subst h;simpa using ha
theorem gB {α : Type} (p : α→Bool):∀ (l:List α) (i:Nat) (x : α),i<(l.takeWhile p).length→l[i]? = some x→p x=true
 | [],i,x,h,_=>by simp at h
 | a::l,i,x,h,hx=>by
  rw [List.takeWhile_cons] at h;split at h
  ·rename_i ha
   cases i with
   | zero=>simp at hx;subst hx;exact ha
   | succ i=>exact gB p l i x (by simpa using h) (by simpa using hx)
  ·simp at h
theorem lowP_le (s:Pg):lowP s≤s.count:=by
 have:=dX (λ n=>bK s n) (List.range s.count);simpa [lowP] using this
theorem lowP_free {s:Pg} (h:lowP s≠s.count):lowP s<s.count∧bK s (lowP s)=false:=by
 have hl:=lowP_le s;have a0:lowP s<s.count:=by omega
 refine ⟨a0,jI (λ n=>bK s n) (List.range s.count) (lowP s) ?_⟩;rw [show ((List.range s.count).takeWhile λ n=>bK s n).length=lowP s from rfl];simp [a0]
theorem lowP_used {s:Pg} {k:Nat} (h:k<lowP s):bK s k=true:=by
 have hl:=lowP_le s;exact gB (λ n=>bK s n) (List.range s.count) k k h (List.getElem?_range oM)
theorem cnt_add (p:Nat→Bool) (n:Nat) (hp:p n=false):∀ N,((List.range N).filter λ k=>k==n || p k).length=((List.range N).filter p).length+if n<N then 1 else 0
 | 0=>rfl
 | N+1=>by
  have ih:=cnt_add p n hp N;simp only [List.range_succ,List.filter_append,List.length_append,ih];by_cases h1:N=n
  ·subst h1;simp [hp]
  ·have h2:(N==n)=false:=by simpa using h1
   by_cases h3:n<N
   ·rw [if_pos h3,if_pos oM];cases hN:p N<;>simp [List.filter,h2,hN]
   ·rw [if_neg h3,if_neg oM];cases hN:p N<;>simp [List.filter,h2,hN]
theorem nA (s:Pg):fN s≤s.count:=by
 have:=List.length_filter_le (λ n=>bK s n) (List.range s.count);simpa [fN] using this
theorem totalP_full {s:Pg} (h:lowP s=s.count):fN s=s.count:=by
 unfold fN;rw [List.filter_eq_self.2 (λ k hk=>lowP_used (s:=s) (by rw [h];exact List.mem_range.1 hk))];simp
theorem testBit_or_pow (x i j:Nat):(x|||2^i).testBit j=(x.testBit j || decide (i=j)):=by
 rw [Nat.testBit_or,Nat.testBit_two_pow]
theorem divmod64 {a b:Nat}:(a / 64=b / 64∧a%64=b%64)↔a=b:=by omega
theorem markW_bit (l:List Nat) (n k:Nat) (hn:n / 64<l.length):((gX l n).getD (k / 64) 0).testBit (k%64)=(decide (k=n) || (l.getD (k / 64) 0).testBit (k%64)):=by
 unfold gX;rw [List.getD_eq_getElem?_getD,List.getElem?_set];by_cases h:n / 64=k / 64
 ·rw [if_pos h,if_pos hn];simp only [Option.getD_some];rw [testBit_or_pow,← h];by_cases h2:n%64=k%64
  ·have:k=n:=divmod64.1 ⟨h.symm,h2.symm⟩;simp [this]
  ·have:k≠n:=λ e=>h2 (by rw [e]);simp [h2,this]
 ·rw [if_neg h,← List.getD_eq_getElem?_getD];have:k≠n:=λ e=>h (by rw [e]);simp [this]
theorem used_div {s:Pg} (hs:PgOk s) {n:Nat} (hn:n<s.count):n / 64<s.words.length:=by rw [hs.wl];omega
structure New (s s':Pg) (n:Nat) (b:Bs):Prop where
 free:bK s n=false
 lt:n<s.count
 count:s'.count=s.count
 used:∀ k,bK s' k=(decide (k=n) || bK s k)
 body:s'.body n=padB b
 other:∀ k,k≠n→s'.body k=s.body k
 ok:PgOk s'
 spare:cC s'+1=cC s
theorem New.ext {s s':Pg} {n:Nat} {b:Bs} (h:New s s' n b):Ext s s' :=
 ⟨h.count,λ k hk=>⟨by rw [h.used,hk];simp,h.other k λ e=>by rw [e,h.free] at hk;cases hk⟩⟩
theorem newP_new {s s':Pg} {n:Nat} {b:Bs} (hs:PgOk s) (h:newP s b=some (n,s')):New s s' n b:=by
 unfold newP at h;simp only at h;split at h
 ·cases h
 ·rename_i a0;simp only [Option.some.injEq,Prod.mk.injEq] at h;obtain ⟨hn,rfl⟩:=h;obtain ⟨h1,h2⟩:=lowP_free a0;rw [hn] at h1 h2;have hd:=used_div hs h1
  have hu:∀ k,bK { s with words:=gX s.words n,body:=λ k=>if k=n then padB b else s.body k } k=(decide (k=n) || bK s k):=by
   intro k;unfold bK;simp only;rw [markW_bit _ _ _ hd];by_cases hk:k=n
   ·subst hk;simp [h1]
   ·simp [hk]
  rw [hn];refine ⟨h2,h1,rfl,hu,sM,λ k hk=>by simp [hk],⟨?_,?_,?_,hs.cnt⟩,?_⟩
  ·simp [gX,hs.wl]
  ·intro x hx;unfold gX at hx;rcases List.mem_or_eq_of_mem_set hx with hx|rfl
   ·exact hs.w64 x hx
   ·have h5:s.words.getD (n / 64) 0<2^64:=by
     rw [List.getD_eq_getElem?_getD,List.getElem?_eq_getElem hd];exact hs.w64 _ (List.getElem_mem hd)
    have h6:2^(n%64)<2^64:=Nat.pow_lt_pow_right dM (Nat.mod_lt _ dM);exact Nat.or_lt_two_pow h5 h6
  ·intro k hk;simp only at hk ⊢;rw [markW_bit _ _ _ hd,hs.top k hk];have:k≠n:=by omega
   simp [this]
  ·have ht:fN { s with words:=gX s.words n,body:=λ k=>if k=n then padB b else s.body k }=fN s+1:=by
    unfold fN;simp only;have:=cnt_add (λ k=>bK s k) n h2 s.count;rw [if_pos h1] at this;rw [← this];congr 1
    apply List.filter_congr;intro k _;rw [hu k];by_cases hk:k=n<;>simp [hk]
   have h7:fN s+1≤s.count:=by
    rw [← ht];exact nA _
   unfold cC;rw [ht];simp only;omega
theorem newP_some {s:Pg} (b:Bs) (h:0<cC s):∃ n s',newP s b=some (n,s'):=by
 unfold newP;simp only;split
 ·rename_i hc;have:=totalP_full hc;unfold cC at h;omega
 ·exact ⟨_,_,rfl⟩
theorem length_word4s:∀ l:List Nat,(l.flatMap bP).length=4*l.length
 | []=>rfl
 | x::l=>by simp [List.flatMap_cons,length_word4s l,bP];omega
theorem jE (p:Bs) (h:p.length≤100):(bS p).length=p.length+1:=by
 unfold bS;rw [List.length_append,length_encL]
 have:sz p.length=1:=by
  unfold sz;have:bl p.length≤7:=bl_le (k:=7) (by show p.length<128;omega);omega
 omega
theorem length_bytesN {n:Nd} (h:bF n=true):(dC n).length≤500:=by
 have e1:∀ (l:bT),(∀ x∈l,x.1.length≤16∧x.2.length≤32)→(l.flatMap λ x=>bS x.1++bS x.2).length≤50*l.length:=by
  intro l
  induction l with
  | nil=>intro _;simp
  | cons x l ih =>
   intro hl;have h1:=ih λ y hy=>hl y (List.mem_cons_of_mem _ hy);have h2:=hl x sM;have h3:=jE x.1 oM;have h4:=jE x.2 oM;simp only [List.flatMap_cons,List.length_append,List.length_cons];omega
 have e2:∀ (l:List Bs),(∀ x∈l,x.length≤16)→(l.flatMap bS).length≤17*l.length:=by
  intro l
  induction l with
  | nil=>intro _;simp
  | cons x l ih =>
   intro hl;have h1:=ih λ y hy=>hl y (List.mem_cons_of_mem _ hy);have h2:=hl x sM;have h3:=jE x oM;simp only [List.flatMap_cons,List.length_append,List.length_cons];omega
 unfold bF at h;unfold dC;split at h
 ·rename_i hl;obtain ⟨h1,h2,h3⟩:=dG h;rw [if_pos hl];have:=e1 n.items λ x hx=>⟨(eK (mN h3 hx).1).2,iD (mN h3 hx).2⟩
  simp only [List.length_append,List.length_cons,List.length_nil];omega
 ·rename_i hl;obtain ⟨h1,h2,h3,h4,h5,h6⟩:=cO h;rw [if_neg hl];have:=e2 n.keys λ x hx=>(eK (key_ok' h6 hx)).2;have:=length_word4s n.kids;simp only [List.length_append,List.length_cons,List.length_nil];omega
structure Wrote (s s':Pg) (n:Nat) (nd:Nd):Prop where
 ext:Ext s s'
 free:bK s n=false
 used:∀ k,bK s' k=(decide (k=n) || bK s k)
 lt:n<s.count
 node:cD s' n=some nd
 ok:PgOk s'
 spare:cC s'+1=cC s
theorem writeP_wrote {s s':Pg} {n:Nat} {nd:Nd} (hs:PgOk s) (h:gV s nd=some (n,s')):Wrote s s' n nd∧bF nd=true:=by
 unfold gV at h;split at h
 ·rename_i hk;have hn:=newP_new hs h;refine ⟨⟨hn.ext,hn.free,hn.used,hn.lt,?_,hn.ok,hn.spare⟩,hk⟩;unfold cD;rw [if_pos (by rw [hn.used];simp),hn.body];exact readN_bytes hk _
 ·cases h
theorem hO {s:Pg} {nd:Nd} (hs:PgOk s) (h:0<cC s) (hk:bF nd=true):∃ n s',gV s nd=some (n,s')∧Wrote s s' n nd:=by
 obtain ⟨n,s',e⟩:=newP_some (dC nd) h;have e2:gV s nd=some (n,s'):=by unfold gV;rw [if_pos hk];exact e
 exact ⟨n,s',e2,(writeP_wrote hs e2).1⟩
structure Sb where
 page:Nat
 its:bT
 ps:List Nat
inductive Tok where
 | T (x:Sb)
 | K (k:Bs)
def RT:Tok→Tok→Prop
 | .T x,.T y=>∀ a∈x.its,∀ b∈y.its,fQ a.1 b.1
 | .T x,.K k=>∀ a∈x.its,fQ a.1 k
 | .K k,.T y=>∀ b∈y.its,kle k b.1
 | .K k,.K l=>fQ k l
def tb:Tok→Bs→Prop
 | .T x,a=>∀ y∈x.its,fQ y.1 a
 | .K k,a=>kle k a
def ta:Bs→Tok→Prop
 | a,.T x=>∀ y∈x.its,fQ a y.1
 | a,.K k=>fQ a k
theorem RT_K {t u:Tok} {k:Bs} (h:RT t (.K k)) (g:RT (.K k) u):RT t u:=by
 cases t<;>cases u<;>simp only [RT] at *
 ·exact λ a ha b hb=>nJ (h a ha) (g b hb)
 ·exact λ a ha=>eJ (h a ha) g
 ·exact λ b hb=>nK (nJ h (g b hb))
 ·exact eJ h g
theorem RT_T {t:Tok} {x:Sb}:RT t (.T x)↔∀ a∈x.its,tb t a.1:=by
 cases t<;>simp only [RT,tb]
 exact ⟨λ h b hb a ha=>h a ha b hb,λ h a ha b hb=>h b hb a ha⟩
theorem T_RT {u:Tok} {x:Sb}:RT (.T x) u↔∀ a∈x.its,ta a.1 u:=by
 cases u<;>simp only [RT,ta]
theorem tb_K {t:Tok} {a k:Bs} (h:tb t a) (g:fQ a k):RT t (.K k):=by
 cases t<;>simp only [RT,tb] at *
 ·exact λ y hy=>eJ (h y hy) g
 ·exact klt_of_le h g
theorem K_ta {u:Tok} {a k:Bs} (h:ta a u) (g:kle k a):RT (.K k) u:=by
 cases u<;>simp only [RT,ta] at *
 ·exact λ y hy=>nK (klt_of_le g (h y hy))
 ·exact klt_of_le g h
theorem tb_of_K {t:Tok} {k a:Bs} (h:RT t (.K k)) (g:kle k a):tb t a:=by
 cases t<;>simp only [RT,tb] at *
 ·exact λ y hy=>nJ (h y hy) g
 ·exact nK (nJ h g)
theorem ta_of_K {u:Tok} {k a:Bs} (h:RT (.K k) u) (g:fQ a k):ta a u:=by
 cases u<;>simp only [RT,ta] at *
 ·exact λ y hy=>nJ g (h y hy)
 ·exact eJ g h
def KT:List Bs→List Sb→List Tok
 | k::ks,x::r=>.K k::.T x::KT ks r
 | _,_=>[]
def toks:List Sb→List Bs→List Tok
 | x::r,ks=>.T x::KT ks r
 | [],_=>[]
def TK:List Sb→List Bs→List Tok
 | x::r,k::ks=>.T x::.K k::TK r ks
 | _,_=>[]
theorem toks_left:∀ {la:List Sb} {ka:List Bs} {ls:List Sb} {ks:List Bs},la.length=ka.length→ls≠[]→toks (la++ls) (ka++ks)=TK la ka++toks ls ks
 | [],[],ls,ks,_,_=>rfl
 | [],_::_,_,_,h,_=>by cases h
 | _::_,[],_,_,h,_=>by cases h
 | y::la,k::ka,ls,ks,h,hn=>by
  have ih:=toks_left (la:=la) (ka:=ka) (ls:=ls) (ks:=ks) (by simpa using h) hn
  cases hz:la++ls with
  | nil=>simp at hz;exact absurd hz.2 hn
  | cons z zs =>
   rw [hz] at ih;have e:toks ((y::la)++ls) ((k::ka)++ks)=Tok.T y::Tok.K k::toks (z::zs) (ka++ks):=by simp only [List.cons_append,toks,hz,KT]
   rw [e,ih];rfl
theorem KT_right:∀ {ur:List Sb} {uk:List Bs} {lb:List Sb} {kb:List Bs},ur.length=uk.length→KT (uk++kb) (ur++lb)=KT uk ur++KT kb lb
 | [],[],lb,kb,_=>rfl
 | [],_::_,_,_,h=>by cases h
 | _::_,[],_,_,h=>by cases h
 | y::la,k::ka,ls,ks,h=>by
  simp only [List.cons_append,KT];rw [KT_right (by simpa using h)]
theorem toks_right {us:List Sb} {uk:List Bs} {lb:List Sb} {kb:List Bs} (h:us.length=uk.length+1):toks (us++lb) (uk++kb)=toks us uk++KT kb lb:=by
 cases us with
 | nil=>cases h
 | cons x r =>
  simp only [List.cons_append,toks];rw [KT_right (by simpa using h)]
theorem toks_mid {la us lb:List Sb} {ka uk kb:List Bs} (h1:la.length=ka.length) (h2:us.length=uk.length+1):toks (la++us++lb) (ka++uk++kb)=TK la ka++toks us uk++KT kb lb:=by
 have hn:us++lb≠[]:=by
  cases us with
  | nil=>cases h2
  | cons _ _=>simp
 rw [List.append_assoc,List.append_assoc,toks_left h1 hn,toks_right h2,List.append_assoc]
theorem toks_join {la lb:List Sb} {ka kb:List Bs} {k:Bs} (h1:la.length=ka.length+1) (h2:lb≠[]):toks (la++lb) (ka++k::kb)=toks la ka++.K k::toks lb kb:=by
 rw [toks_right h1]
 cases lb with
 | nil=>exact absurd rfl h2
 | cons x r=>rfl
theorem mem_toks {t:Tok}:∀ {ls:List Sb} {ks:List Bs},t∈toks ls ks→(∃ x∈ls,t=.T x)∨∃ k∈ks,t=.K k:=by
 have key:∀ {ks:List Bs} {ls:List Sb},t∈KT ks ls→(∃ x∈ls,t=.T x)∨∃ k∈ks,t=.K k:=by
  intro ks
  induction ks with
  | nil=>intro ls h;simp [KT] at h
  | cons k ks ih =>
   intro ls h
   cases ls with
   | nil=>simp [KT] at h
   | cons x r =>
    simp only [KT,List.mem_cons] at h;rcases h with rfl|rfl|h
    ·exact .inr ⟨k,sM,rfl⟩
    ·exact .inl ⟨x,sM,rfl⟩
    ·rcases ih h with ⟨y,hy,e⟩|⟨y,hy,e⟩
     ·exact .inl ⟨y,List.mem_cons_of_mem _ hy,e⟩
     ·exact .inr ⟨y,List.mem_cons_of_mem _ hy,e⟩
 intro ls ks h
 cases ls with
 | nil=>simp [toks] at h
 | cons x r =>
  simp only [toks,List.mem_cons] at h;rcases h with rfl|h
  ·exact .inl ⟨x,sM,rfl⟩
  ·rcases key h with ⟨y,hy,e⟩|⟨y,hy,e⟩
   ·exact .inl ⟨y,List.mem_cons_of_mem _ hy,e⟩
   ·exact .inr ⟨y,hy,e⟩
theorem nQ {x:Sb}:∀ {ks:List Bs} {ls:List Sb},ls.length=ks.length→x∈ls→Tok.T x∈KT ks ls
 | [],[],_,hx=>by cases hx
 | [],_::_,h,_=>by cases h
 | _::_,[],h,_=>by cases h
 | k::ks,y::r,h,hx=>by
  simp only [KT,List.mem_cons];rcases List.mem_cons.1 hx with rfl|hx
  ·exact .inr (.inl rfl)
  ·exact .inr (.inr (nQ (by simpa using h) hx))
theorem T_mem {x:Sb}:∀ {ls:List Sb} {ks:List Bs},ls.length=ks.length+1→x∈ls→Tok.T x∈toks ls ks
 | [],_,_,hx=>by cases hx
 | y::r,ks,h,hx=>by
  simp only [toks,List.mem_cons];rcases List.mem_cons.1 hx with rfl|hx
  ·exact .inl rfl
  ·exact .inr (nQ (by simpa using h) hx)
theorem K_mem {k:Bs}:∀ {ls:List Sb} {ks:List Bs},ls.length=ks.length+1→k∈ks→Tok.K k∈toks ls ks:=by
 have key:∀ {ks:List Bs} {ls:List Sb},ls.length=ks.length→k∈ks→Tok.K k∈KT ks ls:=by
  intro ks
  induction ks with
  | nil=>intro ls h hx;cases hx
  | cons k' ks ih =>
   intro ls h hx
   cases ls with
   | nil=>cases h
   | cons y r =>
    simp only [KT,List.mem_cons];rcases List.mem_cons.1 hx with rfl|hx
    ·exact .inl rfl
    ·exact .inr (.inr (ih (by simpa using h) hx))
 intro ls ks h hx
 cases ls with
 | nil=>cases h
 | cons y r =>
  simp only [toks,List.mem_cons];exact .inr (key (by simpa using h) hx)
theorem key_between {ls:List Sb} {ks:List Bs} (hl:ls.length=ks.length+1) (hp:(toks ls ks).Pairwise RT) (hn:∀ x∈ls,x.its≠[]) {k:Bs} (hk:k∈ks) :
  (∃ a∈ls.flatMap (·.its),fQ a.1 k)∧∃ b∈ls.flatMap (·.its),kle k b.1:=by
 obtain ⟨ka,kb,rfl⟩:=List.append_of_mem hk;have g0:ls.length=ka.length+1+kb.length+1:=by simp at hl;omega
 obtain ⟨la,lb,rfl,a0⟩:∃ la lb,ls=la++lb∧la.length=ka.length+1:=⟨ls.take (ka.length+1),ls.drop (ka.length+1),(List.take_append_drop _ _).symm,by simp;omega⟩
 have e0:lb.length=kb.length+1:=by simp at g0;omega
 have f0:lb≠[]:=by intro e;subst e;cases e0
 rw [toks_join a0 f0] at hp;obtain ⟨p1,p2,p3⟩:=List.pairwise_append.1 hp;obtain ⟨p4,p5⟩:=List.pairwise_cons.1 p2;have h0:la≠[]:=by intro e;subst e;cases a0
 obtain ⟨x,hx⟩:=List.exists_mem_of_ne_nil _ h0;obtain ⟨y,hy⟩:=List.exists_mem_of_ne_nil _ f0;obtain ⟨a,ha⟩:=List.exists_mem_of_ne_nil _ (hn x (by simp [hx]));obtain ⟨b,hb⟩:=List.exists_mem_of_ne_nil _ (hn y (by simp [hy]));have r1:=p3 (.T x) (T_mem a0 hx) (.K k) sM;have r2:=p4 (.T y) (T_mem e0 hy);refine ⟨⟨a,List.mem_flatMap.2 ⟨x,by simp [hx],ha⟩,r1 a ha⟩,⟨b,List.mem_flatMap.2 ⟨y,by simp [hy],hb⟩,r2 b hb⟩⟩
theorem before_all {t:Tok} {ls:List Sb} {ks:List Bs} (hl:ls.length=ks.length+1) (hp:(toks ls ks).Pairwise RT) (hn:∀ x∈ls,x.its≠[]) (h:∀ a∈ls.flatMap (·.its),tb t a.1):∀ u∈toks ls ks,RT t u:=by
 intro u hu;rcases mem_toks hu with ⟨x,hx,rfl⟩|⟨k,hk,rfl⟩
 ·exact RT_T.2 λ a ha=>h a (List.mem_flatMap.2 ⟨x,hx,ha⟩)
 ·obtain ⟨⟨a,ha,h1⟩,_⟩:=key_between hl hp hn hk;exact tb_K (h a ha) h1
theorem after_all {t:Tok} {ls:List Sb} {ks:List Bs} (hl:ls.length=ks.length+1) (hp:(toks ls ks).Pairwise RT) (hn:∀ x∈ls,x.its≠[]) (h:∀ a∈ls.flatMap (·.its),ta a.1 t):∀ u∈toks ls ks,RT u t:=by
 intro u hu;rcases mem_toks hu with ⟨x,hx,rfl⟩|⟨k,hk,rfl⟩
 ·exact T_RT.2 λ a ha=>h a (List.mem_flatMap.2 ⟨x,hx,ha⟩)
 ·obtain ⟨_,b,hb,h1⟩:=key_between hl hp hn hk;exact K_ta (h b hb) h1
theorem splice_ok {la us lb:List Sb} {ka uk kb:List Bs} {old:List Tok} (hp:(TK la ka++old++KT kb lb).Pairwise RT) (h2:us.length=uk.length+1) (hu:(toks us uk).Pairwise RT) (hn:∀ x∈us,x.its≠[])
  (hb:∀ t∈TK la ka,∀ a∈us.flatMap (·.its),tb t a.1) (ha:∀ t∈KT kb lb,∀ a∈us.flatMap (·.its),ta a.1 t):(TK la ka++toks us uk++KT kb lb).Pairwise RT:=by
 obtain ⟨p1,p2,p3⟩:=List.pairwise_append.1 hp;obtain ⟨p4,p5,p6⟩:=List.pairwise_append.1 p1;refine List.pairwise_append.2 ⟨List.pairwise_append.2 ⟨p4,hu,λ t ht u a0=>before_all h2 hu hn (hb t ht) u a0⟩,p2,λ u a0 t ht=>?_⟩;rcases List.mem_append.1 a0 with h|h
 ·exact p3 u (List.mem_append_left _ h) t ht
 ·exact after_all h2 hu hn (ha t ht) u h
def Vt (s:Pg):Nat→Nd→bT→List Nat→Prop
 | 0,nd,l,ps=>nd=⟨l,[],[]⟩∧ps=[]∧Srt l∧∀ x∈l,dW x.1=true∧eR x.2=true
 | h+1,nd,l,ps=>∃ ls:List Sb,nd.items=[]∧nd.kids=ls.map (·.page)∧ls.length=nd.keys.length+1∧(toks ls nd.keys).Pairwise RT∧(∀ k∈nd.keys,dW k=true) ∧
  l=ls.flatMap (·.its)∧ps=ls.flatMap (λ x=>x.page::x.ps)∧∀ x∈ls,∃ nd',cD s x.page=some nd'∧4≤aT nd'∧Vt s h nd' x.its x.ps
theorem Vt.ext {s s':Pg} (hx:Ext s s'):∀ {h:Nat} {nd:Nd} {l:bT} {ps:List Nat},Vt s h nd l ps→Vt s' h nd l ps
 | 0,_,_,_,h=>h
 | h+1,nd,l,ps,⟨ls,h1,h2,h3,h4,h5,h6,h7,h8⟩=>⟨ls,h1,h2,h3,h4,h5,h6,h7,λ x a0=>by
  obtain ⟨nd',g1,g2,g3⟩:=h8 x a0
  exact ⟨nd',hx.node g1,g2,g3.ext hx⟩⟩
theorem Vt.items {s:Pg}:∀ {h:Nat} {nd:Nd} {l:bT} {ps:List Nat},Vt s h nd l ps→∀ x∈l,dW x.1=true∧eR x.2=true
 | 0,_,_,_,h=>h.2.2.2
 | h+1,nd,l,ps,⟨ls,h1,h2,h3,h4,h5,h6,h7,h8⟩=>by
  subst h6;intro x hx;obtain ⟨y,hy,hxy⟩:=List.mem_flatMap.1 hx;obtain ⟨nd',g1,g2,g3⟩:=h8 y hy;exact g3.items x hxy
theorem Vt.ne {s:Pg}:∀ {h:Nat} {nd:Nd} {l:bT} {ps:List Nat},Vt s h nd l ps→1≤aT nd→l≠[]
 | 0,_,_,_,h,hs=>by
  obtain ⟨rfl,rfl,_⟩:=h;intro e;subst e;simp [aT] at hs
 | h+1,nd,l,ps,⟨ls,h1,h2,h3,h4,h5,h6,h7,h8⟩,hs=>by
  subst h6
  cases ls with
  | nil=>cases h3
  | cons x r =>
   obtain ⟨nd',g1,g2,g3⟩:=h8 x sM;have:=g3.ne oM;intro e;simp only [List.flatMap_cons,List.append_eq_nil_iff] at e;exact this e.1
theorem Vt.same {s:Pg}:∀ {h:Nat} {nd:Nd} {l l':bT} {ps a0:List Nat},Vt s h nd l ps→Vt s h nd l' a0→l=l'∧ps=a0
 | 0,_,_,_,_,_,h,k=>by
  obtain ⟨e1,e2,_⟩:=h;obtain ⟨e3,e4,_⟩:=k;rw [e1] at e3;simp only [Nd.mk.injEq,and_true] at e3;exact ⟨e3,e2.trans e4.symm⟩
 | h+1,nd,l,l',ps,a0,⟨ls,h1,h2,h3,h4,h5,h6,h7,h8⟩,⟨ls',k1,k2,k3,k4,k5,k6,k7,k8⟩=>by
  have e:ls=ls':=by
   rw [h2] at k2;clear h1 h2 h3 h4 h5 h6 h7 k1 k3 k4 k5 k6 k7
   induction ls generalizing ls' with
   | nil=>cases ls' with
    | nil=>rfl
    | cons _ _=>simp at k2
   | cons x r ih=>cases ls' with
    | nil=>simp at k2
    | cons y r' =>
     simp only [List.map_cons,List.cons.injEq] at k2;obtain ⟨g0,g1,g2,g3⟩:=h8 x sM;obtain ⟨f0,g4,g5,g6⟩:=k8 y sM;rw [← k2.1,g1] at g4;cases g4;obtain ⟨e1,e2⟩:=g3.same g6
     have e0:x=y:=by
      cases x;cases y
      simp only at k2 e1 e2 ⊢;rw [k2.1,e1,e2]
     rw [e0,ih (λ z hz=>h8 z (List.mem_cons_of_mem _ hz)) r' k2.2 (λ z hz=>k8 z (List.mem_cons_of_mem _ hz))]
  subst e;exact ⟨h6.trans k6.symm,h7.trans k7.symm⟩
theorem srt_KT:∀ {ks:List Bs} {ls:List Sb},ls.length=ks.length→(KT ks ls).Pairwise RT→(∀ x∈ls,Srt x.its)→Srt (ls.flatMap (·.its))
 | [],[],_,_,_=>List.Pairwise.nil
 | [],_::_,h,_,_=>by cases h
 | _::_,[],h,_,_=>by cases h
 | k::ks,x::r,h,hp,hs=>by
  simp only [KT] at hp;obtain ⟨h3,h4⟩:=List.pairwise_cons.1 (List.pairwise_cons.1 hp).2;have hr:r.length=ks.length:=by simpa using h
  simp only [List.flatMap_cons];refine List.pairwise_append.2 ⟨hs x sM,srt_KT hr h4 (λ y hy=>hs y (List.mem_cons_of_mem _ hy)),λ a ha b hb=>?_⟩;obtain ⟨y,hy,a0⟩:=List.mem_flatMap.1 hb;exact h3 _ (nQ hr hy) a ha b a0
theorem srt_flat {ls:List Sb} {ks:List Bs} (hl:ls.length=ks.length+1) (hp:(toks ls ks).Pairwise RT) (hs:∀ x∈ls,Srt x.its):Srt (ls.flatMap (·.its)):=by
 cases ls with
 | nil=>exact List.Pairwise.nil
 | cons x r =>
  simp only [toks] at hp;obtain ⟨h3,h4⟩:=List.pairwise_cons.1 hp;have hr:r.length=ks.length:=by simpa using hl
  simp only [List.flatMap_cons];refine List.pairwise_append.2 ⟨hs x sM,srt_KT hr h4 (λ y hy=>hs y (List.mem_cons_of_mem _ hy)),λ a ha b hb=>?_⟩;obtain ⟨y,hy,a0⟩:=List.mem_flatMap.1 hb;exact h3 _ (nQ hr hy) a ha b a0
theorem Vt.srt {s:Pg}:∀ {h:Nat} {nd:Nd} {l:bT} {ps:List Nat},Vt s h nd l ps→Srt l
 | 0,_,_,_,h=>h.2.2.1
 | h+1,nd,l,ps,⟨ls,h1,h2,h3,h4,h5,h6,h7,h8⟩=>by
  subst h6;refine srt_flat h3 h4 λ x hx=>?_;obtain ⟨nd',g1,g2,g3⟩:=h8 x hx;exact g3.srt
theorem fB {s:Pg} {n:Nat} {nd:Nd} (h:cD s n=some nd):bF nd=true:=by
 unfold cD at h;split at h
 ·exact readN_ok h
 ·cases h
theorem dL {s:Pg} {n:Nat} {nd:Nd} (h:cD s n=some nd):bK s n=true:=by
 unfold cD at h;split at h
 ·assumption
 ·cases h
theorem dV {s:Pg} {n:Nat} (h:bK s n=true):n<s.count:=by
 simp only [bK,Bool.and_eq_true,decide_eq_true_eq] at h;exact h.1
theorem leaf_ok {l:bT} (hs:Srt l) (hk:∀ x∈l,dW x.1=true∧eR x.2=true) (h8:l.length≤8):bF ⟨l,[],[]⟩=true:=by
 unfold bF;rw [if_pos (by rfl)];simp only [wholeL,Bool.and_eq_true,decide_eq_true_eq,List.isEmpty_nil,true_and];refine ⟨h8,nP λ i hi=>?_⟩;have h1:=hk _ (List.getElem_mem hi)
 cases i with
 | zero=>simp only [gL,List.getElem?_eq_getElem hi,h1.1,h1.2,Bool.and_self]
 | succ j =>
  have hj:j<l.length:=by omega
  have h2:=(List.pairwise_iff_getElem.1 hs) j (j+1) hj hi oM;simp only [gL,List.getElem?_eq_getElem hi,List.getElem?_eq_getElem hj,h1.1,h1.2,Bool.and_self,Bool.true_and,decide_eq_true_eq];exact h2
theorem keys_at {l:List Bs} (hs:l.Pairwise fQ) (hk:∀ x∈l,dW x=true):gF (jF l) l.length=true:=by
 refine nP λ i hi=>?_;have h1:=hk _ (List.getElem_mem hi)
 cases i with
 | zero=>simp only [jF,List.getElem?_eq_getElem hi,h1,Bool.and_self]
 | succ j =>
  have hj:j<l.length:=by omega
  have h2:=(List.pairwise_iff_getElem.1 hs) j (j+1) hj hi oM;simp only [jF,List.getElem?_eq_getElem hi,List.getElem?_eq_getElem hj,h1,Bool.true_and,decide_eq_true_eq];exact h2
theorem kids_at {l:List Nat} (hn:l.Nodup) (hk:∀ x∈l,x<2147483648):gF (jW l) l.length=true:=by
 refine nP λ i hi=>?_;have h1:=hk _ (List.getElem_mem hi);simp only [jW,List.getElem?_eq_getElem hi,Bool.and_eq_true,decide_eq_true_eq,Bool.not_eq_true',h1,true_and];rw [← Bool.not_eq_true,List.contains_iff_mem];intro hm;obtain ⟨j,hj,e⟩:=List.mem_take_iff_getElem.1 hm;have:=(List.pairwise_iff_getElem.1 hn) j i oM hi oM;exact this e
theorem KT_keys:∀ {ks:List Bs} {ls:List Sb},ls.length=ks.length→(KT ks ls).Pairwise RT→ks.Pairwise fQ
 | [],_,_,_=>List.Pairwise.nil
 | k::ks,[],h,_=>by cases h
 | k::ks,x::r,h,hp=>by
  simp only [KT] at hp;obtain ⟨h1,h2⟩:=List.pairwise_cons.1 hp;have hr:r.length=ks.length:=by simpa using h
  refine List.pairwise_cons.2 ⟨λ l hl=>?_,KT_keys hr (List.pairwise_cons.1 h2).2⟩
  have:Tok.K l∈KT ks r:=by
   have:=K_mem (ls:=x::r) (ks:=ks) (by simpa using h) hl;simp only [toks,List.mem_cons] at this;rcases this with e|e
   ·cases e
   ·exact e
  exact h1 (.K l) (by simp [this])
theorem toks_keys {ls:List Sb} {ks:List Bs} (h:ls.length=ks.length+1) (hp:(toks ls ks).Pairwise RT):ks.Pairwise fQ:=by
 cases ls with
 | nil=>cases h
 | cons x r =>
  simp only [toks] at hp;exact KT_keys (by simpa using h) (List.pairwise_cons.1 hp).2
theorem pages_nodup {s:Pg} {h:Nat}:∀ {ks:List Bs} {ls:List Sb},ls.length=ks.length+1→(toks ls ks).Pairwise RT→(∀ x∈ls,∃ nd',cD s x.page=some nd'∧4≤aT nd'∧Vt s h nd' x.its x.ps)→(ls.map (·.page)).Nodup:=by
 intro ks ls hl hp hv;refine List.pairwise_map.2 ?_
 have key:∀ {ls:List Sb} {ks:List Bs},ls.length=ks.length+1→(toks ls ks).Pairwise RT→ls.Pairwise λ x y=>RT (.T x) (.T y):=by
  intro ls
  induction ls with
  | nil=>intro ks _ _;exact List.Pairwise.nil
  | cons x r ih =>
   intro ks hl hp;simp only [toks] at hp;obtain ⟨h1,h2⟩:=List.pairwise_cons.1 hp;have hr:r.length=ks.length:=by simpa using hl
   refine List.pairwise_cons.2 ⟨λ y hy=>h1 _ (nQ hr hy),?_⟩
   cases r with
   | nil=>exact List.Pairwise.nil
   | cons z zs=>cases ks with
    | nil=>cases hr
    | cons k ks =>
     simp only [KT] at h2;exact ih (ks:=ks) (by simpa using hr) (List.pairwise_cons.1 h2).2
 have h1:=key hl hp;refine List.Pairwise.imp_of_mem (λ {x y} hx hy a0 e=>?_) h1;obtain ⟨n1,g1,g2,g3⟩:=hv x hx;obtain ⟨n2,g4,g5,g6⟩:=hv y hy;rw [← e,g1] at g4;cases g4;have es:=(g3.same g6).1;obtain ⟨a,ha⟩:=List.exists_mem_of_ne_nil _ (g3.ne oM);exact fG _ (a0 a ha a (by rw [← es];exact ha))
theorem branch_ok {s:Pg} (hs:PgOk s) {h:Nat} {nd:Nd} {l:bT} {ps:List Nat} (hv:Vt s (h+1) nd l ps) (h2:2≤nd.kids.length) (h8:nd.kids.length≤8):bF nd=true:=by
 obtain ⟨ls,e1,e2,e3,e4,e5,e6,e7,e8⟩:=hv;unfold bF;rw [if_neg (by rw [bL];intro e;rw [e] at h2;simp at h2)];simp only [wholeB,Bool.and_eq_true,decide_eq_true_eq,List.isEmpty_iff];refine ⟨⟨⟨⟨⟨e1,h2⟩,h8⟩,?_⟩,?_⟩,?_⟩
 ·rw [e2,List.length_map,e3]
 ·rw [e2];refine kids_at (pages_nodup e3 e4 e8) λ x hx=>?_;obtain ⟨y,hy,rfl⟩:=List.mem_map.1 hx;obtain ⟨n1,g1,_⟩:=e8 y hy;have:=dV (dL g1);have:=hs.cnt;omega
 ·exact keys_at (toks_keys e3 e4) e5
theorem Vt.ok {s:Pg} (hs:PgOk s) {h:Nat} {nd:Nd} {l:bT} {ps:List Nat} (hv:Vt s h nd l ps) (h2:2≤aT nd∨h=0) (h8:aT nd≤8):bF nd=true:=by
 cases h with
 | zero =>
  obtain ⟨rfl,_,h3,h4⟩:=hv;exact leaf_ok h3 h4 (by simpa [aT] using h8)
 | succ h =>
  have a0:=hv;obtain ⟨ls,e1,_⟩:=a0;have hz:aT nd=nd.kids.length:=by simp [aT,e1]
  rw [hz] at h2 h8;exact branch_ok hs hv oM h8
theorem kid_split {ls:List Sb} {ks:List Bs} (hl:ls.length=ks.length+1) (hp:(toks ls ks).Pairwise RT) (key:Bs) :
  ∃ la x lb ka kb,ls=la++x::lb∧ks=ka++kb∧la.length=fW ks key∧ka.length=la.length∧kb.length=lb.length∧(∀ t∈TK la ka,tb t key)∧(∀ t∈KT kb lb,ta key t)∧(TK la ka++[Tok.T x]++KT kb lb).Pairwise RT:=by
 have hi:fW ks key≤ks.length:=dX _ _;generalize hi0:fW ks key=i at hi
 have j0:∀ k∈ks.take i,kle k key:=by
  intro k hk;obtain ⟨j,hj,rfl⟩:=List.mem_take_iff_getElem.1 hk;have:=gB (λ x=>decide (bY x key≤0)) ks j _ (show j<fW ks key by omega) (List.getElem?_eq_getElem oM);exact cmpB_le.1 (by simpa using this)
 have i0:∀ k∈ks.drop i,fQ key k:=by
  have a0:=toks_keys hl hp;intro k hk;obtain ⟨j,hj,rfl⟩:=List.mem_drop_iff_getElem.1 hk;have h0:i<ks.length:=by omega
  have h1:fQ key ks[i]:=by
   have:=jI (λ x=>decide (bY x key≤0)) ks ks[i] (by rw [show (ks.takeWhile λ x=>decide (bY x key≤0)).length=i from hi0];exact List.getElem?_eq_getElem h0);rcases klt_or key ks[i] with g|g|g
   ·exact g
   ·rw [← g,cmpB_self] at this;simp at this
   ·have h2:=cmpB_le.2 (nK g);simp at this;omega
  cases j with
  | zero=>simpa using h1
  | succ j=>exact eJ h1 ((List.pairwise_iff_getElem.1 a0) i (i+(j+1)) h0 oM oM)
 have hx:i<ls.length:=by omega
 have e1:ls=ls.take i++ls[i]::ls.drop (i+1):=by
  rw [← List.drop_eq_getElem_cons hx,List.take_append_drop]
 have e2:ks=ks.take i++ks.drop i:=(List.take_append_drop _ _).symm;have l1:(ls.take i).length=(ks.take i).length:=by simp;omega
 have l2:(ks.drop i).length=(ls.drop (i+1)).length:=by simp;omega
 have et:toks ls ks=TK (ls.take i) (ks.take i)++[Tok.T ls[i]]++KT (ks.drop i) (ls.drop (i+1)):=by
  have:=toks_mid (la:=ls.take i) (us:=[ls[i]]) (lb:=ls.drop (i+1)) (ka:=ks.take i) (uk:=[]) (kb:=ks.drop i) l1 rfl;rw [← show TK (ls.take i) (ks.take i)++toks [ls[i]] []++KT (ks.drop i) (ls.drop (i+1))=TK (ls.take i) (ks.take i)++[Tok.T ls[i]]++KT (ks.drop i) (ls.drop (i+1)) from rfl,← this];congr 1
  ·simpa using e1
  ·simpa using e2
 rw [et] at hp;refine ⟨ls.take i,ls[i],ls.drop (i+1),ks.take i,ks.drop i,e1,e2,by simp;omega,l1.symm,l2,?_,?_,hp⟩
 ·
  have f0:∀ {la:List Sb} {ka:List Bs},la.length=ka.length→(TK la ka).Pairwise RT→(∀ k∈ka,kle k key)→∀ t∈TK la ka,tb t key:=by
   intro la
   induction la with
   | nil=>intro ka _ _ _ t ht;simp [TK] at ht
   | cons x la ih =>
    intro ka h hp hk t ht
    cases ka with
    | nil=>cases h
    | cons k ka =>
     simp only [TK] at hp ht;obtain ⟨p1,p2⟩:=List.pairwise_cons.1 hp;rcases List.mem_cons.1 ht with rfl|ht
     ·exact tb_of_K (p1 (.K k) sM) (hk k sM)
     ·rcases List.mem_cons.1 ht with rfl|ht
      ·exact hk k sM
      ·exact ih (by simpa using h) (List.pairwise_cons.1 p2).2 (λ k g0=>hk k (List.mem_cons_of_mem _ g0)) t ht
  exact f0 l1 (List.pairwise_append.1 (List.pairwise_append.1 hp).1).1 j0
 ·have e0:∀ {kb:List Bs} {lb:List Sb},kb.length=lb.length→(KT kb lb).Pairwise RT→(∀ k∈kb,fQ key k)→∀ t∈KT kb lb,ta key t:=by
   intro kb
   induction kb with
   | nil=>intro lb _ _ _ t ht;simp [KT] at ht
   | cons k kb ih =>
    intro lb h hp hk t ht
    cases lb with
    | nil=>cases h
    | cons x lb =>
     simp only [KT] at hp ht;obtain ⟨p1,p2⟩:=List.pairwise_cons.1 hp;rcases List.mem_cons.1 ht with rfl|ht
     ·exact hk k sM
     ·rcases List.mem_cons.1 ht with rfl|ht
      ·exact ta_of_K (p1 (.T x) sM) (hk k sM)
      ·exact ih (by simpa using h) (List.pairwise_cons.1 p2).2 (λ k g0=>hk k (List.mem_cons_of_mem _ g0)) t ht
  exact e0 l2 (List.pairwise_append.1 hp).2.1 i0
theorem TK_its {la:List Sb} {key:Bs}:∀ {ka:List Bs},la.length=ka.length→(∀ t∈TK la ka,tb t key)→∀ a∈la.flatMap (·.its),fQ a.1 key:=by
 induction la with
 | nil=>intro ka _ _ a ha;simp at ha
 | cons x la ih =>
  intro ka h ht a ha
  cases ka with
  | nil=>cases h
  | cons k ka =>
   simp only [TK] at ht;simp only [List.flatMap_cons,List.mem_append] at ha;rcases ha with ha|ha
   ·exact ht (.T x) sM a ha
   ·exact ih (by simpa using h) (λ t h2=>ht t (by simp [h2])) a ha
theorem KT_its {lb:List Sb} {key:Bs}:∀ {kb:List Bs},kb.length=lb.length→(∀ t∈KT kb lb,ta key t)→∀ a∈lb.flatMap (·.its),fQ key a.1:=by
 induction lb with
 | nil=>intro ka _ _ a ha;simp at ha
 | cons x la ih =>
  intro ka h ht a ha
  cases ka with
  | nil=>cases h
  | cons k ka =>
   simp only [KT] at ht;simp only [List.flatMap_cons,List.mem_append] at ha;rcases ha with ha|ha
   ·exact ht (.T x) sM a ha
   ·exact ih (by simpa using h) (λ t h2=>ht t (by simp [h2])) a ha
end Go.Proofs.YtfpadnmdafiddaaGreatDoor
