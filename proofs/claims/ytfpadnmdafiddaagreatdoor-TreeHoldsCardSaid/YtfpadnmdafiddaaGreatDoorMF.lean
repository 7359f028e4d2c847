import Derived.Test.YtfpadnmdafiddaaGreatDoorMD
set_option linter.all false
set_option maxHeartbeats 16000000
set_option maxRecDepth 100000
namespace Go.V
open Go Go.RowKit
def mC (l:List Oper) (vs:Nat→Value):List Nat→dQ→dQ
 | [],e=>e
 | j::js,e=>mC l vs js (match lM l j with|some d=>(d,vs j)::e|none=>e)
def upB (dn:Nat→Bool) (i:Nat):Nat→Bool:=λ j=>Nat.beq j i || dn j
def upV (vs:Nat→Value) (i:Nat) (v:Value):Nat→Value:=λ j=>bif Nat.beq j i then v else vs j
def invQ (d:Option Nat) (i:Nat) (dn:Nat→Bool) (vs:Nat→Value) (J:(Nat→Bool)→(Nat→Value)→World→Prop):dS:=λ x e' w'=>match x with
 | .normal=>∃ v,(∀ t,d=some t→find e' t=some v)∧J (upB dn i) (upV vs i v) w'
 | _=>False
theorem kT {d i:Nat} {dn:Nat→Bool} {vs:Nat→Value} {v:Value} {J:(Nat→Bool)→(Nat→Value)→World→Prop} {e':dQ} {w':World} (h:find e' d=some v) (hI:J (upB dn i) (upV vs i v) w'):invQ (some d) i dn vs J .normal e' w':=⟨v,λ t ht=>(by cases ht;exact h),hI⟩
theorem inv_end0 {i:Nat} {dn:Nat→Bool} {vs:Nat→Value} {J:(Nat→Bool)→(Nat→Value)→World→Prop} {e':dQ} {w':World} (hI:J (upB dn i) (upV vs i undef) w'):invQ none i dn vs J .normal e' w':=⟨undef,λ t ht=>(by cases ht),hI⟩
def InvOp [Rn] (P:Program) (n:Nat) (l:List Oper) (e:dQ) (J:(Nat→Bool)→(Nat→Value)→World→Prop) (i:Nat):Prop :=
 match l[i]? with
 | none=>True
 | some o=>∀ dn vs w,J dn vs w→dn i=false→(∀ x∈cC o,dn x=true)→TL P n l.toArray [o] (mC l vs (kM (cC o)) e) w (invQ o.dst i dn vs J)
def AllInv [Rn] (P:Program) (n:Nat) (l:List Oper) (e:dQ) (J:(Nat→Bool)→(Nat→Value)→World→Prop):Nat→Nat→Prop
 | _,0=>True
 | i,k+1=>InvOp P n l e J i∧AllInv P n l e J (i+1) k
theorem depEnvF_find {l:List Oper} {vs:Nat→Value}:∀ {js:List Nat} {e0:dQ} {t:Nat} {v:Value},find (mC l vs js e0) t=some v→(∃ j∈js,lM l j=some t∧v=vs j)∨find e0 t=some v
 | [],e0,t,v,h=>.inr h
 | j::js,e0,t,v,h=>by
  unfold mC at h
  rcases depEnvF_find h with ⟨x,hx,h1⟩|h1
  ·exact .inl ⟨x,by simp [hx],h1⟩
  ·cases hd:lM l j with
   | none=>rw [hd] at h1;exact .inr h1
   | some d =>
    rw [hd] at h1
    simp only [fV] at h1
    by_cases ht:d=t
    ·rw [if_pos ht] at h1
     exact .inl ⟨j,by simp,by rw [hd,ht],(Option.some.inj h1).symm⟩
    ·rw [if_neg ht] at h1
     exact .inr h1
section
variable [Rn]
variable {P:Program} {n:Nat} {l:List Oper} {e:dQ} {J:(Nat→Bool)→(Nat→Value)→World→Prop} {N:Nat} {Q:dS}
theorem allInv_at:∀ {k i:Nat},AllInv P n l e J i k→∀ j,i≤j→j<i+k→InvOp P n l e J j
 | 0,_,_,j,h1,h2=>by omega
 | k+1,i,h,j,h1,h2=>by
  by_cases hj:j=i
  ·subst hj;exact h.1
  ·exact allInv_at h.2 j (by omega) (by omega)
theorem allInv_end {i:Nat}:AllInv P n l e J i 0:=trivial
theorem allInv_cons {i k:Nat} (h:InvOp P n l e J i) (hs:AllInv P n l e J (i+1) k):AllInv P n l e J i (k+1):=⟨h,hs⟩
theorem lJ {i:Nat} {d:Option Nat} {op:Op} {ty:TypeId} {pos:String} {aft:Array Edge} {js:List Nat} (ho:l[i]? = some ⟨d,op,ty,pos,aft,none⟩) (hj:kM (cC ⟨d,op,ty,pos,aft,none⟩)=js)
  (h:∀ dn vs w,J dn vs w→dn i=false→(∀ x∈js,dn x=true)→TL P n #[] [⟨d,op,ty,pos,aft,none⟩] (mC l vs js e) w (invQ d i dn vs J)):InvOp P n l e J i:=by
 unfold InvOp
 rw [ho]
 simp only
 intro dn vs w hJ h0 h1
 subst hj
 exact TL.lone (h dn vs w hJ h0 (λ x hx=>h1 x (fK.1 hx)))
structure MidI (n:Nat) (l:List Oper) (e:dQ) (J:(Nat→Bool)→(Nat→Value)→World→Prop) (N:Nat) (listed:Array Bool) (a:Act) (w:World) (vs:Nat→Value):Prop where
 size:listed.size=l.length
 inv:J (λ i=>listed.getD i false) vs w
 defers:a.defers=Rn.ds
 tmps:a.tmps.size=n
 get:∀ t v,find e t=some v→a.tmps.getD t undef=v
 did:∀ i,i<N→listed.getD i false=true→∀ d,lM l i=some d→a.tmps.getD d undef=vs i
 rest:∀ i,N≤i→listed.getD i false=false
 closed:∀ j o,l[j]? = some o→listed.getD j false=true→∀ x∈cC o,listed.getD x false=true
theorem inv_runs (hN:N≤l.length) (hh:∀ i,i<N→DHead l e n i) (hsink:∀ o,l[N]? = some o→∀ i,i<N→i∈cC o)
  (ht:∀ j,N≤j→j<l.length→∃ o,l[j]? = some o∧(∀ x∈cC o,x<j)∧(j=N∨j-1∈cC o)) (hdo:∀ i,i<N→InvOp P n l e J i)
  (htail:∀ dn vs w,J dn vs w→(∀ i,i<N→dn i=true)→TL P n l.toArray (l.drop N) (mC l vs (upto 0 N) e) w Q) :
  ∀ (m:Nat) (listed:Array Bool) (a:Act) (w:World) (vs:Nat→Value) (f:Nat),MidI n l e J N listed a w vs →
   ((List.range N).filter λ i=>!(listed.getD i false)).length=m→f=m+(l.length-N)→wpAnyIn (FR Rn.ro) 0 P .any l.toArray (iP n Q) f listed a w:=by
 intro m
 induction m with
 | zero =>
  intro listed a w vs f mid hm hf
  have hall:∀ i,i<N→listed.getD i false=true:=by
   intro i hi
   have:=List.eq_nil_of_length_eq_zero hm
   have h2:=List.eq_nil_iff_forall_not_mem.1 this i
   simp only [List.mem_filter,List.mem_range,not_and,Bool.not_eq_true',Bool.not_eq_false] at h2
   exact h2 hi
  refine mQ ht f N listed a w (by omega) (Nat.le_refl _) mid.size hall (λ x hx hx2=>?_) ?_
  ·have:=mid.rest x hx
   rw [Array.getD_eq_getD_getElem?] at this ⊢
   cases hy:listed[x]? with
   | none=>rw [Array.getElem?_eq_none_iff] at hy;have:=mid.size;omega
   | some b=>simpa [hy] using this
  ·refine (htail _ vs w mid.inv hall).out ⟨mid.defers,mid.tmps,λ t v hv=>?_⟩
   rcases depEnvF_find hv with ⟨j,hj,h1,rfl⟩|h3
   ·have hjN:=(fJ.1 hj).2
    exact mid.did j (by omega) (hall j (by omega)) t h1
   ·exact mid.get t v h3
 | succ m ih =>
  intro listed a w vs f mid hm hf
  have hopen:∃ i,i<N∧listed.getD i false=false:=by
   have hne:((List.range N).filter λ i=>!(listed.getD i false))≠[]:=by intro h0;rw [h0] at hm;simp at hm
   obtain ⟨i,hi⟩:=List.exists_mem_of_ne_nil _ hne
   simp only [List.mem_filter,List.mem_range,Bool.not_eq_true'] at hi
   exact ⟨i,hi.1,hi.2⟩
  obtain ⟨f',rfl⟩:∃ f',f=f'+1:=⟨f-1,by omega⟩
  have hready:∀ j,j∈Region.ready .any l.toArray listed→j<N∧listed.getD j false=false:=by
   intro j hj
   obtain ⟨h3,o,h4,h5⟩:=dI.1 hj
   have hlt:j<l.length:=(List.getElem?_eq_some_iff.1 h4).1
   have hf2:listed.getD j false=false:=by
    rw [Array.getD_eq_getD_getElem?] at h3 ⊢
    cases hx:listed[j]? with
    | none=>simp
    | some b=>simpa [hx] using h3
   refine ⟨?_,hf2⟩
   rcases Nat.lt_or_ge j N with h|h
   ·exact h
   ·exfalso
    obtain ⟨o2,h6,_,h7⟩:=ht j h hlt
    rw [h4] at h6
    cases h6
    obtain ⟨i,hi,hi0⟩:=hopen
    by_cases hjN:j=N
    ·subst hjN
     have:=h5 i (hsink o h4 i hi)
     rw [hi0] at this
     cases this
    ·have h8:=h5 (j-1) (h7.resolve_left hjN)
     rw [mid.rest (j-1) (by omega)] at h8
     cases h8
  have hsome:Region.ready .any l.toArray listed≠[]:=by
   have key:∀ k i,i≤k→i<N→listed.getD i false=false→∃ j,j∈Region.ready .any l.toArray listed:=by
    intro k
    induction k with
    | zero =>
     intro i hi hiN hl
     obtain ⟨o,ho,_,hdeps⟩:=(hh i hiN).ex
     refine ⟨i,dI.2 ⟨?_,o,ho,λ x hx=>?_⟩⟩
     ·rw [Array.getD_eq_getD_getElem?] at hl ⊢
      cases hx:listed[i]? with
      | none=>rw [Array.getElem?_eq_none_iff] at hx;have:=mid.size;omega
      | some b=>simpa [hx] using hl
     ·have:=hdeps x hx;omega
    | succ k ihk =>
     intro i hi hiN hl
     obtain ⟨o,ho,_,hdeps⟩:=(hh i hiN).ex
     by_cases hx:∃ x∈cC o,listed.getD x false=false
     ·obtain ⟨x,hx1,hx2⟩:=hx
      have:=hdeps x hx1
      exact ihk x (by omega) (by omega) hx2
     ·refine ⟨i,dI.2 ⟨?_,o,ho,λ x hx1=>?_⟩⟩
      ·rw [Array.getD_eq_getD_getElem?] at hl ⊢
       cases hx:listed[i]? with
       | none=>rw [Array.getElem?_eq_none_iff] at hx;have:=mid.size;omega
       | some b=>simpa [hx] using hl
      ·cases hv:listed.getD x false with
       | true=>rfl
       | false=>exact absurd ⟨x,hx1,hv⟩ hx
   obtain ⟨i,hi,hi0⟩:=hopen
   obtain ⟨j,hj⟩:=key i i (Nat.le_refl _) hi hi0
   intro h0
   rw [h0] at hj
   cases hj
  refine ⟨λ h0=>absurd h0 hsome,λ i hir=>?_⟩
  obtain ⟨hiN,hil⟩:=hready i hir
  obtain ⟨_,o,ho,hdl⟩:=dI.1 hir
  obtain ⟨o',ho',hd,hdeps⟩:=(hh i hiN).ex
  rw [ho] at ho'
  cases ho'
  have hdst:lM l i=o.dst:=by simp [lM,ho]
  have hdo':=hdo i hiN
  unfold InvOp at hdo'
  simp only [ho] at hdo'
  have hfit:Fits n (mC l vs (kM (cC o)) e) a:=⟨mid.defers,mid.tmps,λ t v hv=>by
   rcases depEnvF_find hv with ⟨j,hj,h1,rfl⟩|h3
   ·have hj':=fK.1 hj
    exact mid.did j (by have:=hdeps j hj';omega) (hdl j hj') t h1
   ·exact mid.get t v h3⟩
  have hrun:=(hdo' _ vs w mid.inv hil hdl).out hfit
  unfold wpOpIn
  rw [show l.toArray[i]? = some o by simpa using ho]
  simp only
  have hnext:∀ a' w',iP n (invQ o.dst i (λ i=>listed.getD i false) vs J) .normal a' w'→(∃ v,a'.tmps=(a.put o.dst v).tmps)→wpAnyIn (FR Rn.ro) 0 P .any l.toArray (iP n Q) f' (listed.setIfInBounds i true) a' w':=by
   rintro a' w' ⟨e',he',v0,hv,hI'⟩ ⟨u,hu⟩
   have hother:∀ t,o.dst≠some t→a'.tmps.getD t undef=a.tmps.getD t undef:=λ t htd=>by
    rw [hu]
    cases hod:o.dst with
    | none=>rfl
    | some d =>
     rw [jK (by rw [mid.tmps];exact (hd d hod).1),if_neg (λ h=>htd (by rw [hod,h]))]
   have hsz0:i<listed.size:=by rw [mid.size];exact (List.getElem?_eq_some_iff.1 ho).1
   have hIn:J (λ j=>(listed.setIfInBounds i true).getD j false) (upV vs i v0) w':=by
    have e1:(λ j=>(listed.setIfInBounds i true).getD j false)=upB (λ i=>listed.getD i false) i:=by
     funext j
     unfold upB
     by_cases hji:j=i
     ·subst hji
      rw [Nat.beq_refl,Bool.true_or]
      simp [Array.getD_eq_getD_getElem?,hsz0]
     ·rw [eB hji]
      have e2:Nat.beq j i=false:=by
       cases hb:Nat.beq j i with
       | false=>rfl
       | true=>exact absurd (Nat.eq_of_beq_eq_true hb) hji
      rw [e2,Bool.false_or]
    rw [e1]
    exact hI'
   refine ih (listed.setIfInBounds i true) a' w' (upV vs i v0) f' ⟨by simp [mid.size],hIn,he'.defers,he'.size,λ t v hv=>?_,λ j hj hjl d hjd=>?_,λ j hj=>?_,λ j oj hoj hjl x hx=>?_⟩ ?_ (by omega)
   ·rw [hother t (λ h=>by rw [(hd t h).2.1] at hv;cases hv)]
    exact mid.get t v hv
   ·by_cases hji:j=i
    ·subst hji
     rw [hdst] at hjd
     unfold upV
     rw [Nat.beq_refl]
     exact he'.get d _ (hv d hjd)
    ·rw [eB hji] at hjl
     have hne:o.dst≠some d:=by
      intro hod
      rcases Nat.lt_or_ge j i with h|h
      ·exact (hd d hod).2.2 j h hjd
      ·obtain ⟨oj,hoj,hdj,_⟩:=(hh j hj).ex
       have:lM l j=oj.dst:=by simp [lM,hoj]
       rw [this] at hjd
       exact (hdj d hjd).2.2 i (by omega) (by rw [hdst];exact hod)
     rw [hother d hne]
     have e2:Nat.beq j i=false:=by
      cases hb:Nat.beq j i with
      | false=>rfl
      | true=>exact absurd (Nat.eq_of_beq_eq_true hb) hji
     unfold upV
     rw [e2]
     exact mid.did j hj hjl d hjd
   ·rw [eB (by omega)]
    exact mid.rest j hj
   ·by_cases hxi:x=i
    ·subst hxi
     have hsz:x<listed.size:=by rw [mid.size];exact (List.getElem?_eq_some_iff.1 ho).1
     simp [Array.getD_eq_getD_getElem?,hsz]
    ·rw [eB hxi]
     by_cases hji:j=i
     ·subst hji
      rw [ho] at hoj
      cases hoj
      exact hdl x hx
     ·rw [eB hji] at hjl
      exact mid.closed j oj hoj hjl x hx
   ·have hcount:∀ (L:List Nat),L.Nodup→i∈L→(L.filter λ j=>!((listed.setIfInBounds i true).getD j false)).length+1=(L.filter λ j=>!(listed.getD j false)).length:=by
     intro L
     induction L with
     | nil=>intro _ h;cases h
     | cons x xs ihx =>
      intro hnd hmem
      rw [List.nodup_cons] at hnd
      have hsz:i<listed.size:=by rw [mid.size];exact (List.getElem?_eq_some_iff.1 ho).1
      by_cases hxi:x=i
      ·subst hxi
       have hsame:(xs.filter λ j=>!((listed.setIfInBounds x true).getD j false))=xs.filter λ j=>!(listed.getD j false):=by
        apply List.filter_congr
        intro y hy
        rw [eB (λ (h:y=x)=>hnd.1 (by rw [← h];exact hy))]
       have h1:(listed.setIfInBounds x true).getD x false=true:=by simp [Array.getD_eq_getD_getElem?,hsz]
       rw [List.filter_cons_of_neg (by simp [h1]),hsame,List.filter_cons_of_pos (by simp [hil])]
       simp
      ·have hmem':i∈xs:=by
        rcases List.mem_cons.1 hmem with h|h
        ·exact absurd h.symm hxi
        ·exact h
       have:=ihx hnd.2 hmem'
       have hx2:(listed.setIfInBounds i true).getD x false=listed.getD x false:=eB hxi
       cases hc:listed.getD x false with
       | true=>rw [List.filter_cons_of_neg (by simp [hx2,hc]),List.filter_cons_of_neg (by simp [hc])];exact this
       | false=>rw [List.filter_cons_of_pos (by simp [hx2,hc]),List.filter_cons_of_pos (by simp [hc])];simp only [List.length_cons];omega
    have:=hcount (List.range N) List.nodup_range (List.mem_range.2 hiN)
    omega
  unfold wpListIn at hrun
  split
  ·rename_i hw
   rw [if_pos hw] at hrun
   exact (Oper.wpIn_mono (λ a' w' hh=>hnext a' w' hh.1 hh.2) (wp_swap (wp_frame hrun) (λ x a w hx hq=>by
     refine (lift_no hq λ e0 w0 hq=>?_).elim
     cases x<;>first|exact absurd rfl hx|exact hq)))
  ·rename_i hw
   rw [if_neg hw] at hrun
   exact ⟨hrun.1,hnext _ _ hrun.2 ⟨undef,by cases o.dst<;>rfl⟩⟩
theorem T.inv {rid:Nat} {w0:World} (N:Nat) (J:(Nat→Bool)→(Nat→Value)→World→Prop) [hm:Mixed P] (hc:(headDet l e n 0 N&&tailOk l N N (l.length-N)&&Nat.ble N l.length&&sinkDet l N)=true) (h0:∀ w,Grow w0 w→J (λ _=>false) (λ _=>undef) w)
  (hdo:AllInv P n l e J 0 N) (htail:∀ dn vs w,J dn vs w→(∀ i,i<N→dn i=true)→TL P n l.toArray (l.drop N) (mC l vs (upto 0 N) e) w Q):T P n (.region rid l.toArray true) e w0 Q:=by
 simp only [Bool.and_eq_true] at hc
 obtain ⟨⟨⟨hc1,hc2⟩,hc3⟩,hc4⟩:=hc
 refine T.mk λ a ha=>wpIn_region_any hm.h ?_
 refine inv_runs (N:=N) (Nat.le_of_ble_eq_true hc3) (λ i hi=>headDet_at hc1 i (Nat.zero_le _) (by omega)) (λ o ho i hi=>?_) (λ j h1 h2=>kV hc2 j h1 (by omega)) (λ i hi=>allInv_at hdo i (Nat.zero_le _) (by omega)) htail
  N (Array.replicate l.toArray.size false) a _ (λ _=>undef) _ ⟨by simp,(by
   have e1:(λ i=>(Array.replicate l.toArray.size false).getD i false)=λ _=>false:=by
    funext i
    rw [Array.getD_eq_getD_getElem?]
    rcases Nat.lt_or_ge i l.length with hi|hi
    ·simp [hi]
    ·simp [hi]
   rw [e1];exact h0 _ (Grow.drew _)),ha.defers,ha.size,ha.get,λ i _ h=>?_,λ i _=>?_,λ j o _ h x _=>?_⟩ ?_ ?_
 ·unfold sinkDet at hc4
  rw [ho] at hc4
  exact any_beq.1 (List.all_eq_true.1 hc4 i (fJ.2 ⟨Nat.zero_le _,by omega⟩))
 ·exfalso
  rw [Array.getD_eq_getD_getElem?] at h
  rcases Nat.lt_or_ge i l.length with hi|hi
  ·simp [hi] at h
  ·simp [hi] at h
 ·rw [Array.getD_eq_getD_getElem?]
  rcases Nat.lt_or_ge i l.length with hi|hi
  ·simp [hi]
  ·simp [hi]
 ·exfalso
  rw [Array.getD_eq_getD_getElem?] at h
  rcases Nat.lt_or_ge j l.length with hi|hi
  ·simp [hi] at h
  ·simp [hi] at h
 ·have:((List.range N).filter λ i=>!((Array.replicate l.toArray.size false).getD i false))=List.range N:=by
   rw [List.filter_eq_self]
   intro i hi
   rw [Array.getD_eq_getD_getElem?]
   rcases Nat.lt_or_ge i l.length with hi|hi
   ·simp [hi]
   ·simp [hi]
  rw [this]
  simp
 ·have:=Nat.le_of_ble_eq_true hc3
  simp
  omega
end
end Go.V
