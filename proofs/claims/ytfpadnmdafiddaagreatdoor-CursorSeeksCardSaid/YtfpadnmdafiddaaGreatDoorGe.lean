import Derived.Test.YtfpadnmdafiddaaGreatDoorG0
import Derived.Test.YtfpadnmdafiddaaGreatDoorGd
import Derived.Test.YtfpadnmdafiddaaGreatDoorGc
import Derived.Test.YtfpadnmdafiddaaGreatDoorGb
import Derived.WideKeyArgs2
import Derived.Laws.BytesArg
import Derived.Test.YtfpadnmdafiddaaGreatDoorGa
import Derived.Lib.LaidTab
import Derived.LaidLaws
import Derived.Sort.MapsRangeIn
import Derived.Lib.SlKeysI
import Derived.ArgAppend
import Derived.Lib.AppendZeros
import Derived.Lib.AppendZerosOnto
set_option linter.all false
set_option maxHeartbeats 16000000
set_option maxRecDepth 100000
namespace Go.V
open Go Go.RowKit
def mR (l:List Oper) (vs:Nat→Value):List Nat→dJ→dJ
 | [],e=>e
 | j::js,e=>mR l vs js (match mF l j with|some d=>(d,vs j)::e|none=>e)
def upB (dn:Nat→Bool) (i:Nat):Nat→Bool:=λ j=>Nat.beq j i || dn j
def upV (vs:Nat→Value) (i:Nat) (v:Value):Nat→Value:=λ j=>bif Nat.beq j i then v else vs j
def invQ (d:Option Nat) (i:Nat) (dn:Nat→Bool) (vs:Nat→Value) (J:(Nat→Bool)→(Nat→Value)→World→Prop):dI:=λ x e' w'=>match x with
 | .normal=>∃ v,(∀ t,d=some t→find e' t=some v)∧J (upB dn i) (upV vs i v) w'
 | _=>False
theorem cQ {d i:Nat} {dn:Nat→Bool} {vs:Nat→Value} {v:Value} {J:(Nat→Bool)→(Nat→Value)→World→Prop} {e':dJ} {w':World} (h:find e' d=some v) (hI:J (upB dn i) (upV vs i v) w'):invQ (some d) i dn vs J .normal e' w':=⟨v,λ t ht=>(by cases ht;exact h),hI⟩
def InvOp [Rn] (P:Program) (n:Nat) (l:List Oper) (e:dJ) (J:(Nat→Bool)→(Nat→Value)→World→Prop) (i:Nat):Prop :=
 match l[i]? with
 | none=>True
 | some o=>∀ dn vs w,J dn vs w→dn i=false→(∀ x∈bH o,dn x=true)→TL P n l.toArray [o] (mR l vs (lI (bH o)) e) w (invQ o.dst i dn vs J)
def AllInv [Rn] (P:Program) (n:Nat) (l:List Oper) (e:dJ) (J:(Nat→Bool)→(Nat→Value)→World→Prop):Nat→Nat→Prop
 | _,0=>True
 | i,k+1=>InvOp P n l e J i∧AllInv P n l e J (i+1) k
theorem depEnvF_find {l:List Oper} {vs:Nat→Value}:∀ {js:List Nat} {e0:dJ} {t:Nat} {v:Value},find (mR l vs js e0) t=some v→(∃ j∈js,mF l j=some t∧v=vs j)∨find e0 t=some v
 | [],e0,t,v,h=>.inr h
 | j::js,e0,t,v,h=>by
  unfold mR at h;rcases depEnvF_find h with ⟨x,hx,h1⟩|h1
  ·exact .inl ⟨x,by simp [hx],h1⟩
  ·cases hd:mF l j with
   | none=>rw [hd] at h1;exact .inr h1
   | some d =>
    rw [hd] at h1;simp only [fT] at h1;by_cases ht:d=t
    ·rw [if_pos ht] at h1;exact .inl ⟨j,sM,by rw [hd,ht],(Option.some.inj h1).symm⟩
    ·rw [if_neg ht] at h1;exact .inr h1
section
variable [Rn]
variable {P:Program} {n:Nat} {l:List Oper} {e:dJ} {J:(Nat→Bool)→(Nat→Value)→World→Prop} {N:Nat} {Q:dI}
theorem allInv_at:∀ {k i:Nat},AllInv P n l e J i k→∀ j,i≤j→j<i+k→InvOp P n l e J j
 | 0,_,_,j,h1,h2=>by omega
 | k+1,i,h,j,h1,h2=>by
  by_cases hj:j=i
  ·subst hj;exact h.1
  ·exact allInv_at h.2 j oM oM
theorem allInv_end {i:Nat}:AllInv P n l e J i 0:=trivial
theorem allInv_cons {i k:Nat} (h:InvOp P n l e J i) (hs:AllInv P n l e J (i+1) k):AllInv P n l e J i (k+1):=⟨h,hs⟩
theorem dY {i:Nat} {d:Option Nat} {op:Op} {ty:TypeId} {pos:String} {aft:Array Edge} {js:List Nat} (ho:l[i]? = some ⟨d,op,ty,pos,aft,none⟩) (hj:lI (bH ⟨d,op,ty,pos,aft,none⟩)=js)
  (h:∀ dn vs w,J dn vs w→dn i=false→(∀ x∈js,dn x=true)→TL P n #[] [⟨d,op,ty,pos,aft,none⟩] (mR l vs js e) w (invQ d i dn vs J)):InvOp P n l e J i:=by
 unfold InvOp;rw [ho];simp only;intro dn vs w hJ h0 h1;subst hj;exact TL.lone (h dn vs w hJ h0 (λ x hx=>h1 x (fI.1 hx)))
structure MidI (n:Nat) (l:List Oper) (e:dJ) (J:(Nat→Bool)→(Nat→Value)→World→Prop) (N:Nat) (listed:Array Bool) (a:Act) (w:World) (vs:Nat→Value):Prop where
 size:listed.size=l.length
 inv:J (λ i=>listed.getD i false) vs w
 defers:a.defers=Rn.ds
 tmps:a.tmps.size=n
 get:∀ t v,find e t=some v→a.tmps.getD t undef=v
 did:∀ i,i<N→listed.getD i false=true→∀ d,mF l i=some d→a.tmps.getD d undef=vs i
 rest:∀ i,N≤i→listed.getD i false=false
 closed:∀ j o,l[j]? = some o→listed.getD j false=true→∀ x∈bH o,listed.getD x false=true
theorem inv_runs (hN:N≤l.length) (hh:∀ i,i<N→DHead l e n i) (hsink:∀ o,l[N]? = some o→∀ i,i<N→i∈bH o)
  (ht:∀ j,N≤j→j<l.length→∃ o,l[j]? = some o∧(∀ x∈bH o,x<j)∧(j=N∨j-1∈bH o)) (hdo:∀ i,i<N→InvOp P n l e J i)
  (htail:∀ dn vs w,J dn vs w→(∀ i,i<N→dn i=true)→TL P n l.toArray (l.drop N) (mR l vs (nD 0 N) e) w Q) :
  ∀ (m:Nat) (listed:Array Bool) (a:Act) (w:World) (vs:Nat→Value) (f:Nat),MidI n l e J N listed a w vs →
   ((List.range N).filter λ i=>!(listed.getD i false)).length=m→f=m+(l.length-N)→wpAnyIn (FR Rn.ro) 0 P .any l.toArray (iL n Q) f listed a w:=by
 intro m
 induction m with
 | zero =>
  intro listed a w vs f mid hm hf
  have hall:∀ i,i<N→listed.getD i false=true:=by
   intro i hi;have:=List.eq_nil_of_length_eq_zero hm;have h2:=List.eq_nil_iff_forall_not_mem.1 this i;simp only [List.mem_filter,List.mem_range,not_and,Bool.not_eq_true',Bool.not_eq_false] at h2;exact h2 hi
  refine nG ht f N listed a w oM (Nat.le_refl _) mid.size hall (λ x hx hx2=>?_) ?_
  ·have:=mid.rest x hx;rw [Array.getD_eq_getD_getElem?] at this ⊢
   cases hy:listed[x]? with
   | none=>rw [Array.getElem?_eq_none_iff] at hy;have:=mid.size;omega
   | some b=>simpa [hy] using this
  ·refine (htail _ vs w mid.inv hall).out ⟨mid.defers,mid.tmps,λ t v hv=>?_⟩;rcases depEnvF_find hv with ⟨j,hj,h1,rfl⟩|h3
   ·have hjN:=(fH.1 hj).2;exact mid.did j oM (hall j oM) t h1
   ·exact mid.get t v h3
 | succ m ih =>
  intro listed a w vs f mid hm hf
  have hopen:∃ i,i<N∧listed.getD i false=false:=by
   have hne:((List.range N).filter λ i=>!(listed.getD i false))≠[]:=by intro h0;rw [h0] at hm;simp at hm
   obtain ⟨i,hi⟩:=List.exists_mem_of_ne_nil _ hne;simp only [List.mem_filter,List.mem_range,Bool.not_eq_true'] at hi;exact ⟨i,hi.1,hi.2⟩
  obtain ⟨f',rfl⟩:∃ f',f=f'+1:=⟨f-1,oM⟩
  have hready:∀ j,j∈Region.ready .any l.toArray listed→j<N∧listed.getD j false=false:=by
   intro j hj;obtain ⟨h3,o,h4,h5⟩:=cZ.1 hj;have hlt:j<l.length:=(List.getElem?_eq_some_iff.1 h4).1
   have hf2:listed.getD j false=false:=by
    rw [Array.getD_eq_getD_getElem?] at h3 ⊢
    cases hx:listed[j]? with
    | none=>simp
    | some b=>simpa [hx] using h3
   refine ⟨?_,hf2⟩;rcases Nat.lt_or_ge j N with h|h
   ·exact h
   ·exfalso;obtain ⟨o2,h6,_,h7⟩:=ht j h hlt;rw [h4] at h6;cases h6;obtain ⟨i,hi,hi0⟩:=hopen;by_cases hjN:j=N
    ·subst hjN;have:=h5 i (hsink o h4 i hi);rw [hi0] at this;cases this
    ·have h8:=h5 (j-1) (h7.resolve_left hjN);rw [mid.rest (j-1) oM] at h8;cases h8
  have hsome:Region.ready .any l.toArray listed≠[]:=by
   have key:∀ k i,i≤k→i<N→listed.getD i false=false→∃ j,j∈Region.ready .any l.toArray listed:=by
    intro k
    induction k with
    | zero =>
     intro i hi hiN hl;obtain ⟨o,ho,_,hdeps⟩:=(hh i hiN).ex;refine ⟨i,cZ.2 ⟨?_,o,ho,λ x hx=>?_⟩⟩
     ·rw [Array.getD_eq_getD_getElem?] at hl ⊢
      cases hx:listed[i]? with
      | none=>rw [Array.getElem?_eq_none_iff] at hx;have:=mid.size;omega
      | some b=>simpa [hx] using hl
     ·have:=hdeps x hx;omega
    | succ k ihk =>
     intro i hi hiN hl;obtain ⟨o,ho,_,hdeps⟩:=(hh i hiN).ex;by_cases hx:∃ x∈bH o,listed.getD x false=false
     ·obtain ⟨x,hx1,hx2⟩:=hx;have:=hdeps x hx1;exact ihk x oM oM hx2
     ·refine ⟨i,cZ.2 ⟨?_,o,ho,λ x hx1=>?_⟩⟩
      ·rw [Array.getD_eq_getD_getElem?] at hl ⊢
       cases hx:listed[i]? with
       | none=>rw [Array.getElem?_eq_none_iff] at hx;have:=mid.size;omega
       | some b=>simpa [hx] using hl
      ·cases hv:listed.getD x false with
       | true=>rfl
       | false=>exact absurd ⟨x,hx1,hv⟩ hx
   obtain ⟨i,hi,hi0⟩:=hopen;obtain ⟨j,hj⟩:=key i i (Nat.le_refl _) hi hi0;intro h0;rw [h0] at hj;cases hj
  refine ⟨λ h0=>absurd h0 hsome,λ i hir=>?_⟩;obtain ⟨hiN,hil⟩:=hready i hir;obtain ⟨_,o,ho,hdl⟩:=cZ.1 hir;obtain ⟨o',ho',hd,hdeps⟩:=(hh i hiN).ex;rw [ho] at ho';cases ho';have hdst:mF l i=o.dst:=by simp [mF,ho]
  have hdo':=hdo i hiN;unfold InvOp at hdo';simp only [ho] at hdo'
  have hfit:Fits n (mR l vs (lI (bH o)) e) a:=⟨mid.defers,mid.tmps,λ t v hv=>by
   rcases depEnvF_find hv with ⟨j,hj,h1,rfl⟩|h3
   ·have hj':=fI.1 hj;exact mid.did j (by have:=hdeps j hj';omega) (hdl j hj') t h1
   ·exact mid.get t v h3⟩
  have hrun:=(hdo' _ vs w mid.inv hil hdl).out hfit;unfold wpOpIn;rw [show l.toArray[i]? = some o by simpa using ho];simp only
  have hnext:∀ a' w',iL n (invQ o.dst i (λ i=>listed.getD i false) vs J) .normal a' w'→(∃ v,a'.tmps=(a.put o.dst v).tmps)→wpAnyIn (FR Rn.ro) 0 P .any l.toArray (iL n Q) f' (listed.setIfInBounds i true) a' w':=by
   rintro a' w' ⟨e',he',v0,hv,hI'⟩ ⟨u,hu⟩
   have hother:∀ t,o.dst≠some t→a'.tmps.getD t undef=a.tmps.getD t undef:=λ t htd=>by
    rw [hu]
    cases hod:o.dst with
    | none=>rfl
    | some d =>
     rw [jS (by rw [mid.tmps];exact (hd d hod).1),if_neg (λ h=>htd (by rw [hod,h]))]
   have hsz0:i<listed.size:=by rw [mid.size];exact (List.getElem?_eq_some_iff.1 ho).1
   have hIn:J (λ j=>(listed.setIfInBounds i true).getD j false) (upV vs i v0) w':=by
    have e1:(λ j=>(listed.setIfInBounds i true).getD j false)=upB (λ i=>listed.getD i false) i:=by
     funext j
     unfold upB;by_cases hji:j=i
     ·subst hji;rw [Nat.beq_refl,Bool.true_or];simp [Array.getD_eq_getD_getElem?,hsz0]
     ·rw [eH hji]
      have e2:Nat.beq j i=false:=by
       cases hb:Nat.beq j i with
       | false=>rfl
       | true=>exact absurd (Nat.eq_of_beq_eq_true hb) hji
      rw [e2,Bool.false_or]
    rw [e1];exact hI'
   refine ih (listed.setIfInBounds i true) a' w' (upV vs i v0) f' ⟨by simp [mid.size],hIn,he'.defers,he'.size,λ t v hv=>?_,λ j hj hjl d hjd=>?_,λ j hj=>?_,λ j oj hoj hjl x hx=>?_⟩ ?_ oM
   ·rw [hother t (λ h=>by rw [(hd t h).2.1] at hv;cases hv)];exact mid.get t v hv
   ·by_cases hji:j=i
    ·subst hji;rw [hdst] at hjd;unfold upV;rw [Nat.beq_refl];exact he'.get d _ (hv d hjd)
    ·rw [eH hji] at hjl
     have hne:o.dst≠some d:=by
      intro hod;rcases Nat.lt_or_ge j i with h|h
      ·exact (hd d hod).2.2 j h hjd
      ·obtain ⟨oj,hoj,hdj,_⟩:=(hh j hj).ex;have:mF l j=oj.dst:=by simp [mF,hoj]
       rw [this] at hjd;exact (hdj d hjd).2.2 i oM (by rw [hdst];exact hod)
     rw [hother d hne]
     have e2:Nat.beq j i=false:=by
      cases hb:Nat.beq j i with
      | false=>rfl
      | true=>exact absurd (Nat.eq_of_beq_eq_true hb) hji
     unfold upV;rw [e2];exact mid.did j hj hjl d hjd
   ·rw [eH oM];exact mid.rest j hj
   ·by_cases hxi:x=i
    ·subst hxi;have hsz:x<listed.size:=by rw [mid.size];exact (List.getElem?_eq_some_iff.1 ho).1
     simp [Array.getD_eq_getD_getElem?,hsz]
    ·rw [eH hxi];by_cases hji:j=i
     ·subst hji;rw [ho] at hoj;cases hoj;exact hdl x hx
     ·rw [eH hji] at hjl;exact mid.closed j oj hoj hjl x hx
   ·have hcount:∀ (L:List Nat),L.Nodup→i∈L→(L.filter λ j=>!((listed.setIfInBounds i true).getD j false)).length+1=(L.filter λ j=>!(listed.getD j false)).length:=by
     intro L
     induction L with
     | nil=>intro _ h;cases h
     | cons x xs ihx =>
      intro hnd hmem;rw [List.nodup_cons] at hnd;have hsz:i<listed.size:=by rw [mid.size];exact (List.getElem?_eq_some_iff.1 ho).1
      by_cases hxi:x=i
      ·subst hxi
       have hsame:(xs.filter λ j=>!((listed.setIfInBounds x true).getD j false))=xs.filter λ j=>!(listed.getD j false):=by
        apply List.filter_congr;intro y hy;rw [eH (λ (h:y=x)=>hnd.1 (by rw [← h];exact hy))]
       have h1:(listed.setIfInBounds x true).getD x false=true:=by simp [Array.getD_eq_getD_getElem?,hsz]
       rw [List.filter_cons_of_neg (by simp [h1]),hsame,List.filter_cons_of_pos (by simp [hil])];simp
      ·have hmem':i∈xs:=by
        rcases List.mem_cons.1 hmem with h|h
        ·exact absurd h.symm hxi
        ·exact h
       have:=ihx hnd.2 hmem';have hx2:(listed.setIfInBounds i true).getD x false=listed.getD x false:=eH hxi
       cases hc:listed.getD x false with
       | true=>rw [List.filter_cons_of_neg (by simp [hx2,hc]),List.filter_cons_of_neg (by simp [hc])];exact this
       | false=>rw [List.filter_cons_of_pos (by simp [hx2,hc]),List.filter_cons_of_pos (by simp [hc])];simp only [List.length_cons];omega
    have:=hcount (List.range N) List.nodup_range (List.mem_range.2 hiN);omega
  unfold wpListIn at hrun;split
  ·rename_i hw;rw [if_pos hw] at hrun
   exact (Oper.wpIn_mono (λ a' w' hh=>hnext a' w' hh.1 hh.2) (wp_swap (wp_frame hrun) (λ x a w hx hq=>by
     refine (lift_no hq λ e0 w0 hq=>?_).elim
     cases x<;>first|exact absurd rfl hx|exact hq)))
  ·rename_i hw;rw [if_neg hw] at hrun;exact ⟨hrun.1,hnext _ _ hrun.2 ⟨undef,by cases o.dst<;>rfl⟩⟩
theorem T.inv {rid:Nat} {w0:World} (N:Nat) (J:(Nat→Bool)→(Nat→Value)→World→Prop) [hm:Mixed P] (hc:(headDet l e n 0 N&&mZ l N N (l.length-N)&&Nat.ble N l.length&&sinkDet l N)=true) (h0:∀ w,Grow w0 w→J (λ _=>false) (λ _=>undef) w)
  (hdo:AllInv P n l e J 0 N) (htail:∀ dn vs w,J dn vs w→(∀ i,i<N→dn i=true)→TL P n l.toArray (l.drop N) (mR l vs (nD 0 N) e) w Q):T P n (.region rid l.toArray true) e w0 Q:=by
 simp only [Bool.and_eq_true] at hc;obtain ⟨⟨⟨hc1,hc2⟩,hc3⟩,hc4⟩:=hc;refine T.mk λ a ha=>wpIn_region_any hm.h ?_
 refine inv_runs (N:=N) (Nat.le_of_ble_eq_true hc3) (λ i hi=>headDet_at hc1 i (Nat.zero_le _) oM) (λ o ho i hi=>?_) (λ j h1 h2=>lR hc2 j h1 oM) (λ i hi=>allInv_at hdo i (Nat.zero_le _) oM) htail
  N (Array.replicate l.toArray.size false) a _ (λ _=>undef) _ ⟨sM,(by
   have e1:(λ i=>(Array.replicate l.toArray.size false).getD i false)=λ _=>false:=by
    funext i
    rw [Array.getD_eq_getD_getElem?];rcases Nat.lt_or_ge i l.length with hi|hi
    ·simp [hi]
    ·simp [hi]
   rw [e1];exact h0 _ (Grow.drew _)),ha.defers,ha.size,ha.get,λ i _ h=>?_,λ i _=>?_,λ j o _ h x _=>?_⟩ ?_ ?_
 ·unfold sinkDet at hc4;rw [ho] at hc4;exact any_beq.1 (List.all_eq_true.1 hc4 i (fH.2 ⟨Nat.zero_le _,oM⟩))
 ·exfalso;rw [Array.getD_eq_getD_getElem?] at h;rcases Nat.lt_or_ge i l.length with hi|hi
  ·simp [hi] at h
  ·simp [hi] at h
 ·rw [Array.getD_eq_getD_getElem?];rcases Nat.lt_or_ge i l.length with hi|hi
  ·simp [hi]
  ·simp [hi]
 ·exfalso;rw [Array.getD_eq_getD_getElem?] at h;rcases Nat.lt_or_ge j l.length with hi|hi
  ·simp [hi] at h
  ·simp [hi] at h
 ·have:((List.range N).filter λ i=>!((Array.replicate l.toArray.size false).getD i false))=List.range N:=by
   rw [List.filter_eq_self];intro i hi;rw [Array.getD_eq_getD_getElem?];rcases Nat.lt_or_ge i l.length with hi|hi
   ·simp [hi]
   ·simp [hi]
  rw [this];simp
 ·have:=Nat.le_of_ble_eq_true hc3;simp;omega
end
end Go.V
namespace Go.Proofs.YtfpadnmdafiddaaGreatDoor
theorem Vt.leaf {s:Pg} {h:Nat} {nd:Nd} {l:bT} {ps:List Nat} (hv:Vt s h nd l ps):bN nd=true↔h=0:=by
 cases h with
 | zero=>obtain ⟨rfl,_⟩:=hv;simp [bN]
 | succ h =>
  obtain ⟨ls,e1,e2,e3,_⟩:=hv;rw [bM,e2]
  cases ls with
  | nil=>cases e3
  | cons _ _=>simp
theorem node_le {s:Pg} {n:Nat} {nd:Nd} (h:cB s n=some nd):aR nd≤8:=by
 have hok:=fG h;unfold bF at hok;split at hok
 ·rename_i hl;obtain ⟨_,h8,_⟩:=dG hok;rw [bM] at hl;simp [aR,hl];omega
 ·obtain ⟨h1,_,w8,_⟩:=cO hok;simp [aR,h1];omega
end Go.Proofs.YtfpadnmdafiddaaGreatDoor
namespace Go.V
theorem upV_self (vs:Nat→Value) (i:Nat) (v:Value):upV vs i v i=v:=by unfold upV;rw [Nat.beq_refl];rfl
theorem beq_ne {i j:Nat} (h:j≠i):Nat.beq j i=false:=by
 cases hb:Nat.beq j i with
 | false=>rfl
 | true=>exact absurd (Nat.eq_of_beq_eq_true hb) h
theorem upB_ne {dn:Nat→Bool} {i j:Nat} (h:j≠i):upB dn i j=dn j:=by unfold upB;rw [beq_ne h];rfl
theorem upV_ne {vs:Nat→Value} {i j:Nat} {v:Value} (h:j≠i):upV vs i v j=vs j:=by unfold upV;rw [beq_ne h];rfl
end Go.V
namespace Go.Proofs.YtfpadnmdafiddaaGreatDoor
open Go Go.RowKit Go.V
def repC (s y x:NV) (b5 i:Nat) (kv:Value):Nat→Value
 | 0=>.agg #[.slice s.a1 s.n1 s.c1,.slice s.a2 s.n2 s.c2,.slice s.a3 s.n3 s.c3]
 | 1=>.agg #[.slice y.a1 y.n1 y.c1,.slice y.a2 y.n2 y.c2,.slice y.a3 y.n3 y.c3]
 | 2=>.pointer (some ⟨b5,2,none⟩)
 | 3=>.slice x.a3 x.n3 x.c3
 | 4=>.int .i64 ((i-1:Nat):Int)
 | 5=>.pointer (some (at' x.a3 ((i-1)*1)))
 | _=>kv
structure RepJ (G:Nat→Prop) (w w5:World) (s y x:NV) (b5 b7 b8 b12 i:Nat) (kv:Value) (dn:Nat→Bool) (vs:Nat→Value) (w1:World):Prop where
 ic:Carry G w5 G w1
 i12:Blk w1 b12 79 s.cs
 i7:Blk w1 b7 79 y.cs
 i5:Blk w1 b5 79 x.cs
 i8:Blk w1 b8 79 nil3
 ig:Grow w w1
 iv:∀ j,j<7→dn j=true→vs j=repC s y x b5 i kv j
 i77:dn 7=true→∃ b,vs 7=.pointer (some ⟨b,0,none⟩)∧w5.heap.size≤b∧b<w1.heap.size∧Blk w1 b 79 (if dn 9 then s.cs else nil3)
 i88:dn 8=true→∃ b,vs 8=.pointer (some ⟨b,0,none⟩)∧w5.heap.size≤b∧b<w1.heap.size∧Blk w1 b 79 (if dn 10 then y.cs else nil3)
 ine:dn 7=true→dn 8=true→vs 7≠vs 8
 d9:dn 9=true→dn 7=true
 d10:dn 10=true→dn 8=true
theorem RepJ.plain {G:Nat→Prop} {w w5:World} {s y x:NV} {b5 b7 b8 b12 i:Nat} {kv:Value} {dn:Nat→Bool} {vs:Nat→Value} {w1:World} (h:RepJ G w w5 s y x b5 b7 b8 b12 i kv dn vs w1) (j:Nat) (hj:j<7) {v:Value} (hv:v=repC s y x b5 i kv j) :
  RepJ G w w5 s y x b5 b7 b8 b12 i kv (upB dn j) (upV vs j v) w1:=by
 have u:∀ m,7≤m→upB dn j m=dn m:=λ m hm=>upB_ne oM;have uv:∀ m,7≤m→upV vs j v m=vs m:=λ m hm=>upV_ne oM;refine ⟨h.ic,h.i12,h.i7,h.i5,h.i8,h.ig,λ m hm hd=>?_,?_,?_,?_,?_,?_⟩
 ·by_cases hmj:m=j
  ·subst hmj;rw [upV_self];exact hv
  ·rw [upV_ne hmj];rw [upB_ne hmj] at hd;exact h.iv m hm hd
 ·rw [u 7 oM,uv 7 oM,u 9 oM];exact h.i77
 ·rw [u 8 oM,uv 8 oM,u 10 oM];exact h.i88
 ·rw [u 7 oM,uv 7 oM,u 8 oM,uv 8 oM];exact h.ine
 ·rw [u 7 oM,u 9 oM];exact h.d9
 ·rw [u 8 oM,u 10 oM];exact h.d10
end Go.Proofs.YtfpadnmdafiddaaGreatDoor
namespace Go.V
open Go Go.RowKit
theorem aY [Rn] {P:Program} {n:Nat} {l:List Oper} {e:dJ} {I:World→Prop} {vs:List Value} {i:Nat} {o:Oper} {v:Value} {e':dJ} (ho:l[i]? = some o) (hv:vs.getD i undef=v) (he:iZ l vs (lI (bH o)) e=e')
  (h:∀ w,I w→TL P n l.toArray [o] e' w (detQ o.dst v I)):Det P n l e I vs i:=by
 unfold Det;rw [ho];simp only;intro w hw;subst he;rw [hv];exact h w hw
end Go.V
namespace Go.Proofs.YtfpadnmdafiddaaGreatDoor
open Go Go.RowKit Go.V
instance:MapTy Tryz.prog 224 3 228:=⟨kR⟩
abbrev PtC (t:Part) (x:NV) (lo hi:Value):List Value:=[.slice x.a1 x.n1 x.c1,.slice x.a2 x.n2 x.c2,.slice x.a3 x.n3 x.c3,.int .i64 (t.levels:Int),lo,hi]
abbrev PtV (t:Part) (x:NV) (lo hi:Value):Value:=.agg #[.slice x.a1 x.n1 x.c1,.slice x.a2 x.n2 x.c2,.slice x.a3 x.n3 x.c3,.int .i64 (t.levels:Int),lo,hi]
structure PtAt (G:Nat→Prop) (w:World) (t:Part) (x:NV) (lo hi:Value):Prop where
 nd:NdAt G w x t.node
 lo:BsAt G w lo t.low
 hi:BsAt G w hi t.high
 ok:bF t.node=true
theorem PtAt.go {F F':Nat→Prop} {w w':World} {t:Part} {x:NV} {lo hi:Value} (h:PtAt F w t x lo hi) (g:Carry F w F' w'):PtAt F' w' t x lo hi:=⟨h.nd.go g,h.lo.go g,h.hi.go g,h.ok⟩
def MemAt (G:Nat→Prop) (w:World) (m:Nat) (M:fS):Prop:=∃ f,MapF w m f∧(∀ n,gO M n=none→f n=none)∧∀ n t,gO M n=some t→∃ x lo hi,f n=some (PtV t x lo hi)∧PtAt G w t x lo hi
theorem MemAt.go {F F':Nat→Prop} {w w':World} {m:Nat} {M:fS} (h:MemAt F w m M) (g:Carry F w F' w') (hm:w'.heap[m]? = w.heap[m]?):MemAt F' w' m M:=by
 obtain ⟨f,h1,h2,h3⟩:=h;refine ⟨f,h1.keep hm,h2,λ n t ht=>?_⟩;obtain ⟨x,lo,hi,e,hp⟩:=h3 n t ht;exact ⟨x,lo,hi,e,hp.go g⟩
theorem MemAt.lt {F:Nat→Prop} {w:World} {m:Nat} {M:fS} (h:MemAt F w m M):m<w.heap.size:=by
 obtain ⟨f,h1,_⟩:=h;exact h1.lt
theorem getM_cons (n k:Nat) (t:Part) (M:fS):gO ((n,t)::M) k=if k=n then some t else gO M k:=by
 unfold gO;rw [List.find?_cons];by_cases h:k=n
 ·subst h;simp
 ·rw [if_neg h];have:(n==k)=false:=by simp;omega
  simp [this]
def PartC (L:PL) (g:Pg) (b m f:Nat):Prop:=∀ (w:World) (G:Nat→Prop) (M M':fS) (n:Nat) (t:Part),PgAt w L g→Blk w b 226 [.pointer (some ⟨L.p,0,none⟩),.map (some m)]→MemAt G w m M→(∀ k,G k→k≠m)→(∀ k,w.heap.size≤k→G k)→n<4294967296 →
 lG g f n M=some (t,M')→Calls Tryz.prog 156 #[.pointer (some ⟨b,0,none⟩),.int .i64 (n:Int),.int .i64 ((17-f:Nat):Int)] w (Ret λ v w'=>(∃ x lo hi,v=.tuple #[PtV t x lo hi,.int .i64 0]∧PtAt G w' t x lo hi)∧MemAt G w' m M'∧ButS (λ k=>k=m) w w')
def BranchC (L:PL) (g:Pg) (b m f:Nat):Prop:=∀ (w:World) (G:Nat→Prop) (M M':fS) (x:NV) (nd:Nd) (t:Part),PgAt w L g→Blk w b 226 [.pointer (some ⟨L.p,0,none⟩),.map (some m)]→MemAt G w m M→(∀ k,G k→k≠m)→(∀ k,w.heap.size≤k→G k)→NdAt G w x nd→bF nd=true→bN nd=false →
 mC (lG g f) nd nd.kids 0 ⟨nd,0,[],[]⟩ M=some (t,M')→Calls Tryz.prog 196 #[.pointer (some ⟨b,0,none⟩),x.val,.int .i64 ((16-f:Nat):Int)] w (Ret λ v w'=>(∃ x lo hi,v=.tuple #[PtV t x lo hi,.int .i64 0]∧PtAt G w' t x lo hi)∧MemAt G w' m M'∧ButS (λ k=>k=m) w w')
theorem partP_hit {s:Pg} {f n:Nat} {M:fS} {t:Part} (h:gO M n=some t):lG s f n M=some (t,M):=by
 unfold lG;rw [h]
theorem partP_new {s:Pg} {f n:Nat} {M M':fS} {t:Part} (h0:gO M n=none) (h:lG s f n M=some (t,M')):∃ f' nd,f=f'+1∧cB s n=some nd ∧
  ((bN nd=true∧t=fJ nd∧M'=(n,fJ nd)::M)∨(bN nd=false∧∃ M1,mC (lG s f') nd nd.kids 0 ⟨nd,0,[],[]⟩ M=some (t,M1)∧M'=(n,t)::M1)):=by
 unfold lG at h;rw [h0] at h;simp only at h
 cases f with
 | zero=>cases h
 | succ f =>
  simp only at h;split at h
  ·cases h
  ·rename_i nd hn;refine ⟨f,nd,rfl,hn,?_⟩;split at h
   ·rename_i hl;simp only [Option.some.injEq,Prod.mk.injEq] at h;exact .inl ⟨hl,h.1.symm,h.2.symm⟩
   ·rename_i hl;split at h
    ·cases h
    ·rename_i t' m1 e;simp only [Option.some.injEq,Prod.mk.injEq] at h;obtain ⟨rfl,rfl⟩:=h;exact .inr ⟨by simpa using hl,m1,e,rfl⟩
theorem part_of {L:PL} {g:Pg} {b m f:Nat} (hf:f≤16) (hbm:b≠m∧m≠L.p∧m≠L.d∧m≠L.u∧m≠L.m) (hB:∀ f',f=f'+1→BranchC L g b m f'):PartC L g b m f:=by
 intro w G M M' n t h hbw hM hGm hGw hn hpt;obtain ⟨fm,hmf,hm0,hm1⟩:=id hM;have hml:=hmf.lt;have hbl:=hbw.lt;have hlts:=h.lts;refine V.calls (args:=[_,_,_]) Tryz.func156 rfl Tryz.ntmps156 rfl rfl ?_
 refine dV 7 (λ e W=>∃ (b6 b12:Nat) (x:NV) (lo hi:Value) (G1:Nat→Prop) (M1:fS),Sub [(12,.pointer (some ⟨b12,0,none⟩)),(6,.pointer (some ⟨b6,0,none⟩)),(1,.int .i64 (n:Int)),(0,.pointer (some ⟨b,0,none⟩))] e ∧
  (∀ k,G1 k↔G k∧k≠b6)∧MemAt G1 W m M1∧M'=(n,t)::M1∧PtAt G1 W t x lo hi∧lo.oneCell'=true∧hi.oneCell'=true∧Blk W b12 228 (PtC t x lo hi)∧Blk W b6 228 [.slice none 0 0,.slice none 0 0,.slice none 0 0,.int .i64 0,.slice none 0 0,.slice none 0 0]∧ButS (λ k=>k=m) w W∧w.heap.size≤b6∧w.heap.size≤b12∧b6≠b12) ?_ ?_
 rotate_left
 ·cases hg0:gO M n with
  | some t0 =>
   rw [partP_hit hg0] at hpt;simp only [Option.some.injEq,Prod.mk.injEq] at hpt;obtain ⟨rfl,rfl⟩:=hpt;obtain ⟨x,lo,hi,hfn,hpa⟩:=hm1 n t0 hg0;obtain ⟨la,lc,rfl,hls⟩:=hpa.lo.sl;obtain ⟨ha,hc,rfl,hhs⟩:=hpa.hi.sl;repeat (first|(refine mU ?_;refine TL.lookupYes rfl rfl (hmf.grow hg) hfn oM rfl ?_)|refine yC ?_|refine yI λ bk w' hg hbk hsz hsz'=>?_|refine yJ λ w' hu hbk hsz=>?_)
   rename_i b6 w1 g1 k1 p1 p1' w2 k2 p2 w3 u3 k3 z3;have hgr:Grow w w':=aI hu oM (aI u3 oM (g1.trans hg));exact fN rfl (aW hbk rfl) rfl ⟨_,rfl,⟨x,_,_,rfl,hpa.go (Carry.grow hgr)⟩,hM.go (Carry.grow hgr) (hgr.block m hml),ButS.grow hgr⟩
  | none =>
   obtain ⟨f',nd,rfl,hnp,hor⟩:=partP_new hg0 hpt;rw [show 17-(f'+1)=16-f' by omega];have hu:=dN hnp;have hnlt:=dW hu;have hcn:=h.cnt;have hok:=fG hnp;have hrd:fZ (g.body n)=some nd:=by unfold cB at hnp;rw [if_pos hu] at hnp;exact hnp
   repeat (first|(refine mU ?_;refine TL.lookupNo rfl rfl (hmf.grow hg) (hm0 n hg0) oM rfl ?_)|refine yC ?_|refine yI λ bk w' hg hbk hsz hsz'=>?_|refine yJ λ w' hu hbk hsz=>?_)
   rename_i b6 w1 g1 k1 p1 p1' w2 k2 p2;have hgr:Grow w w':=aI hu oM (g1.trans hg);have e6:Blk w' b6 228 [.slice none 0 0,.slice none 0 0,.slice none 0 0,.int .i64 0,.slice none 0 0,.slice none 0 0]:=(k1.grow hg).upd hu oM;have q6:w.heap.size=b6∧b6<w'.heap.size:=by have:=hu.size;omega
   clear hbk hu hg g1 k1 k2;obtain ⟨w0,rfl⟩:=yE w';refine aB 127 ?_;refine aA rfl (node_c (h.grow hgr) n oM (dN hnp)) rfl ?_;rintro _ w3 ⟨hv,hg3⟩;rw [hrd] at hv;obtain ⟨x,rfl,hnd⟩:=hv;have z3:=hg3.size;obtain ⟨G1,hG1⟩:∃ G1:Nat→Prop,∀ k,G1 k↔G k∧k≠b6:=⟨_,λ _=>Iff.rfl⟩
   have hnd3:NdAt G1 w3 x nd:=hnd.go (Carry.mono λ k hk _=>(hG1 k).2 ⟨hGw k oM,oM⟩);have hgr3:=hgr.trans hg3;have hM3:MemAt G1 w3 m M:=hM.go ((Carry.mono (λ k hk hl=>(hG1 k).2 ⟨hk,oM⟩)).trans (Carry.grow hgr3)) (hgr3.block m hml);have f6:=e6.grow hg3;have fw:=hbw.grow hgr3;obtain ⟨nn1,nn2,nn3⟩:=hnd3.nums;clear hnd e6 hg3 hgr;obtain ⟨w3',rfl⟩:=yE w3;rcases hor with ⟨hl,rfl,rfl⟩|⟨hl,M1,hkp,rfl⟩
   ·have hok2:=hok;unfold bF at hok2;rw [if_pos hl] at hok2;obtain ⟨_,ho8,_⟩:=dG hok2;by_cases hempty:nd.items.length=0
    ·repeat (first|refine aF ?_|refine yI λ bk w' hg hbk hsz hsz'=>?_|refine yJ λ w' hu hbk hsz=>?_|(refine aB 80 ?_;refine aA rfl (fB hnd3 hl _) rfl ?_;rintro _ _ ⟨rfl,hgc⟩))
     rename_i b10 w4 g4 k4 p4 p4' w5 u5 k5 z5 w6 k6 p6 w7;obtain ⟨b12,rfl⟩:=yE bk;have hgr7:Grow w w7:=(aI hu oM ((aI u5 oM (hgr3.trans g4)).trans hg)).trans hgc;have c7:Grow w3' w7:=(aI hu oM ((aI u5 oM g4).trans hg)).trans hgc;have z7:=c7.size;have q12:w3'.heap.size=b10∧b12=b10+1∧b12<w7.heap.size:=by have:=hgc.size;have:=hu.size;omega
     have f10:Blk w7 b10 79 x.cs:=((Blk.grow hg k5).upd hu oM).grow hgc;have f12:Blk w7 b12 228 [.slice x.a1 x.n1 x.c1,.slice x.a2 x.n2 x.c2,.slice x.a3 x.n3 x.c3,.int .i64 1,.slice none 0 0,.slice none 0 0]:=Blk.grow hgc hbk;have f6':=f6.grow c7;have fw':=fw.grow c7;obtain ⟨G2,hG2⟩:∃ G2:Nat→Prop,∀ k,G2 k↔G1 k∧k≠b12:=⟨_,λ _=>Iff.rfl⟩
     have cg:Carry G1 w3' G2 w7:=(Carry.mono (λ k hk hl=>(hG2 k).2 ⟨hk,oM⟩)).trans (Carry.grow c7);have hnd7:=hnd3.go cg;have hM7:=hM3.go cg (c7.block m (by have:=hM3.lt;omega));have cgo:∀ wz:World,Carry G2 wz G1 wz:=λ wz=>Carry.mono λ k hk _=>((hG2 k).1 hk).1;clear hbk hu hg hgc g4 u5 k4 k5 k6 f6 fw c7 cg hnd3 hM3;have e0:nd.items=[]:=List.eq_nil_of_length_eq_zero hempty;have hbn:BsAt G1 w7 (.slice none 0 0) []:=⟨_,_,_,rfl,by simp [bB],Nat.le_refl _,Nat.zero_le _,λ _=>rfl,by simp [Row,bB]⟩
     exact ⟨b6,b12,x,.slice none 0 0,.slice none 0 0,G1,M,⟨rfl,rfl,rfl,rfl,trivial⟩,hG1,hM7.go (cgo _) rfl,rfl,⟨hnd7.go (cgo _),(by simp only [fJ,e0];exact hbn),(by simp only [fJ,e0];exact hbn),hok⟩,rfl,rfl,f12,f6',ButS.grow hgr7,oM,oM,oM⟩
    ·repeat (first|refine aF ?_|refine yI λ bk w' hg hbk hsz hsz'=>?_|refine yJ λ w' hu hbk hsz=>?_|(refine aB 80 ?_;refine aA rfl (fB hnd3 hl _) rfl ?_;rintro _ _ ⟨rfl,hgc⟩))
     rename_i b10 w4 g4 k4 p4 p4' w5 u5 k5 z5 w6 k6 p6 w7;obtain ⟨b12,rfl⟩:=yE bk;have hgr7:Grow w w7:=(aI hu oM ((aI u5 oM (hgr3.trans g4)).trans hg)).trans hgc;have c7:Grow w3' w7:=(aI hu oM ((aI u5 oM g4).trans hg)).trans hgc;have z7:=c7.size;have q12:w3'.heap.size=b10∧b12=b10+1∧b12<w7.heap.size:=by have:=hgc.size;have:=hu.size;omega
     have f10:Blk w7 b10 79 x.cs:=((Blk.grow hg k5).upd hu oM).grow hgc;have f12:Blk w7 b12 228 [.slice x.a1 x.n1 x.c1,.slice x.a2 x.n2 x.c2,.slice x.a3 x.n3 x.c3,.int .i64 1,.slice none 0 0,.slice none 0 0]:=Blk.grow hgc hbk;have f6':=f6.grow c7;have fw':=fw.grow c7;obtain ⟨G2,hG2⟩:∃ G2:Nat→Prop,∀ k,G2 k↔G1 k∧k≠b12:=⟨_,λ _=>Iff.rfl⟩
     have cg:Carry G1 w3' G2 w7:=(Carry.mono (λ k hk hl=>(hG2 k).2 ⟨hk,oM⟩)).trans (Carry.grow c7);have hnd7:=hnd3.go cg;have hM7:=hM3.go cg (c7.block m (by have:=hM3.lt;omega));have cgo:∀ wz:World,Carry G2 wz G1 wz:=λ wz=>Carry.mono λ k hk _=>((hG2 k).1 hk).1;clear hbk hu hg hgc g4 u5 k4 k5 k6 f6 fw c7 cg hnd3 hM3;obtain ⟨y0,hy0⟩:∃ y,nd.items[0]? = some y:=⟨_,List.getElem?_eq_getElem oM⟩
     obtain ⟨y1,hy1⟩:∃ y,nd.items[x.n1-1]? = some y:=⟨_,List.getElem?_eq_getElem oM⟩
     obtain ⟨cs,hcs,hcc⟩:=hnd7.its.ex;obtain ⟨kv0,vv0,a0,a1,hb0,_⟩:=hcc.at' hy0;obtain ⟨kv1,vv1,b0,b1,hb1,_⟩:=hcc.at' hy1;obtain ⟨k0a,k0c,rfl,_⟩:=hb0.sl;obtain ⟨k1a,k1c,rfl,_⟩:=hb1.sl;rw [Nat.mul_comm] at b0
     apply T.detA 16 15 [.pointer (some ⟨b10,0,none⟩),.slice x.a1 x.n1 x.c1,.pointer (some (at' x.a1 0)),.pointer (some (at' x.a1 0)),(.slice k0a y0.1.length k0c),.pointer (some ⟨b10,0,none⟩),.slice x.a1 x.n1 x.c1,.pointer (some ⟨b10,0,none⟩),.slice x.a1 x.n1 x.c1,.int .i64 (x.n1:Int),.int .i64 ((x.n1-1:Nat):Int),.pointer (some (at' x.a1 ((x.n1-1)*2))),.pointer (some (at' x.a1 ((x.n1-1)*2))),(.slice k1a y1.1.length k1c),.pointer (some ⟨b12,4,none⟩),undef]
      (λ q w1=>Blk w1 b10 79 x.cs∧Blk w1 b12 228 [.slice x.a1 x.n1 x.c1,.slice x.a2 x.n2 x.c2,.slice x.a3 x.n3 x.c3,.int .i64 1,(if q then (.slice k0a y0.1.length k0c) else .slice none 0 0),.slice none 0 0]∧Blk w1 b6 228 [.slice none 0 0,.slice none 0 0,.slice none 0 0,.int .i64 0,.slice none 0 0,.slice none 0 0]∧Carry G2 w7 G2 w1∧Grow w w1∧w1.heap[m]? = w7.heap[m]?)
     ·rfl
     ·exact λ w1 h1=>⟨f10.grow h1,f12.grow h1,f6'.grow h1,Carry.grow h1,hgr7.trans h1,h1.block m oM⟩
     ·clear f10 f12 f6';repeat' (first|exact gI|refine fV ?_ ?_)
      ·refine aU rfl rfl rfl ?_;rintro q wq _ ⟨i10,i12,i6,ic,ig,im⟩;repeat refine aF ?_
       refine aG rfl ?_;rw [show (q || Nat.beq 0 15)=q from Bool.or_false q];exact ⟨i10,i12,i6,ic,ig,im⟩
      ·refine aU rfl rfl rfl ?_;rintro q wq _ ⟨i10,i12,i6,ic,ig,im⟩;repeat refine aF ?_
       refine aG rfl ?_;rw [show (q || Nat.beq 1 15)=q from Bool.or_false q];exact ⟨i10,i12,i6,ic,ig,im⟩
      ·refine aU rfl rfl rfl ?_;rintro q wq _ ⟨i10,i12,i6,ic,ig,im⟩;repeat (first|(refine aH ?_;refine aC (j:=0) rfl rfl rfl oM rfl ⟨_,_,hcs.go ic⟩ rfl ?_)|refine yC ?_)
       refine aG rfl ?_;rw [show (q || Nat.beq 2 15)=q from Bool.or_false q];exact ⟨i10,i12,i6,ic,ig,im⟩
      ·refine aU rfl rfl rfl ?_;rintro q wq _ ⟨i10,i12,i6,ic,ig,im⟩;repeat (first|(refine bK ?_;refine bJ (o:=0) rfl (hcs.go ic) a0 rfl ?_)|refine yC ?_)
       refine aG rfl ?_;rw [show (q || Nat.beq 3 15)=q from Bool.or_false q];exact ⟨i10,i12,i6,ic,ig,im⟩
      ·refine aU rfl rfl rfl ?_;rintro q wq _ ⟨i10,i12,i6,ic,ig,im⟩;have hcx:wq.cell? (at' x.a1 0)=some (.slice k0a y0.1.length k0c):=(hcs.go ic).row.cell a0;repeat refine aF ?_
       refine aG rfl ?_;rw [show (q || Nat.beq 4 15)=q from Bool.or_false q];exact ⟨i10,i12,i6,ic,ig,im⟩
      ·refine aU rfl rfl rfl ?_;rintro q wq _ ⟨i10,i12,i6,ic,ig,im⟩;repeat refine aF ?_
       refine aG rfl ?_;rw [show (q || Nat.beq 5 15)=q from Bool.or_false q];exact ⟨i10,i12,i6,ic,ig,im⟩
      ·refine aU rfl rfl rfl ?_;rintro q wq _ ⟨i10,i12,i6,ic,ig,im⟩;repeat refine aF ?_
       refine aG rfl ?_;rw [show (q || Nat.beq 6 15)=q from Bool.or_false q];exact ⟨i10,i12,i6,ic,ig,im⟩
      ·refine aU rfl rfl rfl ?_;rintro q wq _ ⟨i10,i12,i6,ic,ig,im⟩;repeat refine aF ?_
       refine aG rfl ?_;rw [show (q || Nat.beq 7 15)=q from Bool.or_false q];exact ⟨i10,i12,i6,ic,ig,im⟩
      ·refine aU rfl rfl rfl ?_;rintro q wq _ ⟨i10,i12,i6,ic,ig,im⟩;repeat refine aF ?_
       refine aG rfl ?_;rw [show (q || Nat.beq 8 15)=q from Bool.or_false q];exact ⟨i10,i12,i6,ic,ig,im⟩
      ·refine aU rfl rfl rfl ?_;rintro q wq _ ⟨i10,i12,i6,ic,ig,im⟩;repeat refine aF ?_
       refine aG rfl ?_;rw [show (q || Nat.beq 9 15)=q from Bool.or_false q];exact ⟨i10,i12,i6,ic,ig,im⟩
      ·refine aU rfl rfl rfl ?_;rintro q wq _ ⟨i10,i12,i6,ic,ig,im⟩;repeat refine aF ?_
       refine aG rfl ?_;rw [show (q || Nat.beq 10 15)=q from Bool.or_false q];exact ⟨i10,i12,i6,ic,ig,im⟩
      ·refine aU rfl rfl rfl ?_;rintro q wq _ ⟨i10,i12,i6,ic,ig,im⟩;repeat (first|(refine aH ?_;refine aC (j:=x.n1-1) rfl rfl rfl oM rfl ⟨_,_,hcs.go ic⟩ rfl ?_)|refine yC ?_)
       refine aG rfl ?_;rw [show (q || Nat.beq 11 15)=q from Bool.or_false q];exact ⟨i10,i12,i6,ic,ig,im⟩
      ·refine aU rfl rfl rfl ?_;rintro q wq _ ⟨i10,i12,i6,ic,ig,im⟩;repeat (first|(refine bK ?_;refine bJ (o:=(x.n1-1)*2) rfl (hcs.go ic) b0 rfl ?_)|refine yC ?_)
       refine aG rfl ?_;rw [show (q || Nat.beq 12 15)=q from Bool.or_false q];exact ⟨i10,i12,i6,ic,ig,im⟩
      ·refine aU rfl rfl rfl ?_;rintro q wq _ ⟨i10,i12,i6,ic,ig,im⟩;have hcx:wq.cell? (at' x.a1 ((x.n1-1)*2))=some (.slice k1a y1.1.length k1c):=(hcs.go ic).row.cell b0;repeat refine aF ?_
       refine aG rfl ?_;rw [show (q || Nat.beq 13 15)=q from Bool.or_false q];exact ⟨i10,i12,i6,ic,ig,im⟩
      ·refine aU rfl rfl rfl ?_;rintro q wq _ ⟨i10,i12,i6,ic,ig,im⟩;repeat refine aF ?_
       refine aG rfl ?_;rw [show (q || Nat.beq 14 15)=q from Bool.or_false q];exact ⟨i10,i12,i6,ic,ig,im⟩
      ·refine aU rfl rfl rfl ?_;rintro q wq hb ⟨i10,i12,i6,ic,ig,im⟩;obtain rfl:=hb rfl;have i12':Blk wq b12 228 [.slice x.a1 x.n1 x.c1,.slice x.a2 x.n2 x.c2,.slice x.a3 x.n3 x.c3,.int .i64 1,.slice none 0 0,.slice none 0 0]:=i12;clear i12;repeat (first|refine aF ?_|refine yJ λ w' hu hbk hsz=>?_)
       exact gS ⟨i10.upd hu oM,hbk,i6.upd hu oM,ic.trans (Carry.upd hu (λ k hk _=>((hG2 k).1 hk).2)),aI hu oM ig,(hu.block m oM).trans im⟩
     ·rintro w8 ⟨i10,i12,i6,ic,ig,im⟩;have i12':Blk w8 b12 228 [.slice x.a1 x.n1 x.c1,.slice x.a2 x.n2 x.c2,.slice x.a3 x.n3 x.c3,.int .i64 1,(.slice k0a y0.1.length k0c),.slice none 0 0]:=i12;have z8:=ic.size;clear i12 f12 f10 f6';repeat (first|refine aF ?_|refine yJ λ w' hu hbk hsz=>?_)
      have cz:Carry G2 w7 G1 w':=(ic.trans (Carry.upd hu (λ k hk _=>((hG2 k).1 hk).2))).trans (cgo _);refine ⟨b6,b12,x,(.slice k0a y0.1.length k0c),(.slice k1a y1.1.length k1c),G1,M,⟨rfl,rfl,rfl,rfl,trivial⟩,hG1,hM7.go cz ((hu.block m oM).trans im),rfl,⟨hnd7.go cz,?_,?_,hok⟩,rfl,rfl,hbk,i6.upd hu oM,ButS.grow (aI hu oM ig),oM,oM,oM⟩
      ·have:=hb0.go cz;simp only [fJ,List.getD_eq_getElem?_getD,hy0];exact this
      ·have:=hb1.go cz;rw [nn1] at hy1;simp only [fJ,List.getD_eq_getElem?_getD,hy1];exact this
   ·repeat (first|refine aF ?_|refine yI λ bk w' hg hbk hsz hsz'=>?_|refine yJ λ w' hu hbk hsz=>?_|(refine aB 80 ?_;refine aA rfl (fB hnd3 hl _) rfl ?_;rintro _ _ ⟨rfl,hgc⟩))
    rename_i b10 w4 g4 k4 p4 p4' w5 u5 k5 z5 w6 k6 p6 w7;obtain ⟨b12,rfl⟩:=yE bk;have hgr7:Grow w w7:=(aI hu oM ((aI u5 oM (hgr3.trans g4)).trans hg)).trans hgc;have c7:Grow w3' w7:=(aI hu oM ((aI u5 oM g4).trans hg)).trans hgc;have z7:=c7.size;have q12:w3'.heap.size=b10∧b12=b10+1∧b12<w7.heap.size:=by have:=hgc.size;have:=hu.size;omega
    have f10:Blk w7 b10 79 x.cs:=((Blk.grow hg k5).upd hu oM).grow hgc;have f12:Blk w7 b12 228 [.slice x.a1 x.n1 x.c1,.slice x.a2 x.n2 x.c2,.slice x.a3 x.n3 x.c3,.int .i64 1,.slice none 0 0,.slice none 0 0]:=Blk.grow hgc hbk;have f6':=f6.grow c7;have fw':=fw.grow c7;obtain ⟨G2,hG2⟩:∃ G2:Nat→Prop,∀ k,G2 k↔G1 k∧k≠b12:=⟨_,λ _=>Iff.rfl⟩
    have cg:Carry G1 w3' G2 w7:=(Carry.mono (λ k hk hl=>(hG2 k).2 ⟨hk,oM⟩)).trans (Carry.grow c7);have hnd7:=hnd3.go cg;have hM7:=hM3.go cg (c7.block m (by have:=hM3.lt;omega));have cgo:∀ wz:World,Carry G2 wz G1 wz:=λ wz=>Carry.mono λ k hk _=>((hG2 k).1 hk).1;clear hbk hu hg hgc g4 u5 k4 k5 k6 f6 fw c7 cg hnd3 hM3;refine aB 196 ?_;refine aA rfl (hB f' rfl w7 G2 M M1 x nd t (h.grow hgr7) fw' hM7 (λ k hk=>hGm k ((hG1 k).1 ((hG2 k).1 hk).1).1) (λ k hk=>(hG2 k).2 ⟨(hG1 k).2 ⟨hGw k (by have:=hgr7.size;omega),oM⟩,oM⟩) hnd7 hok hl hkp) rfl ?_;rintro _ w8 ⟨⟨x',lo,hi,rfl,hpa⟩,hM8,hbs8⟩;have z8:=hbs8.size;obtain ⟨la,lc,rfl,hls⟩:=hpa.lo.sl;obtain ⟨ha,hc,rfl,hhs⟩:=hpa.hi.sl;have l12:=bY f12 hbs8 oM;have l6:=bY f6' hbs8 oM;clear f10 f12 f6' fw';repeat (first|refine aF ?_|refine yJ λ w' hu hbk hsz=>?_)
    have cz:Carry G2 w8 G1 w':=(Carry.upd hu (λ k hk _=>((hG2 k).1 hk).2)).trans (cgo _);exact ⟨b6,b12,x',_,_,G1,M1,⟨rfl,rfl,rfl,rfl,trivial⟩,hG1,hM8.go cz (hu.block m oM),rfl,hpa.go cz,rfl,rfl,hbk,l6.upd hu oM,((ButS.grow hgr7).trans hbs8).upd hu oM,oM,oM,oM⟩
 rintro e W ⟨b6,b12,x,lo,hi,G1,M1,hsub,hG1,hM1,rfl,hpa,_,_,f12,f6,hbs,q6,q12,q612⟩;refine bD (e':=[(12,_),(6,_),(1,_),(0,_)]) ?_ hsub;clear hsub;obtain ⟨la,lc,rfl,hls⟩:=hpa.lo.sl;obtain ⟨ha,hc,rfl,hhs⟩:=hpa.hi.sl;have fw:=bY hbw hbs hbm.1;have hmW:=hM1.lt;have l12:=f12.lt;have l6:=f6.lt;repeat refine aF ?_
 apply T.any 6 [is (.pointer (some ⟨b,0,none⟩)),is (.pointer (some ⟨b,0,none⟩)),is (.pointer (some ⟨b,1,none⟩)),is (.map (some m)),is (.int .i64 (n:Int)),is (PtV t x (.slice la t.low.length lc) (.slice ha t.high.length hc))]
 ·rfl
 ·repeat' (first|exact aN|refine aK ?_ ?_)
  iterate 6
   ·refine yQ λ wq _ _ hgq=>?_;repeat refine aF ?_
    exact aD rfl yG rfl
 ·intro wt lot hit hgt _ _;iterate 6 (refine aJ rfl rfl ?_;intro vq hvq;try (obtain rfl:=hvq))
  refine aZ ?_;have zt:=hgt.size;have hpt':=hpa.go (Carry.grow hgt);have hMt:=hM1.go (Carry.grow hgt) (hgt.block m hmW);have g12:=f12.grow hgt;have g6:=f6.grow hgt;have hbt:=hbs.trans (ButS.grow hgt);clear f12 f6 fw hgt hpa hM1;obtain ⟨fm1,hmf1,hm01,hm11⟩:=hMt;refine TL.isMapUp ?_;refine TL.updateF rfl rfl rfl hmf1 oM ?_;intro w2 hu2 hmf2;have cu:Carry G1 wt G1 w2:=Carry.upd hu2 (λ k hk _=>hGm k ((hG1 k).1 hk).1);have j12:=g12.upd hu2 oM;have j6:=g6.upd hu2 oM;have hp2:=hpt'.go cu
  have hM2:MemAt G1 w2 m ((n,t)::M1):=by
   refine ⟨_,hmf2,λ k hk=>?_,λ k t' hk=>?_⟩
   ·rw [getM_cons] at hk;unfold upF;by_cases hkn:k=n
    ·rw [if_pos hkn] at hk;cases hk
    ·rw [if_neg hkn] at hk ⊢;exact hm01 k hk
   ·rw [getM_cons] at hk;unfold upF;by_cases hkn:k=n
    ·rw [if_pos hkn] at hk;cases hk;rw [if_pos hkn];exact ⟨x,_,_,rfl,hp2⟩
    ·rw [if_neg hkn] at hk;rw [if_neg hkn];obtain ⟨x',lo',hi',e1,e2⟩:=hm11 k t' hk;exact ⟨x',lo',hi',e1,e2.go cu⟩
  have hb2:ButS (λ k=>k=m) w w2:=⟨hu2.os.trans hbt.os,hu2.tape.trans hbt.tape,hu2.output.trans hbt.output,by have:=hu2.size;have:=hbt.size;omega,λ k hk hkm=>(hu2.block k hkm).trans (hbt.block k hk hkm)⟩
  have z2:=hu2.size;clear g12 g6 hu2 hmf2 hmf1;repeat (first|refine aF ?_|refine yJ λ w' hu hbk hsz=>?_)
  have cz:Carry G1 w2 G w':=(Carry.upd hu (λ k hk _=>((hG1 k).1 hk).2)).trans (Carry.mono λ k hk _=>((hG1 k).1 hk).1);exact fN rfl (aW hbk rfl) rfl ⟨_,rfl,⟨x,_,_,rfl,hp2.go cz⟩,hM2.go cz (hu.block m oM),hb2.upd hu q6⟩
def iJ (nd:Nd) (i:Nat) (t p:Part):Part:=if i=0 then ⟨nd,p.levels+1,p.low,p.high⟩ else ⟨nd,t.levels,t.low,p.high⟩
theorem kidsP_cons {rec:Nat→fS→Option (Part×fS)} {nd:Nd} {k:Nat} {r:List Nat} {i:Nat} {t T:Part} {m M:fS} (h:mC rec nd (k::r) i t m=some (T,M)) :
  ∃ p m1,rec k m=some (p,m1)∧¬ aR p.node<4∧p.levels+1=(iJ nd i t p).levels∧(0<i→¬ bW p.low (nd.keys.getD (i-1) [])<0)∧(i<nd.keys.length→¬ 0≤bW p.high (nd.keys.getD i [])) ∧
   mC rec nd r (i+1) (iJ nd i t p) m1=some (T,M):=by
 unfold mC at h;split at h
 ·cases h
 ·rename_i p m1 e;change (if (decide (aR p.node<4) || !(p.levels+1==(iJ nd i t p).levels) || (decide (0<i)&&decide (bW p.low (nd.keys.getD (i-1) [])<0)) || (decide (i<nd.keys.length)&&decide (0≤bW p.high (nd.keys.getD i []))))=true then none else mC rec nd r (i+1) (iJ nd i t p) m1)=some (T,M) at h;refine ⟨p,m1,e,?_⟩;generalize iJ nd i t p=t1 at h ⊢;split at h
  ·cases h
  ·rename_i hc;simp only [Bool.or_eq_true,Bool.and_eq_true,decide_eq_true_eq,Bool.not_eq_true',not_or,not_and] at hc;obtain ⟨⟨⟨c1,c2⟩,c3⟩,c4⟩:=hc;refine ⟨c1,?_,c3,c4,h⟩
   have c2':(p.levels+1==t1.levels)=true:=by
    cases hb:(p.levels+1==t1.levels) with
    | true=>rfl
    | false=>exact absurd hb c2
   exact eq_of_beq c2'
theorem kidsP_nil {rec:Nat→fS→Option (Part×fS)} {nd:Nd} {i:Nat} {t T:Part} {m M:fS} (h:mC rec nd [] i t m=some (T,M)):t.levels≤16∧T=t∧M=m:=by
 unfold mC at h;split at h
 ·cases h
 ·simp only [Option.some.injEq,Prod.mk.injEq] at h;exact ⟨oM,h.1.symm,h.2.symm⟩
theorem kidsP_levels {rec:Nat→fS→Option (Part×fS)} {nd:Nd}:∀ {r:List Nat} {i:Nat} {t T:Part} {m M:fS},mC rec nd r i t m=some (T,M)→0<i→t.levels≤16
 | [],i,t,T,m,M,h,hi=>(kidsP_nil h).1
 | k::r,i,t,T,m,M,h,hi=>by
  obtain ⟨p,m1,_,_,_,_,_,h2⟩:=kidsP_cons h;have:=kidsP_levels h2 oM;unfold iJ at this;rw [if_neg oM] at this;exact this
theorem branch_of {L:PL} {g:Pg} {b m f:Nat} (hf:f≤15) (hbm:b≠m∧m≠L.p∧m≠L.d∧m≠L.u∧m≠L.m) (hP:PartC L g b m f):BranchC L g b m f:=by
 intro w G M M' x nd t h hbw hM hGm hGw hx hok hnl hkp;have hml:=hM.lt;have hbl:=hbw.lt;have hlts:=h.lts;obtain ⟨nx1,nx2,nx3⟩:=hx.nums;have hok':=hok;unfold bF at hok';rw [if_neg (by rw [hnl];simp)] at hok';obtain ⟨hoi,ho2,ho8,hol,hokd,hoky⟩:=cO hok';refine V.calls (args:=[_,_,_]) Tryz.func196 rfl Tryz.ntmps196 rfl rfl ?_;repeat (first|refine aF ?_|refine yI λ bk w' hg hbk hsz hsz'=>?_|refine yJ λ w' hu hbk hsz=>?_)
 rename_i b4 w1 g1 k1 p1 p1' b6 w2 g2 k2 p2 p2' w3 k3 p3;obtain ⟨b8,rfl⟩:=yE bk;have hgr0:Grow w w':=aI hu oM (g1.trans (g2.trans hg));have e4:Blk w' b4 79 x.cs:=((k1.grow g2).grow hg).upd hu oM;have e6:Blk w' b6 228 [.slice none 0 0,.slice none 0 0,.slice none 0 0,.int .i64 0,.slice none 0 0,.slice none 0 0]:=(k2.grow hg).upd hu oM;have e8:Blk w' b8 228 (PtC ⟨nd,0,[],[]⟩ x (.slice none 0 0) (.slice none 0 0)):=hbk;have z0:=hu.size;have q0:w.heap.size=b4∧b6=b4+1∧b8=b6+1∧w'.heap.size=b8+1:=by omega
 obtain ⟨G1,hG1⟩:∃ G1:Nat→Prop,∀ k,G1 k↔G k∧k≠b8∧k≠b6:=⟨_,λ _=>Iff.rfl⟩
 have cg:Carry G w G1 w':=(Carry.mono (λ k hk hl=>(hG1 k).2 ⟨hk,oM,oM⟩)).trans (Carry.grow hgr0);have hx0:=hx.go cg;have hM0:=hM.go cg (hgr0.block m hml);clear hbk hu hg g1 g2 k1 k2 k3 cg hsz hsz' p1 p1' p2 p2' p3;obtain ⟨w0,rfl⟩:=yE w';have hz0:BsAt G1 w0 (.slice none 0 0) []:=⟨_,_,_,rfl,by simp [bB],Nat.le_refl _,Nat.zero_le _,λ _=>rfl,by simp [Row,bB]⟩
 have hG1m:∀ k,G1 k→k≠m:=λ k hk=>hGm k ((hG1 k).1 hk).1;have ckid:=hx0.kids;have ckys:=hx0.kys
 refine aX (S:=Nat×Part×fS×Value×Value) (λ q=>[(18,.int .i64 (q.1:Int)),(17,.int .i64 (x.n2:Int)),(16,.slice x.a2 x.n2 x.c2),(8,.pointer (some ⟨b8,0,none⟩)),(6,.pointer (some ⟨b6,0,none⟩)),(4,.pointer (some ⟨b4,0,none⟩)),(2,.int .i64 ((16-f:Nat):Int)),(0,.pointer (some ⟨b,0,none⟩))])
  (λ q w1=>q.1≤x.n2∧mC (lG g f) nd (nd.kids.drop q.1) q.1 q.2.1 q.2.2.1=some (t,M')∧q.2.1.node=nd∧Blk w1 b8 228 (PtC q.2.1 x q.2.2.2.1 q.2.2.2.2)∧Blk w1 b4 79 x.cs∧Blk w1 b6 228 [.slice none 0 0,.slice none 0 0,.slice none 0 0,.int .i64 0,.slice none 0 0,.slice none 0 0] ∧
   MemAt G1 w1 m q.2.2.1∧BsAt G1 w1 q.2.2.2.1 q.2.1.low∧BsAt G1 w1 q.2.2.2.2 q.2.1.high∧Carry G1 w0 G1 w1∧ButS (λ k=>k=m) w w1) (λ q=>x.n2-q.1) (0,⟨nd,0,[],[]⟩,M,.slice none 0 0,.slice none 0 0) ⟨rfl,rfl,rfl,rfl,rfl,rfl,rfl,rfl,trivial⟩
  ⟨by simp only;omega,hkp,rfl,e8,e4,e6,hM0,hz0,hz0,Carry.mono (λ k hk _=>hk),ButS.grow hgr0⟩ ?_
 clear e8 e4 e6 hM0 hz0;rintro ⟨i,ti,Mi,lo,hi⟩ w1 ⟨hi',hk,hnd,e8,e4,e6,hMi,hlo,hhi,ec,eb⟩;simp only at hi' hk hnd e8 hMi hlo hhi;have z1:=ec.size;obtain ⟨la,lc,rfl,hls⟩:=hlo.sl;obtain ⟨ha,hc,rfl,hhs⟩:=hhi.sl;by_cases hlt:i<x.n2;rotate_left
 ·obtain rfl:i=x.n2:=by omega
  rw [List.drop_eq_nil_of_le oM] at hk;obtain ⟨hl16,rfl,rfl⟩:=kidsP_nil hk;repeat (first|refine aF ?_|refine yJ λ w' hu hbk hsz=>?_)
  have cz:Carry G1 w1 G w':=(Carry.upd hu (λ k hk _=>((hG1 k).1 hk).2.2)).trans (Carry.mono λ k hk _=>((hG1 k).1 hk).1);refine fN rfl (aW hbk rfl) rfl ⟨_,rfl,⟨x,_,_,rfl,⟨?_,hlo.go cz,hhi.go cz,by rw [hnd];exact hok⟩⟩,hMi.go cz (hu.block m oM),eb.upd hu oM⟩;rw [hnd];exact (hx0.go ec).go cz
 obtain ⟨kid,hkid⟩:∃ q,nd.kids[i]? = some q:=⟨_,List.getElem?_eq_getElem oM⟩
 rw [List.drop_eq_getElem_cons oM,show nd.kids[i]'(by omega)=kid from (List.getElem?_eq_some_iff.1 hkid).2] at hk;obtain ⟨p,M1,hrec,h4,hlev,hcl,hch,hk2⟩:=kidsP_cons hk;have hl16:=kidsP_levels hk2 oM;have hk31:=kid_ok hokd (List.mem_of_getElem? hkid);have hcx:w1.cell? (at' x.a2 i)=some (.int .i64 (kid:Int)):=(ckid.go ec).row.cell (by rw [show bC nd.kids=nd.kids.map λ (k:Nat)=>(.int .i64 (k:Int):Value) from rfl,List.getElem?_map,hkid];rfl);have hpw:PgAt w1 L g:=h.keep (λ c hc=>eb.block c oM oM);have hbw1:=bY hbw eb hbm.1
 refine dV 3 (λ e w1=>Sub [(18,.int .i64 (i:Int)),(17,.int .i64 (x.n2:Int)),(16,.slice x.a2 x.n2 x.c2),(8,.pointer (some ⟨b8,0,none⟩)),(6,.pointer (some ⟨b6,0,none⟩)),(4,.pointer (some ⟨b4,0,none⟩)),(2,.int .i64 ((16-f:Nat):Int)),(0,.pointer (some ⟨b,0,none⟩))] e ∧
  ∃ lo2 hi2,MemAt G1 w1 m M1∧Blk w1 b8 228 (PtC (iJ nd i ti p) x lo2 hi2)∧Blk w1 b4 79 x.cs∧Blk w1 b6 228 [.slice none 0 0,.slice none 0 0,.slice none 0 0,.int .i64 0,.slice none 0 0,.slice none 0 0]∧BsAt G1 w1 lo2 (iJ nd i ti p).low∧BsAt G1 w1 hi2 (iJ nd i ti p).high∧Carry G1 w0 G1 w1∧ButS (λ k=>k=m) w w1) ?_ ?_
 rotate_left
 ·repeat (first|(refine aH ?_;refine aC (j:=i) rfl rfl rfl hlt (Nat.mul_one _) ⟨_,_,ckid.go ec⟩ rfl ?_)|refine yC ?_)
  rw [show 16-f+1=17-f by omega];refine aB 156 ?_;refine aA rfl (hP w1 G1 Mi M1 kid p hpw hbw1 hMi hG1m (λ k hk=>(hG1 k).2 ⟨hGw k oM,oM,oM⟩) oM hrec) rfl ?_;rintro _ w3 ⟨⟨y,lo',hi'',rfl,hpa⟩,hM3,hb3⟩;obtain ⟨qa,qc,rfl,hqs⟩:=hpa.lo.sl;obtain ⟨ra,rc,rfl,hrs⟩:=hpa.hi.sl;have z3:=hb3.size;obtain ⟨ny1,ny2,ny3⟩:=hpa.nd.nums;have hsz4:4≤y.n1+y.n2:=by unfold aR at h4;omega
  have hsz8:y.n1≤8∧y.n2≤8:=by
   have e2:=hpa.ok;unfold bF at e2;split at e2
   ·rename_i hll;obtain ⟨_,q2,_⟩:=dG e2;rw [bM] at hll;rw [hll] at ny2;simp at ny2;omega
   ·obtain ⟨q1,_,q2,_⟩:=cO e2;rw [q1] at ny1;simp at ny1;omega
  have d8:=bY e8 hb3 oM;have d4:=bY e4 hb3 oM;have d6:=bY e6 hb3 oM;have c3:Carry G1 w1 G1 w3:=Carry.buts hb3 (λ k hk _=>hG1m k hk);have hlo3:=hlo.go c3;have hhi3:=hhi.go c3;have c03:=ec.trans c3;have b03:=eb.trans hb3;have hm3:=hM3.lt;clear e8 e4 e6 hMi hlo hhi ec eb hls hhs hcx hbw1 c3 hb3;obtain ⟨w3',rfl⟩:=yE w3;by_cases hi0:i=0
  ·have hlp:p.levels+1≤16:=by rw [hlev];exact hl16
   repeat (first|refine aF ?_|refine yI λ bk w' hg hbk hsz hsz'=>?_|refine yJ λ w' hu hbk hsz=>?_)
   obtain ⟨b11,rfl⟩:=yE bk;have hg4:Grow w3' w':=aI hu oM hg;have f11:Blk w' b11 228 (PtC p y (.slice qa p.low.length qc) (.slice ra p.high.length rc)):=hbk;have f8:=d8.grow hg4;have f4:=d4.grow hg4;have f6:=d6.grow hg4;have fb:=b03.trans (ButS.grow hg4);have z4:=hg4.size;have q11:w3'.heap.size=b11:=by omega
   clear hbk hu hg hsz hsz' d8 d4 d6;obtain ⟨w4,rfl⟩:=yE w'
   apply T.detA 7 6 [.pointer (some ⟨b11,3,none⟩),.int .i64 (p.levels:Int),.int .i64 ((p.levels+1:Nat):Int),.pointer (some ⟨b11,4,none⟩),.slice qa p.low.length qc,.pointer (some ⟨b8,3,none⟩),undef]
    (λ q wz=>Blk wz b11 228 (PtC p y (.slice qa p.low.length qc) (.slice ra p.high.length rc))∧Blk wz b8 228 [.slice x.a1 x.n1 x.c1,.slice x.a2 x.n2 x.c2,.slice x.a3 x.n3 x.c3,(if q then .int .i64 ((p.levels+1:Nat):Int) else .int .i64 (ti.levels:Int)),.slice la ti.low.length lc,.slice ha ti.high.length hc]∧Blk wz b4 79 x.cs∧Blk wz b6 228 [.slice none 0 0,.slice none 0 0,.slice none 0 0,.int .i64 0,.slice none 0 0,.slice none 0 0]∧Carry G1 w4 G1 wz∧ButS (λ k=>k=m) w wz∧wz.heap[m]? = w4.heap[m]?)
   ·rfl
   ·exact λ wz h1=>⟨f11.grow h1,f8.grow h1,f4.grow h1,f6.grow h1,Carry.grow h1,fb.trans (ButS.grow h1),h1.block m oM⟩
   ·clear f11 f8 f4 f6;repeat' (first|exact gI|refine fV ?_ ?_)
    ·refine aU rfl rfl rfl ?_;rintro q wq _ ⟨i11,i8,i4,i6,ic,ig,im⟩;repeat refine aF ?_
     refine aG rfl ?_;rw [show (q || Nat.beq 0 6)=q from Bool.or_false q];exact ⟨i11,i8,i4,i6,ic,ig,im⟩
    ·refine aU rfl rfl rfl ?_;rintro q wq _ ⟨i11,i8,i4,i6,ic,ig,im⟩;repeat refine aF ?_
     refine aG rfl ?_;rw [show (q || Nat.beq 1 6)=q from Bool.or_false q];exact ⟨i11,i8,i4,i6,ic,ig,im⟩
    ·refine aU rfl rfl rfl ?_;rintro q wq _ ⟨i11,i8,i4,i6,ic,ig,im⟩;repeat refine aF ?_
     refine aG rfl ?_;rw [show (q || Nat.beq 2 6)=q from Bool.or_false q];exact ⟨i11,i8,i4,i6,ic,ig,im⟩
    ·refine aU rfl rfl rfl ?_;rintro q wq _ ⟨i11,i8,i4,i6,ic,ig,im⟩;repeat refine aF ?_
     refine aG rfl ?_;rw [show (q || Nat.beq 3 6)=q from Bool.or_false q];exact ⟨i11,i8,i4,i6,ic,ig,im⟩
    ·refine aU rfl rfl rfl ?_;rintro q wq _ ⟨i11,i8,i4,i6,ic,ig,im⟩;repeat refine aF ?_
     refine aG rfl ?_;rw [show (q || Nat.beq 4 6)=q from Bool.or_false q];exact ⟨i11,i8,i4,i6,ic,ig,im⟩
    ·refine aU rfl rfl rfl ?_;rintro q wq _ ⟨i11,i8,i4,i6,ic,ig,im⟩;repeat refine aF ?_
     refine aG rfl ?_;rw [show (q || Nat.beq 5 6)=q from Bool.or_false q];exact ⟨i11,i8,i4,i6,ic,ig,im⟩
    ·refine aU rfl rfl rfl ?_;rintro q wq hb ⟨i11,i8,i4,i6,ic,ig,im⟩;obtain rfl:=hb rfl;have i8':Blk wq b8 228 (PtC ti x (.slice la ti.low.length lc) (.slice ha ti.high.length hc)):=i8;clear i8;repeat (first|refine aF ?_|refine yJ λ w' hu hbk hsz=>?_)
     exact gS ⟨i11.upd hu oM,hbk,i4.upd hu oM,i6.upd hu oM,ic.trans (Carry.upd hu (λ k hk _=>((hG1 k).1 hk).2.1)),ig.upd hu oM,(hu.block m oM).trans im⟩
   ·rintro w5 ⟨i11,i8,i4,i6,ic,ig,im⟩;have i8':Blk w5 b8 228 [.slice x.a1 x.n1 x.c1,.slice x.a2 x.n2 x.c2,.slice x.a3 x.n3 x.c3,.int .i64 ((p.levels+1:Nat):Int),.slice la ti.low.length lc,.slice ha ti.high.length hc]:=i8;have z5:=ic.size;clear i8 f11 f8 f4 f6;repeat (first|refine aF ?_|refine yJ λ w' hu hbk hsz=>?_|(refine aB 83 ?_;refine aA rfl (size_nd y _ oM oM) rfl ?_;rintro _ _ ⟨rfl,hgc⟩))
    rename_i w7 hu7 hb7 z7 w6;have z6:=hgc.size;have f11:=((i11.upd hu7 oM).upd hu oM).grow hgc;have f8:Blk w6 b8 228 [.slice x.a1 x.n1 x.c1,.slice x.a2 x.n2 x.c2,.slice x.a3 x.n3 x.c3,.int .i64 ((p.levels+1:Nat):Int),.slice qa p.low.length qc,.slice ra p.high.length rc]:=Blk.grow hgc hbk;have f4:=((i4.upd hu7 oM).upd hu oM).grow hgc;have f6:=((i6.upd hu7 oM).upd hu oM).grow hgc;have cu:Carry G1 w3' G1 w6:=(Carry.grow hg4).trans (ic.trans ((Carry.upd hu7 (λ k hk _=>((hG1 k).1 hk).2.1)).trans ((Carry.upd hu (λ k hk _=>((hG1 k).1 hk).2.1)).trans (Carry.grow hgc))));have c6:=c03.trans cu;have b6':ButS (λ k=>k=m) w w6:=((ig.upd hu7 oM).upd hu oM).trans (ButS.grow hgc);have hm6:w6.heap[m]? = w3'.heap[m]?:=(hgc.block m oM).trans ((hu.block m oM).trans ((hu7.block m oM).trans (im.trans (hg4.block m hm3))));have hM6:=hM3.go cu hm6;have bl6:=hpa.lo.go cu;have bh6:=hpa.hi.go cu;have hqs6:=hqs.go cu;have hrs6:=hrs.go cu;have hky6:=ckys.go c6;clear i11 i8' i4 i6 ic ig im hbk hu hb7 hu7 hgc cu hg4
    apply T.det 14 [.int .i64 (i:Int),.bool false,.bool false,undef,undef,undef,undef,undef,undef,undef,undef,undef,undef,.bool false]
     (λ wz=>Blk wz b11 228 (PtC p y (.slice qa p.low.length qc) (.slice ra p.high.length rc))∧Blk wz b8 228 [.slice x.a1 x.n1 x.c1,.slice x.a2 x.n2 x.c2,.slice x.a3 x.n3 x.c3,.int .i64 ((p.levels+1:Nat):Int),.slice qa p.low.length qc,.slice ra p.high.length rc]∧Blk wz b4 79 x.cs∧Blk wz b6 228 [.slice none 0 0,.slice none 0 0,.slice none 0 0,.int .i64 0,.slice none 0 0,.slice none 0 0]∧Grow w6 wz)
    ·rfl
    ·exact λ wz h1=>⟨f11.grow h1,f8.grow h1,f4.grow h1,f6.grow h1,(Grow.refl w6).trans h1⟩
    ·clear f11 f8 f4 f6;repeat' (first|exact jA|refine iB ?_ ?_)
     ·refine aY rfl rfl rfl ?_;rintro wq ⟨i11,i8,i4,i6,ic⟩;repeat refine aF ?_
      exact aG rfl ⟨i11,i8,i4,i6,ic⟩
     ·refine aY rfl rfl rfl ?_;rintro wq ⟨i11,i8,i4,i6,ic⟩;repeat refine aF ?_
      exact aG rfl ⟨i11,i8,i4,i6,ic⟩
     ·refine aY rfl rfl rfl ?_;rintro wq ⟨i11,i8,i4,i6,ic⟩;repeat refine aF ?_
      exact aG rfl ⟨i11,i8,i4,i6,ic⟩
     ·refine aY rfl rfl rfl ?_;rintro wq ⟨i11,i8,i4,i6,ic⟩;repeat refine aF ?_
      exact aG rfl ⟨i11,i8,i4,i6,ic⟩
     ·refine aY rfl rfl rfl ?_;rintro wq ⟨i11,i8,i4,i6,ic⟩;repeat refine aF ?_
      exact aG rfl ⟨i11,i8,i4,i6,ic⟩
     ·refine aY rfl rfl rfl ?_;rintro wq ⟨i11,i8,i4,i6,ic⟩;repeat refine aF ?_
      exact aG rfl ⟨i11,i8,i4,i6,ic⟩
     ·refine aY rfl rfl rfl ?_;rintro wq ⟨i11,i8,i4,i6,ic⟩;repeat refine aF ?_
      exact aG rfl ⟨i11,i8,i4,i6,ic⟩
     ·refine aY rfl rfl rfl ?_;rintro wq ⟨i11,i8,i4,i6,ic⟩;repeat refine aF ?_
      exact aG rfl ⟨i11,i8,i4,i6,ic⟩
     ·refine aY rfl rfl rfl ?_;rintro wq ⟨i11,i8,i4,i6,ic⟩;repeat refine aF ?_
      exact aG rfl ⟨i11,i8,i4,i6,ic⟩
     ·refine aY rfl rfl rfl ?_;rintro wq ⟨i11,i8,i4,i6,ic⟩;repeat refine aF ?_
      exact aG rfl ⟨i11,i8,i4,i6,ic⟩
     ·refine aY rfl rfl rfl ?_;rintro wq ⟨i11,i8,i4,i6,ic⟩;repeat refine aF ?_
      exact aG rfl ⟨i11,i8,i4,i6,ic⟩
     ·refine aY rfl rfl rfl ?_;rintro wq ⟨i11,i8,i4,i6,ic⟩;repeat refine aF ?_
      exact aG rfl ⟨i11,i8,i4,i6,ic⟩
     ·refine aY rfl rfl rfl ?_;rintro wq ⟨i11,i8,i4,i6,ic⟩;repeat refine aF ?_
      exact aG rfl ⟨i11,i8,i4,i6,ic⟩
     ·refine aY rfl rfl rfl ?_;rintro wq ⟨i11,i8,i4,i6,ic⟩;repeat refine aF ?_
      exact aG rfl ⟨i11,i8,i4,i6,ic⟩
    ·rintro w7' ⟨g11,g8,g4,g6,h67⟩;clear f11 f8 f4 f6;repeat refine aF ?_
     obtain ⟨kkB,hkkB⟩:∃ q,nd.keys[i]? = some q:=⟨_,List.getElem?_eq_getElem oM⟩
     obtain ⟨kcsB,hkrB,hkcB⟩:=hky6.ex;obtain ⟨kvB,kfB,hkvB⟩:=hkcB.at' hkkB;obtain ⟨kaB,kcB,rfl,hksB⟩:=hkvB.sl;have ekkB:nd.keys.getD (i) []=kkB:=by rw [List.getD_eq_getElem?_getD,hkkB];rfl
     rw [ekkB] at hch;have hchB:=hch oM
     apply T.det 16 [.int .i64 (i:Int),.pointer (some ⟨b4,2,none⟩),.slice x.a3 x.n3 x.c3,.int .i64 (x.n3:Int),.bool true,.bool true,.pointer (some ⟨b11,5,none⟩),.slice ra p.high.length rc,.pointer (some ⟨b4,2,none⟩),.slice x.a3 x.n3 x.c3,.int .i64 (i:Int),.pointer (some (at' x.a3 (i*1))),(.slice kaB kkB.length kcB),.int .i64 (bW p.high kkB),.bool false,.bool false]
      (λ wz=>Blk wz b11 228 (PtC p y (.slice qa p.low.length qc) (.slice ra p.high.length rc))∧Blk wz b8 228 [.slice x.a1 x.n1 x.c1,.slice x.a2 x.n2 x.c2,.slice x.a3 x.n3 x.c3,.int .i64 ((p.levels+1:Nat):Int),.slice qa p.low.length qc,.slice ra p.high.length rc]∧Blk wz b4 79 x.cs∧Blk wz b6 228 [.slice none 0 0,.slice none 0 0,.slice none 0 0,.int .i64 0,.slice none 0 0,.slice none 0 0]∧Grow w6 wz)
     ·rfl
     ·exact λ wz h1=>⟨g11.grow h1,g8.grow h1,g4.grow h1,g6.grow h1,h67.trans h1⟩
     ·clear g11 g8 g4 g6;repeat' (first|exact jA|refine iB ?_ ?_)
      ·refine aY rfl rfl rfl ?_;rintro wq ⟨i11,i8,i4,i6,ic⟩;repeat refine aF ?_
       exact aG rfl ⟨i11,i8,i4,i6,ic⟩
      ·refine aY rfl rfl rfl ?_;rintro wq ⟨i11,i8,i4,i6,ic⟩;repeat refine aF ?_
       exact aG rfl ⟨i11,i8,i4,i6,ic⟩
      ·refine aY rfl rfl rfl ?_;rintro wq ⟨i11,i8,i4,i6,ic⟩;repeat refine aF ?_
       exact aG rfl ⟨i11,i8,i4,i6,ic⟩
      ·refine aY rfl rfl rfl ?_;rintro wq ⟨i11,i8,i4,i6,ic⟩;repeat refine aF ?_
       exact aG rfl ⟨i11,i8,i4,i6,ic⟩
      ·refine aY rfl rfl rfl ?_;rintro wq ⟨i11,i8,i4,i6,ic⟩;repeat refine aF ?_
       exact aG rfl ⟨i11,i8,i4,i6,ic⟩
      ·refine aY rfl rfl rfl ?_;rintro wq ⟨i11,i8,i4,i6,ic⟩;repeat refine aF ?_
       exact aG rfl ⟨i11,i8,i4,i6,ic⟩
      ·refine aY rfl rfl rfl ?_;rintro wq ⟨i11,i8,i4,i6,ic⟩;repeat refine aF ?_
       exact aG rfl ⟨i11,i8,i4,i6,ic⟩
      ·refine aY rfl rfl rfl ?_;rintro wq ⟨i11,i8,i4,i6,ic⟩;repeat refine aF ?_
       exact aG rfl ⟨i11,i8,i4,i6,ic⟩
      ·refine aY rfl rfl rfl ?_;rintro wq ⟨i11,i8,i4,i6,ic⟩;repeat refine aF ?_
       exact aG rfl ⟨i11,i8,i4,i6,ic⟩
      ·refine aY rfl rfl rfl ?_;rintro wq ⟨i11,i8,i4,i6,ic⟩;repeat refine aF ?_
       exact aG rfl ⟨i11,i8,i4,i6,ic⟩
      ·refine aY rfl rfl rfl ?_;rintro wq ⟨i11,i8,i4,i6,ic⟩;repeat refine aF ?_
       exact aG rfl ⟨i11,i8,i4,i6,ic⟩
      ·refine aY rfl rfl rfl ?_;rintro wq ⟨i11,i8,i4,i6,ic⟩;repeat (first|refine eK rfl rfl rfl ?_|(refine aH ?_;refine aC (j:=i) rfl rfl rfl oM rfl ⟨_,_,hkrB.grow ic⟩ rfl ?_)|refine yC ?_)
       exact aG rfl ⟨i11,i8,i4,i6,ic⟩
      ·refine aY rfl rfl rfl ?_;rintro wq ⟨i11,i8,i4,i6,ic⟩;have hcx:wq.cell? (at' x.a3 (i*1))=some (.slice kaB kkB.length kcB):=(hkrB.grow ic).row.cell (by rw [Nat.mul_one];exact kfB);repeat refine aF ?_
       exact aG rfl ⟨i11,i8,i4,i6,ic⟩
      ·refine aY rfl rfl rfl ?_;rintro wq ⟨i11,i8,i4,i6,ic⟩;refine eK rfl rfl rfl ?_;refine aB 139 ?_;refine aA rfl (dU _ _ ra p.high.length rc kaB kkB.length kcB p.high kkB _ (hrs6.grow ic) (hksB.grow ic)) rfl ?_;rintro _ wr ⟨rfl,hgr⟩;repeat refine aF ?_
       exact aG rfl ⟨i11.grow hgr,i8.grow hgr,i4.grow hgr,i6.grow hgr,ic.trans hgr⟩
      ·refine aY rfl rfl rfl ?_;rintro wq ⟨i11,i8,i4,i6,ic⟩;repeat refine aF ?_
       exact aG rfl ⟨i11,i8,i4,i6,ic⟩
      ·refine aY rfl rfl rfl ?_;rintro wq ⟨i11,i8,i4,i6,ic⟩;repeat refine aF ?_
       exact aG rfl ⟨i11,i8,i4,i6,ic⟩
     ·rintro w9 ⟨i11,i8,i4,i6,ic⟩;clear g11 g8 g4 g6;repeat refine aF ?_
      have cz:=c6.trans (Carry.grow ic);refine ⟨⟨rfl,rfl,rfl,rfl,rfl,rfl,rfl,rfl,trivial⟩,.slice qa p.low.length qc,.slice ra p.high.length rc,hM6.go (Carry.grow ic) (ic.block m hM6.lt),?_,i4,i6,?_,?_,cz,b6'.trans (ButS.grow ic)⟩
      ·simp only [iJ,if_pos hi0];exact i8
      ·simp only [iJ,if_pos hi0];exact bl6.go (Carry.grow ic)
      ·simp only [iJ,if_pos hi0];exact bh6.go (Carry.grow ic)
  ·have hlp:p.levels+1=ti.levels:=by rw [hlev];simp only [iJ,if_neg hi0]
   repeat (first|refine aF ?_|refine yI λ bk w' hg hbk hsz hsz'=>?_|refine yJ λ w' hu hbk hsz=>?_|(refine aB 83 ?_;refine aA rfl (size_nd y _ oM oM) rfl ?_;rintro _ _ ⟨rfl,hgc⟩))
   rename_i w4 k4 p4 w5 u5 k5 z5 w6;obtain ⟨b11,rfl⟩:=yE bk;have z6:=hgc.size;have hg4:Grow w3' w5:=aI u5 oM hg;have f11:Blk w6 b11 228 (PtC p y (.slice qa p.low.length qc) (.slice ra p.high.length rc)):=(Blk.upd hu oM k5).grow hgc;have f8:Blk w6 b8 228 [.slice x.a1 x.n1 x.c1,.slice x.a2 x.n2 x.c2,.slice x.a3 x.n3 x.c3,.int .i64 (ti.levels:Int),.slice la ti.low.length lc,.slice ra p.high.length rc]:=Blk.grow hgc hbk;have f4:=((d4.grow hg4).upd hu oM).grow hgc;have f6:=((d6.grow hg4).upd hu oM).grow hgc;have cu:Carry G1 w3' G1 w6:=(Carry.grow hg4).trans ((Carry.upd hu (λ k hk _=>((hG1 k).1 hk).2.1)).trans (Carry.grow hgc));have c6:=c03.trans cu;have b6':ButS (λ k=>k=m) w w6:=((b03.trans (ButS.grow hg4)).upd hu oM).trans (ButS.grow hgc);have z4:=hg4.size;have hm6:w6.heap[m]? = w3'.heap[m]?:=(hgc.block m oM).trans ((hu.block m oM).trans (hg4.block m hm3));have hM6:=hM3.go cu hm6;have bl6:=(show BsAt G1 w3' (.slice la ti.low.length lc) ti.low from hlo3).go cu;have bh6:=hpa.hi.go cu;have hqs6:=hqs.go cu;have hrs6:=hrs.go cu;have hky6:=ckys.go c6;have q11:w3'.heap.size=b11∧b11<w6.heap.size:=by omega
   clear hbk hu k4 k5 u5 hg hgc cu hg4 d8 d4 d6;obtain ⟨kkA,hkkA⟩:∃ q,nd.keys[i-1]? = some q:=⟨_,List.getElem?_eq_getElem oM⟩
   obtain ⟨kcsA,hkrA,hkcA⟩:=hky6.ex;obtain ⟨kvA,kfA,hkvA⟩:=hkcA.at' hkkA;obtain ⟨kaA,kcA,rfl,hksA⟩:=hkvA.sl;have ekkA:nd.keys.getD (i-1) []=kkA:=by rw [List.getD_eq_getElem?_getD,hkkA];rfl
   rw [ekkA] at hcl;have hclA:=hcl oM
   apply T.det 14 [.int .i64 (i:Int),.bool true,.bool true,.pointer (some ⟨b11,4,none⟩),.slice qa p.low.length qc,.pointer (some ⟨b4,2,none⟩),.slice x.a3 x.n3 x.c3,.int .i64 (i:Int),.int .i64 ((i-1:Nat):Int),.pointer (some (at' x.a3 ((i-1)*1))),(.slice kaA kkA.length kcA),.int .i64 (bW p.low kkA),.bool false,.bool false]
    (λ wz=>Blk wz b11 228 (PtC p y (.slice qa p.low.length qc) (.slice ra p.high.length rc))∧Blk wz b8 228 [.slice x.a1 x.n1 x.c1,.slice x.a2 x.n2 x.c2,.slice x.a3 x.n3 x.c3,.int .i64 (ti.levels:Int),.slice la ti.low.length lc,.slice ra p.high.length rc]∧Blk wz b4 79 x.cs∧Blk wz b6 228 [.slice none 0 0,.slice none 0 0,.slice none 0 0,.int .i64 0,.slice none 0 0,.slice none 0 0]∧Grow w6 wz)
   ·rfl
   ·exact λ wz h1=>⟨f11.grow h1,f8.grow h1,f4.grow h1,f6.grow h1,(Grow.refl w6).trans h1⟩
   ·clear f11 f8 f4 f6;repeat' (first|exact jA|refine iB ?_ ?_)
    ·refine aY rfl rfl rfl ?_;rintro wq ⟨i11,i8,i4,i6,ic⟩;repeat refine aF ?_
     exact aG rfl ⟨i11,i8,i4,i6,ic⟩
    ·refine aY rfl rfl rfl ?_;rintro wq ⟨i11,i8,i4,i6,ic⟩;repeat refine aF ?_
     exact aG rfl ⟨i11,i8,i4,i6,ic⟩
    ·refine aY rfl rfl rfl ?_;rintro wq ⟨i11,i8,i4,i6,ic⟩;repeat refine aF ?_
     exact aG rfl ⟨i11,i8,i4,i6,ic⟩
    ·refine aY rfl rfl rfl ?_;rintro wq ⟨i11,i8,i4,i6,ic⟩;repeat refine aF ?_
     exact aG rfl ⟨i11,i8,i4,i6,ic⟩
    ·refine aY rfl rfl rfl ?_;rintro wq ⟨i11,i8,i4,i6,ic⟩;repeat refine aF ?_
     exact aG rfl ⟨i11,i8,i4,i6,ic⟩
    ·refine aY rfl rfl rfl ?_;rintro wq ⟨i11,i8,i4,i6,ic⟩;repeat refine aF ?_
     exact aG rfl ⟨i11,i8,i4,i6,ic⟩
    ·refine aY rfl rfl rfl ?_;rintro wq ⟨i11,i8,i4,i6,ic⟩;repeat refine aF ?_
     exact aG rfl ⟨i11,i8,i4,i6,ic⟩
    ·refine aY rfl rfl rfl ?_;rintro wq ⟨i11,i8,i4,i6,ic⟩;repeat refine aF ?_
     exact aG rfl ⟨i11,i8,i4,i6,ic⟩
    ·refine aY rfl rfl rfl ?_;rintro wq ⟨i11,i8,i4,i6,ic⟩;repeat refine aF ?_
     exact aG rfl ⟨i11,i8,i4,i6,ic⟩
    ·refine aY rfl rfl rfl ?_;rintro wq ⟨i11,i8,i4,i6,ic⟩;repeat (first|refine eK rfl rfl rfl ?_|(refine aH ?_;refine aC (j:=(i-1)) rfl rfl rfl oM rfl ⟨_,_,hkrA.grow ic⟩ rfl ?_)|refine yC ?_)
     exact aG rfl ⟨i11,i8,i4,i6,ic⟩
    ·refine aY rfl rfl rfl ?_;rintro wq ⟨i11,i8,i4,i6,ic⟩;have hcx:wq.cell? (at' x.a3 ((i-1)*1))=some (.slice kaA kkA.length kcA):=(hkrA.grow ic).row.cell (by rw [Nat.mul_one];exact kfA);repeat refine aF ?_
     exact aG rfl ⟨i11,i8,i4,i6,ic⟩
    ·refine aY rfl rfl rfl ?_;rintro wq ⟨i11,i8,i4,i6,ic⟩;refine eK rfl rfl rfl ?_;refine aB 139 ?_;refine aA rfl (dU _ _ qa p.low.length qc kaA kkA.length kcA p.low kkA _ (hqs6.grow ic) (hksA.grow ic)) rfl ?_;rintro _ wr ⟨rfl,hgr⟩;repeat refine aF ?_
     exact aG rfl ⟨i11.grow hgr,i8.grow hgr,i4.grow hgr,i6.grow hgr,ic.trans hgr⟩
    ·refine aY rfl rfl rfl ?_;rintro wq ⟨i11,i8,i4,i6,ic⟩;repeat refine aF ?_
     exact aG rfl ⟨i11,i8,i4,i6,ic⟩
    ·refine aY rfl rfl rfl ?_;rintro wq ⟨i11,i8,i4,i6,ic⟩;repeat refine aF ?_
     exact aG rfl ⟨i11,i8,i4,i6,ic⟩
   ·rintro w7' ⟨g11,g8,g4,g6,h67⟩;clear f11 f8 f4 f6;repeat refine aF ?_
    by_cases hhas:i<x.n3
    ·repeat refine aF ?_
     obtain ⟨kkB,hkkB⟩:∃ q,nd.keys[i]? = some q:=⟨_,List.getElem?_eq_getElem oM⟩
     obtain ⟨kcsB,hkrB,hkcB⟩:=hky6.ex;obtain ⟨kvB,kfB,hkvB⟩:=hkcB.at' hkkB;obtain ⟨kaB,kcB,rfl,hksB⟩:=hkvB.sl;have ekkB:nd.keys.getD (i) []=kkB:=by rw [List.getD_eq_getElem?_getD,hkkB];rfl
     rw [ekkB] at hch;have hchB:=hch oM
     apply T.det 16 [.int .i64 (i:Int),.pointer (some ⟨b4,2,none⟩),.slice x.a3 x.n3 x.c3,.int .i64 (x.n3:Int),.bool true,.bool true,.pointer (some ⟨b11,5,none⟩),.slice ra p.high.length rc,.pointer (some ⟨b4,2,none⟩),.slice x.a3 x.n3 x.c3,.int .i64 (i:Int),.pointer (some (at' x.a3 (i*1))),(.slice kaB kkB.length kcB),.int .i64 (bW p.high kkB),.bool false,.bool false]
      (λ wz=>Blk wz b11 228 (PtC p y (.slice qa p.low.length qc) (.slice ra p.high.length rc))∧Blk wz b8 228 [.slice x.a1 x.n1 x.c1,.slice x.a2 x.n2 x.c2,.slice x.a3 x.n3 x.c3,.int .i64 (ti.levels:Int),.slice la ti.low.length lc,.slice ra p.high.length rc]∧Blk wz b4 79 x.cs∧Blk wz b6 228 [.slice none 0 0,.slice none 0 0,.slice none 0 0,.int .i64 0,.slice none 0 0,.slice none 0 0]∧Grow w6 wz)
     ·rfl
     ·exact λ wz h1=>⟨g11.grow h1,g8.grow h1,g4.grow h1,g6.grow h1,h67.trans h1⟩
     ·clear g11 g8 g4 g6;repeat' (first|exact jA|refine iB ?_ ?_)
      ·refine aY rfl rfl rfl ?_;rintro wq ⟨i11,i8,i4,i6,ic⟩;repeat refine aF ?_
       exact aG rfl ⟨i11,i8,i4,i6,ic⟩
      ·refine aY rfl rfl rfl ?_;rintro wq ⟨i11,i8,i4,i6,ic⟩;repeat refine aF ?_
       exact aG rfl ⟨i11,i8,i4,i6,ic⟩
      ·refine aY rfl rfl rfl ?_;rintro wq ⟨i11,i8,i4,i6,ic⟩;repeat refine aF ?_
       exact aG rfl ⟨i11,i8,i4,i6,ic⟩
      ·refine aY rfl rfl rfl ?_;rintro wq ⟨i11,i8,i4,i6,ic⟩;repeat refine aF ?_
       exact aG rfl ⟨i11,i8,i4,i6,ic⟩
      ·refine aY rfl rfl rfl ?_;rintro wq ⟨i11,i8,i4,i6,ic⟩;repeat refine aF ?_
       exact aG rfl ⟨i11,i8,i4,i6,ic⟩
      ·refine aY rfl rfl rfl ?_;rintro wq ⟨i11,i8,i4,i6,ic⟩;repeat refine aF ?_
       exact aG rfl ⟨i11,i8,i4,i6,ic⟩
      ·refine aY rfl rfl rfl ?_;rintro wq ⟨i11,i8,i4,i6,ic⟩;repeat refine aF ?_
       exact aG rfl ⟨i11,i8,i4,i6,ic⟩
      ·refine aY rfl rfl rfl ?_;rintro wq ⟨i11,i8,i4,i6,ic⟩;repeat refine aF ?_
       exact aG rfl ⟨i11,i8,i4,i6,ic⟩
      ·refine aY rfl rfl rfl ?_;rintro wq ⟨i11,i8,i4,i6,ic⟩;repeat refine aF ?_
       exact aG rfl ⟨i11,i8,i4,i6,ic⟩
      ·refine aY rfl rfl rfl ?_;rintro wq ⟨i11,i8,i4,i6,ic⟩;repeat refine aF ?_
       exact aG rfl ⟨i11,i8,i4,i6,ic⟩
      ·refine aY rfl rfl rfl ?_;rintro wq ⟨i11,i8,i4,i6,ic⟩;repeat refine aF ?_
       exact aG rfl ⟨i11,i8,i4,i6,ic⟩
      ·refine aY rfl rfl rfl ?_;rintro wq ⟨i11,i8,i4,i6,ic⟩;repeat (first|refine eK rfl rfl rfl ?_|(refine aH ?_;refine aC (j:=i) rfl rfl rfl oM rfl ⟨_,_,hkrB.grow ic⟩ rfl ?_)|refine yC ?_)
       exact aG rfl ⟨i11,i8,i4,i6,ic⟩
      ·refine aY rfl rfl rfl ?_;rintro wq ⟨i11,i8,i4,i6,ic⟩;have hcx:wq.cell? (at' x.a3 (i*1))=some (.slice kaB kkB.length kcB):=(hkrB.grow ic).row.cell (by rw [Nat.mul_one];exact kfB);repeat refine aF ?_
       exact aG rfl ⟨i11,i8,i4,i6,ic⟩
      ·refine aY rfl rfl rfl ?_;rintro wq ⟨i11,i8,i4,i6,ic⟩;refine eK rfl rfl rfl ?_;refine aB 139 ?_;refine aA rfl (dU _ _ ra p.high.length rc kaB kkB.length kcB p.high kkB _ (hrs6.grow ic) (hksB.grow ic)) rfl ?_;rintro _ wr ⟨rfl,hgr⟩;repeat refine aF ?_
       exact aG rfl ⟨i11.grow hgr,i8.grow hgr,i4.grow hgr,i6.grow hgr,ic.trans hgr⟩
      ·refine aY rfl rfl rfl ?_;rintro wq ⟨i11,i8,i4,i6,ic⟩;repeat refine aF ?_
       exact aG rfl ⟨i11,i8,i4,i6,ic⟩
      ·refine aY rfl rfl rfl ?_;rintro wq ⟨i11,i8,i4,i6,ic⟩;repeat refine aF ?_
       exact aG rfl ⟨i11,i8,i4,i6,ic⟩
     ·rintro w9 ⟨i11,i8,i4,i6,ic⟩;clear g11 g8 g4 g6;repeat refine aF ?_
      have cz:=c6.trans (Carry.grow ic);refine ⟨⟨rfl,rfl,rfl,rfl,rfl,rfl,rfl,rfl,trivial⟩,.slice la ti.low.length lc,.slice ra p.high.length rc,hM6.go (Carry.grow ic) (ic.block m hM6.lt),?_,i4,i6,?_,?_,cz,b6'.trans (ButS.grow ic)⟩
      ·simp only [iJ,if_neg hi0];exact i8
      ·simp only [iJ,if_neg hi0];exact bl6.go (Carry.grow ic)
      ·simp only [iJ,if_neg hi0];exact bh6.go (Carry.grow ic)
    ·repeat refine aF ?_
     apply T.det 16 [.int .i64 (i:Int),.pointer (some ⟨b4,2,none⟩),.slice x.a3 x.n3 x.c3,.int .i64 (x.n3:Int),.bool false,.bool false,undef,undef,undef,undef,undef,undef,undef,undef,undef,.bool false]
      (λ wz=>Blk wz b11 228 (PtC p y (.slice qa p.low.length qc) (.slice ra p.high.length rc))∧Blk wz b8 228 [.slice x.a1 x.n1 x.c1,.slice x.a2 x.n2 x.c2,.slice x.a3 x.n3 x.c3,.int .i64 (ti.levels:Int),.slice la ti.low.length lc,.slice ra p.high.length rc]∧Blk wz b4 79 x.cs∧Blk wz b6 228 [.slice none 0 0,.slice none 0 0,.slice none 0 0,.int .i64 0,.slice none 0 0,.slice none 0 0]∧Grow w6 wz)
     ·rfl
     ·exact λ wz h1=>⟨g11.grow h1,g8.grow h1,g4.grow h1,g6.grow h1,h67.trans h1⟩
     ·clear g11 g8 g4 g6;repeat' (first|exact jA|refine iB ?_ ?_)
      ·refine aY rfl rfl rfl ?_;rintro wq ⟨i11,i8,i4,i6,ic⟩;repeat refine aF ?_
       exact aG rfl ⟨i11,i8,i4,i6,ic⟩
      ·refine aY rfl rfl rfl ?_;rintro wq ⟨i11,i8,i4,i6,ic⟩;repeat refine aF ?_
       exact aG rfl ⟨i11,i8,i4,i6,ic⟩
      ·refine aY rfl rfl rfl ?_;rintro wq ⟨i11,i8,i4,i6,ic⟩;repeat refine aF ?_
       exact aG rfl ⟨i11,i8,i4,i6,ic⟩
      ·refine aY rfl rfl rfl ?_;rintro wq ⟨i11,i8,i4,i6,ic⟩;repeat refine aF ?_
       exact aG rfl ⟨i11,i8,i4,i6,ic⟩
      ·refine aY rfl rfl rfl ?_;rintro wq ⟨i11,i8,i4,i6,ic⟩;repeat refine aF ?_
       exact aG rfl ⟨i11,i8,i4,i6,ic⟩
      ·refine aY rfl rfl rfl ?_;rintro wq ⟨i11,i8,i4,i6,ic⟩;repeat refine aF ?_
       exact aG rfl ⟨i11,i8,i4,i6,ic⟩
      ·refine aY rfl rfl rfl ?_;rintro wq ⟨i11,i8,i4,i6,ic⟩;repeat refine aF ?_
       exact aG rfl ⟨i11,i8,i4,i6,ic⟩
      ·refine aY rfl rfl rfl ?_;rintro wq ⟨i11,i8,i4,i6,ic⟩;repeat refine aF ?_
       exact aG rfl ⟨i11,i8,i4,i6,ic⟩
      ·refine aY rfl rfl rfl ?_;rintro wq ⟨i11,i8,i4,i6,ic⟩;repeat refine aF ?_
       exact aG rfl ⟨i11,i8,i4,i6,ic⟩
      ·refine aY rfl rfl rfl ?_;rintro wq ⟨i11,i8,i4,i6,ic⟩;repeat refine aF ?_
       exact aG rfl ⟨i11,i8,i4,i6,ic⟩
      ·refine aY rfl rfl rfl ?_;rintro wq ⟨i11,i8,i4,i6,ic⟩;repeat refine aF ?_
       exact aG rfl ⟨i11,i8,i4,i6,ic⟩
      ·refine aY rfl rfl rfl ?_;rintro wq ⟨i11,i8,i4,i6,ic⟩;repeat refine aF ?_
       exact aG rfl ⟨i11,i8,i4,i6,ic⟩
      ·refine aY rfl rfl rfl ?_;rintro wq ⟨i11,i8,i4,i6,ic⟩;repeat refine aF ?_
       exact aG rfl ⟨i11,i8,i4,i6,ic⟩
      ·refine aY rfl rfl rfl ?_;rintro wq ⟨i11,i8,i4,i6,ic⟩;repeat refine aF ?_
       exact aG rfl ⟨i11,i8,i4,i6,ic⟩
      ·refine aY rfl rfl rfl ?_;rintro wq ⟨i11,i8,i4,i6,ic⟩;repeat refine aF ?_
       exact aG rfl ⟨i11,i8,i4,i6,ic⟩
      ·refine aY rfl rfl rfl ?_;rintro wq ⟨i11,i8,i4,i6,ic⟩;repeat refine aF ?_
       exact aG rfl ⟨i11,i8,i4,i6,ic⟩
     ·rintro w9 ⟨i11,i8,i4,i6,ic⟩;clear g11 g8 g4 g6;repeat refine aF ?_
      have cz:=c6.trans (Carry.grow ic);refine ⟨⟨rfl,rfl,rfl,rfl,rfl,rfl,rfl,rfl,trivial⟩,.slice la ti.low.length lc,.slice ra p.high.length rc,hM6.go (Carry.grow ic) (ic.block m hM6.lt),?_,i4,i6,?_,?_,cz,b6'.trans (ButS.grow ic)⟩
      ·simp only [iJ,if_neg hi0];exact i8
      ·simp only [iJ,if_neg hi0];exact bl6.go (Carry.grow ic)
      ·simp only [iJ,if_neg hi0];exact bh6.go (Carry.grow ic)
 rintro e w9 ⟨hsub,lo2,hi2,hM9,j8,j4,j6,bl9,bh9,c9,b9⟩;refine bD (e':=[(18,_),(17,_),(16,_),(8,_),(6,_),(4,_),(2,_),(0,_)]) ?_ hsub;clear hsub;repeat refine aF ?_
 exact aE (i+1,iJ nd i ti p,M1,lo2,hi2) ⟨rfl,rfl,rfl,rfl,rfl,rfl,rfl,rfl,trivial⟩ ⟨by simp only;omega,hk2,by unfold iJ;split<;>rfl,j8,j4,j6,hM9,bl9,bh9,c9,b9⟩ (by simp only;omega)
end Go.Proofs.YtfpadnmdafiddaaGreatDoor
namespace Go.V
open Go Go.RowKit
def fieldTB (P:Program) (s:TypeId) (f off ft:Nat):Bool :=
 match P.underlying s with
 | some (.struct fs)=>match fs[f]? with
  | some fd=>fd.offset==off&&fd.type==ft
  | none=>false
 | _=>false
class FieldT (P:Program) (s:TypeId) (f:Nat) (off ft:outParam Nat):Prop where
 h:fieldTB P s f off ft=true
theorem run_field {P:Program} {s f off ft m:Nat} [h:FieldT P s f off ft] [ha:Agg P ft m] (cs:List Value) (w:World) :
  (Instr.field s (.agg cs.toArray) f).run P w=.ok (.agg ((cs.drop off).take m).toArray) w:=by
 have h:=h.h;unfold fieldTB at h;split at h
 ·rename_i fs hu;split at h
  ·rename_i fd hf;simp only [Bool.and_eq_true,beq_iff_eq] at h;obtain ⟨h1,h2⟩:=h;simp [Instr.field,underlying,hu,hf,h1,h2,asAgg,part,ha.agg,ha.size,List.extract_toArray,List.extract]
  ·cases h
 ·cases h
section
variable [Rn]
variable {P:Program} {n:Nat} {e:dJ} {w:World} {Q:dI} {ops:Array Oper} {rest:List Oper} {d:Nat} {ty:TypeId} {pos:String} {aft:Array Edge}
theorem TL.fieldV {s f off ft m:Nat} {x:Operand} {cs:List Value} [h:FieldT P s f off ft] [ha:Agg P ft m] (hx:val e x=some (.agg cs.toArray)) (hd:Nat.blt d n=true)
  (k:TL P n ops rest ((d,.agg ((cs.drop off).take m).toArray)::e) w Q):TL P n ops (⟨some d,.field s x f,ty,pos,aft,none⟩::rest) e w Q :=
 TL.run (λ a ha=>by simp [execOp,ha.eval hx,run_field]) hd k
end
end Go.V
namespace Go.Proofs.YtfpadnmdafiddaaGreatDoor
open Go Go.RowKit Go.V
instance:FieldT Tryz.prog 228 0 0 79:=⟨kR⟩
theorem partC_all {L:PL} {g:Pg} {b m:Nat} (hbm:b≠m∧m≠L.p∧m≠L.d∧m≠L.u∧m≠L.m):∀ f,f≤16→PartC L g b m f:=by
 intro f
 induction f with
 | zero=>exact λ hf=>part_of hf hbm (λ f' h=>by omega)
 | succ f ih =>
  intro hf;refine part_of hf hbm (λ f' h=>?_);obtain rfl:f=f':=by omega
  exact branch_of oM hbm (ih oM)
theorem sizeN_le {n:Nd} (h:bF n=true):aR n≤8:=by
 unfold bF at h;unfold aR;split at h
 ·obtain ⟨_,h8,_⟩:=dG h;have:n.kids=[]:=bM.1 (by assumption);simp only [this,List.length_nil];omega
 ·obtain ⟨h0,_,h8,_⟩:=cO h;simp only [h0,List.length_nil];omega
theorem tree_c {L:PL} {g:Pg} {w:World} {b m lv:Nat} {G:Nat→Prop} {M M':fS} {root:Option Nat} (h:PgAt w L g) (hbw:Blk w b 226 [.pointer (some ⟨L.p,0,none⟩),.map (some m)]) (hM:MemAt G w m M) (hbm:b≠m∧m≠L.p∧m≠L.d∧m≠L.u∧m≠L.m)
  (hGm:∀ k,G k→k≠m) (hGw:∀ k,w.heap.size≤k→G k) (hr:∀ n,root=some n→n<4294967296) (ht:treeP g root M=some (lv,M')) :
  Calls Tryz.prog 88 #[.pointer (some ⟨b,0,none⟩),.int .i64 (dZ root)] w (Ret λ v w'=>v=.tuple #[.int .i64 (lv:Int),.int .i64 0]∧MemAt G w' m M'∧ButS (λ k=>k=m) w w'):=by
 have hml:=hM.lt;have hbl:=hbw.lt;have hlts:=h.lts;refine V.calls (args:=[_,_]) Tryz.func88 rfl Tryz.ntmps88 rfl rfl ?_
 cases root with
 | none =>
  unfold treeP at ht;simp only [Option.some.injEq,Prod.mk.injEq] at ht;obtain ⟨rfl,rfl⟩:=ht;simp only [dZ];repeat (first|(refine aB 93 ?_;refine aA rfl (ready_c h (-1) oM oM) rfl ?_;rintro _ _ ⟨rfl,rfl⟩)|refine yC ?_)
  exact fM rfl rfl ⟨_,rfl,rfl,hM,ButS.grow (Grow.refl _)⟩
 | some n =>
  unfold treeP at ht;simp only at ht;split at ht
  ·cases ht
  rename_i t M1 hp;split at ht
  ·cases ht
  rename_i hz;simp only [Option.some.injEq,Prod.mk.injEq] at ht;obtain ⟨rfl,rfl⟩:=ht;simp only [dZ];have hn:=hr n rfl;repeat (first|(refine aB 93 ?_;refine aA rfl (ready_c h (n:Int) oM oM) rfl ?_;rintro _ _ ⟨rfl,rfl⟩)|refine yC ?_)
  refine aB 156 ?_;refine aA rfl (partC_all hbm 16 (Nat.le_refl _) w G M M1 n t h hbw hM hGm hGw hn hp) rfl ?_;rintro _ w1 ⟨⟨x,lo,hi,rfl,hpa⟩,hM1,hb1⟩;obtain ⟨la,lc,rfl,hls⟩:=hpa.lo.sl;obtain ⟨ha,hc,rfl,hhs⟩:=hpa.hi.sl;have hpa2:=hpa.nd;obtain ⟨nn1,nn2,nn3⟩:=hpa2.nums;have z1:=hb1.size;have hokz:=sizeN_le hpa.ok
  have hnz:(((x.n1+x.n2:Nat):Int)==0)=false:=by
   rw [beq_eq_false_iff_ne];unfold aR at hz;omega
  repeat (first|(refine aB 83 ?_;refine aA rfl (size_nd _ _ (by unfold aR at hokz;omega) (by unfold aR at hokz;omega)) rfl ?_;rintro _ _ ⟨rfl,hgc⟩)|refine yC ?_|refine yI λ bk w' hg hbk hsz hsz'=>?_|refine yJ λ w' hu hbk hsz=>?_)
  have hgr:=(aI hu oM hg).trans hgc;exact fM rfl rfl ⟨_,rfl,rfl,hM1.go (Carry.grow hgr) (hgr.block m oM),hb1.trans (ButS.grow hgr)⟩
theorem wnode_c {w:World} {b m n p:Nat} {G:Nat→Prop} {M:fS} {t:Part} (hbw:Blk w b 226 [.pointer (some ⟨p,0,none⟩),.map (some m)]) (hM:MemAt G w m M) (hn:n<4294967296) (ht:gO M n=some t) :
  Calls Tryz.prog 163 #[.pointer (some ⟨b,0,none⟩),.int .i64 (n:Int)] w (Ret λ v w'=>∃ x:NV,v=x.val∧NdAt G w' x t.node∧Grow w w'):=by
 have hbl:=hbw.lt;obtain ⟨fm,hmf,hm0,hm1⟩:=id hM;have hml:=hmf.lt;obtain ⟨x,lo,hi,hfn,hpa⟩:=hm1 n t ht;refine V.calls (args:=[_,_]) Tryz.func163 rfl Tryz.ntmps163 rfl rfl ?_;repeat (first|(refine mU ?_;refine TL.lookup1 rfl rfl (hmf.grow hg) hfn oM rfl ?_)|refine yA ?_|refine yI λ bk w' hg hbk hsz hsz'=>?_)
 refine TL.fieldV (cs:=PtC t x lo hi) rfl rfl ?_;repeat (first|refine dF ?_|refine yJ λ w' hu hbk hsz=>?_)
 have hgr:Grow w w':=aI hu oM (by assumption);exact retC rfl (aW hbk rfl) ⟨_,rfl,x,rfl,hpa.nd.go (Carry.grow hgr),hgr⟩
theorem mem_new {w w':World} {b p m:Nat} (h:WkAt w b p m (λ _=>none)) {G:Nat→Prop}:MemAt G w m [] :=
 ⟨_,h.map,λ _ _=>rfl,λ n t ht=>by cases ht⟩
theorem grow_buts {w w0 w1:World} {m:Nat} (hg:Grow w w0) (h:ButS (λ k=>k=m) w0 w1) (hm:w.heap.size≤m):Grow w w1 :=
 ⟨⟨h.os.trans hg.1.os,h.tape.trans hg.1.tape,h.output.trans hg.1.output,by have:=hg.2;have:=h.size;omega,λ k hk=>(h.block k (by have:=hg.2;omega) oM).trans (hg.block k hk)⟩,by have:=hg.2;have:=h.size;omega⟩
end Go.Proofs.YtfpadnmdafiddaaGreatDoor
namespace Go.Proofs.YtfpadnmdafiddaaGreatDoor
theorem Vt.height {s:Pg}:∀ {h h':Nat} {nd:Nd} {l l':bT} {ps ps':List Nat},Vt s h nd l ps→Vt s h' nd l' ps'→h=h'
 | 0,h',nd,_,_,_,_,a,b=>by
  have:=b.leaf.1 (a.leaf.2 rfl);omega
 | h+1,0,nd,_,_,_,_,a,b=>by
  have:=a.leaf.1 (b.leaf.2 rfl);omega
 | h+1,h'+1,nd,_,_,_,_,⟨ls,e1,e2,e3,_,_,_,_,e8⟩,⟨ls',f1,f2,f3,_,_,_,_,f8⟩=>by
  rw [e2] at f2
  cases ls with
  | nil=>cases e3
  | cons x r =>
   cases ls' with
   | nil=>cases f3
   | cons y r' =>
    simp only [List.map_cons,List.cons.injEq] at f2;obtain ⟨n1,g1,_,g3⟩:=e8 x sM;obtain ⟨n2,k1,_,k3⟩:=f8 y sM;rw [f2.1,k1] at g1;cases g1;have:=g3.height k3;omega
theorem Vt.many {s:Pg}:∀ {h:Nat} {nd:Nd} {l:bT} {ps:List Nat},Vt s h nd l ps→aR nd*4^h≤l.length
 | 0,nd,l,ps,h=>by obtain ⟨rfl,_⟩:=h;simp [aR]
 | h+1,nd,l,ps,⟨ls,e1,e2,e3,e4,e5,e6,e7,e8⟩=>by
  have hz:aR nd=ls.length:=by simp [aR,e1,e2]
  rw [hz,e6];clear e6 e3 hz e2 e4 e5 e7
  induction ls with
  | nil=>simp
  | cons x r ih =>
   obtain ⟨nd',g1,g2,g3⟩:=e8 x sM;have h1:=g3.many;have h2:=ih (λ y hy=>e8 y (List.mem_cons_of_mem _ hy));have h3:4*4^h≤aR nd'*4^h:=Nat.mul_le_mul_right _ g2;simp only [List.flatMap_cons,List.length_append,List.length_cons,Nat.pow_succ] at h2 ⊢;have h4:(r.length+1)*(4^h*4)=r.length*(4^h*4)+4^h*4:=by rw [Nat.add_mul,Nat.one_mul]
   omega
theorem Vt.pages {s:Pg}:∀ {h:Nat} {nd:Nd} {l:bT} {ps:List Nat},Vt s h nd l ps→3*ps.length+aR nd≤l.length
 | 0,nd,l,ps,h=>by obtain ⟨rfl,rfl,_⟩:=h;simp [aR]
 | h+1,nd,l,ps,⟨ls,e1,e2,e3,e4,e5,e6,e7,e8⟩=>by
  have hz:aR nd=ls.length:=by simp [aR,e1,e2]
  rw [hz,e6,e7];clear e6 e3 hz e2 e7 e4 e5
  induction ls with
  | nil=>simp
  | cons x r ih =>
   obtain ⟨nd',g1,g2,g3⟩:=e8 x sM;have h1:=g3.pages;have h2:=ih (λ y hy=>e8 y (List.mem_cons_of_mem _ hy));simp only [List.flatMap_cons,List.length_append,List.length_cons] at h2 ⊢;omega
theorem Vt.below {s:Pg}:∀ {h:Nat} {nd:Nd} {l:bT} {ps:List Nat},Vt s h nd l ps→∀ p∈ps,∃ h' nd' l' ps',h'<h∧cB s p=some nd'∧Vt s h' nd' l' ps'
 | 0,nd,l,ps,h,p,hp=>by obtain ⟨_,rfl,_⟩:=h;cases hp
 | h+1,nd,l,ps,⟨ls,e1,e2,e3,_,_,e6,e7,e8⟩,p,hp=>by
  rw [e7] at hp;obtain ⟨x,hx,hpx⟩:=List.mem_flatMap.1 hp;obtain ⟨nd',g1,g2,g3⟩:=e8 x hx;rcases List.mem_cons.1 hpx with rfl|hpx
  ·exact ⟨h,nd',_,_,oM,g1,g3⟩
  ·obtain ⟨h',n',l',ps',q1,q2,q3⟩:=g3.below p hpx;exact ⟨h',n',l',ps',oM,q2,q3⟩
def TrAt (s:Pg):Option Nat→Nat→bT→List Nat→Prop
 | none,lv,l,ps=>lv=0∧l=[]∧ps=[]
 | some n,lv,l,ps=>∃ h nd ps',lv=h+1∧cB s n=some nd∧Vt s h nd l ps'∧1≤aR nd∧ps=n::ps'
theorem TrAt.srt {s:Pg} {r:Option Nat} {lv:Nat} {l:bT} {ps:List Nat} (h:TrAt s r lv l ps):Srt l:=by
 cases r with
 | none=>rw [h.2.1];exact List.Pairwise.nil
 | some n=>obtain ⟨h,nd,ps',e1,e2,e3,e4,e5⟩:=h;exact e3.srt
theorem TrAt.items {s:Pg} {r:Option Nat} {lv:Nat} {l:bT} {ps:List Nat} (h:TrAt s r lv l ps):∀ x∈l,eF x.1=true∧fC x.2=true:=by
 cases r with
 | none=>rw [h.2.1];intro x hx;cases hx
 | some n=>obtain ⟨h,nd,ps',e1,e2,e3,e4,e5⟩:=h;exact e3.items
theorem TrAt.lt {s:Pg} (hs:PgOk s) {n lv:Nat} {l:bT} {ps:List Nat} (h:TrAt s (some n) lv l ps):n<8192:=by
 obtain ⟨h,nd,ps',e1,e2,e3,e4,e5⟩:=h;have:=dW (dN e2);have:=hs.cnt;omega
theorem TrAt.many {s:Pg} {r:Option Nat} {lv:Nat} {l:bT} {ps:List Nat} (h:TrAt s r lv l ps) (h2:2≤lv):2*4^(lv-1)≤l.length:=by
 cases r with
 | none=>have:=h.1;omega
 | some n =>
  obtain ⟨h,nd,ps',rfl,e2,e3,e4,e5⟩:=h;have h1:=e3.many
  have hz:2≤aR nd:=by
   have hok:=fG e2;obtain ⟨h,rfl⟩:∃ g,h=g+1:=⟨h-1,oM⟩
   have hl:¬ bN nd=true:=λ e=>by have:=e3.leaf.1 e;omega
   unfold bF at hok;rw [if_neg hl] at hok;obtain ⟨_,w2,_⟩:=cO hok;unfold aR;omega
  have h3:2*4^h≤aR nd*4^h:=Nat.mul_le_mul_right _ hz;rw [Nat.add_sub_cancel];omega
theorem TrAt.pages {s:Pg} {r:Option Nat} {lv:Nat} {l:bT} {ps:List Nat} (h:TrAt s r lv l ps):3*ps.length≤l.length+2:=by
 cases r with
 | none=>rw [h.2.2];simp
 | some n =>
  obtain ⟨h,nd,ps',rfl,e2,e3,e4,rfl⟩:=h;have:=e3.pages;simp only [List.length_cons];omega
theorem TrAt.levels {s:Pg} {r:Option Nat} {lv k:Nat} {l:bT} {ps:List Nat} (h:TrAt s r lv l ps) (hk:1≤k) (hl:l.length<2*4^k):lv≤k:=by
 by_cases h2:lv≤k
 ·exact h2
 ·have h3:=h.many oM;have h4:4^k≤4^(lv-1):=Nat.pow_le_pow_right oM oM;omega
theorem Ext.spare {s s':Pg} (h:Ext s s'):cR s'≤cR s:=by
 unfold cR
 have:fQ s≤fQ s':=by
  unfold fQ;rw [h.count,← List.countP_eq_length_filter,← List.countP_eq_length_filter];exact List.countP_mono_left λ n _ hn=>(h.used n hn).1
 rw [h.count];omega
theorem put_tr {s:Pg} {r:Option Nat} {lv:Nat} {l:bT} {ps:List Nat} (hs:PgOk s) (h:TrAt s r lv l ps) {key v:Bs} (hk:eF key=true) (hv:fC v=true) (hlv:lv≤16) (hsp:2*lv+1≤cR s) :
  ∃ n s' lv' ps',putP s r key v=some (n,s')∧Ext s s'∧PgOk s'∧TrAt s' (some n) lv' (gW key v l) ps'∧cR s'+lv+ps'.length=cR s+ps.length∧cR s≤cR s'+(2*lv+1)∧cR s'≤cR s:=by
 cases r with
 | none =>
  obtain ⟨rfl,rfl,rfl⟩:=h
  have hok:bF ⟨[(key,v)],[],[]⟩=true:=leaf_ok (List.pairwise_singleton _ _) (λ x hx=>by
   rw [List.mem_singleton] at hx;subst hx;exact ⟨hk,hv⟩) sM
  obtain ⟨n,s',e,hw⟩:=hQ hs oM hok;have:=hw.spare
  refine ⟨n,s',1,[n],by simpa [putP] using e,hw.ext,hw.ok,⟨0,_,[],rfl,hw.node,⟨rfl,rfl,List.pairwise_singleton _ _,λ x hx=>by
   simp only [gW,List.mem_singleton] at hx;subst hx;exact ⟨hk,hv⟩⟩,by simp [aR,gW],rfl⟩,by simp;omega,oM,oM⟩
 | some n =>
  obtain ⟨h,nd,ps',rfl,e2,e3,e4,rfl⟩:=h;obtain ⟨fr,th,q1,_,q3,up,s',uls,q4,q5,q6,q7⟩:=put_up key v hk hv h (f:=16) hs e2 e3 oM e4 oM
  have hup:∀ {z:Option (Nat×Pg)},(match up.kids with | [k]=>some (k,s')|_=>gV s' up)=z→putP s (some n) key v=z:=by
   intro z hz;simp only [putP,q1,q4];exact hz
  have hlen:=q5.len;have htwo:=q5.two;simp only [List.length_cons]
  match uls,q5,hlen,htwo,q6,q7 with
  | [],q5,hlen,_,_,_=>simp at hlen
  | [x],q5,hlen,_,q6,q7 =>
   obtain ⟨nd',g1,g2,g3⟩:=q5.sub x sM;have hz:1≤aR nd':=by omega
   have hi:gW key v l=x.its:=by rw [q5.its];simp
   rw [pgs_one] at q6 q7;simp only [List.length_cons] at q6 q7;refine ⟨x.page,s',h+1,x.page::x.ps,hup (by rw [q5.kids];rfl),q5.ext,q5.ok,⟨h,nd',x.ps,rfl,g1,by rw [hi];exact g3,hz,rfl⟩,by simp only [List.length_cons];omega,oM,q5.ext.spare⟩
  | [x,y],q5,hlen,_,q6,q7 =>
   have hbig:=q5.big rfl
   have hvt:Vt s' (h+1) up (gW key v l) (pgs [x,y]):=⟨[x,y],q5.items,q5.kids,q5.len,q5.toks,q5.keys,q5.its,rfl,λ z hz=>by
    obtain ⟨n1,g1,g2,g3⟩:=q5.sub z hz;obtain ⟨n2,g4,g5⟩:=hbig z hz;rw [g1] at g4;cases g4
    exact ⟨n1,g1,g5,g3⟩⟩
   have hz2:aR up=2:=by simp [aR,q5.items,q5.kids]
   have hok:=hvt.ok q5.ok (.inl oM) oM;obtain ⟨m,s2,w1,w2⟩:=hQ q5.ok (by simp [pgs] at q6 q7;omega) hok;have:=w2.spare;refine ⟨m,s2,h+2,m::pgs [x,y],hup (by rw [q5.kids];exact w1),q5.ext.trans w2.ext,w2.ok,⟨h+1,up,_,rfl,w2.node,hvt.ext w2.ext,oM,rfl⟩,by simp only [List.length_cons];omega,oM,(q5.ext.trans w2.ext).spare⟩
  | x::y::z::r,q5,hlen,htwo,_,_=>simp at htwo
theorem getMc (n k:Nat) (t:Part) (M:fS):gO ((n,t)::M) k=if k=n then some t else gO M k:=by
 unfold gO;rw [List.find?_cons];by_cases h:k=n
 ·subst h;simp
 ·rw [if_neg h];have:(n==k)=false:=by simp;omega
  simp [this]
theorem toks_adj:∀ {ls:List Sb} {ks:List Bs},ls.length=ks.length+1→(toks ls ks).Pairwise RT→∀ i k,ks[i]? = some k→(∀ x,ls[i]? = some x→RT (.T x) (.K k))∧∀ y,ls[i+1]? = some y→RT (.K k) (.T y)
 | [],ks,h,_,_,_,_=>by cases h
 | [x],ks,h,_,i,k,hk=>by
  obtain rfl:ks=[]:=List.eq_nil_of_length_eq_zero (by simpa using h.symm);cases hk
 | x::y::r,[],h,_,i,k,hk=>by cases hk
 | x::y::r,k0::ks,h,hp,i,k,hk=>by
  have e:toks (x::y::r) (k0::ks)=Tok.T x::Tok.K k0::toks (y::r) ks:=rfl;rw [e] at hp;obtain ⟨p1,p2⟩:=List.pairwise_cons.1 hp;obtain ⟨p3,p4⟩:=List.pairwise_cons.1 p2
  cases i with
  | zero =>
   simp only [List.getElem?_cons_zero,Option.some.injEq] at hk;subst hk;refine ⟨λ z hz=>?_,λ z hz=>?_⟩
   ·simp only [List.getElem?_cons_zero,Option.some.injEq] at hz;subst hz;exact p1 _ sM
   ·simp only [List.getElem?_cons_succ,List.getElem?_cons_zero,Option.some.injEq] at hz;subst hz;exact p3 _ (by simp [toks])
  | succ i =>
   have ih:=toks_adj (ls:=y::r) (ks:=ks) (by simpa using h) p4 i k (by simpa using hk);exact ⟨λ z hz=>ih.1 z (by simpa using hz),λ z hz=>ih.2 z (by simpa using hz)⟩
def firstK (l:bT):Bs:=(l.getD 0 ([],[])).1
def lastK (l:bT):Bs:=(l.getD (l.length-1) ([],[])).1
theorem firstK_mem {l:bT} (h:l≠[]):∃ x∈l,x.1=firstK l:=by
 cases l with
 | nil=>exact absurd rfl h
 | cons x r=>exact ⟨x,sM,rfl⟩
theorem lastK_mem {l:bT} (h:l≠[]):∃ x∈l,x.1=lastK l:=by
 have hl:l.length-1<l.length:=by
  cases l with
  | nil=>exact absurd rfl h
  | cons x r=>simp
 refine ⟨l[l.length-1],List.getElem_mem hl,?_⟩;unfold lastK;rw [List.getD_eq_getElem?_getD,List.getElem?_eq_getElem hl];rfl
theorem firstK_append {l r:bT} (h:l≠[]):firstK (l++r)=firstK l:=by
 cases l with
 | nil=>exact absurd rfl h
 | cons x t=>rfl
theorem lastK_append {l r:bT} (h:r≠[]):lastK (l++r)=lastK r:=by
 unfold lastK;have hr:0<r.length:=List.length_pos_iff.2 h;rw [List.getD_eq_getElem?_getD,List.getD_eq_getElem?_getD,List.length_append,List.getElem?_append_right oM];congr 3
 omega
def DeepM (M:fS):Nat→Nat→Prop
 | 0,_=>False
 | f+1,n=>∃ t,gO M n=some t∧∀ k∈t.node.kids,DeepM M f k
def SubM (M M':fS):Prop:=∀ k t,gO M k=some t→gO M' k=some t
theorem DeepM.sub {M M':fS} (h:SubM M M'):∀ {f n:Nat},DeepM M f n→DeepM M' f n
 | 0,_,h=>h.elim
 | f+1,n,⟨t,h1,h2⟩=>⟨t,h n t h1,λ k hk=>(h2 k hk).sub h⟩
theorem flatMap_same {α β : Type} {f g : α→List β}:∀ {l:List α},(∀ x∈l,f x=g x)→l.flatMap f=l.flatMap g
 | [],_=>rfl
 | x::r,h=>by
  simp only [List.flatMap_cons];rw [h x sM,flatMap_same λ y hy=>h y (List.mem_cons_of_mem _ hy)]
theorem itemsP_sub {M M':fS} (h:SubM M M'):∀ {f n:Nat},DeepM M f n→itemsP M' f n=itemsP M f n
 | 0,_,h=>h.elim
 | f+1,n,⟨t,h1,h2⟩=>by
  rw [itemsP,itemsP,h1,h n t h1];simp only;congr 1
  exact flatMap_same λ k hk=>itemsP_sub h (h2 k hk)
structure Known (s:Pg) (M:fS) (n:Nat) (t:Part) (h:Nat) (l:bT) (ps:List Nat):Prop where
 node:cB s n=some t.node
 vt:Vt s h t.node l ps
 sz:1≤aR t.node
 lv:t.levels=h+1
 low:t.low=firstK l
 high:t.high=lastK l
 deep:DeepM M (h+1) n
 its:itemsP M (h+1) n=l
 ps:∀ p∈ps,∃ t,gO M p=some t
theorem Known.sub {s:Pg} {M M':fS} (hs:SubM M M') {n h:Nat} {t:Part} {l:bT} {ps:List Nat} (k:Known s M n t h l ps):Known s M' n t h l ps :=
 ⟨k.node,k.vt,k.sz,k.lv,k.low,k.high,k.deep.sub hs,(itemsP_sub hs k.deep).trans k.its,λ p hp=>let ⟨t,ht⟩:=k.ps p hp;⟨t,hs p t ht⟩⟩
def MemoOk (s:Pg) (M:fS):Prop:=∀ n t,gO M n=some t→∃ h l ps,Known s M n t h l ps
theorem MemoOk.at_ {s:Pg} {M:fS} (hM:MemoOk s M) {n h:Nat} {t:Part} {nd:Nd} {l:bT} {ps:List Nat} (ht:gO M n=some t) (hn:cB s n=some nd) (hv:Vt s h nd l ps):t.node=nd∧Known s M n t h l ps:=by
 obtain ⟨h',l',ps',k⟩:=hM n t ht;have e:=k.node;rw [hn] at e;cases e;obtain rfl:=hv.height k.vt;obtain ⟨rfl,rfl⟩:=hv.same k.vt;exact ⟨rfl,k⟩
theorem SubM.cons {M:fS} {n:Nat} {t:Part} (h:gO M n=none):SubM M ((n,t)::M):=λ k t' hk=>by
 rw [getMc,if_neg]
 ·exact hk
 ·intro e;subst e;rw [h] at hk;cases hk
theorem MemoOk.cons {s:Pg} {M:fS} (hM:MemoOk s M) {n h:Nat} {t:Part} {l:bT} {ps:List Nat} (h0:gO M n=none) (k:Known s ((n,t)::M) n t h l ps):MemoOk s ((n,t)::M):=λ m t' hm=>by
 rw [getMc] at hm;split at hm
 ·rename_i e;subst e;cases hm;exact ⟨h,l,ps,k⟩
 ·obtain ⟨h',l',ps',k'⟩:=hM m t' hm;exact ⟨h',l',ps',k'.sub (SubM.cons h0)⟩
def PartT (s:Pg) (h f:Nat):Prop:=∀ {n:Nat} {nd:Nd} {l:bT} {ps:List Nat} {M:fS},MemoOk s M→cB s n=some nd→Vt s h nd l ps→1≤aR nd →
  ∃ t M',lG s f n M=some (t,M')∧MemoOk s M'∧SubM M M'∧gO M' n=some t∧t.node=nd∧Known s M' n t h l ps∧∀ k t',gO M' k=some t'→(∃ t,gO M k=some t)∨k∈n::ps
theorem kids_tr {s:Pg} {h f:Nat} (hh:h+1≤15) (ih:PartT s h f) {nd:Nd} {ls:List Sb} (e3:ls.length=nd.keys.length+1) (e4:(toks ls nd.keys).Pairwise RT) (e8:∀ x∈ls,∃ nd',cB s x.page=some nd'∧4≤aR nd'∧Vt s h nd' x.its x.ps) :
  ∀ (rest done:List Sb) {M:fS} {t:Part},ls=done++rest→MemoOk s M→t.node=nd→(done≠[]→t.levels=h+2∧t.low=firstK (ls.flatMap (·.its))∧t.high=lastK (done.flatMap (·.its))) →
   ∃ t' M',mC (lG s f) nd (rest.map (·.page)) done.length t M=some (t',M')∧MemoOk s M'∧SubM M M'∧(∀ x∈rest,∃ tx,gO M' x.page=some tx∧Known s M' x.page tx h x.its x.ps)∧(∀ k t',gO M' k=some t'→(∃ t,gO M k=some t)∨k∈pgs rest) ∧
    t'.node=nd∧t'.levels=h+2∧t'.low=firstK (ls.flatMap (·.its))∧t'.high=lastK (ls.flatMap (·.its)):=by
 intro rest
 induction rest with
 | nil =>
  intro done M t e hM hn hd;rw [List.append_nil] at e;subst e;have hne:ls≠[]:=by intro e;subst e;cases e3
  obtain ⟨h1,h2,h3⟩:=hd hne;refine ⟨t,M,?_,hM,λ _ _ h=>h,(λ x hx=>by cases hx),λ k t' hk=>.inl ⟨t',hk⟩,hn,h1,h2,h3⟩;simp only [List.map_nil,mC];rw [if_neg oM]
 | cons x r ihr =>
  intro done M t e hM hn hd;obtain ⟨ndx,g1,g2,g3⟩:=e8 x (by rw [e];simp);obtain ⟨p,M1,q1,q2,q3,q4,q5,q6,q7⟩:=ih hM g1 g3 oM;have hxne:x.its≠[]:=g3.ne oM;have hlx:ls[done.length]? = some x:=by rw [e];simp
  let t1:Part:=if done.length=0 then ⟨nd,p.levels+1,p.low,p.high⟩ else ⟨nd,t.levels,t.low,p.high⟩
  have ht1:t1.node=nd∧t1.levels=h+2∧t1.low=firstK (ls.flatMap (·.its))∧t1.high=lastK ((done++[x]).flatMap (·.its)):=by
   have hhi:p.high=lastK ((done++[x]).flatMap (·.its)):=by
    rw [q6.high];simp only [List.flatMap_append,List.flatMap_cons,List.flatMap_nil,List.append_nil];exact (lastK_append hxne).symm
   simp only [t1];split
   ·rename_i h0;have hd0:done=[]:=List.eq_nil_of_length_eq_zero h0;refine ⟨rfl,by rw [q6.lv],?_,hhi⟩;rw [q6.low,e,hd0];simp only [List.nil_append,List.flatMap_cons];exact (firstK_append hxne).symm
   ·rename_i h0;obtain ⟨k1,k2,k3⟩:=hd (λ e=>h0 (by rw [e];rfl));exact ⟨rfl,k1,k2,hhi⟩
  obtain ⟨w1,w2,w3,w4⟩:=ht1;have hc1:¬ aR p.node<4:=by rw [q5];omega
  have hc2:(p.levels+1==t1.levels)=true:=by rw [w2,q6.lv];simp
  have hc3:(decide (0<done.length)&&decide (bW p.low (nd.keys.getD (done.length-1) [])<0))=false:=by
   by_cases h0:0<done.length
   ·have hk:done.length-1<nd.keys.length:=by
     have:done.length<ls.length:=by rw [e];simp
     omega
    have hkk:=List.getElem?_eq_getElem hk;have hrt:=(toks_adj e3 e4 (done.length-1) _ hkk).2 x (by rw [show done.length-1+1=done.length by omega];exact hlx);obtain ⟨y,hy,ey⟩:=firstK_mem hxne;have h1:=hrt y hy;rw [ey,← q6.low] at h1;rw [List.getD_eq_getElem?_getD,hkk];simp only [Option.getD_some,Bool.and_eq_false_iff,decide_eq_false_iff_not];right;exact h1
   ·simp [h0]
  have hc4:(decide (done.length<nd.keys.length)&&decide (0≤bW p.high (nd.keys.getD done.length [])))=false:=by
   by_cases h0:done.length<nd.keys.length
   ·have hkk:=List.getElem?_eq_getElem h0;have hrt:=(toks_adj e3 e4 done.length _ hkk).1 x hlx;obtain ⟨y,hy,ey⟩:=lastK_mem hxne;have h1:=hrt y hy;rw [ey,← q6.high] at h1;rw [List.getD_eq_getElem?_getD,hkk];simp only [Option.getD_some,Bool.and_eq_false_iff,decide_eq_false_iff_not];right;unfold eO at h1;omega
   ·simp [h0]
  obtain ⟨t',M',u1,u2,u3,u4,u5,u6⟩:=ihr (done++[x]) (M:=M1) (t:=t1) (by rw [e];simp) q2 w1 (λ _=>⟨w2,w3,w4⟩);refine ⟨t',M',?_,u2,λ k tk hk=>u3 k tk (q3 k tk hk),?_,?_,u6⟩
  ·simp only [List.map_cons,mC,q1];rw [if_neg]
   ·rw [List.length_append,List.length_cons,List.length_nil] at u1;exact u1
   ·have hc1':decide (aR p.node<4)=false:=decide_eq_false hc1;rw [show (p.levels+1==(if done.length=0 then (⟨nd,p.levels+1,p.low,p.high⟩:Part) else ⟨nd,t.levels,t.low,p.high⟩).levels)=true from hc2];rw [hc1',hc3,hc4];simp
  ·intro y hy;rcases List.mem_cons.1 hy with rfl|hy
   ·exact ⟨p,u3 _ _ q4,q6.sub u3⟩
   ·exact u4 y hy
  ·intro k tk hk;rcases u5 k tk hk with ⟨t2,ht2⟩|hk2
   ·rcases q7 k t2 ht2 with h1|h1
    ·exact .inl h1
    ·right;unfold pgs;simp only [List.flatMap_cons,List.mem_append];exact .inl h1
   ·right;unfold pgs at hk2 ⊢;simp only [List.flatMap_cons,List.mem_append];exact .inr hk2
theorem part_tr (s:Pg):∀ (h f:Nat),h<f→h≤15→PartT s h f:=by
 intro h
 induction h with
 | zero =>
  intro f hf h15 n nd l ps M hM hn hv hz
  cases hg:gO M n with
  | some t =>
   obtain ⟨k1,k2⟩:=hM.at_ hg hn hv;exact ⟨t,M,by unfold lG;rw [hg],hM,λ _ _ h=>h,hg,k1,k2,λ k t' hk=>.inl ⟨t',hk⟩⟩
  | none =>
   obtain ⟨f,rfl⟩:∃ g,f=g+1:=⟨f-1,oM⟩
   have hlf:=hv.leaf.2 rfl;obtain ⟨rfl,rfl,h3,h4⟩:=id hv
   have hkn:Known s ((n,fJ ⟨l,[],[]⟩)::M) n (fJ ⟨l,[],[]⟩) 0 l []:=by
    have hgg:gO ((n,fJ ⟨l,[],[]⟩)::M) n=some (fJ ⟨l,[],[]⟩):=by rw [getMc,if_pos rfl]
    exact ⟨hn,hv,hz,rfl,rfl,rfl,⟨_,hgg,(λ k hk=>by cases hk)⟩,(by rw [itemsP,hgg];simp [fJ]),(λ p hp=>by cases hp)⟩
   refine ⟨fJ ⟨l,[],[]⟩,(n,fJ ⟨l,[],[]⟩)::M,?_,hM.cons hg hkn,SubM.cons hg,by rw [getMc,if_pos rfl],rfl,hkn,λ k t' hk=>?_⟩
   ·unfold lG;rw [hg];simp only [hn];rw [if_pos hlf]
   ·rw [getMc] at hk;split at hk
    ·rename_i e;exact .inr (by simp [e])
    ·exact .inl ⟨t',hk⟩
 | succ h ih =>
  intro f hf h15 n nd l ps M hM hn hv hz
  cases hg:gO M n with
  | some t =>
   obtain ⟨k1,k2⟩:=hM.at_ hg hn hv;exact ⟨t,M,by unfold lG;rw [hg],hM,λ _ _ h=>h,hg,k1,k2,λ k t' hk=>.inl ⟨t',hk⟩⟩
  | none =>
   obtain ⟨f,rfl⟩:∃ g,f=g+1:=⟨f-1,oM⟩
   have hlf:¬ bN nd=true:=λ e=>by have:=hv.leaf.1 e;omega
   obtain ⟨ls,e1,e2,e3,e4,e5,e6,e7,e8⟩:=id hv;obtain ⟨t,M1,u1,u2,u3,u4,u5,u6,u7,u8,u9⟩:=kids_tr h15 (ih f oM oM) e3 e4 e8 ls [] (M:=M) (t:=⟨nd,0,[],[]⟩) rfl hM rfl (λ h=>absurd rfl h)
   have hn1:gO M1 n=none:=by
    cases hc:gO M1 n with
    | none=>rfl
    | some tc =>
     rcases u5 n tc hc with ⟨t2,h2⟩|h2
     ·rw [hg] at h2;cases h2
     ·have hnp:n∈ps:=by rw [e7];exact h2
      obtain ⟨h',nd',l',ps',k1,k2,k3⟩:=hv.below n hnp;rw [hn] at k2;cases k2;have:=hv.height k3;omega
   have hgg:gO ((n,t)::M1) n=some t:=by rw [getMc,if_pos rfl]
   have hsub:SubM M1 ((n,t)::M1):=SubM.cons hn1
   have hkn:Known s ((n,t)::M1) n t (h+1) l ps:=by
    refine ⟨by rw [u6];exact hn,by rw [u6];exact hv,by rw [u6];exact hz,u7,by rw [u8,e6],by rw [u9,e6],⟨t,hgg,λ k hk=>?_⟩,?_,λ p hp=>?_⟩
    ·rw [u6,e2] at hk;obtain ⟨x,hx,rfl⟩:=List.mem_map.1 hk;obtain ⟨tx,_,kx⟩:=u4 x hx;exact kx.deep.sub hsub
    ·rw [itemsP,hgg];simp only [u6,e1,List.nil_append,e2,e6];rw [List.flatMap_map]
     exact flatMap_same λ x hx=>by
      obtain ⟨tx,_,kx⟩:=u4 x hx;exact (itemsP_sub hsub kx.deep).trans kx.its
    ·rw [e7] at hp;obtain ⟨x,hx,hpx⟩:=List.mem_flatMap.1 hp;obtain ⟨tx,h1,kx⟩:=u4 x hx;rcases List.mem_cons.1 hpx with rfl|hpx
     ·exact ⟨tx,hsub _ _ h1⟩
     ·obtain ⟨tp,h2⟩:=kx.ps p hpx;exact ⟨tp,hsub _ _ h2⟩
   refine ⟨t,(n,t)::M1,?_,u2.cons hn1 hkn,λ k tk hk=>hsub k tk (u3 k tk hk),hgg,u6,hkn,λ k tk hk=>?_⟩
   ·unfold lG;rw [hg];simp only [hn];rw [if_neg hlf,e2];simp only [List.length_nil] at u1;rw [u1]
   ·rw [getMc] at hk;split at hk
    ·rename_i e;exact .inr (by simp [e])
    ·rcases u5 k tk hk with h1|h1
     ·exact .inl h1
     ·right;rw [e7];exact List.mem_cons_of_mem _ h1
end Go.Proofs.YtfpadnmdafiddaaGreatDoor
namespace Go.V
open Go Go.RowKit
structure AppTo (w:World) (v:Value) (w':World) (v':Value):Prop where
 by_:w.grownBy w' v.ownBlock
 new:∀ j,j<w.heap.size→v.ownBlock≠some j→v'.ownBlock≠some j
theorem AppTo.trans {w w1 w2:World} {v v1 v2:Value} (h:AppTo w v w1 v1) (k:AppTo w1 v1 w2 v2):AppTo w v w2 v2 :=
 ⟨⟨k.by_.os.trans h.by_.os,k.by_.tape.trans h.by_.tape,k.by_.output.trans h.by_.output,Nat.le_trans h.by_.size k.by_.size,λ j hj hne=>(k.by_.block j (Nat.lt_of_lt_of_le hj h.by_.size) (λ e=>h.new j hj (λ e2=>hne e2.symm) e.symm)).trans (h.by_.block j hj hne)⟩,
  λ j hj hne=>k.new j (Nat.lt_of_lt_of_le hj h.by_.size) (h.new j hj hne)⟩
theorem AppTo.grow {w w':World} (v:Value) (g:Grow w w'):AppTo w v w' v:=⟨⟨g.1.os,g.1.tape,g.1.output,g.2,λ k hk _=>g.block k hk⟩,λ _ _ h=>h⟩
theorem AppTo.upd {w0 w w':World} {v0 v:Value} {b:Nat} (h:AppTo w0 v0 w v) (u:Upd b w w') (hb:w0.heap.size≤b):AppTo w0 v0 w' v :=
 ⟨⟨u.os.trans h.by_.os,u.tape.trans h.by_.tape,u.output.trans h.by_.output,by rw [u.size];exact h.by_.size,λ k hk hne=>(u.block k oM).trans (h.by_.block k hk hne)⟩,h.new⟩
theorem AppTo.below {w w':World} {v v':Value} {B:Nat} (h:AppTo w v w' v') (hB:B≤w.heap.size) (hv:∀ j,v.ownBlock=some j→B≤j):Below B w w' :=
 ⟨h.by_.os,h.by_.tape,h.by_.output,h.by_.size,λ k hk=>h.by_.block k oM (λ e=>by have:=hv k e.symm;omega)⟩
theorem Carry.below {G:Nat→Prop} {w w':World} {B:Nat} (h:Below B w w') (hG:∀ k,G k→k<B):Carry G w G w':=⟨h.size,λ k hk _=>⟨hk,h.block k (hG k hk)⟩⟩
end Go.V
namespace Go.Proofs.YtfpadnmdafiddaaGreatDoor
open Go Go.RowKit Go.V
theorem nH (F:Nat→Prop) (v:Value) (l:Bs) (w:World) (hbs:BsAt F w v l) (hm:l.length≤100000) :
  Calls Tryz.prog 95 #[v] w (Ret λ u w'=>BsAt (λ k=>w.heap.size≤k) w' u l∧Grow w w'):=by
 obtain ⟨a,c,rfl,hs⟩:=hbs.sl;refine V.calls (args:=[_]) Tryz.func95 rfl Tryz.ntmps95 rfl rfl ?_
 cases a with
 | none =>
  have hrow:=hs.row;simp only [Row] at hrow;have hl0:l=[]:=by simpa [bB] using hrow
  subst hl0;repeat refine dF ?_
  exact bA rfl ⟨_,rfl,⟨_,_,_,rfl,by simp [bB],Nat.le_refl _,Nat.zero_le _,λ _=>rfl,by simp [Row,bB]⟩,yG⟩
 | some ad =>
  repeat (first|refine dF ?_|refine yI λ bk w' hg hbk hsz hsz'=>?_)
  refine lC rfl rfl (eL (base:=w.heap.size) hbk oM) (hs.grow yG) (bO l) oM oM rfl ?_;intro v w2 hown hg2;repeat refine dF ?_
  obtain ⟨a2,c2,rfl,hsl⟩:=aM hown;exact bA rfl ⟨_,rfl,⟨_,_,_,rfl,hsl.mono (λ k hk=>hk.1)⟩,yG⟩
structure ItsOwn (B:Nat) (w:World) (v:Value) (l:bT):Prop where
 ex:∃ cs,w.ownsRow B 58 2 v l.length cs∧ItCells (λ j=>B≤j∧v.ownBlock≠some j) w cs l
theorem ItsOwn.nil (B:Nat) (w:World):ItsOwn B w (.slice none 0 0) []:=⟨[],World.ownsRow_nil w B _ _,trivial⟩
theorem ItsOwn.grow {B:Nat} {w w':World} {v:Value} {l:bT} (h:ItsOwn B w v l) (g:Grow w w'):ItsOwn B w' v l:=by
 obtain ⟨cs,h1,h2⟩:=h.ex;exact ⟨cs,aS h1 g,h2.go (Carry.grow g)⟩
theorem ItsOwn.upd {B b:Nat} {w w':World} {v:Value} {l:bT} (h:ItsOwn B w v l) (u:Upd b w w') (hb:b<B):ItsOwn B w' v l:=by
 obtain ⟨cs,h1,h2⟩:=h.ex;exact ⟨cs,gA h1 u hb,h2.go (Carry.upd u λ k hk _=>by omega)⟩
theorem ItsOwn.lt {B:Nat} {w:World} {v:Value} {l:bT} (h:ItsOwn B w v l):∀ j,v.ownBlock=some j→B≤j∧j<w.heap.size:=by
 obtain ⟨cs,h1,h2⟩:=h.ex;exact h1.lt
def bsF {B:Nat} (B0:Nat) (l:Bs):SFact B:={ G:=λ v _ _ w=>BsAt (λ k=>B0≤k) w v l,st:=λ v _ _ w w' g h=>h.go (Carry.grow g) }
def itF {B:Nat} (B0:Nat) (x:Bs×Bs):SFact B:={ G:=λ v _ _ w=>∃ kv vv,v=.agg #[kv,vv]∧BsAt (λ k=>B0≤k) w kv x.1∧BsAt (λ k=>B0≤k) w vv x.2,st:=λ v _ _ w w' g h=>by obtain ⟨kv,vv,h0,h1,h2⟩:=h;exact ⟨kv,vv,h0,h1.go (Carry.grow g),h2.go (Carry.grow g)⟩ }
end Go.Proofs.YtfpadnmdafiddaaGreatDoor
namespace Go.V
open Go Go.RowKit Go.ChangeShapes Go.WideShapes Go.MapKept Go.ChangeMaps
def kH (l:List Nat):ByteArray:=strOfNums (l.map λ (b:Nat)=>(b:Int))
theorem txt_list (l:List Nat):(kH l).toList=l.map UInt8.ofNat:=by
 have h1:(kH l).data.toList=l.map UInt8.ofNat:=by
  rw [kH,strOfNums_data,List.map_map];apply List.map_congr_left;intro x _;simp
 rw [ByteArray.toList_eq,h1]
theorem txt_eq {l r:List Nat} (hl:∀ x∈l,x<256) (hr:∀ x∈r,x<256):((kH l).toList==(kH r).toList)=decide (l=r):=by
 rw [txt_list,txt_list];by_cases h:l=r
 ·subst h;simp
 ·rw [decide_eq_false h];apply Bool.eq_false_iff.2;intro hc;have he:=eq_of_beq hc;apply h
  have key:∀ (x:List Nat),(∀ b∈x,b<256)→(x.map UInt8.ofNat).map UInt8.toNat=x:=by
   intro x hx;rw [List.map_map];conv=>rhs;rw [← List.map_id x]
   apply List.map_congr_left;intro b hb;simp only [Function.comp,id];exact UInt8.toNat_ofNat_of_lt' (hx b hb)
  rw [← key l hl,← key r hr,he]
theorem txt_size (l:List Nat):(kH l).size=l.length:=by
 have:(kH l).data.toList.length=l.length:=by
  rw [kH,strOfNums_data];simp
 rw [← this];rfl
theorem txt_append (l r:List Nat):kH (l++r)=kH l++kH r:=by
 apply ByteArray.ext;apply Array.ext';rw [kH,strOfNums_data,ByteArray.data_append,Array.toList_append,kH,strOfNums_data,kH,strOfNums_data];simp
section
variable [Rn]
variable {P:Program} {n:Nat} {e:dJ} {w:World} {Q:dI} {ops:Array Oper} {rest:List Oper} {d:Nat} {ty:TypeId} {pos:String} {aft:Array Edge}
theorem StrTy.und {t:TypeId} (h:StrTy P t):P.underlying t=some .string:=by
 have h:=h.h;unfold strB at h;split at h
 ·assumption
 ·cases h
theorem run_convS {src dst el:TypeId} (hs:P.underlying src=some (.slice el)) (he:P.underlying el=some (.int .u8)) (hd:P.underlying dst=some .string) {F:Nat→Prop} {a:Option Addr} {m c:Nat} {l:List Nat} (h:Sl F w 1 a m c (l.map λ (b:Nat)=>Value.int .u8 (b:Int))) :
  (convert src dst (.slice a m c)).run P w=.ok (.string (kH l)) w:=by
 have hl:=h.len;simp only [List.length_map,Nat.mul_one] at hl
 cases a with
 | none =>
  have h0:=h.nil rfl;have h1:=h.cap;have:l=[]:=List.eq_nil_of_length_eq_zero oM;subst this;rw [run_convert_bytes_nil w src el hs he m c dst hd];rfl
 | some p =>
  obtain ⟨b,o,s⟩:=p;by_cases h0:l=[]
  ·subst h0;simp only [List.length_nil] at hl;subst hl;rw [run_convert_bytes_string w src dst el _ 0 c hs he hd,run_bytesToString w _ 0 c [] (by simp [Builtin.firstCells,loadCells,loadCellsFrom])];rfl
  ·have hr:=h.row (by simpa using h0);obtain ⟨hs0,_,_,hc⟩:=hr;simp only at hs0;subst hs0
   exact run_convert_bytes_arg w src el hs he b o m c (l.map λ (b:Nat)=>(b:Int)) (by simpa using hl) (λ i hi=>by
    have:=hc i (.int .u8 ((l.getD i 0:Nat):Int)) (by simp [List.getElem?_eq_getElem (show i<l.length by omega)]);rw [this]
    simp [List.getElem?_eq_getElem (show i<l.length by omega)]) dst hd
theorem gG {src dst el size bytes:TypeId} {x:Operand} {F:Nat→Prop} {a:Option Addr} {m c:Nat} {l:List Nat} [ht:SliceTy P src el size bytes] [he:IntTy P el .u8] [hs:StrTy P dst]
  (hx:val e x=some (.slice a m c)) (h:Sl F w 1 a m c (l.map λ (b:Nat)=>Value.int .u8 (b:Int))) (hd:Nat.blt d n=true)
  (k:TL P n ops rest ((d,.string (kH l))::e) w Q):TL P n ops (⟨some d,.convert src dst x,ty,pos,aft,none⟩::rest) e w Q :=
 TL.run (λ r hr=>by simp [execOp,hr.eval hx,run_convS ht.und he.und hs.und h]) hd k
theorem TL.neS {x y:Operand} {s t:ByteArray} {t1 t2:TypeId} {b:Bool} (hx:val e x=some (.string s)) (hy:val e y=some (.string t)) (h:(!(s.toList==t.toList))=b) (hd:Nat.blt d n=true)
  (k:TL P n ops rest ((d,.bool b)::e) w Q):TL P n ops (⟨some d,.binOp .neq t1 x y t2,ty,pos,aft,none⟩::rest) e w Q :=
 TL.run (λ r hr=>by
  have hg:eqGuard .neq t1 x y (.string s) (.string t)=Pure.pure ():=rfl;simp only [execOp,hr.eval hx,hr.eval hy,hg]
  simp [binOp,Op.stringOp,← h]) hd k
theorem TL.eqS {x y:Operand} {s t:ByteArray} {t1 t2:TypeId} {b:Bool} (hx:val e x=some (.string s)) (hy:val e y=some (.string t)) (h:(s.toList==t.toList)=b) (hd:Nat.blt d n=true)
  (k:TL P n ops rest ((d,.bool b)::e) w Q):TL P n ops (⟨some d,.binOp .eql t1 x y t2,ty,pos,aft,none⟩::rest) e w Q :=
 TL.run (λ r hr=>by
  have hg:eqGuard .eql t1 x y (.string s) (.string t)=Pure.pure ():=rfl;simp only [execOp,hr.eval hx,hr.eval hy,hg]
  simp [binOp,Op.stringOp,← h]) hd k
theorem TL.addS {x y:Operand} {l r:List Nat} {t1 t2:TypeId} (hx:val e x=some (.string (kH l))) (hy:val e y=some (.string (kH r))) (h:l.length+r.length≤1000000) (hd:Nat.blt d n=true)
  (k:TL P n ops rest ((d,.string (kH (l++r)))::e) w Q):TL P n ops (⟨some d,.binOp .add t1 x y t2,ty,pos,aft,none⟩::rest) e w Q :=
 TL.run (λ q hr=>by
  have hg:eqGuard .add t1 x y (.string (kH l)) (.string (kH r))=Pure.pure ():=rfl;simp only [execOp,hr.eval hx,hr.eval hy,hg]
  have h1:¬ ((((kH l).size+(kH r).size:Nat):Int) > IntKind.i64.max):=by
   rw [txt_size,txt_size];simp [IntKind.max,IntKind.bits,IntKind.signed];omega
  simp [binOp,Op.stringOp,txt_append,txt_size]
  omega) hd k
end
class KeyIs {α : Type} (P:Program) (kt:TypeId) (κ : α→Value) (ok : α→Prop):Prop where
 keyed:Maps.Keyed P kt
 key:∀ a,ok a→∃ l,keyOf P kt (κ a)=some l
 inj:∀ a b,ok a→ok b→κ a = κ b→a=b
def MapG {α : Type} (κ : α→Value) (ok : α→Prop) (w:World) (m:Nat) (f : α→Option Value):Prop:=∃ es clock,w.heap[m]? = some (.map es clock)∧(∀ x∈es.toList,∃ n : α,ok n∧x.key = κ n∧f n=some x.val) ∧
 (∀ n v,f n=some v→ok n∧∃ x∈es.toList,x.key = κ n)∧es.toList.Pairwise λ x y=>x.key≠y.key
section
variable [Rn]
variable {P:Program} {n:Nat} {e:dJ} {w w':World} {Q:dI} {ops:Array Oper} {rest:List Oper} {d:Nat} {ty:TypeId} {pos:String} {aft:Array Edge} {α : Type} {κ : α→Value} {ok : α→Prop}
theorem MapG.lt {m:Nat} {f : α→Option Value} (h:MapG κ ok w m f):m<w.heap.size:=by
 obtain ⟨es,c,h1,_⟩:=h;exact (Array.getElem?_eq_some_iff.1 h1).1
theorem MapG.keep {m:Nat} {f : α→Option Value} (h:MapG κ ok w m f) (hk:w'.heap[m]? = w.heap[m]?):MapG κ ok w' m f:=by
 obtain ⟨es,c,h1,h2⟩:=h;exact ⟨es,c,by rw [hk];exact h1,h2⟩
theorem MapG.grow {m:Nat} {f : α→Option Value} (g:Grow w w') (h:MapG κ ok w m f):MapG κ ok w' m f:=h.keep (g.block m h.lt)
theorem MapG.find {kt m:Nat} (ht:KeyIs P kt κ ok) {f : α→Option Value} (h:MapG κ ok w m f) {k : α} (hk:ok k) :
  ∃ es c,w.heap[m]? = some (.map es c)∧(match f k with
   | none=>(Instr.findKey kt (κ k) es.toList).run P w=.ok none w∧∀ x∈es.toList,x.key≠κ k
   | some v=>∃ j e0,(Instr.findKey kt (κ k) es.toList).run P w=.ok (some (j,v)) w∧es.toList[j]? = some e0∧e0.key = κ k) ∧
   (∀ x∈es.toList,∃ n : α,ok n∧x.key = κ n∧f n=some x.val)∧(∀ n v,f n=some v→ok n∧∃ x∈es.toList,x.key = κ n)∧es.toList.Pairwise λ x y=>x.key≠y.key:=by
 obtain ⟨es,c,h1,h2,h3,h5⟩:=h;refine ⟨es,c,h1,?_,h2,h3,h5⟩
 have hkeys:∀ u∈es.toList,∃ l,keyOf P kt u.key=some l:=λ u hu=>by
  obtain ⟨n,hn,e1,_⟩:=h2 u hu;rw [e1];exact ht.key n hn
 rcases ht.keyed.find w (ht.key k hk).choose_spec es.toList hkeys with ⟨g1,g2⟩|⟨j,e0,g1,g2,g3⟩
 ·cases hf:f k with
  | none=>exact ⟨g1,g2⟩
  | some v=>obtain ⟨_,x,hx,e⟩:=h3 k v hf;exact absurd e (g2 x hx)
 ·obtain ⟨n,hn,e1,e2⟩:=h2 e0 (List.mem_of_getElem? g2);rw [g3] at e1;have hnk:n=k:=ht.inj _ _ hn hk e1.symm;subst hnk;rw [e2];exact ⟨j,e0,g1,g2,g3⟩
def upG [DecidableEq α] (f : α→Option Value) (k : α) (u:Value) : α→Option Value:=λ j=>if j=k then some u else f j
end
def okS (l:List Nat):Prop:=(∀ x∈l,x<256)∧l.length≤1000000
def keyS (l:List Nat):Value:=.string (kH l)
end Go.V
namespace Go.Proofs.YtfpadnmdafiddaaGreatDoor
open Go Go.RowKit Go.V
theorem spare_pg0 (c:Nat):cR (pg0 c)=c:=by
 have:fQ (pg0 c)=0:=by
  unfold fQ;rw [List.length_eq_zero_iff,List.filter_eq_nil_iff];intro n _;rw [nJ];simp
 unfold cR;rw [this];rfl
structure PgW (w:World) (L:PL) (g:Pg):Prop where
 at_:PgAt w L g
 tab:TabAt w
 ne0:¬ L.S 0
theorem PgW.grow {w w':World} {L:PL} {g:Pg} (h:PgW w L g) (gr:Grow w w'):PgW w' L g:=⟨h.at_.grow gr,h.tab.keep (gr.block 0 h.tab.1) gr.size,h.ne0⟩
theorem PgW.put {w w':World} {L:PL} {g g':Pg} (h:PgW w L g) (ha:PgAt w' L g') (b:ButS L.S w w'):PgW w' L g':=⟨ha,h.tab.buts b h.ne0,h.ne0⟩
def ActCells (F:Nat→Prop) (w:World):List Value→List (Int×Bs×Bs)→Prop
 | [],[]=>True
 | v1::v2::v3::cs,a::l=>(v1=.int .i64 a.1∧BsAt F w v2 a.2.1∧BsAt F w v3 a.2.2)∧ActCells F w cs l
 | _,_=>False
theorem ActCells.go {F F':Nat→Prop} {w w':World} (g:Carry F w F' w'):∀ {cs:List Value} {l:List (Int×Bs×Bs)},ActCells F w cs l→ActCells F' w' cs l
 | [],[],_=>trivial
 | [],_::_,h=>h.elim
 | _::_,[],h=>by
  rename_i v cs
  match cs,h with
  | [],h=>exact h.elim
  | [_],h=>exact h.elim
  | _::_::_,h=>exact h.elim
 | [_],_::_,h=>h.elim
 | [_,_],_::_,h=>h.elim
 | _::_::_::_,_::_,⟨⟨h1,h2,h3⟩,h6⟩=>⟨⟨h1,h2.go g,h3.go g⟩,ActCells.go g h6⟩
theorem ActCells.at' {F:Nat→Prop} {w:World}:∀ {l:List (Int×Bs×Bs)} {cs:List Value} {i:Nat} {x:Int×Bs×Bs},ActCells F w cs l→l[i]? = some x→∃ k v,cs[i*3]? = some (.int .i64 x.1)∧cs[i*3+1]? = some k∧cs[i*3+2]? = some v∧BsAt F w k x.2.1∧BsAt F w v x.2.2
 | [],_,i,nd,_,hx=>by simp at hx
 | _::_,[],_,_,h,_=>h.elim
 | _::_,[_],_,_,h,_=>h.elim
 | _::_,[_,_],_,_,h,_=>h.elim
 | y::l,v1::v2::v3::cs,0,x,⟨⟨h1,h2,h3⟩,_⟩,hx=>by
  simp only [List.getElem?_cons_zero,Option.some.injEq] at hx;subst hx;exact ⟨v2,v3,by simp [h1],rfl,rfl,h2,h3⟩
 | y::l,v1::v2::v3::cs,i+1,x,⟨_,h⟩,hx=>by
  obtain ⟨k,v,h1,h2,h3,h4⟩:=ActCells.at' h (by simpa using hx);refine ⟨k,v,?_,?_,?_,h4⟩
  ·rw [show (i+1)*3=i*3+1+1+1 by omega];simpa using h1
  ·rw [show (i+1)*3+1=i*3+1+1+1+1 by omega];simpa using h2
  ·rw [show (i+1)*3+2=i*3+2+1+1+1 by omega];simpa using h3
end Go.Proofs.YtfpadnmdafiddaaGreatDoor
namespace Go.Proofs.YtfpadnmdafiddaaGreatDoor
theorem insI_iff {key v:Bs} {y:Bs×Bs}:∀ {l:bT},Srt l→(y∈gW key v l↔y=(key,v)∨(y∈l∧y.1≠key))
 | [],_=>by simp [gW]
 | x::l,h=>by
  obtain ⟨h1,h2⟩:=List.pairwise_cons.1 h;have ih:=insI_iff (key:=key) (v:=v) (y:=y) h2;unfold gW;by_cases hx:eO x.1 key
  ·rw [if_pos hx,List.mem_cons,ih,List.mem_cons];have hne:x.1≠key:=λ e=>eI key (by rw [e] at hx;exact hx);constructor
   ·rintro (rfl|h|⟨h,h'⟩)
    ·exact .inr ⟨.inl rfl,hne⟩
    ·exact .inl h
    ·exact .inr ⟨.inr h,h'⟩
   ·rintro (h|⟨h|h,h'⟩)
    ·exact .inr (.inl h)
    ·exact .inl h
    ·exact .inr (.inr ⟨h,h'⟩)
  ·rw [if_neg hx];by_cases he:x.1=key
   ·rw [if_pos he,List.mem_cons,List.mem_cons]
    have hl:∀ z∈l,z.1≠key:=λ z hz e=>by
     have:=h1 z hz;rw [he,e] at this;exact eI _ this
    constructor
    ·rintro (h|h)
     ·exact .inl h
     ·exact .inr ⟨.inr h,hl y h⟩
    ·rintro (h|⟨rfl|h,h'⟩)
     ·exact .inl h
     ·exact absurd he h'
     ·exact .inr h
   ·rw [if_neg he,List.mem_cons,List.mem_cons]
    have hk:eO key x.1:=by
     rcases klt_or key x.1 with g|g|g
     ·exact g
     ·exact absurd g.symm he
     ·exact absurd g hx
    have hl:∀ z∈l,z.1≠key:=λ z hz e=>by
     have:=dK hk (h1 z hz);rw [e] at this;exact eI _ this
    constructor
    ·rintro (h|h|h)
     ·exact .inl h
     ·subst h;exact .inr ⟨.inl rfl,he⟩
     ·exact .inr ⟨.inr h,hl y h⟩
    ·rintro (h|⟨h,h'⟩)
     ·exact .inl h
     ·exact .inr h
end Go.Proofs.YtfpadnmdafiddaaGreatDoor
namespace Go.Proofs.YtfpadnmdafiddaaGreatDoor
open Go Go.RowKit Go.V
theorem PgW.other {w w':World} {L:PL} {g:Pg} {S:Nat→Prop} (h:PgW w L g) (b:ButS S w w') (hL:∀ k,k=L.p∨k=L.d∨k=L.u∨k=L.m→¬ S k) (h0:¬ S 0):PgW w' L g :=
 ⟨h.at_.keep (λ k hk=>b.block k (by have:=h.at_.lts;omega) (hL k hk)),h.tab.buts b h0,h.ne0⟩
theorem ButS.sub {S S':Nat→Prop} {w w':World} (h:ButS S w w') (hs:∀ k,S k→S' k):ButS S' w w':=⟨h.os,h.tape,h.output,h.size,λ k hk hn=>h.block k hk λ e=>hn (hs k e)⟩
theorem iE {S:Nat→Prop} {w w0 w1:World} (hg:Grow w w0) (h:ButS S w0 w1) (hm:∀ k,S k→w.heap.size≤k):Grow w w1 :=
 ⟨⟨h.os.trans hg.1.os,h.tape.trans hg.1.tape,h.output.trans hg.1.output,by have:=hg.2;have:=h.size;omega,λ k hk=>(h.block k (by have:=hg.2;omega) (λ e=>by have:=hm k e;omega)).trans (hg.block k hk)⟩,by have:=hg.2;have:=h.size;omega⟩
end Go.Proofs.YtfpadnmdafiddaaGreatDoor
namespace Go.Proofs.YtfpadnmdafiddaaGreatDoor
open Go Go.RowKit Go.V Go.ChangeShapes Go.WideShapes Go.ChangeAt
set_option maxRecDepth 100000
theorem tab_laid {W:World} {name:String} {zs:List Int} (hz:zs=tabB.map λ (x:Nat)=>(x:Int)) (hg:(Tryz.prog).globalNamed name=some 0) (hty:((Tryz.prog).globals[0]?).map (·.type)=some 238) (h:laidMet Tryz.prog [(name,Lib.tabData .u8 zs)] W):TabAt W:=by
 have hT:=Lib.tabIs_of_head hg hty Tryz.underlying238 Tryz.underlying5 kR kR h
 obtain ⟨arr,t,fr,hb,ha⟩:∃ arr t fr,W.heap[0]? = some (.cells arr t fr)∧arr=(zs.map λ z=>Value.int .u8 z).toArray:=by
  unfold Lib.TabIs World.var? at hT;rw [hg] at hT;simp only [Option.bind_some] at hT;split at hT
  ·rename_i cs t fr hb;exact ⟨cs,t,fr,hb,Option.some.inj hT⟩
  ·cases hT
 refine ⟨(Array.getElem?_eq_some_iff.1 hb).1,λ j x hj=>?_⟩;simp only [World.cell?,hb];rw [ha,hz];simp [hj]
section
variable {H:Type} {enc:TypeId×Value→H} {P:Program} {W:World}
theorem flat_len {L:List (List Value)} {sz:Nat} (h:∀ x∈L,x.length=sz):L.flatten.length=L.length*sz:=by
 induction L with
 | nil=>simp
 | cons x r ih =>
  rw [List.flatten_cons,List.length_append,ih λ y hy=>h y (List.mem_cons_of_mem _ hy),h x sM,List.length_cons,Nat.add_mul];omega
theorem flat_at {sz:Nat}:∀ {L:List (List Value)} {i r:Nat} {x:List Value},(∀ x∈L,x.length=sz)→L[i]? = some x→r<sz→L.flatten[i*sz+r]? = x[r]?
 | [],i,r,x,_,hx,_=>by simp at hx
 | y::L,0,r,x,h,hx,hr=>by
  simp only [List.getElem?_cons_zero,Option.some.injEq] at hx;subst hx;rw [List.flatten_cons,List.getElem?_append_left (by rw [h y sM];omega)];simp
 | y::L,i+1,r,x,h,hx,hr=>by
  rw [List.flatten_cons,List.getElem?_append_right (by rw [h y sM,Nat.add_mul];omega),h y sM,show (i+1)*sz+r-sz=i*sz+r by rw [Nat.add_mul];omega];exact flat_at (λ z hz=>h z (List.mem_cons_of_mem _ hz)) (by simpa using hx) hr
theorem sls_in {t e:TypeId} {sz fuel:Nat} {c:Value} {x:DataW H×List MemPlace} (ht:P.underlying t=some (.slice e)) (hc:P.cellsOf e=sz) (h0:0<sz) (h:DataW.trod enc P W 0 (λ _=>true) true fuel t [c]=some x) :
  ∃ (a:Option Addr) (n m:Nat) (css:List (List Value)),c=.slice a n m∧css.length=n∧Sl (λ k=>k<W.heap.size) W sz a n m css.flatten∧∀ q∈css,q.length=sz∧∃ f y,DataW.trod enc P W 0 (λ _=>true) true f e q=some y:=by
 rcases DataW.trod_slice ht h with ⟨hcs,_⟩|⟨p,len,cap,elems,rest,n,_,hcs,_,hb,hl,hm,hlen,hel,_,_⟩
 ·simp only [List.cons.injEq,and_true] at hcs;subst hcs;exact ⟨none,0,0,[],rfl,rfl,Sl.nil_mk _ _ _,sM⟩
 ·simp only [List.cons.injEq,and_true] at hcs;subst hcs
  have each:∀ i,i<len→∃ q y,W.cells? 0 (p.add (i*sz)) sz=some q∧DataW.trod enc P W 0 (λ _=>true) true n e q=some y:=λ i hi=>by
   have h1:=hel i hi;rw [hc,List.getElem?_eq_getElem oM,Option.bind_eq_some_iff] at h1;obtain ⟨q,h2,h3⟩:=h1;exact ⟨q,_,h2,h3⟩
  have hat:∀ i,i<len→((List.range len).map λ i=>(W.cells? 0 (p.add (i*sz)) sz).getD [])[i]? = W.cells? 0 (p.add (i*sz)) sz:=λ i hi=>by
   obtain ⟨q,y,h1,_⟩:=each i hi;rw [List.getElem?_map,List.getElem?_range hi,Option.map_some,h1];rfl
  have hall:∀ q∈(List.range len).map (λ i=>(W.cells? 0 (p.add (i*sz)) sz).getD []),q.length=sz∧∃ f y,DataW.trod enc P W 0 (λ _=>true) true f e q=some y:=λ q hq=>by
   obtain ⟨i,hi,rfl⟩:=List.mem_map.1 hq;obtain ⟨q,y,h1,h2⟩:=each i (List.mem_range.1 hi);rw [h1];exact ⟨(World.cells?_some h1).2.1,n,y,h2⟩
  refine ⟨some p,len,cap,(List.range len).map λ i=>(W.cells? 0 (p.add (i*sz)) sz).getD [],rfl,sM,⟨by rw [flat_len λ q hq=>(hall q hq).1];simp,hl,hm,(λ h=>by cases h),λ hn=>?_⟩,hall⟩
  have hpos:0<len:=by
   rcases Nat.eq_zero_or_pos len with h|h
   ·subst h;simp at hn
   ·exact h
  obtain ⟨q,y,h1,_⟩:=each 0 hpos;have h2:=(World.cells?_some h1).2.2 0 h0;have hq0:0<q.length:=by rw [(World.cells?_some h1).2.1];exact h0
  rw [List.getElem?_eq_getElem hq0,Nat.zero_mul,show (p.add 0).add 0=p from rfl] at h2;have hs:p.spot=none:=World.cell?_spot h2;obtain ⟨b,o,s⟩:=p;simp only at hs;subst hs;have hblt:=World.block_lt_of_cell? W _ h2;simp only at hblt
  have hcell:∀ i r v,i<len→r<sz→(((List.range len).map λ i=>(W.cells? 0 ((⟨b,o,none⟩:Addr).add (i*sz)) sz).getD []).flatten)[i*sz+r]? = some v→W.cell? ⟨b,o+(i*sz+r),none⟩=some v:=λ i r v hi hr hv=>by
   obtain ⟨q,y,h1,_⟩:=each i hi;rw [flat_at (λ q hq=>(hall q hq).1) ((hat i hi).trans h1) hr] at hv;have h2:=(World.cells?_some h1).2.2 r hr;rw [← hv,← h2,Addr.add_lit,Addr.add_lit,Nat.add_assoc]
  refine ⟨rfl,hblt,hblt,λ j v hj=>?_⟩;have hjl:=(List.getElem?_eq_some_iff.1 hj).1;rw [flat_len λ q hq=>(hall q hq).1,List.length_map,List.length_range] at hjl;have:=hcell (j / sz) (j%sz) v (Nat.div_lt_of_lt_mul (by rw [Nat.mul_comm];exact hjl)) (Nat.mod_lt _ h0) (by rw [Nat.mul_comm,Nat.div_add_mod];exact hj);rw [Nat.mul_comm,Nat.div_add_mod] at this;exact this
theorem bytes_in:∀ (l:List Int),(∀ z∈l,(Lit.int .u8 z).wf=true)→∃ r:List Nat,l.map (Value.int .u8)=bB r∧∀ x∈r,x<256
 | [],_=>⟨[],rfl,sM⟩
 | z::l,h=>by
  obtain ⟨r,h1,h2⟩:=bytes_in l (λ y hy=>h y (List.mem_cons_of_mem _ hy));have hz:=h z sM;have hz2:0≤z∧z≤255:=by simpa [Lit.wf,IntKind.min,IntKind.max,IntKind.signed,IntKind.bits] using hz
  refine ⟨z.toNat::r,?_,?_⟩
  ·simp only [List.map_cons,bB,h1];congr 2
   omega
  ·intro x hx;rcases List.mem_cons.1 hx with rfl|hx
   ·omega
   ·exact h2 x hx
theorem bs_in {t e:TypeId} {fuel:Nat} {c:Value} {x:DataW H×List MemPlace} (ht:P.underlying t=some (.slice e)) (he:P.underlying e=some (.int .u8)) (hc:P.cellsOf e=1) (h:DataW.trod enc P W 0 (λ _=>true) true fuel t [c]=some x) :
  ∃ b,BsAt (λ k=>k<W.heap.size) W c b∧eZ b:=by
 obtain ⟨a,n,m,zs,rfl,hs,hz⟩:=sl_in ht he hc h;obtain ⟨r,h1,h2⟩:=bytes_in zs hz;rw [h1] at hs;exact ⟨r,⟨a,n,m,rfl,hs⟩,h2⟩
end
set_option maxRecDepth 100000
theorem its_in {H:Type} {enc:TypeId×Value→H} {W:World}:∀ {css:List (List Value)},(∀ q∈css,q.length=2∧∃ f y,DataW.trod enc Tryz.prog W 0 (λ _=>true) true f 58 q=some y) →
  ∃ l:bT,ItCells (λ k=>k<W.heap.size) W css.flatten l∧l.length=css.length∧∀ x∈l,eZ x.1∧eZ x.2
 | [],_=>⟨[],trivial,rfl,sM⟩
 | q::css,h=>by
  obtain ⟨l,h1,h2,h3⟩:=its_in (λ y hy=>h y (List.mem_cons_of_mem _ hy));obtain ⟨hq,f,y,hy⟩:=h q sM
  match q,hq with
  | [c1,c2],_ =>
   obtain ⟨xs,n,_,_,_,hxl,hat⟩:=DataW.trod_struct Tryz.underlying58 hy;have e1:=hat 0 _ rfl;have e2:=hat 1 _ rfl;have hxl2:xs.length=2:=hxl;rw [List.getElem?_eq_getElem oM] at e1 e2;obtain ⟨b1,hb1,hy1⟩:=bs_in (c:=c1) Tryz.underlying30 Tryz.underlying5 kR e1;obtain ⟨b2,hb2,hy2⟩:=bs_in (c:=c2) Tryz.underlying30 Tryz.underlying5 kR e2;refine ⟨(b1,b2)::l,⟨hb1,hb2,h1⟩,by simp [h2],λ x hx=>?_⟩;rcases List.mem_cons.1 hx with rfl|hx
   ·exact ⟨hy1,hy2⟩
   ·exact h3 x hx
section
variable {H:Type} {enc:TypeId×Value→H} {P:Program} {w:World}
theorem cells_in {r:Reach} {b0:Nat} {t e:TypeId} {v:Value} {d:DataW H} {ps:List MemPlace} (ht:P.underlying t=some (.slice e)) (hval:Value.okWide P w r b0 t v) (hd:DataW.Trod enc P w 0 (λ _=>true) true t v d ps) :
  ∃ fuel,DataW.trod enc P w 0 (λ _=>true) true fuel t [v]=some (d,ps):=by
 obtain ⟨fuel,hf⟩:=hd;refine ⟨fuel,?_⟩
 have:v.cells.toList=[v]:=by
  simp only [Value.okWide,ht,Cell.okWide] at hval;cases v<;>simp_all [Cell.ok,Value.cells]
 rwa [this] at hf
end
theorem key_in {H:Type} {enc:TypeId×Value→H} {W:World} {b0:Nat} {v:Value} {d:DataW H} {ps:List MemPlace} (hval:Value.okWide Tryz.prog W .any b0 30 v) (hd:DataW.Trod enc Tryz.prog W 0 (λ _=>true) true 30 v d ps) :
  ∃ a c b,v=.slice a b.length c∧Sl (λ k=>k<W.heap.size) W 1 a b.length c (bB b)∧eZ b:=by
 obtain ⟨fu,hy⟩:=cells_in Tryz.underlying30 hval hd;obtain ⟨b,hb,hyb⟩:=bs_in (c:=v) Tryz.underlying30 Tryz.underlying5 kR hy;obtain ⟨a,c,rfl,hs⟩:=hb.sl;exact ⟨a,c,b,rfl,hs,hyb⟩
theorem items_in {H:Type} {enc:TypeId×Value→H} {W:World} {b0:Nat} {v:Value} {d:DataW H} {ps:List MemPlace} (hval:Value.okWide Tryz.prog W .any b0 54 v) (hd:DataW.Trod enc Tryz.prog W 0 (λ _=>true) true 54 v d ps) :
  ∃ a n c l,v=.slice a n c∧ItsAt (λ k=>k<W.heap.size) W a n c l∧∀ x∈l,eZ x.1∧eZ x.2:=by
 obtain ⟨fu,hy⟩:=cells_in Tryz.underlying54 hval hd;obtain ⟨a,n,c,css,rfl,hcl,hs,hcs⟩:=sls_in (sz:=2) Tryz.underlying54 kR oM hy;obtain ⟨l,h1,h2,h3⟩:=its_in hcs;exact ⟨a,n,c,l,rfl,⟨_,hs,h1⟩,h3⟩
theorem span_in {H:Type} {enc:TypeId×Value→H} {W:World} {b0:Nat} {v:Value} {d:DataW H} {ps:List MemPlace} (hval:Value.okWide Tryz.prog W .any b0 92 v) (hd:DataW.Trod enc Tryz.prog W 0 (λ _=>true) true 92 v d ps) :
  ∃ fa fc fr ta tc to back most,v=.agg #[.slice fa fr.length fc,.slice ta to.length tc,.bool back,.int .i64 most]∧Sl (λ k=>k<W.heap.size) W 1 fa fr.length fc (bB fr)∧Sl (λ k=>k<W.heap.size) W 1 ta to.length tc (bB to)∧eZ fr∧eZ to∧(-9223372036854775808≤most∧most≤9223372036854775807):=by
 obtain ⟨fuel,hf⟩:=hd;unfold Value.okWide at hval;rw [Tryz.underlying92] at hval;obtain ⟨cs,rfl,hn,_⟩:=hval;obtain ⟨cs⟩:=cs
 have hn4:cs.length=4:=by
  have h4:(Tryz.prog).cellsOf 92=4:=by kernel_rfl
  rw [h4] at hn;simpa using hn
 have hf:DataW.trod enc Tryz.prog W 0 (λ _=>true) true fuel 92 cs=some (d,ps):=hf
 match cs,hn4 with
 | [c0,c1,c2,c3],_ =>
  obtain ⟨xs,n,_,_,_,hxl,hat⟩:=DataW.trod_struct Tryz.underlying92 hf;have e0:=hat 0 _ rfl;have e1:=hat 1 _ rfl;have e2:=hat 2 _ rfl;have e3:=hat 3 _ rfl;have hxl4:xs.length=4:=hxl;rw [List.getElem?_eq_getElem oM] at e0 e1 e2 e3;obtain ⟨fr,h0,hy0⟩:=bs_in (c:=c0) Tryz.underlying30 Tryz.underlying5 kR e0;obtain ⟨to,h1,hy1⟩:=bs_in (c:=c1) Tryz.underlying30 Tryz.underlying5 kR e1;obtain ⟨b,eb,_⟩:=DataW.trod_bool Tryz.underlying4 e2;obtain ⟨k,ek,_,hw⟩:=DataW.trod_int Tryz.underlying3 e3;obtain ⟨fa,fc,rfl,s0⟩:=h0.sl;obtain ⟨ta,tc,rfl,s1⟩:=h1.sl
  have eb2:c2=.bool b:=by
   have:[c2]=[Value.bool b]:=eb;simpa using this
  have ek2:c3=.int .i64 k:=by
   have:[c3]=[Value.int .i64 k]:=ek;simpa using this
  have hk : -9223372036854775808≤k∧k≤9223372036854775807:=by simpa [Lit.wf,IntKind.min,IntKind.max,IntKind.signed,IntKind.bits] using hw
  subst eb2;subst ek2;exact ⟨fa,fc,fr,ta,tc,to,b,k,rfl,s0,s1,hy0,hy1,hk⟩
end Go.Proofs.YtfpadnmdafiddaaGreatDoor
namespace Go.V
open Go Go.RowKit Go.ChangeShapes Go.WideShapes Go.MapKept Go.ChangeMaps
theorem nodup_leG {α : Type} [DecidableEq α]:∀ {l r:List α},l.Nodup→(∀ x∈l,x∈r)→l.length≤r.length
 | [],r,_,_=>Nat.zero_le _
 | x::l,r,h,hs=>by
  obtain ⟨h1,h2⟩:=List.nodup_cons.1 h;have hx:=hs x sM;have:=nodup_leG (l:=l) (r:=r.erase x) h2 λ y hy=>(List.mem_erase_of_ne (λ e=>h1 (by rw [← e];exact hy))).2 (hs y (List.mem_cons_of_mem _ hy));rw [List.length_erase_of_mem hx] at this;have hp:=List.length_pos_of_mem hx;rw [List.length_cons];omega
theorem keysG {α : Type} {κ : α→Value} {ok : α→Prop} {f : α→Option Value}:∀ {es:List MapEntry},(∀ x∈es,∃ n : α,ok n∧x.key = κ n∧f n=some x.val)→∃ ks:List α,es.map (·.key)=ks.map κ∧∀ k∈ks,ok k∧∃ v,f k=some v
 | [],_=>⟨[],rfl,sM⟩
 | x::es,h=>by
  obtain ⟨n,h1,h2,h3⟩:=h x sM;obtain ⟨ks,k1,k2⟩:=keysG (es:=es) λ y hy=>h y (List.mem_cons_of_mem _ hy);refine ⟨n::ks,by simp [h2,k1],λ k hk=>?_⟩;rcases List.mem_cons.1 hk with rfl|hk
  ·exact ⟨h1,_,h3⟩
  ·exact k2 k hk
section
variable [Rn]
variable {P:Program} {n:Nat} {e:dJ} {w w':World} {Q:dI} {ops:Array Oper} {rest:List Oper} {d:Nat} {ty:TypeId} {pos:String} {aft:Array Edge} {α : Type} {κ : α→Value} {ok : α→Prop}
theorem MapG.size [DecidableEq α] {m:Nat} {f : α→Option Value} (h:MapG κ ok w m f) (inj:∀ a b,ok a→ok b→κ a = κ b→a=b) {ks:List α} (hnd:ks.Nodup) (hk:∀ k,(∃ v,f k=some v)↔k∈ks):∃ es c,w.heap[m]? = some (.map es c)∧es.size=ks.length:=by
 obtain ⟨es,c,h1,h2,h3,h4⟩:=h;refine ⟨es,c,h1,?_⟩;obtain ⟨ns,n1,n2⟩:=keysG h2
 have hnn:ns.Nodup:=by
  have h5:(es.toList.map (·.key)).Pairwise (·≠·):=List.pairwise_map.2 h4;rw [n1] at h5;exact (List.pairwise_map.1 h5).imp λ h e=>h (by rw [e])
 have hl:es.size=ns.length:=by have:=congrArg List.length n1;simpa using this
 have a:=nodup_leG hnn λ x hx=>(hk x).1 (n2 x hx).2
 have b:=nodup_leG hnd λ x hx=>by
  obtain ⟨v,hv⟩:=(hk x).2 hx;obtain ⟨hox,y,hy,e⟩:=h3 x v hv;have:=List.mem_map_of_mem (f:=λ x:MapEntry=>x.key) hy;rw [n1,e] at this;obtain ⟨z,hz,e2⟩:=List.mem_map.1 this;exact (inj _ _ (n2 z hz).1 hox e2)▸hz
 omega
end
end Go.V
namespace Go.V
open Go Go.RowKit
end Go.V
namespace Go.V
open Go Go.RowKit Go.Maps
section
variable [Rn]
variable {P:Program} {n:Nat} {e:dJ} {w w':World} {Q:dI} {ops:Array Oper} {rest:List Oper} {d:Nat} {ty:TypeId} {pos:String} {aft:Array Edge} {H:Type}
end
end Go.V
namespace Go.V
open Go Go.RowKit
def RowO (B:Nat) (el:TypeId) (w:World) (v:Value) (xs:List Value):Prop :=
 ∃ b o cap cs,v=.slice (some ⟨b,o,none⟩) xs.length cap∧B≤b∧Blk w b el cs∧o+cap≤cs.length∧xs.length≤cap∧cap≤maxLen∧(cs.drop o).take xs.length=xs
section
variable {B:Nat} {el:TypeId} {w w':World} {v:Value} {xs:List Value}
theorem RowO.lt (h:RowO B el w v xs) {k:Nat} (hk:v.ownBlock=some k):B≤k∧k<w.heap.size:=by
 obtain ⟨b,o,cap,cs,rfl,h1,h2,_⟩:=h;simp only [Value.ownBlock,Option.some.injEq] at hk;subst hk;exact ⟨h1,h2.lt⟩
theorem RowO.keep (h:RowO B el w v xs) (hk:∀ k,v.ownBlock=some k→w'.heap[k]? = w.heap[k]?):RowO B el w' v xs:=by
 obtain ⟨b,o,cap,cs,rfl,h1,h2,h3⟩:=h;refine ⟨b,o,cap,cs,rfl,h1,?_,h3⟩;unfold Blk at h2 ⊢;rw [hk b rfl];exact h2
theorem RowO.grow (h:RowO B el w v xs) (g:Grow w w'):RowO B el w' v xs:=h.keep λ k hk=>g.block k (h.lt hk).2
theorem RowO.own {n:Nat} (h:w.ownsRow B el 1 v n xs) (hn:0<n):RowO B el w v xs:=by
 obtain ⟨hl,h|⟨g,cap,cur,rfl,h1,h2,h3,h4,h5,h6⟩⟩:=h
 ·omega
 ·have hxl:xs.length=n:=by omega
  refine ⟨g,0,cap,cur.toList,by rw [hxl],h1,by unfold Blk;simpa using h2,by simp;omega,oM,h4,?_⟩;rw [List.drop_zero,hxl];rw [Nat.mul_one] at h6;exact h6
end
section
variable [Rn]
variable {P:Program} {n:Nat} {e:dJ} {w w':World} {Q:dI} {ops:Array Oper} {rest:List Oper} {d:Nat} {ty:TypeId} {pos:String} {aft:Array Edge}
theorem take_set {cs xs:List Value} {o:Nat} {u:Value} (h1:(cs.drop o).take xs.length=xs) (h2:o+xs.length<cs.length):((cs.set (o+xs.length) u).drop o).take (xs++[u]).length=xs++[u]:=by
 apply List.ext_getElem?;intro j;rw [List.getElem?_take,List.getElem?_drop,List.getElem?_set,List.length_append,List.length_singleton];by_cases hj:j<xs.length
 ·rw [if_pos oM,if_neg oM,List.getElem?_append_left hj];have:=congrArg (·[j]?) h1;simp only [List.getElem?_take,List.getElem?_drop] at this;rw [if_pos hj] at this;exact this
 ·by_cases hj2:j=xs.length
  ·subst hj2;rw [if_pos oM,if_pos rfl,if_pos h2];simp
  ·rw [if_neg oM,List.getElem?_eq_none (by simp;omega)]
theorem RowO.cut (k l:Nat) {B:Nat} {el:TypeId} {w:World} {b o cap:Nat} {xs cs:List Value} (h1:B≤b) (h2:Blk w b el cs) (h3:o+cap≤cs.length) (h4:xs.length≤cap) (h5:cap≤maxLen) (h6:(cs.drop o).take xs.length=xs) (hkl:k≤l) (hl:l≤xs.length) :
  RowO B el w (.slice (some ⟨b,o+k,none⟩) (l-k) (cap-k)) ((xs.take l).drop k):=by
 have hlen:((xs.take l).drop k).length=l-k:=by rw [List.length_drop,List.length_take];omega
 refine ⟨b,o+k,cap-k,cs,by rw [hlen],h1,h2,oM,oM,oM,?_⟩;rw [hlen];apply List.ext_getElem?;intro j;rw [List.getElem?_take,List.getElem?_drop,List.getElem?_drop,List.getElem?_take];by_cases hj:j<l-k
 ·rw [if_pos hj,if_pos oM];have:=congrArg (·[k+j]?) h6;simp only [List.getElem?_take,List.getElem?_drop] at this;rw [if_pos oM] at this;rw [← this,Nat.add_assoc]
 ·rw [if_neg hj,if_neg oM]
end
theorem iG (zc:Value) (k:Nat):Builtin.zeroCells #[zc] k=(List.replicate k zc).toArray:=by
 apply Array.ext
 ·simp [size_zeroCells]
 ·intro i h1 h2;simp [Builtin.zeroCells,Nat.mod_one]
theorem run_append_room_zeros {P:Program} {w:World} {t tn ty e:TypeId} {i:TypeInfo} {zc:Value} {kq kn:IntKind} (ht:P.underlying t=some (.slice e)) (htn:P.underlying tn=some (.int kn)) (hi:P.info? e=some i) {z:Value} (hz:i.zero=some z) (hzc:z.cells = #[zc]) (hsz:i.size=1)
  {g n cap k:Nat} {cur:Array Value} (hg:w.heap[g]? = some (.cells cur e (0,0))) (h0:0<k) (hb:k*i.bytes≤140737488355328) (h63:k≤1000000) (hroom:n+k≤cap) (hfit:n+k≤cur.size) (h1:zc.oneCell'=true) :
  (Builtin.append_ #[t,tn] ty #[.slice (some ⟨g,0,none⟩) n cap,.int kq k]).run P w=.ok (.slice (some ⟨g,0,none⟩) (n+k) cap) (w.setRow g (cur.toList.take n++List.replicate k zc++cur.toList.drop (n+k)).toArray):=by
 have hk:k≠0:=by omega
 have hw:IntKind.i64.wrap (k:Int)=k:=by rw [IntKind.wrap_i64];omega
 have h48i:¬ (281474976710656<(k:Int)*(i.bytes:Int)):=by
  rw [← Int.natCast_mul];omega
 have hneg:¬ ((k:Int)<0):=by omega
 have hst:=run_storeCells_at P g n e (List.replicate k zc) 0 cur w hg (by simpa using hfit) (λ v hv=>by rw [(List.mem_replicate.1 hv).2];exact h1);simp only [Nat.add_zero,List.length_replicate] at hst;simp [Builtin.append_,run_underlying ht,run_underlying htn,sizeOf,typeInfo,zeroValue,hi,hz,asInt,asIntOf,hw,hneg,h48i,hsz,hk,hroom,hzc,iG,Addr.add_lit,hst]
section
variable [Rn]
variable {P:Program} {n:Nat} {e:dJ} {w w':World} {Q:dI} {ops:Array Oper} {rest:List Oper} {d:Nat} {ty:TypeId} {pos:String} {aft:Array Edge}
theorem TL.appendZ {t tn elem bytes base k0 c:Nat} {x y:Operand} {kq kn:IntKind} {v zc:Value} {xs:List Value} [ht:SliceTy P t elem 1 bytes] [hn:IntTy P tn kn] [hzr:Zero P elem zc] (hzc:zc.cells = #[zc]) (h1:zc.oneCell'=true)
  (hx:val e x=some v) (hy:val e y=some (.int kq (c:Int))) (hown:w.ownsRow base elem 1 v k0 xs) (h0:0<c) (h63:k0+c≤1000000) (hbytes:(k0+c)*bytes≤140737488355328) (hbase:base≤w.heap.size) (hd:Nat.blt d n=true)
  (k:∀ v' w',w'.ownsRow base elem 1 v' (k0+c) (xs++List.replicate c zc)→w.grownBy w' v.ownBlock→TL P n ops rest ((d,v')::e) w' Q) :
  TL P n ops (⟨some d,.call ⟨.builtin .append,#[x,y],#[t,tn]⟩,ty,pos,aft,none⟩::rest) e w Q:=by
 obtain ⟨i,z,hi,hsz,hby,hz,hzs,hne⟩:=ht.info
 have hzz:z=zc:=by
  have:=hzr.h;rw [hi] at this;simp only [Option.bind_some] at this;rw [hz] at this;exact Option.some.inj this
 subst hzz;have hcb:c*bytes≤(k0+c)*bytes:=Nat.mul_le_mul_right _ oM;have hlen:(xs++List.replicate c z).length=(k0+c)*1:=by rw [List.length_append,hown.1,List.length_replicate];omega
 obtain ⟨hxl,⟨rfl,rfl⟩|⟨g,cap,cur,rfl,hbg,hg,hnc,hcm,hcs,htake⟩⟩:=hown
 ·have hx0:xs=[]:=List.eq_nil_of_length_eq_zero (by simpa using hxl);subst hx0;have hrun:=Lib.run_append_nil_zeros (P:=P) w t tn ty elem i z kq kn ht.und hn.und hi hz c h0 oM oM (by rw [hby];omega);have hc1:c≤grownCap w c 0 elem:=grownCap_ge w _ _ _;have hc2:grownCap w c 0 elem≤maxLen:=grownCap_le_maxLen w c 0 elem (by unfold maxLen;omega);refine TL.run (v:=.slice (some ⟨w.heap.size,0,none⟩) c (grownCap w c 0 elem)) (w':=w.drew.alloc (.cells (Builtin.zeroCells z.cells c++Builtin.zeroCells z.cells (grownCap w c 0 elem-c)) elem)) (λ r hr=>?_) hd (k _ _ ⟨sM,.inr ⟨w.heap.size,_,_,by rw [Nat.zero_add],hbase,heap_alloc_new w.drew _,oM,hc2,?_,?_⟩⟩ ⟨rfl,rfl,rfl,sM,λ k hk _=>Below.heap_alloc w.drew _ k hk⟩)
  ·simp [execOp,resolve,invoke,builtin,hr.eval hx,hr.eval hy,hrun]
  ·simp only [Array.size_append,size_zeroCells,hzs];omega
  ·rw [hzc,iG,iG];simp
 ·by_cases hroom:k0+c≤cap
  ·have hrun:=run_append_room_zeros (P:=P) (w:=w) (ty:=ty) (kq:=kq) ht.und hn.und hi hz hzc hsz hg h0 (by rw [hby];omega) oM hroom oM h1;refine TL.run (v:=.slice (some ⟨g,0,none⟩) (k0+c) cap) (w':=w.setRow g (cur.toList.take k0++List.replicate c z++cur.toList.drop (k0+c)).toArray) (λ r hr=>by simp [execOp,resolve,invoke,builtin,hr.eval hx,hr.eval hy,hrun]) hd (k _ _ ⟨hlen,.inr ⟨g,cap,_,rfl,hbg,setRow_heap w g cur _ elem _ hg,hroom,hcm,?_,?_⟩⟩ ⟨rfl,rfl,rfl,sM,λ k _ hk=>setRow_other w g k _ (λ e=>hk (by simp [Value.ownBlock,e]))⟩)
   ·simp only [List.size_toArray,List.length_append,List.length_take,List.length_drop,Array.length_toList,List.length_replicate];omega
   ·rw [Nat.mul_one] at htake;rw [htake,← hlen];exact List.take_left
  ·have hold:(Builtin.firstCells i.size k0 (.slice (some ⟨g,0,none⟩) k0 cap)).run P w.drew=.ok xs.toArray w.drew:=by
    rw [hsz];refine run_firstCells_some (P:=P) w.drew 1 k0 ⟨g,0,none⟩ k0 cap xs hxl λ j u hu=>?_;have hjl:j<xs.length:=(List.getElem?_eq_some_iff.1 hu).1;have hg':w.drew.heap[g]? = some (.cells cur elem (0,0)):=hg;rw [← htake,List.getElem?_take,if_pos oM] at hu;rw [Addr.add_lit];simp only [World.cell?,hg',Nat.zero_add];simpa using hu
   have hrun:=Lib.run_append_grow_zeros (P:=P) w t tn ty elem i z kq kn ht.und hn.und hi hz (some ⟨g,0,none⟩) k0 cap xs hold c h0 oM oM oM (by rw [hby];omega) (growslice_fits oM (by rw [hby];exact hbytes));have hge:=grownCap_ge w (k0+c) cap elem;have hcm2:grownCap w (k0+c) cap elem≤maxLen:=grownCap_le_maxLen w (k0+c) cap elem (by unfold maxLen;omega);refine TL.run (v:=.slice (some ⟨w.heap.size,0,none⟩) (k0+c) (grownCap w (k0+c) cap elem)) (w':=w.drew.alloc (.cells (xs.toArray++Builtin.zeroCells z.cells c++Builtin.zeroCells z.cells (grownCap w (k0+c) cap elem-(k0+c))) elem)) (λ r hr=>by simp [execOp,resolve,invoke,builtin,hr.eval hx,hr.eval hy,hrun]) hd (k _ _ ⟨hlen,.inr ⟨w.heap.size,_,_,rfl,hbase,heap_alloc_new w.drew _,hge,hcm2,?_,?_⟩⟩ ⟨rfl,rfl,rfl,sM,λ k hk _=>Below.heap_alloc w.drew _ k hk⟩)
   ·simp only [Array.size_append,size_zeroCells,hzs,List.size_toArray];omega
   ·rw [hzc,iG,iG,← hlen];simp only [Array.toList_append,List.append_assoc];rw [← List.append_assoc];exact List.take_left
end
section
variable {base sz n:Nat} {el:TypeId} {w w':World} {v:Value} {xs:List Value}
theorem own_blk (h:w.ownsRow base el sz v n xs) (hn:0<n):∃ g cap cur,v=.slice (some ⟨g,0,none⟩) n cap∧base≤g∧Blk w g el cur∧n≤cap∧cap≤maxLen∧cur.length=cap*sz∧cur.take (n*sz)=xs:=by
 obtain ⟨hl,h|⟨g,cap,cur,rfl,h1,h2,h3,h4,h5,h6⟩⟩:=h
 ·omega
 ·exact ⟨g,cap,cur.toList,rfl,h1,by unfold Blk;simpa using h2,h3,h4,by simpa using h5,h6⟩
theorem own_mk {g cap:Nat} {cur:List Value} (h1:base≤g) (h2:Blk w g el cur) (h3:n≤cap) (h4:cap≤maxLen) (h5:cur.length=cap*sz) (h6:cur.take (n*sz)=xs):w.ownsRow base el sz (.slice (some ⟨g,0,none⟩) n cap) n xs:=by
 have hle:n*sz≤cap*sz:=Nat.mul_le_mul_right _ h3;exact ⟨by rw [← h6,List.length_take];omega,.inr ⟨g,cap,cur.toArray,rfl,h1,by unfold Blk at h2;simpa using h2,h3,h4,by simpa using h5,by simpa using h6⟩⟩
theorem take_setAt {cur xs:List Value} {m j:Nat} {u:Value} (h:cur.take m=xs):(cur.set j u).take m=xs.set j u:=by
 rw [← h,List.take_set]
theorem own_cut {k:Nat} (h:w.ownsRow base el sz v n xs) (hk:k≤n):∃ v',(∃ a c,v=.slice a n c∧v'=.slice a k c)∧w.ownsRow base el sz v' k (xs.take (k*sz))∧v'.ownBlock=v.ownBlock:=by
 obtain ⟨hl,⟨rfl,rfl⟩|⟨g,cap,cur,rfl,h1,h2,h3,h4,h5,h6⟩⟩:=h
 ·obtain rfl:k=0:=by omega
  exact ⟨_,⟨none,0,rfl,rfl⟩,by simpa using World.ownsRow_nil w base el sz,rfl⟩
 ·refine ⟨_,⟨_,_,rfl,rfl⟩,⟨?_,.inr ⟨g,cap,cur,rfl,h1,h2,oM,h4,h5,?_⟩⟩,rfl⟩
  ·have:k*sz≤n*sz:=Nat.mul_le_mul_right _ hk;rw [List.length_take];omega
  ·have:k*sz≤n*sz:=Nat.mul_le_mul_right _ hk;rw [← h6,List.take_take,Nat.min_eq_left this]
end
section
variable [Rn]
variable {P:Program} {n:Nat} {e:dJ} {w w':World} {Q:dI} {ops:Array Oper} {rest:List Oper} {d:Nat} {ty:TypeId} {pos:String} {aft:Array Edge}
theorem run_append_zero {t tn ty el:TypeId} {i:TypeInfo} {kq kn:IntKind} (ht:P.underlying t=some (.slice el)) (htn:P.underlying tn=some (.int kn)) (hi:P.info? el=some i) (base:Option Addr) (m cap:Nat) (h:m≤cap) (w:World) :
  (Builtin.append_ #[t,tn] ty #[.slice base m cap,.int kq 0]).run P w=.ok (.slice base m cap) w:=by
 have hw:IntKind.i64.wrap 0=0:=by decide
 cases base<;>simp [Builtin.append_,run_underlying ht,run_underlying htn,sizeOf,typeInfo,hi,asInt,asIntOf,hw,h,storeCells]
theorem TL.appendZ0 {t tn elem size bytes m c:Nat} {x y:Operand} {kq kn:IntKind} {a:Option Addr} [ht:SliceTy P t elem size bytes] [hn:IntTy P tn kn] (hx:val e x=some (.slice a m c)) (hy:val e y=some (.int kq 0)) (hmc:m≤c) (hd:Nat.blt d n=true)
  (k:TL P n ops rest ((d,.slice a m c)::e) w Q) :
  TL P n ops (⟨some d,.call ⟨.builtin .append,#[x,y],#[t,tn]⟩,ty,pos,aft,none⟩::rest) e w Q:=by
 obtain ⟨i,z,hi,hsz,hby,hz,hzs,hne⟩:=ht.info;exact TL.run (v:=.slice a m c) (w':=w) (λ r hr=>by simp [execOp,resolve,invoke,builtin,hr.eval hx,hr.eval hy,run_append_zero (P:=P) ht.und hn.und hi a m c hmc w]) hd k
end
theorem upB_same (dn:Nat→Bool) (i:Nat):upB dn i i=true:=by simp [upB]
theorem dP {dn:Nat→Bool} {i j:Nat} (h:j≠i):upB dn i j=dn j:=by
 unfold upB
 cases hb:Nat.beq j i with
 | false=>rfl
 | true=>exact absurd (Nat.eq_of_beq_eq_true hb) h
theorem upV_same (vs:Nat→Value) (i:Nat) (v:Value):upV vs i v i=v:=by simp [upV]
theorem upV_other {vs:Nat→Value} {i j:Nat} {v:Value} (h:j≠i):upV vs i v j=vs j:=by
 unfold upV
 cases hb:Nat.beq j i with
 | false=>rfl
 | true=>exact absurd (Nat.eq_of_beq_eq_true hb) h
def nxtA:Nat→Nat
 | 0=>4
 | 4=>6
 | 6=>10
 | _=>99
def gB (s:Nat):Prop:=s=0∨s=4∨s=6∨s=10
structure AppJ (w0:World) (E:TypeId) (sz:Nat) (pf:Nat→Value→Prop) (R:Nat→Nat×List Value) (dn:Nat→Bool) (vs:Nat→Value) (w:World):Prop where
 g:Grow w0 w
 p:∀ j,¬ gB j→dn j=true→pf j (vs j)
 q:∀ s,gB s→dn s=true→dn (nxtA s)=false→w.ownsRow w0.heap.size E sz (vs s) (R s).1 (R s).2
 d:∀ s,gB s→dn (nxtA s)=true→dn s=true
 e:dn 99=false
section
variable {w0 w w':World} {E:TypeId} {sz:Nat} {pf:Nat→Value→Prop} {R:Nat→Nat×List Value} {dn:Nat→Bool} {vs:Nat→Value} {v:Value}
theorem nxtA_ne {s j:Nat} (hj:¬ gB j) (h99:j≠99):nxtA s≠j:=by
 intro e;unfold gB at hj;unfold nxtA at e;split at e<;>omega
theorem app_start (hg:Grow w0 w):AppJ w0 E sz pf R (λ _=>false) (λ _=>undef) w :=
 ⟨hg,λ j _ h=>(by cases h),λ s _ h=>(by cases h),λ s _ h=>(by cases h),rfl⟩
theorem eE (J:AppJ w0 E sz pf R dn vs w) {j:Nat} (hj:¬ gB j) (h99:j≠99) (hp:pf j v):AppJ w0 E sz pf R (upB dn j) (upV vs j v) w:=by
 refine ⟨J.g,λ i hi hd=>?_,λ s hs hd hn=>?_,λ s hs hd=>?_,?_⟩
 ·by_cases e:i=j
  ·subst e;rw [upV_same];exact hp
  ·rw [dP e] at hd;rw [upV_other e];exact J.p i hi hd
 ·have e:s≠j:=λ e=>hj (e▸hs);rw [dP e] at hd;rw [dP (nxtA_ne hj h99)] at hn;rw [upV_other e];exact J.q s hs hd hn
 ·have e:s≠j:=λ e=>hj (e▸hs);rw [dP (nxtA_ne hj h99)] at hd;rw [dP e];exact J.d s hs hd
 ·rw [dP (λ e=>h99 e.symm)];exact J.e
theorem app_first (J:AppJ w0 E sz pf R dn vs w) (h0:dn 0=false) (hg:Grow w w') (ho:w'.ownsRow w0.heap.size E sz v (R 0).1 (R 0).2):AppJ w0 E sz pf R (upB dn 0) (upV vs 0 v) w':=by
 have h4:dn 4=false:=by cases h:dn 4 with
  | false=>rfl
  | true=>rw [J.d 0 (.inl rfl) h] at h0;cases h0
 have h6:dn 6=false:=by cases h:dn 6 with
  | false=>rfl
  | true=>rw [J.d 4 (.inr (.inl rfl)) h] at h4;cases h4
 have h10:dn 10=false:=by cases h:dn 10 with
  | false=>rfl
  | true=>rw [J.d 6 (.inr (.inr (.inl rfl))) h] at h6;cases h6
 refine ⟨J.g.trans hg,λ i hi hd=>?_,λ s hs hd hn=>?_,λ s hs hd=>?_,?_⟩
 ·have e:i≠0:=λ e=>hi (.inl e);rw [dP e] at hd;rw [upV_other e];exact J.p i hi hd
 ·rcases hs with rfl|rfl|rfl|rfl
  ·rw [upV_same];exact ho
  ·rw [dP oM,h4] at hd;cases hd
  ·rw [dP oM,h6] at hd;cases hd
  ·rw [dP oM,h10] at hd;cases hd
 ·rcases hs with rfl|rfl|rfl|rfl
  ·exact upB_same _ _
  ·exact absurd hd (by show ¬ upB dn 0 6=true;rw [dP oM,h6];simp)
  ·exact absurd hd (by show ¬ upB dn 0 10=true;rw [dP oM,h10];simp)
  ·exact absurd hd (by show ¬ upB dn 0 99=true;rw [dP oM,J.e];simp)
 ·rw [dP oM];exact J.e
theorem jT (J:AppJ w0 E sz pf R dn vs w) {r s:Nat} (hr:gB r) (hs:gB s) (hn:nxtA r=s) (h0:dn s=false) (h1:dn r=true) (hg:Grow w0 w') (ho:w'.ownsRow w0.heap.size E sz v (R s).1 (R s).2):AppJ w0 E sz pf R (upB dn s) (upV vs s v) w':=by
 have hlater:∀ t,gB t→s<t→dn t=false:=by
  intro t ht hst;have k4:dn 4=true→dn 0=true:=J.d 0 (.inl rfl);have k6:dn 6=true→dn 4=true:=J.d 4 (.inr (.inl rfl));have k10:dn 10=true→dn 6=true:=J.d 6 (.inr (.inr (.inl rfl)))
  cases h:dn t with
  | false=>rfl
  | true =>
   exfalso;rcases hs with rfl|rfl|rfl|rfl<;>rcases ht with rfl|rfl|rfl|rfl<;>first|omega|(have q:=k4 h;rw [h0] at q;cases q)|(have q:=k6 h;rw [h0] at q;cases q)|(have q:=k10 h;rw [h0] at q;cases q)|(have q:=k4 (k6 h);rw [h0] at q;cases q)|(have q:=k6 (k10 h);rw [h0] at q;cases q)|(have q:=k4 (k6 (k10 h));rw [h0] at q;cases q)
 have hrs:r<s:=by rcases hr with rfl|rfl|rfl|rfl<;>simp only [nxtA] at hn<;>first|omega|(rcases hs with h|h|h|h<;>omega)
 refine ⟨hg,λ i hi hd=>?_,λ t ht hd hn2=>?_,λ t ht hd=>?_,?_⟩
 ·have e:i≠s:=λ e=>hi (e▸hs);rw [dP e] at hd;rw [upV_other e];exact J.p i hi hd
 ·by_cases e:t=s
  ·subst e;rw [upV_same];exact ho
  ·exfalso;rw [dP e] at hd;rcases Nat.lt_trichotomy t s with h|h|h
   ·by_cases htr:t=r
    ·subst htr;rw [hn,upB_same] at hn2;cases hn2
    ·have htl:t<r:=by
      unfold gB at hs hr ht;clear hd hn2 ho h0 h1 hlater;rcases hr with rfl|rfl|rfl|rfl<;>simp only [nxtA] at hn<;>omega
     have hne:nxtA t≠s:=by
      unfold gB at hs hr;clear hd hn2 ho h0 h1 hlater;rcases ht with rfl|rfl|rfl|rfl<;>simp only [nxtA]<;>rcases hr with rfl|rfl|rfl|rfl<;>simp only [nxtA] at hn<;>omega
     rw [dP hne] at hn2;have k4:dn 4=true→dn 0=true:=J.d 0 (.inl rfl);have k6:dn 6=true→dn 4=true:=J.d 4 (.inr (.inl rfl));unfold gB at hs;rcases ht with rfl|rfl|rfl|rfl<;>rcases hr with rfl|rfl|rfl|rfl<;>simp only [nxtA] at hn2 hn<;>first|omega|(rw [h1] at hn2;cases hn2)|(have q:=k6 h1;rw [q] at hn2;cases hn2)
   ·exact e h
   ·rw [hlater t ht h] at hd;cases hd
 ·by_cases e:t=s
  ·subst e;exact upB_same _ _
  ·rw [dP e];by_cases e2:nxtA t=s
   ·have:t=r:=by
     rcases ht with rfl|rfl|rfl|rfl<;>rcases hr with rfl|rfl|rfl|rfl<;>simp only [nxtA] at hn e2<;>omega
    rw [this];exact h1
   ·rw [dP e2] at hd;exact J.d t ht hd
 ·rw [dP (by rcases hs with rfl|rfl|rfl|rfl<;>omega)];exact J.e
end
section
variable {F:Nat→Prop} {w:World} {size m c l h mm:Nat} {a:Option Addr} {cs:List Value}
def eP (a:Option Addr) (mm l size:Nat):Option Addr:=if mm=l then a else a.map (·.add (l*size))
theorem eY (hs:Sl F w size a m c cs) (b1:l≤h) (b2:h≤m) (b3:h≤mm) (b4:mm≤c):Sl F w size (eP a mm l size) (h-l) (mm-l) ((cs.drop (l*size)).take ((h-l)*size)):=by
 have hlen:((cs.drop (l*size)).take ((h-l)*size)).length=(h-l)*size:=by
  rw [List.length_take,List.length_drop,hs.len,← Nat.sub_mul];exact Nat.min_eq_left (Nat.mul_le_mul_right _ oM)
 unfold eP;refine ⟨hlen,oM,by have:=hs.max;omega,?_,?_⟩
 ·intro h0;split at h0
  ·have:=hs.nil h0;omega
  ·have:=hs.nil (by simpa using h0);omega
 ·have hrow:=hs.row;split
  ·rename_i hml;have:(h-l)=0:=by omega
   rw [this]
   cases a with
   | none=>simp [Row]
   | some p=>exact λ hn=>by simp at hn
  ·cases a with
   | none=>simp only [Row] at hrow;subst hrow;simp [Row]
   | some p =>
    obtain ⟨b,o,s⟩:=p;intro hne;obtain ⟨h1,h2,h3,h4⟩:=hrow (by rintro rfl;simp at hne);simp only at h1;subst h1
    simp only [Addr.add_lit];refine ⟨trivial,h2,h3,λ j v hj=>?_⟩;rw [List.getElem?_take] at hj;split at hj
    ·rw [List.getElem?_drop] at hj;have:=h4 (l*size+j) v hj;simpa [Nat.add_assoc] using this
    ·cases hj
end
section
variable [Rn]
variable {P:Program} {n:Nat} {e:dJ} {w w':World} {Q:dI} {ops:Array Oper} {rest:List Oper} {d:Nat} {ty:TypeId} {pos:String} {aft:Array Edge}
theorem dE {t elem size bytes:Nat} {x:Operand} {lo hi mx:Option Operand} {a:Option Addr} {m c l h mm:Nat} [ht:SliceTy P t elem size bytes]
  (hx:val e x=some (.slice a m c)) (hl:bnd e lo l 0) (hh:bnd e hi h m) (hm:bnd e mx mm c) (hno:hi=none→mx=none) (b1:l≤h) (b2:h≤m) (b3:h≤mm) (b4:mm≤c) (hmc:m≤c) (hd:Nat.blt d n=true)
  (k:TL P n ops rest ((d,.slice (eP a mm l size) (h-l) (mm-l))::e) w Q) :
  TL P n ops (⟨some d,.slice t x lo hi mx,ty,pos,aft,none⟩::rest) e w Q:=by
 have hbs:∀ r,Fits n e r→(Instr.sliceBounds true m c (lo.map r.eval) (hi.map r.eval) (mx.map r.eval)).run P w=.ok (l,h,mm) w:=by
  intro r hr
  cases lo with
  | none =>
   simp only [bnd] at hl;subst hl
   cases hi with
   | none =>
    have h0:=hno rfl;subst h0
    simp only [bnd] at hh hm;subst hh;subst hm
    simp [Instr.sliceBounds]
   | some y =>
    obtain ⟨k2,z2,v2,e2⟩:=hh
    cases mx with
    | none=>simp only [bnd] at hm;subst hm;simp [Instr.sliceBounds,hr.eval v2,cT e2 b3]
    | some u=>obtain ⟨k3,z3,v3,e3⟩:=hm;simp [Instr.sliceBounds,hr.eval v2,hr.eval v3,cT e2 b3,cT e3 b4]
  | some x1 =>
   obtain ⟨k1,z1,v1,e1⟩:=hl
   cases hi with
   | none =>
    have h0:=hno rfl;subst h0
    simp only [bnd] at hh hm;subst hh;subst hm
    simp [Instr.sliceBounds,hr.eval v1,cT e1 b1]
   | some y =>
    obtain ⟨k2,z2,v2,e2⟩:=hh
    cases mx with
    | none=>simp only [bnd] at hm;subst hm;simp [Instr.sliceBounds,hr.eval v1,hr.eval v2,cT e2 b3,cT e1 b1]
    | some u=>obtain ⟨k3,z3,v3,e3⟩:=hm;simp [Instr.sliceBounds,hr.eval v1,hr.eval v2,hr.eval v3,cT e2 b3,cT e3 b4,cT e1 b1]
 refine TL.run (v:=.slice (if mm=l then a else a.map (·.add (l*size))) (h-l) (mm-l)) (w':=w) (λ r hr=>?_) hd k
 ·simp [execOp,hr.eval hx,Instr.sliceAt,underlying,ht.und,Instr.slice,hbs r hr,ht.size]
end
end Go.V
namespace Go.Proofs.YtfpadnmdafiddaaGreatDoor
def lH (s:Pg) (qs:List Nat):List Nat:=qs.foldl gY (List.replicate s.words.length 0)
def jJ (s:Pg) (qs:List Nat):Pg:={ s with words:=lH s qs }
theorem length_markW (l:List Nat) (n:Nat):(gY l n).length=l.length:=by simp [gY]
theorem lO:∀ (qs l:List Nat),(qs.foldl gY l).length=l.length
 | [],l=>rfl
 | q::qs,l=>by rw [List.foldl_cons,lO qs,length_markW]
theorem marks_bit:∀ (qs l:List Nat) (k:Nat),(∀ q∈qs,q / 64<l.length)→((qs.foldl gY l).getD (k / 64) 0).testBit (k%64)=(decide (k∈qs) || (l.getD (k / 64) 0).testBit (k%64))
 | [],l,k,_=>by simp
 | q::qs,l,k,h=>by
  rw [List.foldl_cons,marks_bit qs _ k (λ x hx=>by rw [length_markW];exact h x (List.mem_cons_of_mem _ hx)),markW_bit _ _ _ (h q sM)];by_cases h1:k=q
  ·subst h1;simp
  ·simp [h1]
theorem markW_64 {l:List Nat} {n:Nat} (h:∀ x∈l,x<18446744073709551616) (hd:n / 64<l.length):∀ x∈gY l n,x<18446744073709551616:=by
 intro x hx;unfold gY at hx;rcases List.mem_or_eq_of_mem_set hx with hx|rfl
 ·exact h x hx
 ·have h5:l.getD (n / 64) 0<2^64:=by
   rw [List.getD_eq_getElem?_getD,List.getElem?_eq_getElem hd];exact h _ (List.getElem_mem hd)
  have h6:2^(n%64)<2^64:=Nat.pow_lt_pow_right dM (Nat.mod_lt _ dM);exact Nat.or_lt_two_pow h5 h6
theorem marks_64:∀ {qs l:List Nat},(∀ x∈l,x<18446744073709551616)→(∀ q∈qs,q / 64<l.length)→∀ x∈qs.foldl gY l,x<18446744073709551616
 | [],l,h,_=>h
 | q::qs,l,h,hq=>by
  rw [List.foldl_cons];exact marks_64 (markW_64 h (hq q sM)) (λ x hx=>by rw [length_markW];exact hq x (List.mem_cons_of_mem _ hx))
theorem zeros_bit (n k j:Nat):((List.replicate n 0).getD k 0).testBit j=false:=by
 rw [List.getD_eq_getElem?_getD,List.getElem?_replicate];split<;>simp
theorem keep_div {s:Pg} (hs:PgOk s) {qs:List Nat} (h:∀ q∈qs,bL s q=true):∀ q∈qs,q / 64<(List.replicate s.words.length 0).length:=λ q hq=>by
 rw [List.length_replicate];exact used_div hs (dW (h q hq))
theorem kI {s:Pg} (hs:PgOk s) {qs:List Nat} (h:∀ q∈qs,bL s q=true) (k:Nat):bL (jJ s qs) k=decide (k∈qs):=by
 unfold bL jJ lH;simp only;rw [marks_bit _ _ _ (keep_div hs h),zeros_bit,Bool.or_false];by_cases hk:k∈qs
 ·simp [hk,dW (h k hk)]
 ·simp [hk]
theorem keep_ok {s:Pg} (hs:PgOk s) {qs:List Nat} (h:∀ q∈qs,bL s q=true):PgOk (jJ s qs):=by
 refine ⟨?_,?_,λ n hn=>?_,hs.cnt⟩
 ·show (lH s qs).length=_;unfold lH;rw [lO,List.length_replicate];exact hs.wl
 ·exact marks_64 (λ x hx=>by rw [(List.mem_replicate.1 hx).2];decide) (keep_div hs h)
 ·show ((lH s qs).getD (n / 64) 0).testBit (n%64)=false;unfold lH;rw [marks_bit _ _ _ (keep_div hs h),zeros_bit,Bool.or_false];refine decide_eq_false λ hm=>?_;have:=dW (h n hm);have hn':s.count≤n:=hn;omega
theorem cnt_le (p:Nat→Bool) (n N:Nat):((List.range N).filter λ k=>k==n || p k).length≤((List.range N).filter p).length+1:=by
 cases hp:p n with
 | false=>rw [cnt_add p n hp N];split<;>omega
 | true =>
  have:(λ k=>k==n || p k)=p:=by
   funext k
   by_cases h:k=n
   ·subst h;simp [hp]
   ·simp [h]
  rw [this];omega
theorem cnt_mem (N:Nat):∀ qs:List Nat,((List.range N).filter λ k=>decide (k∈qs)).length≤qs.length
 | []=>by simp
 | q::qs=>by
  have h:=cnt_le (λ k=>decide (k∈qs)) q N;have ih:=cnt_mem N qs
  have e:(λ k=>decide (k∈q::qs))=(λ k=>k==q || decide (k∈qs)):=by
   funext k
   by_cases h:k=q<;>simp [h]
  rw [e,List.length_cons];omega
theorem keep_spare {s:Pg} (hs:PgOk s) {qs:List Nat} (h:∀ q∈qs,bL s q=true):s.count≤cR (jJ s qs)+qs.length:=by
 have e:fQ (jJ s qs)=((List.range s.count).filter λ k=>decide (k∈qs)).length:=by
  unfold fQ;congr 1
  exact List.filter_congr λ k _=>kI hs h k
 have:=cnt_mem s.count qs;unfold cR;rw [e];show s.count≤s.count-_+_;omega
theorem keep_node {s:Pg} (hs:PgOk s) {qs:List Nat} (h:∀ q∈qs,bL s q=true) {n:Nat} (hn:n∈qs):cB (jJ s qs) n=cB s n:=by
 unfold cB;rw [kI hs h,h n hn,decide_eq_true hn];rfl
theorem Vt.kept {s s':Pg}:∀ {h:Nat} {nd:Nd} {l:bT} {ps:List Nat},(∀ p∈ps,cB s' p=cB s p)→Vt s h nd l ps→Vt s' h nd l ps
 | 0,_,_,_,_,h=>h
 | h+1,nd,l,ps,hk,⟨ls,h1,h2,h3,h4,h5,h6,h7,h8⟩=>⟨ls,h1,h2,h3,h4,h5,h6,h7,λ x hx2=>by
  obtain ⟨nd',g1,g2,g3⟩:=h8 x hx2;have hin:∀ p∈x.page::x.ps,p∈ps:=λ p hp=>by rw [h7];exact List.mem_flatMap.2 ⟨x,hx2,hp⟩
  exact ⟨nd',(hk _ (hin _ sM)).trans g1,g2,g3.kept λ p hp=>hk _ (hin _ (List.mem_cons_of_mem _ hp))⟩⟩
theorem TrAt.kept {s s':Pg} {r:Option Nat} {lv:Nat} {l:bT} {ps:List Nat} (h:TrAt s r lv l ps) (hk:∀ p∈ps,cB s' p=cB s p):TrAt s' r lv l ps:=by
 cases r with
 | none=>exact h
 | some n =>
  obtain ⟨h,nd,ps',e1,e2,e3,e4,rfl⟩:=h;exact ⟨h,nd,ps',e1,(hk n sM).trans e2,e3.kept λ p hp=>hk p (List.mem_cons_of_mem _ hp),e4,rfl⟩
theorem TrAt.used {s:Pg} {r:Option Nat} {lv:Nat} {l:bT} {ps:List Nat} (h:TrAt s r lv l ps):∀ p∈ps,bL s p=true:=by
 cases r with
 | none=>rw [h.2.2];intro p hp;cases hp
 | some n =>
  obtain ⟨h,nd,ps',e1,e2,e3,e4,rfl⟩:=h;intro p hp;rcases List.mem_cons.1 hp with rfl|hp
  ·exact dN e2
  ·obtain ⟨h',nd',l',ps'',k1,k2,k3⟩:=e3.below p hp;exact dN k2
theorem TrAt.keep {s:Pg} (hs:PgOk s) {qs:List Nat} (hq:∀ q∈qs,bL s q=true) {r:Option Nat} {lv:Nat} {l:bT} {ps:List Nat} (h:TrAt s r lv l ps) (hp:∀ p∈ps,p∈qs):TrAt (jJ s qs) r lv l ps :=
 h.kept λ p hm=>keep_node hs hq (hp p hm)
def usedL (s:Pg):List Nat:=(List.range s.count).filter λ n=>bL s n
theorem usedL_len (s:Pg):(usedL s).length=fQ s:=rfl
theorem low_off (k m:Nat):(2^k*(2*m+1))&&&(2^k*(2*m+1)-1)=2^k*(2*m):=by
 apply Nat.eq_of_testBit_eq;intro i;rw [Nat.testBit_and,mT,bit_pred];have h:=Nat.testBit_two_pow_mul_add (2*m) (b:=0) (i:=k) (Nat.two_pow_pos k) i;rw [Nat.add_zero] at h;rw [h];by_cases h1:i<k
 ·simp [h1]
 ·by_cases h2:i=k
  ·subst h2;simp
  ·rw [if_neg h1,if_neg h1,if_neg h2,if_neg h2,if_neg h1];obtain ⟨t,ht⟩:∃ t,i-k=t+1:=⟨i-k-1,oM⟩
   rw [ht,Nat.testBit_succ,show 2*m / 2=m by omega];simp
structure Sift (ws:List Nat) (i:Nat) (y:Nat) (l:List Nat):Prop where
 le:y<18446744073709551616
 at_:∃ t,t≤64∧l=(List.range (64*i+t)).filter (bitF ws)∧∀ j,y.testBit j=(decide (t≤j)&&(ws.getD i 0).testBit j)
theorem Sift.start {ws:List Nat} {i:Nat} {l:List Nat} (h:(ws.getD i 0)<18446744073709551616) (hl:l=(List.range (64*i)).filter (bitF ws)):Sift ws i (ws.getD i 0) l :=
 ⟨h,0,oM,hl,λ j=>by simp⟩
theorem bitF_at (ws:List Nat) (i j:Nat) (h:j<64):bitF ws (64*i+j)=(ws.getD i 0).testBit j:=by
 unfold bitF;rw [show (64*i+j) / 64=i by omega,show (64*i+j)%64=j by omega]
theorem filter_gap (p:Nat→Bool) (a b:Nat) (h:a≤b) (hp:∀ k,a≤k→k<b→p k=false):(List.range b).filter p=(List.range a).filter p:=by
 obtain ⟨d,rfl⟩:∃ d,b=a+d:=⟨b-a,oM⟩
 rw [List.range_add,List.filter_append]
 have e1:((List.range d).map (a + ·)).filter p=[]:=by
  rw [List.filter_eq_nil_iff];intro n hn;obtain ⟨j,hj,rfl⟩:=List.mem_map.1 hn;rw [hp (a+j) oM (by have:=List.mem_range.1 hj;omega)];simp
 rw [e1,List.append_nil]
theorem Sift.step {ws:List Nat} {i k m:Nat} {l:List Nat} (h:Sift ws i (2^k*(2*m+1)) l):k<64∧Sift ws i (2^k*(2*m)) (l++[64*i+k]):=by
 obtain ⟨h1,t,ht,hl,hb⟩:=h
 have hk64:k<64:=by
  rcases Nat.lt_or_ge k 64 with h2|h2
  ·exact h2
  ·have h3:2^64≤2^k:=Nat.pow_le_pow_right oM h2;have h4:2^k*1≤2^k*(2*m+1):=Nat.mul_le_mul_left _ oM;have h5:(2:Nat)^64=18446744073709551616:=by decide
   omega
 have hbk:=hb k;rw [mT,if_neg oM,if_pos rfl] at hbk;have hbk':=Bool.and_eq_true_iff.1 hbk.symm;have htk:t≤k:=by simpa using hbk'.1
 refine ⟨hk64,?_,k+1,oM,?_,λ j=>?_⟩
 ·have h4:2^k*(2*m)≤2^k*(2*m+1):=Nat.mul_le_mul_left _ oM;omega
 ·rw [hl,show 64*i+(k+1)=(64*i+k)+1 by omega,List.range_succ,List.filter_append];congr 1
  ·refine (filter_gap _ _ _ oM λ z hz1 hz2=>?_).symm;obtain ⟨j,rfl⟩:∃ j,z=64*i+j:=⟨z-64*i,oM⟩
   rw [bitF_at _ _ _ oM];have hj:=hb j;rw [mT,if_pos oM,decide_eq_true (show t≤j by omega),Bool.true_and] at hj;exact hj.symm
  ·have:bitF ws (64*i+k)=true:=by rw [bitF_at _ _ _ hk64];exact hbk'.2
   simp [List.filter,this]
 ·have e:=low_off k m;rw [← e,Nat.testBit_and,hb j,bit_pred];by_cases h2:j<k
  ·have h3:=hb j;rw [mT,if_pos h2] at h3;rw [← h3];have:¬ k+1≤j:=by omega
   simp [this]
  ·by_cases h3:j=k
   ·subst h3;have:¬ j+1≤j:=by omega
    simp [this]
   ·rw [if_neg h2,if_neg h3];have h4:=hb j;rw [mT,if_neg h2,if_neg h3,decide_eq_true (show t≤j by omega),Bool.true_and] at h4;rw [← h4,decide_eq_true (show t≤j by omega),decide_eq_true (show k+1≤j by omega)];simp
theorem Sift.done {ws:List Nat} {i:Nat} {l:List Nat} (h:Sift ws i 0 l):l=(List.range (64*(i+1))).filter (bitF ws):=by
 obtain ⟨h1,t,ht,hl,hb⟩:=h;rw [hl];refine (filter_gap _ _ _ oM λ z hz1 hz2=>?_).symm;obtain ⟨j,rfl⟩:∃ j,z=64*i+j:=⟨z-64*i,oM⟩
 rw [bitF_at _ _ _ oM];have hj:=hb j;rw [Nat.zero_testBit,decide_eq_true (show t≤j by omega),Bool.true_and] at hj;exact hj.symm
theorem Sift.len {ws:List Nat} {i y:Nat} {l:List Nat} (h:Sift ws i y l):l.length≤64*i+64:=by
 obtain ⟨h1,t,ht,hl,hb⟩:=h;rw [hl];refine Nat.le_trans (List.length_filter_le _ _) ?_;rw [List.length_range];omega
theorem rdBlk_inv {r p t:Bs} (hr:eZ r) (h:kF r=some (p,t)):r=bS p++t:=by
 unfold kF at h;split at h;rotate_left
 ·cases h
 rename_i h0;split at h;rotate_left
 ·cases h
 rename_i hfit;simp only [Option.some.injEq,Prod.mk.injEq] at h;obtain ⟨hp,ht⟩:=h;have hb:=(numV_back (r:=r) (v:=(fW r).1) (k:=(fW r).2.1) hr (by rw [← h0])).1;have hl:p.length=(fW r).1:=by rw [← hp,List.length_take];omega
 unfold bS;rw [hl,List.append_assoc,← hp,← ht,List.take_append_drop];exact hb
theorem rdItems_inv:∀ {c:Nat} {r t:Bs} {l:bT},eZ r→iS c r=some (l,t)→r=l.flatMap (λ x=>bS x.1++bS x.2)++t∧l.length=c
 | 0,r,t,l,hr,h=>by
  simp only [iS,Option.some.injEq,Prod.mk.injEq] at h;obtain ⟨rfl,rfl⟩:=h;exact ⟨rfl,rfl⟩
 | c+1,r,t,l,hr,h=>by
  unfold iS at h;split at h
  ·cases h
  rename_i k r1 e1;split at h
  ·cases h
  rename_i v r2 e2;split at h
  ·cases h
  rename_i l' r3 e3;simp only [Option.some.injEq,Prod.mk.injEq] at h;obtain ⟨rfl,rfl⟩:=h;have b2:=(nI hr e1).2;have b4:=(nI b2 e2).2;obtain ⟨q1,q2⟩:=rdItems_inv b4 e3;refine ⟨?_,by simp [q2]⟩;rw [rdBlk_inv hr e1,rdBlk_inv b2 e2];conv=>lhs;rw [q1]
  simp
theorem rdWord_inv {r t:Bs} {k:Nat} (hr:eZ r) (h:rdWord r=some (k,t)):r=bP k++t:=by
 unfold rdWord at h;split at h;rotate_left
 ·cases h
 rename_i h4;simp only [Option.some.injEq,Prod.mk.injEq] at h;obtain ⟨rfl,rfl⟩:=h
 match r,h4 with
 | a::b::c::d::r',_ =>
  have h1:=hr a sM;have h2:=hr b sM;have h3:=hr c sM;have h4:=hr d sM;simp only [le4,bP,List.getD_cons_zero,List.getD_cons_succ,List.drop_succ_cons,List.drop_zero,List.cons_append,List.nil_append,List.cons.injEq,and_true];omega
theorem rdKids_inv:∀ {c:Nat} {r t:Bs} {l:List Nat},eZ r→kZ c r=some (l,t)→r=l.flatMap bP++t∧l.length=c
 | 0,r,t,l,hr,h=>by
  simp only [kZ,Option.some.injEq,Prod.mk.injEq] at h;obtain ⟨rfl,rfl⟩:=h;exact ⟨rfl,rfl⟩
 | c+1,r,t,l,hr,h=>by
  unfold kZ at h;split at h
  ·cases h
  rename_i k r1 e1;split at h
  ·cases h
  rename_i l' r3 e3;simp only [Option.some.injEq,Prod.mk.injEq] at h;obtain ⟨rfl,rfl⟩:=h;have e:=rdWord_inv hr e1;have b2:eZ r1:=λ x hx=>hr x (by rw [e];exact List.mem_append_right _ hx);obtain ⟨q1,q2⟩:=rdKids_inv b2 e3;refine ⟨?_,by simp [q2]⟩;rw [e];conv=>lhs;rw [q1]
  simp
theorem rdKeys_inv:∀ {c:Nat} {r t:Bs} {l:List Bs},eZ r→lA c r=some (l,t)→r=l.flatMap bS++t∧l.length=c
 | 0,r,t,l,hr,h=>by
  simp only [lA,Option.some.injEq,Prod.mk.injEq] at h;obtain ⟨rfl,rfl⟩:=h;exact ⟨rfl,rfl⟩
 | c+1,r,t,l,hr,h=>by
  unfold lA at h;split at h
  ·cases h
  rename_i k r1 e1;split at h
  ·cases h
  rename_i l' r3 e3;simp only [Option.some.injEq,Prod.mk.injEq] at h;obtain ⟨rfl,rfl⟩:=h;have e:=rdBlk_inv hr e1;have b2:=(nI hr e1).2;obtain ⟨q1,q2⟩:=rdKeys_inv b2 e3;refine ⟨?_,by simp [q2]⟩;rw [e];conv=>lhs;rw [q1]
  simp
theorem zeros_of:∀ {r:Bs},r.all (λ x=>x==0)=true→r=List.replicate r.length 0
 | [],_=>rfl
 | x::r,h=>by
  simp only [List.all_cons,Bool.and_eq_true,beq_iff_eq] at h;simp only [List.length_cons,List.replicate_succ,List.cons.injEq];exact ⟨h.1,zeros_of h.2⟩
theorem finN_inv {m n:Nd} {r:Bs} (h:finN m r=some n):m=n∧bF n=true∧r=List.replicate r.length 0:=by
 unfold finN at h;split at h
 ·rename_i hc;simp only [Option.some.injEq] at h;subst h;obtain ⟨h1,h2⟩:=Bool.and_eq_true_iff.1 hc;exact ⟨rfl,h2,zeros_of h1⟩
 ·cases h
theorem readN_inv {b:Bs} {n:Nd} (hb:eZ b) (h:fZ b=some n):∃ z,b=dC n++List.replicate z 0:=by
 have hok:=readN_ok h;unfold fZ at h;split at h;rotate_left
 ·cases h
 rename_i kd c r;have hr:eZ r:=λ x hx=>hb x (by simp [hx]);split at h
 ·cases h
 rename_i h8;split at h
 ·rename_i h0;subst h0;split at h
  ·cases h
  rename_i l r1 e1;obtain ⟨rfl,q2,q3⟩:=finN_inv h;obtain ⟨q4,q5⟩:=rdItems_inv hr e1;refine ⟨r1.length,?_⟩;unfold dC;rw [if_pos (show bN (⟨l,[],[]⟩:Nd)=true from rfl)];simp only [List.cons_append,List.nil_append,List.cons.injEq,true_and];rw [← q3];exact ⟨q5.symm,q4⟩
 split at h;rotate_left
 ·cases h
 rename_i h1;obtain ⟨h1,h2⟩:=h1;subst h1;split at h
 ·cases h
 rename_i l r1 e1;split at h
 ·cases h
 rename_i ks r2 e2;obtain ⟨rfl,q2,q3⟩:=finN_inv h;obtain ⟨q4,q5⟩:=rdKids_inv hr e1;have hr1:eZ r1:=rdKids_by hr e1;obtain ⟨q6,q7⟩:=rdKeys_inv hr1 e2;refine ⟨r2.length,?_⟩
 have hl:bN (⟨[],l,ks⟩:Nd)=false:=by
  cases hll:bN (⟨[],l,ks⟩:Nd) with
  | false=>rfl
  | true=>have:=bM.1 hll;simp only at this;rw [this] at q5;simp at q5;omega
 unfold dC;rw [if_neg (by rw [hl];simp)];simp only [List.cons_append,List.nil_append,List.cons.injEq,true_and];rw [← q3];refine ⟨q5.symm,?_⟩;rw [q4];conv=>lhs;rw [q6]
 simp
theorem nodeP_body {s:Pg} {n:Nat} {nd:Nd} (hs:PgB s) (h:cB s n=some nd):bF nd=true∧∃ z,s.body n=dC nd++List.replicate z 0:=by
 refine ⟨fG h,?_⟩;unfold cB at h;split at h
 ·exact readN_inv (hs n) h
 ·cases h
theorem toks_apart:∀ {ls:List Sb} {ks:List Bs},ls.length=ks.length+1→(toks ls ks).Pairwise RT→ls.Pairwise λ x y=>RT (.T x) (.T y):=by
 intro ls
 induction ls with
 | nil=>intro ks _ _;exact List.Pairwise.nil
 | cons x r ih =>
  intro ks hl hp;simp only [toks] at hp;obtain ⟨h1,h2⟩:=List.pairwise_cons.1 hp;have hr:r.length=ks.length:=by simpa using hl
  refine List.pairwise_cons.2 ⟨λ y hy=>h1 _ (nW hr hy),?_⟩
  cases r with
  | nil=>exact List.Pairwise.nil
  | cons z zs=>cases ks with
   | nil=>cases hr
   | cons k ks =>
    simp only [KT] at h2;exact ih (ks:=ks) (by simpa using hr) (List.pairwise_cons.1 h2).2
theorem Vt.beneath {s:Pg}:∀ {h:Nat} {nd:Nd} {l:bT} {ps:List Nat},Vt s h nd l ps→∀ p∈ps,∃ h' nd' l' ps',h'<h∧cB s p=some nd'∧Vt s h' nd' l' ps'∧4≤aR nd'∧∀ x∈l',x∈l
 | 0,nd,l,ps,h,p,hp=>by obtain ⟨_,rfl,_⟩:=h;cases hp
 | h+1,nd,l,ps,⟨ls,e1,e2,e3,_,_,e6,e7,e8⟩,p,hp=>by
  rw [e7] at hp;obtain ⟨x,hx,hpx⟩:=List.mem_flatMap.1 hp;obtain ⟨nd',g1,g2,g3⟩:=e8 x hx;have hsub:∀ y∈x.its,y∈l:=λ y hy=>by rw [e6];exact List.mem_flatMap.2 ⟨x,hx,hy⟩
  rcases List.mem_cons.1 hpx with rfl|hpx
  ·exact ⟨h,nd',_,_,oM,g1,g3,g2,hsub⟩
  ·obtain ⟨h',n',l',ps',q1,q2,q3,q4,q5⟩:=g3.beneath p hpx;exact ⟨h',n',l',ps',oM,q2,q3,q4,λ y hy=>hsub y (q5 y hy)⟩
theorem Vt.notin {s:Pg} {h n:Nat} {nd:Nd} {l:bT} {ps:List Nat} (hv:Vt s h nd l ps) (hn:cB s n=some nd):n∉ps:=λ hp=>by
 obtain ⟨h',nd',l',ps',q1,q2,q3,_⟩:=hv.beneath n hp;rw [hn] at q2;cases q2;have:=hv.height q3;omega
theorem Vt.nodup {s:Pg}:∀ {h:Nat} {nd:Nd} {l:bT} {ps:List Nat},Vt s h nd l ps→ps.Nodup
 | 0,nd,l,ps,h=>by obtain ⟨_,rfl,_⟩:=h;exact List.Pairwise.nil
 | h+1,nd,l,ps,⟨ls,e1,e2,e3,e4,_,e6,e7,e8⟩=>by
  rw [e7];refine List.pairwise_flatMap.2 ⟨λ x hx=>?_,?_⟩
  ·obtain ⟨nd',g1,g2,g3⟩:=e8 x hx;exact List.nodup_cons.2 ⟨g3.notin g1,g3.nodup⟩
  ·refine List.Pairwise.imp_of_mem (λ {x y} hx hy hxy p hp q hq e=>?_) (toks_apart e3 e4);subst e
   have at_:∀ z∈ls,p∈z.page::z.ps→∃ h' nd' l' ps',cB s p=some nd'∧Vt s h' nd' l' ps'∧4≤aR nd'∧∀ a∈l',a∈z.its:=λ z hz hpz=>by
    obtain ⟨nd',g1,g2,g3⟩:=e8 z hz;rcases List.mem_cons.1 hpz with e|hpz
    ·rw [e];exact ⟨h,nd',_,_,g1,g3,g2,λ a ha=>ha⟩
    ·obtain ⟨h',n',l',ps',q1,q2,q3,q4,q5⟩:=g3.beneath p hpz;exact ⟨h',n',l',ps',q2,q3,q4,q5⟩
   obtain ⟨h1,n1,l1,p1,a1,a2,a3,a4⟩:=at_ x hx hp;obtain ⟨h2,n2,l2,p2,b1,b2,b3,b4⟩:=at_ y hy hq;rw [a1] at b1;cases b1;obtain rfl:=a2.height b2;obtain ⟨rfl,rfl⟩:=a2.same b2;obtain ⟨a,ha⟩:=List.exists_mem_of_ne_nil _ (a2.ne oM);exact eI _ (hxy a (a4 a ha) a (b4 a ha))
theorem TrAt.nodup {s:Pg} {r:Option Nat} {lv:Nat} {l:bT} {ps:List Nat} (h:TrAt s r lv l ps):ps.Nodup:=by
 cases r with
 | none=>rw [h.2.2];exact List.Pairwise.nil
 | some n =>
  obtain ⟨h,nd,ps',e1,e2,e3,e4,rfl⟩:=h;exact List.nodup_cons.2 ⟨e3.notin e2,e3.nodup⟩
structure Kd (s:Pg) (h:Nat) (p:Nd) (ls:List Sb):Prop where
 it:p.items=[]
 kids:p.kids=ls.map (·.page)
 len:ls.length=p.keys.length+1
 tok:(toks ls p.keys).Pairwise RT
 keys:∀ k∈p.keys,eF k=true
 sub:∀ x∈ls,∃ nd',cB s x.page=some nd'∧4≤aR nd'∧Vt s h nd' x.its x.ps
theorem Kd.vt {s:Pg} {h:Nat} {p:Nd} {ls:List Sb} (k:Kd s h p ls):Vt s (h+1) p (ls.flatMap (·.its)) (ls.flatMap λ x=>x.page::x.ps) :=
 ⟨ls,k.it,k.kids,k.len,k.tok,k.keys,rfl,rfl,k.sub⟩
theorem Vt.kd {s:Pg} {h:Nat} {p:Nd} {l:bT} {ps:List Nat} (v:Vt s (h+1) p l ps):∃ ls,Kd s h p ls∧l=ls.flatMap (·.its):=by
 obtain ⟨ls,e1,e2,e3,e4,e5,e6,e7,e8⟩:=v;exact ⟨ls,⟨e1,e2,e3,e4,e5,e8⟩,e6⟩
def Ctx (s:Pg) (H:Nat) (top:Nd):List (Nd×Nat)→Nat→Nd→bT→bT→Prop
 | [],h,nd,L,R=>h=H∧nd=top∧L=[]∧R=[]
 | (p,i)::fr,h,nd,L,R=>∃ L0 R0 ls x,Ctx s H top fr (h+1) p L0 R0∧Kd s h p ls∧ls[i]? = some x∧cB s x.page=some nd∧L=L0++(ls.take i).flatMap (·.its)∧R=(ls.drop (i+1)).flatMap (·.its)++R0
theorem split_at {α : Type}:∀ {ls:List α} {i:Nat} {x : α},ls[i]? = some x→ls=ls.take i++x::ls.drop (i+1)
 | [],i,x,h=>by simp at h
 | a::r,0,x,h=>by simp at h;simp [h]
 | a::r,i+1,x,h=>by
  have:=split_at (ls:=r) (i:=i) (x:=x) (by simpa using h);simp only [List.take_succ_cons,List.drop_succ_cons,List.cons_append,List.cons.injEq,true_and];exact this
theorem eA {α : Type} {ls:List α} {i:Nat} {x : α} (h:ls[i]? = some x):ls.take (i+1)=ls.take i++[x]:=by
 rw [List.take_add_one,h];rfl
theorem gT {α : Type} {ls:List α} {i:Nat} {x : α} (h:ls[i]? = some x):ls.drop i=x::ls.drop (i+1):=by
 obtain ⟨hi,e⟩:=List.getElem?_eq_some_iff.1 h;rw [List.drop_eq_getElem_cons hi,e]
theorem Ctx.all {s:Pg} {H:Nat} {top:Nd} {all:bT} {ps0:List Nat} (hv:Vt s H top all ps0):∀ {fr:List (Nd×Nat)} {h:Nat} {nd:Nd} {L R:bT},Ctx s H top fr h nd L R→∃ l ps,Vt s h nd l ps∧L++l++R=all∧(fr=[]∨4≤aR nd)∧h+fr.length=H∧∀ p∈ps,p∈ps0
 | [],h,nd,L,R,c=>by
  obtain ⟨rfl,rfl,rfl,rfl⟩:=c;exact ⟨all,ps0,hv,sM,.inl rfl,rfl,λ p hp=>hp⟩
 | (p,i)::fr,h,nd,L,R,c=>by
  obtain ⟨L0,R0,ls,x,c0,k,hx,hn,rfl,rfl⟩:=c;obtain ⟨l,ps,v,e,_,hh,hsub⟩:=Ctx.all hv c0;obtain ⟨e1,e1'⟩:=v.same k.vt;obtain ⟨nd',g1,g2,g3⟩:=k.sub x (List.mem_of_getElem? hx);rw [hn] at g1;cases g1;refine ⟨x.its,x.ps,g3,?_,.inr g2,by simp only [List.length_cons];omega,λ p hp=>hsub p (by rw [e1'];exact List.mem_flatMap.2 ⟨x,List.mem_of_getElem? hx,List.mem_cons_of_mem _ hp⟩)⟩;rw [← e,e1];conv=>rhs;rw [split_at hx]
  simp
def PartsOf (s:Pg):Nat→Nd→List bT→Prop
 | 0,nd,qs=>qs=nd.items.map λ x=>[x]
 | h+1,nd,qs=>∃ ls,Kd s h nd ls∧qs=ls.map (·.its)
theorem hZ {α : Type}:∀ l:List α,(l.map λ x=>[x]).flatten=l
 | []=>rfl
 | a::r=>by simp [hZ r]
theorem eT (ls:List Sb):(ls.map (·.its)).flatten=ls.flatMap (·.its):=by rw [List.flatMap_def]
theorem Vt.parts {s:Pg}:∀ {h:Nat} {nd:Nd} {l:bT} {ps:List Nat},Vt s h nd l ps→∃ qs,PartsOf s h nd qs∧qs.flatten=l∧qs.length=aR nd
 | 0,nd,l,ps,v=>by
  obtain ⟨rfl,_⟩:=v;exact ⟨_,rfl,hZ _,by simp [aR]⟩
 | h+1,nd,l,ps,v=>by
  obtain ⟨ls,k,e⟩:=v.kd;exact ⟨_,⟨ls,k,rfl⟩,by rw [eT,e],by simp [aR,k.it,k.kids]⟩
theorem PartsOf.same {s:Pg}:∀ {h:Nat} {nd:Nd} {l:bT} {ps:List Nat} {qs:List bT},Vt s h nd l ps→PartsOf s h nd qs→qs.flatten=l∧qs.length=aR nd
 | 0,nd,l,ps,qs,v,p=>by
  obtain ⟨rfl,_⟩:=v;cases p;exact ⟨hZ _,by simp [aR]⟩
 | h+1,nd,l,ps,qs,v,p=>by
  obtain ⟨ls,k,rfl⟩:=p;exact ⟨by rw [eT];exact (k.vt.same v).1,by simp [aR,k.it,k.kids]⟩
def Pos (s:Pg) (H:Nat) (top:Nd) (fr:List (Nd×Nat)) (nd:Nd) (c:Nat) (pre post:bT):Prop :=
 ∃ h L R qs,Ctx s H top fr h nd L R∧PartsOf s h nd qs∧c≤qs.length∧pre=L++(qs.take c).flatten∧post=(qs.drop c).flatten++R
section
variable {s:Pg} {H:Nat} {top:Nd} {al:bT} {ps0:List Nat}
theorem Pos.all (hv:Vt s H top al ps0) {fr:List (Nd×Nat)} {nd:Nd} {c:Nat} {pre post:bT} (p:Pos s H top fr nd c pre post):pre++post=al∧c≤aR nd∧fr.length≤H∧(fr=[]∨4≤aR nd):=by
 obtain ⟨h,L,R,qs,c0,pq,hc,rfl,rfl⟩:=p;obtain ⟨l,ps,v,e,h4,hh,_⟩:=c0.all hv;obtain ⟨e1,e2⟩:=PartsOf.same v pq;refine ⟨?_,oM,oM,h4⟩;rw [← e,← e1];conv=>rhs;rw [← List.take_append_drop c qs,List.flatten_append]
 simp
theorem Pos.popR (hv:Vt s H top al ps0) {p nd:Nd} {i:Nat} {fr:List (Nd×Nat)} {pre post:bT} (q:Pos s H top ((p,i)::fr) nd (aR nd) pre post):Pos s H top fr p (i+1) pre post:=by
 obtain ⟨h,L,R,qs,c0,pq,hc,rfl,rfl⟩:=q;obtain ⟨l,ps,v,e,_⟩:=c0.all hv;obtain ⟨e1,e2⟩:=PartsOf.same v pq;obtain ⟨L0,R0,ls,x,c1,k,hx,hn,rfl,rfl⟩:=c0;obtain ⟨nd',g1,g2,g3⟩:=k.sub x (List.mem_of_getElem? hx);rw [hn] at g1;cases g1;have e3:=(g3.same v).1;have hi:=(List.getElem?_eq_some_iff.1 hx).1;refine ⟨h+1,L0,R0,ls.map (·.its),c1,⟨ls,k,rfl⟩,by simp;omega,?_,?_⟩
 ·rw [← e2,List.take_length,e1,← e3,← List.map_take,eT,eA hx];simp
 ·rw [← e2,List.drop_length,← List.map_drop,eT];simp
theorem Pos.popL (hv:Vt s H top al ps0) {p nd:Nd} {i:Nat} {fr:List (Nd×Nat)} {pre post:bT} (q:Pos s H top ((p,i)::fr) nd 0 pre post):Pos s H top fr p i pre post:=by
 obtain ⟨h,L,R,qs,c0,pq,hc,rfl,rfl⟩:=q;obtain ⟨l,ps,v,e,_⟩:=c0.all hv;obtain ⟨e1,e2⟩:=PartsOf.same v pq;obtain ⟨L0,R0,ls,x,c1,k,hx,hn,rfl,rfl⟩:=c0;obtain ⟨nd',g1,g2,g3⟩:=k.sub x (List.mem_of_getElem? hx);rw [hn] at g1;cases g1;have e3:=(g3.same v).1;have hi:=(List.getElem?_eq_some_iff.1 hx).1;refine ⟨h+1,L0,R0,ls.map (·.its),c1,⟨ls,k,rfl⟩,by simp;omega,?_,?_⟩
 ·rw [← List.map_take,eT];simp
 ·rw [List.drop_zero,e1,← e3,← List.map_drop,eT,gT hx];simp
theorem Pos.endR (hv:Vt s H top al ps0) {nd:Nd} {pre post:bT} (q:Pos s H top [] nd (aR nd) pre post):pre=al∧post=[]:=by
 have ha:=(q.all hv).1;obtain ⟨h,L,R,qs,c0,pq,hc,rfl,rfl⟩:=q;obtain ⟨l,ps,v,e,_⟩:=c0.all hv;obtain ⟨e1,e2⟩:=PartsOf.same v pq;obtain ⟨rfl,rfl,rfl,rfl⟩:=c0;have h0:(qs.drop (aR nd)).flatten++([]:bT)=[]:=by rw [← e2,List.drop_length];rfl
 rw [h0,List.append_nil] at ha;exact ⟨ha,h0⟩
theorem Pos.endL (hv:Vt s H top al ps0) {nd:Nd} {pre post:bT} (q:Pos s H top [] nd 0 pre post):pre=[]∧post=al:=by
 have ha:=(q.all hv).1;obtain ⟨h,L,R,qs,c0,pq,hc,rfl,rfl⟩:=q;obtain ⟨rfl,rfl,rfl,rfl⟩:=c0;simp only [List.take_zero,List.flatten_nil,List.append_nil,List.nil_append] at ha ⊢;exact ⟨trivial,ha⟩
theorem Pos.downR (hv:Vt s H top al ps0) {fr:List (Nd×Nat)} {nd nd':Nd} {c k:Nat} {pre post:bT} (q:Pos s H top fr nd c pre post) (hk:nd.kids[c]? = some k) (hn:cB s k=some nd'):Pos s H top ((nd,c)::fr) nd' 0 pre post:=by
 obtain ⟨h,L,R,qs,c0,pq,hc,rfl,rfl⟩:=q;obtain ⟨_,_,v,_⟩:=c0.all hv
 cases h with
 | zero=>obtain ⟨rfl,_⟩:=v;simp at hk
 | succ h =>
  obtain ⟨ls,kd,rfl⟩:=pq;rw [kd.kids,List.getElem?_map] at hk;obtain ⟨x,hx,rfl⟩:=Option.map_eq_some_iff.1 hk;obtain ⟨nd2,g1,g2,g3⟩:=kd.sub x (List.mem_of_getElem? hx);rw [hn] at g1;cases g1;obtain ⟨qs,p1,p2,p3⟩:=g3.parts;refine ⟨h,_,_,qs,⟨L,R,ls,x,c0,kd,hx,hn,rfl,rfl⟩,p1,Nat.zero_le _,?_,?_⟩
  ·simp only [List.take_zero,List.flatten_nil,List.append_nil,← List.map_take,eT]
  ·rw [List.drop_zero,p2,← List.map_drop,eT,gT hx];simp
theorem Pos.downL (hv:Vt s H top al ps0) {fr:List (Nd×Nat)} {nd nd':Nd} {c k:Nat} {pre post:bT} (q:Pos s H top fr nd (c+1) pre post) (hk:nd.kids[c]? = some k) (hn:cB s k=some nd'):Pos s H top ((nd,c)::fr) nd' (aR nd') pre post:=by
 obtain ⟨h,L,R,qs,c0,pq,hc,rfl,rfl⟩:=q;obtain ⟨_,_,v,_⟩:=c0.all hv
 cases h with
 | zero=>obtain ⟨rfl,_⟩:=v;simp at hk
 | succ h =>
  obtain ⟨ls,kd,rfl⟩:=pq;rw [kd.kids,List.getElem?_map] at hk;obtain ⟨x,hx,rfl⟩:=Option.map_eq_some_iff.1 hk;obtain ⟨nd2,g1,g2,g3⟩:=kd.sub x (List.mem_of_getElem? hx);rw [hn] at g1;cases g1;obtain ⟨qs,p1,p2,p3⟩:=g3.parts;refine ⟨h,_,_,qs,⟨L,R,ls,x,c0,kd,hx,hn,rfl,rfl⟩,p1,oM,?_,?_⟩
  ·rw [← p3,List.take_length,p2,← List.map_take,eT,eA hx];simp
  ·rw [← p3,List.drop_length,← List.map_drop,eT];simp
theorem Pos.leaf (hv:Vt s H top al ps0) {fr:List (Nd×Nat)} {nd:Nd} {c:Nat} {pre post:bT} (q:Pos s H top fr nd c pre post) (hl:bN nd=true) {x:Bs×Bs} (hx:nd.items[c]? = some x):∃ post',post=x::post'∧Pos s H top fr nd (c+1) (pre++[x]) post':=by
 obtain ⟨h,L,R,qs,c0,pq,hc,rfl,rfl⟩:=q;obtain ⟨_,_,v,_⟩:=c0.all hv
 cases h with
 | succ h =>
  obtain ⟨ls,kd,rfl⟩:=pq;have h1:=bM.1 hl;have h2:=kd.len;rw [kd.kids,List.map_eq_nil_iff] at h1;rw [h1] at h2;cases h2
 | zero =>
  cases pq;have hq:(nd.items.map λ x=>[x])[c]? = some [x]:=by rw [List.getElem?_map,hx];rfl
  have hi:=(List.getElem?_eq_some_iff.1 hq).1;refine ⟨((nd.items.map λ x=>[x]).drop (c+1)).flatten++R,?_,⟨0,L,R,_,c0,rfl,hi,?_,rfl⟩⟩
  ·rw [gT hq];rfl
  ·rw [eA hq];simp
theorem Pos.back (hv:Vt s H top al ps0) {fr:List (Nd×Nat)} {nd:Nd} {c:Nat} {pre post:bT} (q:Pos s H top fr nd (c+1) pre post) (hl:bN nd=true) {x:Bs×Bs} (hx:nd.items[c]? = some x):∃ pre',pre=pre'++[x]∧Pos s H top fr nd c pre' (x::post):=by
 obtain ⟨h,L,R,qs,c0,pq,hc,rfl,rfl⟩:=q;obtain ⟨_,_,v,_⟩:=c0.all hv
 cases h with
 | succ h =>
  obtain ⟨ls,kd,rfl⟩:=pq;have h1:=bM.1 hl;have h2:=kd.len;rw [kd.kids,List.map_eq_nil_iff] at h1;rw [h1] at h2;cases h2
 | zero =>
  cases pq;have hq:(nd.items.map λ x=>[x])[c]? = some [x]:=by rw [List.getElem?_map,hx];rfl
  have hi:=(List.getElem?_eq_some_iff.1 hq).1;refine ⟨L++((nd.items.map λ x=>[x]).take c).flatten,?_,⟨0,L,R,_,c0,rfl,oM,rfl,?_⟩⟩
  ·rw [eA hq];simp
  ·rw [gT hq];rfl
theorem Pos.node (hv:Vt s H top al ps0) (hs:PgOk s) {n:Nat} (hn:cB s n=some top) {fr:List (Nd×Nat)} {nd:Nd} {c:Nat} {pre post:bT} (q:Pos s H top fr nd c pre post):bF nd=true∧(bN nd=true→aR nd=nd.items.length)∧(bN nd=false→aR nd=nd.kids.length) ∧
  ∀ (i k:Nat),nd.kids[i]? = some k→∃ nd',cB s k=some nd'∧4≤aR nd'∧k∈ps0∧k<s.count:=by
 obtain ⟨h,L,R,qs,c0,pq,hc,rfl,rfl⟩:=q;obtain ⟨l,ps,v,e,h4,hh,hsub⟩:=c0.all hv
 have hnode:∃ k,cB s k=some nd:=by
  cases fr with
  | nil=>obtain ⟨rfl,rfl,_⟩:=c0;exact ⟨n,hn⟩
  | cons f fr=>obtain ⟨L0,R0,ls,x,c1,k,hx,hn,rfl,rfl⟩:=c0;exact ⟨_,hn⟩
 obtain ⟨k0,hk0⟩:=hnode;refine ⟨fG hk0,λ hl=>by have:=bM.1 hl;simp [aR,this],λ hl=>?_,λ i k hk=>?_⟩
 ·cases h with
  | zero=>obtain ⟨rfl,_⟩:=v;simp [bN] at hl
  | succ h=>obtain ⟨ls,e1,_⟩:=v;simp [aR,e1]
 ·cases h with
  | zero=>obtain ⟨rfl,_⟩:=v;simp at hk
  | succ h =>
   obtain ⟨ls,e1,e2,e3,e4,e5,e6,e7,e8⟩:=v;rw [e2,List.getElem?_map] at hk;obtain ⟨x,hx,rfl⟩:=Option.map_eq_some_iff.1 hk;obtain ⟨nd',g1,g2,g3⟩:=e8 x (List.mem_of_getElem? hx);exact ⟨nd',g1,g2,hsub _ (by rw [e7];exact List.mem_flatMap.2 ⟨x,List.mem_of_getElem? hx,sM⟩),dW (dN g1)⟩
def Sk (s:Pg) (H:Nat) (top:Nd) (key:Bs) (fr:List (Nd×Nat)) (nd:Nd):Prop:=∃ h L R,Ctx s H top fr h nd L R∧(∀ x∈L,eO x.1 key)∧∀ x∈R,¬ eO x.1 key
theorem Sk.start (key:Bs):Sk s H top key [] top:=⟨H,[],[],⟨rfl,rfl,rfl,rfl⟩,sM,sM⟩
theorem Sk.down (hv:Vt s H top al ps0) {key:Bs} {fr:List (Nd×Nat)} {nd:Nd} (q:Sk s H top key fr nd) (hl:bN nd=false):∃ k nd',nd.kids[fX nd.keys key]? = some k∧cB s k=some nd'∧k∈ps0∧Sk s H top key ((nd,fX nd.keys key)::fr) nd':=by
 obtain ⟨h,L,R,c0,q1,q2⟩:=q;obtain ⟨l,ps,v,e,h4,hh,hsub⟩:=c0.all hv
 cases h with
 | zero=>obtain ⟨rfl,_⟩:=v;simp [bN] at hl
 | succ h =>
  obtain ⟨ls,kd,e0⟩:=v.kd;have eps:=(v.same kd.vt).2;obtain ⟨la,x,lb,ka,kb,e1,e2,e3,e4,e5,e6,e7,e8⟩:=kid_split kd.len kd.tok key;have hx:ls[fX nd.keys key]? = some x:=by rw [e1,← e3];simp
  obtain ⟨nd',g1,g2,g3⟩:=kd.sub x (List.mem_of_getElem? hx);have ht:ls.take (fX nd.keys key)=la:=by rw [e1,← e3];simp
  have hd:ls.drop (fX nd.keys key+1)=lb:=by rw [e1,← e3];simp
  refine ⟨x.page,nd',by rw [kd.kids,List.getElem?_map,hx];rfl,g1,hsub _ (by rw [eps];exact List.mem_flatMap.2 ⟨x,List.mem_of_getElem? hx,sM⟩),h,_,_,⟨L,R,ls,x,c0,kd,hx,g1,rfl,rfl⟩,?_,?_⟩
  ·rw [ht];intro y hy;rcases List.mem_append.1 hy with hy|hy
   ·exact q1 y hy
   ·exact TK_its e4.symm e6 y hy
  ·rw [hd];intro y hy;rcases List.mem_append.1 hy with hy|hy
   ·exact lT (KT_its e5 e7 y hy)
   ·exact q2 y hy
theorem Sk.found (hv:Vt s H top al ps0) {key:Bs} {fr:List (Nd×Nat)} {nd:Nd} (q:Sk s H top key fr nd) (hl:bN nd=true):∃ pre post,Pos s H top fr nd (cN nd.items key) pre post∧(∀ x∈pre,eO x.1 key)∧∀ x∈post,¬ eO x.1 key:=by
 obtain ⟨h,L,R,c0,q1,q2⟩:=q;obtain ⟨l,ps,v,e,h4,hh,hsub⟩:=c0.all hv
 cases h with
 | succ h =>
  obtain ⟨ls,kd,e0⟩:=v.kd;have h1:=bM.1 hl;have h2:=kd.len;rw [kd.kids,List.map_eq_nil_iff] at h1;rw [h1] at h2;cases h2
 | zero =>
  obtain ⟨rfl,_,v3,_⟩:=v;have hle:cN l key≤l.length:=dX _ _;refine ⟨_,_,⟨0,L,R,_,c0,rfl,by simpa using hle,rfl,rfl⟩,?_,?_⟩
  ·intro x hx;rw [← List.map_take,hZ] at hx;rcases List.mem_append.1 hx with hx|hx
   ·exact q1 x hx
   ·obtain ⟨j,hj,rfl⟩:=List.mem_take_iff_getElem.1 hx;have:=gC (λ x:Bs×Bs=>decide (bW x.1 key<0)) l j _ (show j<cN l key by simp only at hj;omega) (List.getElem?_eq_getElem (by simp only at hj;omega));simpa [eO] using this
  ·intro x hx;rw [← List.map_drop,hZ] at hx;rcases List.mem_append.1 hx with hx|hx
   ·obtain ⟨j,hj,rfl⟩:=List.mem_drop_iff_getElem.1 hx;simp only at hj;have hlt:cN l key<l.length:=by omega
    have h1:¬ eO (l[cN l key]'hlt).1 key:=by
     have:=jN (λ x:Bs×Bs=>decide (bW x.1 key<0)) l (l[cN l key]'hlt) (by rw [show (l.takeWhile λ x:Bs×Bs=>decide (bW x.1 key<0)).length=cN l key from rfl];exact List.getElem?_eq_getElem hlt);simpa [eO] using this
    cases j with
    | zero=>simpa using h1
    | succ j =>
     have:=(List.pairwise_iff_getElem.1 v3) (cN l key) (cN l key+(j+1)) hlt oM oM;intro g;exact h1 (dK this g)
   ·exact q2 x hx
end
theorem findN_split {key:Bs}:∀ {pre post:bT},(∀ x∈pre,eO x.1 key)→(∀ x∈post,¬ eO x.1 key)→cN (pre++post) key=pre.length
 | [],[],_,_=>rfl
 | [],y::r,_,h=>by
  rw [List.nil_append,iX,if_neg (h y sM)];rfl
 | x::pre,post,h,g=>by
  rw [List.cons_append,iX,if_pos (h x sM),findN_split (λ y hy=>h y (List.mem_cons_of_mem _ hy)) g];rfl
def jY (n j:Nat):Option Nat:=if j<n then some j else none
def ixB:Nat→Option Nat
 | 0=>none
 | c+1=>some c
def kB (to:Bs) (x:Bs×Bs):Bool:=to.isEmpty || decide (bW x.1 to<0)
def kC (fr:Bs) (x:Bs×Bs):Bool:=decide (0≤bW x.1 fr)
def jH (k:Bs) (x:Bs×Bs):Bool:=decide (bW x.1 k≤0)
def kE (all:bT) (to:Bs):Option Nat→bT
 | none=>[]
 | some j=>(all.drop j).takeWhile (kB to)
def mK (all:bT) (fr:Bs):Option Nat→bT
 | none=>[]
 | some j=>(all.take (j+1)).reverse.takeWhile (kC fr)
def inR (fr to:Bs) (x:Bs×Bs):Bool:=kC fr x&&kB to x
def eN (all:bT) (fr to:Bs) (back:Bool):bT:=(if back then all.reverse else all).filter (inR fr to)
theorem geFr_iff {k:Bs} {x:Bs×Bs}:kC k x=true↔¬ eO x.1 k:=by simp [kC,eO]
theorem inTo_iff {k:Bs} {x:Bs×Bs}:kB k x=true↔k=[]∨eO x.1 k:=by simp [kB,eO]
theorem jG {k:Bs} {x:Bs×Bs}:jH k x=true↔¬ eO k x.1:=by
 simp only [jH,decide_eq_true_eq,cmpB_le];rfl
theorem tw_filter {α : Type} {R : α→α→Prop} {P : α→Bool} (hd:∀ x y,R x y→P y=true→P x=true):∀ {l:List α},l.Pairwise R→l.takeWhile P=l.filter P
 | [],_=>rfl
 | x::l,h=>by
  obtain ⟨h1,h2⟩:=List.pairwise_cons.1 h;rw [List.takeWhile_cons,List.filter_cons]
  cases hx:P x with
  | true=>simp only [if_true];rw [tw_filter hd h2]
  | false =>
   simp only [Bool.false_eq_true,if_false];symm
   rw [List.filter_eq_nil_iff];intro y hy hp;rw [hd x y (h1 y hy) hp] at hx;cases hx
theorem dw_filter {α : Type} {R : α→α→Prop} {P : α→Bool} (hd:∀ x y,R x y→P y=true→P x=true):∀ {l:List α},l.Pairwise R→l.drop (l.takeWhile P).length=l.filter λ x=>!P x
 | [],_=>rfl
 | x::l,h=>by
  obtain ⟨h1,h2⟩:=List.pairwise_cons.1 h;rw [List.takeWhile_cons,List.filter_cons]
  cases hx:P x with
  | true =>
   simp only [if_true,List.length_cons,List.drop_succ_cons,Bool.not_true,Bool.false_eq_true,if_false];exact dw_filter hd h2
  | false =>
   simp only [Bool.false_eq_true,if_false,List.length_nil,List.drop_zero,Bool.not_false,if_true];congr 1
   symm
   rw [List.filter_eq_self];intro y hy
   cases hp:P y with
   | false=>rfl
   | true=>rw [hd x y (h1 y hy) hp] at hx;cases hx
theorem take_tw {α : Type} (P : α→Bool):∀ l:List α,l.take (l.takeWhile P).length=l.takeWhile P
 | []=>rfl
 | x::l=>by
  rw [List.takeWhile_cons]
  cases P x with
  | true=>simp [take_tw P l]
  | false=>simp
theorem rev_pw {α : Type} {R : α→α→Prop} {l:List α} (h:l.Pairwise R):l.reverse.Pairwise λ x y=>R y x:=List.pairwise_reverse.2 h
theorem down_to (to:Bs):∀ x y:Bs×Bs,eO x.1 y.1→kB to y=true→kB to x=true:=λ x y h g=>by
 rw [inTo_iff] at *;exact g.imp id λ g=>dK h g
theorem down_lt (k:Bs):∀ x y:Bs×Bs,eO x.1 y.1→(decide (bW y.1 k<0))=true→(decide (bW x.1 k<0))=true:=λ x y h g=>by
 simp only [decide_eq_true_eq] at *;exact dK h g
theorem up_fr (k:Bs):∀ x y:Bs×Bs,eO y.1 x.1→kC k y=true→kC k x=true:=λ x y h g=>by
 rw [geFr_iff] at *;exact λ e=>g (dK h e)
theorem down_le (k:Bs):∀ x y:Bs×Bs,eO x.1 y.1→jH k y=true→jH k x=true:=λ x y h g=>by
 rw [jG] at *;exact λ e=>g (dK e h)
theorem restF_ix (all:bT) (to:Bs) (j:Nat):kE all to (jY all.length j)=(all.drop j).takeWhile (kB to):=by
 unfold jY;split
 ·rfl
 ·rw [List.drop_eq_nil_of_le oM];rfl
theorem restB_ix (all:bT) (fr:Bs) (c:Nat):mK all fr (ixB c)=(all.take c).reverse.takeWhile (kC fr):=by
 cases c with
 | zero=>rfl
 | succ c=>rfl
theorem restF_find {all:bT} (hs:Srt all) (key to:Bs):kE all to (jY all.length (cN all key))=all.filter λ x=>kC key x&&kB to x:=by
 rw [restF_ix];have e:all.drop (cN all key)=all.filter λ x=>!decide (bW x.1 key<0):=dw_filter (down_lt key) hs;rw [e,tw_filter (down_to to) (List.Pairwise.filter _ hs),List.filter_filter];congr 1
 funext x
 rw [Bool.and_comm];congr 1
 simp only [kC];rw [← decide_not];congr 1
 simp only [Int.not_lt]
theorem restB_to {all:bT} (hs:Srt all) (P:Bs×Bs→Bool) (hp:∀ x y:Bs×Bs,eO x.1 y.1→P y=true→P x=true) (fr:Bs):mK all fr (ixB (all.takeWhile P).length)=all.reverse.filter λ x=>kC fr x&&P x:=by
 rw [restB_ix,take_tw,tw_filter hp hs,← List.filter_reverse,tw_filter (R:=λ x y=>eO y.1 x.1) (up_fr fr) (List.Pairwise.filter _ (rev_pw (R:=λ x y:Bs×Bs=>eO x.1 y.1) hs)),List.filter_filter]
theorem range_F {all:bT} (hs:Srt all) (fr to:Bs):kE all to (jY all.length (cN all fr))=eN all fr to false:=restF_find hs fr to
theorem range_B {all:bT} (hs:Srt all) (fr to:Bs):mK all fr (ixB (all.takeWhile (kB to)).length)=eN all fr to true:=restB_to hs _ (down_to to) fr
theorem seek_F1 {all:bT} (hs:Srt all) {fr to key:Bs} (h:eO key fr):eN all fr to false=(eN all fr to false).filter (kC key):=by
 symm
 rw [List.filter_eq_self];intro x hx;simp only [eN,Bool.false_eq_true,if_false,List.mem_filter,inR,Bool.and_eq_true] at hx;rw [geFr_iff];intro g;exact (geFr_iff.1 hx.2.1) (dK g h)
theorem seek_F2 {all:bT} (hs:Srt all) {fr to key:Bs} (h:¬ eO key fr):kE all to (jY all.length (cN all key))=(eN all fr to false).filter (kC key):=by
 rw [restF_find hs];simp only [eN,Bool.false_eq_true,if_false,List.filter_filter];congr 1
 funext x
 simp only [inR]
 cases h1:kC key x with
 | false=>rfl
 | true =>
  have:kC fr x=true:=by
   rw [geFr_iff] at *;intro g;rcases klt_or key x.1 with q|q|q
   ·exact h (dK q g)
   ·rw [q] at h;exact h g
   ·exact h1 q
  rw [this];rfl
theorem seek_B1 {all:bT} (hs:Srt all) {fr to key:Bs} (ht:to≠[]) (h:¬ eO key to):eN all fr to true=(eN all fr to true).filter (jH key):=by
 symm
 rw [List.filter_eq_self];intro x hx;simp only [eN,if_true,List.mem_filter,inR,Bool.and_eq_true] at hx;rw [jG];intro g;rcases inTo_iff.1 hx.2.2 with q|q
 ·exact ht q
 ·exact h (dK g q)
theorem seek_B2 {all:bT} (hs:Srt all) {fr to key:Bs} (h:to=[]∨eO key to):mK all fr (ixB (all.takeWhile (jH key)).length)=(eN all fr to true).filter (jH key):=by
 rw [restB_to hs _ (down_le key)];simp only [eN,if_true,List.filter_filter];congr 1
 funext x
 simp only [inR]
 cases h1:jH key x with
 | false=>simp
 | true =>
  have:kB to x=true:=by
   rw [jG] at h1;rw [inTo_iff];refine h.imp id λ h=>?_;rcases klt_or key x.1 with q|q|q
   ·exact absurd q h1
   ·rw [← q];exact h
   ·exact dK q h
  rw [this];simp
theorem le_count {all:bT} (hs:Srt all) (key:Bs):(all.takeWhile (jH key)).length=if eR all key then cN all key+1 else cN all key:=by
 induction all with
 | nil=>rfl
 | cons x r ih =>
  obtain ⟨h1,h2⟩:=List.pairwise_cons.1 hs;rw [iX,thereN_cons,List.takeWhile_cons];by_cases hx:eO x.1 key
  ·have:jH key x=true:=by rw [jG];exact lT hx
   rw [if_pos hx,if_pos hx,this];simp only [if_true,List.length_cons,ih h2];split<;>rfl
  ·rw [if_neg hx,if_neg hx];by_cases he:x.1=key
   ·have:jH key x=true:=by rw [jG,he];exact eI _
    rw [this];simp only [he,decide_true,if_true,List.length_cons]
    have:r.takeWhile (jH key)=[]:=by
     cases r with
     | nil=>rfl
     | cons y r =>
      have:=h1 y sM;rw [he] at this;rw [List.takeWhile_cons,if_neg];rw [jG];exact λ g=>g this
    rw [this];rfl
   ·have:jH key x=false:=by
     cases h:jH key x with
     | false=>rfl
     | true =>
      rw [jG] at h;rcases klt_or key x.1 with q|q|q
      ·exact absurd q h
      ·exact absurd q.symm he
      ·exact absurd q hx
    rw [this];simp [he]
end Go.Proofs.YtfpadnmdafiddaaGreatDoor
namespace Go.Proofs.YtfpadnmdafiddaaGreatDoor
open Go Go.RowKit Go.V
theorem fF (F G:Nat→Prop) (a:Option Addr) (n c:Nat) (b:Option Addr) (m d:Nat) (x y:Bs) (w:World) (hx:Sl F w 1 a n c (bB x)) (hy:Sl G w 1 b m d (bB y)) :
  Calls Tryz.prog 140 #[.slice a n c,.slice b m d] w (Ret λ v w'=>v=.int .i64 (bW x y)∧Grow w w'):=by
 refine V.calls (args:=[_,_]) Tryz.func140 rfl Tryz.ntmps140 rfl rfl ?_;have hn:=hx.le;have hm:=hy.le;have ln:=gX hx;have lm:=gX hy;repeat refine aF ?_
 refine aX (S:=Nat) (λ i=>[(5,.int .i64 (i:Int)),(0,.slice a n c),(1,.slice b m d)]) (λ i w'=>Grow w w'∧i≤min n m∧bW x y=bW (x.drop i) (y.drop i)) (λ i=>min n m-i) 0 ⟨rfl,rfl,rfl,trivial⟩ ⟨Grow.refl w,oM,rfl⟩ ?_;rintro i w1 ⟨hg1,hi,hc⟩;by_cases hlt:i<min n m
 ·obtain ⟨p,hp⟩:∃ p,x[i]? = some p:=⟨_,List.getElem?_eq_getElem oM⟩
  obtain ⟨q,hq⟩:∃ q,y[i]? = some q:=⟨_,List.getElem?_eq_getElem oM⟩
  have hcx:w1.cell? (at' a i)=some (.int .u8 (p:Int)):=(hx.grow hg1).row.cell (bys_at hp);have hcy:w1.cell? (at' b i)=some (.int .u8 (q:Int)):=(hy.grow hg1).row.cell (bys_at hq);have hst:=cmpB_step hp hq;have hin:i<n:=by omega
  have him:i<m:=by omega
  repeat refine aF ?_
  apply T.any 8 [is _,is _,is _,is _,is _,is _,is _,is _];(· kernel_rfl);(· ((repeat' (first|exact aN|refine aK ?_ ?_));(iterate 8 (· (refine yQ λ wq _ _ hgq=>?_;(repeat (first|refine aF ?_|(refine aH ?_;first|refine aC rfl rfl rfl hin (Nat.mul_one _) ⟨F,_,hx.grow (hg1.trans (by assumption))⟩ rfl ?_|refine aC rfl rfl rfl him (Nat.mul_one _) ⟨G,_,hy.grow (hg1.trans (by assumption))⟩ rfl ?_)));exact aD rfl yG rfl)))));(rintro _ _ _ hgr _ _;(refine yT ?_))
  rename_i w2 _ _ _ _;by_cases h1:p<q
  ·rw [if_pos h1] at hst;repeat refine aF ?_
   exact bA rfl ⟨_,rfl,congrArg (Value.int .i64) oM,yG⟩
  ·rw [if_neg h1] at hst;have hg2:Grow w w2:=hg1.trans hgr;have hcx2:w2.cell? (at' a i)=some (.int .u8 (p:Int)):=(hx.grow hg2).row.cell (bys_at hp);have hcy2:w2.cell? (at' b i)=some (.int .u8 (q:Int)):=(hy.grow hg2).row.cell (bys_at hq);clear hgr hcx hcy hg1;repeat refine aF ?_
   apply T.any 8 [is _,is _,is _,is _,is _,is _,is _,is _];(· kernel_rfl);(· ((repeat' (first|exact aN|refine aK ?_ ?_));(iterate 8 (· (refine yQ λ wq _ _ hgq=>?_;(repeat (first|refine aF ?_|(refine aH ?_;first|refine aC rfl rfl rfl hin (Nat.mul_one _) ⟨F,_,hx.grow (hg2.trans (by assumption))⟩ rfl ?_|refine aC rfl rfl rfl him (Nat.mul_one _) ⟨G,_,hy.grow (hg2.trans (by assumption))⟩ rfl ?_)));exact aD rfl yG rfl)))));(rintro _ _ _ hgr _ _;(refine yT ?_))
   by_cases h2:q<p
   ·rw [if_pos h2] at hst;repeat refine aF ?_
    exact bA rfl ⟨_,rfl,congrArg (Value.int .i64) oM,yG⟩
   ·rw [if_neg h2] at hst;repeat refine aF ?_
    exact aE (i+1) ⟨rfl,rfl,rfl,trivial⟩ ⟨yG,oM,oM⟩ oM
 ·have he:=cmpB_end (x:=x) (y:=y) (i:=i) oM;have hfin:bW x y=cmpN n m:=by rw [hc,he,ln,lm]
  unfold cmpN at hfin;by_cases hin:i<n
  ·have hmn:m<n:=by omega
   rw [if_neg oM,if_pos hmn] at hfin;repeat refine aF ?_
   exact bA rfl ⟨_,rfl,congrArg (Value.int .i64) hfin.symm,yG⟩
  ·by_cases hnm:n<m
   ·rw [if_pos hnm] at hfin;repeat refine aF ?_
    exact bA rfl ⟨_,rfl,congrArg (Value.int .i64) hfin.symm,yG⟩
   ·have hmn:¬ m<n:=by omega
    rw [if_neg hnm,if_neg hmn] at hfin;repeat refine aF ?_
    exact bA rfl ⟨_,rfl,congrArg (Value.int .i64) hfin.symm,yG⟩
theorem rkey_c (a:Option Addr) (n c:Nat) (k:Bs) (b:Bool) (w:World) (hk:eF k=b) (hl:n=k.length) :
  Calls Tryz.prog 105 #[.slice a n c] w (Ret λ v w'=>v=.bool b∧w=w'):=by
 refine V.calls (args:=[_]) Tryz.func105 rfl Tryz.ntmps105 rfl rfl ?_;subst hk hl;by_cases h1:1≤k.length
 ·by_cases h2:k.length≤16
  ·repeat refine aF ?_
   exact bA rfl ⟨_,rfl,by simp [eF,h1,h2],rfl⟩
  ·repeat refine aF ?_
   exact bA rfl ⟨_,rfl,by simp [eF,h1,h2],rfl⟩
 ·repeat refine aF ?_
  exact bA rfl ⟨_,rfl,by simp [eF,h1],rfl⟩
theorem rvalue_c (a:Option Addr) (n c:Nat) (k:Bs) (b:Bool) (w:World) (hk:fC k=b) (hl:n=k.length) :
  Calls Tryz.prog 118 #[.slice a n c] w (Ret λ v w'=>v=.bool b∧w=w'):=by
 refine V.calls (args:=[_]) Tryz.func118 rfl Tryz.ntmps118 rfl rfl ?_;subst hk hl;by_cases h2:k.length≤32
 ·repeat refine aF ?_
  exact bA rfl ⟨_,rfl,by simp [fC,h2],rfl⟩
 ·repeat refine aF ?_
  exact bA rfl ⟨_,rfl,by simp [fC,h2],rfl⟩
theorem rleaf_c (x:NV) (b:Bool) (w:World) (h:decide (x.n2=0)=b) :
  Calls Tryz.prog 114 #[x.val] w (Ret λ v w'=>v=.bool b∧Grow w w'):=by
 refine V.calls (args:=[_]) Tryz.func114 rfl Tryz.ntmps114 rfl rfl ?_;subst h;by_cases h2:x.n2=0
 ·repeat (first|refine aF ?_|refine yI λ bk w' hg hbk hsz hsz'=>?_)
  exact bA rfl ⟨_,rfl,by simp [h2],yG⟩
 ·repeat (first|refine aF ?_|refine yI λ bk w' hg hbk hsz hsz'=>?_)
  exact bA rfl ⟨_,rfl,by simp [h2],yG⟩
theorem rleaf_nd {F:Nat→Prop} {w0:World} {x:NV} {nd:Nd} (h:NdAt F w0 x nd) {b:Bool} (hb:bN nd=b) (w:World) :
  Calls Tryz.prog 114 #[x.val] w (Ret λ v w'=>v=.bool b∧Grow w w'):=by
 refine rleaf_c x b w ?_;have h2:=bR h.kids
 cases b with
 | true=>rw [bM] at hb;rw [h2,hb];rfl
 | false =>
  cases hd:decide (x.n2=0) with
  | false=>rfl
  | true =>
   rw [decide_eq_true_eq,h2] at hd;rw [bM.2 (List.eq_nil_of_length_eq_zero hd)] at hb;cases hb
end Go.Proofs.YtfpadnmdafiddaaGreatDoor
