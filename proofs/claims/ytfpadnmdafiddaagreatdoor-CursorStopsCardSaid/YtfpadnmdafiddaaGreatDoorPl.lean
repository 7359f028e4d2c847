import Derived.Test.YtfpadnmdafiddaaGreatDoorP0
import Derived.Test.YtfpadnmdafiddaaGreatDoorPk
import Derived.Test.YtfpadnmdafiddaaGreatDoorPd
import Derived.WideKeyArgs2
import Derived.Laws.BytesArg
import Derived.Test.YtfpadnmdafiddaaGreatDoorPb
import Derived.Lib.LaidTab
import Derived.LaidLaws
import Derived.Test.YtfpadnmdafiddaaGreatDoorPf
import Derived.Sort.MapsRangeIn
import Derived.Lib.SlKeysI
import Derived.ArgAppend
import Derived.Lib.AppendZeros
import Derived.Lib.AppendZerosOnto
import Derived.Test.YtfpadnmdafiddaaGreatDoorPh
import Derived.Test.YtfpadnmdafiddaaGreatDoorPg
import Derived.Test.YtfpadnmdafiddaaGreatDoorPi
set_option linter.all false
set_option maxHeartbeats 16000000
set_option maxRecDepth 100000
namespace Go.Proofs.YtfpadnmdafiddaaGreatDoor
theorem getMc (n k:Nat) (t:Part) (M:fS):gM ((n,t)::M) k=if k=n then some t else gM M k:=by
 unfold gM;rw [List.find?_cons];by_cases h:k=n
 ·subst h;simp
 ·rw [if_neg h];have:(n==k)=false:=by simp;omega
  simp [this]
theorem toks_adj:∀ {ls:List Sb} {ks:List Bs},ls.length=ks.length+1→(toks ls ks).Pairwise RT→∀ i k,ks[i]? = some k→(∀ x,ls[i]? = some x→RT (.T x) (.K k))∧∀ y,ls[i+1]? = some y→RT (.K k) (.T y)
 | [],ks,h,_,_,_,_=>by cases h
 | [x],ks,h,_,i,k,hk=>by
  obtain rfl:ks=[]:=List.eq_nil_of_length_eq_zero (by simpa using h.symm);cases hk
 | x::y::r,[],h,_,i,k,hk=>by cases hk
 | x::y::r,k0::ks,h,hp,i,k,hk=>by
  have e:toks (x::y::r) (k0::ks)=Tok.T x::Tok.K k0::toks (y::r) ks:=rfl;rw [e] at hp;obtain ⟨p1,p2⟩:=List.pairwise_cons.1 hp;obtain ⟨p3,p4⟩:=List.pairwise_cons.1 p2
  cases i with
  | zero =>
   simp only [List.getElem?_cons_zero,Option.some.injEq] at hk;subst hk;refine ⟨λ z hz=>?_,λ z hz=>?_⟩
   ·simp only [List.getElem?_cons_zero,Option.some.injEq] at hz;subst hz;exact p1 _ sM
   ·simp only [List.getElem?_cons_succ,List.getElem?_cons_zero,Option.some.injEq] at hz;subst hz;exact p3 _ (by simp [toks])
  | succ i =>
   have ih:=toks_adj (ls:=y::r) (ks:=ks) (by simpa using h) p4 i k (by simpa using hk);exact ⟨λ z hz=>ih.1 z (by simpa using hz),λ z hz=>ih.2 z (by simpa using hz)⟩
def firstK (l:bT):Bs:=(l.getD 0 ([],[])).1
def lastK (l:bT):Bs:=(l.getD (l.length-1) ([],[])).1
theorem firstK_mem {l:bT} (h:l≠[]):∃ x∈l,x.1=firstK l:=by
 cases l with
 | nil=>exact absurd rfl h
 | cons x r=>exact ⟨x,sM,rfl⟩
theorem lastK_mem {l:bT} (h:l≠[]):∃ x∈l,x.1=lastK l:=by
 have hl:l.length-1<l.length:=by
  cases l with
  | nil=>exact absurd rfl h
  | cons x r=>simp
 refine ⟨l[l.length-1],List.getElem_mem hl,?_⟩;unfold lastK;rw [List.getD_eq_getElem?_getD,List.getElem?_eq_getElem hl];rfl
theorem firstK_append {l r:bT} (h:l≠[]):firstK (l++r)=firstK l:=by
 cases l with
 | nil=>exact absurd rfl h
 | cons x t=>rfl
theorem lastK_append {l r:bT} (h:r≠[]):lastK (l++r)=lastK r:=by
 unfold lastK;have hr:0<r.length:=List.length_pos_iff.2 h;rw [List.getD_eq_getElem?_getD,List.getD_eq_getElem?_getD,List.length_append,List.getElem?_append_right oM];congr 3
 omega
def DeepM (M:fS):Nat→Nat→Prop
 | 0,_=>False
 | f+1,n=>∃ t,gM M n=some t∧∀ k∈t.node.kids,DeepM M f k
def SubM (M M':fS):Prop:=∀ k t,gM M k=some t→gM M' k=some t
theorem DeepM.sub {M M':fS} (h:SubM M M'):∀ {f n:Nat},DeepM M f n→DeepM M' f n
 | 0,_,h=>h.elim
 | f+1,n,⟨t,h1,h2⟩=>⟨t,h n t h1,λ k hk=>(h2 k hk).sub h⟩
theorem flatMap_same {α β : Type} {f g : α→List β}:∀ {l:List α},(∀ x∈l,f x=g x)→l.flatMap f=l.flatMap g
 | [],_=>rfl
 | x::r,h=>by
  simp only [List.flatMap_cons];rw [h x sM,flatMap_same λ y hy=>h y (List.mem_cons_of_mem _ hy)]
theorem itemsP_sub {M M':fS} (h:SubM M M'):∀ {f n:Nat},DeepM M f n→itemsP M' f n=itemsP M f n
 | 0,_,h=>h.elim
 | f+1,n,⟨t,h1,h2⟩=>by
  rw [itemsP,itemsP,h1,h n t h1];simp only;congr 1
  exact flatMap_same λ k hk=>itemsP_sub h (h2 k hk)
structure Known (s:Pg) (M:fS) (n:Nat) (t:Part) (h:Nat) (l:bT) (ps:List Nat):Prop where
 node:cD s n=some t.node
 vt:Vt s h t.node l ps
 sz:1≤aT t.node
 lv:t.levels=h+1
 low:t.low=firstK l
 high:t.high=lastK l
 deep:DeepM M (h+1) n
 its:itemsP M (h+1) n=l
 ps:∀ p∈ps,∃ t,gM M p=some t
theorem Known.sub {s:Pg} {M M':fS} (hs:SubM M M') {n h:Nat} {t:Part} {l:bT} {ps:List Nat} (k:Known s M n t h l ps):Known s M' n t h l ps :=
 ⟨k.node,k.vt,k.sz,k.lv,k.low,k.high,k.deep.sub hs,(itemsP_sub hs k.deep).trans k.its,λ p hp=>let ⟨t,ht⟩:=k.ps p hp;⟨t,hs p t ht⟩⟩
def MemoOk (s:Pg) (M:fS):Prop:=∀ n t,gM M n=some t→∃ h l ps,Known s M n t h l ps
theorem MemoOk.at_ {s:Pg} {M:fS} (hM:MemoOk s M) {n h:Nat} {t:Part} {nd:Nd} {l:bT} {ps:List Nat} (ht:gM M n=some t) (hn:cD s n=some nd) (hv:Vt s h nd l ps):t.node=nd∧Known s M n t h l ps:=by
 obtain ⟨h',l',a0,k⟩:=hM n t ht;have e:=k.node;rw [hn] at e;cases e;obtain rfl:=hv.height k.vt;obtain ⟨rfl,rfl⟩:=hv.same k.vt;exact ⟨rfl,k⟩
theorem SubM.cons {M:fS} {n:Nat} {t:Part} (h:gM M n=none):SubM M ((n,t)::M):=λ k t' hk=>by
 rw [getMc,if_neg]
 ·exact hk
 ·intro e;subst e;rw [h] at hk;cases hk
theorem MemoOk.cons {s:Pg} {M:fS} (hM:MemoOk s M) {n h:Nat} {t:Part} {l:bT} {ps:List Nat} (h0:gM M n=none) (k:Known s ((n,t)::M) n t h l ps):MemoOk s ((n,t)::M):=λ m t' hm=>by
 rw [getMc] at hm;split at hm
 ·rename_i e;subst e;cases hm;exact ⟨h,l,ps,k⟩
 ·obtain ⟨h',l',ps',k'⟩:=hM m t' hm;exact ⟨h',l',ps',k'.sub (SubM.cons h0)⟩
def PartT (s:Pg) (h f:Nat):Prop:=∀ {n:Nat} {nd:Nd} {l:bT} {ps:List Nat} {M:fS},MemoOk s M→cD s n=some nd→Vt s h nd l ps→1≤aT nd →
  ∃ t M',kZ s f n M=some (t,M')∧MemoOk s M'∧SubM M M'∧gM M' n=some t∧t.node=nd∧Known s M' n t h l ps∧∀ k t',gM M' k=some t'→(∃ t,gM M k=some t)∨k∈n::ps
theorem kids_tr {s:Pg} {h f:Nat} (hh:h+1≤15) (ih:PartT s h f) {nd:Nd} {ls:List Sb} (e3:ls.length=nd.keys.length+1) (e4:(toks ls nd.keys).Pairwise RT) (e8:∀ x∈ls,∃ nd',cD s x.page=some nd'∧4≤aT nd'∧Vt s h nd' x.its x.ps) :
  ∀ (rest done:List Sb) {M:fS} {t:Part},ls=done++rest→MemoOk s M→t.node=nd→(done≠[]→t.levels=h+2∧t.low=firstK (ls.flatMap (·.its))∧t.high=lastK (done.flatMap (·.its))) →
   ∃ t' M',lY (kZ s f) nd (rest.map (·.page)) done.length t M=some (t',M')∧MemoOk s M'∧SubM M M'∧(∀ x∈rest,∃ tx,gM M' x.page=some tx∧Known s M' x.page tx h x.its x.ps)∧(∀ k t',gM M' k=some t'→(∃ t,gM M k=some t)∨k∈pgs rest) ∧
    t'.node=nd∧t'.levels=h+2∧t'.low=firstK (ls.flatMap (·.its))∧t'.high=lastK (ls.flatMap (·.its)):=by
 intro rest
 induction rest with
 | nil =>
  intro done M t e hM hn hd;rw [List.append_nil] at e;subst e;have n0:ls≠[]:=by intro e;subst e;cases e3
  obtain ⟨h1,h2,h3⟩:=hd n0;refine ⟨t,M,?_,hM,λ _ _ h=>h,(λ x hx=>by cases hx),λ k t' hk=>.inl ⟨t',hk⟩,hn,h1,h2,h3⟩;simp only [List.map_nil,lY];rw [if_neg oM]
 | cons x r ihr =>
  intro done M t e hM hn hd;obtain ⟨u0,g1,g2,g3⟩:=e8 x (by rw [e];simp);obtain ⟨p,M1,q1,q2,q3,q4,q5,q6,q7⟩:=ih hM g1 g3 oM;have a0:x.its≠[]:=g3.ne oM;have i0:ls[done.length]? = some x:=by rw [e];simp
  let t1:Part:=if done.length=0 then ⟨nd,p.levels+1,p.low,p.high⟩ else ⟨nd,t.levels,t.low,p.high⟩
  have m0:t1.node=nd∧t1.levels=h+2∧t1.low=firstK (ls.flatMap (·.its))∧t1.high=lastK ((done++[x]).flatMap (·.its)):=by
   have k0:p.high=lastK ((done++[x]).flatMap (·.its)):=by
    rw [q6.high];simp only [List.flatMap_append,List.flatMap_cons,List.flatMap_nil,List.append_nil];exact (lastK_append a0).symm
   simp only [t1];split
   ·rename_i h0;have o0:done=[]:=List.eq_nil_of_length_eq_zero h0;refine ⟨rfl,by rw [q6.lv],?_,k0⟩;rw [q6.low,e,o0];simp only [List.nil_append,List.flatMap_cons];exact (firstK_append a0).symm
   ·rename_i h0;obtain ⟨k1,k2,k3⟩:=hd (λ e=>h0 (by rw [e];rfl));exact ⟨rfl,k1,k2,k0⟩
  obtain ⟨w1,w2,w3,w4⟩:=m0;have t0:¬ aT p.node<4:=by rw [q5];omega
  have s0:(p.levels+1==t1.levels)=true:=by rw [w2,q6.lv];simp
  have q0:(decide (0<done.length)&&decide (bY p.low (nd.keys.getD (done.length-1) [])<0))=false:=by
   by_cases h0:0<done.length
   ·have hk:done.length-1<nd.keys.length:=by
     have:done.length<ls.length:=by rw [e];simp
     omega
    have e0:=List.getElem?_eq_getElem hk;have f0:=(toks_adj e3 e4 (done.length-1) _ e0).2 x (by rw [show done.length-1+1=done.length by omega];exact i0);obtain ⟨y,hy,ey⟩:=firstK_mem a0;have h1:=f0 y hy;rw [ey,← q6.low] at h1;rw [List.getD_eq_getElem?_getD,e0];simp only [Option.getD_some,Bool.and_eq_false_iff,decide_eq_false_iff_not];right;exact h1
   ·simp [h0]
  have p0:(decide (done.length<nd.keys.length)&&decide (0≤bY p.high (nd.keys.getD done.length [])))=false:=by
   by_cases h0:done.length<nd.keys.length
   ·have e0:=List.getElem?_eq_getElem h0;have f0:=(toks_adj e3 e4 done.length _ e0).1 x i0;obtain ⟨y,hy,ey⟩:=lastK_mem a0;have h1:=f0 y hy;rw [ey,← q6.high] at h1;rw [List.getD_eq_getElem?_getD,e0];simp only [Option.getD_some,Bool.and_eq_false_iff,decide_eq_false_iff_not];right;unfold fQ at h1;omega
   ·simp [h0]
  obtain ⟨t',M',u1,u2,u3,u4,u5,u6⟩:=ihr (done++[x]) (M:=M1) (t:=t1) (by rw [e];simp) q2 w1 (λ _=>⟨w2,w3,w4⟩);refine ⟨t',M',?_,u2,λ k tk hk=>u3 k tk (q3 k tk hk),?_,?_,u6⟩
  ·simp only [List.map_cons,lY,q1];rw [if_neg]
   ·rw [List.length_append,List.length_cons,List.length_nil] at u1;exact u1
   ·have g0:decide (aT p.node<4)=false:=decide_eq_false t0;rw [show (p.levels+1==(if done.length=0 then (⟨nd,p.levels+1,p.low,p.high⟩:Part) else ⟨nd,t.levels,t.low,p.high⟩).levels)=true from s0];rw [g0,q0,p0];simp
  ·intro y hy;rcases List.mem_cons.1 hy with rfl|hy
   ·exact ⟨p,u3 _ _ q4,q6.sub u3⟩
   ·exact u4 y hy
  ·intro k tk hk;rcases u5 k tk hk with ⟨t2,l0⟩|j0
   ·rcases q7 k t2 l0 with h1|h1
    ·exact .inl h1
    ·right;unfold pgs;simp only [List.flatMap_cons,List.mem_append];exact .inl h1
   ·right;unfold pgs at j0 ⊢;simp only [List.flatMap_cons,List.mem_append];exact .inr j0
theorem part_tr (s:Pg):∀ (h f:Nat),h<f→h≤15→PartT s h f:=by
 intro h
 induction h with
 | zero =>
  intro f hf j0 n nd l ps M hM hn hv hz
  cases hg:gM M n with
  | some t =>
   obtain ⟨k1,k2⟩:=hM.at_ hg hn hv;exact ⟨t,M,by unfold kZ;rw [hg],hM,λ _ _ h=>h,hg,k1,k2,λ k t' hk=>.inl ⟨t',hk⟩⟩
  | none =>
   obtain ⟨f,rfl⟩:∃ g,f=g+1:=⟨f-1,oM⟩
   have h0:=hv.leaf.2 rfl;obtain ⟨rfl,rfl,h3,h4⟩:=id hv
   have f0:Known s ((n,fF ⟨l,[],[]⟩)::M) n (fF ⟨l,[],[]⟩) 0 l []:=by
    have e0:gM ((n,fF ⟨l,[],[]⟩)::M) n=some (fF ⟨l,[],[]⟩):=by rw [getMc,if_pos rfl]
    exact ⟨hn,hv,hz,rfl,rfl,rfl,⟨_,e0,(λ k hk=>by cases hk)⟩,(by rw [itemsP,e0];simp [fF]),(λ p hp=>by cases hp)⟩
   refine ⟨fF ⟨l,[],[]⟩,(n,fF ⟨l,[],[]⟩)::M,?_,hM.cons hg f0,SubM.cons hg,by rw [getMc,if_pos rfl],rfl,f0,λ k t' hk=>?_⟩
   ·unfold kZ;rw [hg];simp only [hn];rw [if_pos h0]
   ·rw [getMc] at hk;split at hk
    ·rename_i e;exact .inr (by simp [e])
    ·exact .inl ⟨t',hk⟩
 | succ h ih =>
  intro f hf j0 n nd l ps M hM hn hv hz
  cases hg:gM M n with
  | some t =>
   obtain ⟨k1,k2⟩:=hM.at_ hg hn hv;exact ⟨t,M,by unfold kZ;rw [hg],hM,λ _ _ h=>h,hg,k1,k2,λ k t' hk=>.inl ⟨t',hk⟩⟩
  | none =>
   obtain ⟨f,rfl⟩:∃ g,f=g+1:=⟨f-1,oM⟩
   have h0:¬ bN nd=true:=λ e=>by have:=hv.leaf.1 e;omega
   obtain ⟨ls,e1,e2,e3,e4,e5,e6,e7,e8⟩:=id hv;obtain ⟨t,M1,u1,u2,u3,u4,u5,u6,u7,u8,u9⟩:=kids_tr j0 (ih f oM oM) e3 e4 e8 ls [] (M:=M) (t:=⟨nd,0,[],[]⟩) rfl hM rfl (λ h=>absurd rfl h)
   have i0:gM M1 n=none:=by
    cases hc:gM M1 n with
    | none=>rfl
    | some tc =>
     rcases u5 n tc hc with ⟨t2,h2⟩|h2
     ·rw [hg] at h2;cases h2
     ·have k0:n∈ps:=by rw [e7];exact h2
      obtain ⟨h',m0,l',l0,k1,k2,k3⟩:=hv.below n k0;rw [hn] at k2;cases k2;have:=hv.height k3;omega
   have e0:gM ((n,t)::M1) n=some t:=by rw [getMc,if_pos rfl]
   have a0:SubM M1 ((n,t)::M1):=SubM.cons i0
   have f0:Known s ((n,t)::M1) n t (h+1) l ps:=by
    refine ⟨by rw [u6];exact hn,by rw [u6];exact hv,by rw [u6];exact hz,u7,by rw [u8,e6],by rw [u9,e6],⟨t,e0,λ k hk=>?_⟩,?_,λ p hp=>?_⟩
    ·rw [u6,e2] at hk;obtain ⟨x,hx,rfl⟩:=List.mem_map.1 hk;obtain ⟨tx,_,kx⟩:=u4 x hx;exact kx.deep.sub a0
    ·rw [itemsP,e0];simp only [u6,e1,List.nil_append,e2,e6];rw [List.flatMap_map]
     exact flatMap_same λ x hx=>by
      obtain ⟨tx,_,kx⟩:=u4 x hx;exact (itemsP_sub a0 kx.deep).trans kx.its
    ·rw [e7] at hp;obtain ⟨x,hx,g0⟩:=List.mem_flatMap.1 hp;obtain ⟨tx,h1,kx⟩:=u4 x hx;rcases List.mem_cons.1 g0 with rfl|g0
     ·exact ⟨tx,a0 _ _ h1⟩
     ·obtain ⟨tp,h2⟩:=kx.ps p g0;exact ⟨tp,a0 _ _ h2⟩
   refine ⟨t,(n,t)::M1,?_,u2.cons i0 f0,λ k tk hk=>a0 k tk (u3 k tk hk),e0,u6,f0,λ k tk hk=>?_⟩
   ·unfold kZ;rw [hg];simp only [hn];rw [if_neg h0,e2];simp only [List.length_nil] at u1;rw [u1]
   ·rw [getMc] at hk;split at hk
    ·rename_i e;exact .inr (by simp [e])
    ·rcases u5 k tk hk with h1|h1
     ·exact .inl h1
     ·right;rw [e7];exact List.mem_cons_of_mem _ h1
end Go.Proofs.YtfpadnmdafiddaaGreatDoor
namespace Go.V
open Go Go.RowKit
structure AppTo (w:World) (v:Value) (w':World) (v':Value):Prop where
 by_:w.grownBy w' v.ownBlock
 new:∀ j,j<w.heap.size→v.ownBlock≠some j→v'.ownBlock≠some j
theorem AppTo.trans {w w1 w2:World} {v v1 v2:Value} (h:AppTo w v w1 v1) (k:AppTo w1 v1 w2 v2):AppTo w v w2 v2 :=
 ⟨⟨k.by_.os.trans h.by_.os,k.by_.tape.trans h.by_.tape,k.by_.output.trans h.by_.output,Nat.le_trans h.by_.size k.by_.size,λ j hj a0=>(k.by_.block j (Nat.lt_of_lt_of_le hj h.by_.size) (λ e=>h.new j hj (λ e2=>a0 e2.symm) e.symm)).trans (h.by_.block j hj a0)⟩,
  λ j hj a0=>k.new j (Nat.lt_of_lt_of_le hj h.by_.size) (h.new j hj a0)⟩
theorem AppTo.grow {w w':World} (v:Value) (g:Grow w w'):AppTo w v w' v:=⟨⟨g.1.os,g.1.tape,g.1.output,g.2,λ k hk _=>g.block k hk⟩,λ _ _ h=>h⟩
theorem AppTo.upd {w0 w w':World} {v0 v:Value} {b:Nat} (h:AppTo w0 v0 w v) (u:Upd b w w') (hb:w0.heap.size≤b):AppTo w0 v0 w' v :=
 ⟨⟨u.os.trans h.by_.os,u.tape.trans h.by_.tape,u.output.trans h.by_.output,by rw [u.size];exact h.by_.size,λ k hk a0=>(u.block k oM).trans (h.by_.block k hk a0)⟩,h.new⟩
theorem AppTo.below {w w':World} {v v':Value} {B:Nat} (h:AppTo w v w' v') (hB:B≤w.heap.size) (hv:∀ j,v.ownBlock=some j→B≤j):Below B w w' :=
 ⟨h.by_.os,h.by_.tape,h.by_.output,h.by_.size,λ k hk=>h.by_.block k oM (λ e=>by have:=hv k e.symm;omega)⟩
theorem Carry.below {G:Nat→Prop} {w w':World} {B:Nat} (h:Below B w w') (hG:∀ k,G k→k<B):Carry G w G w':=⟨h.size,λ k hk _=>⟨hk,h.block k (hG k hk)⟩⟩
end Go.V
namespace Go.Proofs.YtfpadnmdafiddaaGreatDoor
open Go Go.RowKit Go.V
theorem nC (F:Nat→Prop) (v:Value) (l:Bs) (w:World) (i0:BsAt F w v l) (hm:l.length≤100000) :
  Calls Tryz.prog 95 #[v] w (Ret λ u w'=>BsAt (λ k=>w.heap.size≤k) w' u l∧Grow w w'):=by
 obtain ⟨a,c,rfl,hs⟩:=i0.sl;refine V.calls (args:=[_]) Tryz.func95 rfl Tryz.ntmps95 rfl rfl ?_
 cases a with
 | none =>
  have a0:=hs.row;simp only [Row] at a0;have h0:l=[]:=by simpa [bB] using a0
  subst h0;repeat refine dD ?_
  exact bA rfl ⟨_,rfl,⟨_,_,_,rfl,by simp [bB],Nat.le_refl _,Nat.zero_le _,λ _=>rfl,by simp [Row,bB]⟩,yG⟩
 | some ad =>
  repeat (first|refine dD ?_|refine yI λ bk w' hg j0 k0 f0=>?_)
  refine kU rfl rfl (eI (base:=w.heap.size) j0 oM) (hs.grow yG) (bO l) oM oM rfl ?_;intro v w2 e0 l0;repeat refine dD ?_
  obtain ⟨a2,c2,rfl,g0⟩:=aM e0;exact bA rfl ⟨_,rfl,⟨_,_,_,rfl,g0.mono (λ k hk=>hk.1)⟩,yG⟩
structure ItsOwn (B:Nat) (w:World) (v:Value) (l:bT):Prop where
 ex:∃ cs,w.ownsRow B 58 2 v l.length cs∧ItCells (λ j=>B≤j∧v.ownBlock≠some j) w cs l
theorem ItsOwn.nil (B:Nat) (w:World):ItsOwn B w (.slice none 0 0) []:=⟨[],World.ownsRow_nil w B _ _,trivial⟩
theorem ItsOwn.grow {B:Nat} {w w':World} {v:Value} {l:bT} (h:ItsOwn B w v l) (g:Grow w w'):ItsOwn B w' v l:=by
 obtain ⟨cs,h1,h2⟩:=h.ex;exact ⟨cs,aO h1 g,h2.go (Carry.grow g)⟩
theorem ItsOwn.upd {B b:Nat} {w w':World} {v:Value} {l:bT} (h:ItsOwn B w v l) (u:Upd b w w') (hb:b<B):ItsOwn B w' v l:=by
 obtain ⟨cs,h1,h2⟩:=h.ex;exact ⟨cs,fZ h1 u hb,h2.go (Carry.upd u λ k hk _=>by omega)⟩
theorem ItsOwn.lt {B:Nat} {w:World} {v:Value} {l:bT} (h:ItsOwn B w v l):∀ j,v.ownBlock=some j→B≤j∧j<w.heap.size:=by
 obtain ⟨cs,h1,h2⟩:=h.ex;exact h1.lt
def bsF {B:Nat} (B0:Nat) (l:Bs):SFact B:={ G:=λ v _ _ w=>BsAt (λ k=>B0≤k) w v l,st:=λ v _ _ w w' g h=>h.go (Carry.grow g) }
def itF {B:Nat} (B0:Nat) (x:Bs×Bs):SFact B:={ G:=λ v _ _ w=>∃ kv vv,v=.agg #[kv,vv]∧BsAt (λ k=>B0≤k) w kv x.1∧BsAt (λ k=>B0≤k) w vv x.2,st:=λ v _ _ w w' g h=>by obtain ⟨kv,vv,h0,h1,h2⟩:=h;exact ⟨kv,vv,h0,h1.go (Carry.grow g),h2.go (Carry.grow g)⟩ }
end Go.Proofs.YtfpadnmdafiddaaGreatDoor
namespace Go.V
open Go Go.RowKit Go.ChangeShapes Go.WideShapes Go.MapKept Go.ChangeMaps
def txt (l:List Nat):ByteArray:=strOfNums (l.map λ (b:Nat)=>(b:Int))
theorem txt_size (l:List Nat):(txt l).size=l.length:=by
 have:(txt l).data.toList.length=l.length:=by
  rw [txt,strOfNums_data];simp
 rw [← this];rfl
theorem txt_append (l r:List Nat):txt (l++r)=txt l++txt r:=by
 apply ByteArray.ext;apply Array.ext';rw [txt,strOfNums_data,ByteArray.data_append,Array.toList_append,txt,strOfNums_data,txt,strOfNums_data];simp
section
variable [Rn]
variable {P:Program} {n:Nat} {e:dI} {w:World} {Q:dA} {ops:Array Oper} {rest:List Oper} {d:Nat} {ty:TypeId} {pos:String} {aft:Array Edge}
theorem StrTy.und {t:TypeId} (h:StrTy P t):P.underlying t=some .string:=by
 have h:=h.h;unfold strB at h;split at h
 ·assumption
 ·cases h
theorem run_convS {a0 e0 el:TypeId} (hs:P.underlying a0=some (.slice el)) (he:P.underlying el=some (.int .u8)) (hd:P.underlying e0=some .string) {F:Nat→Prop} {a:Option Addr} {m c:Nat} {l:List Nat} (h:Sl F w 1 a m c (l.map λ (b:Nat)=>Value.int .u8 (b:Int))) :
  (convert a0 e0 (.slice a m c)).run P w=.ok (.string (txt l)) w:=by
 have hl:=h.len;simp only [List.length_map,Nat.mul_one] at hl
 cases a with
 | none =>
  have h0:=h.nil rfl;have h1:=h.cap;have:l=[]:=List.eq_nil_of_length_eq_zero oM;subst this;rw [run_convert_bytes_nil w a0 el hs he m c e0 hd];rfl
 | some p =>
  obtain ⟨b,o,s⟩:=p;by_cases h0:l=[]
  ·subst h0;simp only [List.length_nil] at hl;subst hl;rw [run_convert_bytes_string w a0 e0 el _ 0 c hs he hd,run_bytesToString w _ 0 c [] (by simp [Builtin.firstCells,loadCells,loadCellsFrom])];rfl
  ·have hr:=h.row (by simpa using h0);obtain ⟨f0,_,_,hc⟩:=hr;simp only at f0;subst f0
   exact run_convert_bytes_arg w a0 el hs he b o m c (l.map λ (b:Nat)=>(b:Int)) (by simpa using hl) (λ i hi=>by
    have:=hc i (.int .u8 ((l.getD i 0:Nat):Int)) (by simp [List.getElem?_eq_getElem (show i<l.length by omega)]);rw [this]
    simp [List.getElem?_eq_getElem (show i<l.length by omega)]) e0 hd
theorem mF {a0 e0 el size bytes:TypeId} {x:Operand} {F:Nat→Prop} {a:Option Addr} {m c:Nat} {l:List Nat} [ht:SliceTy P a0 el size bytes] [he:IntTy P el .u8] [hs:StrTy P e0]
  (hx:val e x=some (.slice a m c)) (h:Sl F w 1 a m c (l.map λ (b:Nat)=>Value.int .u8 (b:Int))) (hd:Nat.blt d n=true)
  (k:TL P n ops rest ((d,.string (txt l))::e) w Q):TL P n ops (⟨some d,.convert a0 e0 x,ty,pos,aft,none⟩::rest) e w Q :=
 TL.run (λ r hr=>by simp [execOp,hr.eval hx,run_convS ht.und he.und hs.und h]) hd k
theorem TL.neS {x y:Operand} {s t:ByteArray} {t1 t2:TypeId} {b:Bool} (hx:val e x=some (.string s)) (hy:val e y=some (.string t)) (h:(!(s.toList==t.toList))=b) (hd:Nat.blt d n=true)
  (k:TL P n ops rest ((d,.bool b)::e) w Q):TL P n ops (⟨some d,.binOp .neq t1 x y t2,ty,pos,aft,none⟩::rest) e w Q :=
 TL.run (λ r hr=>by
  have hg:eqGuard .neq t1 x y (.string s) (.string t)=Pure.pure ():=rfl;simp only [execOp,hr.eval hx,hr.eval hy,hg]
  simp [binOp,Op.stringOp,← h]) hd k
theorem TL.eqS {x y:Operand} {s t:ByteArray} {t1 t2:TypeId} {b:Bool} (hx:val e x=some (.string s)) (hy:val e y=some (.string t)) (h:(s.toList==t.toList)=b) (hd:Nat.blt d n=true)
  (k:TL P n ops rest ((d,.bool b)::e) w Q):TL P n ops (⟨some d,.binOp .eql t1 x y t2,ty,pos,aft,none⟩::rest) e w Q :=
 TL.run (λ r hr=>by
  have hg:eqGuard .eql t1 x y (.string s) (.string t)=Pure.pure ():=rfl;simp only [execOp,hr.eval hx,hr.eval hy,hg]
  simp [binOp,Op.stringOp,← h]) hd k
theorem TL.addS {x y:Operand} {l r:List Nat} {t1 t2:TypeId} (hx:val e x=some (.string (txt l))) (hy:val e y=some (.string (txt r))) (h:l.length+r.length≤1000000) (hd:Nat.blt d n=true)
  (k:TL P n ops rest ((d,.string (txt (l++r)))::e) w Q):TL P n ops (⟨some d,.binOp .add t1 x y t2,ty,pos,aft,none⟩::rest) e w Q :=
 TL.run (λ q hr=>by
  have hg:eqGuard .add t1 x y (.string (txt l)) (.string (txt r))=Pure.pure ():=rfl;simp only [execOp,hr.eval hx,hr.eval hy,hg]
  have h1:¬ ((((txt l).size+(txt r).size:Nat):Int) > IntKind.i64.max):=by
   rw [txt_size,txt_size];simp [IntKind.max,IntKind.bits,IntKind.signed];omega
  simp [binOp,Op.stringOp,txt_append,txt_size]
  omega) hd k
end
class KeyIs {α : Type} (P:Program) (kt:TypeId) (κ : α→Value) (ok : α→Prop):Prop where
 keyed:Maps.Keyed P kt
 key:∀ a,ok a→∃ l,keyOf P kt (κ a)=some l
 inj:∀ a b,ok a→ok b→κ a = κ b→a=b
def MapG {α : Type} (κ : α→Value) (ok : α→Prop) (w:World) (m:Nat) (f : α→Option Value):Prop:=∃ es clock,w.heap[m]? = some (.map es clock)∧(∀ x∈es.toList,∃ n : α,ok n∧x.key = κ n∧f n=some x.val) ∧
 (∀ n v,f n=some v→ok n∧∃ x∈es.toList,x.key = κ n)∧es.toList.Pairwise λ x y=>x.key≠y.key
section
variable [Rn]
variable {P:Program} {n:Nat} {e:dI} {w w':World} {Q:dA} {ops:Array Oper} {rest:List Oper} {d:Nat} {ty:TypeId} {pos:String} {aft:Array Edge} {α : Type} {κ : α→Value} {ok : α→Prop}
theorem MapG.lt {m:Nat} {f : α→Option Value} (h:MapG κ ok w m f):m<w.heap.size:=by
 obtain ⟨es,c,h1,_⟩:=h;exact (Array.getElem?_eq_some_iff.1 h1).1
theorem MapG.keep {m:Nat} {f : α→Option Value} (h:MapG κ ok w m f) (hk:w'.heap[m]? = w.heap[m]?):MapG κ ok w' m f:=by
 obtain ⟨es,c,h1,h2⟩:=h;exact ⟨es,c,by rw [hk];exact h1,h2⟩
theorem MapG.grow {m:Nat} {f : α→Option Value} (g:Grow w w') (h:MapG κ ok w m f):MapG κ ok w' m f:=h.keep (g.block m h.lt)
theorem MapG.find {kt m:Nat} (ht:KeyIs P kt κ ok) {f : α→Option Value} (h:MapG κ ok w m f) {k : α} (hk:ok k) :
  ∃ es c,w.heap[m]? = some (.map es c)∧(match f k with
   | none=>(Instr.findKey kt (κ k) es.toList).run P w=.ok none w∧∀ x∈es.toList,x.key≠κ k
   | some v=>∃ j e0,(Instr.findKey kt (κ k) es.toList).run P w=.ok (some (j,v)) w∧es.toList[j]? = some e0∧e0.key = κ k) ∧
   (∀ x∈es.toList,∃ n : α,ok n∧x.key = κ n∧f n=some x.val)∧(∀ n v,f n=some v→ok n∧∃ x∈es.toList,x.key = κ n)∧es.toList.Pairwise λ x y=>x.key≠y.key:=by
 obtain ⟨es,c,h1,h2,h3,h5⟩:=h;refine ⟨es,c,h1,?_,h2,h3,h5⟩
 have a0:∀ u∈es.toList,∃ l,keyOf P kt u.key=some l:=λ u hu=>by
  obtain ⟨n,hn,e1,_⟩:=h2 u hu;rw [e1];exact ht.key n hn
 rcases ht.keyed.find w (ht.key k hk).choose_spec es.toList a0 with ⟨g1,g2⟩|⟨j,e0,g1,g2,g3⟩
 ·cases hf:f k with
  | none=>exact ⟨g1,g2⟩
  | some v=>obtain ⟨_,x,hx,e⟩:=h3 k v hf;exact absurd e (g2 x hx)
 ·obtain ⟨n,hn,e1,e2⟩:=h2 e0 (List.mem_of_getElem? g2);rw [g3] at e1;have f0:n=k:=ht.inj _ _ hn hk e1.symm;subst f0;rw [e2];exact ⟨j,e0,g1,g2,g3⟩
def upG [DecidableEq α] (f : α→Option Value) (k : α) (u:Value) : α→Option Value:=λ j=>if j=k then some u else f j
end
def okS (l:List Nat):Prop:=(∀ x∈l,x<256)∧l.length≤1000000
def keyS (l:List Nat):Value:=.string (txt l)
end Go.V
namespace Go.Proofs.YtfpadnmdafiddaaGreatDoor
open Go Go.RowKit Go.V
theorem spare_pg0 (c:Nat):cC (pg0 c)=c:=by
 have:fN (pg0 c)=0:=by
  unfold fN;rw [List.length_eq_zero_iff,List.filter_eq_nil_iff];intro n _;rw [nE];simp
 unfold cC;rw [this];rfl
theorem pick_c (n:Int) (m:Nat) (h0:0<m) (hm:m<9223372036854775808) (w:World):Calls Tryz.prog 18 #[.int .i64 n,.int .i64 (m:Int)] w (Ret λ v w'=>(∃ r:Nat,v=.int .i64 (r:Int)∧r<m)∧w'=w):=by
 refine V.calls (args:=[_,_]) Tryz.func18 rfl Tryz.ntmps18 rfl rfl ?_
 have h1 : -(m:Int)<n.tmod m:=by
  have:=Int.lt_tmod_of_pos n (show (0:Int)<m by omega);omega
 have h2:n.tmod m<m:=Int.tmod_lt_of_pos n oM;repeat refine dD ?_
 refine TL.rem rfl rfl oM rfl ?_;generalize n.tmod m=r at *;by_cases hr:r<0
 ·obtain ⟨s,hs⟩:∃ s:Nat,r+m=s:=⟨(r+m).toNat,oM⟩
  repeat refine dD ?_
  exact bA rfl ⟨_,rfl,⟨s,by rw [hs],oM⟩,rfl⟩
 ·obtain ⟨s,rfl⟩:∃ s:Nat,r=s:=⟨r.toNat,oM⟩
  repeat refine dD ?_
  exact bA rfl ⟨_,rfl,⟨s,rfl,oM⟩,rfl⟩
structure PgW (w:World) (L:PL) (g:Pg):Prop where
 at_:PgAt w L g
 tab:TabAt w
 ne0:¬ L.S 0
theorem PgW.grow {w w':World} {L:PL} {g:Pg} (h:PgW w L g) (gr:Grow w w'):PgW w' L g:=⟨h.at_.grow gr,h.tab.keep (gr.block 0 h.tab.1) gr.size,h.ne0⟩
theorem PgW.put {w w':World} {L:PL} {g g':Pg} (h:PgW w L g) (ha:PgAt w' L g') (b:ButS L.S w w'):PgW w' L g':=⟨ha,h.tab.buts b h.ne0,h.ne0⟩
def ActCells (F:Nat→Prop) (w:World):List Value→List (Int×Bs×Bs)→Prop
 | [],[]=>True
 | v1::v2::v3::cs,a::l=>(v1=.int .i64 a.1∧BsAt F w v2 a.2.1∧BsAt F w v3 a.2.2)∧ActCells F w cs l
 | _,_=>False
theorem ActCells.go {F F':Nat→Prop} {w w':World} (g:Carry F w F' w'):∀ {cs:List Value} {l:List (Int×Bs×Bs)},ActCells F w cs l→ActCells F' w' cs l
 | [],[],_=>trivial
 | [],_::_,h=>h.elim
 | _::_,[],h=>by
  rename_i v cs
  match cs,h with
  | [],h=>exact h.elim
  | [_],h=>exact h.elim
  | _::_::_,h=>exact h.elim
 | [_],_::_,h=>h.elim
 | [_,_],_::_,h=>h.elim
 | _::_::_::_,_::_,⟨⟨h1,h2,h3⟩,h6⟩=>⟨⟨h1,h2.go g,h3.go g⟩,ActCells.go g h6⟩
theorem ActCells.at' {F:Nat→Prop} {w:World}:∀ {l:List (Int×Bs×Bs)} {cs:List Value} {i:Nat} {x:Int×Bs×Bs},ActCells F w cs l→l[i]? = some x→∃ k v,cs[i*3]? = some (.int .i64 x.1)∧cs[i*3+1]? = some k∧cs[i*3+2]? = some v∧BsAt F w k x.2.1∧BsAt F w v x.2.2
 | [],_,i,nd,_,hx=>by simp at hx
 | _::_,[],_,_,h,_=>h.elim
 | _::_,[_],_,_,h,_=>h.elim
 | _::_,[_,_],_,_,h,_=>h.elim
 | y::l,v1::v2::v3::cs,0,x,⟨⟨h1,h2,h3⟩,_⟩,hx=>by
  simp only [List.getElem?_cons_zero,Option.some.injEq] at hx;subst hx;exact ⟨v2,v3,by simp [h1],rfl,rfl,h2,h3⟩
 | y::l,v1::v2::v3::cs,i+1,x,⟨_,h⟩,hx=>by
  obtain ⟨k,v,h1,h2,h3,h4⟩:=ActCells.at' h (by simpa using hx);refine ⟨k,v,?_,?_,?_,h4⟩
  ·rw [show (i+1)*3=i*3+1+1+1 by omega];simpa using h1
  ·rw [show (i+1)*3+1=i*3+1+1+1+1 by omega];simpa using h2
  ·rw [show (i+1)*3+2=i*3+2+1+1+1 by omega];simpa using h3
end Go.Proofs.YtfpadnmdafiddaaGreatDoor
namespace Go.Proofs.YtfpadnmdafiddaaGreatDoor
theorem insI_iff {key v:Bs} {y:Bs×Bs}:∀ {l:bT},Srt l→(y∈gQ key v l↔y=(key,v)∨(y∈l∧y.1≠key))
 | [],_=>by simp [gQ]
 | x::l,h=>by
  obtain ⟨h1,h2⟩:=List.pairwise_cons.1 h;have ih:=insI_iff (key:=key) (v:=v) (y:=y) h2;unfold gQ;by_cases hx:fQ x.1 key
  ·rw [if_pos hx,List.mem_cons,ih,List.mem_cons];have hne:x.1≠key:=λ e=>fG key (by rw [e] at hx;exact hx);constructor
   ·rintro (rfl|h|⟨h,h'⟩)
    ·exact .inr ⟨.inl rfl,hne⟩
    ·exact .inl h
    ·exact .inr ⟨.inr h,h'⟩
   ·rintro (h|⟨h|h,h'⟩)
    ·exact .inr (.inl h)
    ·exact .inl h
    ·exact .inr (.inr ⟨h,h'⟩)
  ·rw [if_neg hx];by_cases he:x.1=key
   ·rw [if_pos he,List.mem_cons,List.mem_cons]
    have hl:∀ z∈l,z.1≠key:=λ z hz e=>by
     have:=h1 z hz;rw [he,e] at this;exact fG _ this
    constructor
    ·rintro (h|h)
     ·exact .inl h
     ·exact .inr ⟨.inr h,hl y h⟩
    ·rintro (h|⟨rfl|h,h'⟩)
     ·exact .inl h
     ·exact absurd he h'
     ·exact .inr h
   ·rw [if_neg he,List.mem_cons,List.mem_cons]
    have hk:fQ key x.1:=by
     rcases klt_or key x.1 with g|g|g
     ·exact g
     ·exact absurd g.symm he
     ·exact absurd g hx
    have hl:∀ z∈l,z.1≠key:=λ z hz e=>by
     have:=eJ hk (h1 z hz);rw [e] at this;exact fG _ this
    constructor
    ·rintro (h|h|h)
     ·exact .inl h
     ·subst h;exact .inr ⟨.inl rfl,he⟩
     ·exact .inr ⟨.inr h,hl y h⟩
    ·rintro (h|⟨h,h'⟩)
     ·exact .inl h
     ·exact .inr h
end Go.Proofs.YtfpadnmdafiddaaGreatDoor
namespace Go.Proofs.YtfpadnmdafiddaaGreatDoor
open Go Go.RowKit Go.V
theorem PgW.other {w w':World} {L:PL} {g:Pg} {S:Nat→Prop} (h:PgW w L g) (b:ButS S w w') (hL:∀ k,k=L.p∨k=L.d∨k=L.u∨k=L.m→¬ S k) (h0:¬ S 0):PgW w' L g :=
 ⟨h.at_.keep (λ k hk=>b.block k (by have:=h.at_.lts;omega) (hL k hk)),h.tab.buts b h0,h.ne0⟩
theorem ButS.sub {S S':Nat→Prop} {w w':World} (h:ButS S w w') (hs:∀ k,S k→S' k):ButS S' w w':=⟨h.os,h.tape,h.output,h.size,λ k hk hn=>h.block k hk λ e=>hn (hs k e)⟩
theorem gD {S:Nat→Prop} {w w0 w1:World} (hg:Grow w w0) (h:ButS S w0 w1) (hm:∀ k,S k→w.heap.size≤k):Grow w w1 :=
 ⟨⟨h.os.trans hg.1.os,h.tape.trans hg.1.tape,h.output.trans hg.1.output,by have:=hg.2;have:=h.size;omega,λ k hk=>(h.block k (by have:=hg.2;omega) (λ e=>by have:=hm k e;omega)).trans (hg.block k hk)⟩,by have:=hg.2;have:=h.size;omega⟩
end Go.Proofs.YtfpadnmdafiddaaGreatDoor
namespace Go.Proofs.YtfpadnmdafiddaaGreatDoor
open Go Go.RowKit Go.V Go.ChangeShapes Go.WideShapes Go.ChangeAt
set_option maxRecDepth 100000
theorem tab_laid {W:World} {name:String} {zs:List Int} (hz:zs=tabB.map λ (x:Nat)=>(x:Int)) (hg:(Tryz.prog).globalNamed name=some 0) (e0:((Tryz.prog).globals[0]?).map (·.type)=some 238) (h:laidMet Tryz.prog [(name,Lib.tabData .u8 zs)] W):TabAt W:=by
 have hT:=Lib.tabIs_of_head hg e0 Tryz.underlying238 Tryz.underlying5 kR kR h
 obtain ⟨a0,t,fr,hb,ha⟩:∃ a0 t fr,W.heap[0]? = some (.cells a0 t fr)∧a0=(zs.map λ z=>Value.int .u8 z).toArray:=by
  unfold Lib.TabIs World.var? at hT;rw [hg] at hT;simp only [Option.bind_some] at hT;split at hT
  ·rename_i cs t fr hb;exact ⟨cs,t,fr,hb,Option.some.inj hT⟩
  ·cases hT
 refine ⟨(Array.getElem?_eq_some_iff.1 hb).1,λ j x hj=>?_⟩;simp only [World.cell?,hb];rw [ha,hz];simp [hj]
section
variable {H:Type} {enc:TypeId×Value→H} {P:Program} {W:World}
theorem flat_len {L:List (List Value)} {sz:Nat} (h:∀ x∈L,x.length=sz):L.flatten.length=L.length*sz:=by
 induction L with
 | nil=>simp
 | cons x r ih =>
  rw [List.flatten_cons,List.length_append,ih λ y hy=>h y (List.mem_cons_of_mem _ hy),h x sM,List.length_cons,Nat.add_mul];omega
theorem flat_at {sz:Nat}:∀ {L:List (List Value)} {i r:Nat} {x:List Value},(∀ x∈L,x.length=sz)→L[i]? = some x→r<sz→L.flatten[i*sz+r]? = x[r]?
 | [],i,r,x,_,hx,_=>by simp at hx
 | y::L,0,r,x,h,hx,hr=>by
  simp only [List.getElem?_cons_zero,Option.some.injEq] at hx;subst hx;rw [List.flatten_cons,List.getElem?_append_left (by rw [h y sM];omega)];simp
 | y::L,i+1,r,x,h,hx,hr=>by
  rw [List.flatten_cons,List.getElem?_append_right (by rw [h y sM,Nat.add_mul];omega),h y sM,show (i+1)*sz+r-sz=i*sz+r by rw [Nat.add_mul];omega];exact flat_at (λ z hz=>h z (List.mem_cons_of_mem _ hz)) (by simpa using hx) hr
theorem sls_in {t e:TypeId} {sz fuel:Nat} {c:Value} {x:DataW H×List MemPlace} (ht:P.underlying t=some (.slice e)) (hc:P.cellsOf e=sz) (h0:0<sz) (h:DataW.trod enc P W 0 (λ _=>true) true fuel t [c]=some x) :
  ∃ (a:Option Addr) (n m:Nat) (k0:List (List Value)),c=.slice a n m∧k0.length=n∧Sl (λ k=>k<W.heap.size) W sz a n m k0.flatten∧∀ q∈k0,q.length=sz∧∃ f y,DataW.trod enc P W 0 (λ _=>true) true f e q=some y:=by
 rcases DataW.trod_slice ht h with ⟨g0,_⟩|⟨p,len,s0,m0,rest,n,_,g0,_,hb,hl,hm,o0,p0,_,_⟩
 ·simp only [List.cons.injEq,and_true] at g0;subst g0;exact ⟨none,0,0,[],rfl,rfl,Sl.nil_mk _ _ _,sM⟩
 ·simp only [List.cons.injEq,and_true] at g0;subst g0
  have e0:∀ i,i<len→∃ q y,W.cells? 0 (p.add (i*sz)) sz=some q∧DataW.trod enc P W 0 (λ _=>true) true n e q=some y:=λ i hi=>by
   have h1:=p0 i hi;rw [hc,List.getElem?_eq_getElem oM,Option.bind_eq_some_iff] at h1;obtain ⟨q,h2,h3⟩:=h1;exact ⟨q,_,h2,h3⟩
  have q0:∀ i,i<len→((List.range len).map λ i=>(W.cells? 0 (p.add (i*sz)) sz).getD [])[i]? = W.cells? 0 (p.add (i*sz)) sz:=λ i hi=>by
   obtain ⟨q,y,h1,_⟩:=e0 i hi;rw [List.getElem?_map,List.getElem?_range hi,Option.map_some,h1];rfl
  have a0:∀ q∈(List.range len).map (λ i=>(W.cells? 0 (p.add (i*sz)) sz).getD []),q.length=sz∧∃ f y,DataW.trod enc P W 0 (λ _=>true) true f e q=some y:=λ q hq=>by
   obtain ⟨i,hi,rfl⟩:=List.mem_map.1 hq;obtain ⟨q,y,h1,h2⟩:=e0 i (List.mem_range.1 hi);rw [h1];exact ⟨(World.cells?_some h1).2.1,n,y,h2⟩
  refine ⟨some p,len,s0,(List.range len).map λ i=>(W.cells? 0 (p.add (i*sz)) sz).getD [],rfl,sM,⟨by rw [flat_len λ q hq=>(a0 q hq).1];simp,hl,hm,(λ h=>by cases h),λ hn=>?_⟩,a0⟩
  have j0:0<len:=by
   rcases Nat.eq_zero_or_pos len with h|h
   ·subst h;simp at hn
   ·exact h
  obtain ⟨q,y,h1,_⟩:=e0 0 j0;have h2:=(World.cells?_some h1).2.2 0 h0;have n0:0<q.length:=by rw [(World.cells?_some h1).2.1];exact h0
  rw [List.getElem?_eq_getElem n0,Nat.zero_mul,show (p.add 0).add 0=p from rfl] at h2;have hs:p.spot=none:=World.cell?_spot h2;obtain ⟨b,o,s⟩:=p;simp only at hs;subst hs;have f0:=World.block_lt_of_cell? W _ h2;simp only at f0
  have i0:∀ i r v,i<len→r<sz→(((List.range len).map λ i=>(W.cells? 0 ((⟨b,o,none⟩:Addr).add (i*sz)) sz).getD []).flatten)[i*sz+r]? = some v→W.cell? ⟨b,o+(i*sz+r),none⟩=some v:=λ i r v hi hr hv=>by
   obtain ⟨q,y,h1,_⟩:=e0 i hi;rw [flat_at (λ q hq=>(a0 q hq).1) ((q0 i hi).trans h1) hr] at hv;have h2:=(World.cells?_some h1).2.2 r hr;rw [← hv,← h2,Addr.add_lit,Addr.add_lit,Nat.add_assoc]
  refine ⟨rfl,f0,f0,λ j v hj=>?_⟩;have l0:=(List.getElem?_eq_some_iff.1 hj).1;rw [flat_len λ q hq=>(a0 q hq).1,List.length_map,List.length_range] at l0;have:=i0 (j / sz) (j%sz) v (Nat.div_lt_of_lt_mul (by rw [Nat.mul_comm];exact l0)) (Nat.mod_lt _ h0) (by rw [Nat.mul_comm,Nat.div_add_mod];exact hj);rw [Nat.mul_comm,Nat.div_add_mod] at this;exact this
theorem bytes_in:∀ (l:List Int),(∀ z∈l,(Lit.int .u8 z).wf=true)→∃ r:List Nat,l.map (Value.int .u8)=bB r∧∀ x∈r,x<256
 | [],_=>⟨[],rfl,sM⟩
 | z::l,h=>by
  obtain ⟨r,h1,h2⟩:=bytes_in l (λ y hy=>h y (List.mem_cons_of_mem _ hy));have hz:=h z sM;have a0:0≤z∧z≤255:=by simpa [Lit.wf,IntKind.min,IntKind.max,IntKind.signed,IntKind.bits] using hz
  refine ⟨z.toNat::r,?_,?_⟩
  ·simp only [List.map_cons,bB,h1];congr 2
   omega
  ·intro x hx;rcases List.mem_cons.1 hx with rfl|hx
   ·omega
   ·exact h2 x hx
theorem bs_in {t e:TypeId} {fuel:Nat} {c:Value} {x:DataW H×List MemPlace} (ht:P.underlying t=some (.slice e)) (he:P.underlying e=some (.int .u8)) (hc:P.cellsOf e=1) (h:DataW.trod enc P W 0 (λ _=>true) true fuel t [c]=some x) :
  ∃ b,BsAt (λ k=>k<W.heap.size) W c b∧fK b:=by
 obtain ⟨a,n,m,zs,rfl,hs,hz⟩:=sl_in ht he hc h;obtain ⟨r,h1,h2⟩:=bytes_in zs hz;rw [h1] at hs;exact ⟨r,⟨a,n,m,rfl,hs⟩,h2⟩
end
set_option maxRecDepth 100000
theorem its_in {H:Type} {enc:TypeId×Value→H} {W:World}:∀ {a0:List (List Value)},(∀ q∈a0,q.length=2∧∃ f y,DataW.trod enc Tryz.prog W 0 (λ _=>true) true f 58 q=some y) →
  ∃ l:bT,ItCells (λ k=>k<W.heap.size) W a0.flatten l∧l.length=a0.length∧∀ x∈l,fK x.1∧fK x.2
 | [],_=>⟨[],trivial,rfl,sM⟩
 | q::a0,h=>by
  obtain ⟨l,h1,h2,h3⟩:=its_in (λ y hy=>h y (List.mem_cons_of_mem _ hy));obtain ⟨hq,f,y,hy⟩:=h q sM
  match q,hq with
  | [c1,c2],_ =>
   obtain ⟨xs,n,_,_,_,hxl,hat⟩:=DataW.trod_struct Tryz.underlying58 hy;have e1:=hat 0 _ rfl;have e2:=hat 1 _ rfl;have hxl2:xs.length=2:=hxl;rw [List.getElem?_eq_getElem oM] at e1 e2;obtain ⟨b1,hb1,hy1⟩:=bs_in (c:=c1) Tryz.underlying30 Tryz.underlying5 kR e1;obtain ⟨b2,hb2,hy2⟩:=bs_in (c:=c2) Tryz.underlying30 Tryz.underlying5 kR e2;refine ⟨(b1,b2)::l,⟨hb1,hb2,h1⟩,by simp [h2],λ x hx=>?_⟩;rcases List.mem_cons.1 hx with rfl|hx
   ·exact ⟨hy1,hy2⟩
   ·exact h3 x hx
section
variable {H:Type} {enc:TypeId×Value→H} {P:Program} {w:World}
theorem cells_in {r:Reach} {b0:Nat} {t e:TypeId} {v:Value} {d:DataW H} {ps:List MemPlace} (ht:P.underlying t=some (.slice e)) (a0:Value.okWide P w r b0 t v) (hd:DataW.Trod enc P w 0 (λ _=>true) true t v d ps) :
  ∃ fuel,DataW.trod enc P w 0 (λ _=>true) true fuel t [v]=some (d,ps):=by
 obtain ⟨fuel,hf⟩:=hd;refine ⟨fuel,?_⟩
 have:v.cells.toList=[v]:=by
  simp only [Value.okWide,ht,Cell.okWide] at a0;cases v<;>simp_all [Cell.ok,Value.cells]
 rwa [this] at hf
end
theorem items_in {H:Type} {enc:TypeId×Value→H} {W:World} {b0:Nat} {v:Value} {d:DataW H} {ps:List MemPlace} (a0:Value.okWide Tryz.prog W .any b0 54 v) (hd:DataW.Trod enc Tryz.prog W 0 (λ _=>true) true 54 v d ps) :
  ∃ a n c l,v=.slice a n c∧ItsAt (λ k=>k<W.heap.size) W a n c l∧∀ x∈l,fK x.1∧fK x.2:=by
 obtain ⟨fu,hy⟩:=cells_in Tryz.underlying54 a0 hd;obtain ⟨a,n,c,g0,rfl,f0,hs,e0⟩:=sls_in (sz:=2) Tryz.underlying54 kR oM hy;obtain ⟨l,h1,h2,h3⟩:=its_in e0;exact ⟨a,n,c,l,rfl,⟨_,hs,h1⟩,h3⟩
theorem span_in {H:Type} {enc:TypeId×Value→H} {W:World} {b0:Nat} {v:Value} {d:DataW H} {ps:List MemPlace} (a0:Value.okWide Tryz.prog W .any b0 92 v) (hd:DataW.Trod enc Tryz.prog W 0 (λ _=>true) true 92 v d ps) :
  ∃ fa fc fr ta tc to back most,v=.agg #[.slice fa fr.length fc,.slice ta to.length tc,.bool back,.int .i64 most]∧Sl (λ k=>k<W.heap.size) W 1 fa fr.length fc (bB fr)∧Sl (λ k=>k<W.heap.size) W 1 ta to.length tc (bB to)∧fK fr∧fK to∧(-9223372036854775808≤most∧most≤9223372036854775807):=by
 obtain ⟨fuel,hf⟩:=hd;unfold Value.okWide at a0;rw [Tryz.underlying92] at a0;obtain ⟨cs,rfl,hn,_⟩:=a0;obtain ⟨cs⟩:=cs
 have l0:cs.length=4:=by
  have h4:(Tryz.prog).cellsOf 92=4:=by kernel_rfl
  rw [h4] at hn;simpa using hn
 have hf:DataW.trod enc Tryz.prog W 0 (λ _=>true) true fuel 92 cs=some (d,ps):=hf
 match cs,l0 with
 | [c0,c1,c2,c3],_ =>
  obtain ⟨xs,n,_,_,_,k0,f0⟩:=DataW.trod_struct Tryz.underlying92 hf;have e0:=f0 0 _ rfl;have e1:=f0 1 _ rfl;have e2:=f0 2 _ rfl;have e3:=f0 3 _ rfl;have j0:xs.length=4:=k0;rw [List.getElem?_eq_getElem oM] at e0 e1 e2 e3;obtain ⟨fr,h0,i0⟩:=bs_in (c:=c0) Tryz.underlying30 Tryz.underlying5 kR e0;obtain ⟨to,h1,g0⟩:=bs_in (c:=c1) Tryz.underlying30 Tryz.underlying5 kR e1;obtain ⟨b,eb,_⟩:=DataW.trod_bool Tryz.underlying4 e2;obtain ⟨k,ek,_,hw⟩:=DataW.trod_int Tryz.underlying3 e3;obtain ⟨fa,fc,rfl,s0⟩:=h0.sl;obtain ⟨ta,tc,rfl,s1⟩:=h1.sl
  have n0:c2=.bool b:=by
   have:[c2]=[Value.bool b]:=eb;simpa using this
  have m0:c3=.int .i64 k:=by
   have:[c3]=[Value.int .i64 k]:=ek;simpa using this
  have hk : -9223372036854775808≤k∧k≤9223372036854775807:=by simpa [Lit.wf,IntKind.min,IntKind.max,IntKind.signed,IntKind.bits] using hw
  subst n0;subst m0;exact ⟨fa,fc,fr,ta,tc,to,b,k,rfl,s0,s1,i0,g0,hk⟩
end Go.Proofs.YtfpadnmdafiddaaGreatDoor
namespace Go.V
open Go Go.RowKit Go.ChangeShapes Go.WideShapes Go.MapKept Go.ChangeMaps
theorem nodup_leG {α : Type} [DecidableEq α]:∀ {l r:List α},l.Nodup→(∀ x∈l,x∈r)→l.length≤r.length
 | [],r,_,_=>Nat.zero_le _
 | x::l,r,h,hs=>by
  obtain ⟨h1,h2⟩:=List.nodup_cons.1 h;have hx:=hs x sM;have:=nodup_leG (l:=l) (r:=r.erase x) h2 λ y hy=>(List.mem_erase_of_ne (λ e=>h1 (by rw [← e];exact hy))).2 (hs y (List.mem_cons_of_mem _ hy));rw [List.length_erase_of_mem hx] at this;have hp:=List.length_pos_of_mem hx;rw [List.length_cons];omega
theorem keysG {α : Type} {κ : α→Value} {ok : α→Prop} {f : α→Option Value}:∀ {es:List MapEntry},(∀ x∈es,∃ n : α,ok n∧x.key = κ n∧f n=some x.val)→∃ ks:List α,es.map (·.key)=ks.map κ∧∀ k∈ks,ok k∧∃ v,f k=some v
 | [],_=>⟨[],rfl,sM⟩
 | x::es,h=>by
  obtain ⟨n,h1,h2,h3⟩:=h x sM;obtain ⟨ks,k1,k2⟩:=keysG (es:=es) λ y hy=>h y (List.mem_cons_of_mem _ hy);refine ⟨n::ks,by simp [h2,k1],λ k hk=>?_⟩;rcases List.mem_cons.1 hk with rfl|hk
  ·exact ⟨h1,_,h3⟩
  ·exact k2 k hk
section
variable [Rn]
variable {P:Program} {n:Nat} {e:dI} {w w':World} {Q:dA} {ops:Array Oper} {rest:List Oper} {d:Nat} {ty:TypeId} {pos:String} {aft:Array Edge} {α : Type} {κ : α→Value} {ok : α→Prop}
theorem MapG.size [DecidableEq α] {m:Nat} {f : α→Option Value} (h:MapG κ ok w m f) (a0:∀ a b,ok a→ok b→κ a = κ b→a=b) {ks:List α} (g0:ks.Nodup) (hk:∀ k,(∃ v,f k=some v)↔k∈ks):∃ es c,w.heap[m]? = some (.map es c)∧es.size=ks.length:=by
 obtain ⟨es,c,h1,h2,h3,h4⟩:=h;refine ⟨es,c,h1,?_⟩;obtain ⟨ns,n1,n2⟩:=keysG h2
 have f0:ns.Nodup:=by
  have h5:(es.toList.map (·.key)).Pairwise (·≠·):=List.pairwise_map.2 h4;rw [n1] at h5;exact (List.pairwise_map.1 h5).imp λ h e=>h (by rw [e])
 have hl:es.size=ns.length:=by have:=congrArg List.length n1;simpa using this
 have a:=nodup_leG f0 λ x hx=>(hk x).1 (n2 x hx).2
 have b:=nodup_leG g0 λ x hx=>by
  obtain ⟨v,hv⟩:=(hk x).2 hx;obtain ⟨e0,y,hy,e⟩:=h3 x v hv;have:=List.mem_map_of_mem (f:=λ x:MapEntry=>x.key) hy;rw [n1,e] at this;obtain ⟨z,hz,e2⟩:=List.mem_map.1 this;exact (a0 _ _ (n2 z hz).1 e0 e2)▸hz
 omega
end
end Go.V
namespace Go.V
open Go Go.RowKit
end Go.V
namespace Go.V
open Go Go.RowKit Go.Maps
section
variable [Rn]
variable {P:Program} {n:Nat} {e:dI} {w w':World} {Q:dA} {ops:Array Oper} {rest:List Oper} {d:Nat} {ty:TypeId} {pos:String} {aft:Array Edge} {H:Type}
end
end Go.V
namespace Go.V
open Go Go.RowKit
def RowO (B:Nat) (el:TypeId) (w:World) (v:Value) (xs:List Value):Prop :=
 ∃ b o cap cs,v=.slice (some ⟨b,o,none⟩) xs.length cap∧B≤b∧Blk w b el cs∧o+cap≤cs.length∧xs.length≤cap∧cap≤maxLen∧(cs.drop o).take xs.length=xs
section
variable {B:Nat} {el:TypeId} {w w':World} {v:Value} {xs:List Value}
theorem RowO.lt (h:RowO B el w v xs) {k:Nat} (hk:v.ownBlock=some k):B≤k∧k<w.heap.size:=by
 obtain ⟨b,o,a0,cs,rfl,h1,h2,_⟩:=h;simp only [Value.ownBlock,Option.some.injEq] at hk;subst hk;exact ⟨h1,h2.lt⟩
theorem RowO.keep (h:RowO B el w v xs) (hk:∀ k,v.ownBlock=some k→w'.heap[k]? = w.heap[k]?):RowO B el w' v xs:=by
 obtain ⟨b,o,a0,cs,rfl,h1,h2,h3⟩:=h;refine ⟨b,o,a0,cs,rfl,h1,?_,h3⟩;unfold Blk at h2 ⊢;rw [hk b rfl];exact h2
theorem RowO.grow (h:RowO B el w v xs) (g:Grow w w'):RowO B el w' v xs:=h.keep λ k hk=>g.block k (h.lt hk).2
theorem RowO.own {n:Nat} (h:w.ownsRow B el 1 v n xs) (hn:0<n):RowO B el w v xs:=by
 obtain ⟨hl,h|⟨g,f0,e0,rfl,h1,h2,h3,h4,h5,h6⟩⟩:=h
 ·omega
 ·have a0:xs.length=n:=by omega
  refine ⟨g,0,f0,e0.toList,by rw [a0],h1,by unfold Blk;simpa using h2,by simp;omega,oM,h4,?_⟩;rw [List.drop_zero,a0];rw [Nat.mul_one] at h6;exact h6
end
section
variable [Rn]
variable {P:Program} {n:Nat} {e:dI} {w w':World} {Q:dA} {ops:Array Oper} {rest:List Oper} {d:Nat} {ty:TypeId} {pos:String} {aft:Array Edge}
theorem take_set {cs xs:List Value} {o:Nat} {u:Value} (h1:(cs.drop o).take xs.length=xs) (h2:o+xs.length<cs.length):((cs.set (o+xs.length) u).drop o).take (xs++[u]).length=xs++[u]:=by
 apply List.ext_getElem?;intro j;rw [List.getElem?_take,List.getElem?_drop,List.getElem?_set,List.length_append,List.length_singleton];by_cases hj:j<xs.length
 ·rw [if_pos oM,if_neg oM,List.getElem?_append_left hj];have:=congrArg (·[j]?) h1;simp only [List.getElem?_take,List.getElem?_drop] at this;rw [if_pos hj] at this;exact this
 ·by_cases a0:j=xs.length
  ·subst a0;rw [if_pos oM,if_pos rfl,if_pos h2];simp
  ·rw [if_neg oM,List.getElem?_eq_none (by simp;omega)]
theorem RowO.cut (k l:Nat) {B:Nat} {el:TypeId} {w:World} {b o e0:Nat} {xs cs:List Value} (h1:B≤b) (h2:Blk w b el cs) (h3:o+e0≤cs.length) (h4:xs.length≤e0) (h5:e0≤maxLen) (h6:(cs.drop o).take xs.length=xs) (f0:k≤l) (hl:l≤xs.length) :
  RowO B el w (.slice (some ⟨b,o+k,none⟩) (l-k) (e0-k)) ((xs.take l).drop k):=by
 have a0:((xs.take l).drop k).length=l-k:=by rw [List.length_drop,List.length_take];omega
 refine ⟨b,o+k,e0-k,cs,by rw [a0],h1,h2,oM,oM,oM,?_⟩;rw [a0];apply List.ext_getElem?;intro j;rw [List.getElem?_take,List.getElem?_drop,List.getElem?_drop,List.getElem?_take];by_cases hj:j<l-k
 ·rw [if_pos hj,if_pos oM];have:=congrArg (·[k+j]?) h6;simp only [List.getElem?_take,List.getElem?_drop] at this;rw [if_pos oM] at this;rw [← this,Nat.add_assoc]
 ·rw [if_neg hj,if_neg oM]
end
theorem iH (zc:Value) (k:Nat):Builtin.zeroCells #[zc] k=(List.replicate k zc).toArray:=by
 apply Array.ext
 ·simp [size_zeroCells]
 ·intro i h1 h2;simp [Builtin.zeroCells,Nat.mod_one]
theorem run_append_room_zeros {P:Program} {w:World} {t tn ty e:TypeId} {i:TypeInfo} {zc:Value} {kq kn:IntKind} (ht:P.underlying t=some (.slice e)) (m0:P.underlying tn=some (.int kn)) (hi:P.info? e=some i) {z:Value} (hz:i.zero=some z) (l0:z.cells = #[zc]) (n0:i.size=1)
  {g n j0 k:Nat} {e0:Array Value} (hg:w.heap[g]? = some (.cells e0 e (0,0))) (h0:0<k) (hb:k*i.bytes≤140737488355328) (o0:k≤1000000) (a0:n+k≤j0) (g0:n+k≤e0.size) (h1:zc.oneCell'=true) :
  (Builtin.append_ #[t,tn] ty #[.slice (some ⟨g,0,none⟩) n j0,.int kq k]).run P w=.ok (.slice (some ⟨g,0,none⟩) (n+k) j0) (w.setRow g (e0.toList.take n++List.replicate k zc++e0.toList.drop (n+k)).toArray):=by
 have hk:k≠0:=by omega
 have hw:IntKind.i64.wrap (k:Int)=k:=by rw [IntKind.wrap_i64];omega
 have i0:¬ (281474976710656<(k:Int)*(i.bytes:Int)):=by
  rw [← Int.natCast_mul];omega
 have f0:¬ ((k:Int)<0):=by omega
 have k0:=run_storeCells_at P g n e (List.replicate k zc) 0 e0 w hg (by simpa using g0) (λ v hv=>by rw [(List.mem_replicate.1 hv).2];exact h1);simp only [Nat.add_zero,List.length_replicate] at k0;simp [Builtin.append_,run_underlying ht,run_underlying m0,sizeOf,typeInfo,zeroValue,hi,hz,asInt,asIntOf,hw,f0,i0,n0,hk,a0,l0,iH,Addr.add_lit,k0]
section
variable [Rn]
variable {P:Program} {n:Nat} {e:dI} {w w':World} {Q:dA} {ops:Array Oper} {rest:List Oper} {d:Nat} {ty:TypeId} {pos:String} {aft:Array Edge}
theorem TL.appendZ {t tn a0 bytes base k0 c:Nat} {x y:Operand} {kq kn:IntKind} {v zc:Value} {xs:List Value} [ht:SliceTy P t a0 1 bytes] [hn:IntTy P tn kn] [hzr:Zero P a0 zc] (q0:zc.cells = #[zc]) (h1:zc.oneCell'=true)
  (hx:val e x=some v) (hy:val e y=some (.int kq (c:Int))) (n0:w.ownsRow base a0 1 v k0 xs) (h0:0<c) (x1:k0+c≤1000000) (m0:(k0+c)*bytes≤140737488355328) (l0:base≤w.heap.size) (hd:Nat.blt d n=true)
  (k:∀ v' w',w'.ownsRow base a0 1 v' (k0+c) (xs++List.replicate c zc)→w.grownBy w' v.ownBlock→TL P n ops rest ((d,v')::e) w' Q) :
  TL P n ops (⟨some d,.call ⟨.builtin .append,#[x,y],#[t,tn]⟩,ty,pos,aft,none⟩::rest) e w Q:=by
 obtain ⟨i,z,hi,x0,o0,hz,u0,o1⟩:=ht.info
 have y0:z=zc:=by
  have:=hzr.h;rw [hi] at this;simp only [Option.bind_some] at this;rw [hz] at this;exact Option.some.inj this
 subst y0;have u1:c*bytes≤(k0+c)*bytes:=Nat.mul_le_mul_right _ oM;have i0:(xs++List.replicate c z).length=(k0+c)*1:=by rw [List.length_append,n0.1,List.length_replicate];omega
 obtain ⟨v0,⟨rfl,rfl⟩|⟨g,g0,p0,rfl,m1,hg,q1,g1,s1,e0⟩⟩:=n0
 ·have z0:xs=[]:=List.eq_nil_of_length_eq_zero (by simpa using v0);subst z0;have f0:=Lib.run_append_nil_zeros (P:=P) w t tn ty a0 i z kq kn ht.und hn.und hi hz c h0 oM oM (by rw [o0];omega);have w1:c≤grownCap w c 0 a0:=grownCap_ge w _ _ _;have j1:grownCap w c 0 a0≤maxLen:=grownCap_le_maxLen w c 0 a0 (by unfold maxLen;omega);refine TL.run (v:=.slice (some ⟨w.heap.size,0,none⟩) c (grownCap w c 0 a0)) (w':=w.drew.alloc (.cells (Builtin.zeroCells z.cells c++Builtin.zeroCells z.cells (grownCap w c 0 a0-c)) a0)) (λ r hr=>?_) hd (k _ _ ⟨sM,.inr ⟨w.heap.size,_,_,by rw [Nat.zero_add],l0,heap_alloc_new w.drew _,oM,j1,?_,?_⟩⟩ ⟨rfl,rfl,rfl,sM,λ k hk _=>Below.heap_alloc w.drew _ k hk⟩)
  ·simp [execOp,resolve,invoke,builtin,hr.eval hx,hr.eval hy,f0]
  ·simp only [Array.size_append,size_zeroCells,u0];omega
  ·rw [q0,iH,iH];simp
 ·by_cases j0:k0+c≤g0
  ·have f0:=run_append_room_zeros (P:=P) (w:=w) (ty:=ty) (kq:=kq) ht.und hn.und hi hz q0 x0 hg h0 (by rw [o0];omega) oM j0 oM h1;refine TL.run (v:=.slice (some ⟨g,0,none⟩) (k0+c) g0) (w':=w.setRow g (p0.toList.take k0++List.replicate c z++p0.toList.drop (k0+c)).toArray) (λ r hr=>by simp [execOp,resolve,invoke,builtin,hr.eval hx,hr.eval hy,f0]) hd (k _ _ ⟨i0,.inr ⟨g,g0,_,rfl,m1,setRow_heap w g p0 _ a0 _ hg,j0,g1,?_,?_⟩⟩ ⟨rfl,rfl,rfl,sM,λ k _ hk=>setRow_other w g k _ (λ e=>hk (by simp [Value.ownBlock,e]))⟩)
   ·simp only [List.size_toArray,List.length_append,List.length_take,List.length_drop,Array.length_toList,List.length_replicate];omega
   ·rw [Nat.mul_one] at e0;rw [e0,← i0];exact List.take_left
  ·have s0:(Builtin.firstCells i.size k0 (.slice (some ⟨g,0,none⟩) k0 g0)).run P w.drew=.ok xs.toArray w.drew:=by
    rw [x0];refine run_firstCells_some (P:=P) w.drew 1 k0 ⟨g,0,none⟩ k0 g0 xs v0 λ j u hu=>?_;have r1:j<xs.length:=(List.getElem?_eq_some_iff.1 hu).1;have f1:w.drew.heap[g]? = some (.cells p0 a0 (0,0)):=hg;rw [← e0,List.getElem?_take,if_pos oM] at hu;rw [Addr.add_lit];simp only [World.cell?,f1,Nat.zero_add];simpa using hu
   have f0:=Lib.run_append_grow_zeros (P:=P) w t tn ty a0 i z kq kn ht.und hn.und hi hz (some ⟨g,0,none⟩) k0 g0 xs s0 c h0 oM oM oM (by rw [o0];omega) (growslice_fits oM (by rw [o0];exact m0));have e1:=grownCap_ge w (k0+c) g0 a0;have t0:grownCap w (k0+c) g0 a0≤maxLen:=grownCap_le_maxLen w (k0+c) g0 a0 (by unfold maxLen;omega);refine TL.run (v:=.slice (some ⟨w.heap.size,0,none⟩) (k0+c) (grownCap w (k0+c) g0 a0)) (w':=w.drew.alloc (.cells (xs.toArray++Builtin.zeroCells z.cells c++Builtin.zeroCells z.cells (grownCap w (k0+c) g0 a0-(k0+c))) a0)) (λ r hr=>by simp [execOp,resolve,invoke,builtin,hr.eval hx,hr.eval hy,f0]) hd (k _ _ ⟨i0,.inr ⟨w.heap.size,_,_,rfl,l0,heap_alloc_new w.drew _,e1,t0,?_,?_⟩⟩ ⟨rfl,rfl,rfl,sM,λ k hk _=>Below.heap_alloc w.drew _ k hk⟩)
   ·simp only [Array.size_append,size_zeroCells,u0,List.size_toArray];omega
   ·rw [q0,iH,iH,← i0];simp only [Array.toList_append,List.append_assoc];rw [← List.append_assoc];exact List.take_left
end
section
variable {base sz n:Nat} {el:TypeId} {w w':World} {v:Value} {xs:List Value}
theorem own_blk (h:w.ownsRow base el sz v n xs) (hn:0<n):∃ g a0 e0,v=.slice (some ⟨g,0,none⟩) n a0∧base≤g∧Blk w g el e0∧n≤a0∧a0≤maxLen∧e0.length=a0*sz∧e0.take (n*sz)=xs:=by
 obtain ⟨hl,h|⟨g,a0,e0,rfl,h1,h2,h3,h4,h5,h6⟩⟩:=h
 ·omega
 ·exact ⟨g,a0,e0.toList,rfl,h1,by unfold Blk;simpa using h2,h3,h4,by simpa using h5,h6⟩
theorem own_mk {g a0:Nat} {e0:List Value} (h1:base≤g) (h2:Blk w g el e0) (h3:n≤a0) (h4:a0≤maxLen) (h5:e0.length=a0*sz) (h6:e0.take (n*sz)=xs):w.ownsRow base el sz (.slice (some ⟨g,0,none⟩) n a0) n xs:=by
 have f0:n*sz≤a0*sz:=Nat.mul_le_mul_right _ h3;exact ⟨by rw [← h6,List.length_take];omega,.inr ⟨g,a0,e0.toArray,rfl,h1,by unfold Blk at h2;simpa using h2,h3,h4,by simpa using h5,by simpa using h6⟩⟩
theorem take_setAt {a0 xs:List Value} {m j:Nat} {u:Value} (h:a0.take m=xs):(a0.set j u).take m=xs.set j u:=by
 rw [← h,List.take_set]
theorem own_cut {k:Nat} (h:w.ownsRow base el sz v n xs) (hk:k≤n):∃ v',(∃ a c,v=.slice a n c∧v'=.slice a k c)∧w.ownsRow base el sz v' k (xs.take (k*sz))∧v'.ownBlock=v.ownBlock:=by
 obtain ⟨hl,⟨rfl,rfl⟩|⟨g,e0,a0,rfl,h1,h2,h3,h4,h5,h6⟩⟩:=h
 ·obtain rfl:k=0:=by omega
  exact ⟨_,⟨none,0,rfl,rfl⟩,by simpa using World.ownsRow_nil w base el sz,rfl⟩
 ·refine ⟨_,⟨_,_,rfl,rfl⟩,⟨?_,.inr ⟨g,e0,a0,rfl,h1,h2,oM,h4,h5,?_⟩⟩,rfl⟩
  ·have:k*sz≤n*sz:=Nat.mul_le_mul_right _ hk;rw [List.length_take];omega
  ·have:k*sz≤n*sz:=Nat.mul_le_mul_right _ hk;rw [← h6,List.take_take,Nat.min_eq_left this]
end
section
variable [Rn]
variable {P:Program} {n:Nat} {e:dI} {w w':World} {Q:dA} {ops:Array Oper} {rest:List Oper} {d:Nat} {ty:TypeId} {pos:String} {aft:Array Edge}
theorem run_append_zero {t tn ty el:TypeId} {i:TypeInfo} {kq kn:IntKind} (ht:P.underlying t=some (.slice el)) (e0:P.underlying tn=some (.int kn)) (hi:P.info? el=some i) (base:Option Addr) (m a0:Nat) (h:m≤a0) (w:World) :
  (Builtin.append_ #[t,tn] ty #[.slice base m a0,.int kq 0]).run P w=.ok (.slice base m a0) w:=by
 have hw:IntKind.i64.wrap 0=0:=by decide
 cases base<;>simp [Builtin.append_,run_underlying ht,run_underlying e0,sizeOf,typeInfo,hi,asInt,asIntOf,hw,h,storeCells]
theorem TL.appendZ0 {t tn a0 size bytes m c:Nat} {x y:Operand} {kq kn:IntKind} {a:Option Addr} [ht:SliceTy P t a0 size bytes] [hn:IntTy P tn kn] (hx:val e x=some (.slice a m c)) (hy:val e y=some (.int kq 0)) (e0:m≤c) (hd:Nat.blt d n=true)
  (k:TL P n ops rest ((d,.slice a m c)::e) w Q) :
  TL P n ops (⟨some d,.call ⟨.builtin .append,#[x,y],#[t,tn]⟩,ty,pos,aft,none⟩::rest) e w Q:=by
 obtain ⟨i,z,hi,g0,i0,hz,f0,h0⟩:=ht.info;exact TL.run (v:=.slice a m c) (w':=w) (λ r hr=>by simp [execOp,resolve,invoke,builtin,hr.eval hx,hr.eval hy,run_append_zero (P:=P) ht.und hn.und hi a m c e0 w]) hd k
end
theorem upB_same (dn:Nat→Bool) (i:Nat):upB dn i i=true:=by simp [upB]
theorem dQ {dn:Nat→Bool} {i j:Nat} (h:j≠i):upB dn i j=dn j:=by
 unfold upB
 cases hb:Nat.beq j i with
 | false=>rfl
 | true=>exact absurd (Nat.eq_of_beq_eq_true hb) h
theorem upV_same (vs:Nat→Value) (i:Nat) (v:Value):upV vs i v i=v:=by simp [upV]
theorem upV_other {vs:Nat→Value} {i j:Nat} {v:Value} (h:j≠i):upV vs i v j=vs j:=by
 unfold upV
 cases hb:Nat.beq j i with
 | false=>rfl
 | true=>exact absurd (Nat.eq_of_beq_eq_true hb) h
def nxtA:Nat→Nat
 | 0=>4
 | 4=>6
 | 6=>10
 | _=>99
def gA (s:Nat):Prop:=s=0∨s=4∨s=6∨s=10
structure AppJ (w0:World) (E:TypeId) (sz:Nat) (pf:Nat→Value→Prop) (R:Nat→Nat×List Value) (dn:Nat→Bool) (vs:Nat→Value) (w:World):Prop where
 g:Grow w0 w
 p:∀ j,¬ gA j→dn j=true→pf j (vs j)
 q:∀ s,gA s→dn s=true→dn (nxtA s)=false→w.ownsRow w0.heap.size E sz (vs s) (R s).1 (R s).2
 d:∀ s,gA s→dn (nxtA s)=true→dn s=true
 e:dn 99=false
section
variable {w0 w w':World} {E:TypeId} {sz:Nat} {pf:Nat→Value→Prop} {R:Nat→Nat×List Value} {dn:Nat→Bool} {vs:Nat→Value} {v:Value}
theorem nxtA_ne {s j:Nat} (hj:¬ gA j) (a0:j≠99):nxtA s≠j:=by
 intro e;unfold gA at hj;unfold nxtA at e;split at e<;>omega
theorem app_start (hg:Grow w0 w):AppJ w0 E sz pf R (λ _=>false) (λ _=>undef) w :=
 ⟨hg,λ j _ h=>(by cases h),λ s _ h=>(by cases h),λ s _ h=>(by cases h),rfl⟩
theorem eC (J:AppJ w0 E sz pf R dn vs w) {j:Nat} (hj:¬ gA j) (a0:j≠99) (hp:pf j v):AppJ w0 E sz pf R (upB dn j) (upV vs j v) w:=by
 refine ⟨J.g,λ i hi hd=>?_,λ s hs hd hn=>?_,λ s hs hd=>?_,?_⟩
 ·by_cases e:i=j
  ·subst e;rw [upV_same];exact hp
  ·rw [dQ e] at hd;rw [upV_other e];exact J.p i hi hd
 ·have e:s≠j:=λ e=>hj (e▸hs);rw [dQ e] at hd;rw [dQ (nxtA_ne hj a0)] at hn;rw [upV_other e];exact J.q s hs hd hn
 ·have e:s≠j:=λ e=>hj (e▸hs);rw [dQ (nxtA_ne hj a0)] at hd;rw [dQ e];exact J.d s hs hd
 ·rw [dQ (λ e=>a0 e.symm)];exact J.e
theorem app_first (J:AppJ w0 E sz pf R dn vs w) (h0:dn 0=false) (hg:Grow w w') (ho:w'.ownsRow w0.heap.size E sz v (R 0).1 (R 0).2):AppJ w0 E sz pf R (upB dn 0) (upV vs 0 v) w':=by
 have h4:dn 4=false:=by cases h:dn 4 with
  | false=>rfl
  | true=>rw [J.d 0 (.inl rfl) h] at h0;cases h0
 have h6:dn 6=false:=by cases h:dn 6 with
  | false=>rfl
  | true=>rw [J.d 4 (.inr (.inl rfl)) h] at h4;cases h4
 have a0:dn 10=false:=by cases h:dn 10 with
  | false=>rfl
  | true=>rw [J.d 6 (.inr (.inr (.inl rfl))) h] at h6;cases h6
 refine ⟨J.g.trans hg,λ i hi hd=>?_,λ s hs hd hn=>?_,λ s hs hd=>?_,?_⟩
 ·have e:i≠0:=λ e=>hi (.inl e);rw [dQ e] at hd;rw [upV_other e];exact J.p i hi hd
 ·rcases hs with rfl|rfl|rfl|rfl
  ·rw [upV_same];exact ho
  ·rw [dQ oM,h4] at hd;cases hd
  ·rw [dQ oM,h6] at hd;cases hd
  ·rw [dQ oM,a0] at hd;cases hd
 ·rcases hs with rfl|rfl|rfl|rfl
  ·exact upB_same _ _
  ·exact absurd hd (by show ¬ upB dn 0 6=true;rw [dQ oM,h6];simp)
  ·exact absurd hd (by show ¬ upB dn 0 10=true;rw [dQ oM,a0];simp)
  ·exact absurd hd (by show ¬ upB dn 0 99=true;rw [dQ oM,J.e];simp)
 ·rw [dQ oM];exact J.e
theorem jO (J:AppJ w0 E sz pf R dn vs w) {r s:Nat} (hr:gA r) (hs:gA s) (hn:nxtA r=s) (h0:dn s=false) (h1:dn r=true) (hg:Grow w0 w') (ho:w'.ownsRow w0.heap.size E sz v (R s).1 (R s).2):AppJ w0 E sz pf R (upB dn s) (upV vs s v) w':=by
 have a0:∀ t,gA t→s<t→dn t=false:=by
  intro t ht k0;have k4:dn 4=true→dn 0=true:=J.d 0 (.inl rfl);have k6:dn 6=true→dn 4=true:=J.d 4 (.inr (.inl rfl));have f0:dn 10=true→dn 6=true:=J.d 6 (.inr (.inr (.inl rfl)))
  cases h:dn t with
  | false=>rfl
  | true =>
   exfalso;rcases hs with rfl|rfl|rfl|rfl<;>rcases ht with rfl|rfl|rfl|rfl<;>first|omega|(have q:=k4 h;rw [h0] at q;cases q)|(have q:=k6 h;rw [h0] at q;cases q)|(have q:=f0 h;rw [h0] at q;cases q)|(have q:=k4 (k6 h);rw [h0] at q;cases q)|(have q:=k6 (f0 h);rw [h0] at q;cases q)|(have q:=k4 (k6 (f0 h));rw [h0] at q;cases q)
 have l0:r<s:=by rcases hr with rfl|rfl|rfl|rfl<;>simp only [nxtA] at hn<;>first|omega|(rcases hs with h|h|h|h<;>omega)
 refine ⟨hg,λ i hi hd=>?_,λ t ht hd e0=>?_,λ t ht hd=>?_,?_⟩
 ·have e:i≠s:=λ e=>hi (e▸hs);rw [dQ e] at hd;rw [upV_other e];exact J.p i hi hd
 ·by_cases e:t=s
  ·subst e;rw [upV_same];exact ho
  ·exfalso;rw [dQ e] at hd;rcases Nat.lt_trichotomy t s with h|h|h
   ·by_cases g0:t=r
    ·subst g0;rw [hn,upB_same] at e0;cases e0
    ·have j0:t<r:=by
      unfold gA at hs hr ht;clear hd e0 ho h0 h1 a0;rcases hr with rfl|rfl|rfl|rfl<;>simp only [nxtA] at hn<;>omega
     have i0:nxtA t≠s:=by
      unfold gA at hs hr;clear hd e0 ho h0 h1 a0;rcases ht with rfl|rfl|rfl|rfl<;>simp only [nxtA]<;>rcases hr with rfl|rfl|rfl|rfl<;>simp only [nxtA] at hn<;>omega
     rw [dQ i0] at e0;have k4:dn 4=true→dn 0=true:=J.d 0 (.inl rfl);have k6:dn 6=true→dn 4=true:=J.d 4 (.inr (.inl rfl));unfold gA at hs;rcases ht with rfl|rfl|rfl|rfl<;>rcases hr with rfl|rfl|rfl|rfl<;>simp only [nxtA] at e0 hn<;>first|omega|(rw [h1] at e0;cases e0)|(have q:=k6 h1;rw [q] at e0;cases e0)
   ·exact e h
   ·rw [a0 t ht h] at hd;cases hd
 ·by_cases e:t=s
  ·subst e;exact upB_same _ _
  ·rw [dQ e];by_cases e2:nxtA t=s
   ·have:t=r:=by
     rcases ht with rfl|rfl|rfl|rfl<;>rcases hr with rfl|rfl|rfl|rfl<;>simp only [nxtA] at hn e2<;>omega
    rw [this];exact h1
   ·rw [dQ e2] at hd;exact J.d t ht hd
 ·rw [dQ (by rcases hs with rfl|rfl|rfl|rfl<;>omega)];exact J.e
end
section
variable {F:Nat→Prop} {w:World} {size m c l h mm:Nat} {a:Option Addr} {cs:List Value}
def eL (a:Option Addr) (mm l size:Nat):Option Addr:=if mm=l then a else a.map (·.add (l*size))
theorem eW (hs:Sl F w size a m c cs) (b1:l≤h) (b2:h≤m) (b3:h≤mm) (b4:mm≤c):Sl F w size (eL a mm l size) (h-l) (mm-l) ((cs.drop (l*size)).take ((h-l)*size)):=by
 have e0:((cs.drop (l*size)).take ((h-l)*size)).length=(h-l)*size:=by
  rw [List.length_take,List.length_drop,hs.len,← Nat.sub_mul];exact Nat.min_eq_left (Nat.mul_le_mul_right _ oM)
 unfold eL;refine ⟨e0,oM,by have:=hs.max;omega,?_,?_⟩
 ·intro h0;split at h0
  ·have:=hs.nil h0;omega
  ·have:=hs.nil (by simpa using h0);omega
 ·have a0:=hs.row;split
  ·rename_i g0;have:(h-l)=0:=by omega
   rw [this]
   cases a with
   | none=>simp [Row]
   | some p=>exact λ hn=>by simp at hn
  ·cases a with
   | none=>simp only [Row] at a0;subst a0;simp [Row]
   | some p =>
    obtain ⟨b,o,s⟩:=p;intro f0;obtain ⟨h1,h2,h3,h4⟩:=a0 (by rintro rfl;simp at f0);simp only at h1;subst h1
    simp only [Addr.add_lit];refine ⟨trivial,h2,h3,λ j v hj=>?_⟩;rw [List.getElem?_take] at hj;split at hj
    ·rw [List.getElem?_drop] at hj;have:=h4 (l*size+j) v hj;simpa [Nat.add_assoc] using this
    ·cases hj
end
section
variable [Rn]
variable {P:Program} {n:Nat} {e:dI} {w w':World} {Q:dA} {ops:Array Oper} {rest:List Oper} {d:Nat} {ty:TypeId} {pos:String} {aft:Array Edge}
theorem dF {t a0 size bytes:Nat} {x:Operand} {lo hi mx:Option Operand} {a:Option Addr} {m c l h mm:Nat} [ht:SliceTy P t a0 size bytes]
  (hx:val e x=some (.slice a m c)) (hl:bnd e lo l 0) (hh:bnd e hi h m) (hm:bnd e mx mm c) (e0:hi=none→mx=none) (b1:l≤h) (b2:h≤m) (b3:h≤mm) (b4:mm≤c) (g0:m≤c) (hd:Nat.blt d n=true)
  (k:TL P n ops rest ((d,.slice (eL a mm l size) (h-l) (mm-l))::e) w Q) :
  TL P n ops (⟨some d,.slice t x lo hi mx,ty,pos,aft,none⟩::rest) e w Q:=by
 have f0:∀ r,Fits n e r→(Instr.sliceBounds true m c (lo.map r.eval) (hi.map r.eval) (mx.map r.eval)).run P w=.ok (l,h,mm) w:=by
  intro r hr
  cases lo with
  | none =>
   simp only [bnd] at hl;subst hl
   cases hi with
   | none =>
    have h0:=e0 rfl;subst h0
    simp only [bnd] at hh hm;subst hh;subst hm
    simp [Instr.sliceBounds]
   | some y =>
    obtain ⟨k2,z2,v2,e2⟩:=hh
    cases mx with
    | none=>simp only [bnd] at hm;subst hm;simp [Instr.sliceBounds,hr.eval v2,cR e2 b3]
    | some u=>obtain ⟨k3,z3,v3,e3⟩:=hm;simp [Instr.sliceBounds,hr.eval v2,hr.eval v3,cR e2 b3,cR e3 b4]
  | some x1 =>
   obtain ⟨k1,z1,v1,e1⟩:=hl
   cases hi with
   | none =>
    have h0:=e0 rfl;subst h0
    simp only [bnd] at hh hm;subst hh;subst hm
    simp [Instr.sliceBounds,hr.eval v1,cR e1 b1]
   | some y =>
    obtain ⟨k2,z2,v2,e2⟩:=hh
    cases mx with
    | none=>simp only [bnd] at hm;subst hm;simp [Instr.sliceBounds,hr.eval v1,hr.eval v2,cR e2 b3,cR e1 b1]
    | some u=>obtain ⟨k3,z3,v3,e3⟩:=hm;simp [Instr.sliceBounds,hr.eval v1,hr.eval v2,hr.eval v3,cR e2 b3,cR e3 b4,cR e1 b1]
 refine TL.run (v:=.slice (if mm=l then a else a.map (·.add (l*size))) (h-l) (mm-l)) (w':=w) (λ r hr=>?_) hd k
 ·simp [execOp,hr.eval hx,Instr.sliceAt,underlying,ht.und,Instr.slice,f0 r hr,ht.size]
end
end Go.V
namespace Go.Proofs.YtfpadnmdafiddaaGreatDoor
def lA (s:Pg) (qs:List Nat):List Nat:=qs.foldl gX (List.replicate s.words.length 0)
def hX (s:Pg) (qs:List Nat):Pg:={ s with words:=lA s qs }
theorem length_markW (l:List Nat) (n:Nat):(gX l n).length=l.length:=by simp [gX]
theorem lJ:∀ (qs l:List Nat),(qs.foldl gX l).length=l.length
 | [],l=>rfl
 | q::qs,l=>by rw [List.foldl_cons,lJ qs,length_markW]
theorem marks_bit:∀ (qs l:List Nat) (k:Nat),(∀ q∈qs,q / 64<l.length)→((qs.foldl gX l).getD (k / 64) 0).testBit (k%64)=(decide (k∈qs) || (l.getD (k / 64) 0).testBit (k%64))
 | [],l,k,_=>by simp
 | q::qs,l,k,h=>by
  rw [List.foldl_cons,marks_bit qs _ k (λ x hx=>by rw [length_markW];exact h x (List.mem_cons_of_mem _ hx)),markW_bit _ _ _ (h q sM)];by_cases h1:k=q
  ·subst h1;simp
  ·simp [h1]
theorem markW_64 {l:List Nat} {n:Nat} (h:∀ x∈l,x<18446744073709551616) (hd:n / 64<l.length):∀ x∈gX l n,x<18446744073709551616:=by
 intro x hx;unfold gX at hx;rcases List.mem_or_eq_of_mem_set hx with hx|rfl
 ·exact h x hx
 ·have h5:l.getD (n / 64) 0<2^64:=by
   rw [List.getD_eq_getElem?_getD,List.getElem?_eq_getElem hd];exact h _ (List.getElem_mem hd)
  have h6:2^(n%64)<2^64:=Nat.pow_lt_pow_right dM (Nat.mod_lt _ dM);exact Nat.or_lt_two_pow h5 h6
theorem marks_64:∀ {qs l:List Nat},(∀ x∈l,x<18446744073709551616)→(∀ q∈qs,q / 64<l.length)→∀ x∈qs.foldl gX l,x<18446744073709551616
 | [],l,h,_=>h
 | q::qs,l,h,hq=>by
  rw [List.foldl_cons];exact marks_64 (markW_64 h (hq q sM)) (λ x hx=>by rw [length_markW];exact hq x (List.mem_cons_of_mem _ hx))
theorem zeros_bit (n k j:Nat):((List.replicate n 0).getD k 0).testBit j=false:=by
 rw [List.getD_eq_getElem?_getD,List.getElem?_replicate];split<;>simp
theorem keep_div {s:Pg} (hs:PgOk s) {qs:List Nat} (h:∀ q∈qs,bK s q=true):∀ q∈qs,q / 64<(List.replicate s.words.length 0).length:=λ q hq=>by
 rw [List.length_replicate];exact used_div hs (dV (h q hq))
theorem jX {s:Pg} (hs:PgOk s) {qs:List Nat} (h:∀ q∈qs,bK s q=true) (k:Nat):bK (hX s qs) k=decide (k∈qs):=by
 unfold bK hX lA;simp only;rw [marks_bit _ _ _ (keep_div hs h),zeros_bit,Bool.or_false];by_cases hk:k∈qs
 ·simp [hk,dV (h k hk)]
 ·simp [hk]
theorem keep_ok {s:Pg} (hs:PgOk s) {qs:List Nat} (h:∀ q∈qs,bK s q=true):PgOk (hX s qs):=by
 refine ⟨?_,?_,λ n hn=>?_,hs.cnt⟩
 ·show (lA s qs).length=_;unfold lA;rw [lJ,List.length_replicate];exact hs.wl
 ·exact marks_64 (λ x hx=>by rw [(List.mem_replicate.1 hx).2];decide) (keep_div hs h)
 ·show ((lA s qs).getD (n / 64) 0).testBit (n%64)=false;unfold lA;rw [marks_bit _ _ _ (keep_div hs h),zeros_bit,Bool.or_false];refine decide_eq_false λ hm=>?_;have:=dV (h n hm);have a0:s.count≤n:=hn;omega
theorem cnt_le (p:Nat→Bool) (n N:Nat):((List.range N).filter λ k=>k==n || p k).length≤((List.range N).filter p).length+1:=by
 cases hp:p n with
 | false=>rw [cnt_add p n hp N];split<;>omega
 | true =>
  have:(λ k=>k==n || p k)=p:=by
   funext k
   by_cases h:k=n
   ·subst h;simp [hp]
   ·simp [h]
  rw [this];omega
theorem cnt_mem (N:Nat):∀ qs:List Nat,((List.range N).filter λ k=>decide (k∈qs)).length≤qs.length
 | []=>by simp
 | q::qs=>by
  have h:=cnt_le (λ k=>decide (k∈qs)) q N;have ih:=cnt_mem N qs
  have e:(λ k=>decide (k∈q::qs))=(λ k=>k==q || decide (k∈qs)):=by
   funext k
   by_cases h:k=q<;>simp [h]
  rw [e,List.length_cons];omega
theorem keep_spare {s:Pg} (hs:PgOk s) {qs:List Nat} (h:∀ q∈qs,bK s q=true):s.count≤cC (hX s qs)+qs.length:=by
 have e:fN (hX s qs)=((List.range s.count).filter λ k=>decide (k∈qs)).length:=by
  unfold fN;congr 1
  exact List.filter_congr λ k _=>jX hs h k
 have:=cnt_mem s.count qs;unfold cC;rw [e];show s.count≤s.count-_+_;omega
theorem keep_node {s:Pg} (hs:PgOk s) {qs:List Nat} (h:∀ q∈qs,bK s q=true) {n:Nat} (hn:n∈qs):cD (hX s qs) n=cD s n:=by
 unfold cD;rw [jX hs h,h n hn,decide_eq_true hn];rfl
theorem Vt.kept {s s':Pg}:∀ {h:Nat} {nd:Nd} {l:bT} {ps:List Nat},(∀ p∈ps,cD s' p=cD s p)→Vt s h nd l ps→Vt s' h nd l ps
 | 0,_,_,_,_,h=>h
 | h+1,nd,l,ps,hk,⟨ls,h1,h2,h3,h4,h5,h6,h7,h8⟩=>⟨ls,h1,h2,h3,h4,h5,h6,h7,λ x a0=>by
  obtain ⟨nd',g1,g2,g3⟩:=h8 x a0;have hin:∀ p∈x.page::x.ps,p∈ps:=λ p hp=>by rw [h7];exact List.mem_flatMap.2 ⟨x,a0,hp⟩
  exact ⟨nd',(hk _ (hin _ sM)).trans g1,g2,g3.kept λ p hp=>hk _ (hin _ (List.mem_cons_of_mem _ hp))⟩⟩
theorem TrAt.kept {s s':Pg} {r:Option Nat} {lv:Nat} {l:bT} {ps:List Nat} (h:TrAt s r lv l ps) (hk:∀ p∈ps,cD s' p=cD s p):TrAt s' r lv l ps:=by
 cases r with
 | none=>exact h
 | some n =>
  obtain ⟨h,nd,a0,e1,e2,e3,e4,rfl⟩:=h;exact ⟨h,nd,a0,e1,(hk n sM).trans e2,e3.kept λ p hp=>hk p (List.mem_cons_of_mem _ hp),e4,rfl⟩
theorem TrAt.used {s:Pg} {r:Option Nat} {lv:Nat} {l:bT} {ps:List Nat} (h:TrAt s r lv l ps):∀ p∈ps,bK s p=true:=by
 cases r with
 | none=>rw [h.2.2];intro p hp;cases hp
 | some n =>
  obtain ⟨h,nd,e0,e1,e2,e3,e4,rfl⟩:=h;intro p hp;rcases List.mem_cons.1 hp with rfl|hp
  ·exact dL e2
  ·obtain ⟨h',f0,l',a0,k1,k2,k3⟩:=e3.below p hp;exact dL k2
theorem TrAt.keep {s:Pg} (hs:PgOk s) {qs:List Nat} (hq:∀ q∈qs,bK s q=true) {r:Option Nat} {lv:Nat} {l:bT} {ps:List Nat} (h:TrAt s r lv l ps) (hp:∀ p∈ps,p∈qs):TrAt (hX s qs) r lv l ps :=
 h.kept λ p hm=>keep_node hs hq (hp p hm)
def usedL (s:Pg):List Nat:=(List.range s.count).filter λ n=>bK s n
theorem usedL_len (s:Pg):(usedL s).length=fN s:=rfl
theorem low_off (k m:Nat):(2^k*(2*m+1))&&&(2^k*(2*m+1)-1)=2^k*(2*m):=by
 apply Nat.eq_of_testBit_eq;intro i;rw [Nat.testBit_and,mQ,bit_pred];have h:=Nat.testBit_two_pow_mul_add (2*m) (b:=0) (i:=k) (Nat.two_pow_pos k) i;rw [Nat.add_zero] at h;rw [h];by_cases h1:i<k
 ·simp [h1]
 ·by_cases h2:i=k
  ·subst h2;simp
  ·rw [if_neg h1,if_neg h1,if_neg h2,if_neg h2,if_neg h1];obtain ⟨t,ht⟩:∃ t,i-k=t+1:=⟨i-k-1,oM⟩
   rw [ht,Nat.testBit_succ,show 2*m / 2=m by omega];simp
structure Sift (ws:List Nat) (i:Nat) (y:Nat) (l:List Nat):Prop where
 le:y<18446744073709551616
 at_:∃ t,t≤64∧l=(List.range (64*i+t)).filter (bitF ws)∧∀ j,y.testBit j=(decide (t≤j)&&(ws.getD i 0).testBit j)
theorem Sift.start {ws:List Nat} {i:Nat} {l:List Nat} (h:(ws.getD i 0)<18446744073709551616) (hl:l=(List.range (64*i)).filter (bitF ws)):Sift ws i (ws.getD i 0) l :=
 ⟨h,0,oM,hl,λ j=>by simp⟩
theorem bitF_at (ws:List Nat) (i j:Nat) (h:j<64):bitF ws (64*i+j)=(ws.getD i 0).testBit j:=by
 unfold bitF;rw [show (64*i+j) / 64=i by omega,show (64*i+j)%64=j by omega]
theorem filter_gap (p:Nat→Bool) (a b:Nat) (h:a≤b) (hp:∀ k,a≤k→k<b→p k=false):(List.range b).filter p=(List.range a).filter p:=by
 obtain ⟨d,rfl⟩:∃ d,b=a+d:=⟨b-a,oM⟩
 rw [List.range_add,List.filter_append]
 have e1:((List.range d).map (a + ·)).filter p=[]:=by
  rw [List.filter_eq_nil_iff];intro n hn;obtain ⟨j,hj,rfl⟩:=List.mem_map.1 hn;rw [hp (a+j) oM (by have:=List.mem_range.1 hj;omega)];simp
 rw [e1,List.append_nil]
theorem Sift.step {ws:List Nat} {i k m:Nat} {l:List Nat} (h:Sift ws i (2^k*(2*m+1)) l):k<64∧Sift ws i (2^k*(2*m)) (l++[64*i+k]):=by
 obtain ⟨h1,t,ht,hl,hb⟩:=h
 have a0:k<64:=by
  rcases Nat.lt_or_ge k 64 with h2|h2
  ·exact h2
  ·have h3:2^64≤2^k:=Nat.pow_le_pow_right oM h2;have h4:2^k*1≤2^k*(2*m+1):=Nat.mul_le_mul_left _ oM;have h5:(2:Nat)^64=18446744073709551616:=by decide
   omega
 have f0:=hb k;rw [mQ,if_neg oM,if_pos rfl] at f0;have e0:=Bool.and_eq_true_iff.1 f0.symm;have i0:t≤k:=by simpa using e0.1
 refine ⟨a0,?_,k+1,oM,?_,λ j=>?_⟩
 ·have h4:2^k*(2*m)≤2^k*(2*m+1):=Nat.mul_le_mul_left _ oM;omega
 ·rw [hl,show 64*i+(k+1)=(64*i+k)+1 by omega,List.range_succ,List.filter_append];congr 1
  ·refine (filter_gap _ _ _ oM λ z h0 g0=>?_).symm;obtain ⟨j,rfl⟩:∃ j,z=64*i+j:=⟨z-64*i,oM⟩
   rw [bitF_at _ _ _ oM];have hj:=hb j;rw [mQ,if_pos oM,decide_eq_true (show t≤j by omega),Bool.true_and] at hj;exact hj.symm
  ·have:bitF ws (64*i+k)=true:=by rw [bitF_at _ _ _ a0];exact e0.2
   simp [List.filter,this]
 ·have e:=low_off k m;rw [← e,Nat.testBit_and,hb j,bit_pred];by_cases h2:j<k
  ·have h3:=hb j;rw [mQ,if_pos h2] at h3;rw [← h3];have:¬ k+1≤j:=by omega
   simp [this]
  ·by_cases h3:j=k
   ·subst h3;have:¬ j+1≤j:=by omega
    simp [this]
   ·rw [if_neg h2,if_neg h3];have h4:=hb j;rw [mQ,if_neg h2,if_neg h3,decide_eq_true (show t≤j by omega),Bool.true_and] at h4;rw [← h4,decide_eq_true (show t≤j by omega),decide_eq_true (show k+1≤j by omega)];simp
theorem Sift.done {ws:List Nat} {i:Nat} {l:List Nat} (h:Sift ws i 0 l):l=(List.range (64*(i+1))).filter (bitF ws):=by
 obtain ⟨h1,t,ht,hl,hb⟩:=h;rw [hl];refine (filter_gap _ _ _ oM λ z e0 a0=>?_).symm;obtain ⟨j,rfl⟩:∃ j,z=64*i+j:=⟨z-64*i,oM⟩
 rw [bitF_at _ _ _ oM];have hj:=hb j;rw [Nat.zero_testBit,decide_eq_true (show t≤j by omega),Bool.true_and] at hj;exact hj.symm
theorem Sift.len {ws:List Nat} {i y:Nat} {l:List Nat} (h:Sift ws i y l):l.length≤64*i+64:=by
 obtain ⟨h1,t,ht,hl,hb⟩:=h;rw [hl];refine Nat.le_trans (List.length_filter_le _ _) ?_;rw [List.length_range];omega
theorem rdBlk_inv {r p t:Bs} (hr:fK r) (h:jV r=some (p,t)):r=bS p++t:=by
 unfold jV at h;split at h;rotate_left
 ·cases h
 rename_i h0;split at h;rotate_left
 ·cases h
 rename_i a0;simp only [Option.some.injEq,Prod.mk.injEq] at h;obtain ⟨hp,ht⟩:=h;have hb:=(numV_back (r:=r) (v:=(fV r).1) (k:=(fV r).2.1) hr (by rw [← h0])).1;have hl:p.length=(fV r).1:=by rw [← hp,List.length_take];omega
 unfold bS;rw [hl,List.append_assoc,← hp,← ht,List.take_append_drop];exact hb
theorem rdItems_inv:∀ {c:Nat} {r t:Bs} {l:bT},fK r→iT c r=some (l,t)→r=l.flatMap (λ x=>bS x.1++bS x.2)++t∧l.length=c
 | 0,r,t,l,hr,h=>by
  simp only [iT,Option.some.injEq,Prod.mk.injEq] at h;obtain ⟨rfl,rfl⟩:=h;exact ⟨rfl,rfl⟩
 | c+1,r,t,l,hr,h=>by
  unfold iT at h;split at h
  ·cases h
  rename_i k r1 e1;split at h
  ·cases h
  rename_i v r2 e2;split at h
  ·cases h
  rename_i l' r3 e3;simp only [Option.some.injEq,Prod.mk.injEq] at h;obtain ⟨rfl,rfl⟩:=h;have b2:=(nD hr e1).2;have b4:=(nD b2 e2).2;obtain ⟨q1,q2⟩:=rdItems_inv b4 e3;refine ⟨?_,by simp [q2]⟩;rw [rdBlk_inv hr e1,rdBlk_inv b2 e2];conv=>lhs;rw [q1]
  simp
theorem rdWord_inv {r t:Bs} {k:Nat} (hr:fK r) (h:rdWord r=some (k,t)):r=bP k++t:=by
 unfold rdWord at h;split at h;rotate_left
 ·cases h
 rename_i h4;simp only [Option.some.injEq,Prod.mk.injEq] at h;obtain ⟨rfl,rfl⟩:=h
 match r,h4 with
 | a::b::c::d::r',_ =>
  have h1:=hr a sM;have h2:=hr b sM;have h3:=hr c sM;have h4:=hr d sM;simp only [le4,bP,List.getD_cons_zero,List.getD_cons_succ,List.drop_succ_cons,List.drop_zero,List.cons_append,List.nil_append,List.cons.injEq,and_true];omega
theorem rdKids_inv:∀ {c:Nat} {r t:Bs} {l:List Nat},fK r→kQ c r=some (l,t)→r=l.flatMap bP++t∧l.length=c
 | 0,r,t,l,hr,h=>by
  simp only [kQ,Option.some.injEq,Prod.mk.injEq] at h;obtain ⟨rfl,rfl⟩:=h;exact ⟨rfl,rfl⟩
 | c+1,r,t,l,hr,h=>by
  unfold kQ at h;split at h
  ·cases h
  rename_i k r1 e1;split at h
  ·cases h
  rename_i l' r3 e3;simp only [Option.some.injEq,Prod.mk.injEq] at h;obtain ⟨rfl,rfl⟩:=h;have e:=rdWord_inv hr e1;have b2:fK r1:=λ x hx=>hr x (by rw [e];exact List.mem_append_right _ hx);obtain ⟨q1,q2⟩:=rdKids_inv b2 e3;refine ⟨?_,by simp [q2]⟩;rw [e];conv=>lhs;rw [q1]
  simp
theorem rdKeys_inv:∀ {c:Nat} {r t:Bs} {l:List Bs},fK r→kS c r=some (l,t)→r=l.flatMap bS++t∧l.length=c
 | 0,r,t,l,hr,h=>by
  simp only [kS,Option.some.injEq,Prod.mk.injEq] at h;obtain ⟨rfl,rfl⟩:=h;exact ⟨rfl,rfl⟩
 | c+1,r,t,l,hr,h=>by
  unfold kS at h;split at h
  ·cases h
  rename_i k r1 e1;split at h
  ·cases h
  rename_i l' r3 e3;simp only [Option.some.injEq,Prod.mk.injEq] at h;obtain ⟨rfl,rfl⟩:=h;have e:=rdBlk_inv hr e1;have b2:=(nD hr e1).2;obtain ⟨q1,q2⟩:=rdKeys_inv b2 e3;refine ⟨?_,by simp [q2]⟩;rw [e];conv=>lhs;rw [q1]
  simp
theorem zeros_of:∀ {r:Bs},r.all (λ x=>x==0)=true→r=List.replicate r.length 0
 | [],_=>rfl
 | x::r,h=>by
  simp only [List.all_cons,Bool.and_eq_true,beq_iff_eq] at h;simp only [List.length_cons,List.replicate_succ,List.cons.injEq];exact ⟨h.1,zeros_of h.2⟩
theorem finN_inv {m n:Nd} {r:Bs} (h:finN m r=some n):m=n∧bF n=true∧r=List.replicate r.length 0:=by
 unfold finN at h;split at h
 ·rename_i hc;simp only [Option.some.injEq] at h;subst h;obtain ⟨h1,h2⟩:=Bool.and_eq_true_iff.1 hc;exact ⟨rfl,h2,zeros_of h1⟩
 ·cases h
theorem readN_inv {b:Bs} {n:Nd} (hb:fK b) (h:fX b=some n):∃ z,b=dC n++List.replicate z 0:=by
 have e0:=readN_ok h;unfold fX at h;split at h;rotate_left
 ·cases h
 rename_i kd c r;have hr:fK r:=λ x hx=>hb x (by simp [hx]);split at h
 ·cases h
 rename_i h8;split at h
 ·rename_i h0;subst h0;split at h
  ·cases h
  rename_i l r1 e1;obtain ⟨rfl,q2,q3⟩:=finN_inv h;obtain ⟨q4,q5⟩:=rdItems_inv hr e1;refine ⟨r1.length,?_⟩;unfold dC;rw [if_pos (show bN (⟨l,[],[]⟩:Nd)=true from rfl)];simp only [List.cons_append,List.nil_append,List.cons.injEq,true_and];rw [← q3];exact ⟨q5.symm,q4⟩
 split at h;rotate_left
 ·cases h
 rename_i h1;obtain ⟨h1,h2⟩:=h1;subst h1;split at h
 ·cases h
 rename_i l r1 e1;split at h
 ·cases h
 rename_i ks r2 e2;obtain ⟨rfl,q2,q3⟩:=finN_inv h;obtain ⟨q4,q5⟩:=rdKids_inv hr e1;have a0:fK r1:=rdKids_by hr e1;obtain ⟨q6,q7⟩:=rdKeys_inv a0 e2;refine ⟨r2.length,?_⟩
 have hl:bN (⟨[],l,ks⟩:Nd)=false:=by
  cases hll:bN (⟨[],l,ks⟩:Nd) with
  | false=>rfl
  | true=>have:=bL.1 hll;simp only at this;rw [this] at q5;simp at q5;omega
 unfold dC;rw [if_neg (by rw [hl];simp)];simp only [List.cons_append,List.nil_append,List.cons.injEq,true_and];rw [← q3];refine ⟨q5.symm,?_⟩;rw [q4];conv=>lhs;rw [q6]
 simp
theorem nodeP_body {s:Pg} {n:Nat} {nd:Nd} (hs:PgB s) (h:cD s n=some nd):bF nd=true∧∃ z,s.body n=dC nd++List.replicate z 0:=by
 refine ⟨fB h,?_⟩;unfold cD at h;split at h
 ·exact readN_inv (hs n) h
 ·cases h
theorem toks_apart:∀ {ls:List Sb} {ks:List Bs},ls.length=ks.length+1→(toks ls ks).Pairwise RT→ls.Pairwise λ x y=>RT (.T x) (.T y):=by
 intro ls
 induction ls with
 | nil=>intro ks _ _;exact List.Pairwise.nil
 | cons x r ih =>
  intro ks hl hp;simp only [toks] at hp;obtain ⟨h1,h2⟩:=List.pairwise_cons.1 hp;have hr:r.length=ks.length:=by simpa using hl
  refine List.pairwise_cons.2 ⟨λ y hy=>h1 _ (nQ hr hy),?_⟩
  cases r with
  | nil=>exact List.Pairwise.nil
  | cons z zs=>cases ks with
   | nil=>cases hr
   | cons k ks =>
    simp only [KT] at h2;exact ih (ks:=ks) (by simpa using hr) (List.pairwise_cons.1 h2).2
theorem Vt.beneath {s:Pg}:∀ {h:Nat} {nd:Nd} {l:bT} {ps:List Nat},Vt s h nd l ps→∀ p∈ps,∃ h' a0 l' e0,h'<h∧cD s p=some a0∧Vt s h' a0 l' e0∧4≤aT a0∧∀ x∈l',x∈l
 | 0,nd,l,ps,h,p,hp=>by obtain ⟨_,rfl,_⟩:=h;cases hp
 | h+1,nd,l,ps,⟨ls,e1,e2,e3,_,_,e6,e7,e8⟩,p,hp=>by
  rw [e7] at hp;obtain ⟨x,hx,hpx⟩:=List.mem_flatMap.1 hp;obtain ⟨a0,g1,g2,g3⟩:=e8 x hx;have hsub:∀ y∈x.its,y∈l:=λ y hy=>by rw [e6];exact List.mem_flatMap.2 ⟨x,hx,hy⟩
  rcases List.mem_cons.1 hpx with rfl|hpx
  ·exact ⟨h,a0,_,_,oM,g1,g3,g2,hsub⟩
  ·obtain ⟨h',n',l',e0,q1,q2,q3,q4,q5⟩:=g3.beneath p hpx;exact ⟨h',n',l',e0,oM,q2,q3,q4,λ y hy=>hsub y (q5 y hy)⟩
theorem Vt.notin {s:Pg} {h n:Nat} {nd:Nd} {l:bT} {ps:List Nat} (hv:Vt s h nd l ps) (hn:cD s n=some nd):n∉ps:=λ hp=>by
 obtain ⟨h',nd',l',ps',q1,q2,q3,_⟩:=hv.beneath n hp;rw [hn] at q2;cases q2;have:=hv.height q3;omega
theorem Vt.nodup {s:Pg}:∀ {h:Nat} {nd:Nd} {l:bT} {ps:List Nat},Vt s h nd l ps→ps.Nodup
 | 0,nd,l,ps,h=>by obtain ⟨_,rfl,_⟩:=h;exact List.Pairwise.nil
 | h+1,nd,l,ps,⟨ls,e1,e2,e3,e4,_,e6,e7,e8⟩=>by
  rw [e7];refine List.pairwise_flatMap.2 ⟨λ x hx=>?_,?_⟩
  ·obtain ⟨a0,g1,g2,g3⟩:=e8 x hx;exact List.nodup_cons.2 ⟨g3.notin g1,g3.nodup⟩
  ·refine List.Pairwise.imp_of_mem (λ {x y} hx hy g0 p hp q hq e=>?_) (toks_apart e3 e4);subst e
   have at_:∀ z∈ls,p∈z.page::z.ps→∃ h' a0 l' e0,cD s p=some a0∧Vt s h' a0 l' e0∧4≤aT a0∧∀ a∈l',a∈z.its:=λ z hz f0=>by
    obtain ⟨a0,g1,g2,g3⟩:=e8 z hz;rcases List.mem_cons.1 f0 with e|f0
    ·rw [e];exact ⟨h,a0,_,_,g1,g3,g2,λ a ha=>ha⟩
    ·obtain ⟨h',n',l',e0,q1,q2,q3,q4,q5⟩:=g3.beneath p f0;exact ⟨h',n',l',e0,q2,q3,q4,q5⟩
   obtain ⟨h1,n1,l1,p1,a1,a2,a3,a4⟩:=at_ x hx hp;obtain ⟨h2,n2,l2,p2,b1,b2,b3,b4⟩:=at_ y hy hq;rw [a1] at b1;cases b1;obtain rfl:=a2.height b2;obtain ⟨rfl,rfl⟩:=a2.same b2;obtain ⟨a,ha⟩:=List.exists_mem_of_ne_nil _ (a2.ne oM);exact fG _ (g0 a (a4 a ha) a (b4 a ha))
theorem TrAt.nodup {s:Pg} {r:Option Nat} {lv:Nat} {l:bT} {ps:List Nat} (h:TrAt s r lv l ps):ps.Nodup:=by
 cases r with
 | none=>rw [h.2.2];exact List.Pairwise.nil
 | some n =>
  obtain ⟨h,nd,a0,e1,e2,e3,e4,rfl⟩:=h;exact List.nodup_cons.2 ⟨e3.notin e2,e3.nodup⟩
end Go.Proofs.YtfpadnmdafiddaaGreatDoor
