import Derived.Test.YtfpadnmdafiddaaGreatDoorKf
import Derived.Test.YtfpadnmdafiddaaGreatDoorKe
import Derived.Test.YtfpadnmdafiddaaGreatDoorKb
import Derived.WideKeyArgs2
import Derived.Laws.BytesArg
import Derived.Test.YtfpadnmdafiddaaGreatDoorKa
import Derived.Lib.LaidTab
import Derived.LaidLaws
import Derived.Test.YtfpadnmdafiddaaGreatDoorKc
import Derived.Sort.MapsRangeIn
import Derived.Lib.SlKeysI
import Derived.ArgAppend
import Derived.Test.YtfpadnmdafiddaaGreatDoorKd
import Derived.Shelf.SlIterI.Sorted
import Derived.Shelf.SortM.Plain
import Derived.Shelf.SortM.SortNone
set_option linter.all false
set_option maxHeartbeats 16000000
set_option maxRecDepth 100000
namespace Go.Proofs.YtfpadnmdafiddaaGreatDoor
theorem getMc (n k:Nat) (t:Part) (M:eN):fH ((n,t)::M) k=if k=n then some t else fH M k:=by
 unfold fH
 rw [List.find?_cons]
 by_cases h:k=n
 ·subst h;simp
 ·rw [if_neg h]
  have:(n==k)=false:=by simp;omega
  simp [this]
theorem toks_adj:∀ {ls:List Sb} {ks:List Bs},ls.length=ks.length+1→(toks ls ks).Pairwise RT→∀ i k,ks[i]? = some k→(∀ x,ls[i]? = some x→RT (.T x) (.K k))∧∀ y,ls[i+1]? = some y→RT (.K k) (.T y)
 | [],ks,h,_,_,_,_=>by cases h
 | [x],ks,h,_,i,k,hk=>by
  obtain rfl:ks=[]:=List.eq_nil_of_length_eq_zero (by simpa using h.symm)
  cases hk
 | x::y::r,[],h,_,i,k,hk=>by cases hk
 | x::y::r,k0::ks,h,hp,i,k,hk=>by
  have e:toks (x::y::r) (k0::ks)=Tok.T x::Tok.K k0::toks (y::r) ks:=rfl
  rw [e] at hp
  obtain ⟨p1,p2⟩:=List.pairwise_cons.1 hp
  obtain ⟨p3,p4⟩:=List.pairwise_cons.1 p2
  cases i with
  | zero =>
   simp only [List.getElem?_cons_zero,Option.some.injEq] at hk
   subst hk
   refine ⟨λ z hz=>?_,λ z hz=>?_⟩
   ·simp only [List.getElem?_cons_zero,Option.some.injEq] at hz
    subst hz
    exact p1 _ (by simp)
   ·simp only [List.getElem?_cons_succ,List.getElem?_cons_zero,Option.some.injEq] at hz
    subst hz
    exact p3 _ (by simp [toks])
  | succ i =>
   have ih:=toks_adj (ls:=y::r) (ks:=ks) (by simpa using h) p4 i k (by simpa using hk)
   exact ⟨λ z hz=>ih.1 z (by simpa using hz),λ z hz=>ih.2 z (by simpa using hz)⟩
def firstK (l:dS):Bs:=(l.getD 0 ([],[])).1
def lastK (l:dS):Bs:=(l.getD (l.length-1) ([],[])).1
theorem firstK_mem {l:dS} (h:l≠[]):∃ x∈l,x.1=firstK l:=by
 cases l with
 | nil=>exact absurd rfl h
 | cons x r=>exact ⟨x,by simp,rfl⟩
theorem lastK_mem {l:dS} (h:l≠[]):∃ x∈l,x.1=lastK l:=by
 have hl:l.length-1<l.length:=by
  cases l with
  | nil=>exact absurd rfl h
  | cons x r=>simp
 refine ⟨l[l.length-1],List.getElem_mem hl,?_⟩
 unfold lastK
 rw [List.getD_eq_getElem?_getD,List.getElem?_eq_getElem hl]
 rfl
theorem firstK_append {l r:dS} (h:l≠[]):firstK (l++r)=firstK l:=by
 cases l with
 | nil=>exact absurd rfl h
 | cons x t=>rfl
theorem lastK_append {l r:dS} (h:r≠[]):lastK (l++r)=lastK r:=by
 unfold lastK
 have hr:0<r.length:=List.length_pos_iff.2 h
 rw [List.getD_eq_getElem?_getD,List.getD_eq_getElem?_getD,List.length_append,List.getElem?_append_right (by omega)]
 congr 3
 omega
def DeepM (M:eN):Nat→Nat→Prop
 | 0,_=>False
 | f+1,n=>∃ t,fH M n=some t∧∀ k∈t.node.kids,DeepM M f k
def SubM (M M':eN):Prop:=∀ k t,fH M k=some t→fH M' k=some t
theorem DeepM.sub {M M':eN} (h:SubM M M'):∀ {f n:Nat},DeepM M f n→DeepM M' f n
 | 0,_,h=>h.elim
 | f+1,n,⟨t,h1,h2⟩=>⟨t,h n t h1,λ k hk=>(h2 k hk).sub h⟩
theorem flatMap_same {α β : Type} {f g : α→List β}:∀ {l:List α},(∀ x∈l,f x=g x)→l.flatMap f=l.flatMap g
 | [],_=>rfl
 | x::r,h=>by
  simp only [List.flatMap_cons]
  rw [h x (by simp),flatMap_same λ y hy=>h y (List.mem_cons_of_mem _ hy)]
theorem itemsP_sub {M M':eN} (h:SubM M M'):∀ {f n:Nat},DeepM M f n→fM M' f n=fM M f n
 | 0,_,h=>h.elim
 | f+1,n,⟨t,h1,h2⟩=>by
  rw [fM,fM,h1,h n t h1]
  simp only
  congr 1
  exact flatMap_same λ k hk=>itemsP_sub h (h2 k hk)
structure Known (s:Pg) (M:eN) (n:Nat) (t:Part) (h:Nat) (l:dS) (ps:List Nat):Prop where
 node:dQ s n=some t.node
 vt:Vt s h t.node l ps
 sz:1≤bK t.node
 lv:t.levels=h+1
 low:t.low=firstK l
 high:t.high=lastK l
 deep:DeepM M (h+1) n
 its:fM M (h+1) n=l
 ps:∀ p∈ps,∃ t,fH M p=some t
theorem Known.sub {s:Pg} {M M':eN} (hs:SubM M M') {n h:Nat} {t:Part} {l:dS} {ps:List Nat} (k:Known s M n t h l ps):Known s M' n t h l ps :=
 ⟨k.node,k.vt,k.sz,k.lv,k.low,k.high,k.deep.sub hs,(itemsP_sub hs k.deep).trans k.its,λ p hp=>let ⟨t,ht⟩:=k.ps p hp;⟨t,hs p t ht⟩⟩
def MemoOk (s:Pg) (M:eN):Prop:=∀ n t,fH M n=some t→∃ h l ps,Known s M n t h l ps
theorem MemoOk.at_ {s:Pg} {M:eN} (hM:MemoOk s M) {n h:Nat} {t:Part} {nd:Nd} {l:dS} {ps:List Nat} (ht:fH M n=some t) (hn:dQ s n=some nd) (hv:Vt s h nd l ps):t.node=nd∧Known s M n t h l ps:=by
 obtain ⟨h',l',ps',k⟩:=hM n t ht
 have e:=k.node
 rw [hn] at e
 cases e
 obtain rfl:=hv.height k.vt
 obtain ⟨rfl,rfl⟩:=hv.same k.vt
 exact ⟨rfl,k⟩
theorem SubM.cons {M:eN} {n:Nat} {t:Part} (h:fH M n=none):SubM M ((n,t)::M):=λ k t' hk=>by
 rw [getMc,if_neg]
 ·exact hk
 ·intro e;subst e;rw [h] at hk;cases hk
theorem MemoOk.cons {s:Pg} {M:eN} (hM:MemoOk s M) {n h:Nat} {t:Part} {l:dS} {ps:List Nat} (h0:fH M n=none) (k:Known s ((n,t)::M) n t h l ps):MemoOk s ((n,t)::M):=λ m t' hm=>by
 rw [getMc] at hm
 split at hm
 ·rename_i e;subst e;cases hm;exact ⟨h,l,ps,k⟩
 ·obtain ⟨h',l',ps',k'⟩:=hM m t' hm
  exact ⟨h',l',ps',k'.sub (SubM.cons h0)⟩
def PartT (s:Pg) (h f:Nat):Prop:=∀ {n:Nat} {nd:Nd} {l:dS} {ps:List Nat} {M:eN},MemoOk s M→dQ s n=some nd→Vt s h nd l ps→1≤bK nd →
  ∃ t M',kN s f n M=some (t,M')∧MemoOk s M'∧SubM M M'∧fH M' n=some t∧t.node=nd∧Known s M' n t h l ps∧∀ k t',fH M' k=some t'→(∃ t,fH M k=some t)∨k∈n::ps
theorem kids_tr {s:Pg} {h f:Nat} (hh:h+1≤15) (ih:PartT s h f) {nd:Nd} {ls:List Sb} (e3:ls.length=nd.keys.length+1) (e4:(toks ls nd.keys).Pairwise RT) (e8:∀ x∈ls,∃ nd',dQ s x.page=some nd'∧4≤bK nd'∧Vt s h nd' x.its x.ps) :
  ∀ (rest done:List Sb) {M:eN} {t:Part},ls=done++rest→MemoOk s M→t.node=nd→(done≠[]→t.levels=h+2∧t.low=firstK (ls.flatMap (·.its))∧t.high=lastK (done.flatMap (·.its))) →
   ∃ t' M',lN (kN s f) nd (rest.map (·.page)) done.length t M=some (t',M')∧MemoOk s M'∧SubM M M'∧(∀ x∈rest,∃ tx,fH M' x.page=some tx∧Known s M' x.page tx h x.its x.ps)∧(∀ k t',fH M' k=some t'→(∃ t,fH M k=some t)∨k∈pgs rest) ∧
    t'.node=nd∧t'.levels=h+2∧t'.low=firstK (ls.flatMap (·.its))∧t'.high=lastK (ls.flatMap (·.its)):=by
 intro rest
 induction rest with
 | nil =>
  intro done M t e hM hn hd
  rw [List.append_nil] at e
  subst e
  have hne:ls≠[]:=by intro e;subst e;cases e3
  obtain ⟨h1,h2,h3⟩:=hd hne
  refine ⟨t,M,?_,hM,λ _ _ h=>h,(λ x hx=>by cases hx),λ k t' hk=>.inl ⟨t',hk⟩,hn,h1,h2,h3⟩
  simp only [List.map_nil,lN]
  rw [if_neg (by omega)]
 | cons x r ihr =>
  intro done M t e hM hn hd
  obtain ⟨ndx,g1,g2,g3⟩:=e8 x (by rw [e];simp)
  obtain ⟨p,M1,q1,q2,q3,q4,q5,q6,q7⟩:=ih hM g1 g3 (by omega)
  have hxne:x.its≠[]:=g3.ne (by omega)
  have hlx:ls[done.length]? = some x:=by rw [e];simp
  let t1:Part:=if done.length=0 then ⟨nd,p.levels+1,p.low,p.high⟩ else ⟨nd,t.levels,t.low,p.high⟩
  have ht1:t1.node=nd∧t1.levels=h+2∧t1.low=firstK (ls.flatMap (·.its))∧t1.high=lastK ((done++[x]).flatMap (·.its)):=by
   have hhi:p.high=lastK ((done++[x]).flatMap (·.its)):=by
    rw [q6.high]
    simp only [List.flatMap_append,List.flatMap_cons,List.flatMap_nil,List.append_nil]
    exact (lastK_append hxne).symm
   simp only [t1]
   split
   ·rename_i h0
    have hd0:done=[]:=List.eq_nil_of_length_eq_zero h0
    refine ⟨rfl,by rw [q6.lv],?_,hhi⟩
    rw [q6.low,e,hd0]
    simp only [List.nil_append,List.flatMap_cons]
    exact (firstK_append hxne).symm
   ·rename_i h0
    obtain ⟨k1,k2,k3⟩:=hd (λ e=>h0 (by rw [e];rfl))
    exact ⟨rfl,k1,k2,hhi⟩
  obtain ⟨w1,w2,w3,w4⟩:=ht1
  have hc1:¬ bK p.node<4:=by rw [q5];omega
  have hc2:(p.levels+1==t1.levels)=true:=by rw [w2,q6.lv];simp
  have hc3:(decide (0<done.length)&&decide (dU p.low (nd.keys.getD (done.length-1) [])<0))=false:=by
   by_cases h0:0<done.length
   ·have hk:done.length-1<nd.keys.length:=by
     have:done.length<ls.length:=by rw [e];simp
     omega
    have hkk:=List.getElem?_eq_getElem hk
    have hrt:=(toks_adj e3 e4 (done.length-1) _ hkk).2 x (by rw [show done.length-1+1=done.length by omega];exact hlx)
    obtain ⟨y,hy,ey⟩:=firstK_mem hxne
    have h1:=hrt y hy
    rw [ey,← q6.low] at h1
    rw [List.getD_eq_getElem?_getD,hkk]
    simp only [Option.getD_some,Bool.and_eq_false_iff,decide_eq_false_iff_not]
    right
    exact h1
   ·simp [h0]
  have hc4:(decide (done.length<nd.keys.length)&&decide (0≤dU p.high (nd.keys.getD done.length [])))=false:=by
   by_cases h0:done.length<nd.keys.length
   ·have hkk:=List.getElem?_eq_getElem h0
    have hrt:=(toks_adj e3 e4 done.length _ hkk).1 x hlx
    obtain ⟨y,hy,ey⟩:=lastK_mem hxne
    have h1:=hrt y hy
    rw [ey,← q6.high] at h1
    rw [List.getD_eq_getElem?_getD,hkk]
    simp only [Option.getD_some,Bool.and_eq_false_iff,decide_eq_false_iff_not]
    right
    unfold iM at h1
    omega
   ·simp [h0]
  obtain ⟨t',M',u1,u2,u3,u4,u5,u6⟩:=ihr (done++[x]) (M:=M1) (t:=t1) (by rw [e];simp) q2 w1 (λ _=>⟨w2,w3,w4⟩)
  refine ⟨t',M',?_,u2,λ k tk hk=>u3 k tk (q3 k tk hk),?_,?_,u6⟩
  ·simp only [List.map_cons,lN,q1]
   rw [if_neg]
   ·rw [List.length_append,List.length_cons,List.length_nil] at u1
    exact u1
   ·have hc1':decide (bK p.node<4)=false:=decide_eq_false hc1
    rw [show (p.levels+1==(if done.length=0 then (⟨nd,p.levels+1,p.low,p.high⟩:Part) else ⟨nd,t.levels,t.low,p.high⟩).levels)=true from hc2]
    rw [hc1',hc3,hc4]
    simp
  ·intro y hy
   rcases List.mem_cons.1 hy with rfl|hy
   ·exact ⟨p,u3 _ _ q4,q6.sub u3⟩
   ·exact u4 y hy
  ·intro k tk hk
   rcases u5 k tk hk with ⟨t2,ht2⟩|hk2
   ·rcases q7 k t2 ht2 with h1|h1
    ·exact .inl h1
    ·right;unfold pgs;simp only [List.flatMap_cons,List.mem_append];exact .inl h1
   ·right;unfold pgs at hk2 ⊢;simp only [List.flatMap_cons,List.mem_append];exact .inr hk2
theorem part_tr (s:Pg):∀ (h f:Nat),h<f→h≤15→PartT s h f:=by
 intro h
 induction h with
 | zero =>
  intro f hf h15 n nd l ps M hM hn hv hz
  cases hg:fH M n with
  | some t =>
   obtain ⟨k1,k2⟩:=hM.at_ hg hn hv
   exact ⟨t,M,by unfold kN;rw [hg],hM,λ _ _ h=>h,hg,k1,k2,λ k t' hk=>.inl ⟨t',hk⟩⟩
  | none =>
   obtain ⟨f,rfl⟩:∃ g,f=g+1:=⟨f-1,by omega⟩
   have hlf:=hv.leaf.2 rfl
   obtain ⟨rfl,rfl,h3,h4⟩:=id hv
   have hkn:Known s ((n,fG ⟨l,[],[]⟩)::M) n (fG ⟨l,[],[]⟩) 0 l []:=by
    have hgg:fH ((n,fG ⟨l,[],[]⟩)::M) n=some (fG ⟨l,[],[]⟩):=by rw [getMc,if_pos rfl]
    exact ⟨hn,hv,hz,rfl,rfl,rfl,⟨_,hgg,(λ k hk=>by cases hk)⟩,(by rw [fM,hgg];simp [fG]),(λ p hp=>by cases hp)⟩
   refine ⟨fG ⟨l,[],[]⟩,(n,fG ⟨l,[],[]⟩)::M,?_,hM.cons hg hkn,SubM.cons hg,by rw [getMc,if_pos rfl],rfl,hkn,λ k t' hk=>?_⟩
   ·unfold kN
    rw [hg]
    simp only [hn]
    rw [if_pos hlf]
   ·rw [getMc] at hk
    split at hk
    ·rename_i e;exact .inr (by simp [e])
    ·exact .inl ⟨t',hk⟩
 | succ h ih =>
  intro f hf h15 n nd l ps M hM hn hv hz
  cases hg:fH M n with
  | some t =>
   obtain ⟨k1,k2⟩:=hM.at_ hg hn hv
   exact ⟨t,M,by unfold kN;rw [hg],hM,λ _ _ h=>h,hg,k1,k2,λ k t' hk=>.inl ⟨t',hk⟩⟩
  | none =>
   obtain ⟨f,rfl⟩:∃ g,f=g+1:=⟨f-1,by omega⟩
   have hlf:¬ cK nd=true:=λ e=>by have:=hv.leaf.1 e;omega
   obtain ⟨ls,e1,e2,e3,e4,e5,e6,e7,e8⟩:=id hv
   obtain ⟨t,M1,u1,u2,u3,u4,u5,u6,u7,u8,u9⟩:=kids_tr h15 (ih f (by omega) (by omega)) e3 e4 e8 ls [] (M:=M) (t:=⟨nd,0,[],[]⟩) rfl hM rfl (λ h=>absurd rfl h)
   have hn1:fH M1 n=none:=by
    cases hc:fH M1 n with
    | none=>rfl
    | some tc =>
     rcases u5 n tc hc with ⟨t2,h2⟩|h2
     ·rw [hg] at h2;cases h2
     ·have hnp:n∈ps:=by rw [e7];exact h2
      obtain ⟨h',nd',l',ps',k1,k2,k3⟩:=hv.below n hnp
      rw [hn] at k2
      cases k2
      have:=hv.height k3
      omega
   have hgg:fH ((n,t)::M1) n=some t:=by rw [getMc,if_pos rfl]
   have hsub:SubM M1 ((n,t)::M1):=SubM.cons hn1
   have hkn:Known s ((n,t)::M1) n t (h+1) l ps:=by
    refine ⟨by rw [u6];exact hn,by rw [u6];exact hv,by rw [u6];exact hz,u7,by rw [u8,e6],by rw [u9,e6],⟨t,hgg,λ k hk=>?_⟩,?_,λ p hp=>?_⟩
    ·rw [u6,e2] at hk
     obtain ⟨x,hx,rfl⟩:=List.mem_map.1 hk
     obtain ⟨tx,_,kx⟩:=u4 x hx
     exact kx.deep.sub hsub
    ·rw [fM,hgg]
     simp only [u6,e1,List.nil_append,e2,e6]
     rw [List.flatMap_map]
     exact flatMap_same λ x hx=>by
      obtain ⟨tx,_,kx⟩:=u4 x hx
      exact (itemsP_sub hsub kx.deep).trans kx.its
    ·rw [e7] at hp
     obtain ⟨x,hx,hpx⟩:=List.mem_flatMap.1 hp
     obtain ⟨tx,h1,kx⟩:=u4 x hx
     rcases List.mem_cons.1 hpx with rfl|hpx
     ·exact ⟨tx,hsub _ _ h1⟩
     ·obtain ⟨tp,h2⟩:=kx.ps p hpx
      exact ⟨tp,hsub _ _ h2⟩
   refine ⟨t,(n,t)::M1,?_,u2.cons hn1 hkn,λ k tk hk=>hsub k tk (u3 k tk hk),hgg,u6,hkn,λ k tk hk=>?_⟩
   ·unfold kN
    rw [hg]
    simp only [hn]
    rw [if_neg hlf,e2]
    simp only [List.length_nil] at u1
    rw [u1]
   ·rw [getMc] at hk
    split at hk
    ·rename_i e;exact .inr (by simp [e])
    ·rcases u5 k tk hk with h1|h1
     ·exact .inl h1
     ·right;rw [e7];exact List.mem_cons_of_mem _ h1
theorem tree_tr {s:Pg} {r:Option Nat} {lv:Nat} {l:dS} {ps:List Nat} (h:TrAt s r lv l ps) (h16:lv≤16) :
  ∃ M,treeP s r []=some (lv,M)∧(∀ n,r=some n→∃ f,DeepM M f n∧l=fM M f n)∧∀ k,(∃ t,fH M k=some t)↔k∈ps:=by
 cases r with
 | none =>
  obtain ⟨rfl,rfl,rfl⟩:=h
  exact ⟨[],rfl,(λ n hn=>by cases hn),λ k=>⟨(λ ⟨t,ht⟩=>by simp [fH] at ht),(λ hk=>by cases hk)⟩⟩
 | some n =>
  obtain ⟨h,nd,ps',rfl,e2,e3,e4,rfl⟩:=h
  obtain ⟨t,M,q1,q2,q3,q4,q5,q6,q7⟩:=part_tr s h 16 (by omega) (by omega) (M:=[]) (λ n t ht=>by simp [fH] at ht) e2 e3 e4
  refine ⟨M,?_,λ m hm=>?_,λ k=>⟨λ ⟨tk,hk⟩=>?_,λ hk=>?_⟩⟩
  ·simp only [treeP,q1]
   rw [if_neg (by rw [q5];omega),q6.lv]
  ·cases hm;exact ⟨h+1,q6.deep,q6.its.symm⟩
  ·rcases q7 k tk hk with ⟨t2,h2⟩|h2
   ·simp [fH] at h2
   ·exact h2
  ·rcases List.mem_cons.1 hk with rfl|hk
   ·exact ⟨t,q4⟩
   ·exact q6.ps k hk
end Go.Proofs.YtfpadnmdafiddaaGreatDoor
namespace Go.V
open Go Go.RowKit
structure AppTo (w:World) (v:Value) (w':World) (v':Value):Prop where
 by_:w.grownBy w' v.ownBlock
 new:∀ j,j<w.heap.size→v.ownBlock≠some j→v'.ownBlock≠some j
theorem AppTo.refl (w:World) (v:Value):AppTo w v w v:=⟨⟨rfl,rfl,rfl,Nat.le_refl _,λ _ _ _=>rfl⟩,λ _ _ h=>h⟩
theorem AppTo.trans {w w1 w2:World} {v v1 v2:Value} (h:AppTo w v w1 v1) (k:AppTo w1 v1 w2 v2):AppTo w v w2 v2 :=
 ⟨⟨k.by_.os.trans h.by_.os,k.by_.tape.trans h.by_.tape,k.by_.output.trans h.by_.output,Nat.le_trans h.by_.size k.by_.size,λ j hj hne=>(k.by_.block j (Nat.lt_of_lt_of_le hj h.by_.size) (λ e=>h.new j hj (λ e2=>hne e2.symm) e.symm)).trans (h.by_.block j hj hne)⟩,
  λ j hj hne=>k.new j (Nat.lt_of_lt_of_le hj h.by_.size) (h.new j hj hne)⟩
theorem AppTo.grow {w w':World} (v:Value) (g:Grow w w'):AppTo w v w' v:=⟨⟨g.1.os,g.1.tape,g.1.output,g.2,λ k hk _=>g.block k hk⟩,λ _ _ h=>h⟩
theorem AppTo.upd {w0 w w':World} {v0 v:Value} {b:Nat} (h:AppTo w0 v0 w v) (u:Upd b w w') (hb:w0.heap.size≤b):AppTo w0 v0 w' v :=
 ⟨⟨u.os.trans h.by_.os,u.tape.trans h.by_.tape,u.output.trans h.by_.output,by rw [u.size];exact h.by_.size,λ k hk hne=>(u.block k (by omega)).trans (h.by_.block k hk hne)⟩,h.new⟩
theorem AppTo.below {w w':World} {v v':Value} {B:Nat} (h:AppTo w v w' v') (hB:B≤w.heap.size) (hv:∀ j,v.ownBlock=some j→B≤j):Below B w w' :=
 ⟨h.by_.os,h.by_.tape,h.by_.output,h.by_.size,λ k hk=>h.by_.block k (by omega) (λ e=>by have:=hv k e.symm;omega)⟩
theorem Carry.below {G:Nat→Prop} {w w':World} {B:Nat} (h:Below B w w') (hG:∀ k,G k→k<B):Carry G w G w':=⟨h.size,λ k hk _=>⟨hk,h.block k (hG k hk)⟩⟩
end Go.V
namespace Go.Proofs.YtfpadnmdafiddaaGreatDoor
open Go Go.RowKit Go.V
theorem sclone_c (F:Nat→Prop) (v:Value) (l:Bs) (w:World) (hbs:BsAt F w v l) (hm:l.length≤100000) :
  Calls Tryz.prog 95 #[v] w (Ret λ u w'=>BsAt (λ k=>w.heap.size≤k) w' u l∧Grow w w'):=by
 obtain ⟨a,c,rfl,hs⟩:=hbs.sl
 refine V.calls (args:=[_]) Tryz.func95 rfl Tryz.ntmps95 rfl rfl ?_
 cases a with
 | none =>
  have hrow:=hs.row
  simp only [Row] at hrow
  have hl0:l=[]:=by simpa [cX] using hrow
  subst hl0
  repeat (first|(refine aB ?_;refine TL.pure rfl rfl ?_)|(refine aD ?_;refine TL.pure rfl rfl ?_)|refine TL.nil ?_|refine aA ?_|refine aJ ?_|refine aC ?_|refine TL.eqNil rfl rfl rfl ?_|refine aN rfl ?_|refine bC ?_|refine bI ?_)
  exact cF rfl ⟨_,rfl,⟨_,_,_,rfl,by simp [cX],Nat.le_refl _,Nat.zero_le _,λ _=>rfl,by simp [Row,cX]⟩,yG⟩
 | some ad =>
  repeat (first|(refine aB ?_;refine TL.pure rfl rfl ?_)|(refine aD ?_;refine TL.pure rfl rfl ?_)|refine TL.nil ?_|refine aA ?_|refine aJ ?_|refine aC ?_|refine TL.eqNil rfl rfl rfl ?_|(refine mM ?_;(refine jM rfl ?_;intro bk w' hg hbk hsz hsz'))|refine aE rfl ?_|refine aV ?_)
  refine iU rfl rfl (own_empty (base:=w.heap.size) hbk (by omega)) (hs.grow yG) (dY l) (by omega) (by omega) rfl ?_
  intro v w2 hown hg2
  repeat (first|(refine aD ?_;refine TL.pure rfl rfl ?_)|refine TL.nil ?_|refine aA ?_|refine bC ?_)
  obtain ⟨a2,c2,rfl,hsl⟩:=cE hown
  exact cF rfl ⟨_,rfl,⟨_,_,_,rfl,hsl.mono (λ k hk=>hk.1)⟩,yG⟩
structure ItsOwn (B:Nat) (w:World) (v:Value) (l:dS):Prop where
 ex:∃ cs,w.ownsRow B 58 2 v l.length cs∧ItCells (λ j=>B≤j∧v.ownBlock≠some j) w cs l
theorem ItsOwn.nil (B:Nat) (w:World):ItsOwn B w (.slice none 0 0) []:=⟨[],World.ownsRow_nil w B _ _,trivial⟩
theorem ItsOwn.at_ {B:Nat} {w:World} {v:Value} {l:dS} (h:ItsOwn B w v l):∃ a c,v=.slice a l.length c∧ItsAt (λ k=>B≤k) w a l.length c l:=by
 obtain ⟨cs,h1,h2⟩:=h.ex
 obtain ⟨a,c,rfl,hs⟩:=cE h1
 exact ⟨a,c,rfl,cs,hs.mono (λ k hk=>hk.1),h2.go (Carry.mono λ k hk _=>hk.1)⟩
theorem ItsOwn.grow {B:Nat} {w w':World} {v:Value} {l:dS} (h:ItsOwn B w v l) (g:Grow w w'):ItsOwn B w' v l:=by
 obtain ⟨cs,h1,h2⟩:=h.ex
 exact ⟨cs,cO h1 g,h2.go (Carry.grow g)⟩
theorem ItsOwn.upd {B b:Nat} {w w':World} {v:Value} {l:dS} (h:ItsOwn B w v l) (u:Upd b w w') (hb:b<B):ItsOwn B w' v l:=by
 obtain ⟨cs,h1,h2⟩:=h.ex
 exact ⟨cs,own_upd h1 u hb,h2.go (Carry.upd u λ k hk _=>by omega)⟩
theorem ItsOwn.lt {B:Nat} {w:World} {v:Value} {l:dS} (h:ItsOwn B w v l):∀ j,v.ownBlock=some j→B≤j∧j<w.heap.size:=by
 obtain ⟨cs,h1,h2⟩:=h.ex
 exact h1.lt
def bsF {B:Nat} (B0:Nat) (l:Bs):SFact B:={ G:=λ v _ _ w=>BsAt (λ k=>B0≤k) w v l,st:=λ v _ _ w w' g h=>h.go (Carry.grow g) }
def itF {B:Nat} (B0:Nat) (x:Bs×Bs):SFact B:={ G:=λ v _ _ w=>∃ kv vv,v=.agg #[kv,vv]∧BsAt (λ k=>B0≤k) w kv x.1∧BsAt (λ k=>B0≤k) w vv x.2,st:=λ v _ _ w w' g h=>by obtain ⟨kv,vv,h0,h1,h2⟩:=h;exact ⟨kv,vv,h0,h1.go (Carry.grow g),h2.go (Carry.grow g)⟩ }
theorem itemsP_at {M:eN} {f n:Nat} {t:Part} (h:fH M n=some t):fM M (f+1) n=t.node.items++t.node.kids.flatMap (fM M f):=by
 rw [fM,h]
def ItemsC (M:eN) (f:Nat):Prop:=∀ (w:World) (B b m p n:Nat) (v:Value) (acc:dS) (G:Nat→Prop),DeepM M f n→n<4294967296→Blk w b 226 [.pointer (some ⟨p,0,none⟩),.map (some m)]→MemAt G w m M→(∀ k,G k→k<B)→b<B→m<B→B≤w.heap.size→ItsOwn B w v acc→(acc++fM M f n).length≤1000000 →
 Calls Tryz.prog 101 #[.pointer (some ⟨b,0,none⟩),.int .i64 (n:Int),v] w (Ret λ u w'=>ItsOwn B w' u (acc++fM M f n)∧AppTo w v w' u)
theorem items_of {M:eN} {f:Nat} (ih:ItemsC M f):ItemsC M (f+1):=by
 intro w B b m p n v acc G hdeep hn hbw hM hGB hbB hmB hBw hv hlen
 obtain ⟨t,htn,hkd⟩:=hdeep
 rw [itemsP_at htn] at hlen ⊢
 have hbl:=hbw.lt
 have hml:=hM.lt
 have hvlt:=hv.lt
 refine V.calls (args:=[_,_,_]) Tryz.func101 rfl Tryz.ntmps101 rfl rfl ?_
 repeat (first|(refine aB ?_;refine TL.pure rfl rfl ?_)|(refine aD ?_;refine TL.pure rfl rfl ?_)|refine TL.nil ?_|refine aA ?_|refine aJ ?_|refine aC ?_)
 refine aL 163 ?_
 refine aI rfl (wnode_c hbw hM hn htn) rfl ?_
 rintro _ w1 ⟨x,rfl,hx,hg1⟩
 have z1:=hg1.size
 repeat (first|(refine aB ?_;refine TL.pure rfl rfl ?_)|refine aK rfl yM rfl ?_|refine aF rfl rfl ?_|refine TL.nil ?_|refine aA ?_|refine aJ ?_|refine aC ?_|refine T.block ?_|(refine aP ?_;(refine aY rfl rfl yB (by exact rfl) (by exact rfl) (by exact rfl) ?_;intro w' hu hbk hsz))|(refine bD ?_;(refine TL.alloc rfl rfl ?_;intro bk w' hg hbk hsz hsz'))|refine aO rfl rfl ?_)
 obtain ⟨b7,rfl⟩:∃ z,z=bk:=⟨bk,rfl⟩
 have hgr0:Grow w w':=hg1.trans (aZ hu (by omega) hg)
 have hx0:NdAt G w' x t.node:=hx.go (Carry.grow (aZ hu (by omega) hg))
 have e7:Blk w' b7 79 x.cs:=hbk
 have hb0:=hbw.grow hgr0
 have hM0:MemAt G w' m M:=hM.go (Carry.grow hgr0) (hgr0.block m hml)
 have hv0:=hv.grow hgr0
 have z0:=hgr0.size
 have q7:w.heap.size≤b7∧b7<w'.heap.size:=by have:=hu.size;omega
 have n7:v.ownBlock≠some b7:=λ e=>by have:=hvlt b7 e;omega
 clear hbk hu hg hg1 hx
 obtain ⟨w0,rfl⟩:∃ z,z=w':=⟨w',rfl⟩
 obtain ⟨nn1,nn2,nn3⟩:=hx0.nums
 have hok:cH t.node=true:=by
  obtain ⟨fm,hmf,hm0,hm1⟩:=id hM
  obtain ⟨y,lo,hi,_,hpa⟩:=hm1 n t htn
  exact hpa.ok
 have h8:=sizeN_le hok
 have h81:x.n1≤8∧x.n2≤8:=by unfold bK at h8;omega
 obtain ⟨h811,h812⟩:=h81
 obtain ⟨cs,hcs,hcc⟩:=hx0.its.ex
 have hbel:∀ {w1:World} {v1:Value},AppTo w0 v w1 v1→Below B w0 w1:=λ h=>h.below (by omega) (λ j hj=>(hvlt j hj).1)
 refine cM (S:=Nat×Value) (λ q=>[(18,.int .i64 (q.1:Int)),(17,.int .i64 (x.n1:Int)),(16,.slice x.a1 x.n1 x.c1),(7,.pointer (some ⟨b7,0,none⟩)),(2,q.2),(0,.pointer (some ⟨b,0,none⟩))])
  (λ q w1=>q.1≤x.n1∧ItsOwn B w1 q.2 (acc++t.node.items.take q.1)∧AppTo w0 v w1 q.2∧Blk w1 b7 79 x.cs∧q.2.ownBlock≠some b7) (λ q=>x.n1-q.1) (0,v) ⟨rfl,rfl,rfl,rfl,rfl,rfl,trivial⟩
  ⟨by simp only;omega,by simpa using hv0,AppTo.refl _ _,e7,n7⟩ ?_
 clear hv0 e7
 rintro ⟨i,v1⟩ w1 ⟨hi,hv1,ha1,e7,n71⟩
 simp only at hi hv1 ha1 n71
 have z1:=ha1.by_.size
 have hv1lt:=hv1.lt
 have c1:Carry G w0 G w1:=Carry.below (hbel ha1) hGB
 by_cases hlt:i<x.n1
 ·obtain ⟨el,hel⟩:∃ q,t.node.items[i]? = some q:=⟨_,List.getElem?_eq_getElem (by omega)⟩
  have hcs1:=hcs.go c1
  have hlk:el.1.length≤16∧el.2.length≤32:=by
   have hlf:cK t.node=true:=by
    cases hc:cK t.node with
    | true=>rfl
    | false =>
     unfold cH at hok
     rw [hc] at hok
     simp only [Bool.false_eq_true,if_false] at hok
     rw [(cU hok).1] at hel
     simp at hel
   unfold cH at hok
   rw [if_pos hlf] at hok
   have hik:=mG (dL hok).2.2 (List.mem_of_getElem? hel)
   exact ⟨(gV hik.1).2,kZ hik.2⟩
  obtain ⟨hlk1,hlk2⟩:=hlk
  obtain ⟨kv,vv,f0,f1,hk,hvl⟩:=(hcc.go c1).at' hel
  obtain ⟨ka,kc,rfl,hks⟩:=hk.sl
  obtain ⟨va,vc,rfl,hvs⟩:=hvl.sl
  rw [Nat.mul_comm] at f0 f1
  have htk:t.node.items.take (i+1)=t.node.items.take i++[el]:=by rw [List.take_add_one,hel];rfl
  repeat (first|(refine bF ?_;refine aW (j:=i) rfl rfl rfl hlt rfl ⟨_,_,hcs1⟩ rfl ?_)|(refine aU ?_;refine eP (o:=i*2) rfl (hcs1.grow yG) (two_at f0 f1) rfl rfl ?_)|refine TL.nil ?_|refine aA ?_|refine aJ ?_|refine aC ?_|refine T.block ?_|(refine aH ?_;refine bA rfl yD rfl ?_)|(refine aP ?_;(refine aY rfl rfl yB (by exact rfl) (by exact rfl) (by exact rfl) ?_;intro w' hu hbk hsz))|(refine bD ?_;(refine TL.alloc rfl rfl ?_;intro bk w' hg hbk hsz hsz'))|refine aN rfl ?_|refine aV ?_)
  obtain ⟨b9,rfl⟩:∃ z,z=bk:=⟨bk,rfl⟩
  have hgr9:Grow w1 w':=aZ hu (by omega) hg
  have hbk9:Blk w' b9 58 [.slice ka el.1.length kc,.slice va el.2.length vc]:=hbk
  have hv9:=hv1.grow hgr9
  have e79:=e7.grow hgr9
  have hks9:BsAt G w' (.slice ka el.1.length kc) el.1:=hk.go (Carry.grow hgr9)
  have hvs9:BsAt G w' (.slice va el.2.length vc) el.2:=hvl.go (Carry.grow hgr9)
  have z9:w1.heap.size≤w'.heap.size:=hgr9.2
  have ha9:AppTo w0 v w' v1:=ha1.trans (AppTo.grow v1 hgr9)
  clear hbk hu hg hv1 e7 hcs1 hks hvs hk hvl c1 hsz hsz'
  obtain ⟨w9,rfl⟩:∃ z,z=w':=⟨w',rfl⟩
  apply T.any 9 [is v1,is (.pointer (some ⟨b9,0,none⟩)),is (.slice ka el.1.length kc),bsF w9.heap.size el.1,is (.pointer (some ⟨b9,1,none⟩)),is (.slice va el.2.length vc),bsF w9.heap.size el.2,itF w9.heap.size el,itsF (λ k=>w9.heap.size≤k) 1 [el]]
  ·rfl
  ·repeat' (first|exact bX|refine bU ?_ ?_)
   iterate 3
    ·(refine aQ rfl rfl rfl ?_);( intro wq _ _ hgq;(repeat (refine aG rfl rfl ?_;intro vq hvq;try (obtain rfl:=hvq)));(refine aM ?_))
     repeat (first|(refine aB ?_;refine TL.pure rfl rfl ?_)|refine aK rfl yM rfl ?_|refine aF rfl rfl ?_|refine TL.nil ?_)
     exact aS rfl yG rfl
   ·(refine aQ rfl rfl rfl ?_);( intro wq _ _ hgq;(repeat (refine aG rfl rfl ?_;intro vq hvq;try (obtain rfl:=hvq)));(refine aM ?_))
    have zq:=hgq.size
    refine aL 95 ?_
    refine aI rfl (sclone_c G _ el.1 _ (hks9.go (Carry.grow hgq)) (by omega)) rfl ?_
    rintro u wr ⟨hu,hgr⟩
    repeat (refine TL.nil ?_)
    exact aS rfl yG (hu.go (Carry.mono λ k hk _=>by omega))
   iterate 2
    ·(refine aQ rfl rfl rfl ?_);( intro wq _ _ hgq;(repeat (refine aG rfl rfl ?_;intro vq hvq;try (obtain rfl:=hvq)));(refine aM ?_))
     repeat (first|refine aK rfl yM rfl ?_|refine aF rfl rfl ?_|refine TL.nil ?_)
     exact aS rfl yG rfl
   ·(refine aQ rfl rfl rfl ?_);( intro wq _ _ hgq;(repeat (refine aG rfl rfl ?_;intro vq hvq;try (obtain rfl:=hvq)));(refine aM ?_))
    have zq:=hgq.size
    refine aL 95 ?_
    refine aI rfl (sclone_c G _ el.2 _ (hvs9.go (Carry.grow hgq)) (by omega)) rfl ?_
    rintro u wr ⟨hu,hgr⟩
    repeat (refine TL.nil ?_)
    exact aS rfl yG (hu.go (Carry.mono λ k hk _=>by omega))
   ·refine aQ rfl rfl rfl ?_
    intro wq _ _ hgq
    refine aG rfl rfl ?_
    intro kv hkv
    refine aG rfl rfl ?_
    intro vv hvv
    refine aM ?_
    obtain ⟨q1,q2,rfl,q3⟩:=BsAt.sl hkv
    obtain ⟨r1,r2,rfl,r3⟩:=BsAt.sl hvv
    repeat (first|refine TL.nil ?_|refine TL.build rfl rfl rfl ?_)
    exact aS rfl yG ⟨_,_,rfl,⟨_,_,_,rfl,q3⟩,⟨_,_,_,rfl,r3⟩⟩
   ·refine aQ rfl rfl rfl ?_
    intro wq _ _ hgq
    refine aG rfl rfl ?_
    rintro vq ⟨kv,vv,rfl,hkv,hvv⟩
    refine aM ?_
    have zq:=hgq.size
    obtain ⟨q1,q2,rfl,q3⟩:=BsAt.sl hkv
    obtain ⟨r1,r2,rfl,r3⟩:=BsAt.sl hvv
    refine TL.buildSlice rfl rfl rfl rfl rfl ?_
    intro b' wa hga hba hsa hsb hsc
    have hit:ItsAt (λ k=>w9.heap.size≤k) wa (some ⟨b',0,none⟩) 1 1 [el]:=⟨_,(bR (sz:=2) (m:=1) (show Blk wa b' 58 [.slice q1 el.1.length q2,.slice r1 el.2.length r2] from hba) rfl (by decide)).mono (λ k hk=>by subst hk;omega),⟨_,_,_,rfl,q3.grow hga⟩,⟨_,_,_,rfl,r3.grow hga⟩,trivial⟩
    repeat (refine TL.nil ?_)
    exact aS rfl yG ⟨_,_,rfl,hit⟩
  ·intro wt lot hit' hgt _ _
   refine aG rfl rfl ?_
   intro vq hvq
   obtain rfl:=Eq.symm hvq
   iterate 7 (refine aG rfl rfl ?_;intro vq hvq;try (obtain rfl:=hvq))
   refine aG rfl rfl ?_
   rintro vt ⟨av,cv,rfl,hnew⟩
   refine aM ?_
   have zt:=hgt.size
   obtain ⟨ncs,hns,hnc⟩:=hnew.ex
   obtain ⟨ocs,hown,hoc⟩:=(hv9.grow hgt).ex
   have e7t:=e79.grow hgt
   have hat:AppTo w0 v wt v1:=ha9.trans (AppTo.grow v1 hgt)
   have hll:(acc++t.node.items.take i).length+1≤1000000:=by
    simp only [List.length_append,List.length_take] at hlen ⊢
    omega
   refine jV rfl rfl hown hns (ItCells.one hnc) (by unfold maxLen;omega) (by omega) (by omega) rfl ?_
   intro v' w10 hown' hgb hcar
   have hap:AppTo wt v1 w10 v':=⟨hgb,λ j hj hne=>((hcar (λ _=>True)).blk j ⟨trivial,hne⟩ hj).1.2⟩
   have e710:Blk w10 b7 79 x.cs:=eL e7t (hgb.block b7 (by omega) (λ e=>n71 e.symm))
   have hnc2:ItCells (λ j=>B≤j∧v'.ownBlock≠some j) w10 ncs [el]:=(hnc.go (F':=λ j=>B≤j∧v1.ownBlock≠some j) (Carry.mono λ k hk _=>⟨by omega,λ e=>by have:=hv1lt k e;omega⟩)).go (hcar _)
   have hoc2:=(hoc.go (hcar (λ j=>B≤j))).append hnc2
   have n72:v'.ownBlock≠some b7:=hap.new b7 (by omega) n71
   clear hvq hown hoc hcar e7t e79 hv9
   repeat (first|(refine aB ?_;refine TL.pure rfl rfl ?_)|(refine aD ?_;refine TL.pure rfl rfl ?_)|(refine bJ ?_;refine bT rfl rfl (by omega) rfl ?_)|refine TL.nil ?_|refine aA ?_|refine aC ?_|refine aT ?_)
   refine bG (i+1,v') ⟨rfl,rfl,rfl,rfl,rfl,rfl,trivial⟩ ⟨by simp only;omega,?_,hat.trans hap,e710,n72⟩ (by simp only;omega)
   simp only [htk]
   rw [← List.append_assoc]
   exact ⟨_,by simpa only [List.length_append,List.length_cons,List.length_nil] using hown',hoc2⟩
 ·have hi2:i=x.n1:=by omega
  subst hi2
  rw [List.take_of_length_le (by omega)] at hv1
  repeat (first|(refine aB ?_;refine TL.pure rfl rfl ?_)|refine aK rfl yM rfl ?_|refine aF rfl rfl ?_|refine TL.nil ?_|refine aA ?_|refine aJ ?_|refine aC ?_|refine T.block ?_|(refine aH ?_;refine aR rfl yD rfl ?_)|refine aO rfl rfl ?_|refine aE rfl ?_|refine cN ?_|refine bM ?_|refine bO ?_|refine bN ?_)
  refine cM (S:=Nat×Value) (λ q=>[(36,.int .i64 (q.1:Int)),(35,.int .i64 (x.n2:Int)),(34,.slice x.a2 x.n2 x.c2),(2,q.2),(0,.pointer (some ⟨b,0,none⟩))])
   (λ q w2=>q.1≤x.n2∧ItsOwn B w2 q.2 (acc++(t.node.items++(t.node.kids.take q.1).flatMap (fM M f)))∧AppTo w0 v w2 q.2) (λ q=>x.n2-q.1) (0,v1) ⟨rfl,rfl,rfl,rfl,rfl,trivial⟩
   ⟨by simp only;omega,by simpa using hv1,ha1⟩ ?_
  clear hv1 e7 n71 hv1lt c1 ha1 z1 hi hlt
  rintro ⟨j,v2⟩ w2 ⟨hj,hv2,ha2⟩
  simp only at hj hv2 ha2
  have z2:=ha2.by_.size
  have hb2:=hbel ha2
  have c2:Carry G w0 G w2:=Carry.below hb2 hGB
  have ckid:=hx0.kids.go c2
  by_cases hlj:j<x.n2
  ·obtain ⟨kid,hkid⟩:∃ q,t.node.kids[j]? = some q:=⟨_,List.getElem?_eq_getElem (by omega)⟩
   have hcx:w2.cell? (at' x.a2 j)=some (.int .i64 (kid:Int)):=ckid.row.cell (by rw [show cB t.node.kids=t.node.kids.map λ (k:Nat)=>(.int .i64 (k:Int):Value) from rfl,List.getElem?_map,hkid];rfl)
   have htk:t.node.kids.take (j+1)=t.node.kids.take j++[kid]:=by rw [List.take_add_one,hkid];rfl
   have hk31:kid<4294967296:=by
    unfold cH at hok
    have hnl:cK t.node=false:=by
     cases hc:cK t.node with
     | true=>rw [dK] at hc;rw [hc] at nn2;simp at nn2;omega
     | false=>rfl
    rw [hnl] at hok
    simp only [Bool.false_eq_true,if_false] at hok
    obtain ⟨_,_,_,_,hokd,_⟩:=cU hok
    have:=kid_ok hokd (List.mem_of_getElem? hkid)
    omega
   have hbw2:Blk w2 b 226 [.pointer (some ⟨p,0,none⟩),.map (some m)]:=eL hb0 (hb2.block b hbB)
   have hM2:MemAt G w2 m M:=hM0.go c2 (hb2.block m hmB)
   have hle:((acc++(t.node.items++(t.node.kids.take j).flatMap (fM M f)))++fM M f kid).length≤1000000:=by
    have hsp:(t.node.kids.flatMap (fM M f)).length=((t.node.kids.take (j+1)).flatMap (fM M f)).length+((t.node.kids.drop (j+1)).flatMap (fM M f)).length:=by
     rw [← List.length_append,← List.flatMap_append,List.take_append_drop]
    rw [htk] at hsp
    simp only [List.length_append,List.flatMap_append,List.flatMap_cons,List.flatMap_nil,List.length_nil] at hsp hlen ⊢
    omega
   have hcall:=ih w2 B b m p kid v2 (acc++(t.node.items++(t.node.kids.take j).flatMap (fM M f))) G (hkd kid (List.mem_of_getElem? hkid)) hk31 hbw2 hM2 hGB hbB hmB (by omega) hv2 hle
   repeat (first|(refine bF ?_;refine aW (j:=j) rfl rfl rfl hlj (Nat.mul_one _) ⟨_,_,ckid⟩ rfl ?_)|(refine aB ?_;refine TL.pure rfl rfl ?_)|(refine aD ?_;refine TL.pure rfl rfl ?_)|refine aK rfl yM rfl ?_|refine TL.nil ?_|refine aA ?_|refine aJ ?_|refine aC ?_|refine T.block ?_|(refine aH ?_;refine bA rfl yD rfl ?_)|refine aN rfl ?_|refine aV ?_)
   refine aL 101 ?_
   refine aI rfl hcall rfl ?_
   rintro v3 w3 ⟨hv3,ha3⟩
   repeat (first|(refine aB ?_;refine TL.pure rfl rfl ?_)|(refine aD ?_;refine TL.pure rfl rfl ?_)|(refine bJ ?_;refine bT rfl rfl (by omega) rfl ?_)|refine TL.nil ?_|refine aA ?_|refine aC ?_|refine aT ?_)
   refine bG (j+1,v3) ⟨rfl,rfl,rfl,rfl,rfl,trivial⟩ ⟨by simp only;omega,?_,ha2.trans ha3⟩ (by simp only;omega)
   simp only [htk,List.flatMap_append,List.flatMap_cons,List.flatMap_nil,List.append_nil]
   simpa only [List.append_assoc] using hv3
  ·have hj2:j=x.n2:=by omega
   subst hj2
   rw [List.take_of_length_le (by omega)] at hv2
   repeat (first|(refine aB ?_;refine TL.pure rfl rfl ?_)|(refine aD ?_;refine TL.pure rfl rfl ?_)|refine TL.nil ?_|refine aA ?_|refine aJ ?_|refine aC ?_|(refine aH ?_;refine aR rfl yD rfl ?_)|refine aE rfl ?_|refine bC ?_|refine cN ?_|refine bM ?_|refine bO ?_|refine bN ?_)
   exact cF rfl ⟨_,rfl,hv2,(AppTo.grow v hgr0).trans ha2⟩
theorem items_c (M:eN):∀ f,ItemsC M f
 | 0=>λ w B b m p n v acc G hd=>hd.elim
 | f+1=>items_of (items_c M f)
theorem all_c {L:PL} {g:Pg} {w:World} {lv:Nat} {M':eN} {root:Option Nat} (h:PgAt w L g) (hr:∀ n,root=some n→n<4294967296) (ht:treeP g root []=some (lv,M')) (l:dS) (hl:l.length≤1000000)
  (hd:∀ n,root=some n→∃ f,DeepM M' f n∧l=fM M' f n) (hn:root=none→l=[]) :
  Calls Tryz.prog 27 #[.pointer (some ⟨L.p,0,none⟩),.int .i64 (dD root)] w (Ret λ v w'=>(∃ a c,v=.tuple #[.slice a l.length c,.int .i64 0]∧ItsAt (λ k=>w.heap.size≤k) w' a l.length c l)∧Grow w w'):=by
 have hlts:=h.lts
 refine V.calls (args:=[_,_]) Tryz.func27 rfl Tryz.ntmps27 rfl rfl ?_
 repeat (first|(refine aB ?_;refine TL.pure rfl rfl ?_)|(refine aD ?_;refine TL.pure rfl rfl ?_)|refine TL.nil ?_|refine aA ?_|refine aJ ?_|refine aC ?_)
 refine aL 87 ?_
 refine aI rfl (walk_new L.p w) rfl ?_
 rintro _ w1 ⟨b,m,rfl,hb,hm,hwk,hg1⟩
 have hbl:=hwk.blk.lt
 have hml:=hwk.map.lt
 repeat (first|(refine aB ?_;refine TL.pure rfl rfl ?_)|(refine aD ?_;refine TL.pure rfl rfl ?_)|refine TL.nil ?_|refine aA ?_|refine aJ ?_|refine aC ?_)
 refine aL 88 ?_
 refine aI rfl (walked_c h hg1 hwk hb hm hr ht) rfl ?_
 rintro _ w2 ⟨rfl,hM,hbw,hg2⟩
 have z2:=hg2.size
 have hbl2:=hbw.lt
 have hml2:=hM.lt
 cases root with
 | none =>
  obtain rfl:=hn rfl
  simp only [dD]
  repeat (first|(refine aB ?_;refine TL.pure rfl rfl ?_)|(refine aD ?_;refine TL.pure rfl rfl ?_)|refine TL.nil ?_|refine aA ?_|refine aJ ?_|refine aC ?_|(refine aH ?_;refine TL.pure rfl rfl ?_)|refine aN rfl ?_|refine aE rfl ?_|refine bC ?_|refine aV ?_|refine bI ?_|refine TL.pure rfl rfl ?_)
  exact jS rfl rfl ⟨_,rfl,⟨none,0,rfl,jU⟩,hg2⟩
 | some n =>
  obtain ⟨f,hdp,rfl⟩:=hd n rfl
  have hn:=hr n rfl
  simp only [dD]
  have hne:(((n:Nat):Int)==-1)=false:=by rw [beq_eq_false_iff_ne];omega
  repeat (first|(refine aB ?_;refine TL.pure rfl rfl ?_)|(refine aD ?_;refine TL.pure rfl rfl ?_)|refine TL.nil ?_|refine aA ?_|refine aJ ?_|refine aC ?_|(refine aH ?_;refine TL.pure rfl rfl ?_)|refine aE rfl ?_|refine aV ?_|refine TL.pure rfl rfl ?_)
  refine aL 101 ?_
  refine aI rfl (items_c M' f w2 w2.heap.size b m L.p n (.slice none 0 0) [] (λ k=>k<w2.heap.size∧k≠m) hdp hn hbw (hM.go (Carry.mono λ k hk hl=>⟨hl,hk⟩) rfl) (λ k hk=>hk.1) hbl2 hml2 (Nat.le_refl _) (ItsOwn.nil _ _) (by simpa using hl)) rfl ?_
  rintro v3 w3 ⟨hv3,ha3⟩
  rw [List.nil_append] at hv3
  obtain ⟨a,c,rfl,hit⟩:=hv3.at_
  have hg3:Grow w2 w3:=⟨ha3.below (Nat.le_refl _) (λ j hj=>by cases hj),ha3.by_.size⟩
  repeat (first|(refine aD ?_;refine TL.pure rfl rfl ?_)|refine TL.nil ?_|refine aA ?_|refine bC ?_)
  exact jS rfl rfl ⟨_,rfl,⟨a,c,rfl,hit.go (Carry.mono λ k hk _=>by omega)⟩,hg2.trans hg3⟩
end Go.Proofs.YtfpadnmdafiddaaGreatDoor
namespace Go.Proofs.YtfpadnmdafiddaaGreatDoor
open Go Go.RowKit Go.V
end Go.Proofs.YtfpadnmdafiddaaGreatDoor
namespace Go.V
open Go Go.RowKit Go.ChangeShapes Go.WideShapes Go.MapKept Go.ChangeMaps
def txt (l:List Nat):ByteArray:=strOfNums (l.map λ (b:Nat)=>(b:Int))
theorem txt_size (l:List Nat):(txt l).size=l.length:=by
 have:(txt l).data.toList.length=l.length:=by
  rw [txt,strOfNums_data];simp
 rw [← this];rfl
theorem txt_append (l r:List Nat):txt (l++r)=txt l++txt r:=by
 apply ByteArray.ext
 apply Array.ext'
 rw [txt,strOfNums_data,ByteArray.data_append,Array.toList_append,txt,strOfNums_data,txt,strOfNums_data]
 simp
section
variable [Rn]
variable {P:Program} {n:Nat} {e:dN} {w:World} {Q:dO} {ops:Array Oper} {rest:List Oper} {d:Nat} {ty:TypeId} {pos:String} {aft:Array Edge}
theorem StrTy.und {t:TypeId} (h:StrTy P t):P.underlying t=some .string:=by
 have h:=h.h
 unfold strB at h
 split at h
 ·assumption
 ·cases h
theorem run_convS {src dst el:TypeId} (hs:P.underlying src=some (.slice el)) (he:P.underlying el=some (.int .u8)) (hd:P.underlying dst=some .string) {F:Nat→Prop} {a:Option Addr} {m c:Nat} {l:List Nat} (h:Sl F w 1 a m c (l.map λ (b:Nat)=>Value.int .u8 (b:Int))) :
  (convert src dst (.slice a m c)).run P w=.ok (.string (txt l)) w:=by
 have hl:=h.len
 simp only [List.length_map,Nat.mul_one] at hl
 cases a with
 | none =>
  have h0:=h.nil rfl
  have h1:=h.cap
  have:l=[]:=List.eq_nil_of_length_eq_zero (by omega)
  subst this
  rw [run_convert_bytes_nil w src el hs he m c dst hd]
  rfl
 | some p =>
  obtain ⟨b,o,s⟩:=p
  by_cases h0:l=[]
  ·subst h0
   simp only [List.length_nil] at hl
   subst hl
   rw [run_convert_bytes_string w src dst el _ 0 c hs he hd,run_bytesToString w _ 0 c [] (by simp [Builtin.firstCells,loadCells,loadCellsFrom])]
   rfl
  ·have hr:=h.row (by simpa using h0)
   obtain ⟨hs0,_,_,hc⟩:=hr
   simp only at hs0
   subst hs0
   exact run_convert_bytes_arg w src el hs he b o m c (l.map λ (b:Nat)=>(b:Int)) (by simpa using hl) (λ i hi=>by
    have:=hc i (.int .u8 ((l.getD i 0:Nat):Int)) (by simp [List.getElem?_eq_getElem (show i<l.length by omega)])
    rw [this]
    simp [List.getElem?_eq_getElem (show i<l.length by omega)]) dst hd
theorem TL.convS {src dst el size bytes:TypeId} {x:Operand} {F:Nat→Prop} {a:Option Addr} {m c:Nat} {l:List Nat} [ht:SliceTy P src el size bytes] [he:IntTy P el .u8] [hs:StrTy P dst]
  (hx:val e x=some (.slice a m c)) (h:Sl F w 1 a m c (l.map λ (b:Nat)=>Value.int .u8 (b:Int))) (hd:Nat.blt d n=true)
  (k:TL P n ops rest ((d,.string (txt l))::e) w Q):TL P n ops (⟨some d,.convert src dst x,ty,pos,aft,none⟩::rest) e w Q :=
 TL.run (λ r hr=>by simp [execOp,hr.eval hx,run_convS ht.und he.und hs.und h]) hd k
theorem TL.neS {x y:Operand} {s t:ByteArray} {t1 t2:TypeId} {b:Bool} (hx:val e x=some (.string s)) (hy:val e y=some (.string t)) (h:(!(s.toList==t.toList))=b) (hd:Nat.blt d n=true)
  (k:TL P n ops rest ((d,.bool b)::e) w Q):TL P n ops (⟨some d,.binOp .neq t1 x y t2,ty,pos,aft,none⟩::rest) e w Q :=
 TL.run (λ r hr=>by
  have hg:eqGuard .neq t1 x y (.string s) (.string t)=Pure.pure ():=rfl
  simp only [execOp,hr.eval hx,hr.eval hy,hg]
  simp [binOp,Op.stringOp,← h]) hd k
theorem TL.addS {x y:Operand} {l r:List Nat} {t1 t2:TypeId} (hx:val e x=some (.string (txt l))) (hy:val e y=some (.string (txt r))) (h:l.length+r.length≤1000000) (hd:Nat.blt d n=true)
  (k:TL P n ops rest ((d,.string (txt (l++r)))::e) w Q):TL P n ops (⟨some d,.binOp .add t1 x y t2,ty,pos,aft,none⟩::rest) e w Q :=
 TL.run (λ q hr=>by
  have hg:eqGuard .add t1 x y (.string (txt l)) (.string (txt r))=Pure.pure ():=rfl
  simp only [execOp,hr.eval hx,hr.eval hy,hg]
  have h1:¬ ((((txt l).size+(txt r).size:Nat):Int) > IntKind.i64.max):=by
   rw [txt_size,txt_size];simp [IntKind.max,IntKind.bits,IntKind.signed];omega
  simp [binOp,Op.stringOp,txt_append,txt_size]
  omega) hd k
end
class KeyIs {α : Type} (P:Program) (kt:TypeId) (κ : α→Value) (ok : α→Prop):Prop where
 keyed:Maps.Keyed P kt
 key:∀ a,ok a→∃ l,keyOf P kt (κ a)=some l
 inj:∀ a b,ok a→ok b→κ a = κ b→a=b
def MapG {α : Type} (κ : α→Value) (ok : α→Prop) (w:World) (m:Nat) (f : α→Option Value):Prop:=∃ es clock,w.heap[m]? = some (.map es clock)∧(∀ x∈es.toList,∃ n : α,ok n∧x.key = κ n∧f n=some x.val) ∧
 (∀ n v,f n=some v→ok n∧∃ x∈es.toList,x.key = κ n)∧es.toList.Pairwise λ x y=>x.key≠y.key
section
variable [Rn]
variable {P:Program} {n:Nat} {e:dN} {w w':World} {Q:dO} {ops:Array Oper} {rest:List Oper} {d:Nat} {ty:TypeId} {pos:String} {aft:Array Edge} {α : Type} {κ : α→Value} {ok : α→Prop}
theorem MapG.keep {m:Nat} {f : α→Option Value} (h:MapG κ ok w m f) (hk:w'.heap[m]? = w.heap[m]?):MapG κ ok w' m f:=by
 obtain ⟨es,c,h1,h2⟩:=h
 exact ⟨es,c,by rw [hk];exact h1,h2⟩
theorem MapG.find {kt m:Nat} (ht:KeyIs P kt κ ok) {f : α→Option Value} (h:MapG κ ok w m f) {k : α} (hk:ok k) :
  ∃ es c,w.heap[m]? = some (.map es c)∧(match f k with
   | none=>(Instr.findKey kt (κ k) es.toList).run P w=.ok none w∧∀ x∈es.toList,x.key≠κ k
   | some v=>∃ j e0,(Instr.findKey kt (κ k) es.toList).run P w=.ok (some (j,v)) w∧es.toList[j]? = some e0∧e0.key = κ k) ∧
   (∀ x∈es.toList,∃ n : α,ok n∧x.key = κ n∧f n=some x.val)∧(∀ n v,f n=some v→ok n∧∃ x∈es.toList,x.key = κ n)∧es.toList.Pairwise λ x y=>x.key≠y.key:=by
 obtain ⟨es,c,h1,h2,h3,h5⟩:=h
 refine ⟨es,c,h1,?_,h2,h3,h5⟩
 have hkeys:∀ u∈es.toList,∃ l,keyOf P kt u.key=some l:=λ u hu=>by
  obtain ⟨n,hn,e1,_⟩:=h2 u hu
  rw [e1]
  exact ht.key n hn
 rcases ht.keyed.find w (ht.key k hk).choose_spec es.toList hkeys with ⟨g1,g2⟩|⟨j,e0,g1,g2,g3⟩
 ·cases hf:f k with
  | none=>exact ⟨g1,g2⟩
  | some v=>obtain ⟨_,x,hx,e⟩:=h3 k v hf;exact absurd e (g2 x hx)
 ·obtain ⟨n,hn,e1,e2⟩:=h2 e0 (List.mem_of_getElem? g2)
  rw [g3] at e1
  have hnk:n=k:=ht.inj _ _ hn hk e1.symm
  subst hnk
  rw [e2]
  exact ⟨j,e0,g1,g2,g3⟩
def upG [DecidableEq α] (f : α→Option Value) (k : α) (u:Value) : α→Option Value:=λ j=>if j=k then some u else f j
end
end Go.V
namespace Go.Proofs.YtfpadnmdafiddaaGreatDoor
open Go Go.RowKit Go.V
theorem pick_c (n:Int) (m:Nat) (h0:0<m) (hm:m<9223372036854775808) (w:World):Calls Tryz.prog 18 #[.int .i64 n,.int .i64 (m:Int)] w (Ret λ v w'=>(∃ r:Nat,v=.int .i64 (r:Int)∧r<m)∧w'=w):=by
 refine V.calls (args:=[_,_]) Tryz.func18 rfl Tryz.ntmps18 rfl rfl ?_
 have h1 : -(m:Int)<n.tmod m:=by
  have:=Int.lt_tmod_of_pos n (show (0:Int)<m by omega);omega
 have h2:n.tmod m<m:=Int.tmod_lt_of_pos n (by omega)
 repeat (first|(refine aB ?_;refine TL.pure rfl rfl ?_)|(refine aD ?_;refine TL.pure rfl rfl ?_)|refine TL.nil ?_|refine aA ?_|refine aJ ?_|refine aC ?_|(refine aH ?_;refine TL.pure rfl rfl ?_)|refine eG rfl yD ?_|refine aV ?_)
 refine TL.rem rfl rfl (by omega) rfl ?_
 generalize n.tmod m=r at *
 by_cases hr:r<0
 ·obtain ⟨s,hs⟩:∃ s:Nat,r+m=s:=⟨(r+m).toNat,by omega⟩
  repeat (first|(refine aB ?_;refine TL.pure rfl rfl ?_)|(refine aD ?_;refine TL.pure rfl rfl ?_)|(refine bJ ?_;refine TL.addI rfl rfl (by omega) (by omega) rfl ?_)|refine TL.nil ?_|refine aA ?_|refine aJ ?_|refine aC ?_|(refine aH ?_;refine TL.pure rfl rfl ?_)|refine eT rfl yD ?_|refine bC ?_)
  exact cF rfl ⟨_,rfl,⟨s,by rw [hs],by omega⟩,rfl⟩
 ·obtain ⟨s,rfl⟩:∃ s:Nat,r=s:=⟨r.toNat,by omega⟩
  repeat (first|(refine aB ?_;refine TL.pure rfl rfl ?_)|(refine aD ?_;refine TL.pure rfl rfl ?_)|refine TL.nil ?_|refine aA ?_|refine aJ ?_|refine aC ?_|(refine aH ?_;refine TL.pure rfl rfl ?_)|refine aE rfl ?_|refine bC ?_|refine aV ?_)
  exact cF rfl ⟨_,rfl,⟨s,rfl,by omega⟩,rfl⟩
def jA (l:dS):Bs:=l.flatMap λ x=>x.1++[61]++x.2++[59]
theorem toldB_len (l:dS) (h:∀ x∈l,x.1.length≤16∧x.2.length≤32):(jA l).length≤50*l.length:=by
 induction l with
 | nil=>simp [jA]
 | cons x r ih =>
  have h1:=h x (by simp)
  have h2:=ih (λ y hy=>h y (List.mem_cons_of_mem _ hy))
  simp only [jA,List.flatMap_cons,List.length_append,List.length_cons,List.length_nil] at h2 ⊢
  omega
end Go.Proofs.YtfpadnmdafiddaaGreatDoor
namespace Go.Proofs.YtfpadnmdafiddaaGreatDoor
open Go Go.RowKit Go.V
structure PgW (w:World) (L:PL) (g:Pg):Prop where
 at_:PgAt w L g
 tab:TabAt w
 ne0:¬ L.S 0
theorem PgW.grow {w w':World} {L:PL} {g:Pg} (h:PgW w L g) (gr:Grow w w'):PgW w' L g:=⟨h.at_.grow gr,h.tab.keep (gr.block 0 h.tab.1) gr.size,h.ne0⟩
theorem PgW.put {w w':World} {L:PL} {g g':Pg} (h:PgW w L g) (ha:PgAt w' L g') (b:ButS L.S w w'):PgW w' L g':=⟨ha,h.tab.buts b h.ne0,h.ne0⟩
def ActCells (F:Nat→Prop) (w:World):List Value→List (Int×Bs×Bs)→Prop
 | [],[]=>True
 | v1::v2::v3::cs,a::l=>(v1=.int .i64 a.1∧BsAt F w v2 a.2.1∧BsAt F w v3 a.2.2)∧ActCells F w cs l
 | _,_=>False
theorem ActCells.go {F F':Nat→Prop} {w w':World} (g:Carry F w F' w'):∀ {cs:List Value} {l:List (Int×Bs×Bs)},ActCells F w cs l→ActCells F' w' cs l
 | [],[],_=>trivial
 | [],_::_,h=>h.elim
 | _::_,[],h=>by
  rename_i v cs
  match cs,h with
  | [],h=>exact h.elim
  | [_],h=>exact h.elim
  | _::_::_,h=>exact h.elim
 | [_],_::_,h=>h.elim
 | [_,_],_::_,h=>h.elim
 | _::_::_::_,_::_,⟨⟨h1,h2,h3⟩,h6⟩=>⟨⟨h1,h2.go g,h3.go g⟩,ActCells.go g h6⟩
theorem ActCells.at' {F:Nat→Prop} {w:World}:∀ {l:List (Int×Bs×Bs)} {cs:List Value} {i:Nat} {x:Int×Bs×Bs},ActCells F w cs l→l[i]? = some x→∃ k v,cs[i*3]? = some (.int .i64 x.1)∧cs[i*3+1]? = some k∧cs[i*3+2]? = some v∧BsAt F w k x.2.1∧BsAt F w v x.2.2
 | [],_,i,nd,_,hx=>by simp at hx
 | _::_,[],_,_,h,_=>h.elim
 | _::_,[_],_,_,h,_=>h.elim
 | _::_,[_,_],_,_,h,_=>h.elim
 | y::l,v1::v2::v3::cs,0,x,⟨⟨h1,h2,h3⟩,_⟩,hx=>by
  simp only [List.getElem?_cons_zero,Option.some.injEq] at hx
  subst hx
  exact ⟨v2,v3,by simp [h1],rfl,rfl,h2,h3⟩
 | y::l,v1::v2::v3::cs,i+1,x,⟨_,h⟩,hx=>by
  obtain ⟨k,v,h1,h2,h3,h4⟩:=ActCells.at' h (by simpa using hx)
  refine ⟨k,v,?_,?_,?_,h4⟩
  ·rw [show (i+1)*3=i*3+1+1+1 by omega];simpa using h1
  ·rw [show (i+1)*3+1=i*3+1+1+1+1 by omega];simpa using h2
  ·rw [show (i+1)*3+2=i*3+2+1+1+1 by omega];simpa using h3
end Go.Proofs.YtfpadnmdafiddaaGreatDoor
namespace Go.Proofs.YtfpadnmdafiddaaGreatDoor
open Go Go.RowKit Go.V
end Go.Proofs.YtfpadnmdafiddaaGreatDoor
namespace Go.Proofs.YtfpadnmdafiddaaGreatDoor
theorem insI_iff {key v:Bs} {y:Bs×Bs}:∀ {l:dS},Srt l→(y∈hE key v l↔y=(key,v)∨(y∈l∧y.1≠key))
 | [],_=>by simp [hE]
 | x::l,h=>by
  obtain ⟨h1,h2⟩:=List.pairwise_cons.1 h
  have ih:=insI_iff (key:=key) (v:=v) (y:=y) h2
  unfold hE
  by_cases hx:iM x.1 key
  ·rw [if_pos hx,List.mem_cons,ih,List.mem_cons]
   have hne:x.1≠key:=λ e=>dF key (by rw [e] at hx;exact hx)
   constructor
   ·rintro (rfl|h|⟨h,h'⟩)
    ·exact .inr ⟨.inl rfl,hne⟩
    ·exact .inl h
    ·exact .inr ⟨.inr h,h'⟩
   ·rintro (h|⟨h|h,h'⟩)
    ·exact .inr (.inl h)
    ·exact .inl h
    ·exact .inr (.inr ⟨h,h'⟩)
  ·rw [if_neg hx]
   by_cases he:x.1=key
   ·rw [if_pos he,List.mem_cons,List.mem_cons]
    have hl:∀ z∈l,z.1≠key:=λ z hz e=>by
     have:=h1 z hz
     rw [he,e] at this
     exact dF _ this
    constructor
    ·rintro (h|h)
     ·exact .inl h
     ·exact .inr ⟨.inr h,hl y h⟩
    ·rintro (h|⟨rfl|h,h'⟩)
     ·exact .inl h
     ·exact absurd he h'
     ·exact .inr h
   ·rw [if_neg he,List.mem_cons,List.mem_cons]
    have hk:iM key x.1:=by
     rcases klt_or key x.1 with g|g|g
     ·exact g
     ·exact absurd g.symm he
     ·exact absurd g hx
    have hl:∀ z∈l,z.1≠key:=λ z hz e=>by
     have:=gD hk (h1 z hz)
     rw [e] at this
     exact dF _ this
    constructor
    ·rintro (h|h|h)
     ·exact .inl h
     ·subst h;exact .inr ⟨.inl rfl,he⟩
     ·exact .inr ⟨.inr h,hl y h⟩
    ·rintro (h|⟨h,h'⟩)
     ·exact .inl h
     ·exact .inr h
end Go.Proofs.YtfpadnmdafiddaaGreatDoor
namespace Go.Proofs.YtfpadnmdafiddaaGreatDoor
open Go Go.RowKit Go.V
theorem PgW.other {w w':World} {L:PL} {g:Pg} {S:Nat→Prop} (h:PgW w L g) (b:ButS S w w') (hL:∀ k,k=L.p∨k=L.d∨k=L.u∨k=L.m→¬ S k) (h0:¬ S 0):PgW w' L g :=
 ⟨h.at_.keep (λ k hk=>b.block k (by have:=h.at_.lts;omega) (hL k hk)),h.tab.buts b h0,h.ne0⟩
theorem grow_many {S:Nat→Prop} {w w0 w1:World} (hg:Grow w w0) (h:ButS S w0 w1) (hm:∀ k,S k→w.heap.size≤k):Grow w w1 :=
 ⟨⟨h.os.trans hg.1.os,h.tape.trans hg.1.tape,h.output.trans hg.1.output,by have:=hg.2;have:=h.size;omega,λ k hk=>(h.block k (by have:=hg.2;omega) (λ e=>by have:=hm k e;omega)).trans (hg.block k hk)⟩,by have:=hg.2;have:=h.size;omega⟩
end Go.Proofs.YtfpadnmdafiddaaGreatDoor
namespace Go.Proofs.YtfpadnmdafiddaaGreatDoor
open Go Go.RowKit Go.V Go.ChangeShapes Go.WideShapes Go.ChangeAt
set_option maxRecDepth 100000
theorem tab_laid {W:World} {name:String} {zs:List Int} (hz:zs=tabB.map λ (x:Nat)=>(x:Int)) (hg:(Tryz.prog).globalNamed name=some 0) (hty:((Tryz.prog).globals[0]?).map (·.type)=some 238) (h:laidMet Tryz.prog [(name,Lib.tabData .u8 zs)] W):TabAt W:=by
 have hT:=Lib.tabIs_of_head hg hty Tryz.underlying238 Tryz.underlying5 (by kernel_rfl) (by kernel_rfl) h
 obtain ⟨arr,t,fr,hb,ha⟩:∃ arr t fr,W.heap[0]? = some (.cells arr t fr)∧arr=(zs.map λ z=>Value.int .u8 z).toArray:=by
  unfold Lib.TabIs World.var? at hT
  rw [hg] at hT
  simp only [Option.bind_some] at hT
  split at hT
  ·rename_i cs t fr hb
   exact ⟨cs,t,fr,hb,Option.some.inj hT⟩
  ·cases hT
 refine ⟨(Array.getElem?_eq_some_iff.1 hb).1,λ j x hj=>?_⟩
 simp only [World.cell?,hb]
 rw [ha,hz]
 simp [hj]
section
variable {H:Type} {enc:TypeId×Value→H} {P:Program} {W:World}
theorem flat_len {L:List (List Value)} {sz:Nat} (h:∀ x∈L,x.length=sz):L.flatten.length=L.length*sz:=by
 induction L with
 | nil=>simp
 | cons x r ih =>
  rw [List.flatten_cons,List.length_append,ih λ y hy=>h y (List.mem_cons_of_mem _ hy),h x (by simp),List.length_cons,Nat.add_mul]
  omega
theorem flat_at {sz:Nat}:∀ {L:List (List Value)} {i r:Nat} {x:List Value},(∀ x∈L,x.length=sz)→L[i]? = some x→r<sz→L.flatten[i*sz+r]? = x[r]?
 | [],i,r,x,_,hx,_=>by simp at hx
 | y::L,0,r,x,h,hx,hr=>by
  simp only [List.getElem?_cons_zero,Option.some.injEq] at hx
  subst hx
  rw [List.flatten_cons,List.getElem?_append_left (by rw [h y (by simp)];omega)]
  simp
 | y::L,i+1,r,x,h,hx,hr=>by
  rw [List.flatten_cons,List.getElem?_append_right (by rw [h y (by simp),Nat.add_mul];omega),h y (by simp),show (i+1)*sz+r-sz=i*sz+r by rw [Nat.add_mul];omega]
  exact flat_at (λ z hz=>h z (List.mem_cons_of_mem _ hz)) (by simpa using hx) hr
theorem sls_in {t e:TypeId} {sz fuel:Nat} {c:Value} {x:DataW H×List MemPlace} (ht:P.underlying t=some (.slice e)) (hc:P.cellsOf e=sz) (h0:0<sz) (h:DataW.trod enc P W 0 (λ _=>true) true fuel t [c]=some x) :
  ∃ (a:Option Addr) (n m:Nat) (css:List (List Value)),c=.slice a n m∧css.length=n∧Sl (λ k=>k<W.heap.size) W sz a n m css.flatten∧∀ q∈css,q.length=sz∧∃ f y,DataW.trod enc P W 0 (λ _=>true) true f e q=some y:=by
 rcases DataW.trod_slice ht h with ⟨hcs,_⟩|⟨p,len,cap,elems,rest,n,_,hcs,_,hb,hl,hm,hlen,hel,_,_⟩
 ·simp only [List.cons.injEq,and_true] at hcs
  subst hcs
  exact ⟨none,0,0,[],rfl,rfl,Sl.nil_mk _ _ _,by simp⟩
 ·simp only [List.cons.injEq,and_true] at hcs
  subst hcs
  have each:∀ i,i<len→∃ q y,W.cells? 0 (p.add (i*sz)) sz=some q∧DataW.trod enc P W 0 (λ _=>true) true n e q=some y:=λ i hi=>by
   have h1:=hel i hi
   rw [hc,List.getElem?_eq_getElem (by omega),Option.bind_eq_some_iff] at h1
   obtain ⟨q,h2,h3⟩:=h1
   exact ⟨q,_,h2,h3⟩
  have hat:∀ i,i<len→((List.range len).map λ i=>(W.cells? 0 (p.add (i*sz)) sz).getD [])[i]? = W.cells? 0 (p.add (i*sz)) sz:=λ i hi=>by
   obtain ⟨q,y,h1,_⟩:=each i hi
   rw [List.getElem?_map,List.getElem?_range hi,Option.map_some,h1]
   rfl
  have hall:∀ q∈(List.range len).map (λ i=>(W.cells? 0 (p.add (i*sz)) sz).getD []),q.length=sz∧∃ f y,DataW.trod enc P W 0 (λ _=>true) true f e q=some y:=λ q hq=>by
   obtain ⟨i,hi,rfl⟩:=List.mem_map.1 hq
   obtain ⟨q,y,h1,h2⟩:=each i (List.mem_range.1 hi)
   rw [h1]
   exact ⟨(World.cells?_some h1).2.1,n,y,h2⟩
  refine ⟨some p,len,cap,(List.range len).map λ i=>(W.cells? 0 (p.add (i*sz)) sz).getD [],rfl,by simp,⟨by rw [flat_len λ q hq=>(hall q hq).1];simp,hl,hm,(λ h=>by cases h),λ hn=>?_⟩,hall⟩
  have hpos:0<len:=by
   rcases Nat.eq_zero_or_pos len with h|h
   ·subst h;simp at hn
   ·exact h
  obtain ⟨q,y,h1,_⟩:=each 0 hpos
  have h2:=(World.cells?_some h1).2.2 0 h0
  have hq0:0<q.length:=by rw [(World.cells?_some h1).2.1];exact h0
  rw [List.getElem?_eq_getElem hq0,Nat.zero_mul,show (p.add 0).add 0=p from rfl] at h2
  have hs:p.spot=none:=World.cell?_spot h2
  obtain ⟨b,o,s⟩:=p
  simp only at hs
  subst hs
  have hblt:=World.block_lt_of_cell? W _ h2
  simp only at hblt
  have hcell:∀ i r v,i<len→r<sz→(((List.range len).map λ i=>(W.cells? 0 ((⟨b,o,none⟩:Addr).add (i*sz)) sz).getD []).flatten)[i*sz+r]? = some v→W.cell? ⟨b,o+(i*sz+r),none⟩=some v:=λ i r v hi hr hv=>by
   obtain ⟨q,y,h1,_⟩:=each i hi
   rw [flat_at (λ q hq=>(hall q hq).1) ((hat i hi).trans h1) hr] at hv
   have h2:=(World.cells?_some h1).2.2 r hr
   rw [← hv,← h2,Addr.add_lit,Addr.add_lit,Nat.add_assoc]
  refine ⟨rfl,hblt,hblt,λ j v hj=>?_⟩
  have hjl:=(List.getElem?_eq_some_iff.1 hj).1
  rw [flat_len λ q hq=>(hall q hq).1,List.length_map,List.length_range] at hjl
  have:=hcell (j / sz) (j%sz) v (Nat.div_lt_of_lt_mul (by rw [Nat.mul_comm];exact hjl)) (Nat.mod_lt _ h0) (by rw [Nat.mul_comm,Nat.div_add_mod];exact hj)
  rw [Nat.mul_comm,Nat.div_add_mod] at this
  exact this
theorem bytes_in:∀ (l:List Int),(∀ z∈l,(Lit.int .u8 z).wf=true)→∃ r:List Nat,l.map (Value.int .u8)=cX r∧∀ x∈r,x<256
 | [],_=>⟨[],rfl,by simp⟩
 | z::l,h=>by
  obtain ⟨r,h1,h2⟩:=bytes_in l (λ y hy=>h y (List.mem_cons_of_mem _ hy))
  have hz:=h z (by simp)
  have hz2:0≤z∧z≤255:=by simpa [Lit.wf,IntKind.min,IntKind.max,IntKind.signed,IntKind.bits] using hz
  refine ⟨z.toNat::r,?_,?_⟩
  ·simp only [List.map_cons,cX,h1]
   congr 2
   omega
  ·intro x hx
   rcases List.mem_cons.1 hx with rfl|hx
   ·omega
   ·exact h2 x hx
theorem bs_in {t e:TypeId} {fuel:Nat} {c:Value} {x:DataW H×List MemPlace} (ht:P.underlying t=some (.slice e)) (he:P.underlying e=some (.int .u8)) (hc:P.cellsOf e=1) (h:DataW.trod enc P W 0 (λ _=>true) true fuel t [c]=some x) :
  ∃ b,BsAt (λ k=>k<W.heap.size) W c b∧kW b:=by
 obtain ⟨a,n,m,zs,rfl,hs,hz⟩:=sl_in ht he hc h
 obtain ⟨r,h1,h2⟩:=bytes_in zs hz
 rw [h1] at hs
 exact ⟨r,⟨a,n,m,rfl,hs⟩,h2⟩
end
end Go.Proofs.YtfpadnmdafiddaaGreatDoor
namespace Go.V
open Go Go.RowKit Go.ChangeShapes Go.WideShapes Go.MapKept Go.ChangeMaps
theorem nodup_leG {α : Type} [DecidableEq α]:∀ {l r:List α},l.Nodup→(∀ x∈l,x∈r)→l.length≤r.length
 | [],r,_,_=>Nat.zero_le _
 | x::l,r,h,hs=>by
  obtain ⟨h1,h2⟩:=List.nodup_cons.1 h
  have hx:=hs x (by simp)
  have:=nodup_leG (l:=l) (r:=r.erase x) h2 λ y hy=>(List.mem_erase_of_ne (λ e=>h1 (by rw [← e];exact hy))).2 (hs y (List.mem_cons_of_mem _ hy))
  rw [List.length_erase_of_mem hx] at this
  have hp:=List.length_pos_of_mem hx
  rw [List.length_cons]
  omega
theorem keysG {α : Type} {κ : α→Value} {ok : α→Prop} {f : α→Option Value}:∀ {es:List MapEntry},(∀ x∈es,∃ n : α,ok n∧x.key = κ n∧f n=some x.val)→∃ ks:List α,es.map (·.key)=ks.map κ∧∀ k∈ks,ok k∧∃ v,f k=some v
 | [],_=>⟨[],rfl,by simp⟩
 | x::es,h=>by
  obtain ⟨n,h1,h2,h3⟩:=h x (by simp)
  obtain ⟨ks,k1,k2⟩:=keysG (es:=es) λ y hy=>h y (List.mem_cons_of_mem _ hy)
  refine ⟨n::ks,by simp [h2,k1],λ k hk=>?_⟩
  rcases List.mem_cons.1 hk with rfl|hk
  ·exact ⟨h1,_,h3⟩
  ·exact k2 k hk
section
variable [Rn]
variable {P:Program} {n:Nat} {e:dN} {w w':World} {Q:dO} {ops:Array Oper} {rest:List Oper} {d:Nat} {ty:TypeId} {pos:String} {aft:Array Edge} {α : Type} {κ : α→Value} {ok : α→Prop}
theorem MapG.size [DecidableEq α] {m:Nat} {f : α→Option Value} (h:MapG κ ok w m f) (inj:∀ a b,ok a→ok b→κ a = κ b→a=b) {ks:List α} (hnd:ks.Nodup) (hk:∀ k,(∃ v,f k=some v)↔k∈ks):∃ es c,w.heap[m]? = some (.map es c)∧es.size=ks.length:=by
 obtain ⟨es,c,h1,h2,h3,h4⟩:=h
 refine ⟨es,c,h1,?_⟩
 obtain ⟨ns,n1,n2⟩:=keysG h2
 have hnn:ns.Nodup:=by
  have h5:(es.toList.map (·.key)).Pairwise (·≠·):=List.pairwise_map.2 h4
  rw [n1] at h5
  exact (List.pairwise_map.1 h5).imp λ h e=>h (by rw [e])
 have hl:es.size=ns.length:=by have:=congrArg List.length n1;simpa using this
 have a:=nodup_leG hnn λ x hx=>(hk x).1 (n2 x hx).2
 have b:=nodup_leG hnd λ x hx=>by
  obtain ⟨v,hv⟩:=(hk x).2 hx
  obtain ⟨hox,y,hy,e⟩:=h3 x v hv
  have:=List.mem_map_of_mem (f:=λ x:MapEntry=>x.key) hy
  rw [n1,e] at this
  obtain ⟨z,hz,e2⟩:=List.mem_map.1 this
  exact (inj _ _ (n2 z hz).1 hox e2)▸hz
 omega
theorem TL.lenMap {t kt el m N:Nat} {x:Operand} [ht:MapTy P t kt el] (hx:val e x=some (.map (some m))) (hm:∃ es c,w.heap[m]? = some (.map es c)∧es.size=N) (hd:Nat.blt d n=true)
  (kk:TL P n ops rest ((d,.int .i64 (N:Int))::e) w Q):TL P n ops (⟨some d,.call ⟨.builtin .len,#[x],#[t]⟩,ty,pos,aft,none⟩::rest) e w Q:=by
 obtain ⟨es,c,h1,rfl⟩:=hm
 refine TL.run (λ r hr=>?_) hd kk
 simp [execOp,resolve,invoke,builtin,hr.eval hx,Builtin.len_,run_underlying ht.und,run_getObj_map w m es c h1,goInt]
end
end Go.V
namespace Go.V
open Go Go.RowKit
structure RangeEnd (R:Ending→World→Prop) (D:Nat) (rc:LoopState→Option Code→Loop) (w:World):Prop where
 mark:w.heap[D]? = some (.deferred (some []))
 ready:w.heap[D+1]? = some (.loop (rc .ready none))
 out:∀ w4 w5,Upd (D+1) w w4→Upd D w4 w5→R (.returned (.tuple #[])) w5
def EndH (P:Program) (n:Nat) (g:Operand) (ps:List Tmp) (x y:Code) (R:Ending→World→Prop):dO:=λ ex e w=>match ex with
 | .normal=>∃ gf lb,FnOk P gf∧val e g=some (.func (.func gf) #[] (List.toArray lb))∧∀ rc w1,LoopIn n ps x y e rc→w1.heap.size=w.heap.size+2→Grow w w1→w1.heap[w.heap.size+1]? = some (.loop (rc .ready none))→w1.heap[w.heap.size]? = some (.deferred (some [])) →
   Calls P gf (.func (.yield (w.heap.size+1)) #[] #[]::lb).toArray w1 (Ret λ _ w2=>RangeEnd R w.heap.size rc w2)
 | _=>False
theorem callsEnd {P:Program} {f:FuncId} {fn:Func} {args:List Value} {R:Ending→World→Prop} {n i:Nat} {w:World} {r0 r1 x y:Code} {g:Operand} {ps:List Tmp}
  (hf:P.funcs[f]? = some fn) (hb:fn.body=some (.seq r0 (.seq r1 (.block i (.rangeFunc g ps.toArray x y))))) (hn:fn.ntmps=n) (hrs:fn.results = #[]) (ha:Nat.ble args.length n=true)
  (h:T P n r0 (argsFrom 0 args) w (jZ P n r1 (EndH P n g ps x y R))):Calls P f args.toArray w R:=by
 have hle:args.length≤n:=Nat.le_of_ble_eq_true ha
 refine calls_fr1 (ro:=none) (callsIn_of_wp_marks hf hb trivial (wpIn_seq (wpIn_mono (T.out h (a:=_) ⟨rfl,?_,?_⟩) ?_)))
 ·simp [hn];omega
 ·intro t v hv
  obtain ⟨_,h2⟩:=find_argsFrom args 0 t v hv
  have h3:t<args.length:=by
   rcases Nat.lt_or_ge t args.length with h|h
   ·exact h
   ·simp [List.getElem?_eq_none h] at h2
  simp only [Nat.sub_zero] at h2
  simp only [Array.getD_eq_getD_getElem?]
  rw [Array.getElem?_append_left (by simpa using h3)]
  simp [h2]
 ·intro ex a w hx
  cases ex with
  | normal =>
   obtain ⟨e,he,hq⟩:=hx
   unfold jZ at hq
   refine wpIn_seq (wpIn_mono (T.out hq he) λ ex a w hx=>?_)
   cases ex with
   | normal =>
    obtain ⟨e,he,gf,lb,hfn,hg,hc⟩:=hx
    refine wpIn_block (wpIn_rangeFunc λ fn' _=>?_)
    obtain ⟨rc,hrc⟩:∃ rc:LoopState→Option Code→Loop,rc=λ st pd=>{ state:=st,pending:=pd,fn:=fn',tmps:=a.tmps,params:=ps.toArray,assign:=x,body:=y,defers:=w.heap.size }:=⟨_,rfl⟩
    have hent:(Instr.enterLoop fn' a.tmps ps.toArray x y (FR none).round).run P w=.ok (w.heap.size+1,[mkD w.heap.size]) ((w.alloc (.deferred (some []))).alloc (.loop (rc .ready none))):=by
     rw [hrc];exact run_enterLoop_outer _ _ _ _ _
    generalize hW:(w.alloc (.deferred (some []))).alloc (.loop (rc .ready none))=W1 at hent
    have hl1:W1.heap[w.heap.size+1]? = some (.loop (rc .ready none)):=by
     rw [← hW]
     have:=World.alloc_heap_new (w.alloc (.deferred (some []))) (.loop (rc .ready none));rwa [World.size_alloc] at this
    have hk1:W1.heap[w.heap.size]? = some (.deferred (some [])):=by
     rw [← hW];exact (Below.heap_alloc _ _ _ (by simp)).trans (World.alloc_heap_new w _)
    have hgr:Grow w W1:=by rw [← hW];exact Grow.mk (((Below.refl _ w).alloc (Nat.le_refl _) _).alloc (by simp) _)
    have hcl:=hc rc W1 ⟨fn',a.tmps,w.heap.size,⟨he.size,he.get⟩,hrc⟩ (by rw [← hW];simp) hgr hl1 hk1
    have hst:∀ st pd,(rc st pd).state=st:=by subst hrc;exact λ _ _=>rfl
    have hpd:∀ st pd,(rc st pd).pending=pd:=by subst hrc;exact λ _ _=>rfl
    refine ⟨w.heap.size+1,[mkD w.heap.size],_,⟨.fn (.func gf) lb.toArray,#[.func (.yield (w.heap.size+1)) #[] #[]]⟩,W1,gf,(.func (.yield (w.heap.size+1)) #[] #[]::lb).toArray,W1,hent,?_,λ _ _=>trivial,?_,(λ h=>by cases h),?_⟩
    ·simp [rangeCall,resolve,he.eval hg,Deferred.ofValue,Sem.run_bind,Result.andThen]
     rfl
    ·show (callFunc gf (#[Value.func (.yield (w.heap.size+1)) #[] #[]]++lb.toArray)).run P _=_
     have:=kS (P:=P) (f:=gf) (.func (.yield (w.heap.size+1)) #[] #[]::lb).toArray W1
     simpa using this
    ·refine CallsIn.mono (calls_fr (ro:=none) hcl) λ en w2 hen=>?_
     obtain ⟨v,rfl,hD,hready,hout⟩:=hen
     have hd:a.defers=[]:=he.defers
     refine ⟨none,_,by have:=run_endLoop (P:=P) hready (by rw [hst];simp);rw [hpd] at this;exact this,?_⟩
     rw [hd]
     show LeavesInM (FR none) 0 P fn a.tmps R ([w.heap.size].map mkD) .returning _
     refine leaves_marks [w.heap.size] _ (by simp) (λ r hr=>?_) (results_run' (e:=e) (rs:=[]) (vs:=[]) he.get hrs rfl) (hout _ _ (gL _ _ _) (gL _ _ _))
     simp only [List.mem_singleton] at hr
     subst hr
     rw [World.putObj_heap_other (by omega)]
     exact hD
   | ret=>obtain ⟨e2,ms,he2,hq⟩:=hx;exact hq.elim
   | exit j=>obtain ⟨e2,he2,hq⟩:=hx;exact hq.elim
   | goto j=>obtain ⟨e2,he2,hq⟩:=hx;exact hq.elim
   | panic c=>obtain ⟨e2,he2,hq⟩:=hx;exact hq.elim
   | outgrown=>obtain ⟨e2,he2,hq⟩:=hx;exact hq.elim
  | ret=>obtain ⟨e2,ms,he2,hq⟩:=hx;unfold jZ at hq;exact hq.elim
  | exit j=>obtain ⟨e2,he2,hq⟩:=hx;unfold jZ at hq;exact hq.elim
  | goto j=>obtain ⟨e2,he2,hq⟩:=hx;unfold jZ at hq;exact hq.elim
  | panic c=>obtain ⟨e2,he2,hq⟩:=hx;unfold jZ at hq;exact hq.elim
  | outgrown=>obtain ⟨e2,he2,hq⟩:=hx;unfold jZ at hq;exact hq.elim
end Go.V
namespace Go.V
open Go Go.RowKit Go.Maps
section
variable [Rn]
variable {P:Program} {n:Nat} {e:dN} {w w':World} {Q:dO} {ops:Array Oper} {rest:List Oper} {d:Nat} {ty:TypeId} {pos:String} {aft:Array Edge} {H:Type}
theorem TL.rangeM {t kt el b nn:Nat} {x:Operand} {R:Value→Option (DataW H×List MemPlace)} {D:DataW H} [ht:MapTy P t kt el] (K:Keyed P kt) (hx:val e x=some (.map (some b))) (hown:w.ownsMap P kt R b nn D) (hd:Nat.blt d n=true)
  (k:∀ w',w'.ranges P kt R b w.heap.size nn D (Maps.has D) (Maps.size D)→w.grownBy w' none→w'.heap.size=w.heap.size+1→TL P n ops rest ((d,.pointer (some ⟨w.heap.size,0,none⟩))::e) w' Q) :
  TL P n ops (⟨some d,.range t x,ty,pos,aft,none⟩::rest) e w Q:=TL.mk λ a ha =>
 wpListIn_range_own w rfl x t rfl kt el K ht.und R b nn D (ha.eval hx) hown λ w' h1 h2 h3=>TL.out (k w' h1 h2 h3) (ha.put hd _)
theorem TL.nextM {kt b r nn cnt:Nat} {x:Operand} {R:Value→Option (DataW H×List MemPlace)} {D:DataW H} {left:Go.Lit→Bool} (K:Keyed P kt) (hk:P.underlying kt=some (.int .i64)) (hx:val e x=some (.pointer (some ⟨r,0,none⟩))) (h:w.ranges P kt R b r nn D left cnt) (hd:Nat.blt d n=true)
  (k0:(∀ kl,left kl=false)→TL P n ops rest ((d,.tuple #[.bool false])::e) w Q)
  (k1:∀ (z:Int) (v:Value) (kl:Go.Lit) (y:DataW H×List MemPlace) (w':World) (cnt':Nat),keyOf P kt (.int .i64 z)=some kl→left kl=true→(∀ zd,D.atKey kl zd=y.1)→w'.ranges P kt R b r nn D (λ z=>left z&&!z.sameKey kl) cnt'→cnt'<cnt→w.grownBy w' (some r)→w'.heap.size=w.heap.size →
   (Instr.entry (.pointer (some ⟨r,0,none⟩))).run P w'=.ok (.tuple #[.int .i64 z,v]) w'→TL P n ops rest ((d,.tuple #[.bool true,.int .i64 z,v])::e) w' Q) :
  TL P n ops (⟨some d,.next x false,ty,pos,aft,none⟩::rest) e w Q:=TL.mk λ a ha =>
 wpListIn_next_ranges w rfl x rfl kt K R (Value.int .i64) id (λ key kl hkey=>by obtain ⟨z,hz,_⟩:=Maps.keyOf_i64 hk hkey;exact ⟨z,hz⟩) (λ v _ _=>⟨v,rfl⟩) b r nn D left cnt (ha.eval hx) h
  (λ _ hl=>TL.out (k0 hl) (ha.put hd _)) (λ z v kl y w' cnt' h1 h2 _ h4 h5 h6 h7 h8 h9=>TL.out (k1 z v kl y w' cnt' h1 h2 h4 h5 h6 h7 h8 h9) (ha.put hd _))
theorem TL.entryM {r:Nat} {x:Operand} {u:Value} (hx:val e x=some (.pointer (some ⟨r,0,none⟩))) (h:(Instr.entry (.pointer (some ⟨r,0,none⟩))).run P w=.ok u w) (hd:Nat.blt d n=true)
  (k:TL P n ops rest ((d,u)::e) w Q):TL P n ops (⟨some d,.entry x,ty,pos,aft,none⟩::rest) e w Q :=
 TL.run (λ a ha=>by simp [execOp,ha.eval hx,h]) hd k
theorem TL.isRangeM {t:TypeId} {x:Operand} {d:Option Nat} (h:TL P n ops (⟨d,.range t x,ty,pos,aft,none⟩::rest) e w Q):TL P n ops (⟨d,.range t x,ty,pos,aft,none⟩::rest) e w Q:=h
theorem TL.isEntry {x:Operand} {d:Option Nat} (h:TL P n ops (⟨d,.entry x,ty,pos,aft,none⟩::rest) e w Q):TL P n ops (⟨d,.entry x,ty,pos,aft,none⟩::rest) e w Q:=h
theorem ranges_same {kt b r nn cnt:Nat} {R:Value→Option (DataW H×List MemPlace)} {D:DataW H} {left:Go.Lit→Bool} (h:w.ranges P kt R b r nn D left cnt) (hb:w'.heap[b]? = w.heap[b]?) (hr:w'.heap[r]? = w.heap[r]?):w'.ranges P kt R b r nn D left cnt:=by
 obtain ⟨es,clock,since,seen,c0,h1,h2,h3,h4,h5,h6⟩:=h
 exact ⟨es,clock,since,seen,c0,by rw [hb];exact h1,h2,h3,h4,by rw [hr];exact h5,h6⟩
end
end Go.V
namespace Go.V
open Go Go.RowKit
def RowO (B:Nat) (el:TypeId) (w:World) (v:Value) (xs:List Value):Prop :=
 ∃ b o cap cs,v=.slice (some ⟨b,o,none⟩) xs.length cap∧B≤b∧Blk w b el cs∧o+cap≤cs.length∧xs.length≤cap∧cap≤maxLen∧(cs.drop o).take xs.length=xs
section
variable {B:Nat} {el:TypeId} {w w':World} {v:Value} {xs:List Value}
theorem RowO.lt (h:RowO B el w v xs) {k:Nat} (hk:v.ownBlock=some k):B≤k∧k<w.heap.size:=by
 obtain ⟨b,o,cap,cs,rfl,h1,h2,_⟩:=h
 simp only [Value.ownBlock,Option.some.injEq] at hk
 subst hk
 exact ⟨h1,h2.lt⟩
theorem RowO.keep (h:RowO B el w v xs) (hk:∀ k,v.ownBlock=some k→w'.heap[k]? = w.heap[k]?):RowO B el w' v xs:=by
 obtain ⟨b,o,cap,cs,rfl,h1,h2,h3⟩:=h
 refine ⟨b,o,cap,cs,rfl,h1,?_,h3⟩
 unfold Blk at h2 ⊢
 rw [hk b rfl]
 exact h2
theorem RowO.grow (h:RowO B el w v xs) (g:Grow w w'):RowO B el w' v xs:=h.keep λ k hk=>g.block k (h.lt hk).2
theorem RowO.sl (h:RowO B el w v xs):∃ a c,v=.slice a xs.length c∧Sl (λ k=>v.ownBlock=some k) w 1 a xs.length c xs:=by
 obtain ⟨b,o,cap,cs,rfl,h1,h2,h3,h4,h5,h6⟩:=h
 refine ⟨_,_,rfl,⟨by simp,h4,h5,(λ e=>by cases e),λ hne=>⟨rfl,rfl,h2.lt,λ j u hj=>?_⟩⟩⟩
 have hjl:j<xs.length:=(List.getElem?_eq_some_iff.1 hj).1
 rw [← h6,List.getElem?_take,if_pos hjl,List.getElem?_drop] at hj
 simp only [World.cell?]
 unfold Blk at h2
 simp [h2,hj]
theorem RowO.own {n:Nat} (h:w.ownsRow B el 1 v n xs) (hn:0<n):RowO B el w v xs:=by
 obtain ⟨hl,h|⟨g,cap,cur,rfl,h1,h2,h3,h4,h5,h6⟩⟩:=h
 ·omega
 ·have hxl:xs.length=n:=by omega
  refine ⟨g,0,cap,cur.toList,by rw [hxl],h1,by unfold Blk;simpa using h2,by simp;omega,by omega,h4,?_⟩
  rw [List.drop_zero,hxl]
  rw [Nat.mul_one] at h6
  exact h6
end
section
variable [Rn]
variable {P:Program} {n:Nat} {e:dN} {w w':World} {Q:dO} {ops:Array Oper} {rest:List Oper} {d:Nat} {ty:TypeId} {pos:String} {aft:Array Edge}
theorem take_set {cs xs:List Value} {o:Nat} {u:Value} (h1:(cs.drop o).take xs.length=xs) (h2:o+xs.length<cs.length):((cs.set (o+xs.length) u).drop o).take (xs++[u]).length=xs++[u]:=by
 apply List.ext_getElem?
 intro j
 rw [List.getElem?_take,List.getElem?_drop,List.getElem?_set,List.length_append,List.length_singleton]
 by_cases hj:j<xs.length
 ·rw [if_pos (by omega),if_neg (by omega),List.getElem?_append_left hj]
  have:=congrArg (·[j]?) h1
  simp only [List.getElem?_take,List.getElem?_drop] at this
  rw [if_pos hj] at this
  exact this
 ·by_cases hj2:j=xs.length
  ·subst hj2
   rw [if_pos (by omega),if_pos rfl,if_pos h2]
   simp
  ·rw [if_neg (by omega),List.getElem?_eq_none (by simp;omega)]
theorem TL.append1O {t elem bytes B c:Nat} {x y:Operand} {v u:Value} {xs:List Value} {F:Nat→Prop} {a:Option Addr} [ht:SliceTy P t elem 1 bytes]
  (hx:val e x=some v) (hy:val e y=some (.slice a 1 c)) (hown:RowO B elem w v xs) (hs:Sl F w 1 a 1 c [u]) (h1:u.oneCell'=true)
  (h63:xs.length+1≤maxLen) (hbytes:(xs.length+1)*bytes≤140737488355328) (hbase:B≤w.heap.size) (hd:Nat.blt d n=true)
  (k:∀ v' w',RowO B elem w' v' (xs++[u])→w.grownBy w' v.ownBlock→(∀ j,v'.ownBlock=some j→v.ownBlock=some j∨w.heap.size≤j)→TL P n ops rest ((d,v')::e) w' Q) :
  TL P n ops (⟨some d,.call ⟨.builtin .append,#[x,y],#[t,t]⟩,ty,pos,aft,none⟩::rest) e w Q:=by
 obtain ⟨i,z,hi,hsz,hby,hz,hzs,hne⟩:=ht.info
 cases a with
 | none=>have:=hs.nil rfl;have:=hs.cap;omega
 | some ad =>
  obtain ⟨b,o,cap,cs,rfl,g1,g2,g3,g4,g5,g6⟩:=hown
  have hnews:∀ j u',[u][j]? = some u'→w.cell? (ad.add j)=some u':=hs.row.cell_add rfl
  have g2':=g2
  unfold Blk at g2'
  by_cases hroom:xs.length+1≤cap
  ·have hrun:=run_append_room_cells (P:=P) w t ty elem i ht.und hi b o xs.length cap ad 1 c [u] (by simp [hsz]) hnews (by simpa using h1) hroom
    (λ j hj=>by simp only [List.length_singleton] at hj;simp [World.cell?,g2',hsz];omega) (λ j hj=>by simp [World.frozen?,g2'])
   simp only [hsz,Nat.mul_one,World.setCells] at hrun
   refine TL.run (v:=.slice (some ⟨b,o,none⟩) (xs.length+1) cap) (w':=w.setCell ⟨b,o+xs.length,none⟩ u) (λ r hr=>?_) hd
    (k _ _ ⟨b,o,cap,cs.set (o+xs.length) u,by simp,g1,blk_setCell u g2,by simpa using g3,by simpa using hroom,g5,take_set g6 (by omega)⟩ ?_ λ j hj=>.inl hj)
   ·simp [execOp,resolve,invoke,builtin,hr.eval hx,hr.eval hy,hrun]
   ·have hu:=upd_setCell (w:=w) b (o+xs.length) u
    exact ⟨hu.os,hu.tape,hu.output,Nat.le_of_eq hu.size.symm,λ k _ hne=>hu.block k λ e=>hne (by rw [e];rfl)⟩
  ·obtain ⟨v',w',hrun,hown',hgb⟩:=run_append_arg_grows (P:=P) w t ty elem i z 1 bytes ht.und hi hz hsz hby hzs (by omega) ⟨b,o,none⟩ xs.length cap xs (by simp)
    (λ j u' hj=>by
     have hjl:j<xs.length:=(List.getElem?_eq_some_iff.1 hj).1
     rw [← g6,List.getElem?_take,if_pos hjl,List.getElem?_drop] at hj
     rw [Addr.add_lit]
     simp [World.cell?,g2',hj]) ad 1 c [u] (by simp) hnews (by omega) h63 hbytes
   refine TL.run (v:=v') (w':=w') (λ r hr=>?_) hd (k v' w' ?_ ⟨hgb.os,hgb.tape,hgb.output,hgb.size,λ k hk _=>hgb.block k hk (by simp)⟩ λ j hj=>.inr (hown'.lt j hj).1)
   ·simp [execOp,resolve,invoke,builtin,hr.eval hx,hr.eval hy,hrun]
   ·obtain ⟨b',o',cap',cs',e,q1,q2⟩:=RowO.own hown' (by omega)
    exact ⟨b',o',cap',cs',e,by omega,q2⟩
theorem RowO.cut (k l:Nat) {B:Nat} {el:TypeId} {w:World} {b o cap:Nat} {xs cs:List Value} (h1:B≤b) (h2:Blk w b el cs) (h3:o+cap≤cs.length) (h4:xs.length≤cap) (h5:cap≤maxLen) (h6:(cs.drop o).take xs.length=xs) (hkl:k≤l) (hl:l≤xs.length) :
  RowO B el w (.slice (some ⟨b,o+k,none⟩) (l-k) (cap-k)) ((xs.take l).drop k):=by
 have hlen:((xs.take l).drop k).length=l-k:=by rw [List.length_drop,List.length_take];omega
 refine ⟨b,o+k,cap-k,cs,by rw [hlen],h1,h2,by omega,by omega,by omega,?_⟩
 rw [hlen]
 apply List.ext_getElem?
 intro j
 rw [List.getElem?_take,List.getElem?_drop,List.getElem?_drop,List.getElem?_take]
 by_cases hj:j<l-k
 ·rw [if_pos hj,if_pos (by omega)]
  have:=congrArg (·[k+j]?) h6
  simp only [List.getElem?_take,List.getElem?_drop] at this
  rw [if_pos (by omega)] at this
  rw [← this,Nat.add_assoc]
 ·rw [if_neg hj,if_neg (by omega)]
theorem TL.sliceLo {t elem bytes B h:Nat} {x y:Operand} {v:Value} {kk:IntKind} {xs:List Value} [ht:SliceTy P t elem 1 bytes] (hx:val e x=some v) (hy:val e y=some (.int kk (h:Int))) (hown:RowO B elem w v xs) (hh:h≤xs.length) (h0:0<xs.length) (hd:Nat.blt d n=true)
  (k:∀ v',RowO B elem w v' (xs.take h)→v'.ownBlock=v.ownBlock→TL P n ops rest ((d,v')::e) w Q) :
  TL P n ops (⟨some d,.slice t x none (some y) none,ty,pos,aft,none⟩::rest) e w Q:=by
 obtain ⟨b,o,cap,cs,rfl,g1,g2,g3,g4,g5,g6⟩:=hown
 have hc:=RowO.cut 0 h g1 g2 g3 g4 g5 g6 (Nat.zero_le _) hh
 refine TL.run (v:=.slice (some ⟨b,o+0,none⟩) (h-0) (cap-0)) (w':=w) (λ r hr=>?_) hd (k _ (by simpa using hc) rfl)
 have hcap:¬ cap=0:=by omega
 simp [execOp,hr.eval hx,Instr.sliceAt,underlying,ht.und,Instr.slice,ht.size,Instr.sliceBounds,hr.eval hy,eC (j:=h) rfl (by omega:h≤cap),hcap,Addr.add_lit]
theorem TL.sliceHi {t elem bytes B l:Nat} {x y:Operand} {v:Value} {kk:IntKind} {xs:List Value} [ht:SliceTy P t elem 1 bytes] (hx:val e x=some v) (hy:val e y=some (.int kk (l:Int))) (hown:RowO B elem w v xs) (hh:l<xs.length) (hd:Nat.blt d n=true)
  (k:∀ v',RowO B elem w v' (xs.drop l)→v'.ownBlock=v.ownBlock→TL P n ops rest ((d,v')::e) w Q) :
  TL P n ops (⟨some d,.slice t x (some y) none none,ty,pos,aft,none⟩::rest) e w Q:=by
 obtain ⟨b,o,cap,cs,rfl,g1,g2,g3,g4,g5,g6⟩:=hown
 have hc:=RowO.cut l xs.length g1 g2 g3 g4 g5 g6 (by omega) (Nat.le_refl _)
 refine TL.run (v:=.slice (some ⟨b,o+l,none⟩) (xs.length-l) (cap-l)) (w':=w) (λ r hr=>?_) hd (k _ (by simpa using hc) rfl)
 have hcap:¬ cap=l:=by omega
 simp [execOp,hr.eval hx,Instr.sliceAt,underlying,ht.und,Instr.slice,ht.size,Instr.sliceBounds,hr.eval hy,eC (j:=l) rfl (by omega:l≤xs.length),hcap,Addr.add_lit]
end
end Go.V
namespace Go.Proofs.YtfpadnmdafiddaaGreatDoor
def kE (s:Pg) (qs:List Nat):List Nat:=qs.foldl gY (List.replicate s.words.length 0)
def jQ (s:Pg) (qs:List Nat):Pg:={ s with words:=kE s qs }
theorem length_markW (l:List Nat) (n:Nat):(gY l n).length=l.length:=by simp [gY]
theorem kU:∀ (qs l:List Nat),(qs.foldl gY l).length=l.length
 | [],l=>rfl
 | q::qs,l=>by rw [List.foldl_cons,kU qs,length_markW]
theorem marks_bit:∀ (qs l:List Nat) (k:Nat),(∀ q∈qs,q / 64<l.length)→((qs.foldl gY l).getD (k / 64) 0).testBit (k%64)=(decide (k∈qs) || (l.getD (k / 64) 0).testBit (k%64))
 | [],l,k,_=>by simp
 | q::qs,l,k,h=>by
  rw [List.foldl_cons,marks_bit qs _ k (λ x hx=>by rw [length_markW];exact h x (List.mem_cons_of_mem _ hx)),markW_bit _ _ _ (h q (by simp))]
  by_cases h1:k=q
  ·subst h1;simp
  ·simp [h1]
theorem markW_64 {l:List Nat} {n:Nat} (h:∀ x∈l,x<18446744073709551616) (hd:n / 64<l.length):∀ x∈gY l n,x<18446744073709551616:=by
 intro x hx
 unfold gY at hx
 rcases List.mem_or_eq_of_mem_set hx with hx|rfl
 ·exact h x hx
 ·have h5:l.getD (n / 64) 0<2^64:=by
   rw [List.getD_eq_getElem?_getD,List.getElem?_eq_getElem hd]
   exact h _ (List.getElem_mem hd)
  have h6:2^(n%64)<2^64:=Nat.pow_lt_pow_right (by decide) (Nat.mod_lt _ (by decide))
  exact Nat.or_lt_two_pow h5 h6
theorem marks_64:∀ {qs l:List Nat},(∀ x∈l,x<18446744073709551616)→(∀ q∈qs,q / 64<l.length)→∀ x∈qs.foldl gY l,x<18446744073709551616
 | [],l,h,_=>h
 | q::qs,l,h,hq=>by
  rw [List.foldl_cons]
  exact marks_64 (markW_64 h (hq q (by simp))) (λ x hx=>by rw [length_markW];exact hq x (List.mem_cons_of_mem _ hx))
theorem zeros_bit (n k j:Nat):((List.replicate n 0).getD k 0).testBit j=false:=by
 rw [List.getD_eq_getElem?_getD,List.getElem?_replicate]
 split<;>simp
theorem keep_div {s:Pg} (hs:PgOk s) {qs:List Nat} (h:∀ q∈qs,cV s q=true):∀ q∈qs,q / 64<(List.replicate s.words.length 0).length:=λ q hq=>by
 rw [List.length_replicate]
 exact used_div hs (eF (h q hq))
theorem keep_used {s:Pg} (hs:PgOk s) {qs:List Nat} (h:∀ q∈qs,cV s q=true) (k:Nat):cV (jQ s qs) k=decide (k∈qs):=by
 unfold cV jQ kE
 simp only
 rw [marks_bit _ _ _ (keep_div hs h),zeros_bit,Bool.or_false]
 by_cases hk:k∈qs
 ·simp [hk,eF (h k hk)]
 ·simp [hk]
theorem keep_ok {s:Pg} (hs:PgOk s) {qs:List Nat} (h:∀ q∈qs,cV s q=true):PgOk (jQ s qs):=by
 refine ⟨?_,?_,λ n hn=>?_,hs.cnt⟩
 ·show (kE s qs).length=_
  unfold kE
  rw [kU,List.length_replicate]
  exact hs.wl
 ·exact marks_64 (λ x hx=>by rw [(List.mem_replicate.1 hx).2];decide) (keep_div hs h)
 ·show ((kE s qs).getD (n / 64) 0).testBit (n%64)=false
  unfold kE
  rw [marks_bit _ _ _ (keep_div hs h),zeros_bit,Bool.or_false]
  refine decide_eq_false λ hm=>?_
  have:=eF (h n hm)
  have hn':s.count≤n:=hn
  omega
theorem keep_node {s:Pg} (hs:PgOk s) {qs:List Nat} (h:∀ q∈qs,cV s q=true) {n:Nat} (hn:n∈qs):dQ (jQ s qs) n=dQ s n:=by
 unfold dQ
 rw [keep_used hs h,h n hn,decide_eq_true hn]
 rfl
theorem Vt.kept {s s':Pg}:∀ {h:Nat} {nd:Nd} {l:dS} {ps:List Nat},(∀ p∈ps,dQ s' p=dQ s p)→Vt s h nd l ps→Vt s' h nd l ps
 | 0,_,_,_,_,h=>h
 | h+1,nd,l,ps,hk,⟨ls,h1,h2,h3,h4,h5,h6,h7,h8⟩=>⟨ls,h1,h2,h3,h4,h5,h6,h7,λ x hx2=>by
  obtain ⟨nd',g1,g2,g3⟩:=h8 x hx2
  have hin:∀ p∈x.page::x.ps,p∈ps:=λ p hp=>by rw [h7];exact List.mem_flatMap.2 ⟨x,hx2,hp⟩
  exact ⟨nd',(hk _ (hin _ (by simp))).trans g1,g2,g3.kept λ p hp=>hk _ (hin _ (List.mem_cons_of_mem _ hp))⟩⟩
theorem TrAt.kept {s s':Pg} {r:Option Nat} {lv:Nat} {l:dS} {ps:List Nat} (h:TrAt s r lv l ps) (hk:∀ p∈ps,dQ s' p=dQ s p):TrAt s' r lv l ps:=by
 cases r with
 | none=>exact h
 | some n =>
  obtain ⟨h,nd,ps',e1,e2,e3,e4,rfl⟩:=h
  exact ⟨h,nd,ps',e1,(hk n (by simp)).trans e2,e3.kept λ p hp=>hk p (List.mem_cons_of_mem _ hp),e4,rfl⟩
theorem TrAt.used {s:Pg} {r:Option Nat} {lv:Nat} {l:dS} {ps:List Nat} (h:TrAt s r lv l ps):∀ p∈ps,cV s p=true:=by
 cases r with
 | none=>rw [h.2.2];intro p hp;cases hp
 | some n =>
  obtain ⟨h,nd,ps',e1,e2,e3,e4,rfl⟩:=h
  intro p hp
  rcases List.mem_cons.1 hp with rfl|hp
  ·exact eQ e2
  ·obtain ⟨h',nd',l',ps'',k1,k2,k3⟩:=e3.below p hp
   exact eQ k2
theorem TrAt.keep {s:Pg} (hs:PgOk s) {qs:List Nat} (hq:∀ q∈qs,cV s q=true) {r:Option Nat} {lv:Nat} {l:dS} {ps:List Nat} (h:TrAt s r lv l ps) (hp:∀ p∈ps,p∈qs):TrAt (jQ s qs) r lv l ps :=
 h.kept λ p hm=>keep_node hs hq (hp p hm)
def mA (s:Pg):List Nat:=(List.range s.count).filter λ n=>cV s n
theorem usedL_len (s:Pg):(mA s).length=iL s:=rfl
theorem usedL_mem {s:Pg} {n:Nat}:n∈mA s↔cV s n=true:=by
 unfold mA
 rw [List.mem_filter,List.mem_range]
 exact ⟨λ h=>h.2,λ h=>⟨eF h,h⟩⟩
theorem usedL_srt (s:Pg):(mA s).Pairwise (· < ·):=List.Pairwise.filter _ List.pairwise_lt_range
theorem usedL_words {s:Pg} (hs:PgOk s):mA s=(List.range (64*s.words.length)).filter (bitF s.words):=by
 obtain ⟨k,hk⟩:∃ k,64*s.words.length=s.count+k:=⟨64*s.words.length-s.count,by have:=hs.wl;omega⟩
 rw [hk,List.range_add,List.filter_append]
 have e1:((List.range k).map (s.count + ·)).filter (bitF s.words)=[]:=by
  rw [List.filter_eq_nil_iff]
  intro n hn
  obtain ⟨j,_,rfl⟩:=List.mem_map.1 hn
  simp only [bitF,hs.top (s.count+j) (by omega),Bool.false_eq_true,not_false_eq_true]
 rw [e1,List.append_nil]
 exact List.filter_congr λ n hn=>by simp [cV,bitF,List.mem_range.1 hn]
theorem low_off (k m:Nat):(2^k*(2*m+1))&&&(2^k*(2*m+1)-1)=2^k*(2*m):=by
 apply Nat.eq_of_testBit_eq
 intro i
 rw [Nat.testBit_and,mI,bit_pred]
 have h:=Nat.testBit_two_pow_mul_add (2*m) (b:=0) (i:=k) (Nat.two_pow_pos k) i
 rw [Nat.add_zero] at h
 rw [h]
 by_cases h1:i<k
 ·simp [h1]
 ·by_cases h2:i=k
  ·subst h2;simp
  ·rw [if_neg h1,if_neg h1,if_neg h2,if_neg h2,if_neg h1]
   obtain ⟨t,ht⟩:∃ t,i-k=t+1:=⟨i-k-1,by omega⟩
   rw [ht,Nat.testBit_succ,show 2*m / 2=m by omega]
   simp
structure Sift (ws:List Nat) (i:Nat) (y:Nat) (l:List Nat):Prop where
 le:y<18446744073709551616
 at_:∃ t,t≤64∧l=(List.range (64*i+t)).filter (bitF ws)∧∀ j,y.testBit j=(decide (t≤j)&&(ws.getD i 0).testBit j)
theorem Sift.start {ws:List Nat} {i:Nat} {l:List Nat} (h:(ws.getD i 0)<18446744073709551616) (hl:l=(List.range (64*i)).filter (bitF ws)):Sift ws i (ws.getD i 0) l :=
 ⟨h,0,by omega,hl,λ j=>by simp⟩
theorem bitF_at (ws:List Nat) (i j:Nat) (h:j<64):bitF ws (64*i+j)=(ws.getD i 0).testBit j:=by
 unfold bitF
 rw [show (64*i+j) / 64=i by omega,show (64*i+j)%64=j by omega]
theorem filter_gap (p:Nat→Bool) (a b:Nat) (h:a≤b) (hp:∀ k,a≤k→k<b→p k=false):(List.range b).filter p=(List.range a).filter p:=by
 obtain ⟨d,rfl⟩:∃ d,b=a+d:=⟨b-a,by omega⟩
 rw [List.range_add,List.filter_append]
 have e1:((List.range d).map (a + ·)).filter p=[]:=by
  rw [List.filter_eq_nil_iff]
  intro n hn
  obtain ⟨j,hj,rfl⟩:=List.mem_map.1 hn
  rw [hp (a+j) (by omega) (by have:=List.mem_range.1 hj;omega)]
  simp
 rw [e1,List.append_nil]
theorem Sift.step {ws:List Nat} {i k m:Nat} {l:List Nat} (h:Sift ws i (2^k*(2*m+1)) l):k<64∧Sift ws i (2^k*(2*m)) (l++[64*i+k]):=by
 obtain ⟨h1,t,ht,hl,hb⟩:=h
 have hk64:k<64:=by
  rcases Nat.lt_or_ge k 64 with h2|h2
  ·exact h2
  ·have h3:2^64≤2^k:=Nat.pow_le_pow_right (by omega) h2
   have h4:2^k*1≤2^k*(2*m+1):=Nat.mul_le_mul_left _ (by omega)
   have h5:(2:Nat)^64=18446744073709551616:=by decide
   omega
 have hbk:=hb k
 rw [mI,if_neg (by omega),if_pos rfl] at hbk
 have hbk':=Bool.and_eq_true_iff.1 hbk.symm
 have htk:t≤k:=by simpa using hbk'.1
 refine ⟨hk64,?_,k+1,by omega,?_,λ j=>?_⟩
 ·have h4:2^k*(2*m)≤2^k*(2*m+1):=Nat.mul_le_mul_left _ (by omega)
  omega
 ·rw [hl,show 64*i+(k+1)=(64*i+k)+1 by omega,List.range_succ,List.filter_append]
  congr 1
  ·refine (filter_gap _ _ _ (by omega) λ z hz1 hz2=>?_).symm
   obtain ⟨j,rfl⟩:∃ j,z=64*i+j:=⟨z-64*i,by omega⟩
   rw [bitF_at _ _ _ (by omega)]
   have hj:=hb j
   rw [mI,if_pos (by omega),decide_eq_true (show t≤j by omega),Bool.true_and] at hj
   exact hj.symm
  ·have:bitF ws (64*i+k)=true:=by rw [bitF_at _ _ _ hk64];exact hbk'.2
   simp [List.filter,this]
 ·have e:=low_off k m
  rw [← e,Nat.testBit_and,hb j,bit_pred]
  by_cases h2:j<k
  ·have h3:=hb j
   rw [mI,if_pos h2] at h3
   rw [← h3]
   have:¬ k+1≤j:=by omega
   simp [this]
  ·by_cases h3:j=k
   ·subst h3
    have:¬ j+1≤j:=by omega
    simp [this]
   ·rw [if_neg h2,if_neg h3]
    have h4:=hb j
    rw [mI,if_neg h2,if_neg h3,decide_eq_true (show t≤j by omega),Bool.true_and] at h4
    rw [← h4,decide_eq_true (show t≤j by omega),decide_eq_true (show k+1≤j by omega)]
    simp
theorem Sift.done {ws:List Nat} {i:Nat} {l:List Nat} (h:Sift ws i 0 l):l=(List.range (64*(i+1))).filter (bitF ws):=by
 obtain ⟨h1,t,ht,hl,hb⟩:=h
 rw [hl]
 refine (filter_gap _ _ _ (by omega) λ z hz1 hz2=>?_).symm
 obtain ⟨j,rfl⟩:∃ j,z=64*i+j:=⟨z-64*i,by omega⟩
 rw [bitF_at _ _ _ (by omega)]
 have hj:=hb j
 rw [Nat.zero_testBit,decide_eq_true (show t≤j by omega),Bool.true_and] at hj
 exact hj.symm
theorem Sift.len {ws:List Nat} {i y:Nat} {l:List Nat} (h:Sift ws i y l):l.length≤64*i+64:=by
 obtain ⟨h1,t,ht,hl,hb⟩:=h
 rw [hl]
 refine Nat.le_trans (List.length_filter_le _ _) ?_
 rw [List.length_range]
 omega
end Go.Proofs.YtfpadnmdafiddaaGreatDoor
namespace Go.Proofs.YtfpadnmdafiddaaGreatDoor
open Go Go.RowKit Go.V
theorem grow_own {w w4 w5:World} {v:Value} {xs:List Value} {n e:Nat} (hg:Grow w w4) (ho:w4.ownsRow w.heap.size e 1 v n xs) (hgb:w4.grownBy w5 v.ownBlock):Grow w w5 :=
 ⟨cA hgb hg.2 (λ k hk=>(cY ho hk).1) hg.1,by have:=hg.2;have:=hgb.size;omega⟩
theorem used_c {w:World} {L:PL} {g:Pg} (h:PgAt w L g) (ht:TabAt w) :
  Calls Tryz.prog 28 #[.pointer (some ⟨L.p,0,none⟩)] w (Ret λ v w'=>w'.ownsRow w.heap.size 3 1 v (mA g).length (cB (mA g))∧Grow w w'):=by
 refine V.calls (args:=[_]) Tryz.func28 rfl Tryz.ntmps28 rfl rfl ?_
 have hb:=h.blk
 have hu:=h.used
 have hcn:=h.cnt
 have hwl:=h.ok.wl
 unfold pgc at hb
 have hux:∀ w',Grow w w'→Sl (λ k=>k=L.u) w' 1 (some ⟨L.u,0,none⟩) g.words.length g.words.length (jY g.words):=λ w' gr=>bR (sz:=1) (m:=g.words.length) (hu.grow gr) (by rw [fR,Nat.mul_one]) (by unfold maxLen;omega)
 have hux0:=hux w (Grow.refl _)
 have hol:=onesW_le g.words
 repeat (first|(refine aL 85 ?_;refine aI rfl (valid_c h) rfl ?_;rintro _ _ ⟨rfl,rfl⟩)|(refine aL 86 ?_;refine aI rfl (total_c _ _ _ _ _ _ hux0 h.ok.w64 (by omega)) rfl ?_;rintro _ _ ⟨rfl,rfl⟩)|(refine aB ?_;refine TL.pure rfl rfl ?_)|(refine aD ?_;refine TL.pure rfl rfl ?_)|refine aK rfl yM rfl ?_|refine aF rfl rfl ?_|refine TL.nil ?_|refine aA ?_|refine aJ ?_|refine aC ?_|refine bL rfl rfl ?_|refine aE rfl ?_|refine aV ?_|refine TL.pure rfl rfl ?_)
 refine TL.make0 (c:=gJ g.words) rfl rfl (by omega) (by unfold maxLen;omega) rfl ?_
 intro b1 w1 hb1 hown1 hg1
 repeat (first|(refine aB ?_;refine TL.pure rfl rfl ?_)|(refine aD ?_;refine TL.pure rfl rfl ?_)|refine aK rfl yM rfl ?_|refine aF rfl rfl ?_|refine TL.nil ?_|refine aA ?_|refine aJ ?_|refine aC ?_|refine T.block ?_|refine bL rfl rfl ?_|refine aO rfl rfl ?_)
 refine cM (S:=Value×Nat×List Nat) (λ q=>[(20,.int .i64 (q.2.1:Int)),(19,.int .i64 (g.words.length:Int)),(18,.slice (some ⟨L.u,0,none⟩) g.words.length g.words.length),(3,q.1)])
  (λ q w2=>q.2.1≤g.words.length∧w2.ownsRow w.heap.size 3 1 q.1 q.2.2.length (cB q.2.2)∧Grow w w2∧q.2.2=(List.range (64*q.2.1)).filter (bitF g.words))
  (λ q=>g.words.length-q.2.1) (.slice (some ⟨b1,0,none⟩) 0 (gJ g.words),0,[]) ⟨rfl,rfl,rfl,rfl,trivial⟩ ⟨Nat.zero_le _,hown1,hg1,rfl⟩ ?_
 rintro ⟨v,i,l⟩ w2 ⟨hi,hown,hg2,hl⟩
 simp only at hi hown hl
 have hll:l.length≤64*i:=by
  rw [hl]
  refine Nat.le_trans (List.length_filter_le _ _) ?_
  rw [List.length_range]
  omega
 by_cases hlt:i<g.words.length
 ·have hx64:g.words.getD i 0<18446744073709551616:=by
   rw [List.getD_eq_getElem?_getD,List.getElem?_eq_getElem hlt];exact h.ok.w64 _ (List.getElem_mem _)
  have hu2:=hux w2 hg2
  have hcell:w2.cell? (at' (some ⟨L.u,0,none⟩) i)=some (.int .u64 ((g.words.getD i 0:Nat):Int)):=hu2.row.cell (ws64_at hlt)
  have hst:Sift g.words i (g.words.getD i 0) l:=Sift.start hx64 hl
  repeat (first|(refine bF ?_;refine aW (j:=i) rfl rfl rfl hlt (Nat.mul_one _) ⟨_,_,hu2⟩ rfl ?_)|(refine aB ?_;refine TL.pure rfl rfl ?_)|(refine aD ?_;refine TL.pure rfl rfl ?_)|refine aK rfl yM rfl ?_|refine TL.nil ?_|refine aA ?_|refine aJ ?_|refine aC ?_|refine T.block ?_|(refine aH ?_;refine bA rfl yD rfl ?_)|refine aN rfl ?_|refine aV ?_)
  refine cM (S:=Value×Nat×List Nat) (λ q=>[(20,.int .i64 (i:Int)),(19,.int .i64 (g.words.length:Int)),(18,.slice (some ⟨L.u,0,none⟩) g.words.length g.words.length),(5,.int .u64 (q.2.1:Int)),(4,.int .i64 (i:Int)),(3,q.1)])
   (λ q w3=>w3.ownsRow w.heap.size 3 1 q.1 q.2.2.length (cB q.2.2)∧Grow w w3∧Sift g.words i q.2.1 q.2.2) (λ q=>q.2.1) (v,g.words.getD i 0,l) ⟨rfl,rfl,rfl,rfl,rfl,rfl,trivial⟩ ⟨hown,hg2,hst⟩ ?_
  clear hst hown hg2 hu2 hcell hll hl
  rintro ⟨v3,y,l3⟩ w3 ⟨hown,hg3,hst⟩
  simp only at hown hst
  refine cT (e':=[(20,.int .i64 (i:Int)),(19,.int .i64 (g.words.length:Int)),(18,.slice (some ⟨L.u,0,none⟩) g.words.length g.words.length),(5,.int .u64 (y:Int)),(4,.int .i64 (i:Int)),(3,v3)]) ?_ ⟨rfl,rfl,rfl,rfl,rfl,rfl,trivial⟩
  have hy64:=hst.le
  have hl3:=hst.len
  by_cases hy0:y=0
  ·subst hy0
   have hdone:=hst.done
   repeat (first|(refine aB ?_;refine TL.pure rfl rfl ?_)|(refine bJ ?_;refine bT rfl rfl (by omega) rfl ?_)|refine TL.nil ?_|refine aA ?_|refine aJ ?_|refine aC ?_|refine aT ?_|(refine aH ?_;refine aR rfl yD rfl ?_)|refine aE rfl ?_|refine cN ?_|refine bM ?_|refine bO ?_|refine bN ?_)
   exact bG (v3,i+1,l3) ⟨rfl,rfl,rfl,rfl,trivial⟩ ⟨by simp only;omega,hown,hg3,hdone⟩ (by simp only;omega)
  ·obtain ⟨k,m,rfl⟩:=odd_split y hy0
   obtain ⟨hk64,hst2⟩:=hst.step
   have hne:(((2^k*(2*m+1):Nat):Int) != 0)=true:=by simp only [bne_iff_ne,ne_eq];omega
   have ht3:=ht.grow hg3
   have z3:=hg3.size
   obtain ⟨y,hy⟩:∃ q,q=2^k*(2*m+1):=⟨_,rfl⟩
   have htz:=tz_c k m (by omega) hk64 w3 ht3
   have hoff:=low_off k m
   rw [← hy] at htz hst hne hy0 hy64 hoff ⊢
   repeat (first|(refine aL 102 ?_;refine aI rfl (htz) rfl ?_;rintro _ _ ⟨rfl,rfl⟩)|(refine gU ?_;refine gZ (a:=64) rfl rfl (by omega) rfl ?_)|(refine aB ?_;refine TL.pure rfl rfl ?_)|(refine bJ ?_;refine bT rfl rfl (by omega) rfl ?_)|refine TL.nil ?_|refine aA ?_|refine aJ ?_|refine aC ?_|refine T.block ?_|(refine aH ?_;refine bA rfl yD rfl ?_)|refine aN rfl ?_|refine aV ?_)
   refine TL.buildSlice rfl rfl rfl rfl rfl ?_
   intro b8 w8 hg8 hb8 hs8 hs8' hs8''
   have hsl8:Sl (λ k=>k=b8) w8 1 (some ⟨b8,0,none⟩) 1 1 [.int .i64 ((64*i+k:Nat):Int)]:=bR (sz:=1) (m:=1) (show Blk w8 b8 3 [.int .i64 ((64*i+k:Nat):Int)] from hb8) rfl (by decide)
   refine TL.append rfl rfl (cO hown hg8) hsl8 (λ u hu=>by rw [List.mem_singleton] at hu;subst hu;rfl) (by unfold maxLen;omega) (by omega) (by omega) rfl ?_
   intro v9 w9 hown9 hgb9 _
   have hg9:Grow w w9:=grow_own (hg3.trans hg8) (cO hown hg8) hgb9
   have hown10:w9.ownsRow w.heap.size 3 1 v9 (l3++[64*i+k]).length (cB (l3++[64*i+k])):=by
    rw [List.length_append,cB,List.map_append]
    exact hown9
   have hlt2:2^k*(2*m)<y:=by rw [hy];exact Nat.mul_lt_mul_of_pos_left (by omega) (Nat.two_pow_pos k)
   repeat (first|(refine TL.isAndW ?_;refine TL.andN6 (a:=y) (b:=y-1) rfl rfl (by omega) (by omega) rfl ?_;rw [hoff])|(refine aB ?_;refine TL.pure rfl rfl ?_)|(refine aD ?_;refine TL.pure rfl rfl ?_)|(refine cJ ?_;refine TL.subU rfl rfl rfl (by omega) (by omega) rfl ?_)|refine TL.nil ?_|refine aA ?_|refine aC ?_|refine aT ?_)
   exact bG (v9,2^k*(2*m),l3++[64*i+k]) ⟨rfl,rfl,rfl,rfl,rfl,rfl,trivial⟩ ⟨hown10,hg9,hst2⟩ hlt2
 ·have hi2:i=g.words.length:=by omega
  subst hi2
  rw [← usedL_words h.ok] at hl
  subst hl
  repeat (first|(refine aB ?_;refine TL.pure rfl rfl ?_)|(refine aD ?_;refine TL.pure rfl rfl ?_)|refine TL.nil ?_|refine aA ?_|refine aJ ?_|refine aC ?_|(refine aH ?_;refine aR rfl yD rfl ?_)|refine aE rfl ?_|refine bC ?_|refine cN ?_|refine bM ?_|refine bO ?_|refine bN ?_)
  exact cF rfl ⟨_,rfl,hown,hg2⟩
theorem ints_c {F:Nat→Prop} {w:World} {a1 a2:Option Addr} {n1 c1 n2 c2:Nat} {l r:List Nat} (h1:Sl F w 1 a1 n1 c1 (cB l)) (h2:Sl F w 1 a2 n2 c2 (cB r)) (hlr:l=r) :
  Calls Tryz.prog 30 #[.slice a1 n1 c1,.slice a2 n2 c2] w (Ret λ v w'=>v=.bool true∧Grow w w'):=by
 have e1:=dX h1
 have e2:=dX h2
 have l1:=h1.le
 subst hlr
 subst e1
 subst e2
 refine V.calls (args:=[_,_]) Tryz.func30 rfl Tryz.ntmps30 rfl rfl ?_
 have hq:(((l.length:Nat):Int) != ((l.length:Nat):Int))=false:=by simp
 repeat (first|(refine aB ?_;refine TL.pure rfl rfl ?_)|(refine aD ?_;refine TL.pure rfl rfl ?_)|refine TL.nil ?_|refine aA ?_|refine aJ ?_|refine aC ?_|refine T.block ?_|(refine aH ?_;refine aR rfl yD rfl ?_)|refine aO rfl rfl ?_|refine aE rfl ?_|refine aV ?_)
 refine cM (S:=Nat) (λ i=>[(5,.int .i64 (i:Int)),(1,.slice a2 l.length c2),(0,.slice a1 l.length c1)]) (λ i w2=>i≤l.length∧Grow w w2) (λ i=>l.length-i) 0 ⟨rfl,rfl,rfl,trivial⟩ ⟨Nat.zero_le _,Grow.refl _⟩ ?_
 rintro i w2 ⟨hi,hg⟩
 by_cases hlt:i<l.length
 ·obtain ⟨x,hx⟩:∃ q,l[i]? = some q:=⟨_,List.getElem?_eq_getElem hlt⟩
  have g1:=h1.grow hg
  have g2:=h2.grow hg
  have f1:(cB l)[i]? = some (.int .i64 (x:Int)):=by simp [cB,hx]
  have hc1:∀ w3,Grow w2 w3→w3.cell? (at' a1 i)=some (.int .i64 (x:Int)):=λ w3 g3=>(g1.grow g3).row.cell f1
  have hc2:∀ w3,Grow w2 w3→w3.cell? (at' a2 i)=some (.int .i64 (x:Int)):=λ w3 g3=>(g2.grow g3).row.cell f1
  have hqx:((x:Int) != (x:Int))=false:=by simp
  repeat (first|(refine aB ?_;refine TL.pure rfl rfl ?_)|refine TL.nil ?_|refine aA ?_|refine aJ ?_|refine aC ?_|refine T.block ?_|(refine aH ?_;refine bA rfl yD rfl ?_)|refine aO rfl rfl ?_|refine aN rfl ?_|refine aV ?_)
  apply T.any 9 [is (.slice a1 l.length c1),is (.int .i64 (i:Int)),is (.pointer (some (at' a1 i))),is (.int .i64 (x:Int)),is (.slice a2 l.length c2),is (.int .i64 (i:Int)),is (.pointer (some (at' a2 i))),is (.int .i64 (x:Int)),is (.bool false)]
  ·rfl
  ·repeat' (first|exact bX|refine bU ?_ ?_)
   iterate 2
    ·(refine aQ rfl rfl rfl ?_);( intro wq _ _ hgq;(repeat (refine aG rfl rfl ?_;intro vq hvq;try (obtain rfl:=hvq)));(refine aM ?_))
     repeat (first|(refine aB ?_;refine TL.pure rfl rfl ?_)|refine TL.nil ?_)
     exact aS rfl yG rfl
   ·(refine aQ rfl rfl rfl ?_);( intro wq _ _ hgq;(repeat (refine aG rfl rfl ?_;intro vq hvq;try (obtain rfl:=hvq)));(refine aM ?_))
    refine aW (j:=i) rfl rfl rfl hlt (Nat.mul_one _) ⟨_,_,g1.grow hgq⟩ rfl ?_
    repeat (refine TL.nil ?_)
    exact aS rfl yG rfl
   ·(refine aQ rfl rfl rfl ?_);( intro wq _ _ hgq;(repeat (refine aG rfl rfl ?_;intro vq hvq;try (obtain rfl:=hvq)));(refine aM ?_))
    refine aK rfl (hc1 _ hgq) rfl ?_
    repeat (refine TL.nil ?_)
    exact aS rfl yG rfl
   iterate 2
    ·(refine aQ rfl rfl rfl ?_);( intro wq _ _ hgq;(repeat (refine aG rfl rfl ?_;intro vq hvq;try (obtain rfl:=hvq)));(refine aM ?_))
     repeat (first|(refine aB ?_;refine TL.pure rfl rfl ?_)|refine TL.nil ?_)
     exact aS rfl yG rfl
   ·(refine aQ rfl rfl rfl ?_);( intro wq _ _ hgq;(repeat (refine aG rfl rfl ?_;intro vq hvq;try (obtain rfl:=hvq)));(refine aM ?_))
    refine aW (j:=i) rfl rfl rfl hlt (Nat.mul_one _) ⟨_,_,g2.grow hgq⟩ rfl ?_
    repeat (refine TL.nil ?_)
    exact aS rfl yG rfl
   ·(refine aQ rfl rfl rfl ?_);( intro wq _ _ hgq;(repeat (refine aG rfl rfl ?_;intro vq hvq;try (obtain rfl:=hvq)));(refine aM ?_))
    refine aK rfl (hc2 _ hgq) rfl ?_
    repeat (refine TL.nil ?_)
    exact aS rfl yG rfl
   ·(refine aQ rfl rfl rfl ?_);( intro wq _ _ hgq;(repeat (refine aG rfl rfl ?_;intro vq hvq;try (obtain rfl:=hvq)));(refine aM ?_))
    repeat (first|refine TL.nil ?_|(refine aH ?_;refine aR rfl yD rfl ?_))
    exact aS rfl yG rfl
  ·intro w6 lo6 hi6 hg6 _ _
   ((repeat (refine aG rfl rfl ?_;intro vq hvq;try (obtain rfl:=hvq)));(refine aM ?_))
   repeat (first|(refine aB ?_;refine TL.pure rfl rfl ?_)|(refine aD ?_;refine TL.pure rfl rfl ?_)|(refine bJ ?_;refine bT rfl rfl (by omega) rfl ?_)|refine TL.nil ?_|refine aA ?_|refine aC ?_|refine aT ?_|refine aE rfl ?_|refine aV ?_)
   exact bG (i+1) ⟨rfl,rfl,rfl,trivial⟩ ⟨by omega,hg.trans hg6⟩ (by omega)
 ·obtain rfl:i=l.length:=by omega
  repeat (first|(refine aB ?_;refine TL.pure rfl rfl ?_)|(refine aD ?_;refine TL.pure rfl rfl ?_)|refine TL.nil ?_|refine aA ?_|refine aJ ?_|refine aC ?_|(refine aH ?_;refine aR rfl yD rfl ?_)|refine aO rfl rfl ?_|refine aE rfl ?_|refine bC ?_|refine cN ?_|refine bM ?_|refine bO ?_|refine bN ?_)
  exact cF rfl ⟨_,rfl,rfl,hg⟩
end Go.Proofs.YtfpadnmdafiddaaGreatDoor
namespace Go.Proofs.YtfpadnmdafiddaaGreatDoor
open Go Go.RowKit Go.V
theorem zeros_ws (n:Nat):(madeCells (Value.int IntKind.u64 0).cells (n*1)).toList=jY (List.replicate n 0):=by
 have h0:∀ x:Nat,(Value.int IntKind.u64 0).cells[x%(Value.int IntKind.u64 0).cells.size]! = .int .u64 0:=λ x=>by
  rw [show (Value.int IntKind.u64 0).cells = #[.int .u64 0] from rfl]
  simp [Nat.mod_one]
 simp only [jY,madeCells,Nat.mul_one,Array.toList_map,Array.toList_range,h0,List.map_replicate]
 rw [List.map_const',List.length_range]
 rfl
theorem keep_n {F:Nat→Prop} {w:World} {L:PL} {g:Pg} (h:PgAt w L g) {a:Option Addr} {n c:Nat} {qs:List Nat} (hs:Sl F w 1 a n c (cB qs)) (hF:∀ k,F k→k<w.heap.size) (hq:∀ q∈qs,cV g q=true) (hn:n≤1000000) :
  Calls Tryz.prog 23 #[.pointer (some ⟨L.p,0,none⟩),.slice a n c] w (Ret λ v w'=>∃ L':PL,L'.p=L.p∧L'.d=L.d∧L'.m=L.m∧L'.s=L.s∧w.heap.size≤L'.u∧v=.tuple #[.int .i64 ((gJ g.words:Int)-(gJ (kE g qs):Int)),.int .i64 0]∧PgAt w' L' (jQ g qs)∧ButS (λ k=>k=L.p) w w'):=by
 have hql:=dX hs
 subst hql
 have hnl:=hs.le
 refine V.calls (args:=[_,_]) Tryz.func23 rfl Tryz.ntmps23 rfl rfl ?_
 have hb:=h.blk
 have hu:=h.used
 have hcn:=h.cnt
 have hwl:=h.ok.wl
 unfold pgc at hb
 have hlts:=h.lts
 repeat (first|(refine aL 85 ?_;refine aI rfl (valid_c h) rfl ?_;rintro _ _ ⟨rfl,rfl⟩)|(refine aB ?_;refine TL.pure rfl rfl ?_)|(refine aD ?_;refine TL.pure rfl rfl ?_)|refine aK rfl yM rfl ?_|refine aF rfl rfl ?_|refine TL.nil ?_|refine aA ?_|refine aJ ?_|refine aC ?_|refine bL rfl rfl ?_|refine aO rfl rfl ?_|refine aE rfl ?_|refine aV ?_|refine TL.pure rfl rfl ?_)
 refine TL.makeAll (c:=g.words.length) (z:=.int .u64 0) rfl rfl (by omega) (by unfold maxLen;omega) rfl ?_
 intro b1 w1 hb1 hown hg1
 have hbu:=blk_of_own hown
 rw [zeros_ws] at hbu
 have z1:=hg1.size
 repeat (first|(refine aB ?_;refine TL.pure rfl rfl ?_)|(refine aD ?_;refine TL.pure rfl rfl ?_)|refine TL.nil ?_|refine aA ?_|refine aJ ?_|refine aC ?_|refine T.block ?_|(refine bW ?_;(refine dJ rfl rfl ?_;intro bk w' hg hbk hsz hsz'))|refine TL.build rfl rfl rfl ?_|refine aO rfl rfl ?_)
 have hG0:Grow w w':=hg1.trans hg
 have hbu0:Blk w' b1 168 (jY (List.replicate g.words.length 0)):=hbu.grow hg
 have hk0:Blk w' bk 150 [.pointer none,.pointer none,.int .i64 0,.slice (some ⟨b1,0,none⟩) g.words.length g.words.length]:=hbk
 have z0:=hG0.size
 have hg1z:b1<w1.heap.size:=hbu.lt
 have hne1:b1≠bk:=by omega
 clear hbk hown hbu hg
 obtain ⟨w0,rfl⟩:∃ z,z=w':=⟨w',rfl⟩
 have hdv:=keep_div h.ok hq
 rw [List.length_replicate] at hdv
 refine cM (S:=Nat) (λ i=>[(23,.int .i64 (i:Int)),(22,.int .i64 (qs.length:Int)),(21,.slice a qs.length c),(6,.pointer (some ⟨bk,0,none⟩)),(0,.pointer (some ⟨L.p,0,none⟩))])
  (λ i w2=>i≤qs.length∧Blk w2 b1 168 (jY ((qs.take i).foldl gY (List.replicate g.words.length 0)))∧But b1 w0 w2) (λ i=>qs.length-i) 0 ⟨rfl,rfl,rfl,rfl,rfl,trivial⟩ ⟨Nat.zero_le _,hbu0,But.refl _ _⟩ ?_
 rintro i w2 ⟨hi,hm2,hbt⟩
 have z2:=hbt.size
 have hp2:PgAt w2 L g:=(h.grow hG0).keep (λ k hk=>hbt.block k (by omega) (by omega))
 have hk2:Blk w2 bk 150 [.pointer none,.pointer none,.int .i64 0,.slice (some ⟨b1,0,none⟩) g.words.length g.words.length]:=eE hbt hk0 (Ne.symm hne1)
 have hs2:Sl F w2 1 a qs.length c (cB qs):=hs.go ((Carry.grow hG0).trans (Carry.but hbt (λ k hk _=>by have:=hF k hk;omega)))
 by_cases hlt:i<qs.length
 ·obtain ⟨x,hx⟩:∃ q,qs[i]? = some q:=⟨_,List.getElem?_eq_getElem hlt⟩
  have hxm:=List.mem_of_getElem? hx
  have hxu:=hq x hxm
  have hxl:=eF hxu
  have hcell:w2.cell? (at' a i)=some (.int .i64 (x:Int)):=hs2.row.cell (by simp [cB,hx])
  have hhas:=has_c hp2 x (by omega)
  rw [hxu] at hhas
  have htk:qs.take (i+1)=qs.take i++[x]:=by rw [List.take_add_one,hx];rfl
  have hml:((qs.take i).foldl gY (List.replicate g.words.length 0)).length=g.words.length:=by rw [kU,List.length_replicate]
  have h64:∀ y∈(qs.take i).foldl gY (List.replicate g.words.length 0),y<18446744073709551616:=marks_64 (λ y hy=>by rw [(List.mem_replicate.1 hy).2];decide) (λ y hy=>by rw [List.length_replicate];exact hdv y (List.mem_of_mem_take hy))
  repeat (first|(refine bF ?_;refine aW (j:=i) rfl rfl rfl hlt (Nat.mul_one _) ⟨_,_,hs2⟩ rfl ?_)|(refine aL 91 ?_;refine aI rfl (hhas) rfl ?_;rintro _ _ ⟨rfl,rfl⟩)|(refine aB ?_;refine TL.pure rfl rfl ?_)|(refine aD ?_;refine TL.pure rfl rfl ?_)|refine aK rfl yM rfl ?_|refine TL.nil ?_|refine aA ?_|refine aJ ?_|refine aC ?_|refine T.block ?_|(refine aH ?_;refine bA rfl yD rfl ?_)|refine aN rfl ?_|refine aE rfl ?_|refine aV ?_|refine TL.pure rfl rfl ?_)
  refine aL 92 ?_
  refine aI rfl (mark_c hk2 hm2 hml h64 x (hdv x hxm) (by omega)) rfl ?_
  rintro _ w3 ⟨hm3,hb3⟩
  repeat (first|(refine aB ?_;refine TL.pure rfl rfl ?_)|(refine bJ ?_;refine bT rfl rfl (by omega) rfl ?_)|refine TL.nil ?_|refine aA ?_|refine aC ?_|refine aT ?_)
  exact bG (i+1) ⟨rfl,rfl,rfl,rfl,rfl,trivial⟩ ⟨by omega,by rw [htk,List.foldl_append];exact hm3,⟨hb3.os.trans hbt.os,hb3.tape.trans hbt.tape,hb3.output.trans hbt.output,Nat.le_trans hbt.size hb3.size,λ k hk hkb=>(hb3.block k (by omega) hkb).trans (hbt.block k hk hkb)⟩⟩ (by omega)
 ·obtain rfl:i=qs.length:=by omega
  rw [List.take_length] at hm2
  have hkw:qs.foldl gY (List.replicate g.words.length 0)=kE g qs:=rfl
  rw [hkw] at hm2
  have hlk:(kE g qs).length=g.words.length:=by unfold kE;rw [kU,List.length_replicate]
  have hko:=keep_ok h.ok hq
  have hk64:∀ y∈kE g qs,y<18446744073709551616:=hko.w64
  have hux:∀ w',Grow w2 w'→Sl (λ k=>k=L.u) w' 1 (some ⟨L.u,0,none⟩) g.words.length g.words.length (jY g.words):=λ w' gr=>bR (sz:=1) (m:=g.words.length) (hp2.used.grow gr) (by rw [fR,Nat.mul_one]) (by unfold maxLen;omega)
  have hkx:∀ w',Grow w2 w'→Sl (λ k=>k=b1) w' 1 (some ⟨b1,0,none⟩) g.words.length g.words.length (jY (kE g qs)):=λ w' gr=>bR (sz:=1) (m:=g.words.length) (hm2.grow gr) (by rw [fR,Nat.mul_one,hlk]) (by unfold maxLen;omega)
  have hb2:=hp2.blk
  unfold pgc at hb2
  have o1:=onesW_le g.words
  have o2:=onesW_le (kE g qs)
  rw [hlk] at o2
  repeat (first|refine TL.nil ?_|refine aA ?_|refine aJ ?_|refine aC ?_|(refine aH ?_;refine aR rfl yD rfl ?_)|refine aE rfl ?_|refine cN ?_|refine bM ?_|refine bO ?_|refine bN ?_)
  apply T.any 11 [is (.pointer (some ⟨L.p,0,none⟩)),is (.pointer (some ⟨L.p,0,none⟩)),is (.pointer (some ⟨L.p,3,none⟩)),is (.slice (some ⟨L.u,0,none⟩) g.words.length g.words.length),is (.int .i64 (gJ g.words:Int)),is (.pointer (some ⟨bk,0,none⟩)),is (.pointer (some ⟨bk,0,none⟩)),is (.pointer (some ⟨bk,3,none⟩)),is (.slice (some ⟨b1,0,none⟩) g.words.length g.words.length),is (.int .i64 (gJ (kE g qs):Int)),is (.int .i64 ((gJ g.words:Int)-(gJ (kE g qs):Int)))]
  ·rfl
  ·repeat' (first|exact bX|refine bU ?_ ?_)
   iterate 4
    ·(refine aQ rfl rfl rfl ?_);( intro wq _ _ hgq;(repeat (refine aG rfl rfl ?_;intro vq hvq;try (obtain rfl:=hvq)));(refine aM ?_))
     repeat (first|(refine aB ?_;refine TL.pure rfl rfl ?_)|refine aK rfl yM rfl ?_|refine aF rfl rfl ?_|refine TL.nil ?_|refine bL rfl rfl ?_)
     exact aS rfl yG rfl
   ·(refine aQ rfl rfl rfl ?_);( intro wq _ _ hgq;(repeat (refine aG rfl rfl ?_;intro vq hvq;try (obtain rfl:=hvq)));(refine aM ?_))
    repeat (first|(refine aL 86 ?_;refine aI rfl (total_c _ _ _ _ _ _ (hux _ hgq) h.ok.w64 (by omega)) rfl ?_;rintro _ _ ⟨rfl,rfl⟩)|refine TL.nil ?_)
    exact aS rfl yG rfl
   iterate 4
    ·(refine aQ rfl rfl rfl ?_);( intro wq _ _ hgq;(repeat (refine aG rfl rfl ?_;intro vq hvq;try (obtain rfl:=hvq)));(refine aM ?_))
     repeat (first|(refine aB ?_;refine TL.pure rfl rfl ?_)|refine aK rfl yM rfl ?_|refine aF rfl rfl ?_|refine TL.nil ?_|refine bL rfl rfl ?_)
     exact aS rfl yG rfl
   ·(refine aQ rfl rfl rfl ?_);( intro wq _ _ hgq;(repeat (refine aG rfl rfl ?_;intro vq hvq;try (obtain rfl:=hvq)));(refine aM ?_))
    repeat (first|(refine aL 86 ?_;refine aI rfl (total_c _ _ _ _ _ _ (hkx _ hgq) hk64 (by omega)) rfl ?_;rintro _ _ ⟨rfl,rfl⟩)|refine TL.nil ?_)
    exact aS rfl yG rfl
   ·(refine aQ rfl rfl rfl ?_);( intro wq _ _ hgq;(repeat (refine aG rfl rfl ?_;intro vq hvq;try (obtain rfl:=hvq)));(refine aM ?_))
    refine iT rfl rfl (by omega) (by omega) rfl ?_
    repeat (refine TL.nil ?_)
    exact aS rfl yG rfl
  ·intro w6 lo6 hi6 hg6 _ _
   ((repeat (refine aG rfl rfl ?_;intro vq hvq;try (obtain rfl:=hvq)));(refine aM ?_))
   repeat (first|(refine aB ?_;refine TL.pure rfl rfl ?_)|(refine aD ?_;refine TL.pure rfl rfl ?_)|refine aK rfl yM rfl ?_|refine aF rfl rfl ?_|refine TL.nil ?_|refine aA ?_|refine aJ ?_|refine aC ?_|(refine aP ?_;(refine bP rfl rfl yB (by exact rfl) (by exact rfl) (by exact rfl) ?_;intro w' hu hbk hsz))|refine bL rfl rfl ?_|refine bC ?_)
   have z6:=hg6.size
   have hn:=h.ne
   obtain ⟨f,f1,f2⟩:=hp2.f
   have q1:=hu.block L.d (by omega)
   have q2:=hu.block L.m (by omega)
   refine jS rfl rfl ⟨_,rfl,⟨L.p,L.d,b1,L.m,L.s⟩,rfl,rfl,rfl,rfl,by simp only;omega,rfl,⟨?_,(hm2.grow hg6).upd hu (by simp only;omega),hko,h.cnt,⟨f,DkAt.keep (DkAt.grow hg6 f1) q1 q2,λ m hm=>?_⟩,h.lt,λ m hm=>h.bl m (hq m ?_),by simp only;omega⟩,?_⟩
   ·show Blk w' L.p 150 (pgc L.p L.d b1 g.count (kE g qs).length)
    rw [hlk]
    exact hbk
   ·rw [keep_used h.ok hq,decide_eq_true_eq] at hm
    exact f2 m (hq m hm)
   ·rw [keep_used h.ok hq,decide_eq_true_eq] at hm
    exact hm
   ·refine ⟨hu.os.trans (hg6.1.os.trans (hbt.os.trans hG0.1.os)),hu.tape.trans (hg6.1.tape.trans (hbt.tape.trans hG0.1.tape)),hu.output.trans (hg6.1.output.trans (hbt.output.trans hG0.1.output)),by omega,λ k hk hne=>?_⟩
    exact (hu.block k hne).trans ((hg6.block k (by omega)).trans ((hbt.block k (by omega) (by omega)).trans (hG0.block k hk)))
end Go.Proofs.YtfpadnmdafiddaaGreatDoor
namespace Go.Proofs.YtfpadnmdafiddaaGreatDoor
open Go Go.RowKit Go.V
theorem tready_bad {w:World} {L:PL} {g:Pg} (h:PgAt w L g) (r:Int) (hr : -1≤r) (hr2:r≤9223372036854775807) (F F':Nat→Prop) (a a':Option Addr) (n c n' c':Nat) (k v:Bs) (hk:Sl F w 1 a n c (cX k)) (hv:Sl F' w 1 a' n' c' (cX v)) (hbad:(dR k&&gH v)=false) :
  Calls Tryz.prog 77 #[.pointer (some ⟨L.p,0,none⟩),.int .i64 r,.slice a n c,.slice a' n' c'] w (Ret λ u w'=>u=.int .i64 2∧Grow w w'):=by
 refine V.calls (args:=[_,_,_,_]) Tryz.func77 rfl Tryz.ntmps77 rfl rfl ?_
 cases hko:dR k with
 | false =>
  repeat (first|(refine aL 93 ?_;refine aI rfl (ready_c h r hr hr2) rfl ?_;rintro _ _ ⟨rfl,rfl⟩)|(refine aL 94 ?_;refine aI rfl (key_t hk hko) rfl ?_;rintro _ _ ⟨rfl,rfl⟩)|refine bQ rfl rfl rfl ?_|(refine aB ?_;refine TL.pure rfl rfl ?_)|(refine aD ?_;refine TL.pure rfl rfl ?_)|refine TL.nil ?_|refine aA ?_|refine aJ ?_|refine aC ?_|(refine aH ?_;refine aR rfl yD rfl ?_)|refine aN rfl ?_|refine aE rfl ?_|refine bC ?_|refine aV ?_|refine bI ?_|refine TL.pure rfl rfl ?_)
  exact cF rfl ⟨_,rfl,rfl,yG⟩
 | true =>
  have hvo:gH v=false:=by rw [hko] at hbad;simpa using hbad
  repeat (first|(refine aL 93 ?_;refine aI rfl (ready_c h r hr hr2) rfl ?_;rintro _ _ ⟨rfl,rfl⟩)|(refine aL 94 ?_;refine aI rfl (key_t hk hko) rfl ?_;rintro _ _ ⟨rfl,rfl⟩)|(refine aL 148 ?_;refine aI rfl (value_t hv hvo) rfl ?_;rintro _ _ ⟨rfl,rfl⟩)|refine aX rfl rfl rfl ?_|(refine aB ?_;refine TL.pure rfl rfl ?_)|(refine aD ?_;refine TL.pure rfl rfl ?_)|refine TL.nil ?_|refine aA ?_|refine aJ ?_|refine aC ?_|(refine aH ?_;refine aR rfl yD rfl ?_)|refine aN rfl ?_|refine aE rfl ?_|refine bC ?_|refine aV ?_|refine bI ?_|refine TL.pure rfl rfl ?_)
  exact cF rfl ⟨_,rfl,rfl,yG⟩
theorem rootI_in {g:Pg} (hc:g.count≤8192) {root:Option Nat} (hr:∀ n,root=some n→cV g n=true) : -1≤dD root∧dD root≤9223372036854775807:=by
 cases root with
 | none=>show (-1:Int)≤-1∧(-1:Int)≤_;omega
 | some n =>
  have:=eF (hr n rfl)
  show (-1:Int)≤(n:Int)∧(n:Int)≤_
  omega
theorem put_bad {w:World} {L:PL} {g:Pg} (h:PgAt w L g) (root:Option Nat) (hr:∀ n,root=some n→cV g n=true) {F F':Nat→Prop} (a a':Option Addr) (m c m' c':Nat) (key v:Bs) (hk:Sl F w 1 a m c (cX key)) (hv:Sl F' w 1 a' m' c' (cX v)) (hbad:(dR key&&gH v)=false) :
  Calls Tryz.prog 25 #[.pointer (some ⟨L.p,0,none⟩),.int .i64 (dD root),.slice a m c,.slice a' m' c'] w (Ret λ u w'=>u=.tuple #[.int .i64 0,.int .i64 2]∧Grow w w'):=by
 have hrr:=rootI_in h.cnt hr
 refine V.calls (args:=[_,_,_,_]) Tryz.func25 rfl Tryz.ntmps25 rfl rfl ?_
 repeat (first|(refine aB ?_;refine TL.pure rfl rfl ?_)|refine aK rfl yM rfl ?_|refine TL.nil ?_|refine aA ?_|refine aJ ?_|refine aC ?_|(refine bW ?_;(refine TL.box rfl rfl rfl ?_;intro bk w' hg hbk hsz hsz'))|(refine bD ?_;(refine TL.alloc rfl rfl ?_;intro bk w' hg hbk hsz hsz')))
 rename_i b4 w1 g1 k1 p1 p1' b8 w2 g2 k2 p2 p2'
 obtain ⟨b9,rfl⟩:∃ y,y=bk:=⟨bk,rfl⟩
 refine aL 77 ?_
 have hg3:Grow w w':=g1.trans (g2.trans hg)
 refine aI rfl (tready_bad (h.grow hg3) _ hrr.1 hrr.2 _ _ a a' m c m' c' key v (hk.grow hg3) (hv.grow hg3) hbad) rfl ?_
 rintro _ w4 ⟨rfl,hg4⟩
 have k4:=(k1.grow (g2.trans hg)).grow hg4
 have k8:=(k2.grow hg).grow hg4
 have k9:=hbk.grow hg4
 have hgw:=hg3.trans hg4
 have q:b4=w.heap.size∧b8=b4+1∧b9=b8+1∧b9<w4.heap.size:=by have:=k9.lt;omega
 clear hbk hg hg3 hg4 k1 k2 g1 g2 hsz hsz' p1 p1' p2 p2'
 repeat (first|(refine aB ?_;refine TL.pure rfl rfl ?_)|(refine aD ?_;refine TL.pure rfl rfl ?_)|refine TL.nil ?_|refine aA ?_|refine aJ ?_|refine aC ?_|(refine aH ?_;refine bA rfl yD rfl ?_)|(refine aP ?_;(refine bP rfl rfl yB (by exact rfl) (by exact rfl) (by exact rfl) ?_;intro w' hu hbk hsz))|refine aN rfl ?_|refine bC ?_|refine bI ?_)
 rename_i w5 hu5 hb5 z5
 exact retCC rfl (dP (hb5.upd hu (by omega))) rfl (dP hbk) ⟨_,rfl,rfl,aZ hu (by omega) (aZ hu5 (by omega) hgw)⟩
theorem delete_bad {w:World} {L:PL} {g:Pg} (h:PgAt w L g) (root:Option Nat) (hr:∀ n,root=some n→cV g n=true) {F:Nat→Prop} (a:Option Addr) (m c:Nat) (key:Bs) (hk:Sl F w 1 a m c (cX key)) (hbad:dR key=false) :
  Calls Tryz.prog 19 #[.pointer (some ⟨L.p,0,none⟩),.int .i64 (dD root),.slice a m c] w (Ret λ u w'=>u=.tuple #[.int .i64 0,.int .i64 2]∧Grow w w'):=by
 have hrr:=rootI_in h.cnt hr
 refine V.calls (args:=[_,_,_]) Tryz.func19 rfl Tryz.ntmps19 rfl rfl ?_
 repeat (first|(refine aB ?_;refine TL.pure rfl rfl ?_)|refine aK rfl yM rfl ?_|refine TL.nil ?_|refine aA ?_|refine aJ ?_|refine aC ?_|(refine bW ?_;(refine TL.box rfl rfl rfl ?_;intro bk w' hg hbk hsz hsz'))|(refine bD ?_;(refine TL.alloc rfl rfl ?_;intro bk w' hg hbk hsz hsz')))
 rename_i b3 w1 g1 k1 p1 p1' b6 w2 g2 k2 p2 p2'
 obtain ⟨b7,rfl⟩:∃ y,y=bk:=⟨bk,rfl⟩
 refine aL 77 ?_
 have hg3:Grow w w':=g1.trans (g2.trans hg)
 refine aI rfl (tready_bad (h.grow hg3) _ hrr.1 hrr.2 _ (λ _=>True) a none m c 0 0 key [] (hk.grow hg3) ⟨by simp [cX],Nat.le_refl _,Nat.zero_le _,λ _=>rfl,by simp [Row,cX]⟩ (by rw [hbad];rfl)) rfl ?_
 rintro _ w4 ⟨rfl,hg4⟩
 have k3:=(k1.grow (g2.trans hg)).grow hg4
 have k6:=(k2.grow hg).grow hg4
 have k7:=hbk.grow hg4
 have hgw:=hg3.trans hg4
 have q:b3=w.heap.size∧b6=b3+1∧b7=b6+1∧b7<w4.heap.size:=by have:=k7.lt;omega
 clear hbk hg hg3 hg4 k1 k2 g1 g2 hsz hsz' p1 p1' p2 p2'
 repeat (first|(refine aB ?_;refine TL.pure rfl rfl ?_)|(refine aD ?_;refine TL.pure rfl rfl ?_)|refine TL.nil ?_|refine aA ?_|refine aJ ?_|refine aC ?_|(refine aH ?_;refine bA rfl yD rfl ?_)|(refine aP ?_;(refine bP rfl rfl yB (by exact rfl) (by exact rfl) (by exact rfl) ?_;intro w' hu hbk hsz))|refine aN rfl ?_|refine bC ?_|refine bI ?_)
 rename_i w5 hu5 hb5 z5
 exact retCC rfl (dP (hb5.upd hu (by omega))) rfl (dP hbk) ⟨_,rfl,rfl,aZ hu (by omega) (aZ hu5 (by omega) hgw)⟩
theorem delete_none {w:World} {L:PL} {g:Pg} (h:PgAt w L g) (hsp:32≤cP g) {F:Nat→Prop} (a:Option Addr) (m c:Nat) (key:Bs) (hk:Sl F w 1 a m c (cX key)) (hko:dR key=true) :
  Calls Tryz.prog 19 #[.pointer (some ⟨L.p,0,none⟩),.int .i64 (dD none),.slice a m c] w (Ret λ u w'=>u=.tuple #[.int .i64 0,.int .i64 6]∧Grow w w'):=by
 refine V.calls (args:=[_,_,_]) Tryz.func19 rfl Tryz.ntmps19 rfl rfl ?_
 repeat (first|(refine aB ?_;refine TL.pure rfl rfl ?_)|refine aK rfl yM rfl ?_|refine TL.nil ?_|refine aA ?_|refine aJ ?_|refine aC ?_|(refine bW ?_;(refine TL.box rfl rfl rfl ?_;intro bk w' hg hbk hsz hsz'))|(refine bD ?_;(refine TL.alloc rfl rfl ?_;intro bk w' hg hbk hsz hsz')))
 rename_i b3 w1 g1 k1 p1 p1' b6 w2 g2 k2 p2 p2'
 obtain ⟨b7,rfl⟩:∃ y,y=bk:=⟨bk,rfl⟩
 refine aL 77 ?_
 have hg3:Grow w w':=g1.trans (g2.trans hg)
 refine aI rfl (tready_c (h.grow hg3) (dD none) (by decide) (by decide) _ (λ _=>True) a none m c 0 0 key [] (hk.grow hg3) ⟨by simp [cX],Nat.le_refl _,Nat.zero_le _,λ _=>rfl,by simp [Row,cX]⟩ hko rfl hsp) rfl ?_
 rintro _ w4 ⟨rfl,hg4⟩
 have k3:=(k1.grow (g2.trans hg)).grow hg4
 have k6:=(k2.grow hg).grow hg4
 have k7:=hbk.grow hg4
 have hgw:=hg3.trans hg4
 have q:b3=w.heap.size∧b6=b3+1∧b7=b6+1∧b7<w4.heap.size:=by have:=k7.lt;omega
 clear hbk hg hg3 hg4 k1 k2 g1 g2 hsz hsz' p1 p1' p2 p2'
 repeat (first|(refine aB ?_;refine TL.pure rfl rfl ?_)|(refine aD ?_;refine TL.pure rfl rfl ?_)|refine TL.nil ?_|refine aA ?_|refine aJ ?_|refine aC ?_|(refine aH ?_;first|refine aR rfl yD rfl ?_|refine TL.pure rfl rfl ?_)|(refine aP ?_;(refine bP rfl rfl yB (by exact rfl) (by exact rfl) (by exact rfl) ?_;intro w' hu hbk hsz))|refine aN rfl ?_|refine aE rfl ?_|refine bC ?_|refine aV ?_|refine bI ?_)
 rename_i w5 hu5 hb5 z5
 exact retCC rfl (dP (hb5.upd hu (by omega))) rfl (dP hbk) ⟨_,rfl,rfl,aZ hu (by omega) (aZ hu5 (by omega) hgw)⟩
theorem delete_miss {w:World} {L:PL} {g:Pg} (h:PgAt w L g) (hsp:32≤cP g) (n:Nat) {F:Nat→Prop} (a:Option Addr) (m c:Nat) (key:Bs) (hk:Sl F w 1 a m c (cX key)) (hko:dR key=true) (fr:List (Nd×Nat)) (hp:hZ g key 16 n=some (fr,false)) :
  Calls Tryz.prog 19 #[.pointer (some ⟨L.p,0,none⟩),.int .i64 (dD (some n)),.slice a m c] w (Ret λ u w'=>u=.tuple #[.int .i64 0,.int .i64 6]∧Grow w w'):=by
 have hnn:n<8192:=by
  obtain ⟨_,_,_,hn,_⟩:=hX hp
  have:=eF (eQ hn)
  have:=h.cnt
  omega
 refine V.calls (args:=[_,_,_]) Tryz.func19 rfl Tryz.ntmps19 rfl rfl ?_
 show T _ _ _ [(0,_),(1,.int .i64 (n:Int)),(2,_)] _ _
 repeat (first|(refine aB ?_;refine TL.pure rfl rfl ?_)|refine aK rfl yM rfl ?_|refine TL.nil ?_|refine aA ?_|refine aJ ?_|refine aC ?_|(refine bW ?_;(refine TL.box rfl rfl rfl ?_;intro bk w' hg hbk hsz hsz'))|(refine bD ?_;(refine TL.alloc rfl rfl ?_;intro bk w' hg hbk hsz hsz')))
 rename_i b3 w1 g1 k1 p1 p1' b6 w2 g2 k2 p2 p2'
 obtain ⟨b7,rfl⟩:∃ y,y=bk:=⟨bk,rfl⟩
 refine aL 77 ?_
 have hg3:Grow w w':=g1.trans (g2.trans hg)
 refine aI rfl (tready_c (h.grow hg3) (n:Int) (by omega) (by omega) _ (λ _=>True) a none m c 0 0 key [] (hk.grow hg3) ⟨by simp [cX],Nat.le_refl _,Nat.zero_le _,λ _=>rfl,by simp [Row,cX]⟩ hko rfl hsp) rfl ?_
 rintro _ w4 ⟨rfl,hg4⟩
 have k3:=(k1.grow (g2.trans hg)).grow hg4
 have k6:=(k2.grow hg).grow hg4
 have k7:=hbk.grow hg4
 have hgw:=hg3.trans hg4
 have q:b3=w.heap.size∧b6=b3+1∧b7=b6+1∧b7<w4.heap.size:=by have:=k7.lt;omega
 clear hbk hg hg3 hg4 k1 k2 g1 g2 hsz hsz' p1 p1' p2 p2'
 repeat (first|(refine aB ?_;refine TL.pure rfl rfl ?_)|(refine aD ?_;refine TL.pure rfl rfl ?_)|refine aK rfl yM rfl ?_|refine TL.nil ?_|refine aA ?_|refine aJ ?_|refine aC ?_|(refine aH ?_;refine aR rfl yD rfl ?_)|refine aE rfl ?_|refine aV ?_)
 refine aL 78 ?_
 refine aI rfl (path_c (h.grow hgw) _ a m c n key fr false (hk.grow hgw) hp) rfl ?_
 rintro _ w6 ⟨⟨fb,fd,fcs,rfl,hfs,hfc⟩,hg6⟩
 have hgw6:=hgw.trans hg6
 have z6:=hg6.size
 have zw:=hgw.size
 replace k3:=k3.grow hg6
 replace k6:=k6.grow hg6
 replace k7:=k7.grow hg6
 clear hgw hg6
 repeat (first|(refine aB ?_;refine TL.pure rfl rfl ?_)|(refine aD ?_;refine TL.pure rfl rfl ?_)|refine aK rfl yM rfl ?_|refine TL.nil ?_|refine aA ?_|refine aJ ?_|refine aC ?_|(refine aH ?_;refine aR rfl yD rfl ?_)|(refine aP ?_;(refine bP rfl rfl yB (by exact rfl) (by exact rfl) (by exact rfl) ?_;intro w' hu hbk hsz))|(refine bD ?_;(refine TL.alloc rfl rfl ?_;intro bk w' hg hbk hsz hsz'))|refine aN rfl ?_|refine aE rfl ?_|refine bC ?_|refine aV ?_|refine bI ?_|refine TL.pure rfl rfl ?_)
 rename_i w5 hu5 hb5 z5
 exact retCC rfl (dP (hb5.upd hu (by omega))) rfl (dP hbk) ⟨_,rfl,rfl,yG⟩
end Go.Proofs.YtfpadnmdafiddaaGreatDoor
namespace Go.Proofs
open Go Go.RowKit Go.V Go.Maps Go.Sort Go.Shelf Go.WideShapes
set_option maxRecDepth 20000
theorem sorted_g {P:Program} {ρ1 ρ2:Ren} (L10:SlLaysZI.n10 P ρ1) (L6:SlLaysZI.n6 P ρ2) (ht : ρ1.t 26 = ρ2.t 26) (hS:AnyZI.SortsIn P ρ2 Fence.wide 4) (e9:∀ args w,(callFunc (ρ2.f 9) args).run P w=.ok (.enter (ρ2.f 9) args) w) (eg:∀ args w,(callFunc (ρ1.f 10) args).run P w=.ok (.enter (ρ1.f 10) args) w) (w:World) (c mb:Nat) (L:List MapEntry) (clock:Nat) (ks ls:List Nat) (tc:TypeId) (fr:Nat×Nat)
  (hc:w.heap[c]? = some (.cells #[.map (some mb)] tc fr)) (hb:w.heap[mb]? = some (.map L.toArray clock)) (hk:L.map (·.key)=ks.map λ x=>Value.int .i64 (x:Nat)) (hlt:∀ x∈ks,x<9223372036854775808)
  (hborn:∀ m∈L,m.born<clock) (hbn:(L.map (·.born)).Pairwise (· < ·)) (hlen:ks.length≤1000000) (hp:ls.Perm ks) (hs:ls.Pairwise (· < ·)) :
  Calls P (ρ2.f 6) #[.func (.func (ρ1.f 10)) #[] #[.pointer (some ⟨c,0,none⟩)]] w (Ret λ y w'=>Grow w w'∧((ls=[]∧y=.slice none 0 0) ∨
   (ls≠[]∧∃ g cap cur,y=.slice (some ⟨g,0,none⟩) ls.length cap∧w.heap.size≤g∧w'.heap[g]? = some (.cells cur (ρ2.t 26) (0,0))∧ls.length≤cap∧cap≤maxLen∧cur.size=cap∧∀ (i:Nat) (v:Value),(ls.map λ x=>Value.int .i64 (x:Nat))[i]? = some v→cur[i]? = some v))):=by
 have hL:L.length=ks.length:=by have:=congrArg List.length hk;simpa using this
 have hnd:ks.Nodup:=(hp.nodup_iff).1 (hs.imp λ h=>Nat.ne_of_lt h)
 obtain ⟨R,hR⟩:∃ R:Value→Option (DataW Unit×List MemPlace),∀ v,R v=some (.lit (.bool true),[]):=⟨λ _=>some (.lit (.bool true),[]),λ _=>rfl⟩
 have hu:P.underlying (ρ2.t 26)=some (.int .i64):=L6.t26
 have hwf:∀ n:Nat,n<9223372036854775808→(Lit.int .i64 (n:Int)).wf=true:=λ n hn=>by
  have e1:IntKind.min .i64 = -9223372036854775808:=by decide
  have e2:IntKind.max .i64=9223372036854775807:=by decide
  simp only [Lit.wf,Bool.and_eq_true,decide_eq_true_eq,e1,e2];omega
 have hmem:∀ x∈L,∃ n∈ks,x.key=Value.int .i64 (n:Nat):=λ x hx=>by
  have h:=List.mem_map_of_mem (f:=λ x:MapEntry=>x.key) hx
  rw [hk] at h
  obtain ⟨n,hn,e⟩:=List.mem_map.1 h
  exact ⟨n,hn,e.symm⟩
 have hrd:∀ x∈L,∀ n:Nat,n∈ks→x.key=Value.int .i64 (n:Nat)→WideElems.rd P (ρ2.t 26) R x=some (.int .i64 (n:Int),.lit (.bool true)):=λ x _ n hn e=>by
  simp [WideElems.rd,e,Maps.keyOf_int_mk hu (hwf n (hlt n hn)),hR]
 have hown:w.ownsMap P (ρ2.t 26) R mb L.length (.map ((L.map (WideElems.rg P (ρ2.t 26) R)).foldr DataW.insert [])):=by
  refine ⟨L.toArray,clock,hb,⟨by simp only [List.size_toArray,maxLen];omega,⟨by simpa using hborn,?_,?_⟩,λ x hx=>?_⟩,by simp,by simp⟩
  ·exact (by simpa using hbn:(L.map (·.born)).Pairwise (· < ·)).imp λ h=>Nat.ne_of_lt h
  ·show (L.map (·.key)).Nodup
   rw [hk]
   exact List.pairwise_map.2 (hnd.imp λ h e=>h (by have:=(Value.int.inj e).2;omega))
  ·obtain ⟨n,hn,e⟩:=hmem x (by simpa using hx)
   exact ⟨_,hrd x (by simpa using hx) n hn e⟩
 obtain ⟨D0,hD0⟩:∃ D:DataW Unit,D=.map ((L.map (WideElems.rg P (ρ2.t 26) R)).foldr DataW.insert []):=⟨_,rfl⟩
 rw [← hD0] at hown
 have hik:(intKeys D0).Perm (ks.map λ n:Nat=>(n:Int)):=by
  rw [hD0]
  show (List.map (λ p:Lit×DataW Unit=>Go.intOf p.1) _).Perm _
  refine ((sorted_perm _).map _).trans ?_
  have:(L.map (WideElems.rg P (ρ2.t 26) R)).map (λ p:Lit×DataW Unit=>Go.intOf p.1)=(L.map (·.key)).map Go.RowKit.intOf:=by
   rw [List.map_map,List.map_map]
   refine List.map_congr_left λ x hx=>?_
   obtain ⟨n,hn,e⟩:=hmem x hx
   simp [Function.comp,WideElems.rg,hrd x hx n hn e,e,Go.intOf,Go.RowKit.intOf]
  rw [this,hk,List.map_map]
  exact List.Perm.refl _
 have hsz:Maps.size D0=ks.length:=by rw [hD0];show List.length _=_;rw [length_sorted,List.length_map,hL]
 have hclt:c<w.heap.size:=(Array.getElem?_eq_some_iff.1 hc).1
 have hseq:SeqGives Fence.wide 2 P (ρ1.f 10) #[.pointer (some ⟨c,0,none⟩)] encZ (λ ss=>ss.Perm (intKeys D0)) (Maps.size D0) w :=
  AnyZI.keys_gives L10 Fence.wide _ trivial rfl (by omega) c mb L.length D0 w hclt (by simp [World.cell?,hc]) (by rw [ht];exact hown)
 have cS:=AnyZI.sorted_in L6 Fence.wide 5 trivial trivial trivial trivial rfl (by omega) hS e9 (ρ1.f 10) #[.pointer (some ⟨c,0,none⟩)] trivial eg _ _ (by rw [hsz];simp only [maxLen];omega) (by rw [hsz];omega) w hseq
 refine Calls.mono (callsIn_wide.1 cS) λ en w' ⟨v,ss,e,hS,hrow,hnil,hbl⟩=>⟨v,e,Grow.mk hbl,?_⟩
 have hsm:ss.mergeSort (λ x y=>decide (x≤y))=ls.map λ n:Nat=>(n:Int):=by
  refine (mergeSort_of_perm_i (hS.trans (hik.trans (hp.symm.map _)))).trans (List.mergeSort_of_pairwise ?_)
  refine List.pairwise_map.2 (hs.imp λ h=>?_)
  simp only [leI,decide_eq_true_eq];omega
 have hl:ss.length=ls.length:=by have:=congrArg List.length hsm;simpa using this
 rw [hsm] at hrow
 rcases hrow.2 with ⟨rfl,h0⟩|⟨g,cap,cur,rfl,h1,h2,h3,h4,h5,h6⟩
 ·exact .inl ⟨List.eq_nil_of_length_eq_zero (by omega),rfl⟩
 ·refine .inr ⟨λ e0=>?_,g,cap,cur,by rw [hl],h1,h2,by omega,h4,by omega,λ i v hv=>?_⟩
  ·have:ss=[]:=List.eq_nil_of_length_eq_zero (by rw [hl,e0];rfl)
   have:=hnil.2 this
   cases this
  ·have h7:(cur.toList.take (ss.length*1))[i]? = some v:=by rw [h6,List.map_map];exact hv
   rw [List.getElem?_take] at h7
   split at h7
   ·simpa using h7
   ·cases h7
end Go.Proofs
namespace Go.Proofs
open Go Go.RowKit Go.V Go.Maps Go.Sort Go.Shelf Go.WideShapes
set_option maxRecDepth 20000
def keysL_ren:Go.Shelf.Ren:=⟨fun|10=>200|n=>n,fun|33=>159|23=>224|0=>0|4=>4|26=>3|3=>228|n=>n,fun|n=>n⟩
theorem keysL:SlLaysZI.n10 Tryz.prog keysL_ren where
 mixed:=by kernel_rfl
 f10:=⟨"maps.Keys[map[int]headwater/treewalk.part,int,headwater/treewalk.part]$1",by decide,Tryz.func200.trans (congrArg some (by kernel_rfl))⟩
 t0:=Tryz.underlying0
 a0:=Tryz.isAgg0
 z0:=Tryz.sizeOf0
 v0:=Tryz.zeroValue0
 t4:=Tryz.underlying4
 a4:=Tryz.isAgg4
 z4:=Tryz.sizeOf4
 v4:=Tryz.zeroValue4
 t23:=Tryz.underlying224
 a23:=Tryz.isAgg224
 z23:=Tryz.sizeOf224
 v23:=Tryz.zeroValue224
 t26:=Tryz.underlying3
 a26:=Tryz.isAgg3
 z26:=Tryz.sizeOf3
 v26:=Tryz.zeroValue3
 t33:=Tryz.underlying159
 a33:=Tryz.isAgg159
 z33:=Tryz.sizeOf159
 v33:=Tryz.zeroValue159
def sortedL_ren:Go.Shelf.Ren:=⟨fun|6=>89|8=>157|9=>158|11=>197|13=>199|12=>198|23=>243|24=>244|14=>234|15=>235|16=>236|17=>237|18=>238|19=>239|20=>240|21=>241|22=>242|25=>260|26=>261|27=>262|28=>263|29=>264|30=>229|31=>274|n=>n,fun|26=>3|28=>157|24=>43|0=>0|3=>3|37=>196|48=>319|50=>168|4=>4|40=>312|39=>311|45=>180|5=>5|9=>9|51=>332|55=>335|57=>345|58=>346|33=>159|n=>n,fun|n=>n⟩
theorem sortedL:SlLaysZI.n6 Tryz.prog sortedL_ren where
 mixed:=by kernel_rfl
 f6:=⟨"slices.Sorted[int]",by decide,Tryz.func89.trans (congrArg some (by kernel_rfl))⟩
 f8:=⟨"slices.Collect[int]",by decide,Tryz.func157.trans (congrArg some (by kernel_rfl))⟩
 f11:=⟨"slices.AppendSeq[[]int,int]",by decide,Tryz.func197.trans (congrArg some (by kernel_rfl))⟩
 t0:=Tryz.underlying0
 a0:=Tryz.isAgg0
 z0:=Tryz.sizeOf0
 v0:=Tryz.zeroValue0
 t24:=Tryz.underlying43
 a24:=Tryz.isAgg43
 z24:=Tryz.sizeOf43
 v24:=Tryz.zeroValue43
 t26:=Tryz.underlying3
 a26:=Tryz.isAgg3
 z26:=Tryz.sizeOf3
 v26:=Tryz.zeroValue3
 t28:=Tryz.underlying157
 a28:=Tryz.isAgg157
 z28:=Tryz.sizeOf157
 v28:=Tryz.zeroValue157
 i26:=by kernel_rfl
def sortL_ren:Go.Shelf.Ren:=⟨fun|5=>158|8=>199|7=>198|19=>243|20=>244|10=>234|11=>235|12=>236|13=>237|14=>238|15=>239|16=>240|17=>241|18=>242|30=>260|31=>261|32=>262|33=>263|34=>264|35=>229|40=>274|n=>n,fun|23=>43|25=>3|3=>3|32=>196|22=>43|0=>0|44=>319|46=>168|4=>4|36=>312|35=>311|41=>180|5=>5|9=>9|53=>332|57=>335|63=>345|64=>346|n=>n,fun|n=>n⟩
theorem sortL:SlLaysM.n5 Tryz.prog sortL_ren where
 mixed:=by kernel_rfl
 f5:=⟨"slices.Sort[[]int,int]",by decide,Tryz.func158.trans (congrArg some (by kernel_rfl))⟩
 f7:=⟨"slices.pdqsortOrdered[int]",by decide,Tryz.func198.trans (congrArg some (by kernel_rfl))⟩
 f8:=Tryz.func199.trans (congrArg some (by kernel_rfl))
 f10:=⟨"slices.insertionSortOrdered[int]",by decide,Tryz.func234.trans (congrArg some (by kernel_rfl))⟩
 f11:=⟨"slices.heapSortOrdered[int]",by decide,Tryz.func235.trans (congrArg some (by kernel_rfl))⟩
 f12:=⟨"slices.breakPatternsOrdered[int]",by decide,Tryz.func236.trans (congrArg some (by kernel_rfl))⟩
 f13:=⟨"slices.choosePivotOrdered[int]",by decide,Tryz.func237.trans (congrArg some (by kernel_rfl))⟩
 f14:=⟨"slices.reverseRangeOrdered[int]",by decide,Tryz.func238.trans (congrArg some (by kernel_rfl))⟩
 f15:=⟨"slices.partialInsertionSortOrdered[int]",by decide,Tryz.func239.trans (congrArg some (by kernel_rfl))⟩
 f16:=⟨"cmp.Less[int]",by decide,Tryz.func240.trans (congrArg some (by kernel_rfl))⟩
 f17:=⟨"slices.partitionEqualOrdered[int]",by decide,Tryz.func241.trans (congrArg some (by kernel_rfl))⟩
 f18:=⟨"slices.partitionOrdered[int]",by decide,Tryz.func242.trans (congrArg some (by kernel_rfl))⟩
 f19:=Tryz.func243.trans (congrArg some (by kernel_rfl))
 f20:=Tryz.func244.trans (congrArg some (by kernel_rfl))
 f30:=⟨"slices.siftDownOrdered[int]",by decide,Tryz.func260.trans (congrArg some (by kernel_rfl))⟩
 f31:=Tryz.func261.trans (congrArg some (by kernel_rfl))
 f32:=Tryz.func262.trans (congrArg some (by kernel_rfl))
 f33:=⟨"slices.medianAdjacentOrdered[int]",by decide,Tryz.func263.trans (congrArg some (by kernel_rfl))⟩
 f34:=⟨"slices.medianOrdered[int]",by decide,Tryz.func264.trans (congrArg some (by kernel_rfl))⟩
 f35:=⟨"cmp.isNaN[int]",by decide,Tryz.func229.trans (congrArg some (by kernel_rfl))⟩
 f40:=⟨"slices.order2Ordered[int]",by decide,Tryz.func274.trans (congrArg some (by kernel_rfl))⟩
 t0:=Tryz.underlying0
 a0:=Tryz.isAgg0
 z0:=Tryz.sizeOf0
 v0:=Tryz.zeroValue0
 t3:=Tryz.underlying3
 a3:=Tryz.isAgg3
 z3:=Tryz.sizeOf3
 v3:=Tryz.zeroValue3
 t4:=Tryz.underlying4
 a4:=Tryz.isAgg4
 z4:=Tryz.sizeOf4
 v4:=Tryz.zeroValue4
 t5:=Tryz.underlying5
 a5:=Tryz.isAgg5
 z5:=Tryz.sizeOf5
 v5:=Tryz.zeroValue5
 t9:=Tryz.underlying9
 a9:=Tryz.isAgg9
 z9:=Tryz.sizeOf9
 v9:=Tryz.zeroValue9
 t22:=Tryz.underlying43
 a22:=Tryz.isAgg43
 z22:=Tryz.sizeOf43
 v22:=Tryz.zeroValue43
 t23:=Tryz.underlying43
 a23:=Tryz.isAgg43
 z23:=Tryz.sizeOf43
 v23:=Tryz.zeroValue43
 t25:=Tryz.underlying3
 a25:=Tryz.isAgg3
 z25:=Tryz.sizeOf3
 v25:=Tryz.zeroValue3
 t32:=Tryz.underlying196
 a32:=Tryz.isAgg196
 z32:=Tryz.sizeOf196
 v32:=Tryz.zeroValue196
 t35:=Tryz.underlying311
 a35:=Tryz.isAgg311
 z35:=Tryz.sizeOf311
 v35:=Tryz.zeroValue311
 t36:=Tryz.underlying312
 a36:=Tryz.isAgg312
 z36:=Tryz.sizeOf312
 v36:=Tryz.zeroValue312
 t41:=Tryz.underlying180
 a41:=Tryz.isAgg180
 z41:=Tryz.sizeOf180
 v41:=Tryz.zeroValue180
 t44:=Tryz.underlying319
 a44:=Tryz.isAgg319
 z44:=Tryz.sizeOf319
 v44:=Tryz.zeroValue319
 t46:=Tryz.underlying168
 a46:=Tryz.isAgg168
 z46:=Tryz.sizeOf168
 v46:=Tryz.zeroValue168
 t53:=Tryz.underlying332
 a53:=Tryz.isAgg332
 z53:=Tryz.sizeOf332
 v53:=Tryz.zeroValue332
 t57:=Tryz.underlying335
 a57:=Tryz.isAgg335
 z57:=Tryz.sizeOf335
 v57:=Tryz.zeroValue335
 t63:=Tryz.underlying345
 a63:=Tryz.isAgg345
 z63:=Tryz.sizeOf345
 v63:=Tryz.zeroValue345
 t64:=Tryz.underlying346
 a64:=Tryz.isAgg346
 z64:=Tryz.sizeOf346
 v64:=Tryz.zeroValue346
theorem sortsL (m:Nat):AnyZI.SortsIn Tryz.prog sortedL_ren Fence.wide m :=
 ⟨λ blk off cap ss W hH hblk hsz=>callsIn_wide.2 (AnyM.slices_Sort_int sortL blk off cap ss W hH hblk hsz),λ p cap W=>callsIn_wide.2 (AnyM.slices_Sort_int_none sortL p cap W)⟩
end Go.Proofs
namespace Go.Proofs.YtfpadnmdafiddaaGreatDoor
open Go Go.RowKit Go.V
theorem nodup_le:∀ {l r:List Nat},l.Nodup→(∀ x∈l,x∈r)→l.length≤r.length
 | [],r,_,_=>Nat.zero_le _
 | x::l,r,h,hs=>by
  obtain ⟨h1,h2⟩:=List.nodup_cons.1 h
  have hx:=hs x (by simp)
  have:=nodup_le (l:=l) (r:=r.erase x) h2 λ y hy=>(List.mem_erase_of_ne (λ e=>h1 (by rw [← e];exact hy))).2 (hs y (List.mem_cons_of_mem _ hy))
  rw [List.length_erase_of_mem hx] at this
  have hp:=List.length_pos_of_mem hx
  rw [List.length_cons]
  omega
theorem keys_nat {f:Nat→Option Value}:∀ {es:List MapEntry},(∀ x∈es,∃ n:Nat,n<9223372036854775808∧x.key=.int .i64 (n:Int)∧f n=some x.val)→∃ ks:List Nat,es.map (·.key)=ks.map (λ x=>Value.int .i64 (x:Nat))∧∀ k∈ks,k<9223372036854775808∧∃ v,f k=some v
 | [],_=>⟨[],rfl,by simp⟩
 | x::es,h=>by
  obtain ⟨n,h1,h2,h3⟩:=h x (by simp)
  obtain ⟨ks,k1,k2⟩:=keys_nat (es:=es) λ y hy=>h y (List.mem_cons_of_mem _ hy)
  refine ⟨n::ks,by simp [h2,k1],λ k hk=>?_⟩
  rcases List.mem_cons.1 hk with rfl|hk
  ·exact ⟨h1,_,h3⟩
  ·exact k2 k hk
theorem map_keys {w:World} {m:Nat} {f:Nat→Option Value} (h:MapF w m f) {ps:List Nat} (hp:∀ k,(∃ v,f k=some v)↔k∈ps):∃ (es:List MapEntry) (clock:Nat) (ks ls:List Nat),w.heap[m]? = some (.map es.toArray clock)∧es.map (·.key)=ks.map (λ x=>Value.int .i64 (x:Nat)) ∧
  (∀ x∈ks,x<9223372036854775808)∧(∀ m∈es,m.born<clock)∧(es.map (·.born)).Pairwise (· < ·)∧ks.length≤ps.length∧ls.Perm ks∧ls.Pairwise (· < ·)∧∀ k,k∈ls↔k∈ps:=by
 obtain ⟨es,clock,h1,h2,h3,h4⟩:=h
 obtain ⟨ks,k1,k2⟩:=keys_nat h2
 have hkm:∀ k,k∈ks↔k∈ps:=λ k=>by
  rw [← hp]
  refine ⟨λ hk=>(k2 k hk).2,λ ⟨v,hv⟩=>?_⟩
  obtain ⟨x,hx,e⟩:=h3 k v hv
  have:=List.mem_map_of_mem (f:=λ x:MapEntry=>x.key) hx
  rw [k1,e] at this
  obtain ⟨n,hn,e2⟩:=List.mem_map.1 this
  have:n=k:=by simp only [Value.int.injEq,true_and] at e2;omega
  exact this▸hn
 have hnd:ks.Nodup:=by
  have h5:(es.toList.map (·.key)).Pairwise (·≠·):=List.pairwise_map.2 h4.keys
  rw [k1] at h5
  exact (List.pairwise_map.1 h5).imp λ h e=>h (by rw [e])
 have hperm:=List.mergeSort_perm ks (λ x y=>decide (x≤y))
 have hle:(ks.mergeSort (λ x y=>decide (x≤y))).Pairwise (λ a b=>decide (a≤b)=true):=List.pairwise_mergeSort (le:=λ x y=>decide (x≤y)) (λ a b c h1 h2=>by simp only [decide_eq_true_eq] at *;omega) (λ a b=>by simp only [Bool.or_eq_true,decide_eq_true_eq];omega) ks
 have hnd2:=(hperm.nodup_iff).2 hnd
 refine ⟨es.toList,clock,ks,ks.mergeSort (λ x y=>decide (x≤y)),by simpa using h1,k1,λ x hx=>(k2 x hx).1,h4.lt,List.pairwise_map.2 h4.born,nodup_le hnd λ x hx=>(hkm x).1 hx,hperm,?_,λ k=>by rw [hperm.mem_iff];exact hkm k⟩
 exact (hle.and hnd2).imp λ h=>by
  obtain ⟨a,b⟩:=h
  simp only [decide_eq_true_eq] at a
  omega
theorem mkeys_c (m:Nat) (w:World) :
  Calls Tryz.prog 159 #[.map (some m)] w (Ret λ v w'=>∃ c,v=.func (.func 200) #[] #[.pointer (some ⟨c,0,none⟩)]∧w.heap.size≤c∧Blk w' c 224 [.map (some m)]∧Grow w w'):=by
 refine V.calls (args:=[_]) Tryz.func159 rfl Tryz.ntmps159 rfl rfl ?_
 repeat (first|(refine jX ?_;refine TL.makeFunc (xs:=[]) (cs:=[_]) rfl rfl rfl ?_)|(refine aD ?_;refine TL.pure rfl rfl ?_)|refine TL.nil ?_|refine aA ?_|refine aJ ?_|refine aC ?_|(refine bW ?_;(refine TL.box rfl rfl rfl ?_;intro bk w' hg hbk hsz hsz'))|refine bC ?_)
 exact cF rfl ⟨_,rfl,bk,rfl,by omega,hbk,hg⟩
theorem wpages_c {w:World} {b m p:Nat} (hbw:Blk w b 226 [.pointer (some ⟨p,0,none⟩),.map (some m)]) :
  Calls Tryz.prog 90 #[.pointer (some ⟨b,0,none⟩)] w (Ret λ v w'=>∃ c,v=.func (.func 200) #[] #[.pointer (some ⟨c,0,none⟩)]∧w.heap.size≤c∧Blk w' c 224 [.map (some m)]∧Grow w w'):=by
 refine V.calls (args:=[_]) Tryz.func90 rfl Tryz.ntmps90 rfl rfl ?_
 repeat (first|(refine aB ?_;refine TL.pure rfl rfl ?_)|(refine aD ?_;refine TL.pure rfl rfl ?_)|refine aK rfl yM rfl ?_|refine aF rfl rfl ?_|refine TL.nil ?_|refine aA ?_|refine aJ ?_|refine aC ?_|refine bL rfl rfl ?_)
 refine aL 159 ?_
 refine aI rfl (mkeys_c m w) rfl ?_
 rintro _ w1 ⟨c,rfl,hc,hb,hg⟩
 repeat (first|(refine aD ?_;refine TL.pure rfl rfl ?_)|refine TL.nil ?_|refine aA ?_|refine bC ?_)
 exact cF rfl ⟨_,rfl,c,rfl,hc,hb,hg⟩
theorem sorted_c {w:World} {c m:Nat} {f:Nat→Option Value} (hb:Blk w c 224 [.map (some m)]) (h:MapF w m f) {ps:List Nat} (hp:∀ k,(∃ v,f k=some v)↔k∈ps) (hlen:ps.length≤1000000) :
  Calls Tryz.prog 89 #[.func (.func 200) #[] #[.pointer (some ⟨c,0,none⟩)]] w (Ret λ v w'=>∃ ls,w'.ownsRow w.heap.size 3 1 v ls.length (cB ls)∧(∀ k,k∈ls↔k∈ps)∧ls.length≤ps.length∧Grow w w'):=by
 obtain ⟨es,clock,ks,ls,h1,h2,h3,h4,h5,h6,h7,h8,h9⟩:=map_keys h hp
 have e9:∀ args w,(callFunc (sortedL_ren.f 9) args).run Tryz.prog w=.ok (.enter (sortedL_ren.f 9) args) w:=enters_of Tryz.func158 (by kernel_rfl) rfl
 have eg:∀ args w,(callFunc (keysL_ren.f 10) args).run Tryz.prog w=.ok (.enter (keysL_ren.f 10) args) w:=enters_of Tryz.func200 (by kernel_rfl) rfl
 have hb':w.heap[c]? = some (.cells #[.map (some m)] 224 (0,0)):=by unfold Blk at hb;simpa using hb
 have key:=sorted_g keysL sortedL rfl (sortsL 4) e9 eg w c m es clock ks ls 224 (0,0) hb' h1 h2 h3 h4 h5 (by omega) h7 h8
 refine Calls.mono key λ y w' hy=>hy.mono λ v w' ⟨hg,hor⟩=>⟨ls,?_,h9,by rw [h7.length_eq];exact h6,hg⟩
 have hll:ls.length≤1000000:=by rw [h7.length_eq];omega
 rcases hor with ⟨rfl,rfl⟩|⟨hne,g,cap,cur,rfl,hg1,hg2,hg3,hg4,hg5,hg6⟩
 ·exact own_nil
 ·refine ⟨by simp [cB],.inr ⟨g,cap,cur,rfl,hg1,hg2,hg3,hg4,by omega,?_⟩⟩
  apply List.ext_getElem?
  intro i
  rw [List.getElem?_take]
  by_cases hi:i<ls.length
  ·obtain ⟨x,hx⟩:∃ x,ls[i]? = some x:=⟨_,List.getElem?_eq_getElem hi⟩
   have:=hg6 i (.int .i64 (x:Nat)) (by simp [hx])
   rw [if_pos (by omega),show cur.toList[i]? = cur[i]? by simp,this]
   simp [cB,hx]
  ·rw [if_neg (by omega)]
   rw [List.getElem?_eq_none (by rw [jJ];omega)]
theorem reach_c {L:PL} {g:Pg} {w:World} {lv:Nat} {M':eN} {root:Option Nat} (h:PgAt w L g) (hr:∀ n,root=some n→n<4294967296) (ht:treeP g root []=some (lv,M')) {ps:List Nat} (hps:∀ k,(∃ t,fH M' k=some t)↔k∈ps) (hlen:ps.length≤1000000) :
  Calls Tryz.prog 22 #[.pointer (some ⟨L.p,0,none⟩),.int .i64 (dD root)] w (Ret λ v w'=>∃ ls a c,v=.tuple #[.slice a ls.length c,.int .i64 0]∧Sl (λ k=>w.heap.size≤k∧k<w'.heap.size) w' 1 a ls.length c (cB ls)∧(∀ k,k∈ls↔k∈ps)∧ls.length≤ps.length∧Grow w w'):=by
 have hlts:=h.lts
 refine V.calls (args:=[_,_]) Tryz.func22 rfl Tryz.ntmps22 rfl rfl ?_
 repeat (first|(refine aB ?_;refine TL.pure rfl rfl ?_)|(refine aD ?_;refine TL.pure rfl rfl ?_)|refine TL.nil ?_|refine aA ?_|refine aJ ?_|refine aC ?_)
 refine aL 87 ?_
 refine aI rfl (walk_new L.p w) rfl ?_
 rintro _ w1 ⟨b,m,rfl,hb,hm,hwk,hg1⟩
 have hbl:=hwk.blk.lt
 have hml:=hwk.map.lt
 repeat (first|(refine aB ?_;refine TL.pure rfl rfl ?_)|(refine aD ?_;refine TL.pure rfl rfl ?_)|refine TL.nil ?_|refine aA ?_|refine aJ ?_|refine aC ?_)
 refine aL 88 ?_
 refine aI rfl (walked_c h hg1 hwk hb hm hr ht) rfl ?_
 rintro _ w2 ⟨rfl,hM,hbw,hg2⟩
 have z2:=hg2.size
 repeat (first|(refine aB ?_;refine TL.pure rfl rfl ?_)|(refine aD ?_;refine TL.pure rfl rfl ?_)|refine TL.nil ?_|refine aA ?_|refine aJ ?_|refine aC ?_|(refine aH ?_;refine TL.pure rfl rfl ?_)|refine aE rfl ?_|refine aV ?_|refine TL.pure rfl rfl ?_)
 refine aL 90 ?_
 refine aI rfl (wpages_c hbw) rfl ?_
 rintro _ w3 ⟨c,rfl,hc,hcb,hg3⟩
 have z3:=hg3.size
 obtain ⟨f,hf,hf0,hf1⟩:=hM
 have hfp:∀ k,(∃ v,f k=some v)↔k∈ps:=λ k=>by
  rw [← hps]
  refine ⟨λ ⟨v,hv⟩=>?_,λ ⟨t,ht⟩=>?_⟩
  ·cases hg:fH M' k with
   | none=>rw [hf0 k hg] at hv;cases hv
   | some t=>exact ⟨t,rfl⟩
  ·obtain ⟨x,lo,hi,e,_⟩:=hf1 k t ht
   exact ⟨_,e⟩
 repeat (refine aJ ?_)
 refine aL 89 ?_
 refine aI rfl (sorted_c hcb (hf.grow hg3) hfp hlen) rfl ?_
 rintro v4 w4 ⟨ls,hv4,hls,hln,hg4⟩
 obtain ⟨a,c4,rfl,hsl⟩:=cE hv4
 repeat (first|(refine aD ?_;refine TL.pure rfl rfl ?_)|refine TL.nil ?_|refine aA ?_|refine bC ?_)
 exact jS rfl rfl ⟨_,rfl,ls,a,c4,rfl,hsl.mono (λ k hk=>by have:=cY hv4 hk.2;omega),hls,hln,(hg2.trans hg3).trans hg4⟩
end Go.Proofs.YtfpadnmdafiddaaGreatDoor
namespace Go.Proofs.YtfpadnmdafiddaaGreatDoor
open Go Go.RowKit Go.V
theorem int_und:(Tryz.prog).underlying 3=some (.int .i64):=(inferInstance:IntTy Tryz.prog 3 .i64).und
theorem keysM_c {H:Type} {R:Value→Option (DataW H×List MemPlace)} {D:DataW H} {l c b nn:Nat} (JJ:List Int→World→Prop) (W:World) (hc:Blk W c 224 [.map (some b)]) (hown:W.ownsMap Tryz.prog 3 R b nn D)
  (hJ:∀ ss w w' row,JJ ss w→w.grownBy w' row→(∀ k,row=some k→k=W.heap.size)→JJ ss w')
  (hY:∀ ss x w,JJ ss w→W.heap.size<w.heap.size→Maps.has D (.int .i64 x)=true→Yld Tryz.prog l [.int .i64 x] w (λ v w'=>v=.bool true∧JJ (ss++[x]) w'∧∀ k,k=b∨k=W.heap.size→w'.heap[k]? = w.heap[k]?)) (h0:JJ [] W) :
  Calls Tryz.prog 200 #[.func (.yield l) #[] #[],.pointer (some ⟨c,0,none⟩)] W (Ret λ v w'=>∃ ss:List Int,ss.Perm (intKeys D)∧JJ ss w'):=by
 have K:=Maps.int_keyed int_und
 have hbl:=hown.lt
 refine V.calls (args:=[_,_]) Tryz.func200 rfl Tryz.ntmps200 rfl rfl ?_
 repeat (first|refine aK rfl yM rfl ?_|refine aJ ?_|refine aC ?_)
 refine TL.isRangeM ?_
 refine TL.rangeM K rfl hown rfl ?_
 intro w1 hr1 hg1 hs1
 repeat (first|refine TL.nil ?_|refine aA ?_|refine T.block ?_)
 refine cM (S:=List Int×Nat) (λ q=>[(5,.pointer (some ⟨W.heap.size,0,none⟩)),(0,.func (.yield l) #[] #[])])
  (λ q w2=>∃ left,w2.ranges Tryz.prog 3 R b W.heap.size nn D left q.2∧CollectedI D left q.1∧JJ q.1 w2∧W.heap.size<w2.heap.size) (λ q=>q.2) ([],Maps.size D) ⟨rfl,rfl,trivial⟩ ⟨_,hr1,CollectedI.start D,hJ [] W w1 none h0 hg1 (λ k hk=>by cases hk),by omega⟩ ?_
 rintro ⟨ss,cnt⟩ w2 ⟨left,hrg,hC,hJs,hsz⟩
 simp only at hrg hC hJs
 refine cT (e':=[(5,.pointer (some ⟨W.heap.size,0,none⟩)),(0,.func (.yield l) #[] #[])]) ?_ ⟨rfl,rfl,trivial⟩
 repeat (first|refine aJ ?_|refine aC ?_)
 refine TL.nextM K int_und rfl hrg rfl ?_ ?_
 ·intro hl
  repeat (first|refine TL.nil ?_|refine aA ?_|refine aJ ?_|refine aE rfl ?_|refine cN ?_|refine bM ?_|refine bO ?_|refine bN ?_|refine TL.pure rfl rfl ?_)
  exact kB (vs:=[]) rfl rfl ⟨_,rfl,ss,hC.perm hown K int_und hl,hJs⟩
 ·intro z v kl y w3 cnt3 hkey hlk hat hrg3 hlt hg3 hs3 hen
  obtain ⟨z',ez,rfl,_⟩:=Maps.keyOf_i64 int_und hkey
  obtain rfl:z=z':=(Value.int.inj ez).2
  have hJ3:=hJ ss w2 w3 _ hJs hg3 (λ k hk=>by cases hk;rfl)
  repeat (first|(refine TL.isEntry ?_;refine TL.entryM rfl hen rfl ?_)|(refine aB ?_;refine TL.pure rfl rfl ?_)|(refine aD ?_;refine TL.pure rfl rfl ?_)|refine TL.nil ?_|refine aA ?_|refine aJ ?_|refine aC ?_|refine T.block ?_|refine aN rfl ?_|refine aV ?_|refine TL.pure rfl rfl ?_)
  refine TL.yield rfl rfl (hY ss z w3 hJ3 (by omega) (Maps.has_true_of_atKey hat)) rfl ?_
  rintro _ w4 ⟨rfl,hJ4,hk4⟩
  have hrg4:=ranges_same hrg3 (hk4 b (.inl rfl)) (hk4 _ (.inr rfl))
  have hsz4:W.heap.size<w4.heap.size:=by
   obtain ⟨es,clock,since,seen,c0,_,_,_,_,h5,_⟩:=hrg4
   exact (Array.getElem?_eq_some_iff.1 h5).1
  repeat (first|refine TL.nil ?_|refine aA ?_|refine aT ?_|refine aE rfl ?_|refine aV ?_|refine TL.pure rfl rfl ?_)
  exact bG (ss++[z],cnt3) ⟨rfl,rfl,trivial⟩ ⟨_,hrg4,hC.step hlk hat,hJ4,hsz4⟩ hlt
theorem has_int {H:Type} {D:DataW H} {x:Int} (h:Maps.has D (.int .i64 x)=true):x∈intKeys D:=by
 cases D with
 | map es =>
  rw [Maps.has_eq,List.any_eq_true] at h
  obtain ⟨p,hp,hs⟩:=h
  refine List.mem_map.2 ⟨p,hp,?_⟩
  cases hk:p.1 with
  | int q a =>
   rw [hk] at hs
   simp only [Lit.sameKey,decide_eq_true_eq] at hs
   simp [Go.intOf,hs.2]
  | _=>rw [hk] at hs;simp [Lit.sameKey] at hs
 | _=>simp [Maps.has] at h
theorem owns_c {w:World} {m:Nat} {f:Nat→Option Value} (h:MapF w m f) {ps:List Nat} (hp:∀ k,(∃ v,f k=some v)↔k∈ps) (hlen:ps.length≤1000000) :
  ∃ (R:Value→Option (DataW Unit×List MemPlace)) (D:DataW Unit) (nn:Nat) (ks:List Nat),w.ownsMap Tryz.prog 3 R m nn D∧(intKeys D).Perm (ks.map λ n:Nat=>(n:Int))∧(∀ k,k∈ks↔k∈ps)∧∀ k∈ks,k<9223372036854775808:=by
 obtain ⟨es,clock,ks,ls,hb,hk,hlt,hborn,hbn,hl,hpm,_,hmem⟩:=map_keys h hp
 have hL:es.length=ks.length:=by have:=congrArg List.length hk;simpa using this
 have hnd:ks.Nodup:=(hpm.nodup_iff).1 (by assumption |> λ (q:ls.Pairwise (· < ·))=>q.imp λ h=>Nat.ne_of_lt h)
 obtain ⟨R,hR⟩:∃ R:Value→Option (DataW Unit×List MemPlace),∀ v,R v=some (.lit (.bool true),[]):=⟨λ _=>some (.lit (.bool true),[]),λ _=>rfl⟩
 have hu:=int_und
 have hwf:∀ n:Nat,n<9223372036854775808→(Go.Lit.int .i64 (n:Int)).wf=true:=λ n hn=>by
  have e1:IntKind.min .i64 = -9223372036854775808:=by decide
  have e2:IntKind.max .i64=9223372036854775807:=by decide
  simp only [Go.Lit.wf,Bool.and_eq_true,decide_eq_true_eq,e1,e2];omega
 have hmem':∀ x∈es,∃ n∈ks,x.key=Value.int .i64 (n:Nat):=λ x hx=>by
  have h:=List.mem_map_of_mem (f:=λ x:MapEntry=>x.key) hx
  rw [hk] at h
  obtain ⟨n,hn,e⟩:=List.mem_map.1 h
  exact ⟨n,hn,e.symm⟩
 have hrd:∀ x∈es,∀ n:Nat,n∈ks→x.key=Value.int .i64 (n:Nat)→Go.WideElems.rd Tryz.prog 3 R x=some (.int .i64 (n:Int),.lit (.bool true)):=λ x _ n hn e=>by
  simp [Go.WideElems.rd,e,Maps.keyOf_int_mk hu (hwf n (hlt n hn)),hR]
 refine ⟨R,.map ((es.map (Go.WideElems.rg Tryz.prog 3 R)).foldr DataW.insert []),es.length,ks,?_,?_,λ k=>by rw [← hmem,hpm.mem_iff],hlt⟩
 ·refine ⟨es.toArray,clock,hb,⟨by simp only [List.size_toArray,maxLen];omega,⟨by simpa using hborn,?_,?_⟩,λ x hx=>?_⟩,by simp,by simp⟩
  ·exact (by simpa using hbn:(es.map (·.born)).Pairwise (· < ·)).imp λ h=>Nat.ne_of_lt h
  ·show (es.map (·.key)).Nodup
   rw [hk]
   exact List.pairwise_map.2 (hnd.imp λ h e=>h (by have:=(Value.int.inj e).2;omega))
  ·obtain ⟨n,hn,e⟩:=hmem' x (by simpa using hx)
   exact ⟨_,hrd x (by simpa using hx) n hn e⟩
 ·show (List.map (λ p:Go.Lit×DataW Unit=>Go.intOf p.1) _).Perm _
  refine ((Go.WideShapes.sorted_perm _).map _).trans ?_
  have:(es.map (Go.WideElems.rg Tryz.prog 3 R)).map (λ p:Go.Lit×DataW Unit=>Go.intOf p.1)=(es.map (·.key)).map Go.RowKit.intOf:=by
   rw [List.map_map,List.map_map]
   refine List.map_congr_left λ x hx=>?_
   obtain ⟨n,hn,e⟩:=hmem' x hx
   simp [Function.comp,Go.WideElems.rg,hrd x hx n hn e,e,Go.intOf,Go.RowKit.intOf]
  rw [this,hk,List.map_map]
  exact List.Perm.refl _
end Go.Proofs.YtfpadnmdafiddaaGreatDoor
namespace Go.Proofs.YtfpadnmdafiddaaGreatDoor
open Go Go.RowKit Go.V
instance mapSet:MapTy Tryz.prog 260 3 263:=⟨by kernel_rfl⟩
instance placesE:Places Tryz.prog 263 []:=⟨by kernel_rfl⟩
theorem ButS.grown {S:Nat→Prop} {w0 w w':World} {row:Option Nat} (h:ButS S w0 w) (g:w.grownBy w' row) (hr:∀ k,row=some k→w0.heap.size≤k):ButS S w0 w' :=
 ⟨g.os.trans h.os,g.tape.trans h.tape,g.output.trans h.output,Nat.le_trans h.size g.size,λ k hk hs=>(g.block k (Nat.lt_of_lt_of_le hk h.size) (λ e=>by have:=hr k e.symm;omega)).trans (h.block k hk hs)⟩
theorem add_c {w:World} {c m s:Nat} {f:Nat→Option Value} (hc:Blk w c 224 [.map (some m)]) (hm:MapF w m f) {ps:List Nat} (hp:∀ k,(∃ v,f k=some v)↔k∈ps) (hlen:ps.length≤1000000) (hs:MapF w s (λ _=>none)) (hsm:s≠m) (hsc:s≠c) :
  Calls Tryz.prog 185 #[.map (some s),.func (.func 200) #[] #[.pointer (some ⟨c,0,none⟩)]] w (Ret λ v w'=>v=.tuple #[]∧∃ f',MapF w' s f'∧(∀ k,(∃ v,f' k=some v)↔k∈ps)∧ButS (λ k=>k=s) w w'):=by
 have hcl:=hc.lt
 have hml:=hm.lt
 have hsl:=hs.lt
 refine callsEnd (args:=[_,_]) Tryz.func185 rfl Tryz.ntmps185 rfl rfl ?_
 repeat (first|(refine aB ?_;refine TL.pure rfl rfl ?_)|refine TL.nil ?_|refine aA ?_|refine aC ?_|(refine bW ?_;(refine TL.box rfl rfl rfl ?_;intro bk w' hg hbk hsz hsz')))
 have hbx:=hbk
 have hgw:=hg
 refine ⟨200,[.pointer (some ⟨c,0,none⟩)],inferInstance,rfl,?_⟩
 intro rc W hli hs4 hg5 hl4 hD4
 obtain ⟨R,D,nn,ks,hown,hperm,hkm,hk63⟩:=owns_c (hm.grow (hgw.trans hg5)) hp hlen
 have zg:=hgw.size
 have z5:=hg5.size
 have hbl:=hbx.lt
 have hsW:=hs.grow (hgw.trans hg5)
 have hcW:=(hc.grow (hgw.trans hg5))
 have hbW:=hbx.grow hg5
 obtain ⟨D0,hD0⟩:∃ z,z=w'.heap.size:=⟨_,rfl⟩
 rw [← hD0] at hl4 hD4 hs4 ⊢
 refine Calls.mono (keysM_c (l:=D0+1) (λ ss v=>(∃ f',MapF v s f'∧∀ k:Nat,(∃ u,f' k=some u)↔(k:Int)∈ss)∧ButS (λ k=>k=s) W v) W hcW hown ?_ ?_ ⟨⟨_,hsW,λ k=>⟨(λ ⟨u,hu⟩=>by cases hu),(λ h=>by cases h)⟩⟩,ButS.refl _ _⟩) ?_
 ·rintro ss v v' row ⟨⟨f',h1,h2⟩,h3⟩ hgb hrow
  refine ⟨⟨f',h1.keep (hgb.block s h1.lt λ e=>?_),h2⟩,h3.grown hgb λ k hk=>by rw [hrow k hk];exact Nat.le_refl _⟩
  have:=hrow s e.symm
  omega
 ·rintro ss x v ⟨⟨f',h1,h2⟩,h3⟩ hvW hhas
  obtain ⟨n,hn,rfl⟩:∃ n:Nat,n<9223372036854775808∧x=(n:Int):=by
   have:=(hperm.mem_iff).1 (has_int hhas)
   obtain ⟨n,hn,e⟩:=List.mem_map.1 this
   exact ⟨n,hk63 n hn,e.symm⟩
  have hl0:v.heap[D0+1]? = some (.loop (rc .ready none)):=(h3.block _ (by omega) (by omega)).trans hl4
  have hb0:Blk v bk 260 [.map (some s)]:=dC hbW h3 (by omega)
  refine yld_of hli hl0 rfl rfl λ I=>?_
  repeat (first|(refine aD ?_;refine TL.pure rfl rfl ?_)|refine TL.nil ?_|refine aC ?_)
  refine ⟨hl0,λ v2 hu2 hl2=>?_⟩
  have hb2:=hb0.upd hu2 (by omega)
  have hm2:=h1.upd hu2 (by omega)
  repeat (first|refine TL.build (parts:=[]) (vs:=[]) rfl rfl rfl ?_|(refine aB ?_;refine TL.pure rfl rfl ?_)|refine aK rfl yM rfl ?_|refine aC ?_|refine T.block ?_)
  refine TL.isMapUp ?_
  refine TL.updateF rfl rfl rfl hm2 hn ?_
  intro v3 hu3 hm3
  repeat (first|refine TL.nil ?_|refine aT ?_)
  have hsW2:s<W.heap.size:=by omega
  have zv:=h3.size
  refine ⟨?_,λ v4 hu4 hl4'=>⟨rfl,⟨⟨_,hm3.upd hu4 (by omega),λ k=>?_⟩,?_⟩,λ k hk=>?_⟩⟩
  ·rw [hu3.block _ (by omega)];exact hl2
  ·unfold upF
   by_cases hkn:k=n
   ·subst hkn
    simp
   ·rw [if_neg hkn,h2]
    simp only [List.mem_append,List.mem_singleton]
    exact ⟨.inl,λ h=>h.resolve_right λ e=>hkn (by omega)⟩
  ·refine ⟨hu4.os.trans (hu3.os.trans (hu2.os.trans h3.os)),hu4.tape.trans (hu3.tape.trans (hu2.tape.trans h3.tape)),hu4.output.trans (hu3.output.trans (hu2.output.trans h3.output)),by have:=hu2.size;have:=hu3.size;have:=hu4.size;omega,λ k hk hne=>?_⟩
   by_cases hkl:k=D0+1
   ·subst hkl
    rw [hl4',hl4]
   ·exact (hu4.block k hkl).trans ((hu3.block k hne).trans ((hu2.block k hkl).trans (h3.block k hk hne)))
  ·have hk1:k≠D0+1:=by omega
   have hk2:k≠s:=by omega
   exact (hu4.block k hk1).trans ((hu3.block k hk2).trans (hu2.block k hk1))
 ·rintro _ v ⟨u,rfl,ss,hss,⟨f',h1,h2⟩,h3⟩
  refine ⟨u,rfl,?_,?_,λ w4 w5 hu4 hu5=>⟨_,rfl,rfl,f',(h1.upd hu4 (by omega)).upd hu5 (by omega),λ k=>?_,?_⟩⟩
  ·exact (h3.block _ (by omega) (by omega)).trans hD4
  ·exact (h3.block _ (by omega) (by omega)).trans hl4
  ·rw [h2,hss.mem_iff,hperm.mem_iff,← hkm k,List.mem_map]
   exact ⟨fun ⟨n, hn, e⟩ => by obtain rfl : n = k := by omega
                               exact hn,λ h=>⟨k,h,rfl⟩⟩
  ·refine ⟨hu5.os.trans (hu4.os.trans (h3.os.trans (hg5.1.os.trans hgw.1.os))),hu5.tape.trans (hu4.tape.trans (h3.tape.trans (hg5.1.tape.trans hgw.1.tape))),hu5.output.trans (hu4.output.trans (h3.output.trans (hg5.1.output.trans hgw.1.output))),by have:=hu5.size;have:=hu4.size;have:=h3.size;omega,λ k hk hne=>?_⟩
   exact (hu5.block k (by omega)).trans ((hu4.block k (by omega)).trans ((h3.block k (by omega) hne).trans ((hg5.block k (by omega)).trans (hgw.block k hk))))
end Go.Proofs.YtfpadnmdafiddaaGreatDoor
namespace Go.Proofs
open Go Go.RowKit Go.V Go.Maps Go.Sort Go.Shelf Go.WideShapes
set_option maxRecDepth 20000
def keysS_ren:Go.Shelf.Ren:=⟨fun|10=>230|n=>n,fun|33=>159|23=>260|0=>0|4=>4|26=>3|3=>263|n=>n,fun|n=>n⟩
theorem keysS:SlLaysZI.n10 Tryz.prog keysS_ren where
 mixed:=by kernel_rfl
 f10:=⟨"maps.Keys[headwater/version.set,int,struct{}]$1",by decide,Tryz.func230.trans (congrArg some (by kernel_rfl))⟩
 t0:=Tryz.underlying0
 a0:=Tryz.isAgg0
 z0:=Tryz.sizeOf0
 v0:=Tryz.zeroValue0
 t4:=Tryz.underlying4
 a4:=Tryz.isAgg4
 z4:=Tryz.sizeOf4
 v4:=Tryz.zeroValue4
 t23:=Tryz.underlying260
 a23:=Tryz.isAgg260
 z23:=Tryz.sizeOf260
 v23:=Tryz.zeroValue260
 t26:=Tryz.underlying3
 a26:=Tryz.isAgg3
 z26:=Tryz.sizeOf3
 v26:=Tryz.zeroValue3
 t33:=Tryz.underlying159
 a33:=Tryz.isAgg159
 z33:=Tryz.sizeOf159
 v33:=Tryz.zeroValue159
end Go.Proofs
namespace Go.Proofs.YtfpadnmdafiddaaGreatDoor
open Go Go.RowKit Go.V
theorem mkeysS_c (m:Nat) (w:World) :
  Calls Tryz.prog 186 #[.map (some m)] w (Ret λ v w'=>∃ c,v=.func (.func 230) #[] #[.pointer (some ⟨c,0,none⟩)]∧w.heap.size≤c∧Blk w' c 260 [.map (some m)]∧Grow w w'):=by
 refine V.calls (args:=[_]) Tryz.func186 rfl Tryz.ntmps186 rfl rfl ?_
 repeat (first|(refine jX ?_;refine TL.makeFunc (xs:=[]) (cs:=[_]) rfl rfl rfl ?_)|(refine aD ?_;refine TL.pure rfl rfl ?_)|refine TL.nil ?_|refine aA ?_|refine aJ ?_|refine aC ?_|(refine bW ?_;(refine TL.box rfl rfl rfl ?_;intro bk w' hg hbk hsz hsz'))|refine bC ?_)
 exact cF rfl ⟨_,rfl,bk,rfl,by omega,hbk,hg⟩
theorem sortedS_c {w:World} {c m:Nat} {f:Nat→Option Value} (hb:Blk w c 260 [.map (some m)]) (h:MapF w m f) {ps:List Nat} (hp:∀ k,(∃ v,f k=some v)↔k∈ps) (hlen:ps.length≤1000000) :
  Calls Tryz.prog 89 #[.func (.func 230) #[] #[.pointer (some ⟨c,0,none⟩)]] w (Ret λ v w'=>∃ ls:List Nat,w'.ownsRow w.heap.size 3 1 v ls.length (cB ls)∧(∀ k,k∈ls↔k∈ps)∧ls.length≤ps.length∧ls.Pairwise (· < ·)∧Grow w w'):=by
 obtain ⟨es,clock,ks,ls,h1,h2,h3,h4,h5,h6,h7,h8,h9⟩:=map_keys h hp
 have e9:∀ args w,(callFunc (sortedL_ren.f 9) args).run Tryz.prog w=.ok (.enter (sortedL_ren.f 9) args) w:=enters_of Tryz.func158 (by kernel_rfl) rfl
 have eg:∀ args w,(callFunc (keysS_ren.f 10) args).run Tryz.prog w=.ok (.enter (keysS_ren.f 10) args) w:=enters_of Tryz.func230 (by kernel_rfl) rfl
 have hb':w.heap[c]? = some (.cells #[.map (some m)] 260 (0,0)):=by unfold Blk at hb;simpa using hb
 have key:=sorted_g keysS sortedL rfl (sortsL 4) e9 eg w c m es clock ks ls 260 (0,0) hb' h1 h2 h3 h4 h5 (by omega) h7 h8
 refine Calls.mono key λ y w' hy=>hy.mono λ v w' ⟨hg,hor⟩=>⟨ls,?_,h9,by rw [h7.length_eq];exact h6,h8,hg⟩
 have hll:ls.length≤1000000:=by rw [h7.length_eq];omega
 rcases hor with ⟨rfl,rfl⟩|⟨hne,g,cap,cur,rfl,hg1,hg2,hg3,hg4,hg5,hg6⟩
 ·exact own_nil
 ·refine ⟨by simp [cB],.inr ⟨g,cap,cur,rfl,hg1,hg2,hg3,hg4,by omega,?_⟩⟩
  apply List.ext_getElem?
  intro i
  rw [List.getElem?_take]
  by_cases hi:i<ls.length
  ·obtain ⟨x,hx⟩:∃ x,ls[i]? = some x:=⟨_,List.getElem?_eq_getElem hi⟩
   have:=hg6 i (.int .i64 (x:Nat)) (by simp [hx])
   rw [if_pos (by omega),show cur.toList[i]? = cur[i]? by simp,this]
   simp [cB,hx]
  ·rw [if_neg (by omega)]
   rw [List.getElem?_eq_none (by rw [jJ];omega)]
theorem tree_trM {s:Pg} {r:Option Nat} {lv:Nat} {l:dS} {ps:List Nat} {M:eN} (hM:MemoOk s M) (h:TrAt s r lv l ps) (h16:lv≤16) :
  ∃ M',treeP s r M=some (lv,M')∧MemoOk s M'∧∀ k,(∃ t,fH M' k=some t)↔(∃ t,fH M k=some t)∨k∈ps:=by
 cases r with
 | none =>
  obtain ⟨rfl,rfl,rfl⟩:=h
  exact ⟨M,rfl,hM,λ k=>by simp⟩
 | some n =>
  obtain ⟨h,nd,ps',rfl,e2,e3,e4,rfl⟩:=h
  obtain ⟨t,M',q1,q2,q3,q4,q5,q6,q7⟩:=part_tr s h 16 (by omega) (by omega) hM e2 e3 e4
  refine ⟨M',?_,q2,λ k=>⟨λ ⟨tk,hk⟩=>q7 k tk hk,λ hk=>?_⟩⟩
  ·simp only [treeP,q1]
   rw [if_neg (by rw [q5];omega),q6.lv]
  ·rcases hk with ⟨t0,h0⟩|hk
   ·exact ⟨t0,q3 _ _ h0⟩
   ·rcases List.mem_cons.1 hk with rfl|hk
    ·exact ⟨t,q4⟩
    ·exact q6.ps k hk
theorem srt_same:∀ {l r:List Nat},l.Pairwise (· < ·)→r.Pairwise (· < ·)→(∀ k,k∈l↔k∈r)→l=r
 | [],[],_,_,_=>rfl
 | [],y::r,_,_,h=>by have:=(h y).2 (by simp);cases this
 | x::l,[],_,_,h=>by have:=(h x).1 (by simp);cases this
 | x::l,y::r,hl,hr,h=>by
  obtain ⟨h1,h2⟩:=List.pairwise_cons.1 hl
  obtain ⟨h3,h4⟩:=List.pairwise_cons.1 hr
  have hxy:x=y:=by
   rcases List.mem_cons.1 ((h x).1 (by simp)) with e|e
   ·exact e
   ·rcases List.mem_cons.1 ((h y).2 (by simp)) with e2|e2
    ·exact e2.symm
    ·have:=h1 y e2;have:=h3 x e;omega
  subst hxy
  rw [srt_same h2 h4 λ k=>?_]
  have hk:=h k
  simp only [List.mem_cons] at hk
  refine ⟨λ m=>(hk.1 (.inr m)).resolve_left λ e=>?_,λ m=>(hk.2 (.inr m)).resolve_left λ e=>?_⟩
  ·subst e;have:=h1 k m;omega
  ·subst e;have:=h3 k m;omega
end Go.Proofs.YtfpadnmdafiddaaGreatDoor
namespace Go.Proofs.YtfpadnmdafiddaaGreatDoor
open Go Go.RowKit Go.V
theorem TrAt.root_used {g:Pg} {root:Option Nat} {lv:Nat} {l:dS} {ps:List Nat} (h:TrAt g root lv l ps):∀ n,root=some n→cV g n=true:=by
 rintro n rfl
 obtain ⟨h,nd,ps',e1,e2,e3,e4,e5⟩:=h
 exact eQ e2
structure Aft (w w':World) (L:PL) (g g':Pg) (lv:Nat) (root':Option Nat) (lv':Nat) (l':dS) (ps':List Nat):Prop where
 pg:PgW w' L g'
 ext:Ext g g'
 tr:TrAt g' root' lv' l' ps'
 sp:cP g≤cP g'+(2*lv+1)
 sp2:cP g'≤cP g
 but:ButS L.S w w'
theorem put_any {w:World} {L:PL} {g:Pg} (h:PgW w L g) {root:Option Nat} {lv:Nat} {l:dS} {ps:List Nat} (ht:TrAt g root lv l ps) (hlv:lv≤15) (hsp:32≤cP g) (a a':Option Addr) (m c m' c':Nat) (key v:Bs) (hk:Sl (λ k=>¬ L.S k) w 1 a m c (cX key)) (hv:Sl (λ k=>¬ L.S k) w 1 a' m' c' (cX v)) (hkb:kW key) (hvb:kW v) :
  Calls Tryz.prog 25 #[.pointer (some ⟨L.p,0,none⟩),.int .i64 (dD root),.slice a m c,.slice a' m' c'] w (Ret λ u w'=>∃ (x e:Int) (root':Option Nat) (g':Pg) (lv':Nat) (l':dS) (ps':List Nat),u=.tuple #[.int .i64 x,.int .i64 e] ∧
   (((dR key&&gH v)=true∧e=0∧x=dD root'∧l'=hE key v l)∨((dR key&&gH v)=false∧e=2∧root'=root∧g'=g∧l'=l∧lv'=lv))∧Aft w w' L g g' lv root' lv' l' ps'):=by
 cases hb:dR key&&gH v with
 | false =>
  refine Calls.mono (put_bad h.at_ root ht.root_used a a' m c m' c' key v hk hv hb) λ y w' hy=>hy.mono λ u w' ⟨hu,hg⟩=>⟨0,2,root,g,lv,l,ps,hu,.inr ⟨rfl,rfl,rfl,rfl,rfl,rfl⟩,⟨h.grow hg,Ext.refl _,ht,by omega,by omega,ButS.grow hg⟩⟩
 | true =>
  obtain ⟨hko,hvo⟩:=Bool.and_eq_true_iff.1 hb
  obtain ⟨n,g',lv',ps',e1,e2,e3,e4,e5,e6,e7⟩:=put_tr h.at_.ok ht hko hvo (by omega) (by omega)
  refine Calls.mono (put_c h.at_ h.tab h.ne0 root a a' m c m' c' key v hk hv hko hvo hkb hvb hsp n e1) λ y w' hy=>hy.mono λ u w' ⟨hu,hp,hbs⟩=>⟨(n:Int),0,some n,g',lv',_,ps',hu,.inl ⟨rfl,rfl,rfl,rfl⟩,⟨h.put hp hbs,e2,e4,e6,e7,hbs⟩⟩
theorem del_any {w:World} {L:PL} {g:Pg} (h:PgW w L g) {root:Option Nat} {lv:Nat} {l:dS} {ps:List Nat} (ht:TrAt g root lv l ps) (hlv:lv≤15) (hsp:32≤cP g) (a:Option Addr) (m c:Nat) (key:Bs) (hk:Sl (λ k=>¬ L.S k) w 1 a m c (cX key)) :
  Calls Tryz.prog 19 #[.pointer (some ⟨L.p,0,none⟩),.int .i64 (dD root),.slice a m c] w (Ret λ u w'=>∃ (x e:Int) (root':Option Nat) (g':Pg) (lv':Nat) (l':dS) (ps':List Nat),u=.tuple #[.int .i64 x,.int .i64 e] ∧
   (((∃ y∈l,y.1=key)∧e=0∧x=dD root'∧l'=iK key l)∨((¬ ∃ y∈l,y.1=key)∧(e=2∨e=6)∧(dR key=false→e=2)∧root'=root∧g'=g∧l'=l∧lv'=lv))∧Aft w w' L g g' lv root' lv' l' ps'):=by
 cases hb:dR key with
 | false =>
  have hno:¬ ∃ y∈l,y.1=key:=λ ⟨y,hy,e⟩=>by
   have:=(ht.items y hy).1
   rw [e,hb] at this
   cases this
  refine Calls.mono (delete_bad h.at_ root ht.root_used a m c key hk hb) λ y w' hy=>hy.mono λ u w' ⟨hu,hg⟩=>⟨0,2,root,g,lv,l,ps,hu,.inr ⟨hno,.inl rfl,λ _=>rfl,rfl,rfl,rfl,rfl⟩,⟨h.grow hg,Ext.refl _,ht,by omega,by omega,ButS.grow hg⟩⟩
 | true =>
  cases root with
  | none =>
   have hno:¬ ∃ y∈l,y.1=key:=λ ⟨y,hy,e⟩=>by rw [ht.2.1] at hy;cases hy
   refine Calls.mono (delete_none h.at_ hsp a m c key hk hb) λ y w' hy=>hy.mono λ u w' ⟨hu,hg⟩=>⟨0,6,none,g,lv,l,ps,hu,.inr ⟨hno,.inr rfl,(λ e=>by cases e),rfl,rfl,rfl,rfl⟩,⟨h.grow hg,Ext.refl _,ht,by omega,by omega,ButS.grow hg⟩⟩
  | some n =>
   by_cases hth:∃ y∈l,y.1=key
   ·obtain ⟨fr,r1,g1,lv1,ps1,d1,d2,d3,d4,d5,d6,d7⟩:=del_tr h.at_.ok ht hth (by omega) (by omega)
    refine Calls.mono (delete_c h.at_ h.tab h.ne0 n a m c key hk hb hsp fr d1 r1 d2) λ y w' hy=>hy.mono λ u w' ⟨hu,hp,hbs⟩=>⟨dD r1,0,r1,g1,lv1,_,ps1,hu,.inl ⟨hth,rfl,rfl,rfl⟩,⟨h.put hp hbs,d3,d5,d6,d7,hbs⟩⟩
   ·obtain ⟨hh,nd,ps',e1,e2,e3,e4,e5⟩:=id ht
    obtain ⟨fr,th,p1,p2,p3,p4⟩:=path_tr key hh (f:=16) e2 e3 (by omega)
    have hf:th=false:=by
     cases th with
     | false=>rfl
     | true=>exact absurd (p3.1 rfl) hth
    subst hf
    refine Calls.mono (delete_miss h.at_ hsp n a m c key hk hb fr p1) λ y w' hy=>hy.mono λ u w' ⟨hu,hg⟩=>⟨0,6,some n,g,lv,l,ps,hu,.inr ⟨hth,.inr rfl,(λ e=>by cases e),rfl,rfl,rfl,rfl⟩,⟨h.grow hg,Ext.refl _,ht,by omega,by omega,ButS.grow hg⟩⟩
end Go.Proofs.YtfpadnmdafiddaaGreatDoor
namespace Go.V
open Go Go.RowKit
section
variable [Rn]
variable {P:Program} {n:Nat} {l:List Oper} {e:dN} {I:World→Prop} {vs:List Value}
theorem det_mkG {i j:Nat} {want:Bool} {d:Option Nat} {op:Op} {ty:TypeId} {pos:String} {aft:Array Edge} {v:Value} {e':dN} (ho:l[i]? = some ⟨d,op,ty,pos,aft,some (j,want)⟩) (hv:vs.getD i undef=v) (he:iX l vs (kQ (cD ⟨d,op,ty,pos,aft,some (j,want)⟩)) e=e')
  (h:∀ w,I w→TL P n l.toArray [⟨d,op,ty,pos,aft,some (j,want)⟩] e' w (detQ d v I)):Det P n l e I vs i:=by
 unfold Det
 rw [ho]
 simp only
 intro w hw
 subst he
 rw [hv]
 exact h w hw
end
end Go.V
namespace Go.Proofs.YtfpadnmdafiddaaGreatDoor
open Go Go.RowKit Go.V
end Go.Proofs.YtfpadnmdafiddaaGreatDoor
namespace Go.Proofs.YtfpadnmdafiddaaGreatDoor
open Go Go.RowKit Go.V
end Go.Proofs.YtfpadnmdafiddaaGreatDoor
namespace Go.Proofs.YtfpadnmdafiddaaGreatDoor
open Go Go.RowKit Go.V
def HasOk (F:Nat→Prop) (w:World) (f:Bs→Option Value) (its:dS):Prop:=∀ k,(f k=none∧∀ y∈its,y.1≠k)∨∃ u v,f k=some u∧(k,v)∈its∧BsAt F w u v
theorem HasOk.put {F:Nat→Prop} {w:World} {f:Bs→Option Value} {its:dS} (h:HasOk F w f its) (hs:Srt its) {key v:Bs} {u:Value} (hu:BsAt F w u v):HasOk F w (upG f key u) (hE key v its):=λ k=>by
 by_cases hk:k=key
 ·subst hk
  exact .inr ⟨u,v,by simp [upG],(insI_iff hs).2 (.inl rfl),hu⟩
 ·rcases h k with ⟨h1,h2⟩|⟨u',v',h1,h2,h3⟩
  ·refine .inl ⟨by unfold upG;rw [if_neg hk];exact h1,λ y hy=>?_⟩
   rcases (insI_iff hs).1 hy with rfl|⟨hy,_⟩
   ·exact λ e=>hk e.symm
   ·exact h2 y hy
  ·exact .inr ⟨u',v',by unfold upG;rw [if_neg hk];exact h1,(insI_iff hs).2 (.inr ⟨h2,hk⟩),h3⟩
theorem HasOk.keys {F:Nat→Prop} {w:World} {f:Bs→Option Value} {its:dS} (h:HasOk F w f its) (k:Bs):(∃ v,f k=some v)↔k∈its.map (·.1):=by
 rcases h k with ⟨h1,h2⟩|⟨u,v,h1,h2,h3⟩
 ·rw [h1]
  exact ⟨(λ ⟨v,e⟩=>by cases e),λ hk=>by
   obtain ⟨y,hy,e⟩:=List.mem_map.1 hk
   exact absurd e (h2 y hy)⟩
 ·exact ⟨λ _=>List.mem_map.2 ⟨_,h2,rfl⟩,λ _=>⟨u,h1⟩⟩
def hU (rs:List (Option Nat)):List Value:=rs.map λ r=>.int .i64 (dD r)
variable {B:Nat} {v v':World} {L:PL} {m:Nat} {rv tv:Value} {rs:List (Option Nat)} {ts:List Bs} {f:Bs→Option Value} {its:dS}
end Go.Proofs.YtfpadnmdafiddaaGreatDoor
