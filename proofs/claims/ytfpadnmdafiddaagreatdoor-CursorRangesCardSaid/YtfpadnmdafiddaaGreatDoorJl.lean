import Derived.Test.YtfpadnmdafiddaaGreatDoorJ0
import Derived.Test.YtfpadnmdafiddaaGreatDoorJk
import Derived.Test.YtfpadnmdafiddaaGreatDoorJd
import Derived.WideKeyArgs2
import Derived.Laws.BytesArg
import Derived.Test.YtfpadnmdafiddaaGreatDoorJb
import Derived.Lib.LaidTab
import Derived.LaidLaws
import Derived.Test.YtfpadnmdafiddaaGreatDoorJf
import Derived.Sort.MapsRangeIn
import Derived.Lib.SlKeysI
import Derived.ArgAppend
import Derived.Lib.AppendZeros
import Derived.Lib.AppendZerosOnto
set_option linter.all false
set_option maxHeartbeats 16000000
set_option maxRecDepth 100000
namespace Go.Proofs.YtfpadnmdafiddaaGreatDoor
theorem Vt.height {s:Pg}:∀ {h h':Nat} {nd:Nd} {l l':bQ} {ps a0:List Nat},Vt s h nd l ps→Vt s h' nd l' a0→h=h'
 | 0,h',nd,_,_,_,_,a,b=>by
  have:=b.leaf.1 (a.leaf.2 rfl);omega
 | h+1,0,nd,_,_,_,_,a,b=>by
  have:=a.leaf.1 (b.leaf.2 rfl);omega
 | h+1,h'+1,nd,_,_,_,_,⟨ls,e1,e2,e3,_,_,_,_,e8⟩,⟨ls',f1,f2,f3,_,_,_,_,f8⟩=>by
  rw [e2] at f2
  cases ls with
  | nil=>cases e3
  | cons x r =>
   cases ls' with
   | nil=>cases f3
   | cons y r' =>
    simp only [List.map_cons,List.cons.injEq] at f2;obtain ⟨n1,g1,_,g3⟩:=e8 x sM;obtain ⟨n2,k1,_,k3⟩:=f8 y sM;rw [f2.1,k1] at g1;cases g1;have:=g3.height k3;omega
theorem Vt.many {s:Pg}:∀ {h:Nat} {nd:Nd} {l:bQ} {ps:List Nat},Vt s h nd l ps→aR nd*4^h≤l.length
 | 0,nd,l,ps,h=>by obtain ⟨rfl,_⟩:=h;simp [aR]
 | h+1,nd,l,ps,⟨ls,e1,e2,e3,e4,e5,e6,e7,e8⟩=>by
  have hz:aR nd=ls.length:=by simp [aR,e1,e2]
  rw [hz,e6];clear e6 e3 hz e2 e4 e5 e7
  induction ls with
  | nil=>simp
  | cons x r ih =>
   obtain ⟨a0,g1,g2,g3⟩:=e8 x sM;have h1:=g3.many;have h2:=ih (λ y hy=>e8 y (List.mem_cons_of_mem _ hy));have h3:4*4^h≤aR a0*4^h:=Nat.mul_le_mul_right _ g2;simp only [List.flatMap_cons,List.length_append,List.length_cons,Nat.pow_succ] at h2 ⊢;have h4:(r.length+1)*(4^h*4)=r.length*(4^h*4)+4^h*4:=by rw [Nat.add_mul,Nat.one_mul]
   omega
theorem Vt.pages {s:Pg}:∀ {h:Nat} {nd:Nd} {l:bQ} {ps:List Nat},Vt s h nd l ps→3*ps.length+aR nd≤l.length
 | 0,nd,l,ps,h=>by obtain ⟨rfl,rfl,_⟩:=h;simp [aR]
 | h+1,nd,l,ps,⟨ls,e1,e2,e3,e4,e5,e6,e7,e8⟩=>by
  have hz:aR nd=ls.length:=by simp [aR,e1,e2]
  rw [hz,e6,e7];clear e6 e3 hz e2 e7 e4 e5
  induction ls with
  | nil=>simp
  | cons x r ih =>
   obtain ⟨a0,g1,g2,g3⟩:=e8 x sM;have h1:=g3.pages;have h2:=ih (λ y hy=>e8 y (List.mem_cons_of_mem _ hy));simp only [List.flatMap_cons,List.length_append,List.length_cons] at h2 ⊢;omega
theorem Vt.below {s:Pg}:∀ {h:Nat} {nd:Nd} {l:bQ} {ps:List Nat},Vt s h nd l ps→∀ p∈ps,∃ h' a0 l' e0,h'<h∧cD s p=some a0∧Vt s h' a0 l' e0
 | 0,nd,l,ps,h,p,hp=>by obtain ⟨_,rfl,_⟩:=h;cases hp
 | h+1,nd,l,ps,⟨ls,e1,e2,e3,_,_,e6,e7,e8⟩,p,hp=>by
  rw [e7] at hp;obtain ⟨x,hx,hpx⟩:=List.mem_flatMap.1 hp;obtain ⟨a0,g1,g2,g3⟩:=e8 x hx;rcases List.mem_cons.1 hpx with rfl|hpx
  ·exact ⟨h,a0,_,_,oM,g1,g3⟩
  ·obtain ⟨h',n',l',e0,q1,q2,q3⟩:=g3.below p hpx;exact ⟨h',n',l',e0,oM,q2,q3⟩
def TrAt (s:Pg):Option Nat→Nat→bQ→List Nat→Prop
 | none,lv,l,ps=>lv=0∧l=[]∧ps=[]
 | some n,lv,l,ps=>∃ h nd ps',lv=h+1∧cD s n=some nd∧Vt s h nd l ps'∧1≤aR nd∧ps=n::ps'
theorem TrAt.srt {s:Pg} {r:Option Nat} {lv:Nat} {l:bQ} {ps:List Nat} (h:TrAt s r lv l ps):Srt l:=by
 cases r with
 | none=>rw [h.2.1];exact List.Pairwise.nil
 | some n=>obtain ⟨h,nd,a0,e1,e2,e3,e4,e5⟩:=h;exact e3.srt
theorem TrAt.items {s:Pg} {r:Option Nat} {lv:Nat} {l:bQ} {ps:List Nat} (h:TrAt s r lv l ps):∀ x∈l,eF x.1=true∧fB x.2=true:=by
 cases r with
 | none=>rw [h.2.1];intro x hx;cases hx
 | some n=>obtain ⟨h,nd,a0,e1,e2,e3,e4,e5⟩:=h;exact e3.items
theorem TrAt.lt {s:Pg} (hs:PgOk s) {n lv:Nat} {l:bQ} {ps:List Nat} (h:TrAt s (some n) lv l ps):n<8192:=by
 obtain ⟨h,nd,a0,e1,e2,e3,e4,e5⟩:=h;have:=dW (dL e2);have:=hs.cnt;omega
theorem TrAt.many {s:Pg} {r:Option Nat} {lv:Nat} {l:bQ} {ps:List Nat} (h:TrAt s r lv l ps) (h2:2≤lv):2*4^(lv-1)≤l.length:=by
 cases r with
 | none=>have:=h.1;omega
 | some n =>
  obtain ⟨h,nd,e0,rfl,e2,e3,e4,e5⟩:=h;have h1:=e3.many
  have hz:2≤aR nd:=by
   have a0:=fG e2;obtain ⟨h,rfl⟩:∃ g,h=g+1:=⟨h-1,oM⟩
   have hl:¬ bM nd=true:=λ e=>by have:=e3.leaf.1 e;omega
   unfold bE at a0;rw [if_neg hl] at a0;obtain ⟨_,w2,_⟩:=cC a0;unfold aR;omega
  have h3:2*4^h≤aR nd*4^h:=Nat.mul_le_mul_right _ hz;rw [Nat.add_sub_cancel];omega
theorem TrAt.pages {s:Pg} {r:Option Nat} {lv:Nat} {l:bQ} {ps:List Nat} (h:TrAt s r lv l ps):3*ps.length≤l.length+2:=by
 cases r with
 | none=>rw [h.2.2];simp
 | some n =>
  obtain ⟨h,nd,a0,rfl,e2,e3,e4,rfl⟩:=h;have:=e3.pages;simp only [List.length_cons];omega
theorem TrAt.levels {s:Pg} {r:Option Nat} {lv k:Nat} {l:bQ} {ps:List Nat} (h:TrAt s r lv l ps) (hk:1≤k) (hl:l.length<2*4^k):lv≤k:=by
 by_cases h2:lv≤k
 ·exact h2
 ·have h3:=h.many oM;have h4:4^k≤4^(lv-1):=Nat.pow_le_pow_right oM oM;omega
theorem Ext.spare {s s':Pg} (h:Ext s s'):cR s'≤cR s:=by
 unfold cR
 have:fR s≤fR s':=by
  unfold fR;rw [h.count,← List.countP_eq_length_filter,← List.countP_eq_length_filter];exact List.countP_mono_left λ n _ hn=>(h.used n hn).1
 rw [h.count];omega
theorem TrAt.empty {s:Pg} {r:Option Nat} {lv:Nat} {l:bQ} {ps:List Nat} (h:TrAt s r lv l ps):r=none↔l=[]:=by
 cases r with
 | none=>exact Iff.intro (λ _=>h.2.1) (λ _=>rfl)
 | some n =>
  obtain ⟨h,nd,a0,e1,e2,e3,e4,e5⟩:=h;exact Iff.intro (λ e=>by cases e) (λ e=>absurd e (e3.ne e4))
theorem put_tr {s:Pg} {r:Option Nat} {lv:Nat} {l:bQ} {ps:List Nat} (hs:PgOk s) (h:TrAt s r lv l ps) {key v:Bs} (hk:eF key=true) (hv:fB v=true) (o0:lv≤16) (n0:2*lv+1≤cR s) :
  ∃ n s' lv' f0,putP s r key v=some (n,s')∧Ext s s'∧PgOk s'∧TrAt s' (some n) lv' (hO key v l) f0∧cR s'+lv+f0.length=cR s+ps.length∧cR s≤cR s'+(2*lv+1)∧cR s'≤cR s:=by
 cases r with
 | none =>
  obtain ⟨rfl,rfl,rfl⟩:=h
  have g0:bE ⟨[(key,v)],[],[]⟩=true:=leaf_ok (List.pairwise_singleton _ _) (λ x hx=>by
   rw [List.mem_singleton] at hx;subst hx;exact ⟨hk,hv⟩) sM
  obtain ⟨n,s',e,hw⟩:=iB hs oM g0;have:=hw.spare
  refine ⟨n,s',1,[n],by simpa [putP] using e,hw.ext,hw.ok,⟨0,_,[],rfl,hw.node,⟨rfl,rfl,List.pairwise_singleton _ _,λ x hx=>by
   simp only [hO,List.mem_singleton] at hx;subst hx;exact ⟨hk,hv⟩⟩,by simp [aR,hO],rfl⟩,by simp;omega,oM,oM⟩
 | some n =>
  obtain ⟨h,nd,f0,rfl,e2,e3,e4,rfl⟩:=h;obtain ⟨fr,th,q1,_,q3,up,s',l0,q4,q5,q6,q7⟩:=put_up key v hk hv h (f:=16) hs e2 e3 oM e4 oM
  have k0:∀ {z:Option (Nat×Pg)},(match up.kids with | [k]=>some (k,s')|_=>gZ s' up)=z→putP s (some n) key v=z:=by
   intro z hz;simp only [putP,q1,q4];exact hz
  have a0:=q5.len;have e0:=q5.two;simp only [List.length_cons]
  match l0,q5,a0,e0,q6,q7 with
  | [],q5,a0,_,_,_=>simp at a0
  | [x],q5,a0,_,q6,q7 =>
   obtain ⟨i0,g1,g2,g3⟩:=q5.sub x sM;have hz:1≤aR i0:=by omega
   have hi:hO key v l=x.its:=by rw [q5.its];simp
   rw [pgs_one] at q6 q7;simp only [List.length_cons] at q6 q7;refine ⟨x.page,s',h+1,x.page::x.ps,k0 (by rw [q5.kids];rfl),q5.ext,q5.ok,⟨h,i0,x.ps,rfl,g1,by rw [hi];exact g3,hz,rfl⟩,by simp only [List.length_cons];omega,oM,q5.ext.spare⟩
  | [x,y],q5,a0,_,q6,q7 =>
   have h0:=q5.big rfl
   have j0:Vt s' (h+1) up (hO key v l) (pgs [x,y]):=⟨[x,y],q5.items,q5.kids,q5.len,q5.toks,q5.keys,q5.its,rfl,λ z hz=>by
    obtain ⟨n1,g1,g2,g3⟩:=q5.sub z hz;obtain ⟨n2,g4,g5⟩:=h0 z hz;rw [g1] at g4;cases g4
    exact ⟨n1,g1,g5,g3⟩⟩
   have m0:aR up=2:=by simp [aR,q5.items,q5.kids]
   have g0:=j0.ok q5.ok (.inl oM) oM;obtain ⟨m,s2,w1,w2⟩:=iB q5.ok (by simp [pgs] at q6 q7;omega) g0;have:=w2.spare;refine ⟨m,s2,h+2,m::pgs [x,y],k0 (by rw [q5.kids];exact w1),q5.ext.trans w2.ext,w2.ok,⟨h+1,up,_,rfl,w2.node,j0.ext w2.ext,oM,rfl⟩,by simp only [List.length_cons];omega,oM,(q5.ext.trans w2.ext).spare⟩
  | x::y::z::r,q5,a0,e0,_,_=>simp at e0
theorem getMc (n k:Nat) (t:Part) (M:eW):fX ((n,t)::M) k=if k=n then some t else fX M k:=by
 unfold fX;rw [List.find?_cons];by_cases h:k=n
 ·subst h;simp
 ·rw [if_neg h];have:(n==k)=false:=by simp;omega
  simp [this]
theorem toks_adj:∀ {ls:List Sb} {ks:List Bs},ls.length=ks.length+1→(toks ls ks).Pairwise RT→∀ i k,ks[i]? = some k→(∀ x,ls[i]? = some x→RT (.T x) (.K k))∧∀ y,ls[i+1]? = some y→RT (.K k) (.T y)
 | [],ks,h,_,_,_,_=>by cases h
 | [x],ks,h,_,i,k,hk=>by
  obtain rfl:ks=[]:=List.eq_nil_of_length_eq_zero (by simpa using h.symm);cases hk
 | x::y::r,[],h,_,i,k,hk=>by cases hk
 | x::y::r,k0::ks,h,hp,i,k,hk=>by
  have e:toks (x::y::r) (k0::ks)=Tok.T x::Tok.K k0::toks (y::r) ks:=rfl;rw [e] at hp;obtain ⟨p1,p2⟩:=List.pairwise_cons.1 hp;obtain ⟨p3,p4⟩:=List.pairwise_cons.1 p2
  cases i with
  | zero =>
   simp only [List.getElem?_cons_zero,Option.some.injEq] at hk;subst hk;refine ⟨λ z hz=>?_,λ z hz=>?_⟩
   ·simp only [List.getElem?_cons_zero,Option.some.injEq] at hz;subst hz;exact p1 _ sM
   ·simp only [List.getElem?_cons_succ,List.getElem?_cons_zero,Option.some.injEq] at hz;subst hz;exact p3 _ (by simp [toks])
  | succ i =>
   have ih:=toks_adj (ls:=y::r) (ks:=ks) (by simpa using h) p4 i k (by simpa using hk);exact ⟨λ z hz=>ih.1 z (by simpa using hz),λ z hz=>ih.2 z (by simpa using hz)⟩
def firstK (l:bQ):Bs:=(l.getD 0 ([],[])).1
def lastK (l:bQ):Bs:=(l.getD (l.length-1) ([],[])).1
theorem firstK_mem {l:bQ} (h:l≠[]):∃ x∈l,x.1=firstK l:=by
 cases l with
 | nil=>exact absurd rfl h
 | cons x r=>exact ⟨x,sM,rfl⟩
theorem lastK_mem {l:bQ} (h:l≠[]):∃ x∈l,x.1=lastK l:=by
 have hl:l.length-1<l.length:=by
  cases l with
  | nil=>exact absurd rfl h
  | cons x r=>simp
 refine ⟨l[l.length-1],List.getElem_mem hl,?_⟩;unfold lastK;rw [List.getD_eq_getElem?_getD,List.getElem?_eq_getElem hl];rfl
theorem firstK_append {l r:bQ} (h:l≠[]):firstK (l++r)=firstK l:=by
 cases l with
 | nil=>exact absurd rfl h
 | cons x t=>rfl
theorem lastK_append {l r:bQ} (h:r≠[]):lastK (l++r)=lastK r:=by
 unfold lastK;have hr:0<r.length:=List.length_pos_iff.2 h;rw [List.getD_eq_getElem?_getD,List.getD_eq_getElem?_getD,List.length_append,List.getElem?_append_right oM];congr 3
 omega
def DeepM (M:eW):Nat→Nat→Prop
 | 0,_=>False
 | f+1,n=>∃ t,fX M n=some t∧∀ k∈t.node.kids,DeepM M f k
def SubM (M M':eW):Prop:=∀ k t,fX M k=some t→fX M' k=some t
theorem DeepM.sub {M M':eW} (h:SubM M M'):∀ {f n:Nat},DeepM M f n→DeepM M' f n
 | 0,_,h=>h.elim
 | f+1,n,⟨t,h1,h2⟩=>⟨t,h n t h1,λ k hk=>(h2 k hk).sub h⟩
theorem flatMap_same {α β : Type} {f g : α→List β}:∀ {l:List α},(∀ x∈l,f x=g x)→l.flatMap f=l.flatMap g
 | [],_=>rfl
 | x::r,h=>by
  simp only [List.flatMap_cons];rw [h x sM,flatMap_same λ y hy=>h y (List.mem_cons_of_mem _ hy)]
theorem itemsP_sub {M M':eW} (h:SubM M M'):∀ {f n:Nat},DeepM M f n→fT M' f n=fT M f n
 | 0,_,h=>h.elim
 | f+1,n,⟨t,h1,h2⟩=>by
  rw [fT,fT,h1,h n t h1];simp only;congr 1
  exact flatMap_same λ k hk=>itemsP_sub h (h2 k hk)
structure Known (s:Pg) (M:eW) (n:Nat) (t:Part) (h:Nat) (l:bQ) (ps:List Nat):Prop where
 node:cD s n=some t.node
 vt:Vt s h t.node l ps
 sz:1≤aR t.node
 lv:t.levels=h+1
 low:t.low=firstK l
 high:t.high=lastK l
 deep:DeepM M (h+1) n
 its:fT M (h+1) n=l
 ps:∀ p∈ps,∃ t,fX M p=some t
theorem Known.sub {s:Pg} {M M':eW} (hs:SubM M M') {n h:Nat} {t:Part} {l:bQ} {ps:List Nat} (k:Known s M n t h l ps):Known s M' n t h l ps :=
 ⟨k.node,k.vt,k.sz,k.lv,k.low,k.high,k.deep.sub hs,(itemsP_sub hs k.deep).trans k.its,λ p hp=>let ⟨t,ht⟩:=k.ps p hp;⟨t,hs p t ht⟩⟩
def MemoOk (s:Pg) (M:eW):Prop:=∀ n t,fX M n=some t→∃ h l ps,Known s M n t h l ps
theorem MemoOk.at_ {s:Pg} {M:eW} (hM:MemoOk s M) {n h:Nat} {t:Part} {nd:Nd} {l:bQ} {ps:List Nat} (ht:fX M n=some t) (hn:cD s n=some nd) (hv:Vt s h nd l ps):t.node=nd∧Known s M n t h l ps:=by
 obtain ⟨h',l',a0,k⟩:=hM n t ht;have e:=k.node;rw [hn] at e;cases e;obtain rfl:=hv.height k.vt;obtain ⟨rfl,rfl⟩:=hv.same k.vt;exact ⟨rfl,k⟩
theorem SubM.cons {M:eW} {n:Nat} {t:Part} (h:fX M n=none):SubM M ((n,t)::M):=λ k t' hk=>by
 rw [getMc,if_neg]
 ·exact hk
 ·intro e;subst e;rw [h] at hk;cases hk
theorem MemoOk.cons {s:Pg} {M:eW} (hM:MemoOk s M) {n h:Nat} {t:Part} {l:bQ} {ps:List Nat} (h0:fX M n=none) (k:Known s ((n,t)::M) n t h l ps):MemoOk s ((n,t)::M):=λ m t' hm=>by
 rw [getMc] at hm;split at hm
 ·rename_i e;subst e;cases hm;exact ⟨h,l,ps,k⟩
 ·obtain ⟨h',l',ps',k'⟩:=hM m t' hm;exact ⟨h',l',ps',k'.sub (SubM.cons h0)⟩
def PartT (s:Pg) (h f:Nat):Prop:=∀ {n:Nat} {nd:Nd} {l:bQ} {ps:List Nat} {M:eW},MemoOk s M→cD s n=some nd→Vt s h nd l ps→1≤aR nd →
  ∃ t M',lK s f n M=some (t,M')∧MemoOk s M'∧SubM M M'∧fX M' n=some t∧t.node=nd∧Known s M' n t h l ps∧∀ k t',fX M' k=some t'→(∃ t,fX M k=some t)∨k∈n::ps
theorem kids_tr {s:Pg} {h f:Nat} (hh:h+1≤15) (ih:PartT s h f) {nd:Nd} {ls:List Sb} (e3:ls.length=nd.keys.length+1) (e4:(toks ls nd.keys).Pairwise RT) (e8:∀ x∈ls,∃ nd',cD s x.page=some nd'∧4≤aR nd'∧Vt s h nd' x.its x.ps) :
  ∀ (rest done:List Sb) {M:eW} {t:Part},ls=done++rest→MemoOk s M→t.node=nd→(done≠[]→t.levels=h+2∧t.low=firstK (ls.flatMap (·.its))∧t.high=lastK (done.flatMap (·.its))) →
   ∃ t' M',mG (lK s f) nd (rest.map (·.page)) done.length t M=some (t',M')∧MemoOk s M'∧SubM M M'∧(∀ x∈rest,∃ tx,fX M' x.page=some tx∧Known s M' x.page tx h x.its x.ps)∧(∀ k t',fX M' k=some t'→(∃ t,fX M k=some t)∨k∈pgs rest) ∧
    t'.node=nd∧t'.levels=h+2∧t'.low=firstK (ls.flatMap (·.its))∧t'.high=lastK (ls.flatMap (·.its)):=by
 intro rest
 induction rest with
 | nil =>
  intro done M t e hM hn hd;rw [List.append_nil] at e;subst e;have n0:ls≠[]:=by intro e;subst e;cases e3
  obtain ⟨h1,h2,h3⟩:=hd n0;refine ⟨t,M,?_,hM,λ _ _ h=>h,(λ x hx=>by cases hx),λ k t' hk=>.inl ⟨t',hk⟩,hn,h1,h2,h3⟩;simp only [List.map_nil,mG];rw [if_neg oM]
 | cons x r ihr =>
  intro done M t e hM hn hd;obtain ⟨u0,g1,g2,g3⟩:=e8 x (by rw [e];simp);obtain ⟨p,M1,q1,q2,q3,q4,q5,q6,q7⟩:=ih hM g1 g3 oM;have a0:x.its≠[]:=g3.ne oM;have i0:ls[done.length]? = some x:=by rw [e];simp
  let t1:Part:=if done.length=0 then ⟨nd,p.levels+1,p.low,p.high⟩ else ⟨nd,t.levels,t.low,p.high⟩
  have m0:t1.node=nd∧t1.levels=h+2∧t1.low=firstK (ls.flatMap (·.its))∧t1.high=lastK ((done++[x]).flatMap (·.its)):=by
   have k0:p.high=lastK ((done++[x]).flatMap (·.its)):=by
    rw [q6.high];simp only [List.flatMap_append,List.flatMap_cons,List.flatMap_nil,List.append_nil];exact (lastK_append a0).symm
   simp only [t1];split
   ·rename_i h0;have o0:done=[]:=List.eq_nil_of_length_eq_zero h0;refine ⟨rfl,by rw [q6.lv],?_,k0⟩;rw [q6.low,e,o0];simp only [List.nil_append,List.flatMap_cons];exact (firstK_append a0).symm
   ·rename_i h0;obtain ⟨k1,k2,k3⟩:=hd (λ e=>h0 (by rw [e];rfl));exact ⟨rfl,k1,k2,k0⟩
  obtain ⟨w1,w2,w3,w4⟩:=m0;have t0:¬ aR p.node<4:=by rw [q5];omega
  have s0:(p.levels+1==t1.levels)=true:=by rw [w2,q6.lv];simp
  have q0:(decide (0<done.length)&&decide (bY p.low (nd.keys.getD (done.length-1) [])<0))=false:=by
   by_cases h0:0<done.length
   ·have hk:done.length-1<nd.keys.length:=by
     have:done.length<ls.length:=by rw [e];simp
     omega
    have e0:=List.getElem?_eq_getElem hk;have f0:=(toks_adj e3 e4 (done.length-1) _ e0).2 x (by rw [show done.length-1+1=done.length by omega];exact i0);obtain ⟨y,hy,ey⟩:=firstK_mem a0;have h1:=f0 y hy;rw [ey,← q6.low] at h1;rw [List.getD_eq_getElem?_getD,e0];simp only [Option.getD_some,Bool.and_eq_false_iff,decide_eq_false_iff_not];right;exact h1
   ·simp [h0]
  have p0:(decide (done.length<nd.keys.length)&&decide (0≤bY p.high (nd.keys.getD done.length [])))=false:=by
   by_cases h0:done.length<nd.keys.length
   ·have e0:=List.getElem?_eq_getElem h0;have f0:=(toks_adj e3 e4 done.length _ e0).1 x i0;obtain ⟨y,hy,ey⟩:=lastK_mem a0;have h1:=f0 y hy;rw [ey,← q6.high] at h1;rw [List.getD_eq_getElem?_getD,e0];simp only [Option.getD_some,Bool.and_eq_false_iff,decide_eq_false_iff_not];right;unfold eS at h1;omega
   ·simp [h0]
  obtain ⟨t',M',u1,u2,u3,u4,u5,u6⟩:=ihr (done++[x]) (M:=M1) (t:=t1) (by rw [e];simp) q2 w1 (λ _=>⟨w2,w3,w4⟩);refine ⟨t',M',?_,u2,λ k tk hk=>u3 k tk (q3 k tk hk),?_,?_,u6⟩
  ·simp only [List.map_cons,mG,q1];rw [if_neg]
   ·rw [List.length_append,List.length_cons,List.length_nil] at u1;exact u1
   ·have g0:decide (aR p.node<4)=false:=decide_eq_false t0;rw [show (p.levels+1==(if done.length=0 then (⟨nd,p.levels+1,p.low,p.high⟩:Part) else ⟨nd,t.levels,t.low,p.high⟩).levels)=true from s0];rw [g0,q0,p0];simp
  ·intro y hy;rcases List.mem_cons.1 hy with rfl|hy
   ·exact ⟨p,u3 _ _ q4,q6.sub u3⟩
   ·exact u4 y hy
  ·intro k tk hk;rcases u5 k tk hk with ⟨t2,l0⟩|j0
   ·rcases q7 k t2 l0 with h1|h1
    ·exact .inl h1
    ·right;unfold pgs;simp only [List.flatMap_cons,List.mem_append];exact .inl h1
   ·right;unfold pgs at j0 ⊢;simp only [List.flatMap_cons,List.mem_append];exact .inr j0
theorem part_tr (s:Pg):∀ (h f:Nat),h<f→h≤15→PartT s h f:=by
 intro h
 induction h with
 | zero =>
  intro f hf j0 n nd l ps M hM hn hv hz
  cases hg:fX M n with
  | some t =>
   obtain ⟨k1,k2⟩:=hM.at_ hg hn hv;exact ⟨t,M,by unfold lK;rw [hg],hM,λ _ _ h=>h,hg,k1,k2,λ k t' hk=>.inl ⟨t',hk⟩⟩
  | none =>
   obtain ⟨f,rfl⟩:∃ g,f=g+1:=⟨f-1,oM⟩
   have h0:=hv.leaf.2 rfl;obtain ⟨rfl,rfl,h3,h4⟩:=id hv
   have f0:Known s ((n,fJ ⟨l,[],[]⟩)::M) n (fJ ⟨l,[],[]⟩) 0 l []:=by
    have e0:fX ((n,fJ ⟨l,[],[]⟩)::M) n=some (fJ ⟨l,[],[]⟩):=by rw [getMc,if_pos rfl]
    exact ⟨hn,hv,hz,rfl,rfl,rfl,⟨_,e0,(λ k hk=>by cases hk)⟩,(by rw [fT,e0];simp [fJ]),(λ p hp=>by cases hp)⟩
   refine ⟨fJ ⟨l,[],[]⟩,(n,fJ ⟨l,[],[]⟩)::M,?_,hM.cons hg f0,SubM.cons hg,by rw [getMc,if_pos rfl],rfl,f0,λ k t' hk=>?_⟩
   ·unfold lK;rw [hg];simp only [hn];rw [if_pos h0]
   ·rw [getMc] at hk;split at hk
    ·rename_i e;exact .inr (by simp [e])
    ·exact .inl ⟨t',hk⟩
 | succ h ih =>
  intro f hf j0 n nd l ps M hM hn hv hz
  cases hg:fX M n with
  | some t =>
   obtain ⟨k1,k2⟩:=hM.at_ hg hn hv;exact ⟨t,M,by unfold lK;rw [hg],hM,λ _ _ h=>h,hg,k1,k2,λ k t' hk=>.inl ⟨t',hk⟩⟩
  | none =>
   obtain ⟨f,rfl⟩:∃ g,f=g+1:=⟨f-1,oM⟩
   have h0:¬ bM nd=true:=λ e=>by have:=hv.leaf.1 e;omega
   obtain ⟨ls,e1,e2,e3,e4,e5,e6,e7,e8⟩:=id hv;obtain ⟨t,M1,u1,u2,u3,u4,u5,u6,u7,u8,u9⟩:=kids_tr j0 (ih f oM oM) e3 e4 e8 ls [] (M:=M) (t:=⟨nd,0,[],[]⟩) rfl hM rfl (λ h=>absurd rfl h)
   have i0:fX M1 n=none:=by
    cases hc:fX M1 n with
    | none=>rfl
    | some tc =>
     rcases u5 n tc hc with ⟨t2,h2⟩|h2
     ·rw [hg] at h2;cases h2
     ·have k0:n∈ps:=by rw [e7];exact h2
      obtain ⟨h',m0,l',l0,k1,k2,k3⟩:=hv.below n k0;rw [hn] at k2;cases k2;have:=hv.height k3;omega
   have e0:fX ((n,t)::M1) n=some t:=by rw [getMc,if_pos rfl]
   have a0:SubM M1 ((n,t)::M1):=SubM.cons i0
   have f0:Known s ((n,t)::M1) n t (h+1) l ps:=by
    refine ⟨by rw [u6];exact hn,by rw [u6];exact hv,by rw [u6];exact hz,u7,by rw [u8,e6],by rw [u9,e6],⟨t,e0,λ k hk=>?_⟩,?_,λ p hp=>?_⟩
    ·rw [u6,e2] at hk;obtain ⟨x,hx,rfl⟩:=List.mem_map.1 hk;obtain ⟨tx,_,kx⟩:=u4 x hx;exact kx.deep.sub a0
    ·rw [fT,e0];simp only [u6,e1,List.nil_append,e2,e6];rw [List.flatMap_map]
     exact flatMap_same λ x hx=>by
      obtain ⟨tx,_,kx⟩:=u4 x hx;exact (itemsP_sub a0 kx.deep).trans kx.its
    ·rw [e7] at hp;obtain ⟨x,hx,g0⟩:=List.mem_flatMap.1 hp;obtain ⟨tx,h1,kx⟩:=u4 x hx;rcases List.mem_cons.1 g0 with rfl|g0
     ·exact ⟨tx,a0 _ _ h1⟩
     ·obtain ⟨tp,h2⟩:=kx.ps p g0;exact ⟨tp,a0 _ _ h2⟩
   refine ⟨t,(n,t)::M1,?_,u2.cons i0 f0,λ k tk hk=>a0 k tk (u3 k tk hk),e0,u6,f0,λ k tk hk=>?_⟩
   ·unfold lK;rw [hg];simp only [hn];rw [if_neg h0,e2];simp only [List.length_nil] at u1;rw [u1]
   ·rw [getMc] at hk;split at hk
    ·rename_i e;exact .inr (by simp [e])
    ·rcases u5 k tk hk with h1|h1
     ·exact .inl h1
     ·right;rw [e7];exact List.mem_cons_of_mem _ h1
theorem tree_tr {s:Pg} {r:Option Nat} {lv:Nat} {l:bQ} {ps:List Nat} (h:TrAt s r lv l ps) (e0:lv≤16) :
  ∃ M,treeP s r []=some (lv,M)∧(∀ n,r=some n→∃ f,DeepM M f n∧l=fT M f n)∧∀ k,(∃ t,fX M k=some t)↔k∈ps:=by
 cases r with
 | none =>
  obtain ⟨rfl,rfl,rfl⟩:=h;exact ⟨[],rfl,(λ n hn=>by cases hn),λ k=>⟨(λ ⟨t,ht⟩=>by simp [fX] at ht),(λ hk=>by cases hk)⟩⟩
 | some n =>
  obtain ⟨h,nd,a0,rfl,e2,e3,e4,rfl⟩:=h;obtain ⟨t,M,q1,q2,q3,q4,q5,q6,q7⟩:=part_tr s h 16 oM oM (M:=[]) (λ n t ht=>by simp [fX] at ht) e2 e3 e4;refine ⟨M,?_,λ m hm=>?_,λ k=>⟨λ ⟨tk,hk⟩=>?_,λ hk=>?_⟩⟩
  ·simp only [treeP,q1];rw [if_neg (by rw [q5];omega),q6.lv]
  ·cases hm;exact ⟨h+1,q6.deep,q6.its.symm⟩
  ·rcases q7 k tk hk with ⟨t2,h2⟩|h2
   ·simp [fX] at h2
   ·exact h2
  ·rcases List.mem_cons.1 hk with rfl|hk
   ·exact ⟨t,q4⟩
   ·exact q6.ps k hk
end Go.Proofs.YtfpadnmdafiddaaGreatDoor
namespace Go.V
open Go Go.RowKit
structure AppTo (w:World) (v:Value) (w':World) (v':Value):Prop where
 by_:w.grownBy w' v.ownBlock
 new:∀ j,j<w.heap.size→v.ownBlock≠some j→v'.ownBlock≠some j
theorem AppTo.refl (w:World) (v:Value):AppTo w v w v:=⟨⟨rfl,rfl,rfl,Nat.le_refl _,λ _ _ _=>rfl⟩,λ _ _ h=>h⟩
theorem AppTo.trans {w w1 w2:World} {v v1 v2:Value} (h:AppTo w v w1 v1) (k:AppTo w1 v1 w2 v2):AppTo w v w2 v2 :=
 ⟨⟨k.by_.os.trans h.by_.os,k.by_.tape.trans h.by_.tape,k.by_.output.trans h.by_.output,Nat.le_trans h.by_.size k.by_.size,λ j hj a0=>(k.by_.block j (Nat.lt_of_lt_of_le hj h.by_.size) (λ e=>h.new j hj (λ e2=>a0 e2.symm) e.symm)).trans (h.by_.block j hj a0)⟩,
  λ j hj a0=>k.new j (Nat.lt_of_lt_of_le hj h.by_.size) (h.new j hj a0)⟩
theorem AppTo.grow {w w':World} (v:Value) (g:Grow w w'):AppTo w v w' v:=⟨⟨g.1.os,g.1.tape,g.1.output,g.2,λ k hk _=>g.block k hk⟩,λ _ _ h=>h⟩
theorem AppTo.upd {w0 w w':World} {v0 v:Value} {b:Nat} (h:AppTo w0 v0 w v) (u:Upd b w w') (hb:w0.heap.size≤b):AppTo w0 v0 w' v :=
 ⟨⟨u.os.trans h.by_.os,u.tape.trans h.by_.tape,u.output.trans h.by_.output,by rw [u.size];exact h.by_.size,λ k hk a0=>(u.block k oM).trans (h.by_.block k hk a0)⟩,h.new⟩
theorem AppTo.below {w w':World} {v v':Value} {B:Nat} (h:AppTo w v w' v') (hB:B≤w.heap.size) (hv:∀ j,v.ownBlock=some j→B≤j):Below B w w' :=
 ⟨h.by_.os,h.by_.tape,h.by_.output,h.by_.size,λ k hk=>h.by_.block k oM (λ e=>by have:=hv k e.symm;omega)⟩
theorem Carry.below {G:Nat→Prop} {w w':World} {B:Nat} (h:Below B w w') (hG:∀ k,G k→k<B):Carry G w G w':=⟨h.size,λ k hk _=>⟨hk,h.block k (hG k hk)⟩⟩
end Go.V
namespace Go.Proofs.YtfpadnmdafiddaaGreatDoor
open Go Go.RowKit Go.V
theorem kN (F:Nat→Prop) (v:Value) (l:Bs) (w:World) (i0:BsAt F w v l) (hm:l.length≤100000) :
  Calls Tryz.prog 95 #[v] w (Ret λ u w'=>BsAt (λ k=>w.heap.size≤k) w' u l∧Grow w w'):=by
 obtain ⟨a,c,rfl,hs⟩:=i0.sl;refine V.calls (args:=[_]) Tryz.func95 rfl Tryz.ntmps95 rfl rfl ?_
 cases a with
 | none =>
  have a0:=hs.row;simp only [Row] at a0;have h0:l=[]:=by simpa [bB] using a0
  subst h0;repeat refine dB ?_
  exact bA rfl ⟨_,rfl,⟨_,_,_,rfl,by simp [bB],Nat.le_refl _,Nat.zero_le _,λ _=>rfl,by simp [Row,bB]⟩,yG⟩
 | some ad =>
  repeat (first|refine dB ?_|refine yI λ bk w' hg j0 k0 f0=>?_)
  refine lF rfl rfl (eI (base:=w.heap.size) j0 oM) (hs.grow yG) (bP l) oM oM rfl ?_;intro v w2 e0 l0;repeat refine dB ?_
  obtain ⟨a2,c2,rfl,g0⟩:=aN e0;exact bA rfl ⟨_,rfl,⟨_,_,_,rfl,g0.mono (λ k hk=>hk.1)⟩,yG⟩
structure ItsOwn (B:Nat) (w:World) (v:Value) (l:bQ):Prop where
 ex:∃ cs,w.ownsRow B 58 2 v l.length cs∧ItCells (λ j=>B≤j∧v.ownBlock≠some j) w cs l
theorem ItsOwn.nil (B:Nat) (w:World):ItsOwn B w (.slice none 0 0) []:=⟨[],World.ownsRow_nil w B _ _,trivial⟩
theorem ItsOwn.at_ {B:Nat} {w:World} {v:Value} {l:bQ} (h:ItsOwn B w v l):∃ a c,v=.slice a l.length c∧ItsAt (λ k=>B≤k) w a l.length c l:=by
 obtain ⟨cs,h1,h2⟩:=h.ex;obtain ⟨a,c,rfl,hs⟩:=aN h1;exact ⟨a,c,rfl,cs,hs.mono (λ k hk=>hk.1),h2.go (Carry.mono λ k hk _=>hk.1)⟩
theorem ItsOwn.grow {B:Nat} {w w':World} {v:Value} {l:bQ} (h:ItsOwn B w v l) (g:Grow w w'):ItsOwn B w' v l:=by
 obtain ⟨cs,h1,h2⟩:=h.ex;exact ⟨cs,aS h1 g,h2.go (Carry.grow g)⟩
theorem ItsOwn.upd {B b:Nat} {w w':World} {v:Value} {l:bQ} (h:ItsOwn B w v l) (u:Upd b w w') (hb:b<B):ItsOwn B w' v l:=by
 obtain ⟨cs,h1,h2⟩:=h.ex;exact ⟨cs,gD h1 u hb,h2.go (Carry.upd u λ k hk _=>by omega)⟩
theorem ItsOwn.lt {B:Nat} {w:World} {v:Value} {l:bQ} (h:ItsOwn B w v l):∀ j,v.ownBlock=some j→B≤j∧j<w.heap.size:=by
 obtain ⟨cs,h1,h2⟩:=h.ex;exact h1.lt
def bsF {B:Nat} (B0:Nat) (l:Bs):SFact B:={ G:=λ v _ _ w=>BsAt (λ k=>B0≤k) w v l,st:=λ v _ _ w w' g h=>h.go (Carry.grow g) }
def itF {B:Nat} (B0:Nat) (x:Bs×Bs):SFact B:={ G:=λ v _ _ w=>∃ kv vv,v=.agg #[kv,vv]∧BsAt (λ k=>B0≤k) w kv x.1∧BsAt (λ k=>B0≤k) w vv x.2,st:=λ v _ _ w w' g h=>by obtain ⟨kv,vv,h0,h1,h2⟩:=h;exact ⟨kv,vv,h0,h1.go (Carry.grow g),h2.go (Carry.grow g)⟩ }
theorem itemsP_at {M:eW} {f n:Nat} {t:Part} (h:fX M n=some t):fT M (f+1) n=t.node.items++t.node.kids.flatMap (fT M f):=by
 rw [fT,h]
def ItemsC (M:eW) (f:Nat):Prop:=∀ (w:World) (B b m p n:Nat) (v:Value) (acc:bQ) (G:Nat→Prop),DeepM M f n→n<4294967296→Blk w b 226 [.pointer (some ⟨p,0,none⟩),.map (some m)]→MemAt G w m M→(∀ k,G k→k<B)→b<B→m<B→B≤w.heap.size→ItsOwn B w v acc→(acc++fT M f n).length≤1000000 →
 Calls Tryz.prog 101 #[.pointer (some ⟨b,0,none⟩),.int .i64 (n:Int),v] w (Ret λ u w'=>ItsOwn B w' u (acc++fT M f n)∧AppTo w v w' u)
theorem items_of {M:eW} {f:Nat} (ih:ItemsC M f):ItemsC M (f+1):=by
 intro w B b m p n v m1 G b1 hn i3 hM k3 d4 y3 i6 hv m0;obtain ⟨t,j2,y4⟩:=b1;rw [itemsP_at j2] at m0 ⊢;have h6:=i3.lt;have p4:=hM.lt;have t0:=hv.lt;refine V.calls (args:=[_,_,_]) Tryz.func101 rfl Tryz.ntmps101 rfl rfl ?_;repeat refine aF ?_
 refine aB 163 ?_;refine aA rfl (wnode_c i3 hM hn j2) rfl ?_;rintro _ w1 ⟨x,rfl,hx,g3⟩;have z1:=g3.size;repeat (first|refine aF ?_|refine yI λ bk w' hg o0 x1 u0=>?_|refine yJ λ w' hu o0 x1=>?_)
 obtain ⟨b7,rfl⟩:=yE bk;have e0:Grow w w':=g3.trans (aI hu oM hg);have e2:NdAt G w' x t.node:=hx.go (Carry.grow (aI hu oM hg));have e7:Blk w' b7 79 x.cs:=o0;have l5:=i3.grow e0;have q5:MemAt G w' m M:=hM.go (Carry.grow e0) (e0.block m p4);have s3:=hv.grow e0;have z0:=e0.size;have q7:w.heap.size≤b7∧b7<w'.heap.size:=by have:=hu.size;omega
 have n7:v.ownBlock≠some b7:=λ e=>by have:=t0 b7 e;omega
 clear o0 hu hg g3 hx;obtain ⟨w0,rfl⟩:=yE w';obtain ⟨w5,o3,v5⟩:=e2.nums
 have g0:bE t.node=true:=by
  obtain ⟨fm,c6,d6,q4⟩:=id hM;obtain ⟨y,lo,hi,_,l4⟩:=q4 n t j2;exact l4.ok
 have h8:=sizeN_le g0;have t5:x.n1≤8∧x.n2≤8:=by unfold aR at h8;omega
 obtain ⟨s5,r5⟩:=t5;obtain ⟨cs,g5,h5⟩:=e2.its.ex;have g1:∀ {w1:World} {v1:Value},AppTo w0 v w1 v1→Below B w0 w1:=λ h=>h.below oM (λ j hj=>(t0 j hj).1)
 refine aX (S:=Nat×Value) (λ q=>[(18,.int .i64 (q.1:Int)),(17,.int .i64 (x.n1:Int)),(16,.slice x.a1 x.n1 x.c1),(7,.pointer (some ⟨b7,0,none⟩)),(2,q.2),(0,.pointer (some ⟨b,0,none⟩))])
  (λ q w1=>q.1≤x.n1∧ItsOwn B w1 q.2 (m1++t.node.items.take q.1)∧AppTo w0 v w1 q.2∧Blk w1 b7 79 x.cs∧q.2.ownBlock≠some b7) (λ q=>x.n1-q.1) (0,v) ⟨rfl,rfl,rfl,rfl,rfl,rfl,trivial⟩
  ⟨by simp only;omega,by simpa using s3,AppTo.refl _ _,e7,n7⟩ ?_
 clear s3 e7;rintro ⟨i,v1⟩ w1 ⟨hi,l0,s0,e7,o1⟩;simp only at hi l0 s0 o1;have z1:=s0.by_.size;have k0:=l0.lt;have c1:Carry G w0 G w1:=Carry.below (g1 s0) k3;by_cases z3:i<x.n1
 ·obtain ⟨el,y0⟩:∃ q,t.node.items[i]? = some q:=⟨_,List.getElem?_eq_getElem oM⟩
  have n0:=g5.go c1
  have t4:el.1.length≤16∧el.2.length≤32:=by
   have v4:bM t.node=true:=by
    cases hc:bM t.node with
    | true=>rfl
    | false =>
     unfold bE at g0;rw [hc] at g0;simp only [Bool.false_eq_true,if_false] at g0;rw [(cC g0).1] at y0;simp at y0
   unfold bE at g0;rw [if_pos v4] at g0;have a4:=lU (cO g0).2.2 (List.mem_of_getElem? y0);exact ⟨(eB a4.1).2,gW a4.2⟩
  obtain ⟨s4,r4⟩:=t4;obtain ⟨kv,vv,f0,f1,hk,h2⟩:=(h5.go c1).at' y0;obtain ⟨ka,kc,rfl,x4⟩:=hk.sl;obtain ⟨va,vc,rfl,j4⟩:=h2.sl;rw [Nat.mul_comm] at f0 f1;have u1:t.node.items.take (i+1)=t.node.items.take i++[el]:=by rw [List.take_add_one,y0];rfl
  repeat (first|(refine aH ?_;refine aC (j:=i) rfl rfl rfl z3 rfl ⟨_,_,n0⟩ rfl ?_)|(refine aO ?_;refine cB (o:=i*2) rfl (n0.grow yG) (two_at f0 f1) rfl rfl ?_)|refine yC ?_|refine yI λ bk w' hg o0 x1 u0=>?_|refine yJ λ w' hu o0 x1=>?_)
  obtain ⟨b9,rfl⟩:=yE bk;have a0:Grow w1 w':=aI hu oM hg;have j5:Blk w' b9 58 [.slice ka el.1.length kc,.slice va el.2.length vc]:=o0;have p3:=l0.grow a0;have g4:=e7.grow a0;have d3:BsAt G w' (.slice ka el.1.length kc) el.1:=hk.go (Carry.grow a0);have g2:BsAt G w' (.slice va el.2.length vc) el.2:=h2.go (Carry.grow a0);have z9:w1.heap.size≤w'.heap.size:=a0.2;have n5:AppTo w0 v w' v1:=s0.trans (AppTo.grow v1 a0);clear o0 hu hg l0 e7 n0 x4 j4 hk h2 c1 x1 u0;obtain ⟨w9,rfl⟩:=yE w';apply T.any 9 [is v1,is (.pointer (some ⟨b9,0,none⟩)),is (.slice ka el.1.length kc),bsF w9.heap.size el.1,is (.pointer (some ⟨b9,1,none⟩)),is (.slice va el.2.length vc),bsF w9.heap.size el.2,itF w9.heap.size el,itsF (λ k=>w9.heap.size≤k) 1 [el]]
  ·rfl
  ·repeat' (first|exact aM|refine aK ?_ ?_)
   iterate 3
    ·refine yQ λ wq _ _ h0=>?_;repeat refine aF ?_
     exact aD rfl yG rfl
   ·refine yQ λ wq _ _ h0=>?_;have zq:=h0.size;refine aB 95 ?_;refine aA rfl (kN G _ el.1 _ (d3.go (Carry.grow h0)) oM) rfl ?_;rintro u wr ⟨hu,f5⟩;repeat refine aF ?_
    exact aD rfl yG (hu.go (Carry.mono λ k hk _=>by omega))
   iterate 2
    ·refine yQ λ wq _ _ h0=>?_;repeat refine aF ?_
     exact aD rfl yG rfl
   ·(((refine bR rfl rfl rfl ?_);( intro wq _ _ h0;(repeat (refine aJ rfl rfl ?_;intro vq q0;try (obtain rfl:=q0)));(refine aY ?_))))
    have zq:=h0.size;refine aB 95 ?_;refine aA rfl (kN G _ el.2 _ (g2.go (Carry.grow h0)) oM) rfl ?_;rintro u wr ⟨hu,f5⟩;repeat refine aF ?_
    exact aD rfl yG (hu.go (Carry.mono λ k hk _=>by omega))
   ·refine bR rfl rfl rfl ?_;intro wq _ _ h0;refine aJ rfl rfl ?_;intro kv y2;refine aJ rfl rfl ?_;intro vv f2;refine aY ?_;obtain ⟨q1,q2,rfl,q3⟩:=BsAt.sl y2;obtain ⟨r1,r2,rfl,r3⟩:=BsAt.sl f2;repeat refine aF ?_
    exact aD rfl yG ⟨_,_,rfl,⟨_,_,_,rfl,q3⟩,⟨_,_,_,rfl,r3⟩⟩
   ·refine bR rfl rfl rfl ?_;intro wq _ _ h0;refine aJ rfl rfl ?_;rintro vq ⟨kv,vv,rfl,y2,f2⟩;refine aY ?_;have zq:=h0.size;obtain ⟨q1,q2,rfl,q3⟩:=BsAt.sl y2;obtain ⟨r1,r2,rfl,r3⟩:=BsAt.sl f2;refine TL.buildSlice rfl rfl rfl rfl rfl ?_;intro b' wa c4 k5 a6 z5 y5;have c5:ItsAt (λ k=>w9.heap.size≤k) wa (some ⟨b',0,none⟩) 1 1 [el]:=⟨_,(aU (sz:=2) (m:=1) (show Blk wa b' 58 [.slice q1 el.1.length q2,.slice r1 el.2.length r2] from k5) rfl dM).mono (λ k hk=>by subst hk;omega),⟨_,_,_,rfl,q3.grow c4⟩,⟨_,_,_,rfl,r3.grow c4⟩,trivial⟩
    repeat refine aF ?_
    exact aD rfl yG ⟨_,_,rfl,c5⟩
  ·intro wt x5 a5 y1 _ _;refine aJ rfl rfl ?_;intro vq q0;obtain rfl:=Eq.symm q0;iterate 7 (refine aJ rfl rfl ?_;intro vq q0;try (obtain rfl:=q0))
   refine aJ rfl rfl ?_;rintro vt ⟨av,cv,rfl,u2⟩;refine aY ?_;have zt:=y1.size;obtain ⟨h4,m4,x3⟩:=u2.ex;obtain ⟨u5,x0,u3⟩:=(p3.grow y1).ex;have f4:=g4.grow y1;have m5:AppTo w0 v wt v1:=n5.trans (AppTo.grow v1 y1)
   have f6:(m1++t.node.items.take i).length+1≤1000000:=by
    simp only [List.length_append,List.length_take] at m0 ⊢;omega
   refine dU rfl rfl x0 m4 (ItCells.one x3) (by unfold maxLen;omega) oM oM rfl ?_;intro v' d2 v0 b4 j0;have e4:AppTo wt v1 d2 v':=⟨b4,λ j hj o4=>((j0 (λ _=>True)).blk j ⟨trivial,o4⟩ hj).1.2⟩
   have m3:Blk d2 b7 79 x.cs:=dO f4 (b4.block b7 oM (λ e=>o1 e.symm));have x2:ItCells (λ j=>B≤j∧v'.ownBlock≠some j) d2 h4 [el]:=(x3.go (F':=λ j=>B≤j∧v1.ownBlock≠some j) (Carry.mono λ k hk _=>⟨oM,λ e=>by have:=k0 k e;omega⟩)).go (j0 _);have s2:=(u3.go (j0 (λ j=>B≤j))).append x2;have i4:v'.ownBlock≠some b7:=e4.new b7 oM o1;clear q0 x0 u3 j0 f4 g4 p3;repeat refine aF ?_
   refine aE (i+1,v') ⟨rfl,rfl,rfl,rfl,rfl,rfl,trivial⟩ ⟨by simp only;omega,?_,m5.trans e4,m3,i4⟩ (by simp only;omega);simp only [u1];rw [← List.append_assoc];exact ⟨_,by simpa only [List.length_append,List.length_cons,List.length_nil] using v0,s2⟩
 ·have d5:i=x.n1:=by omega
  subst d5;rw [List.take_of_length_le oM] at l0;repeat refine aF ?_
  refine aX (S:=Nat×Value) (λ q=>[(36,.int .i64 (q.1:Int)),(35,.int .i64 (x.n2:Int)),(34,.slice x.a2 x.n2 x.c2),(2,q.2),(0,.pointer (some ⟨b,0,none⟩))])
   (λ q w2=>q.1≤x.n2∧ItsOwn B w2 q.2 (m1++(t.node.items++(t.node.kids.take q.1).flatMap (fT M f)))∧AppTo w0 v w2 q.2) (λ q=>x.n2-q.1) (0,v1) ⟨rfl,rfl,rfl,rfl,rfl,trivial⟩
   ⟨by simp only;omega,by simpa using l0,s0⟩ ?_
  clear l0 e7 o1 k0 c1 s0 z1 hi z3;rintro ⟨j,v2⟩ w2 ⟨hj,s1,h1⟩;simp only at hj s1 h1;have z2:=h1.by_.size;have j3:=g1 h1;have c2:Carry G w0 G w2:=Carry.below j3 k3;have j1:=e2.kids.go c2;by_cases u4:j<x.n2
  ·obtain ⟨p0,i0⟩:∃ q,t.node.kids[j]? = some q:=⟨_,List.getElem?_eq_getElem oM⟩
   have g6:w2.cell? (at' x.a2 j)=some (.int .i64 (p0:Int)):=j1.row.cell (by rw [show bC t.node.kids=t.node.kids.map λ (k:Nat)=>(.int .i64 (k:Int):Value) from rfl,List.getElem?_map,i0];rfl);have u1:t.node.kids.take (j+1)=t.node.kids.take j++[p0]:=by rw [List.take_add_one,i0];rfl
   have f3:p0<4294967296:=by
    unfold bE at g0
    have n4:bM t.node=false:=by
     cases hc:bM t.node with
     | true=>rw [bL] at hc;rw [hc] at o3;simp at o3;omega
     | false=>rfl
    rw [n4] at g0;simp only [Bool.false_eq_true,if_false] at g0;obtain ⟨_,_,_,_,o2,_⟩:=cC g0;have:=kid_ok o2 (List.mem_of_getElem? i0);omega
   have h3:Blk w2 b 226 [.pointer (some ⟨p,0,none⟩),.map (some m)]:=dO l5 (j3.block b d4);have p5:MemAt G w2 m M:=q5.go c2 (j3.block m y3)
   have w4:((m1++(t.node.items++(t.node.kids.take j).flatMap (fT M f)))++fT M f p0).length≤1000000:=by
    have t3:(t.node.kids.flatMap (fT M f)).length=((t.node.kids.take (j+1)).flatMap (fT M f)).length+((t.node.kids.drop (j+1)).flatMap (fT M f)).length:=by
     rw [← List.length_append,← List.flatMap_append,List.take_append_drop]
    rw [u1] at t3;simp only [List.length_append,List.flatMap_append,List.flatMap_cons,List.flatMap_nil,List.length_nil] at t3 m0 ⊢;omega
   have e1:=ih w2 B b m p p0 v2 (m1++(t.node.items++(t.node.kids.take j).flatMap (fT M f))) G (y4 p0 (List.mem_of_getElem? i0)) f3 h3 p5 k3 d4 y3 oM s1 w4;repeat (first|(refine aH ?_;refine aC (j:=j) rfl rfl rfl u4 (Nat.mul_one _) ⟨_,_,j1⟩ rfl ?_)|refine yC ?_)
   refine aB 101 ?_;refine aA rfl e1 rfl ?_;rintro v3 w3 ⟨k4,o5⟩;repeat refine aF ?_
   refine aE (j+1,v3) ⟨rfl,rfl,rfl,rfl,rfl,trivial⟩ ⟨by simp only;omega,?_,h1.trans o5⟩ (by simp only;omega);simp only [u1,List.flatMap_append,List.flatMap_cons,List.flatMap_nil,List.append_nil];simpa only [List.append_assoc] using k4
  ·have z4:j=x.n2:=by omega
   subst z4;rw [List.take_of_length_le oM] at s1;repeat refine aF ?_
   exact bA rfl ⟨_,rfl,s1,(AppTo.grow v e0).trans h1⟩
theorem items_c (M:eW):∀ f,ItemsC M f
 | 0=>λ w B b m p n v a0 G hd=>hd.elim
 | f+1=>items_of (items_c M f)
theorem all_c {L:PL} {g:Pg} {w:World} {lv:Nat} {M':eW} {a0:Option Nat} (h:PgAt w L g) (hr:∀ n,a0=some n→n<4294967296) (ht:treeP g a0 []=some (lv,M')) (l:bQ) (hl:l.length≤1000000)
  (hd:∀ n,a0=some n→∃ f,DeepM M' f n∧l=fT M' f n) (hn:a0=none→l=[]) :
  Calls Tryz.prog 27 #[.pointer (some ⟨L.p,0,none⟩),.int .i64 (dC a0)] w (Ret λ v w'=>(∃ a c,v=.tuple #[.slice a l.length c,.int .i64 0]∧ItsAt (λ k=>w.heap.size≤k) w' a l.length c l)∧Grow w w'):=by
 have l0:=h.lts;refine V.calls (args:=[_,_]) Tryz.func27 rfl Tryz.ntmps27 rfl rfl ?_;repeat refine dB ?_
 refine aB 87 ?_;refine aA rfl (walk_new L.p w) rfl ?_;rintro _ w1 ⟨b,m,rfl,hb,hm,e0,o0⟩;have t0:=e0.blk.lt;have s0:=e0.map.lt;repeat refine dB ?_
 refine aB 88 ?_;refine aA rfl (walked_c h o0 e0 hb hm hr ht) rfl ?_;rintro _ w2 ⟨rfl,hM,j0,g0⟩;have z2:=g0.size;have h0:=j0.lt;have f0:=hM.lt
 cases a0 with
 | none =>
  obtain rfl:=hn rfl;simp only [dC];repeat refine dB ?_
  exact eZ rfl rfl ⟨_,rfl,⟨none,0,rfl,jN⟩,g0⟩
 | some n =>
  obtain ⟨f,p0,rfl⟩:=hd n rfl;have hn:=hr n rfl;simp only [dC];have q0:(((n:Nat):Int)==-1)=false:=by rw [beq_eq_false_iff_ne];omega
  repeat refine dB ?_
  refine aB 101 ?_;refine aA rfl (items_c M' f w2 w2.heap.size b m L.p n (.slice none 0 0) [] (λ k=>k<w2.heap.size∧k≠m) p0 hn j0 (hM.go (Carry.mono λ k hk hl=>⟨hl,hk⟩) rfl) (λ k hk=>hk.1) h0 f0 (Nat.le_refl _) (ItsOwn.nil _ _) (by simpa using hl)) rfl ?_;rintro v3 w3 ⟨i0,k0⟩;rw [List.nil_append] at i0;obtain ⟨a,c,rfl,m0⟩:=i0.at_;have n0:Grow w2 w3:=⟨k0.below (Nat.le_refl _) (λ j hj=>by cases hj),k0.by_.size⟩
  repeat refine dB ?_
  exact eZ rfl rfl ⟨_,rfl,⟨a,c,rfl,m0.go (Carry.mono λ k hk _=>by omega)⟩,g0.trans n0⟩
end Go.Proofs.YtfpadnmdafiddaaGreatDoor
namespace Go.V
open Go Go.RowKit Go.ChangeShapes Go.WideShapes Go.MapKept Go.ChangeMaps
def txt (l:List Nat):ByteArray:=strOfNums (l.map λ (b:Nat)=>(b:Int))
theorem txt_list (l:List Nat):(txt l).toList=l.map UInt8.ofNat:=by
 have h1:(txt l).data.toList=l.map UInt8.ofNat:=by
  rw [txt,strOfNums_data,List.map_map];apply List.map_congr_left;intro x _;simp
 rw [ByteArray.toList_eq,h1]
theorem txt_size (l:List Nat):(txt l).size=l.length:=by
 have:(txt l).data.toList.length=l.length:=by
  rw [txt,strOfNums_data];simp
 rw [← this];rfl
theorem txt_append (l r:List Nat):txt (l++r)=txt l++txt r:=by
 apply ByteArray.ext;apply Array.ext';rw [txt,strOfNums_data,ByteArray.data_append,Array.toList_append,txt,strOfNums_data,txt,strOfNums_data];simp
section
variable [Rn]
variable {P:Program} {n:Nat} {e:dJ} {w:World} {Q:dG} {ops:Array Oper} {rest:List Oper} {d:Nat} {ty:TypeId} {pos:String} {aft:Array Edge}
theorem StrTy.und {t:TypeId} (h:StrTy P t):P.underlying t=some .string:=by
 have h:=h.h;unfold strB at h;split at h
 ·assumption
 ·cases h
theorem run_convS {a0 e0 el:TypeId} (hs:P.underlying a0=some (.slice el)) (he:P.underlying el=some (.int .u8)) (hd:P.underlying e0=some .string) {F:Nat→Prop} {a:Option Addr} {m c:Nat} {l:List Nat} (h:Sl F w 1 a m c (l.map λ (b:Nat)=>Value.int .u8 (b:Int))) :
  (convert a0 e0 (.slice a m c)).run P w=.ok (.string (txt l)) w:=by
 have hl:=h.len;simp only [List.length_map,Nat.mul_one] at hl
 cases a with
 | none =>
  have h0:=h.nil rfl;have h1:=h.cap;have:l=[]:=List.eq_nil_of_length_eq_zero oM;subst this;rw [run_convert_bytes_nil w a0 el hs he m c e0 hd];rfl
 | some p =>
  obtain ⟨b,o,s⟩:=p;by_cases h0:l=[]
  ·subst h0;simp only [List.length_nil] at hl;subst hl;rw [run_convert_bytes_string w a0 e0 el _ 0 c hs he hd,run_bytesToString w _ 0 c [] (by simp [Builtin.firstCells,loadCells,loadCellsFrom])];rfl
  ·have hr:=h.row (by simpa using h0);obtain ⟨f0,_,_,hc⟩:=hr;simp only at f0;subst f0
   exact run_convert_bytes_arg w a0 el hs he b o m c (l.map λ (b:Nat)=>(b:Int)) (by simpa using hl) (λ i hi=>by
    have:=hc i (.int .u8 ((l.getD i 0:Nat):Int)) (by simp [List.getElem?_eq_getElem (show i<l.length by omega)]);rw [this]
    simp [List.getElem?_eq_getElem (show i<l.length by omega)]) e0 hd
theorem gJ {a0 e0 el size bytes:TypeId} {x:Operand} {F:Nat→Prop} {a:Option Addr} {m c:Nat} {l:List Nat} [ht:SliceTy P a0 el size bytes] [he:IntTy P el .u8] [hs:StrTy P e0]
  (hx:val e x=some (.slice a m c)) (h:Sl F w 1 a m c (l.map λ (b:Nat)=>Value.int .u8 (b:Int))) (hd:Nat.blt d n=true)
  (k:TL P n ops rest ((d,.string (txt l))::e) w Q):TL P n ops (⟨some d,.convert a0 e0 x,ty,pos,aft,none⟩::rest) e w Q :=
 TL.run (λ r hr=>by simp [execOp,hr.eval hx,run_convS ht.und he.und hs.und h]) hd k
theorem TL.neS {x y:Operand} {s t:ByteArray} {t1 t2:TypeId} {b:Bool} (hx:val e x=some (.string s)) (hy:val e y=some (.string t)) (h:(!(s.toList==t.toList))=b) (hd:Nat.blt d n=true)
  (k:TL P n ops rest ((d,.bool b)::e) w Q):TL P n ops (⟨some d,.binOp .neq t1 x y t2,ty,pos,aft,none⟩::rest) e w Q :=
 TL.run (λ r hr=>by
  have hg:eqGuard .neq t1 x y (.string s) (.string t)=Pure.pure ():=rfl;simp only [execOp,hr.eval hx,hr.eval hy,hg]
  simp [binOp,Op.stringOp,← h]) hd k
theorem TL.eqS {x y:Operand} {s t:ByteArray} {t1 t2:TypeId} {b:Bool} (hx:val e x=some (.string s)) (hy:val e y=some (.string t)) (h:(s.toList==t.toList)=b) (hd:Nat.blt d n=true)
  (k:TL P n ops rest ((d,.bool b)::e) w Q):TL P n ops (⟨some d,.binOp .eql t1 x y t2,ty,pos,aft,none⟩::rest) e w Q :=
 TL.run (λ r hr=>by
  have hg:eqGuard .eql t1 x y (.string s) (.string t)=Pure.pure ():=rfl;simp only [execOp,hr.eval hx,hr.eval hy,hg]
  simp [binOp,Op.stringOp,← h]) hd k
theorem TL.addS {x y:Operand} {l r:List Nat} {t1 t2:TypeId} (hx:val e x=some (.string (txt l))) (hy:val e y=some (.string (txt r))) (h:l.length+r.length≤1000000) (hd:Nat.blt d n=true)
  (k:TL P n ops rest ((d,.string (txt (l++r)))::e) w Q):TL P n ops (⟨some d,.binOp .add t1 x y t2,ty,pos,aft,none⟩::rest) e w Q :=
 TL.run (λ q hr=>by
  have hg:eqGuard .add t1 x y (.string (txt l)) (.string (txt r))=Pure.pure ():=rfl;simp only [execOp,hr.eval hx,hr.eval hy,hg]
  have h1:¬ ((((txt l).size+(txt r).size:Nat):Int) > IntKind.i64.max):=by
   rw [txt_size,txt_size];simp [IntKind.max,IntKind.bits,IntKind.signed];omega
  simp [binOp,Op.stringOp,txt_append,txt_size]
  omega) hd k
end
class KeyIs {α : Type} (P:Program) (kt:TypeId) (κ : α→Value) (ok : α→Prop):Prop where
 keyed:Maps.Keyed P kt
 key:∀ a,ok a→∃ l,keyOf P kt (κ a)=some l
 inj:∀ a b,ok a→ok b→κ a = κ b→a=b
def MapG {α : Type} (κ : α→Value) (ok : α→Prop) (w:World) (m:Nat) (f : α→Option Value):Prop:=∃ es clock,w.heap[m]? = some (.map es clock)∧(∀ x∈es.toList,∃ n : α,ok n∧x.key = κ n∧f n=some x.val) ∧
 (∀ n v,f n=some v→ok n∧∃ x∈es.toList,x.key = κ n)∧es.toList.Pairwise λ x y=>x.key≠y.key
section
variable [Rn]
variable {P:Program} {n:Nat} {e:dJ} {w w':World} {Q:dG} {ops:Array Oper} {rest:List Oper} {d:Nat} {ty:TypeId} {pos:String} {aft:Array Edge} {α : Type} {κ : α→Value} {ok : α→Prop}
theorem MapG.lt {m:Nat} {f : α→Option Value} (h:MapG κ ok w m f):m<w.heap.size:=by
 obtain ⟨es,c,h1,_⟩:=h;exact (Array.getElem?_eq_some_iff.1 h1).1
theorem MapG.keep {m:Nat} {f : α→Option Value} (h:MapG κ ok w m f) (hk:w'.heap[m]? = w.heap[m]?):MapG κ ok w' m f:=by
 obtain ⟨es,c,h1,h2⟩:=h;exact ⟨es,c,by rw [hk];exact h1,h2⟩
theorem MapG.grow {m:Nat} {f : α→Option Value} (g:Grow w w') (h:MapG κ ok w m f):MapG κ ok w' m f:=h.keep (g.block m h.lt)
theorem MapG.find {kt m:Nat} (ht:KeyIs P kt κ ok) {f : α→Option Value} (h:MapG κ ok w m f) {k : α} (hk:ok k) :
  ∃ es c,w.heap[m]? = some (.map es c)∧(match f k with
   | none=>(Instr.findKey kt (κ k) es.toList).run P w=.ok none w∧∀ x∈es.toList,x.key≠κ k
   | some v=>∃ j e0,(Instr.findKey kt (κ k) es.toList).run P w=.ok (some (j,v)) w∧es.toList[j]? = some e0∧e0.key = κ k) ∧
   (∀ x∈es.toList,∃ n : α,ok n∧x.key = κ n∧f n=some x.val)∧(∀ n v,f n=some v→ok n∧∃ x∈es.toList,x.key = κ n)∧es.toList.Pairwise λ x y=>x.key≠y.key:=by
 obtain ⟨es,c,h1,h2,h3,h5⟩:=h;refine ⟨es,c,h1,?_,h2,h3,h5⟩
 have a0:∀ u∈es.toList,∃ l,keyOf P kt u.key=some l:=λ u hu=>by
  obtain ⟨n,hn,e1,_⟩:=h2 u hu;rw [e1];exact ht.key n hn
 rcases ht.keyed.find w (ht.key k hk).choose_spec es.toList a0 with ⟨g1,g2⟩|⟨j,e0,g1,g2,g3⟩
 ·cases hf:f k with
  | none=>exact ⟨g1,g2⟩
  | some v=>obtain ⟨_,x,hx,e⟩:=h3 k v hf;exact absurd e (g2 x hx)
 ·obtain ⟨n,hn,e1,e2⟩:=h2 e0 (List.mem_of_getElem? g2);rw [g3] at e1;have f0:n=k:=ht.inj _ _ hn hk e1.symm;subst f0;rw [e2];exact ⟨j,e0,g1,g2,g3⟩
def upG [DecidableEq α] (f : α→Option Value) (k : α) (u:Value) : α→Option Value:=λ j=>if j=k then some u else f j
end
def okS (l:List Nat):Prop:=(∀ x∈l,x<256)∧l.length≤1000000
def keyS (l:List Nat):Value:=.string (txt l)
end Go.V
namespace Go.Proofs.YtfpadnmdafiddaaGreatDoor
open Go Go.RowKit Go.V
theorem spare_pg0 (c:Nat):cR (pg0 c)=c:=by
 have:fR (pg0 c)=0:=by
  unfold fR;rw [List.length_eq_zero_iff,List.filter_eq_nil_iff];intro n _;rw [nK];simp
 unfold cR;rw [this];rfl
structure PgW (w:World) (L:PL) (g:Pg):Prop where
 at_:PgAt w L g
 tab:TabAt w
 ne0:¬ L.S 0
theorem PgW.grow {w w':World} {L:PL} {g:Pg} (h:PgW w L g) (gr:Grow w w'):PgW w' L g:=⟨h.at_.grow gr,h.tab.keep (gr.block 0 h.tab.1) gr.size,h.ne0⟩
theorem PgW.put {w w':World} {L:PL} {g g':Pg} (h:PgW w L g) (ha:PgAt w' L g') (b:ButS L.S w w'):PgW w' L g':=⟨ha,h.tab.buts b h.ne0,h.ne0⟩
def ActCells (F:Nat→Prop) (w:World):List Value→List (Int×Bs×Bs)→Prop
 | [],[]=>True
 | v1::v2::v3::cs,a::l=>(v1=.int .i64 a.1∧BsAt F w v2 a.2.1∧BsAt F w v3 a.2.2)∧ActCells F w cs l
 | _,_=>False
theorem ActCells.go {F F':Nat→Prop} {w w':World} (g:Carry F w F' w'):∀ {cs:List Value} {l:List (Int×Bs×Bs)},ActCells F w cs l→ActCells F' w' cs l
 | [],[],_=>trivial
 | [],_::_,h=>h.elim
 | _::_,[],h=>by
  rename_i v cs
  match cs,h with
  | [],h=>exact h.elim
  | [_],h=>exact h.elim
  | _::_::_,h=>exact h.elim
 | [_],_::_,h=>h.elim
 | [_,_],_::_,h=>h.elim
 | _::_::_::_,_::_,⟨⟨h1,h2,h3⟩,h6⟩=>⟨⟨h1,h2.go g,h3.go g⟩,ActCells.go g h6⟩
theorem ActCells.at' {F:Nat→Prop} {w:World}:∀ {l:List (Int×Bs×Bs)} {cs:List Value} {i:Nat} {x:Int×Bs×Bs},ActCells F w cs l→l[i]? = some x→∃ k v,cs[i*3]? = some (.int .i64 x.1)∧cs[i*3+1]? = some k∧cs[i*3+2]? = some v∧BsAt F w k x.2.1∧BsAt F w v x.2.2
 | [],_,i,nd,_,hx=>by simp at hx
 | _::_,[],_,_,h,_=>h.elim
 | _::_,[_],_,_,h,_=>h.elim
 | _::_,[_,_],_,_,h,_=>h.elim
 | y::l,v1::v2::v3::cs,0,x,⟨⟨h1,h2,h3⟩,_⟩,hx=>by
  simp only [List.getElem?_cons_zero,Option.some.injEq] at hx;subst hx;exact ⟨v2,v3,by simp [h1],rfl,rfl,h2,h3⟩
 | y::l,v1::v2::v3::cs,i+1,x,⟨_,h⟩,hx=>by
  obtain ⟨k,v,h1,h2,h3,h4⟩:=ActCells.at' h (by simpa using hx);refine ⟨k,v,?_,?_,?_,h4⟩
  ·rw [show (i+1)*3=i*3+1+1+1 by omega];simpa using h1
  ·rw [show (i+1)*3+1=i*3+1+1+1+1 by omega];simpa using h2
  ·rw [show (i+1)*3+2=i*3+2+1+1+1 by omega];simpa using h3
end Go.Proofs.YtfpadnmdafiddaaGreatDoor
namespace Go.Proofs.YtfpadnmdafiddaaGreatDoor
theorem insI_iff {key v:Bs} {y:Bs×Bs}:∀ {l:bQ},Srt l→(y∈hO key v l↔y=(key,v)∨(y∈l∧y.1≠key))
 | [],_=>by simp [hO]
 | x::l,h=>by
  obtain ⟨h1,h2⟩:=List.pairwise_cons.1 h;have ih:=insI_iff (key:=key) (v:=v) (y:=y) h2;unfold hO;by_cases hx:eS x.1 key
  ·rw [if_pos hx,List.mem_cons,ih,List.mem_cons];have hne:x.1≠key:=λ e=>fK key (by rw [e] at hx;exact hx);constructor
   ·rintro (rfl|h|⟨h,h'⟩)
    ·exact .inr ⟨.inl rfl,hne⟩
    ·exact .inl h
    ·exact .inr ⟨.inr h,h'⟩
   ·rintro (h|⟨h|h,h'⟩)
    ·exact .inr (.inl h)
    ·exact .inl h
    ·exact .inr (.inr ⟨h,h'⟩)
  ·rw [if_neg hx];by_cases he:x.1=key
   ·rw [if_pos he,List.mem_cons,List.mem_cons]
    have hl:∀ z∈l,z.1≠key:=λ z hz e=>by
     have:=h1 z hz;rw [he,e] at this;exact fK _ this
    constructor
    ·rintro (h|h)
     ·exact .inl h
     ·exact .inr ⟨.inr h,hl y h⟩
    ·rintro (h|⟨rfl|h,h'⟩)
     ·exact .inl h
     ·exact absurd he h'
     ·exact .inr h
   ·rw [if_neg he,List.mem_cons,List.mem_cons]
    have hk:eS key x.1:=by
     rcases klt_or key x.1 with g|g|g
     ·exact g
     ·exact absurd g.symm he
     ·exact absurd g hx
    have hl:∀ z∈l,z.1≠key:=λ z hz e=>by
     have:=eL hk (h1 z hz);rw [e] at this;exact fK _ this
    constructor
    ·rintro (h|h|h)
     ·exact .inl h
     ·subst h;exact .inr ⟨.inl rfl,he⟩
     ·exact .inr ⟨.inr h,hl y h⟩
    ·rintro (h|⟨h,h'⟩)
     ·exact .inl h
     ·exact .inr h
end Go.Proofs.YtfpadnmdafiddaaGreatDoor
namespace Go.Proofs.YtfpadnmdafiddaaGreatDoor
open Go Go.RowKit Go.V
theorem PgW.other {w w':World} {L:PL} {g:Pg} {S:Nat→Prop} (h:PgW w L g) (b:ButS S w w') (hL:∀ k,k=L.p∨k=L.d∨k=L.u∨k=L.m→¬ S k) (h0:¬ S 0):PgW w' L g :=
 ⟨h.at_.keep (λ k hk=>b.block k (by have:=h.at_.lts;omega) (hL k hk)),h.tab.buts b h0,h.ne0⟩
theorem ButS.sub {S S':Nat→Prop} {w w':World} (h:ButS S w w') (hs:∀ k,S k→S' k):ButS S' w w':=⟨h.os,h.tape,h.output,h.size,λ k hk hn=>h.block k hk λ e=>hn (hs k e)⟩
theorem fV {S:Nat→Prop} {w w0 w1:World} (hg:Grow w w0) (h:ButS S w0 w1) (hm:∀ k,S k→w.heap.size≤k):Grow w w1 :=
 ⟨⟨h.os.trans hg.1.os,h.tape.trans hg.1.tape,h.output.trans hg.1.output,by have:=hg.2;have:=h.size;omega,λ k hk=>(h.block k (by have:=hg.2;omega) (λ e=>by have:=hm k e;omega)).trans (hg.block k hk)⟩,by have:=hg.2;have:=h.size;omega⟩
end Go.Proofs.YtfpadnmdafiddaaGreatDoor
namespace Go.Proofs.YtfpadnmdafiddaaGreatDoor
open Go Go.RowKit Go.V Go.ChangeShapes Go.WideShapes Go.ChangeAt
set_option maxRecDepth 100000
theorem tab_laid {W:World} {name:String} {zs:List Int} (hz:zs=tabB.map λ (x:Nat)=>(x:Int)) (hg:(Tryz.prog).globalNamed name=some 0) (e0:((Tryz.prog).globals[0]?).map (·.type)=some 238) (h:laidMet Tryz.prog [(name,Lib.tabData .u8 zs)] W):TabAt W:=by
 have hT:=Lib.tabIs_of_head hg e0 Tryz.underlying238 Tryz.underlying5 kR kR h
 obtain ⟨a0,t,fr,hb,ha⟩:∃ a0 t fr,W.heap[0]? = some (.cells a0 t fr)∧a0=(zs.map λ z=>Value.int .u8 z).toArray:=by
  unfold Lib.TabIs World.var? at hT;rw [hg] at hT;simp only [Option.bind_some] at hT;split at hT
  ·rename_i cs t fr hb;exact ⟨cs,t,fr,hb,Option.some.inj hT⟩
  ·cases hT
 refine ⟨(Array.getElem?_eq_some_iff.1 hb).1,λ j x hj=>?_⟩;simp only [World.cell?,hb];rw [ha,hz];simp [hj]
section
variable {H:Type} {enc:TypeId×Value→H} {P:Program} {W:World}
theorem flat_len {L:List (List Value)} {sz:Nat} (h:∀ x∈L,x.length=sz):L.flatten.length=L.length*sz:=by
 induction L with
 | nil=>simp
 | cons x r ih =>
  rw [List.flatten_cons,List.length_append,ih λ y hy=>h y (List.mem_cons_of_mem _ hy),h x sM,List.length_cons,Nat.add_mul];omega
theorem flat_at {sz:Nat}:∀ {L:List (List Value)} {i r:Nat} {x:List Value},(∀ x∈L,x.length=sz)→L[i]? = some x→r<sz→L.flatten[i*sz+r]? = x[r]?
 | [],i,r,x,_,hx,_=>by simp at hx
 | y::L,0,r,x,h,hx,hr=>by
  simp only [List.getElem?_cons_zero,Option.some.injEq] at hx;subst hx;rw [List.flatten_cons,List.getElem?_append_left (by rw [h y sM];omega)];simp
 | y::L,i+1,r,x,h,hx,hr=>by
  rw [List.flatten_cons,List.getElem?_append_right (by rw [h y sM,Nat.add_mul];omega),h y sM,show (i+1)*sz+r-sz=i*sz+r by rw [Nat.add_mul];omega];exact flat_at (λ z hz=>h z (List.mem_cons_of_mem _ hz)) (by simpa using hx) hr
theorem sls_in {t e:TypeId} {sz fuel:Nat} {c:Value} {x:DataW H×List MemPlace} (ht:P.underlying t=some (.slice e)) (hc:P.cellsOf e=sz) (h0:0<sz) (h:DataW.trod enc P W 0 (λ _=>true) true fuel t [c]=some x) :
  ∃ (a:Option Addr) (n m:Nat) (k0:List (List Value)),c=.slice a n m∧k0.length=n∧Sl (λ k=>k<W.heap.size) W sz a n m k0.flatten∧∀ q∈k0,q.length=sz∧∃ f y,DataW.trod enc P W 0 (λ _=>true) true f e q=some y:=by
 rcases DataW.trod_slice ht h with ⟨g0,_⟩|⟨p,len,s0,m0,rest,n,_,g0,_,hb,hl,hm,o0,p0,_,_⟩
 ·simp only [List.cons.injEq,and_true] at g0;subst g0;exact ⟨none,0,0,[],rfl,rfl,Sl.nil_mk _ _ _,sM⟩
 ·simp only [List.cons.injEq,and_true] at g0;subst g0
  have e0:∀ i,i<len→∃ q y,W.cells? 0 (p.add (i*sz)) sz=some q∧DataW.trod enc P W 0 (λ _=>true) true n e q=some y:=λ i hi=>by
   have h1:=p0 i hi;rw [hc,List.getElem?_eq_getElem oM,Option.bind_eq_some_iff] at h1;obtain ⟨q,h2,h3⟩:=h1;exact ⟨q,_,h2,h3⟩
  have q0:∀ i,i<len→((List.range len).map λ i=>(W.cells? 0 (p.add (i*sz)) sz).getD [])[i]? = W.cells? 0 (p.add (i*sz)) sz:=λ i hi=>by
   obtain ⟨q,y,h1,_⟩:=e0 i hi;rw [List.getElem?_map,List.getElem?_range hi,Option.map_some,h1];rfl
  have a0:∀ q∈(List.range len).map (λ i=>(W.cells? 0 (p.add (i*sz)) sz).getD []),q.length=sz∧∃ f y,DataW.trod enc P W 0 (λ _=>true) true f e q=some y:=λ q hq=>by
   obtain ⟨i,hi,rfl⟩:=List.mem_map.1 hq;obtain ⟨q,y,h1,h2⟩:=e0 i (List.mem_range.1 hi);rw [h1];exact ⟨(World.cells?_some h1).2.1,n,y,h2⟩
  refine ⟨some p,len,s0,(List.range len).map λ i=>(W.cells? 0 (p.add (i*sz)) sz).getD [],rfl,sM,⟨by rw [flat_len λ q hq=>(a0 q hq).1];simp,hl,hm,(λ h=>by cases h),λ hn=>?_⟩,a0⟩
  have j0:0<len:=by
   rcases Nat.eq_zero_or_pos len with h|h
   ·subst h;simp at hn
   ·exact h
  obtain ⟨q,y,h1,_⟩:=e0 0 j0;have h2:=(World.cells?_some h1).2.2 0 h0;have n0:0<q.length:=by rw [(World.cells?_some h1).2.1];exact h0
  rw [List.getElem?_eq_getElem n0,Nat.zero_mul,show (p.add 0).add 0=p from rfl] at h2;have hs:p.spot=none:=World.cell?_spot h2;obtain ⟨b,o,s⟩:=p;simp only at hs;subst hs;have f0:=World.block_lt_of_cell? W _ h2;simp only at f0
  have i0:∀ i r v,i<len→r<sz→(((List.range len).map λ i=>(W.cells? 0 ((⟨b,o,none⟩:Addr).add (i*sz)) sz).getD []).flatten)[i*sz+r]? = some v→W.cell? ⟨b,o+(i*sz+r),none⟩=some v:=λ i r v hi hr hv=>by
   obtain ⟨q,y,h1,_⟩:=e0 i hi;rw [flat_at (λ q hq=>(a0 q hq).1) ((q0 i hi).trans h1) hr] at hv;have h2:=(World.cells?_some h1).2.2 r hr;rw [← hv,← h2,Addr.add_lit,Addr.add_lit,Nat.add_assoc]
  refine ⟨rfl,f0,f0,λ j v hj=>?_⟩;have l0:=(List.getElem?_eq_some_iff.1 hj).1;rw [flat_len λ q hq=>(a0 q hq).1,List.length_map,List.length_range] at l0;have:=i0 (j / sz) (j%sz) v (Nat.div_lt_of_lt_mul (by rw [Nat.mul_comm];exact l0)) (Nat.mod_lt _ h0) (by rw [Nat.mul_comm,Nat.div_add_mod];exact hj);rw [Nat.mul_comm,Nat.div_add_mod] at this;exact this
theorem bytes_in:∀ (l:List Int),(∀ z∈l,(Lit.int .u8 z).wf=true)→∃ r:List Nat,l.map (Value.int .u8)=bB r∧∀ x∈r,x<256
 | [],_=>⟨[],rfl,sM⟩
 | z::l,h=>by
  obtain ⟨r,h1,h2⟩:=bytes_in l (λ y hy=>h y (List.mem_cons_of_mem _ hy));have hz:=h z sM;have a0:0≤z∧z≤255:=by simpa [Lit.wf,IntKind.min,IntKind.max,IntKind.signed,IntKind.bits] using hz
  refine ⟨z.toNat::r,?_,?_⟩
  ·simp only [List.map_cons,bB,h1];congr 2
   omega
  ·intro x hx;rcases List.mem_cons.1 hx with rfl|hx
   ·omega
   ·exact h2 x hx
theorem bs_in {t e:TypeId} {fuel:Nat} {c:Value} {x:DataW H×List MemPlace} (ht:P.underlying t=some (.slice e)) (he:P.underlying e=some (.int .u8)) (hc:P.cellsOf e=1) (h:DataW.trod enc P W 0 (λ _=>true) true fuel t [c]=some x) :
  ∃ b,BsAt (λ k=>k<W.heap.size) W c b∧fL b:=by
 obtain ⟨a,n,m,zs,rfl,hs,hz⟩:=sl_in ht he hc h;obtain ⟨r,h1,h2⟩:=bytes_in zs hz;rw [h1] at hs;exact ⟨r,⟨a,n,m,rfl,hs⟩,h2⟩
end
set_option maxRecDepth 100000
theorem its_in {H:Type} {enc:TypeId×Value→H} {W:World}:∀ {a0:List (List Value)},(∀ q∈a0,q.length=2∧∃ f y,DataW.trod enc Tryz.prog W 0 (λ _=>true) true f 58 q=some y) →
  ∃ l:bQ,ItCells (λ k=>k<W.heap.size) W a0.flatten l∧l.length=a0.length∧∀ x∈l,fL x.1∧fL x.2
 | [],_=>⟨[],trivial,rfl,sM⟩
 | q::a0,h=>by
  obtain ⟨l,h1,h2,h3⟩:=its_in (λ y hy=>h y (List.mem_cons_of_mem _ hy));obtain ⟨hq,f,y,hy⟩:=h q sM
  match q,hq with
  | [c1,c2],_ =>
   obtain ⟨xs,n,_,_,_,hxl,hat⟩:=DataW.trod_struct Tryz.underlying58 hy;have e1:=hat 0 _ rfl;have e2:=hat 1 _ rfl;have hxl2:xs.length=2:=hxl;rw [List.getElem?_eq_getElem oM] at e1 e2;obtain ⟨b1,hb1,hy1⟩:=bs_in (c:=c1) Tryz.underlying30 Tryz.underlying5 kR e1;obtain ⟨b2,hb2,hy2⟩:=bs_in (c:=c2) Tryz.underlying30 Tryz.underlying5 kR e2;refine ⟨(b1,b2)::l,⟨hb1,hb2,h1⟩,by simp [h2],λ x hx=>?_⟩;rcases List.mem_cons.1 hx with rfl|hx
   ·exact ⟨hy1,hy2⟩
   ·exact h3 x hx
section
variable {H:Type} {enc:TypeId×Value→H} {P:Program} {w:World}
theorem cells_in {r:Reach} {b0:Nat} {t e:TypeId} {v:Value} {d:DataW H} {ps:List MemPlace} (ht:P.underlying t=some (.slice e)) (a0:Value.okWide P w r b0 t v) (hd:DataW.Trod enc P w 0 (λ _=>true) true t v d ps) :
  ∃ fuel,DataW.trod enc P w 0 (λ _=>true) true fuel t [v]=some (d,ps):=by
 obtain ⟨fuel,hf⟩:=hd;refine ⟨fuel,?_⟩
 have:v.cells.toList=[v]:=by
  simp only [Value.okWide,ht,Cell.okWide] at a0;cases v<;>simp_all [Cell.ok,Value.cells]
 rwa [this] at hf
end
theorem key_in {H:Type} {enc:TypeId×Value→H} {W:World} {b0:Nat} {v:Value} {d:DataW H} {ps:List MemPlace} (a0:Value.okWide Tryz.prog W .any b0 30 v) (hd:DataW.Trod enc Tryz.prog W 0 (λ _=>true) true 30 v d ps) :
  ∃ a c b,v=.slice a b.length c∧Sl (λ k=>k<W.heap.size) W 1 a b.length c (bB b)∧fL b:=by
 obtain ⟨fu,hy⟩:=cells_in Tryz.underlying30 a0 hd;obtain ⟨b,hb,e0⟩:=bs_in (c:=v) Tryz.underlying30 Tryz.underlying5 kR hy;obtain ⟨a,c,rfl,hs⟩:=hb.sl;exact ⟨a,c,b,rfl,hs,e0⟩
theorem items_in {H:Type} {enc:TypeId×Value→H} {W:World} {b0:Nat} {v:Value} {d:DataW H} {ps:List MemPlace} (a0:Value.okWide Tryz.prog W .any b0 54 v) (hd:DataW.Trod enc Tryz.prog W 0 (λ _=>true) true 54 v d ps) :
  ∃ a n c l,v=.slice a n c∧ItsAt (λ k=>k<W.heap.size) W a n c l∧∀ x∈l,fL x.1∧fL x.2:=by
 obtain ⟨fu,hy⟩:=cells_in Tryz.underlying54 a0 hd;obtain ⟨a,n,c,g0,rfl,f0,hs,e0⟩:=sls_in (sz:=2) Tryz.underlying54 kR oM hy;obtain ⟨l,h1,h2,h3⟩:=its_in e0;exact ⟨a,n,c,l,rfl,⟨_,hs,h1⟩,h3⟩
theorem span_in {H:Type} {enc:TypeId×Value→H} {W:World} {b0:Nat} {v:Value} {d:DataW H} {ps:List MemPlace} (a0:Value.okWide Tryz.prog W .any b0 92 v) (hd:DataW.Trod enc Tryz.prog W 0 (λ _=>true) true 92 v d ps) :
  ∃ fa fc fr ta tc to back most,v=.agg #[.slice fa fr.length fc,.slice ta to.length tc,.bool back,.int .i64 most]∧Sl (λ k=>k<W.heap.size) W 1 fa fr.length fc (bB fr)∧Sl (λ k=>k<W.heap.size) W 1 ta to.length tc (bB to)∧fL fr∧fL to∧(-9223372036854775808≤most∧most≤9223372036854775807):=by
 obtain ⟨fuel,hf⟩:=hd;unfold Value.okWide at a0;rw [Tryz.underlying92] at a0;obtain ⟨cs,rfl,hn,_⟩:=a0;obtain ⟨cs⟩:=cs
 have l0:cs.length=4:=by
  have h4:(Tryz.prog).cellsOf 92=4:=by kernel_rfl
  rw [h4] at hn;simpa using hn
 have hf:DataW.trod enc Tryz.prog W 0 (λ _=>true) true fuel 92 cs=some (d,ps):=hf
 match cs,l0 with
 | [c0,c1,c2,c3],_ =>
  obtain ⟨xs,n,_,_,_,k0,f0⟩:=DataW.trod_struct Tryz.underlying92 hf;have e0:=f0 0 _ rfl;have e1:=f0 1 _ rfl;have e2:=f0 2 _ rfl;have e3:=f0 3 _ rfl;have j0:xs.length=4:=k0;rw [List.getElem?_eq_getElem oM] at e0 e1 e2 e3;obtain ⟨fr,h0,i0⟩:=bs_in (c:=c0) Tryz.underlying30 Tryz.underlying5 kR e0;obtain ⟨to,h1,g0⟩:=bs_in (c:=c1) Tryz.underlying30 Tryz.underlying5 kR e1;obtain ⟨b,eb,_⟩:=DataW.trod_bool Tryz.underlying4 e2;obtain ⟨k,ek,_,hw⟩:=DataW.trod_int Tryz.underlying3 e3;obtain ⟨fa,fc,rfl,s0⟩:=h0.sl;obtain ⟨ta,tc,rfl,s1⟩:=h1.sl
  have n0:c2=.bool b:=by
   have:[c2]=[Value.bool b]:=eb;simpa using this
  have m0:c3=.int .i64 k:=by
   have:[c3]=[Value.int .i64 k]:=ek;simpa using this
  have hk : -9223372036854775808≤k∧k≤9223372036854775807:=by simpa [Lit.wf,IntKind.min,IntKind.max,IntKind.signed,IntKind.bits] using hw
  subst n0;subst m0;exact ⟨fa,fc,fr,ta,tc,to,b,k,rfl,s0,s1,i0,g0,hk⟩
end Go.Proofs.YtfpadnmdafiddaaGreatDoor
namespace Go.V
open Go Go.RowKit Go.ChangeShapes Go.WideShapes Go.MapKept Go.ChangeMaps
theorem nodup_leG {α : Type} [DecidableEq α]:∀ {l r:List α},l.Nodup→(∀ x∈l,x∈r)→l.length≤r.length
 | [],r,_,_=>Nat.zero_le _
 | x::l,r,h,hs=>by
  obtain ⟨h1,h2⟩:=List.nodup_cons.1 h;have hx:=hs x sM;have:=nodup_leG (l:=l) (r:=r.erase x) h2 λ y hy=>(List.mem_erase_of_ne (λ e=>h1 (by rw [← e];exact hy))).2 (hs y (List.mem_cons_of_mem _ hy));rw [List.length_erase_of_mem hx] at this;have hp:=List.length_pos_of_mem hx;rw [List.length_cons];omega
theorem keysG {α : Type} {κ : α→Value} {ok : α→Prop} {f : α→Option Value}:∀ {es:List MapEntry},(∀ x∈es,∃ n : α,ok n∧x.key = κ n∧f n=some x.val)→∃ ks:List α,es.map (·.key)=ks.map κ∧∀ k∈ks,ok k∧∃ v,f k=some v
 | [],_=>⟨[],rfl,sM⟩
 | x::es,h=>by
  obtain ⟨n,h1,h2,h3⟩:=h x sM;obtain ⟨ks,k1,k2⟩:=keysG (es:=es) λ y hy=>h y (List.mem_cons_of_mem _ hy);refine ⟨n::ks,by simp [h2,k1],λ k hk=>?_⟩;rcases List.mem_cons.1 hk with rfl|hk
  ·exact ⟨h1,_,h3⟩
  ·exact k2 k hk
section
variable [Rn]
variable {P:Program} {n:Nat} {e:dJ} {w w':World} {Q:dG} {ops:Array Oper} {rest:List Oper} {d:Nat} {ty:TypeId} {pos:String} {aft:Array Edge} {α : Type} {κ : α→Value} {ok : α→Prop}
theorem MapG.size [DecidableEq α] {m:Nat} {f : α→Option Value} (h:MapG κ ok w m f) (a0:∀ a b,ok a→ok b→κ a = κ b→a=b) {ks:List α} (g0:ks.Nodup) (hk:∀ k,(∃ v,f k=some v)↔k∈ks):∃ es c,w.heap[m]? = some (.map es c)∧es.size=ks.length:=by
 obtain ⟨es,c,h1,h2,h3,h4⟩:=h;refine ⟨es,c,h1,?_⟩;obtain ⟨ns,n1,n2⟩:=keysG h2
 have f0:ns.Nodup:=by
  have h5:(es.toList.map (·.key)).Pairwise (·≠·):=List.pairwise_map.2 h4;rw [n1] at h5;exact (List.pairwise_map.1 h5).imp λ h e=>h (by rw [e])
 have hl:es.size=ns.length:=by have:=congrArg List.length n1;simpa using this
 have a:=nodup_leG f0 λ x hx=>(hk x).1 (n2 x hx).2
 have b:=nodup_leG g0 λ x hx=>by
  obtain ⟨v,hv⟩:=(hk x).2 hx;obtain ⟨e0,y,hy,e⟩:=h3 x v hv;have:=List.mem_map_of_mem (f:=λ x:MapEntry=>x.key) hy;rw [n1,e] at this;obtain ⟨z,hz,e2⟩:=List.mem_map.1 this;exact (a0 _ _ (n2 z hz).1 e0 e2)▸hz
 omega
theorem TL.geS {x y:Operand} {s t:ByteArray} {t1 t2:TypeId} {b:Bool} (hx:val e x=some (.string s)) (hy:val e y=some (.string t)) (h:(!(Op.bytesLess s.toList t.toList))=b) (hd:Nat.blt d n=true)
  (k:TL P n ops rest ((d,.bool b)::e) w Q):TL P n ops (⟨some d,.binOp .geq t1 x y t2,ty,pos,aft,none⟩::rest) e w Q :=
 TL.run (λ r hr=>by
  have hg:eqGuard .geq t1 x y (.string s) (.string t)=Pure.pure ():=rfl;simp only [execOp,hr.eval hx,hr.eval hy,hg]
  simp [binOp,Op.stringOp,← h]) hd k
end
end Go.V
namespace Go.V
open Go Go.RowKit
end Go.V
namespace Go.V
open Go Go.RowKit Go.Maps
section
variable [Rn]
variable {P:Program} {n:Nat} {e:dJ} {w w':World} {Q:dG} {ops:Array Oper} {rest:List Oper} {d:Nat} {ty:TypeId} {pos:String} {aft:Array Edge} {H:Type}
end
end Go.V
namespace Go.V
open Go Go.RowKit
def RowO (B:Nat) (el:TypeId) (w:World) (v:Value) (xs:List Value):Prop :=
 ∃ b o cap cs,v=.slice (some ⟨b,o,none⟩) xs.length cap∧B≤b∧Blk w b el cs∧o+cap≤cs.length∧xs.length≤cap∧cap≤maxLen∧(cs.drop o).take xs.length=xs
section
variable {B:Nat} {el:TypeId} {w w':World} {v:Value} {xs:List Value}
theorem RowO.lt (h:RowO B el w v xs) {k:Nat} (hk:v.ownBlock=some k):B≤k∧k<w.heap.size:=by
 obtain ⟨b,o,a0,cs,rfl,h1,h2,_⟩:=h;simp only [Value.ownBlock,Option.some.injEq] at hk;subst hk;exact ⟨h1,h2.lt⟩
theorem RowO.keep (h:RowO B el w v xs) (hk:∀ k,v.ownBlock=some k→w'.heap[k]? = w.heap[k]?):RowO B el w' v xs:=by
 obtain ⟨b,o,a0,cs,rfl,h1,h2,h3⟩:=h;refine ⟨b,o,a0,cs,rfl,h1,?_,h3⟩;unfold Blk at h2 ⊢;rw [hk b rfl];exact h2
theorem RowO.grow (h:RowO B el w v xs) (g:Grow w w'):RowO B el w' v xs:=h.keep λ k hk=>g.block k (h.lt hk).2
theorem RowO.own {n:Nat} (h:w.ownsRow B el 1 v n xs) (hn:0<n):RowO B el w v xs:=by
 obtain ⟨hl,h|⟨g,f0,e0,rfl,h1,h2,h3,h4,h5,h6⟩⟩:=h
 ·omega
 ·have a0:xs.length=n:=by omega
  refine ⟨g,0,f0,e0.toList,by rw [a0],h1,by unfold Blk;simpa using h2,by simp;omega,oM,h4,?_⟩;rw [List.drop_zero,a0];rw [Nat.mul_one] at h6;exact h6
end
section
variable [Rn]
variable {P:Program} {n:Nat} {e:dJ} {w w':World} {Q:dG} {ops:Array Oper} {rest:List Oper} {d:Nat} {ty:TypeId} {pos:String} {aft:Array Edge}
theorem take_set {cs xs:List Value} {o:Nat} {u:Value} (h1:(cs.drop o).take xs.length=xs) (h2:o+xs.length<cs.length):((cs.set (o+xs.length) u).drop o).take (xs++[u]).length=xs++[u]:=by
 apply List.ext_getElem?;intro j;rw [List.getElem?_take,List.getElem?_drop,List.getElem?_set,List.length_append,List.length_singleton];by_cases hj:j<xs.length
 ·rw [if_pos oM,if_neg oM,List.getElem?_append_left hj];have:=congrArg (·[j]?) h1;simp only [List.getElem?_take,List.getElem?_drop] at this;rw [if_pos hj] at this;exact this
 ·by_cases a0:j=xs.length
  ·subst a0;rw [if_pos oM,if_pos rfl,if_pos h2];simp
  ·rw [if_neg oM,List.getElem?_eq_none (by simp;omega)]
theorem RowO.cut (k l:Nat) {B:Nat} {el:TypeId} {w:World} {b o e0:Nat} {xs cs:List Value} (h1:B≤b) (h2:Blk w b el cs) (h3:o+e0≤cs.length) (h4:xs.length≤e0) (h5:e0≤maxLen) (h6:(cs.drop o).take xs.length=xs) (f0:k≤l) (hl:l≤xs.length) :
  RowO B el w (.slice (some ⟨b,o+k,none⟩) (l-k) (e0-k)) ((xs.take l).drop k):=by
 have a0:((xs.take l).drop k).length=l-k:=by rw [List.length_drop,List.length_take];omega
 refine ⟨b,o+k,e0-k,cs,by rw [a0],h1,h2,oM,oM,oM,?_⟩;rw [a0];apply List.ext_getElem?;intro j;rw [List.getElem?_take,List.getElem?_drop,List.getElem?_drop,List.getElem?_take];by_cases hj:j<l-k
 ·rw [if_pos hj,if_pos oM];have:=congrArg (·[k+j]?) h6;simp only [List.getElem?_take,List.getElem?_drop] at this;rw [if_pos oM] at this;rw [← this,Nat.add_assoc]
 ·rw [if_neg hj,if_neg oM]
end
theorem iK (zc:Value) (k:Nat):Builtin.zeroCells #[zc] k=(List.replicate k zc).toArray:=by
 apply Array.ext
 ·simp [size_zeroCells]
 ·intro i h1 h2;simp [Builtin.zeroCells,Nat.mod_one]
theorem run_append_room_zeros {P:Program} {w:World} {t tn ty e:TypeId} {i:TypeInfo} {zc:Value} {kq kn:IntKind} (ht:P.underlying t=some (.slice e)) (m0:P.underlying tn=some (.int kn)) (hi:P.info? e=some i) {z:Value} (hz:i.zero=some z) (l0:z.cells = #[zc]) (n0:i.size=1)
  {g n j0 k:Nat} {e0:Array Value} (hg:w.heap[g]? = some (.cells e0 e (0,0))) (h0:0<k) (hb:k*i.bytes≤140737488355328) (o0:k≤1000000) (a0:n+k≤j0) (g0:n+k≤e0.size) (h1:zc.oneCell'=true) :
  (Builtin.append_ #[t,tn] ty #[.slice (some ⟨g,0,none⟩) n j0,.int kq k]).run P w=.ok (.slice (some ⟨g,0,none⟩) (n+k) j0) (w.setRow g (e0.toList.take n++List.replicate k zc++e0.toList.drop (n+k)).toArray):=by
 have hk:k≠0:=by omega
 have hw:IntKind.i64.wrap (k:Int)=k:=by rw [IntKind.wrap_i64];omega
 have i0:¬ (281474976710656<(k:Int)*(i.bytes:Int)):=by
  rw [← Int.natCast_mul];omega
 have f0:¬ ((k:Int)<0):=by omega
 have k0:=run_storeCells_at P g n e (List.replicate k zc) 0 e0 w hg (by simpa using g0) (λ v hv=>by rw [(List.mem_replicate.1 hv).2];exact h1);simp only [Nat.add_zero,List.length_replicate] at k0;simp [Builtin.append_,run_underlying ht,run_underlying m0,sizeOf,typeInfo,zeroValue,hi,hz,asInt,asIntOf,hw,f0,i0,n0,hk,a0,l0,iK,Addr.add_lit,k0]
section
variable [Rn]
variable {P:Program} {n:Nat} {e:dJ} {w w':World} {Q:dG} {ops:Array Oper} {rest:List Oper} {d:Nat} {ty:TypeId} {pos:String} {aft:Array Edge}
theorem TL.appendZ {t tn a0 bytes base k0 c:Nat} {x y:Operand} {kq kn:IntKind} {v zc:Value} {xs:List Value} [ht:SliceTy P t a0 1 bytes] [hn:IntTy P tn kn] [hzr:Zero P a0 zc] (q0:zc.cells = #[zc]) (h1:zc.oneCell'=true)
  (hx:val e x=some v) (hy:val e y=some (.int kq (c:Int))) (n0:w.ownsRow base a0 1 v k0 xs) (h0:0<c) (w1:k0+c≤1000000) (m0:(k0+c)*bytes≤140737488355328) (l0:base≤w.heap.size) (hd:Nat.blt d n=true)
  (k:∀ v' w',w'.ownsRow base a0 1 v' (k0+c) (xs++List.replicate c zc)→w.grownBy w' v.ownBlock→TL P n ops rest ((d,v')::e) w' Q) :
  TL P n ops (⟨some d,.call ⟨.builtin .append,#[x,y],#[t,tn]⟩,ty,pos,aft,none⟩::rest) e w Q:=by
 obtain ⟨i,z,hi,x0,o0,hz,u0,m1⟩:=ht.info
 have y0:z=zc:=by
  have:=hzr.h;rw [hi] at this;simp only [Option.bind_some] at this;rw [hz] at this;exact Option.some.inj this
 subst y0;have s1:c*bytes≤(k0+c)*bytes:=Nat.mul_le_mul_right _ oM;have i0:(xs++List.replicate c z).length=(k0+c)*1:=by rw [List.length_append,n0.1,List.length_replicate];omega
 obtain ⟨v0,⟨rfl,rfl⟩|⟨g,g0,p0,rfl,j1,hg,o1,f1,r1,e0⟩⟩:=n0
 ·have z0:xs=[]:=List.eq_nil_of_length_eq_zero (by simpa using v0);subst z0;have f0:=Lib.run_append_nil_zeros (P:=P) w t tn ty a0 i z kq kn ht.und hn.und hi hz c h0 oM oM (by rw [o0];omega);have u1:c≤grownCap w c 0 a0:=grownCap_ge w _ _ _;have g1:grownCap w c 0 a0≤maxLen:=grownCap_le_maxLen w c 0 a0 (by unfold maxLen;omega);refine TL.run (v:=.slice (some ⟨w.heap.size,0,none⟩) c (grownCap w c 0 a0)) (w':=w.drew.alloc (.cells (Builtin.zeroCells z.cells c++Builtin.zeroCells z.cells (grownCap w c 0 a0-c)) a0)) (λ r hr=>?_) hd (k _ _ ⟨sM,.inr ⟨w.heap.size,_,_,by rw [Nat.zero_add],l0,heap_alloc_new w.drew _,oM,g1,?_,?_⟩⟩ ⟨rfl,rfl,rfl,sM,λ k hk _=>Below.heap_alloc w.drew _ k hk⟩)
  ·simp [execOp,resolve,invoke,builtin,hr.eval hx,hr.eval hy,f0]
  ·simp only [Array.size_append,size_zeroCells,u0];omega
  ·rw [q0,iK,iK];simp
 ·by_cases j0:k0+c≤g0
  ·have f0:=run_append_room_zeros (P:=P) (w:=w) (ty:=ty) (kq:=kq) ht.und hn.und hi hz q0 x0 hg h0 (by rw [o0];omega) oM j0 oM h1;refine TL.run (v:=.slice (some ⟨g,0,none⟩) (k0+c) g0) (w':=w.setRow g (p0.toList.take k0++List.replicate c z++p0.toList.drop (k0+c)).toArray) (λ r hr=>by simp [execOp,resolve,invoke,builtin,hr.eval hx,hr.eval hy,f0]) hd (k _ _ ⟨i0,.inr ⟨g,g0,_,rfl,j1,setRow_heap w g p0 _ a0 _ hg,j0,f1,?_,?_⟩⟩ ⟨rfl,rfl,rfl,sM,λ k _ hk=>setRow_other w g k _ (λ e=>hk (by simp [Value.ownBlock,e]))⟩)
   ·simp only [List.size_toArray,List.length_append,List.length_take,List.length_drop,Array.length_toList,List.length_replicate];omega
   ·rw [Nat.mul_one] at e0;rw [e0,← i0];exact List.take_left
  ·have s0:(Builtin.firstCells i.size k0 (.slice (some ⟨g,0,none⟩) k0 g0)).run P w.drew=.ok xs.toArray w.drew:=by
    rw [x0];refine run_firstCells_some (P:=P) w.drew 1 k0 ⟨g,0,none⟩ k0 g0 xs v0 λ j u hu=>?_;have q1:j<xs.length:=(List.getElem?_eq_some_iff.1 hu).1;have e1:w.drew.heap[g]? = some (.cells p0 a0 (0,0)):=hg;rw [← e0,List.getElem?_take,if_pos oM] at hu;rw [Addr.add_lit];simp only [World.cell?,e1,Nat.zero_add];simpa using hu
   have f0:=Lib.run_append_grow_zeros (P:=P) w t tn ty a0 i z kq kn ht.und hn.und hi hz (some ⟨g,0,none⟩) k0 g0 xs s0 c h0 oM oM oM (by rw [o0];omega) (growslice_fits oM (by rw [o0];exact m0));have b1:=grownCap_ge w (k0+c) g0 a0;have t0:grownCap w (k0+c) g0 a0≤maxLen:=grownCap_le_maxLen w (k0+c) g0 a0 (by unfold maxLen;omega);refine TL.run (v:=.slice (some ⟨w.heap.size,0,none⟩) (k0+c) (grownCap w (k0+c) g0 a0)) (w':=w.drew.alloc (.cells (xs.toArray++Builtin.zeroCells z.cells c++Builtin.zeroCells z.cells (grownCap w (k0+c) g0 a0-(k0+c))) a0)) (λ r hr=>by simp [execOp,resolve,invoke,builtin,hr.eval hx,hr.eval hy,f0]) hd (k _ _ ⟨i0,.inr ⟨w.heap.size,_,_,rfl,l0,heap_alloc_new w.drew _,b1,t0,?_,?_⟩⟩ ⟨rfl,rfl,rfl,sM,λ k hk _=>Below.heap_alloc w.drew _ k hk⟩)
   ·simp only [Array.size_append,size_zeroCells,u0,List.size_toArray];omega
   ·rw [q0,iK,iK,← i0];simp only [Array.toList_append,List.append_assoc];rw [← List.append_assoc];exact List.take_left
end
section
variable {base sz n:Nat} {el:TypeId} {w w':World} {v:Value} {xs:List Value}
theorem own_blk (h:w.ownsRow base el sz v n xs) (hn:0<n):∃ g a0 e0,v=.slice (some ⟨g,0,none⟩) n a0∧base≤g∧Blk w g el e0∧n≤a0∧a0≤maxLen∧e0.length=a0*sz∧e0.take (n*sz)=xs:=by
 obtain ⟨hl,h|⟨g,a0,e0,rfl,h1,h2,h3,h4,h5,h6⟩⟩:=h
 ·omega
 ·exact ⟨g,a0,e0.toList,rfl,h1,by unfold Blk;simpa using h2,h3,h4,by simpa using h5,h6⟩
theorem own_mk {g a0:Nat} {e0:List Value} (h1:base≤g) (h2:Blk w g el e0) (h3:n≤a0) (h4:a0≤maxLen) (h5:e0.length=a0*sz) (h6:e0.take (n*sz)=xs):w.ownsRow base el sz (.slice (some ⟨g,0,none⟩) n a0) n xs:=by
 have f0:n*sz≤a0*sz:=Nat.mul_le_mul_right _ h3;exact ⟨by rw [← h6,List.length_take];omega,.inr ⟨g,a0,e0.toArray,rfl,h1,by unfold Blk at h2;simpa using h2,h3,h4,by simpa using h5,by simpa using h6⟩⟩
theorem take_setAt {a0 xs:List Value} {m j:Nat} {u:Value} (h:a0.take m=xs):(a0.set j u).take m=xs.set j u:=by
 rw [← h,List.take_set]
theorem own_cut {k:Nat} (h:w.ownsRow base el sz v n xs) (hk:k≤n):∃ v',(∃ a c,v=.slice a n c∧v'=.slice a k c)∧w.ownsRow base el sz v' k (xs.take (k*sz))∧v'.ownBlock=v.ownBlock:=by
 obtain ⟨hl,⟨rfl,rfl⟩|⟨g,e0,a0,rfl,h1,h2,h3,h4,h5,h6⟩⟩:=h
 ·obtain rfl:k=0:=by omega
  exact ⟨_,⟨none,0,rfl,rfl⟩,by simpa using World.ownsRow_nil w base el sz,rfl⟩
 ·refine ⟨_,⟨_,_,rfl,rfl⟩,⟨?_,.inr ⟨g,e0,a0,rfl,h1,h2,oM,h4,h5,?_⟩⟩,rfl⟩
  ·have:k*sz≤n*sz:=Nat.mul_le_mul_right _ hk;rw [List.length_take];omega
  ·have:k*sz≤n*sz:=Nat.mul_le_mul_right _ hk;rw [← h6,List.take_take,Nat.min_eq_left this]
end
section
variable [Rn]
variable {P:Program} {n:Nat} {e:dJ} {w w':World} {Q:dG} {ops:Array Oper} {rest:List Oper} {d:Nat} {ty:TypeId} {pos:String} {aft:Array Edge}
theorem run_append_zero {t tn ty el:TypeId} {i:TypeInfo} {kq kn:IntKind} (ht:P.underlying t=some (.slice el)) (e0:P.underlying tn=some (.int kn)) (hi:P.info? el=some i) (base:Option Addr) (m a0:Nat) (h:m≤a0) (w:World) :
  (Builtin.append_ #[t,tn] ty #[.slice base m a0,.int kq 0]).run P w=.ok (.slice base m a0) w:=by
 have hw:IntKind.i64.wrap 0=0:=by decide
 cases base<;>simp [Builtin.append_,run_underlying ht,run_underlying e0,sizeOf,typeInfo,hi,asInt,asIntOf,hw,h,storeCells]
theorem TL.appendZ0 {t tn a0 size bytes m c:Nat} {x y:Operand} {kq kn:IntKind} {a:Option Addr} [ht:SliceTy P t a0 size bytes] [hn:IntTy P tn kn] (hx:val e x=some (.slice a m c)) (hy:val e y=some (.int kq 0)) (e0:m≤c) (hd:Nat.blt d n=true)
  (k:TL P n ops rest ((d,.slice a m c)::e) w Q) :
  TL P n ops (⟨some d,.call ⟨.builtin .append,#[x,y],#[t,tn]⟩,ty,pos,aft,none⟩::rest) e w Q:=by
 obtain ⟨i,z,hi,g0,i0,hz,f0,h0⟩:=ht.info;exact TL.run (v:=.slice a m c) (w':=w) (λ r hr=>by simp [execOp,resolve,invoke,builtin,hr.eval hx,hr.eval hy,run_append_zero (P:=P) ht.und hn.und hi a m c e0 w]) hd k
end
theorem upB_same (dn:Nat→Bool) (i:Nat):upB dn i i=true:=by simp [upB]
theorem dQ {dn:Nat→Bool} {i j:Nat} (h:j≠i):upB dn i j=dn j:=by
 unfold upB
 cases hb:Nat.beq j i with
 | false=>rfl
 | true=>exact absurd (Nat.eq_of_beq_eq_true hb) h
theorem upV_same (vs:Nat→Value) (i:Nat) (v:Value):upV vs i v i=v:=by simp [upV]
theorem upV_other {vs:Nat→Value} {i j:Nat} {v:Value} (h:j≠i):upV vs i v j=vs j:=by
 unfold upV
 cases hb:Nat.beq j i with
 | false=>rfl
 | true=>exact absurd (Nat.eq_of_beq_eq_true hb) h
def nxtA:Nat→Nat
 | 0=>4
 | 4=>6
 | 6=>10
 | _=>99
def gE (s:Nat):Prop:=s=0∨s=4∨s=6∨s=10
structure AppJ (w0:World) (E:TypeId) (sz:Nat) (pf:Nat→Value→Prop) (R:Nat→Nat×List Value) (dn:Nat→Bool) (vs:Nat→Value) (w:World):Prop where
 g:Grow w0 w
 p:∀ j,¬ gE j→dn j=true→pf j (vs j)
 q:∀ s,gE s→dn s=true→dn (nxtA s)=false→w.ownsRow w0.heap.size E sz (vs s) (R s).1 (R s).2
 d:∀ s,gE s→dn (nxtA s)=true→dn s=true
 e:dn 99=false
section
variable {w0 w w':World} {E:TypeId} {sz:Nat} {pf:Nat→Value→Prop} {R:Nat→Nat×List Value} {dn:Nat→Bool} {vs:Nat→Value} {v:Value}
theorem nxtA_ne {s j:Nat} (hj:¬ gE j) (a0:j≠99):nxtA s≠j:=by
 intro e;unfold gE at hj;unfold nxtA at e;split at e<;>omega
theorem app_start (hg:Grow w0 w):AppJ w0 E sz pf R (λ _=>false) (λ _=>undef) w :=
 ⟨hg,λ j _ h=>(by cases h),λ s _ h=>(by cases h),λ s _ h=>(by cases h),rfl⟩
theorem eE (J:AppJ w0 E sz pf R dn vs w) {j:Nat} (hj:¬ gE j) (a0:j≠99) (hp:pf j v):AppJ w0 E sz pf R (upB dn j) (upV vs j v) w:=by
 refine ⟨J.g,λ i hi hd=>?_,λ s hs hd hn=>?_,λ s hs hd=>?_,?_⟩
 ·by_cases e:i=j
  ·subst e;rw [upV_same];exact hp
  ·rw [dQ e] at hd;rw [upV_other e];exact J.p i hi hd
 ·have e:s≠j:=λ e=>hj (e▸hs);rw [dQ e] at hd;rw [dQ (nxtA_ne hj a0)] at hn;rw [upV_other e];exact J.q s hs hd hn
 ·have e:s≠j:=λ e=>hj (e▸hs);rw [dQ (nxtA_ne hj a0)] at hd;rw [dQ e];exact J.d s hs hd
 ·rw [dQ (λ e=>a0 e.symm)];exact J.e
theorem app_first (J:AppJ w0 E sz pf R dn vs w) (h0:dn 0=false) (hg:Grow w w') (ho:w'.ownsRow w0.heap.size E sz v (R 0).1 (R 0).2):AppJ w0 E sz pf R (upB dn 0) (upV vs 0 v) w':=by
 have h4:dn 4=false:=by cases h:dn 4 with
  | false=>rfl
  | true=>rw [J.d 0 (.inl rfl) h] at h0;cases h0
 have h6:dn 6=false:=by cases h:dn 6 with
  | false=>rfl
  | true=>rw [J.d 4 (.inr (.inl rfl)) h] at h4;cases h4
 have a0:dn 10=false:=by cases h:dn 10 with
  | false=>rfl
  | true=>rw [J.d 6 (.inr (.inr (.inl rfl))) h] at h6;cases h6
 refine ⟨J.g.trans hg,λ i hi hd=>?_,λ s hs hd hn=>?_,λ s hs hd=>?_,?_⟩
 ·have e:i≠0:=λ e=>hi (.inl e);rw [dQ e] at hd;rw [upV_other e];exact J.p i hi hd
 ·rcases hs with rfl|rfl|rfl|rfl
  ·rw [upV_same];exact ho
  ·rw [dQ oM,h4] at hd;cases hd
  ·rw [dQ oM,h6] at hd;cases hd
  ·rw [dQ oM,a0] at hd;cases hd
 ·rcases hs with rfl|rfl|rfl|rfl
  ·exact upB_same _ _
  ·exact absurd hd (by show ¬ upB dn 0 6=true;rw [dQ oM,h6];simp)
  ·exact absurd hd (by show ¬ upB dn 0 10=true;rw [dQ oM,a0];simp)
  ·exact absurd hd (by show ¬ upB dn 0 99=true;rw [dQ oM,J.e];simp)
 ·rw [dQ oM];exact J.e
theorem jW (J:AppJ w0 E sz pf R dn vs w) {r s:Nat} (hr:gE r) (hs:gE s) (hn:nxtA r=s) (h0:dn s=false) (h1:dn r=true) (hg:Grow w0 w') (ho:w'.ownsRow w0.heap.size E sz v (R s).1 (R s).2):AppJ w0 E sz pf R (upB dn s) (upV vs s v) w':=by
 have a0:∀ t,gE t→s<t→dn t=false:=by
  intro t ht k0;have k4:dn 4=true→dn 0=true:=J.d 0 (.inl rfl);have k6:dn 6=true→dn 4=true:=J.d 4 (.inr (.inl rfl));have f0:dn 10=true→dn 6=true:=J.d 6 (.inr (.inr (.inl rfl)))
  cases h:dn t with
  | false=>rfl
  | true =>
   exfalso;rcases hs with rfl|rfl|rfl|rfl<;>rcases ht with rfl|rfl|rfl|rfl<;>first|omega|(have q:=k4 h;rw [h0] at q;cases q)|(have q:=k6 h;rw [h0] at q;cases q)|(have q:=f0 h;rw [h0] at q;cases q)|(have q:=k4 (k6 h);rw [h0] at q;cases q)|(have q:=k6 (f0 h);rw [h0] at q;cases q)|(have q:=k4 (k6 (f0 h));rw [h0] at q;cases q)
 have l0:r<s:=by rcases hr with rfl|rfl|rfl|rfl<;>simp only [nxtA] at hn<;>first|omega|(rcases hs with h|h|h|h<;>omega)
 refine ⟨hg,λ i hi hd=>?_,λ t ht hd e0=>?_,λ t ht hd=>?_,?_⟩
 ·have e:i≠s:=λ e=>hi (e▸hs);rw [dQ e] at hd;rw [upV_other e];exact J.p i hi hd
 ·by_cases e:t=s
  ·subst e;rw [upV_same];exact ho
  ·exfalso;rw [dQ e] at hd;rcases Nat.lt_trichotomy t s with h|h|h
   ·by_cases g0:t=r
    ·subst g0;rw [hn,upB_same] at e0;cases e0
    ·have j0:t<r:=by
      unfold gE at hs hr ht;clear hd e0 ho h0 h1 a0;rcases hr with rfl|rfl|rfl|rfl<;>simp only [nxtA] at hn<;>omega
     have i0:nxtA t≠s:=by
      unfold gE at hs hr;clear hd e0 ho h0 h1 a0;rcases ht with rfl|rfl|rfl|rfl<;>simp only [nxtA]<;>rcases hr with rfl|rfl|rfl|rfl<;>simp only [nxtA] at hn<;>omega
     rw [dQ i0] at e0;have k4:dn 4=true→dn 0=true:=J.d 0 (.inl rfl);have k6:dn 6=true→dn 4=true:=J.d 4 (.inr (.inl rfl));unfold gE at hs;rcases ht with rfl|rfl|rfl|rfl<;>rcases hr with rfl|rfl|rfl|rfl<;>simp only [nxtA] at e0 hn<;>first|omega|(rw [h1] at e0;cases e0)|(have q:=k6 h1;rw [q] at e0;cases e0)
   ·exact e h
   ·rw [a0 t ht h] at hd;cases hd
 ·by_cases e:t=s
  ·subst e;exact upB_same _ _
  ·rw [dQ e];by_cases e2:nxtA t=s
   ·have:t=r:=by
     rcases ht with rfl|rfl|rfl|rfl<;>rcases hr with rfl|rfl|rfl|rfl<;>simp only [nxtA] at hn e2<;>omega
    rw [this];exact h1
   ·rw [dQ e2] at hd;exact J.d t ht hd
 ·rw [dQ (by rcases hs with rfl|rfl|rfl|rfl<;>omega)];exact J.e
end
section
variable {F:Nat→Prop} {w:World} {size m c l h mm:Nat} {a:Option Addr} {cs:List Value}
def eM (a:Option Addr) (mm l size:Nat):Option Addr:=if mm=l then a else a.map (·.add (l*size))
theorem eX (hs:Sl F w size a m c cs) (b1:l≤h) (b2:h≤m) (b3:h≤mm) (b4:mm≤c):Sl F w size (eM a mm l size) (h-l) (mm-l) ((cs.drop (l*size)).take ((h-l)*size)):=by
 have e0:((cs.drop (l*size)).take ((h-l)*size)).length=(h-l)*size:=by
  rw [List.length_take,List.length_drop,hs.len,← Nat.sub_mul];exact Nat.min_eq_left (Nat.mul_le_mul_right _ oM)
 unfold eM;refine ⟨e0,oM,by have:=hs.max;omega,?_,?_⟩
 ·intro h0;split at h0
  ·have:=hs.nil h0;omega
  ·have:=hs.nil (by simpa using h0);omega
 ·have a0:=hs.row;split
  ·rename_i g0;have:(h-l)=0:=by omega
   rw [this]
   cases a with
   | none=>simp [Row]
   | some p=>exact λ hn=>by simp at hn
  ·cases a with
   | none=>simp only [Row] at a0;subst a0;simp [Row]
   | some p =>
    obtain ⟨b,o,s⟩:=p;intro f0;obtain ⟨h1,h2,h3,h4⟩:=a0 (by rintro rfl;simp at f0);simp only at h1;subst h1
    simp only [Addr.add_lit];refine ⟨trivial,h2,h3,λ j v hj=>?_⟩;rw [List.getElem?_take] at hj;split at hj
    ·rw [List.getElem?_drop] at hj;have:=h4 (l*size+j) v hj;simpa [Nat.add_assoc] using this
    ·cases hj
end
section
variable [Rn]
variable {P:Program} {n:Nat} {e:dJ} {w w':World} {Q:dG} {ops:Array Oper} {rest:List Oper} {d:Nat} {ty:TypeId} {pos:String} {aft:Array Edge}
theorem dH {t a0 size bytes:Nat} {x:Operand} {lo hi mx:Option Operand} {a:Option Addr} {m c l h mm:Nat} [ht:SliceTy P t a0 size bytes]
  (hx:val e x=some (.slice a m c)) (hl:bnd e lo l 0) (hh:bnd e hi h m) (hm:bnd e mx mm c) (e0:hi=none→mx=none) (b1:l≤h) (b2:h≤m) (b3:h≤mm) (b4:mm≤c) (g0:m≤c) (hd:Nat.blt d n=true)
  (k:TL P n ops rest ((d,.slice (eM a mm l size) (h-l) (mm-l))::e) w Q) :
  TL P n ops (⟨some d,.slice t x lo hi mx,ty,pos,aft,none⟩::rest) e w Q:=by
 have f0:∀ r,Fits n e r→(Instr.sliceBounds true m c (lo.map r.eval) (hi.map r.eval) (mx.map r.eval)).run P w=.ok (l,h,mm) w:=by
  intro r hr
  cases lo with
  | none =>
   simp only [bnd] at hl;subst hl
   cases hi with
   | none =>
    have h0:=e0 rfl;subst h0
    simp only [bnd] at hh hm;subst hh;subst hm
    simp [Instr.sliceBounds]
   | some y =>
    obtain ⟨k2,z2,v2,e2⟩:=hh
    cases mx with
    | none=>simp only [bnd] at hm;subst hm;simp [Instr.sliceBounds,hr.eval v2,cT e2 b3]
    | some u=>obtain ⟨k3,z3,v3,e3⟩:=hm;simp [Instr.sliceBounds,hr.eval v2,hr.eval v3,cT e2 b3,cT e3 b4]
  | some x1 =>
   obtain ⟨k1,z1,v1,e1⟩:=hl
   cases hi with
   | none =>
    have h0:=e0 rfl;subst h0
    simp only [bnd] at hh hm;subst hh;subst hm
    simp [Instr.sliceBounds,hr.eval v1,cT e1 b1]
   | some y =>
    obtain ⟨k2,z2,v2,e2⟩:=hh
    cases mx with
    | none=>simp only [bnd] at hm;subst hm;simp [Instr.sliceBounds,hr.eval v1,hr.eval v2,cT e2 b3,cT e1 b1]
    | some u=>obtain ⟨k3,z3,v3,e3⟩:=hm;simp [Instr.sliceBounds,hr.eval v1,hr.eval v2,hr.eval v3,cT e2 b3,cT e3 b4,cT e1 b1]
 refine TL.run (v:=.slice (if mm=l then a else a.map (·.add (l*size))) (h-l) (mm-l)) (w':=w) (λ r hr=>?_) hd k
 ·simp [execOp,hr.eval hx,Instr.sliceAt,underlying,ht.und,Instr.slice,f0 r hr,ht.size]
end
end Go.V
