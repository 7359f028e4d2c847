import Derived.Test.YtfpadnmdafiddaaGreatDoorP0
import Derived.Test.YtfpadnmdafiddaaGreatDoorPe
import Derived.Test.YtfpadnmdafiddaaGreatDoorPd
import Derived.Lib.Mul64
import Derived.RangeFuncIn
import Derived.Test.YtfpadnmdafiddaaGreatDoorPc
set_option linter.all false
set_option maxHeartbeats 16000000
set_option maxRecDepth 100000
namespace Go.Proofs.YtfpadnmdafiddaaGreatDoor
theorem jY (x:Bs×Bs) (l:bT) (key:Bs):dP (x::l) key=if fQ x.1 key then dP l key+1 else 0:=by
 unfold dP;rw [List.takeWhile_cons];by_cases h:fQ x.1 key
 ·rw [if_pos h,if_pos (show decide (bY x.1 key<0)=true by simpa [fQ] using h)];rfl
 ·rw [if_neg h,if_neg (show ¬ decide (bY x.1 key<0)=true by simpa [fQ] using h)];rfl
theorem thereN_cons (x:Bs×Bs) (l:bT) (key:Bs):fP (x::l) key=if fQ x.1 key then fP l key else decide (x.1=key):=by
 unfold fP;rw [jY];by_cases h:fQ x.1 key
 ·simp only [if_pos h,List.getElem?_cons_succ]
 ·simp only [if_neg h,List.getElem?_cons_zero];by_cases e:x.1=key
  ·simp [e,cmpB_self]
  ·have:bY x.1 key≠0:=λ g=>e (cmpB_eq g);simp [e,this]
theorem ins_eq (key v:Bs):∀ l:bT,(if fP l key then hY (dT l (dP l key) (dP l key+1)) (dP l key) [(key,v)] else hY l (dP l key) [(key,v)])=gQ key v l
 | []=>rfl
 | x::l=>by
  have ih:=ins_eq key v l;rw [jY,thereN_cons,gQ];by_cases h:fQ x.1 key
  ·simp only [if_pos h,← ih];split<;>simp [hY,dT]
  ·simp only [if_neg h];by_cases e:x.1=key<;>simp [e,hY,dT]
theorem there_iff (key:Bs):∀ {l:bT},Srt l→(fP l key=true↔∃ x∈l,x.1=key)
 | [],_=>by simp [fP,dP]
 | x::l,h=>by
  obtain ⟨h1,h2⟩:=List.pairwise_cons.1 h;rw [thereN_cons];by_cases hx:fQ x.1 key
  ·rw [if_pos hx,there_iff key h2];constructor
   ·rintro ⟨y,hy,e⟩;exact ⟨y,List.mem_cons_of_mem _ hy,e⟩
   ·rintro ⟨y,hy,e⟩;rcases List.mem_cons.1 hy with rfl|hy
    ·rw [e] at hx;exact absurd hx (fG _)
    ·exact ⟨y,hy,e⟩
  ·rw [if_neg hx,decide_eq_true_eq];constructor
   ·intro e;exact ⟨x,sM,e⟩
   ·rintro ⟨y,hy,e⟩;rcases List.mem_cons.1 hy with rfl|hy
    ·exact e
    ·have:=h1 y hy;rw [e] at this;exact absurd this hx
theorem insI_len (key v:Bs):∀ l:bT,l.length≤(gQ key v l).length∧(gQ key v l).length≤l.length+1
 | []=>by simp [gQ]
 | x::l=>by
  have ih:=insI_len key v l;unfold gQ;split
  ·simp only [List.length_cons];omega
  ·split<;>simp
def pgs (ls:List Sb):List Nat:=ls.flatMap λ x=>x.page::x.ps
theorem iW (a b:List Sb):pgs (a++b)=pgs a++pgs b:=List.flatMap_append ..
theorem pgs_one (x:Sb):pgs [x]=x.page::x.ps:=by simp [pgs]
structure Up (s s':Pg) (h m:Nat) (up:Nd) (l:bT) (uls:List Sb):Prop where
 items:up.items=[]
 kids:up.kids=uls.map (·.page)
 len:uls.length=up.keys.length+1
 two:uls.length≤2
 toks:(toks uls up.keys).Pairwise RT
 keys:∀ k∈up.keys,dW k=true
 its:l=uls.flatMap (·.its)
 sub:∀ x∈uls,∃ nd',cD s' x.page=some nd'∧min m 4≤aT nd'∧Vt s' h nd' x.its x.ps
 ext:Ext s s'
 ok:PgOk s'
 big:uls.length=2→∀ x∈uls,∃ nd',cD s' x.page=some nd'∧4≤aT nd'
theorem split_leaf {l:bT} (h:l.length=9):l=l.take 4++l.drop 4∧(l.take 4).length=4∧(l.drop 4).length=5:=⟨(List.take_append_drop _ _).symm,by simp;omega,by simp;omega⟩
theorem store_up {s:Pg} (hs:PgOk s) {h:Nat} {N:Nd} {l:bT} {ps:List Nat} (hv:Vt s h N l ps) (h1:2≤aT N∨h=0) (h9:aT N≤9) (q0:2≤cC s) :
  ∃ up s' uls,storeP s N=some (up,s')∧Up s s' h (aT N) up l uls∧cC s'+(pgs uls).length=cC s+ps.length∧(pgs uls).length≤ps.length+2:=by
 unfold storeP;by_cases hz:8<aT N
 ·rw [if_pos hz];have j0:aT N=9:=by omega
  cases h with
  | zero =>
   obtain ⟨rfl,rfl,h3,h4⟩:=hv;have hl:l.length=9:=by simpa [aT] using j0
   obtain ⟨e1,e2,e3⟩:=split_leaf hl;have hA:(bV ⟨l,[],[]⟩).1=⟨l.take 4,[],[]⟩:=by simp [bV,bN,dT]
   have hB:(bV ⟨l,[],[]⟩).2.1=⟨l.drop 4,[],[]⟩:=by simp [bV,bN,dT]
   have hK:(bV ⟨l,[],[]⟩).2.2=((l.drop 4).getD 0 ([],[])).1:=by simp [bV,bN,dT]
   have a0:Srt (l.take 4++l.drop 4):=by rw [← e1];exact h3
   obtain ⟨p1,p2,p3⟩:=List.pairwise_append.1 a0;have l0:∀ x∈l.take 4,dW x.1=true∧eR x.2=true:=λ x hx=>h4 x (List.mem_of_mem_take hx);have g0:∀ x∈l.drop 4,dW x.1=true∧eR x.2=true:=λ x hx=>h4 x (List.mem_of_mem_drop hx);obtain ⟨p,s1,w1,w2⟩:=hO hs oM (leaf_ok p1 l0 oM);have:=w2.spare;obtain ⟨q,s2,w3,w4⟩:=hO w2.ok oM (leaf_ok p2 g0 oM);have:=w4.spare;rw [hA,hB,hK,w1];simp only;rw [w3]
   obtain ⟨x0,r0,er⟩:∃ x0 r0,l.drop 4=x0::r0:=by
    cases hd:l.drop 4 with
    | nil=>rw [hd] at e3;cases e3
    | cons a b=>exact ⟨a,b,rfl⟩
   refine ⟨_,s2,[⟨p,l.take 4,[]⟩,⟨q,l.drop 4,[]⟩],rfl,⟨rfl,rfl,rfl,sM,?_,?_,sM,?_,w2.ext.trans w4.ext,w4.ok,λ _ x hx=>?_⟩,by simp [pgs];omega,by simp [pgs]⟩
   ·simp only [toks,KT,er,List.getD_cons_zero];rw [er] at p2 p3;have r1:RT (.T ⟨p,l.take 4,[]⟩) (.K x0.1):=λ a ha=>p3 a ha x0 sM
    have r2:RT (.K x0.1) (.T ⟨q,x0::r0,[]⟩):=λ b hb=>by
     rcases List.mem_cons.1 hb with rfl|hb
     ·exact kle_refl _
     ·exact nK ((List.pairwise_cons.1 p2).1 b hb)
    refine List.pairwise_cons.2 ⟨λ t ht=>?_,List.pairwise_cons.2 ⟨λ t ht=>?_,List.pairwise_cons.2 ⟨λ t ht=>(by cases ht),List.Pairwise.nil⟩⟩⟩
    ·rcases List.mem_cons.1 ht with rfl|ht
     ·exact r1
     ·rcases List.mem_cons.1 ht with rfl|ht
      ·exact RT_K r1 r2
      ·cases ht
    ·rcases List.mem_cons.1 ht with rfl|ht
     ·exact r2
     ·cases ht
   ·intro k hk;simp only [List.mem_singleton] at hk;subst hk;rw [er];exact (g0 x0 (by rw [er];simp)).1
   ·intro x hx;simp only [List.mem_cons,List.not_mem_nil,or_false] at hx;rcases hx with rfl|rfl
    ·exact ⟨_,w4.ext.node w2.node,by simp [aT];omega,rfl,rfl,p1,l0⟩
    ·exact ⟨_,w4.node,by simp [aT];omega,rfl,rfl,p2,g0⟩
   ·simp only [List.mem_cons,List.not_mem_nil,or_false] at hx;rcases hx with rfl|rfl
    ·exact ⟨_,w4.ext.node w2.node,by simp [aT];omega⟩
    ·exact ⟨_,w4.node,by simp [aT];omega⟩
  | succ h =>
   obtain ⟨ls,e1,e2,e3,e4,e5,e6,e7,e8⟩:=hv;have f0:N.kids.length=9:=by simpa [aT,e1] using j0
   have s0:ls.length=9:=by rw [← f0,e2,List.length_map]
   have p0:N.keys.length=8:=by omega
   have e0:bN N=false:=by
    cases hh:bN N with
    | false=>rfl
    | true=>rw [bL.1 hh] at f0;cases f0
   have o0:∃ k,N.keys=N.keys.take 3++k::N.keys.drop 4∧N.keys.getD 3 []=k:=by
    have k0:3<N.keys.length:=by omega
    refine ⟨N.keys[3],?_,by simp [List.getD_eq_getElem?_getD,k0]⟩;rw [← List.drop_eq_getElem_cons k0,List.take_append_drop]
   obtain ⟨k,ek,n0⟩:=o0;have hA:(bV N).1=⟨[],N.kids.take 4,N.keys.take 3⟩:=by simp [bV,e0,dT]
   have hB:(bV N).2.1=⟨[],N.kids.drop 4,N.keys.drop 4⟩:=by simp [bV,e0,dT]
   have hK:(bV N).2.2=k:=by simp only [bV,e0];simpa using n0
   have el:ls=ls.take 4++ls.drop 4:=(List.take_append_drop _ _).symm;have l1:(ls.take 4).length=(N.keys.take 3).length+1:=by simp;omega
   have l2:(ls.drop 4).length=(N.keys.drop 4).length+1:=by simp;omega
   have m0:ls.drop 4≠[]:=by intro e;rw [e] at l2;simp at l2
   have et:toks ls N.keys=toks (ls.take 4) (N.keys.take 3)++.K k::toks (ls.drop 4) (N.keys.drop 4):=by
    rw [← toks_join l1 m0,← el,← ek]
   rw [et] at e4;obtain ⟨p1,p2,p3⟩:=List.pairwise_append.1 e4;obtain ⟨p4,p5⟩:=List.pairwise_cons.1 p2
   have vA:Vt s (h+1) ⟨[],N.kids.take 4,N.keys.take 3⟩ ((ls.take 4).flatMap (·.its)) (pgs (ls.take 4)) :=
    ⟨ls.take 4,rfl,by rw [e2,List.map_take],l1,p1,λ k hk=>e5 k (List.mem_of_mem_take hk),rfl,rfl,λ x hx=>e8 x (List.mem_of_mem_take hx)⟩
   have vB:Vt s (h+1) ⟨[],N.kids.drop 4,N.keys.drop 4⟩ ((ls.drop 4).flatMap (·.its)) (pgs (ls.drop 4)) :=
    ⟨ls.drop 4,rfl,by rw [e2,List.map_drop],l2,p5,λ k hk=>e5 k (List.mem_of_mem_drop hk),rfl,rfl,λ x hx=>e8 x (List.mem_of_mem_drop hx)⟩
   have sA:aT ⟨[],N.kids.take 4,N.keys.take 3⟩=4:=by simp [aT];omega
   have sB:aT ⟨[],N.kids.drop 4,N.keys.drop 4⟩=5:=by simp [aT];omega
   obtain ⟨p,s1,w1,w2⟩:=hO hs oM (vA.ok hs oM oM);have:=w2.spare;have i0:=vB.ext w2.ext;obtain ⟨q,s2,w3,w4⟩:=hO w2.ok oM (i0.ok w2.ok oM oM);have:=w4.spare;rw [hA,hB,hK,w1];simp only;rw [w3]
   have hp:ps.length=(pgs (ls.take 4)).length+(pgs (ls.drop 4)).length:=by
    rw [e7,show ls.flatMap (λ x=>x.page::x.ps)=pgs ls from rfl];conv=>lhs;rw [el]
    rw [iW,List.length_append]
   refine ⟨_,s2,[⟨p,(ls.take 4).flatMap (·.its),pgs (ls.take 4)⟩,⟨q,(ls.drop 4).flatMap (·.its),pgs (ls.drop 4)⟩],rfl,⟨rfl,rfl,rfl,sM,?_,?_,?_,?_,w2.ext.trans w4.ext,w4.ok,λ _ x hx=>?_⟩,by simp [pgs] at hp ⊢;omega,by simp [pgs] at hp ⊢;omega⟩
   ·have r1:RT (.T ⟨p,(ls.take 4).flatMap (·.its),pgs (ls.take 4)⟩) (.K k):=λ a ha=>by
     obtain ⟨x,hx,h0⟩:=List.mem_flatMap.1 ha;exact p3 (.T x) (T_mem l1 hx) (.K k) sM a h0
    have r2:RT (.K k) (.T ⟨q,(ls.drop 4).flatMap (·.its),pgs (ls.drop 4)⟩):=λ a ha=>by
     obtain ⟨x,hx,h0⟩:=List.mem_flatMap.1 ha;exact p4 (.T x) (T_mem l2 hx) a h0
    simp only [toks,KT];refine List.pairwise_cons.2 ⟨λ t ht=>?_,List.pairwise_cons.2 ⟨λ t ht=>?_,List.pairwise_cons.2 ⟨λ t ht=>(by cases ht),List.Pairwise.nil⟩⟩⟩
    ·rcases List.mem_cons.1 ht with rfl|ht
     ·exact r1
     ·rcases List.mem_cons.1 ht with rfl|ht
      ·exact RT_K r1 r2
      ·cases ht
    ·rcases List.mem_cons.1 ht with rfl|ht
     ·exact r2
     ·cases ht
   ·intro k' hk;simp only [List.mem_singleton] at hk;subst hk;exact e5 k' (by rw [ek];simp)
   ·simp only [List.flatMap_cons,List.flatMap_nil,List.append_nil];rw [← List.flatMap_append,← el];exact e6
   ·intro x hx;simp only [List.mem_cons,List.not_mem_nil,or_false] at hx;rcases hx with rfl|rfl
    ·exact ⟨_,w4.ext.node w2.node,oM,(vA.ext w2.ext).ext w4.ext⟩
    ·exact ⟨_,w4.node,oM,i0.ext w4.ext⟩
   ·simp only [List.mem_cons,List.not_mem_nil,or_false] at hx;rcases hx with rfl|rfl
    ·exact ⟨_,w4.ext.node w2.node,oM⟩
    ·exact ⟨_,w4.node,oM⟩
 ·rw [if_neg hz];obtain ⟨p,s1,w1,w2⟩:=hO hs oM (hv.ok hs h1 oM);have:=w2.spare;rw [w1];refine ⟨_,s1,[⟨p,l,ps⟩],rfl,⟨rfl,rfl,rfl,sM,by simp [toks,KT],sM,sM,?_,w2.ext,w2.ok,λ h2=>by simp at h2⟩,by simp [pgs];omega,by simp [pgs]⟩;intro x hx;simp only [List.mem_singleton] at hx;subst hx;exact ⟨N,w2.node,oM,hv.ext w2.ext⟩
theorem mid_put {α : Type} {la lb us:List α} {x : α}:hY (dT (la++x::lb) la.length (la.length+1)) la.length us=la++us++lb:=by
 have e1:(la++x::lb).take la.length=la:=List.take_left' rfl
 have e2:(la++x::lb).drop (la.length+1)=lb:=by
  rw [← List.drop_drop,List.drop_left' rfl];rfl
 unfold hY dT;rw [e1,e2,List.take_left' rfl,List.drop_left' rfl]
theorem mid_ins {α : Type} {la lb us:List α}:hY (la++lb) la.length us=la++us++lb:=by
 unfold hY;rw [List.take_left' rfl,List.drop_left' rfl]
theorem put_up (key v:Bs) (hk:dW key=true) (h0:eR v=true):∀ (h:Nat) {s:Pg} {n f:Nat} {nd:Nd} {l:bT} {ps:List Nat},PgOk s→cD s n=some nd→Vt s h nd l ps→h<f→1≤aT nd→2*(h+1)≤cC s →
  ∃ fr th,jK s key f n=some (fr,th)∧fr.length=h+1∧(th=true↔∃ x∈l,x.1=key)∧∃ up s' a0,mI (key,v) th fr s=some (up,s')∧Up s s' h (aT nd) up (gQ key v l) a0 ∧
   cC s'+(h+1)+(pgs a0).length=cC s+1+ps.length∧(pgs a0).length≤1+ps.length+(h+1)
 | 0,s,n,f,nd,l,ps,hs,hn,hv,hf,h1,hsp=>by
  obtain ⟨rfl,rfl,h3,h4⟩:=hv;obtain ⟨f,rfl⟩:∃ g,f=g+1:=⟨f-1,oM⟩
  have hok:=fB hn;unfold bF at hok;rw [if_pos (by rfl)] at hok;obtain ⟨_,h8,_⟩:=dG hok;simp only at h8;refine ⟨[(⟨l,[],[]⟩,dP l key)],fP l key,by simp only [jK,hn];rfl,rfl,?_,?_⟩
  ·exact there_iff key h3
  ·have hN:cP ⟨l,[],[]⟩ (dP l key) nd0 (key,v) (fP l key)=⟨gQ key v l,[],[]⟩:=by
    rw [← ins_eq];simp only [cP,bN,List.isEmpty_nil,if_true];split<;>rfl
   have o1:=insI_len key v l
   obtain ⟨up,s',a0,q1,q2,q3,q4⟩:=store_up (h:=0) (N:=⟨gQ key v l,[],[]⟩) (l:=gQ key v l) (ps:=[]) hs ⟨rfl,rfl,insI_srt h3,λ x hx=>by
    rcases nG hx with rfl|hx
    ·exact ⟨hk,h0⟩
    ·exact h4 x hx⟩ (.inr rfl) (by simp [aT];omega) oM
   refine ⟨up,s',a0,?_,⟨q2.items,q2.kids,q2.len,q2.two,q2.toks,q2.keys,q2.its,λ x hx=>?_,q2.ext,q2.ok,q2.big⟩,by simpa using (by simp at q3;omega),by simpa using (by simp at q4;omega)⟩
   ·simp only [mI];rw [hN];exact q1
   ·obtain ⟨g0,g1,g2,g3⟩:=q2.sub x hx;exact ⟨g0,g1,by simp only [aT,List.length_nil,Nat.add_zero] at g2 ⊢;omega,g3⟩
 | h+1,s,n,f,nd,l,ps,hs,hn,hv,hf,h1,hsp=>by
  have hok:=fB hn;have x0:=hv;obtain ⟨ls,e1,e2,e3,e4,e5,e6,e7,e8⟩:=hv;obtain ⟨f,rfl⟩:∃ g,f=g+1:=⟨f-1,oM⟩
  have k0:bN nd=false:=by
   cases hh:bN nd with
   | false=>rfl
   | true =>
    rw [bL.1 hh] at e2
    cases ls with
    | nil=>cases e3
    | cons _ _=>cases e2
  unfold bF at hok;rw [if_neg (by rw [k0];simp)] at hok;obtain ⟨_,w2,w8,w4,_,_⟩:=cO hok;obtain ⟨la,x,lb,ka,kb,a1,a2,a3,a4,a5,a6,a7,a8⟩:=kid_split e3 e4 key;obtain ⟨v0,x1,x2,x3⟩:=e8 x (by rw [a1];simp);obtain ⟨fr,th,i1,i2,i3,up,s1,a0,i4,i5,i6,i7⟩:=put_up key v hk h0 h (s:=s) (n:=x.page) (f:=f) hs x1 x3 oM oM oM
  have l0:nd.kids[fW nd.keys key]? = some x.page:=by
   rw [e2,a1,← a3];simp
  have m0:=TK_its a4.symm a6;have n0:=KT_its a5 a7;have e0:l=la.flatMap (·.its)++(x.its++lb.flatMap (·.its)):=by rw [e6,a1];simp
  have i0:∀ y∈x.its,y∈l:=λ y hy=>by rw [e0];simp [hy]
  refine ⟨(nd,fW nd.keys key)::fr,th,?_,by simp [i2],?_,?_⟩
  ·simp only [jK,hn,k0,Bool.false_eq_true,if_false,l0,i1]
  ·rw [i3];constructor
   ·rintro ⟨y,hy,e⟩;exact ⟨y,i0 y hy,e⟩
   ·rintro ⟨y,hy,e⟩;rw [e0] at hy;rcases List.mem_append.1 hy with hy|hy
    ·exact absurd (m0 y hy) (by rw [e];exact fG _)
    ·rcases List.mem_append.1 hy with hy|hy
     ·exact ⟨y,hy,e⟩
     ·exact absurd (n0 y hy) (by rw [e];exact fG _)
  ·have hN:cP nd (fW nd.keys key) up (key,v) th=⟨[],(la++a0++lb).map (·.page),ka++up.keys++kb⟩:=by
    simp only [cP,k0,Bool.false_eq_true,if_false]
    have m1:hY (dT nd.kids (fW nd.keys key) (fW nd.keys key+1)) (fW nd.keys key) up.kids=(la++a0++lb).map (·.page):=by
     rw [e2,a1,i5.kids,← a3];simp only [List.map_append,List.map_cons];have:=mid_put (la:=la.map (·.page)) (lb:=lb.map (·.page)) (us:=a0.map (·.page)) (x:=x.page);rw [List.length_map] at this;exact this
    have m2:hY nd.keys (fW nd.keys key) up.keys=ka++up.keys++kb:=by
     conv=>lhs;arg 1;rw [a2]
     rw [← a3,← a4];exact mid_ins
    rw [m1,m2];cases nd;simp only at e1 ⊢;rw [e1]
   have s0:∀ y∈a0,y.its≠[]:=λ y hy=>by
    obtain ⟨n1,g1,g2,g3⟩:=i5.sub y hy;exact g3.ne oM
   have u0:gQ key v l=(la++a0++lb).flatMap (·.its):=by
    rw [e0,insI_append m0,insI_before n0,i5.its];simp
   have p0:Vt s1 (h+1) ⟨[],(la++a0++lb).map (·.page),ka++up.keys++kb⟩ (gQ key v l) (pgs (la++a0++lb)):=by
    refine ⟨la++a0++lb,rfl,rfl,?_,?_,?_,u0,rfl,?_⟩
    ·have:=i5.len;simp only [List.length_append];omega
    ·rw [toks_mid a4.symm i5.len];refine splice_ok a8 i5.len i5.toks s0 (λ t ht a ha=>?_) (λ t ht a ha=>?_)
     ·rw [← i5.its] at ha;rcases nG ha with rfl|ha
      ·exact a6 t ht
      ·have:=(List.pairwise_append.1 (List.pairwise_append.1 a8).1).2.2 t ht (.T x) sM;exact RT_T.1 this a ha
     ·rw [← i5.its] at ha;rcases nG ha with rfl|ha
      ·exact a7 t ht
      ·have:=(List.pairwise_append.1 a8).2.2 (.T x) sM t ht;exact T_RT.1 this a ha
    ·intro k f0;simp only [List.mem_append] at f0;rcases f0 with (f0|f0)|f0
     ·exact e5 k (by rw [a2];simp [f0])
     ·exact i5.keys k f0
     ·exact e5 k (by rw [a2];simp [f0])
    ·intro y hy;simp only [List.mem_append] at hy
     have old:∀ y∈ls,∃ g0,cD s1 y.page=some g0∧4≤aT g0∧Vt s1 h g0 y.its y.ps:=λ y hy=>by
      obtain ⟨n1,g1,g2,g3⟩:=e8 y hy;exact ⟨n1,i5.ext.node g1,g2,g3.ext i5.ext⟩
     rcases hy with (hy|hy)|hy
     ·exact old y (by rw [a1];simp [hy])
     ·obtain ⟨n1,g1,g2,g3⟩:=i5.sub y hy;exact ⟨n1,g1,oM,g3⟩
     ·exact old y (by rw [a1];simp [hy])
   have t0:ls.length=la.length+1+lb.length:=by rw [a1];simp;omega
   have r1:nd.kids.length=ls.length:=by rw [e2,List.length_map]
   have z0:1≤a0.length:=by have:=i5.len;omega
   have y0:=i5.two;have f1:aT ⟨[],(la++a0++lb).map (·.page),ka++up.keys++kb⟩=la.length+a0.length+lb.length:=by simp [aT];omega
   have q0:aT nd=nd.kids.length:=by simp [aT,e1]
   have j1:ps.length=(pgs la).length+(1+x.ps.length)+(pgs lb).length:=by
    rw [e7,show ls.flatMap (λ x=>x.page::x.ps)=pgs ls from rfl,a1,show la++x::lb=la++[x]++lb by simp,iW,iW,pgs_one];simp;omega
   obtain ⟨o0,s2,j0,q1,q2,q3,q4⟩:=store_up i5.ok p0 oM oM oM;refine ⟨o0,s2,j0,?_,⟨q2.items,q2.kids,q2.len,q2.two,q2.toks,q2.keys,q2.its,λ y hy=>?_,i5.ext.trans q2.ext,q2.ok,q2.big⟩,?_,?_⟩
   ·simp only [mI,i4,hN];exact q1
   ·obtain ⟨n1,g1,g2,g3⟩:=q2.sub y hy;exact ⟨n1,g1,oM,g3⟩
   ·rw [iW,iW,List.length_append,List.length_append] at q3;omega
   ·rw [iW,iW,List.length_append,List.length_append] at q4;omega
end Go.Proofs.YtfpadnmdafiddaaGreatDoor
namespace Go.Proofs.YtfpadnmdafiddaaGreatDoor
open Go Go.RowKit Go.V
theorem findN_eq {key:Bs}:∀ {l:bT} {i:Nat},(∀ j x,j<i→l[j]? = some x→fQ x.1 key)→(∀ x,l[i]? = some x→¬ fQ x.1 key)→i≤l.length→dP l key=i
 | [],i,_,_,h=>by simp at h;subst h;rfl
 | x::l,0,_,h2,_=>by rw [jY,if_neg (h2 x rfl)]
 | x::l,i+1,h1,h2,h3=>by
  rw [jY,if_pos (h1 0 x oM rfl),findN_eq (l:=l) (i:=i) (λ j y hj hy=>h1 (j+1) y oM (by simpa using hy)) (λ y hy=>h2 y (by simpa using hy)) (by simpa using h3)]
theorem kidN_eq {key:Bs}:∀ {l:List Bs} {i:Nat},(∀ j x,j<i→l[j]? = some x→bY x key≤0)→(∀ x,l[i]? = some x→¬ bY x key≤0)→i≤l.length→fW l key=i
 | [],i,_,_,h=>by simp at h;subst h;rfl
 | x::l,0,_,h2,_=>by
  have:=h2 x rfl;unfold fW;rw [List.takeWhile_cons,if_neg (by simpa using this)];rfl
 | x::l,i+1,h1,h2,h3=>by
  have:=kidN_eq (key:=key) (l:=l) (i:=i) (λ j y hj hy=>h1 (j+1) y oM (by simpa using hy)) (λ y hy=>h2 y (by simpa using hy)) (by simpa using h3);unfold fW at this ⊢;rw [List.takeWhile_cons,if_pos (by simpa using h1 0 x oM rfl),List.length_cons,this]
theorem find_c (F G:Nat→Prop) (x:NV) (nd:Nd) (b:Option Addr) (m d:Nat) (key:Bs) (w:World) (h:NdAt F w x nd) (hk:Sl G w 1 b m d (bB key)) (j0:bF nd=true) (hl:bN nd=true) :
  Calls Tryz.prog 149 #[x.val,.slice b m d] w (Ret λ v w'=>v=.tuple #[.int .i64 (dP nd.items key:Int),.bool (fP nd.items key)]∧Grow w w'):=by
 have p0:=h.its.len;have o0:=bR h.kids;have h2:x.n2=0:=by rw [o0,bL.1 hl];rfl
 have t0:x.n1≤8:=by
  unfold bF at j0;rw [if_pos hl] at j0;rw [p0];exact (dG j0).2.1
 refine V.calls (args:=[_,_]) Tryz.func149 rfl Tryz.ntmps149 rfl rfl ?_;obtain ⟨cs,hs,h0⟩:=h.its.at';repeat (first|refine aF ?_|refine yI λ bk w' hg a0 g0 f0=>?_|refine yJ λ w' hu a0 g0=>?_|(refine aB 188 ?_;refine aA rfl (check_ok (h.go (Carry.grow yG)) j0) rfl ?_;rintro _ _ ⟨rfl,k0⟩)|(refine aB 189 ?_;refine aA rfl (shape_leaf x _ h2) rfl ?_;rintro _ _ ⟨rfl,k0⟩)|(refine mT ?_;refine lL rfl rfl ?_))
 have n0:Grow w w':=by exact yG
 refine aX (S:=Nat) (λ i=>[(21,.int .i64 (i:Int)),(20,.int .i64 (x.n1:Int)),(19,.slice x.a1 x.n1 x.c1),(1,.slice b m d),(6,.pointer (some ⟨bk,0,none⟩))]) (λ i w1=>Blk w1 bk 269 [.slice x.a1 x.n1 x.c1,.slice x.a3 x.n3 x.c3]∧Grow w w1∧i≤x.n1∧∀ j y,j<i→nd.items[j]? = some y→fQ y.1 key) (λ i=>x.n1-i) 0 ⟨rfl,rfl,rfl,rfl,rfl,trivial⟩ ⟨a0,n0,oM,λ j y hj=>by omega⟩ ?_;clear a0 n0 hg hu;rintro i w1 ⟨a0,m0,hi,e0⟩;have s0:=a0.lt;have i0:=hs.grow m0;have u0:=hk.grow m0;by_cases l0:i<x.n1;rotate_left
 ·have he:dP nd.items key=x.n1:=findN_eq (λ j y hj hy=>e0 j y oM hy) (λ y hy=>by rw [List.getElem?_eq_none oM] at hy;cases hy) oM;have ht:fP nd.items key=false:=by unfold fP;rw [he,List.getElem?_eq_none oM]
  repeat refine aF ?_
  exact fJ rfl rfl ⟨_,rfl,by rw [he,ht],yG⟩
 obtain ⟨y,hy⟩:∃ y,nd.items[i]? = some y:=⟨_,List.getElem?_eq_getElem oM⟩
 obtain ⟨ka,kc,va,vc,g1,g2,s1,s2⟩:=h0 i y hy;by_cases hc:bY y.1 key<0
 ·repeat (first|refine aC rfl rfl rfl l0 rfl ⟨F,_,i0⟩ rfl ?_|(refine aQ ?_;refine dJ rfl i0 (two_at g1 g2) rfl rfl ?_)|(refine aB 139 ?_;refine aA rfl (eN _ _ _ _ _ _ _ _ _ _ _ (s1.grow yG) (hk.grow yG)) rfl ?_;rintro _ _ ⟨rfl,k0⟩)|refine yC ?_|refine yI λ bk w' hg a0 g0 f0=>?_|refine yJ λ w' hu a0 g0=>?_)
  exact aE (i+1) ⟨rfl,rfl,rfl,rfl,rfl,trivial⟩ ⟨yB,yG,oM,λ j z hj hz=>by
   by_cases q0:j=i
   ·subst q0;rw [hy] at hz;cases hz;exact hc
   ·exact e0 j z oM hz⟩ oM
 ·have he:dP nd.items key=i:=findN_eq e0 (λ z hz=>by rw [hy] at hz;cases hz;exact hc) oM;have ht:fP nd.items key=decide (bY y.1 key=0):=by unfold fP;rw [he,hy]
  repeat (first|refine aC rfl rfl rfl l0 rfl ⟨F,_,i0⟩ rfl ?_|(refine aQ ?_;refine dJ rfl i0 (two_at g1 g2) rfl rfl ?_)|(refine aB 139 ?_;refine aA rfl (eN _ _ _ _ _ _ _ _ _ _ _ (s1.grow yG) (hk.grow yG)) rfl ?_;rintro _ _ ⟨rfl,k0⟩)|refine yC ?_|refine yI λ bk w' hg a0 g0 f0=>?_|refine yJ λ w' hu a0 g0=>?_)
  refine fJ rfl rfl ⟨_,rfl,by rw [he,ht];rfl,yG⟩
theorem kid_c (F G:Nat→Prop) (x:NV) (nd:Nd) (b:Option Addr) (m d:Nat) (key:Bs) (w:World) (h:NdAt F w x nd) (hk:Sl G w 1 b m d (bB key)) (g0:bF nd=true) (hl:bN nd=false) :
  Calls Tryz.prog 150 #[x.val,.slice b m d] w (Ret λ v w'=>v=.int .i64 (fW nd.keys key:Int)∧Grow w w'):=by
 have o0:=bR h.kids;have s0:=h.kys.len;have h2:x.n2≠0:=by rw [o0];intro e;rw [bL.2 (List.eq_nil_of_length_eq_zero e)] at hl;cases hl
 have t0:x.n3≤8:=by
  unfold bF at g0;rw [if_neg (by rw [hl];simp)] at g0;have:=cO g0;omega
 refine V.calls (args:=[_,_]) Tryz.func150 rfl Tryz.ntmps150 rfl rfl ?_;obtain ⟨cs,hs,e0⟩:=h.kys.at';repeat (first|refine aF ?_|refine yI λ bk w' hg f0 n0 m0=>?_|refine yJ λ w' hu f0 n0=>?_|(refine aB 188 ?_;refine aA rfl (check_ok (h.go (Carry.grow yG)) g0) rfl ?_;rintro _ _ ⟨rfl,i0⟩)|(refine aB 189 ?_;refine aA rfl (lD x _ h2) rfl ?_;rintro _ _ ⟨rfl,i0⟩)|(refine mT ?_;refine lL rfl rfl ?_))
 have l0:Grow w w':=by exact yG
 refine aX (S:=Nat) (λ i=>[(19,.int .i64 (i:Int)),(18,.int .i64 (x.n3:Int)),(17,.slice x.a3 x.n3 x.c3),(1,.slice b m d),(5,.pointer (some ⟨bk,0,none⟩))]) (λ i w1=>Blk w1 bk 271 x.cs∧Grow w w1∧i≤x.n3∧∀ j y,j<i→nd.keys[j]? = some y→bY y key≤0) (λ i=>x.n3-i) 0 ⟨rfl,rfl,rfl,rfl,rfl,trivial⟩ ⟨f0,l0,oM,λ j y hj=>by omega⟩ ?_;clear f0 l0 hg hu;rintro i w1 ⟨f0,k0,hi,a0⟩;have q0:=f0.lt;have h0:=hs.grow k0;have u0:=hk.grow k0;by_cases j0:i<x.n3;rotate_left
 ·have he:fW nd.keys key=x.n3:=kidN_eq (λ j y hj hy=>a0 j y oM hy) (λ y hy=>by rw [List.getElem?_eq_none oM] at hy;cases hy) oM;repeat refine aF ?_
  exact bA rfl ⟨_,rfl,by rw [he],yG⟩
 obtain ⟨y,hy⟩:∃ y,nd.keys[i]? = some y:=⟨_,List.getElem?_eq_getElem oM⟩
 obtain ⟨ka,kc,g1,s1⟩:=e0 i y hy;have v0:w1.cell? (at' x.a3 i)=some (.slice ka y.length kc):=h0.row.cell g1;by_cases hc:bY y key≤0
 ·repeat (first|(refine aI ?_;refine aC rfl rfl rfl j0 (Nat.mul_one _) ⟨F,_,h0⟩ rfl ?_)|(refine aB 139 ?_;refine aA rfl (eN _ _ _ _ _ _ _ _ _ _ _ (s1.grow yG) (hk.grow yG)) rfl ?_;rintro _ _ ⟨rfl,i0⟩)|refine yC ?_)
  exact aE (i+1) ⟨rfl,rfl,rfl,rfl,rfl,trivial⟩ ⟨yB,yG,oM,λ j z hj hz=>by
   by_cases p0:j=i
   ·subst p0;rw [hy] at hz;cases hz;exact hc
   ·exact a0 j z oM hz⟩ oM
 ·have he:fW nd.keys key=i:=kidN_eq a0 (λ z hz=>by rw [hy] at hz;cases hz;exact hc) oM;repeat (first|(refine aI ?_;refine aC rfl rfl rfl j0 (Nat.mul_one _) ⟨F,_,h0⟩ rfl ?_)|(refine aB 139 ?_;refine aA rfl (eN _ _ _ _ _ _ _ _ _ _ _ (s1.grow yG) (hk.grow yG)) rfl ?_;rintro _ _ ⟨rfl,i0⟩)|refine yC ?_)
  refine bA rfl ⟨_,rfl,by rw [he],yG⟩
theorem lF {w:World} {base e sz:Nat}:w.ownsRow base e sz (.slice none 0 0) 0 []:=⟨sM,.inl ⟨rfl,rfl⟩⟩
theorem take_step {α : Type} {l:List α} {i:Nat} {x : α} (h:l[i]? = some x):l.take (i+1)=l.take i++[x]:=by
 obtain ⟨hi,rfl⟩:=List.getElem?_eq_some_iff.1 h;rw [List.take_succ_eq_append_getElem hi]
theorem bytes_leaf (F:Nat→Prop) (x:NV) (nd:Nd) (w:World) (h:NdAt F w x nd) (r1:bF nd=true) (hl:bN nd=true) :
  Calls Tryz.prog 154 #[x.val] w (Ret λ v w'=>∃ u,v=.tuple #[u,.int .i64 0]∧w'.ownsRow w.heap.size 5 1 u (dC nd).length (bB (dC nd))∧Grow w w'):=by
 have u1:=h.its.len;have x2:=bR h.kids;have h2:x.n2=0:=by rw [x2,bL.1 hl];rfl
 have x0:=r1;unfold bF at x0;rw [if_pos hl] at x0;obtain ⟨_,h8,f1⟩:=dG x0;have i3:x.n1≤8:=by rw [u1];exact h8
 refine V.calls (args:=[_]) Tryz.func154 rfl Tryz.ntmps154 rfl rfl ?_;obtain ⟨cs,hs,n0⟩:=h.its.at';repeat (first|refine aF ?_|refine yI λ bk w' hg m0 e1 z0=>?_|refine yJ λ w' hu m0 e1=>?_|(refine aB 188 ?_;refine aA rfl (check_ok (h.go (Carry.grow yG)) r1) rfl ?_;rintro _ _ ⟨rfl,y2⟩)|(refine aB 189 ?_;refine aA rfl (shape_leaf x _ h2) rfl ?_;rintro _ _ ⟨rfl,y2⟩)|(refine mT ?_;refine lL rfl rfl ?_))
 have d2:Grow w w':=by exact yG
 refine TL.buildSlice rfl rfl rfl rfl rfl ?_;intro b w3 u0 e2 h3 g3 u2;have o1:Sl (λ _=>True) w3 1 (some ⟨b,0,none⟩) 2 2 (bB [0,x.n1]):=(aU (sz:=1) (m:=2) e2 u2 dM).mono (λ _ _=>trivial);have p0:=m0.grow u0;have o2:=u0.size;have r2:=d2.size;refine TL.append (base:=w.heap.size) rfl rfl lF o1 (bO [0,x.n1]) (by unfold maxLen;omega) oM oM rfl ?_;intro v1 w4 i0 k0 _;have m1:Blk w4 bk 269 [.slice x.a1 x.n1 x.c1,.slice x.a3 x.n3 x.c3]:=dE k0 (by simp [Value.ownBlock]) p0;have z1:Grow w w4:=Grow.mk (aL k0 oM (λ k hk=>by cases hk) (d2.trans u0).1);clear m0 p0 k0 e2 u0 o1 hu hg;repeat refine aF ?_
 refine aX (S:=Value×Nat×Nat) (λ s=>[(34,.int .i64 (s.2.2:Int)),(33,.int .i64 (x.n1:Int)),(32,.slice x.a1 x.n1 x.c1),(5,s.1)]) (λ s w2=>s.2.2≤x.n1∧s.2.1≤2+50*s.2.2∧w2.ownsRow w.heap.size 5 1 s.1 s.2.1 (bB ([0,x.n1]++(nd.items.take s.2.2).flatMap (λ y=>bS y.1++bS y.2)))∧Grow w w2) (λ s=>x.n1-s.2.2) (v1,2,0) ⟨rfl,rfl,rfl,rfl,trivial⟩ ⟨by show 0≤x.n1;omega,by show 2≤2+50*0;omega,by simpa using i0,z1⟩ ?_;clear m1 z1 i0;rintro ⟨u,k,i⟩ w1 ⟨hi,hk,a0,v0⟩;simp only at hi hk a0;refine bD (e':=[(34,.int .i64 (i:Int)),(33,.int .i64 (x.n1:Int)),(32,.slice x.a1 x.n1 x.c1),(5,u)]) ?_ ⟨rfl,rfl,rfl,rfl,trivial⟩;have q1:=hs.grow v0;have q2:=v0.size;by_cases x1:i<x.n1;rotate_left
 ·obtain rfl:i=x.n1:=by omega
  repeat refine aF ?_
  refine fJ rfl rfl ⟨_,rfl,_,rfl,?_,v0⟩
  have e:dC nd=[0,x.n1]++(nd.items.take x.n1).flatMap (λ y=>bS y.1++bS y.2):=by
   unfold dC;rw [if_pos hl,u1,List.take_length]
  rw [e];have:=a0.1;rw [bE,Nat.mul_one] at this;rw [this];exact a0
 obtain ⟨y,hy⟩:∃ y,nd.items[i]? = some y:=⟨_,List.getElem?_eq_getElem oM⟩
 obtain ⟨ka,kc,va,vc,g1,g2,s1,s2⟩:=n0 i y hy;have y1:=mN f1 (List.mem_of_getElem? hy);have j3:=eK y1.1;have f3:=iD y1.2;have lk:=jE y.1 oM;have lv:=jE y.2 oM;repeat (first|refine aC rfl rfl rfl x1 rfl ⟨F,_,q1⟩ rfl ?_|(refine aQ ?_;refine dJ rfl q1 (two_at g1 g2) rfl rfl ?_)|refine yC ?_|refine yI λ bk w' hg m0 e1 z0=>?_|refine yJ λ w' hu m0 e1=>?_)
 have l0:Grow w1 w':=by exact yG
 have t0:Grow w w':=v0.trans l0;have e0:=aO a0 l0;refine aA rfl (block_c F ka _ kc y.1 _ (s1.grow t0) oM) rfl ?_;rintro bv wb ⟨s0,f0⟩;obtain ⟨ba,bc,rfl,q0⟩:=aM s0;have f2:=t0.size;have y0:=f0.size;refine TL.append rfl rfl (aO e0 f0) q0 (bO _) (by unfold maxLen;omega) oM oM rfl ?_;intro v5 w5 h0 j0 _;have j1:Grow w w5:=Grow.mk (aL j0 oM (λ k hk=>(aR (aO e0 f0) hk).1) (t0.trans f0).1);have o0:=m0.grow f0;have d3:Blk w5 bk 58 [.slice ka y.1.length kc,.slice va y.2.length vc]:=dE j0 (λ e=>by have:=aR a0 e;omega) o0;clear e0 t0 l0 s0 q0 f0 j0 m0 o0 hu hg a0;repeat refine aF ?_
 refine aA rfl (block_c F va _ vc y.2 _ (s2.grow j1) oM) rfl ?_;rintro bv wb ⟨s0,f0⟩;obtain ⟨ba,bc,rfl,q0⟩:=aM s0;have j2:=j1.size;have y0:=f0.size;refine TL.append rfl rfl (aO h0 f0) q0 (bO _) (by unfold maxLen;omega) oM oM rfl ?_;intro v6 w6 g0 h1 _;have z2:Grow w w6:=Grow.mk (aL h1 oM (λ k hk=>(aR (aO h0 f0) hk).1) (j1.trans f0).1);repeat refine aF ?_
 refine aE (v6,k+(bS y.1).length+(bS y.2).length,i+1) ⟨rfl,rfl,rfl,rfl,trivial⟩ ⟨x1,by simp only;omega,?_,z2⟩ (by simp only;omega);simp only;rw [take_step hy,List.flatMap_append];simp only [List.flatMap_cons,List.flatMap_nil,List.append_nil,dH,← List.append_assoc] at g0 ⊢;exact g0
theorem bytes_branch (F:Nat→Prop) (x:NV) (nd:Nd) (w:World) (h:NdAt F w x nd) (j1:bF nd=true) (hl:bN nd=false) :
  Calls Tryz.prog 154 #[x.val] w (Ret λ v w'=>∃ u,v=.tuple #[u,.int .i64 0]∧w'.ownsRow w.heap.size 5 1 u (dC nd).length (bB (dC nd))∧Grow w w'):=by
 have s0:=bR h.kids;have g2:=h.kys.len;have h2:x.n2≠0:=by rw [s0];intro e;rw [bL.2 (List.eq_nil_of_length_eq_zero e)] at hl;cases hl
 have u0:=j1;unfold bF at u0;rw [if_neg (by rw [hl];simp)] at u0;obtain ⟨_,p2,p8,p4,pk,py⟩:=cO u0;have y2:x.n2≤8:=by rw [s0];exact p8
 have j2:x.n3≤8:=by omega
 refine V.calls (args:=[_]) Tryz.func154 rfl Tryz.ntmps154 rfl rfl ?_;obtain ⟨cs,hs,o0⟩:=h.kys.at';repeat (first|refine aF ?_|refine yI λ bk w' hg j0 d2 z1=>?_|refine yJ λ w' hu j0 d2=>?_|(refine aB 188 ?_;refine aA rfl (check_ok (h.go (Carry.grow yG)) j1) rfl ?_;rintro _ _ ⟨rfl,o2⟩)|(refine aB 189 ?_;refine aA rfl (lD x _ h2) rfl ?_;rintro _ _ ⟨rfl,o2⟩)|(refine mT ?_;first|refine lL rfl rfl ?_|refine TL.assertNo rfl rfl rfl ?_))
 have q1:Grow w w':=by exact yG
 refine TL.buildSlice rfl rfl rfl rfl rfl ?_;intro b w3 t0 r1 x2 u2 e2;have h1:Sl (λ _=>True) w3 1 (some ⟨b,0,none⟩) 2 2 (bB [1,x.n2]):=(aU (sz:=1) (m:=2) r1 e2 dM).mono (λ _ _=>trivial);have q0:=j0.grow t0;have x1:=t0.size;have y1:=q1.size;refine TL.append (base:=bk+1) rfl rfl lF h1 (bO [1,x.n2]) (by unfold maxLen;omega) oM oM rfl ?_;intro v1 w4 i0 k0 _;have p0:Blk w4 bk 271 x.cs:=dE k0 (by simp [Value.ownBlock]) q0;have o1:Grow w w4:=Grow.mk (aL k0 oM (λ k hk=>by cases hk) (q1.trans t0).1);have s2:w.heap.size≤bk:=by omega
 clear j0 q0 k0 r1 t0 h1 hu hg;repeat refine aF ?_
 refine aX (S:=Value×Nat×Nat) (λ s=>[(62,.int .i64 (s.2.2:Int)),(61,.int .i64 (x.n2:Int)),(60,.slice x.a2 x.n2 x.c2),(9,.pointer (some ⟨bk,0,none⟩)),(5,s.1)]) (λ s w2=>s.2.2≤x.n2∧s.2.1≤2+50*s.2.2∧w2.ownsRow (bk+1) 5 1 s.1 s.2.1 (bB ([1,x.n2]++(nd.kids.take s.2.2).flatMap bP))∧Blk w2 bk 271 x.cs∧Grow w w2) (λ s=>x.n2-s.2.2) (v1,2,0) ⟨rfl,rfl,rfl,rfl,rfl,trivial⟩ ⟨by show 0≤x.n2;omega,by show 2≤2+50*0;omega,by simpa using i0,p0,o1⟩ ?_;clear p0 o1 i0;rintro ⟨u,k,i⟩ w1 ⟨hi,hk,a0,j0,g0⟩;simp only at hi hk a0;refine bD (e':=[(62,.int .i64 (i:Int)),(61,.int .i64 (x.n2:Int)),(60,.slice x.a2 x.n2 x.c2),(9,.pointer (some ⟨bk,0,none⟩)),(5,u)]) ?_ ⟨rfl,rfl,rfl,rfl,rfl,trivial⟩;have l0:=h.kids.grow g0;have m0:=g0.size;by_cases m1:i<x.n2
 ·obtain ⟨p,hp⟩:∃ p,nd.kids[i]? = some p:=⟨_,List.getElem?_eq_getElem oM⟩
  have q2:w1.cell? (at' x.a2 i)=some (.int .i64 (p:Int)):=l0.row.cell (jM hp);have f2:=kid_ok pk (List.mem_of_getElem? hp);repeat (first|(refine aI ?_;refine aC rfl rfl rfl m1 (Nat.mul_one _) ⟨F,_,l0⟩ rfl ?_)|refine yC ?_)
  refine aA rfl (word_c p oM _) rfl ?_;rintro bv wb ⟨z0,h0⟩;obtain ⟨ba,bc,rfl,x0⟩:=aM z0;have v0:=h0.size;have r2:=j0.lt;refine TL.append rfl rfl (aO a0 h0) x0 (bO _) (by unfold maxLen;omega) oM oM rfl ?_;intro v6 w6 e0 f0 _;have e1:Grow w w6:=Grow.mk (aL f0 oM (λ k hk=>by have:=aR (aO a0 h0) hk;omega) (g0.trans h0).1);have f1:Blk w6 bk 271 x.cs:=dE f0 (λ e=>by have:=aR a0 e;omega) (j0.grow h0);repeat refine aF ?_
  refine aE (v6,k+4,i+1) ⟨rfl,rfl,rfl,rfl,rfl,trivial⟩ ⟨m1,by simp only;omega,?_,f1,e1⟩ (by simp only;omega)
  ·simp only;rw [take_step hp,List.flatMap_append];simp only [List.flatMap_cons,List.flatMap_nil,List.append_nil,dH,← List.append_assoc] at e0 ⊢;exact e0
 obtain rfl:i=x.n2:=by omega
 repeat refine aF ?_
 have y0:(nd.kids.take x.n2).flatMap bP=nd.kids.flatMap bP:=by rw [s0,List.take_length]
 rw [y0] at a0;refine aX (S:=Value×Nat×Nat) (λ s=>[(75,.int .i64 (s.2.2:Int)),(74,.int .i64 (x.n3:Int)),(73,.slice x.a3 x.n3 x.c3),(5,s.1)]) (λ s w2=>bk<w2.heap.size∧s.2.2≤x.n3∧s.2.1≤1000+50*s.2.2∧w2.ownsRow (bk+1) 5 1 s.1 s.2.1 (bB ([1,x.n2]++nd.kids.flatMap bP++(nd.keys.take s.2.2).flatMap bS))∧Grow w w2) (λ s=>x.n3-s.2.2) (u,k,0) ⟨rfl,rfl,rfl,rfl,trivial⟩ ⟨j0.lt,by show 0≤x.n3;omega,by show k≤1000+50*0;omega,by simpa using a0,g0⟩ ?_;clear j0 g0 a0 m0 l0 hi hk;rintro ⟨u,k,i⟩ w1 ⟨r2,hi,hk,a0,g0⟩;simp only at hi hk a0;refine bD (e':=[(75,.int .i64 (i:Int)),(74,.int .i64 (x.n3:Int)),(73,.slice x.a3 x.n3 x.c3),(5,u)]) ?_ ⟨rfl,rfl,rfl,rfl,trivial⟩;have l0:=hs.grow g0;have m0:=g0.size;by_cases n0:i<x.n3
 ·obtain ⟨p,hp⟩:∃ p,nd.keys[i]? = some p:=⟨_,List.getElem?_eq_getElem oM⟩
  obtain ⟨ka,kc,g1,s1⟩:=o0 i p hp;have q2:w1.cell? (at' x.a3 i)=some (.slice ka p.length kc):=l0.row.cell g1;have f2:=eK (key_ok' py (List.mem_of_getElem? hp));have lk:=jE p oM;repeat (first|(refine aI ?_;refine aC rfl rfl rfl n0 (Nat.mul_one _) ⟨F,_,l0⟩ rfl ?_)|refine yC ?_)
  refine aA rfl (block_c F ka _ kc p _ (s1.grow g0) oM) rfl ?_;rintro bv wb ⟨z0,h0⟩;obtain ⟨ba,bc,rfl,x0⟩:=aM z0;have v0:=h0.size;refine TL.append rfl rfl (aO a0 h0) x0 (bO _) (by unfold maxLen;omega) oM oM rfl ?_;intro v6 w6 e0 f0 _;have e1:Grow w w6:=Grow.mk (aL f0 oM (λ k hk=>by have:=aR (aO a0 h0) hk;omega) (g0.trans h0).1);repeat refine aF ?_
  have u1:=f0.size;refine aE (v6,k+(bS p).length,i+1) ⟨rfl,rfl,rfl,rfl,trivial⟩ ⟨oM,n0,by simp only;omega,?_,e1⟩ (by simp only;omega);simp only;rw [take_step hp,List.flatMap_append];simp only [List.flatMap_cons,List.flatMap_nil,List.append_nil,dH,← List.append_assoc] at e0 ⊢;exact e0
 obtain rfl:i=x.n3:=by omega
 repeat refine aF ?_
 refine fJ rfl rfl ⟨_,rfl,_,rfl,?_,g0⟩
 have e:dC nd=[1,x.n2]++nd.kids.flatMap bP++(nd.keys.take x.n3).flatMap bS:=by
  unfold dC;rw [if_neg (by rw [hl];simp),s0,g2,List.take_length]
 rw [e];have:=a0.1;rw [bE,Nat.mul_one] at this;rw [this];exact eB a0 oM
theorem dN {b:Nat} {w w':World} (m:Mut b w w'):But b w w':=⟨m.os,m.tape,m.output,m.size,λ k hk hb=>m.block k hk (λ e=>hb (by cases e;rfl))⟩
theorem Carry.but {F:Nat→Prop} {w w':World} {b:Nat} (u:But b w w') (hb:∀ k,F k→k<w.heap.size→k≠b):Carry F w F w':=⟨u.size,λ k hk h=>⟨hk,u.block k h (hb k hk h)⟩⟩
theorem mK {w w':World} {base n sz e b:Nat} {v:Value} {xs:List Value} (h:w.ownsRow base e sz v n xs) (u:But b w w') (hb:b<base):w'.ownsRow base e sz v n xs:=cB h λ k hk hv=>u.block k (aR h hv).2 oM
theorem but_grow' {b:Nat} {w w':World} (g:Grow w w'):But b w w':=gE g (But.refl b w)
section
variable [Rn]
variable {P:Program} {n:Nat} {e:dI} {w w':World} {Q:dA} {ops:Array Oper} {rest:List Oper} {d:Nat} {ty:TypeId} {pos:String} {aft:Array Edge}
def zs (n:Nat):Bs:=List.replicate n 0
theorem eO (m:Nat) {t:TypeId} (hz:(P.info? t).bind (·.zero)=some (.agg (bB (zs m)).toArray)) (hd:Nat.blt d n=true)
  (k:∀ b w',Grow w w'→Blk w' b t (bB (zs m))→w.heap.size=b→w'.heap.size=b+1→TL P n ops rest ((d,.pointer (some ⟨b,0,none⟩))::e) w' Q) :
  TL P n ops (⟨some d,.alloc t,ty,pos,aft,none⟩::rest) e w Q:=@TL.alloc _ P n e w Q ops rest d ty pos aft t _ (bB (zs m)) ⟨hz⟩ rfl hd k
theorem nS {t bt:TypeId} {m b:Nat} {x:Operand} {l:Bs} [ht:Agg P t m] (hx:val e x=some (.pointer (some ⟨b,0,none⟩))) (hb:Blk w b bt (bB l)) (hl:l.length=m) (hd:Nat.blt d n=true)
  (k:TL P n ops rest ((d,.agg (bB l).toArray)::e) w Q):TL P n ops (⟨some d,.load t x,ty,pos,aft,none⟩::rest) e w Q :=
 iP hx hb (by rw [bE,hl];exact Nat.beq_refl m) hd k
theorem fH {t bt:TypeId} {m b:Nat} {x y:Operand} {l v:Bs} [ht:Agg P t m] (hx:val e x=some (.pointer (some ⟨b,0,none⟩))) (hy:val e y=some (.agg (bB v).toArray)) (hb:Blk w b bt (bB l)) (hl:l.length=m) (hv:v.length=m)
  (k:∀ w',Upd b w w'→Blk w' b bt (bB v)→w'.heap.size=w.heap.size→TL P n ops rest e w' Q):TL P n ops (⟨none,.store t x y,ty,pos,aft,none⟩::rest) e w Q :=
 eG hx hy hb (by rw [bE,hv];exact Nat.beq_refl m) (by rw [bE,hl];exact Nat.beq_refl m) (List.all_eq_true.2 (bO v)) k
theorem TL.loadAll {t m:Nat} {x:Operand} {a:Option Addr} {F:Nat→Prop} {c:Nat} {cs:List Value} [ht:Agg P t m] (hx:val e x=some (.pointer a)) (hs:Sl F w 1 a m c cs) (hm:Nat.ble 1 m=true) (hd:Nat.blt d n=true)
  (k:TL P n ops rest ((d,.agg cs.toArray)::e) w Q):TL P n ops (⟨some d,.load t x,ty,pos,aft,none⟩::rest) e w Q:=by
 have hm:=Nat.le_of_ble_eq_true hm
 cases a with
 | none=>have:=hs.nil rfl;have:=hs.cap;omega
 | some p =>
  have hl:=hs.len;exact TL.run (λ r hr=>by simp [execOp,Instr.loadAt,hr.eval hx,Instr.sureAddr,iS ht oM (hs.row.cell_add rfl)]) hd k
theorem putAt_eq:∀ (vs cs:List Value) (o:Nat),o+vs.length≤cs.length→iJ cs o vs=cs.take o++vs++cs.drop (o+vs.length)
 | [],cs,o,_=>by simp [iJ]
 | v::vs,cs,o,h=>by
  simp only [List.length_cons] at h;have hlt:o<cs.length:=by omega
  rw [iJ,putAt_eq vs (cs.set o v) (o+1) (by simp;omega)]
  have e1:(cs.set o v).take (o+1)=cs.take o++[v]:=by
   rw [List.take_succ_eq_append_getElem (by simpa using hlt),List.take_set_of_le (Nat.le_refl _)];simp
  have e2:(cs.set o v).drop (o+1+vs.length)=cs.drop (o+(v::vs).length):=by
   rw [List.drop_set_of_lt oM];congr 1
   simp only [List.length_cons];omega
  rw [e1,e2];simp
theorem putAt_bys {l v:Bs} {o:Nat} (h:o+v.length≤l.length):iJ (bB l) o (bB v)=bB (l.take o++v++l.drop (o+v.length)):=by
 rw [putAt_eq _ _ _ (by simpa [bE] using h),bE];simp [bB,List.map_take,List.map_drop]
theorem jJ {b o m c:Nat} {t:TypeId} {l:Bs} (hb:Blk w b t (bB l)) (hm:o+m≤l.length) (hc:m≤c) (a0:c≤maxLen):Sl (λ k=>k=b) w 1 (some ⟨b,o,none⟩) m c (bB ((l.drop o).take m)) :=
 ⟨by rw [bE,List.length_take,List.length_drop];omega,hc,a0,(λ h=>by cases h),λ _=>⟨rfl,rfl,hb.lt,λ j v hj=>hb.cell (by
  unfold bB at *;rw [List.getElem?_map,List.getElem?_take] at hj;split at hj
  ·rw [List.getElem?_drop] at hj;rw [List.getElem?_map];exact hj
  ·cases hj)⟩⟩
end
theorem zero_sector:(Tryz.prog.info? 247).bind (·.zero)=some (.agg (bB (zs 256)).toArray):=by kernel_rfl
theorem zero_page:(Tryz.prog.info? 197).bind (·.zero)=some (.agg (bB (zs 512)).toArray):=by kernel_rfl
theorem zero_dig:(Tryz.prog.info? 243).bind (·.zero)=some (.agg (bB (zs 32)).toArray):=by kernel_rfl
theorem cN (n:Nat):(zs n).length=n:=List.length_replicate
instance:PtrTy Tryz.prog 118:=⟨kR⟩
instance:MapTy Tryz.prog 248 3 247:=⟨kR⟩
structure DkAt (w:World) (d:Nat) (s m N:Nat) (f:Nat→Option Value):Prop where
 blk:Blk w d 250 [.pointer (some ⟨d,0,none⟩),.slice (some ⟨s,0,none⟩) N N,.map (some m)]
 map:MapF w m f
 ne:d≠m
 le:N≤16384
theorem DkAt.keep {w w':World} {d s m N:Nat} {f:Nat→Option Value} (h:DkAt w d s m N f) (hd:w'.heap[d]? = w.heap[d]?) (hm:w'.heap[m]? = w.heap[m]?):DkAt w' d s m N f :=
 ⟨by have:=h.blk;unfold Blk at *;rw [hd];exact this,h.map.keep hm,h.ne,h.le⟩
theorem DkAt.grow {w w':World} {d s m N:Nat} {f:Nat→Option Value} (g:Grow w w') (h:DkAt w d s m N f):DkAt w' d s m N f:=h.keep (g.block d h.blk.lt) (g.block m h.map.lt)
theorem dmade_c (s N:Nat) (w:World) (hN:N≤16384) :
  Calls Tryz.prog 141 #[.slice (some ⟨s,0,none⟩) N N] w (Ret λ v w'=>∃ d m,v=.pointer (some ⟨d,0,none⟩)∧w.heap.size≤d∧w.heap.size≤m∧DkAt w' d s m N (λ _=>none)∧Grow w w'):=by
 refine V.calls (args:=[_]) Tryz.func141 rfl Tryz.ntmps141 rfl rfl ?_;repeat (first|(refine TL.isMakeMap ?_;refine TL.makeMapF rfl ?_;intro m w1 j0 g0 i0 h0)|refine yA ?_|refine yI λ bk w' hg a0 f0 e0=>?_|refine yJ λ w' hu a0 f0=>?_)
 refine bA rfl ⟨_,rfl,bk,m,rfl,oM,oM,⟨a0,MapF.upd hu oM (g0.grow hg),oM,hN⟩,yG⟩
theorem dnew_c (n:Nat) (w:World) (h1:1≤n) (hn:n≤16384) :
  Calls Tryz.prog 67 #[.int .i64 (n:Int)] w (Ret λ v w'=>∃ d s m,v=.tuple #[.pointer (some ⟨d,0,none⟩),.int .i64 0]∧w.heap.size≤d∧w.heap.size≤m∧DkAt w' d s m n (λ _=>none)∧Grow w w'):=by
 refine V.calls (args:=[_]) Tryz.func67 rfl Tryz.ntmps67 rfl rfl ?_;repeat refine aF ?_
 haveI:Zero Tryz.prog 247 (.agg (bB (zs 256)).toArray):=⟨zero_sector⟩
 refine jA rfl rfl oM (by unfold maxLen;omega) rfl ?_;intro b w1 hb a0 e0;clear a0;have:=e0.size;refine aA rfl (dmade_c b n _ hn) rfl ?_;rintro _ w2 ⟨d,m,rfl,q1,q2,q3,f0⟩;repeat refine aF ?_
 exact fJ rfl rfl ⟨_,rfl,d,b,m,rfl,oM,oM,q3,e0.trans f0⟩
theorem dvalid_c {w:World} {d s m N:Nat} {f:Nat→Option Value} (h:DkAt w d s m N f) :
  Calls Tryz.prog 184 #[.pointer (some ⟨d,0,none⟩)] w (Ret λ v w'=>v=.bool true∧w=w'):=by
 refine V.calls (args:=[_]) Tryz.func184 rfl Tryz.ntmps184 rfl rfl ?_;have hb:=h.blk;repeat (first|(refine TL.isNeT 118 ?_;refine TL.neNilP rfl rfl rfl ?_)|(refine iR 118 ?_;refine TL.eqSame rfl rfl rfl ?_)|refine yA ?_)
 exact bA rfl ⟨_,rfl,rfl,rfl⟩
theorem dsize_c {w:World} {d s m N:Nat} {f:Nat→Option Value} (h:DkAt w d s m N f) :
  Calls Tryz.prog 142 #[.pointer (some ⟨d,0,none⟩)] w (Ret λ v w'=>v=.int .i64 (N:Int)∧w=w'):=by
 refine V.calls (args:=[_]) Tryz.func142 rfl Tryz.ntmps142 rfl rfl ?_;have hb:=h.blk;repeat (first|(refine aB 184 ?_;refine aA rfl (dvalid_c h) rfl ?_;rintro _ _ ⟨rfl,rfl⟩)|refine yA ?_)
 exact bA rfl ⟨_,rfl,rfl,rfl⟩
theorem dcheck_c {w:World} {d s m N:Nat} {f:Nat→Option Value} (h:DkAt w d s m N f) (k:Nat) (hk:k<N) :
  Calls Tryz.prog 171 #[.pointer (some ⟨d,0,none⟩),.int .i64 (k:Int)] w (Ret λ v w'=>v=.int .i64 0∧w=w'):=by
 refine V.calls (args:=[_,_]) Tryz.func171 rfl Tryz.ntmps171 rfl rfl ?_;have hb:=h.blk;repeat (first|(refine aB 184 ?_;refine aA rfl (dvalid_c h) rfl ?_;rintro _ _ ⟨rfl,rfl⟩)|refine yC ?_)
 exact bA rfl ⟨_,rfl,rfl,rfl⟩
theorem dread_c {w:World} {d s m N:Nat} {f:Nat→Option Value} (h:DkAt w d s m N f) (k:Nat) (hk:k<N) (vs:Bs) (hf:f k=some (.agg (bB vs).toArray)) (hl:vs.length=256) :
  Calls Tryz.prog 129 #[.pointer (some ⟨d,0,none⟩),.int .i64 (k:Int)] w (Ret λ v w'=>∃ b,v=.tuple #[.slice (some ⟨b,0,none⟩) 256 256,.int .i64 0]∧w.heap.size≤b∧Sl (λ k=>k=b) w' 1 (some ⟨b,0,none⟩) 256 256 (bB vs)∧Grow w w'):=by
 have hN:=h.le;refine V.calls (args:=[_,_]) Tryz.func129 rfl Tryz.ntmps129 rfl rfl ?_;have hb:=h.blk;have j0:(bB vs).length=256:=by rw [bE,hl]
 repeat (first|(refine aB 171 ?_;refine aA rfl (dcheck_c h k hk) rfl ?_;rintro _ _ ⟨rfl,rfl⟩)|(refine mR ?_;refine TL.lookupYes rfl rfl h.map hf oM rfl ?_)|refine yC ?_)
 refine eO 256 zero_sector rfl ?_;intro b w1 k0 e0 i0 h0;refine fH rfl rfl e0 (cN _) hl ?_;intro w2 f0 a0 g0;repeat refine aF ?_
 refine fJ rfl rfl ⟨_,rfl,b,rfl,oM,?_,yG⟩;have:=jJ (o:=0) (m:=256) (c:=256) a0 oM oM dM;rw [List.drop_zero,List.take_of_length_le oM] at this;exact this
theorem dwrite_c {w:World} {d s m N:Nat} {f:Nat→Option Value} (h:DkAt w d s m N f) (k:Nat) (hk:k<N) (F:Nat→Prop) (a:Option Addr) (c:Nat) (vs:Bs) (hs:Sl F w 1 a 256 c (bB vs)) :
  Calls Tryz.prog 124 #[.pointer (some ⟨d,0,none⟩),.int .i64 (k:Int),.slice a 256 c] w (Ret λ v w'=>DkAt w' d s m N (upF f k (.agg (bB vs).toArray))∧But m w w'):=by
 have hN:=h.le;refine V.calls (args:=[_,_,_]) Tryz.func124 rfl Tryz.ntmps124 rfl rfl ?_;have hb:=h.blk;have j0:(bB vs).length=256:=by have:=hs.len;omega
 repeat (first|(refine aB 171 ?_;refine aA rfl (dcheck_c h k hk) rfl ?_;rintro _ _ ⟨rfl,rfl⟩)|refine yC ?_)
 apply T.any 8 [is _,is _,is _,is _,is _,is _,is (.pointer a),is (.agg (bB vs).toArray)]
 ·kernel_rfl
 ·repeat' (first|exact aN|refine aK ?_ ?_)
  iterate 6
   ·refine yQ λ wq _ _ f0=>?_;repeat refine aF ?_
    exact aD rfl yG rfl
  ·refine yQ λ wq _ _ f0=>?_;refine TL.arrayAt rfl (Nat.le_refl _) rfl ?_;repeat refine aF ?_
   exact aD rfl yG rfl
  ·refine yQ λ wq _ _ f0=>?_;refine TL.loadAll rfl (hs.grow yG) rfl rfl ?_;repeat refine aF ?_
   exact aD rfl yG rfl
 ·intro w6 i0 k0 a0 _ _;((refine yT ?_))
  refine TL.updateF rfl rfl rfl (h.map.grow a0) oM ?_;intro w7 e0 g0;repeat refine aF ?_
  have h0:Blk w7 d 250 _:=Blk.upd e0 h.ne (hb.grow a0);exact bA rfl ⟨_,rfl,⟨h0,g0,h.ne,h.le⟩,but_upd e0 (but_grow' a0)⟩
theorem mulw_c (x y:Nat) (hx:x<18446744073709551616) (hy:y<18446744073709551616) (w:World) :
  Calls Tryz.prog 267 #[.int .u64 (x:Int),.int .u64 (y:Int)] w (Ret λ v w'=>v=.tuple #[.int .u64 ((x*y / 18446744073709551616:Nat):Int),.int .u64 ((x*y%18446744073709551616:Nat):Int)]∧Grow w w'):=by
 refine V.calls (args:=[_,_]) Tryz.func267 rfl Tryz.ntmps267 rfl rfl ?_;have ha:=Lib.half_mul_le (a:=x / 4294967296) (b:=y / 4294967296) oM oM;have hb:=Lib.half_mul_le (a:=x / 4294967296) (b:=y%4294967296) oM oM;have hc:=Lib.half_mul_le (a:=x%4294967296) (b:=y / 4294967296) oM oM;have hd:=Lib.half_mul_le (a:=x%4294967296) (b:=y%4294967296) oM oM;have hl:=(Lib.mul64_hi x y hx hy).2.2.2;repeat refine dD ?_
 refine fJ rfl rfl ⟨_,rfl,?_,yG⟩;rw [hl]
theorem mul8_c (L:Nat) (h:L≤100000) (w:World) :
  Calls Tryz.prog 267 #[.int .u64 (L:Int),.int .u64 8] w (Ret λ v w'=>v=.tuple #[.int .u64 0,.int .u64 ((8*L:Nat):Int)]∧Grow w w') :=
 Calls.mono (mulw_c L 8 oM oM w) λ e w' ⟨v,h1,h2,h3⟩=>⟨v,h1,by
  rw [h2];have e1:L*8 / 18446744073709551616=0:=by omega
  have e2:L*8%18446744073709551616=8*L:=by omega
  rw [e1,e2];rfl,h3⟩
def jT (n:Nat):Nat:=(239-n%128)%128
def be8 (n:Nat):Bs:=(List.range 8).map λ i=>n / 2^(56-8*i)%256
def mG (l:Bs):Bs:=l++[128]++zs (jT l.length)++be8 0++be8 (8*l.length)
theorem lX (n:Nat):(be8 n).length=8:=by simp [be8]
theorem kJ (l:Bs):(mG l).length=l.length+17+jT l.length:=by simp [mG,lX,cN];omega
theorem lN {a0:List Bs} {i:Nat} {p:Bs} (h:a0[i]? = some p):(a0.take (i+1)).flatten=(a0.take i).flatten++p:=by
 rw [List.take_add_one,h];simp
theorem flat_le (a0:List Bs) (i:Nat):(a0.take i).flatten.length≤a0.flatten.length:=by
 have:a0.flatten=(a0.take i).flatten++(a0.drop i).flatten:=by rw [← List.flatten_append,List.take_append_drop]
 rw [this,List.length_append];omega
theorem padded_c (F:Nat→Prop) (a:Option Addr) (n c:Nat) (g0:List Bs) (w:World) (h:KysAt F w a n c g0) (hn:g0.flatten.length≤100000) :
  Calls Tryz.prog 250 #[.slice a n c] w (Ret λ v w'=>w'.ownsRow w.heap.size 5 1 v (mG g0.flatten).length (bB (mG g0.flatten))∧Grow w w'):=by
 have j2:=h.len;obtain ⟨cs,hs,k0⟩:=h.at';have f2:=hs.le;refine V.calls (args:=[_]) Tryz.func250 rfl Tryz.ntmps250 rfl rfl ?_;repeat refine aF ?_
 refine aX (S:=Nat) (λ i=>[(16,.int .i64 (i:Int)),(15,.int .i64 (n:Int)),(14,.slice a n c),(3,.int .i64 (((g0.take i).flatten.length:Nat):Int)),(0,.slice a n c)]) (λ i w1=>Grow w w1∧i≤n) (λ i=>n-i) 0 ⟨rfl,rfl,rfl,rfl,rfl,trivial⟩ ⟨Grow.refl _,oM⟩ ?_;rintro i w1 ⟨y0,hi⟩;have m1:=hs.grow y0;have o2:=flat_le g0 i;by_cases x0:i<n
 ·obtain ⟨p,hp⟩:∃ p,g0[i]? = some p:=⟨_,List.getElem?_eq_getElem oM⟩
  obtain ⟨ka,kc,g1,s1⟩:=k0 i p hp;have q2:w1.cell? (at' a i)=some (.slice ka p.length kc):=m1.row.cell g1;have l0:=flat_le g0 (i+1);rw [lN hp,List.length_append] at l0;repeat (first|(refine aI ?_;refine aC rfl rfl rfl x0 (Nat.mul_one _) ⟨F,_,m1⟩ rfl ?_)|refine yC ?_)
  exact aE (i+1) ⟨rfl,rfl,rfl,by rw [lN hp,List.length_append];rfl,rfl,trivial⟩ ⟨y0,oM⟩ oM
 obtain rfl:i=n:=by omega
 have t0:g0.take i=g0:=List.take_of_length_le oM;rw [t0];rw [t0] at o2;generalize hL:g0.flatten.length=L at *;repeat refine aF ?_
 refine TL.make0 (bytes:=1) (c:=(L+16) / 128*128+128) rfl rfl oM (by unfold maxLen;omega) rfl ?_;rintro b w2 hb a0 q1;have h2:=q1.size;repeat refine aF ?_
 have i0:=eB a0 (show w.heap.size≤w1.heap.size from y0.size);have e0:=y0.trans q1;refine aX (S:=Value×Nat) (λ s=>[(33,.int .i64 (s.2:Int)),(32,.int .i64 (i:Int)),(31,.slice a i c),(6,s.1),(3,.int .i64 (L:Int))]) (λ s w3=>s.2≤i∧w3.ownsRow w.heap.size 5 1 s.1 (g0.take s.2).flatten.length (bB (g0.take s.2).flatten)∧Grow w w3) (λ s=>i-s.2) (_,0) ⟨rfl,rfl,rfl,rfl,rfl,trivial⟩ ⟨oM,i0,e0⟩ ?_;clear a0 i0 q1 e0 y0 m1 h2 hb;rintro ⟨v,j⟩ w3 ⟨hj,a0,e0⟩;simp only at hj a0;have z0:=e0.size;have j1:=hs.grow e0;by_cases x0:j<i
 ·obtain ⟨p,hp⟩:∃ p,g0[j]? = some p:=⟨_,List.getElem?_eq_getElem oM⟩
  obtain ⟨ka,kc,g1,s1⟩:=k0 j p hp;have q2:w3.cell? (at' a j)=some (.slice ka p.length kc):=j1.row.cell g1;have l0:=flat_le g0 (j+1);rw [lN hp,List.length_append,hL] at l0;repeat (first|(refine aI ?_;refine aC rfl rfl rfl x0 (Nat.mul_one _) ⟨F,_,j1⟩ rfl ?_)|refine yC ?_)
  refine TL.append rfl rfl a0 (s1.grow e0) (bO p) (by unfold maxLen;omega) oM oM rfl ?_;intro v' w4 v0 j0 _;repeat refine aF ?_
  refine aE (v',j+1) ⟨rfl,rfl,rfl,rfl,rfl,trivial⟩ ⟨by simp only;omega,?_,Grow.mk (aL j0 oM (λ k hk=>(aR a0 hk).1) e0.1)⟩ (by simp only;omega);simp only;rw [lN hp,dH,List.length_append];exact v0
 obtain rfl:j=i:=by omega
 rw [t0,hL] at a0;repeat refine aF ?_
 refine TL.buildSlice rfl rfl rfl rfl rfl ?_;intro b' wa h0 q0 h1 f1 o0;have n0:Sl (λ _=>True) wa 1 (some ⟨b',0,none⟩) 1 1 (bB [128]):=(aU (sz:=1) (m:=1) q0 o0 dM).mono (λ _ _=>trivial);have m0:=h0.size;refine TL.append rfl rfl (aO a0 h0) n0 (bO [128]) (by unfold maxLen;omega) oM oM rfl ?_;intro v' wb f0 j0 _;have p0:Grow w wb:=Grow.mk (aL j0 oM (λ k hk=>(aR (aO a0 h0) hk).1) (e0.trans h0).1);repeat refine aF ?_
 clear a0 e0 z0 j1 j0 h0 m0 n0 q0 h1 f1 o0;refine aX (S:=Value×Nat) (λ s=>[(6,s.1),(3,.int .i64 (L:Int))]) (λ s w3=>s.2≤jT L∧w3.ownsRow w.heap.size 5 1 s.1 (L+1+s.2) (bB (g0.flatten++[128]++zs s.2))∧Grow w w3) (λ s=>jT L-s.2) (v',0) ⟨rfl,rfl,trivial⟩ ⟨by simp only;omega,by simp only [zs,List.replicate_zero,List.append_nil];rw [dH];exact f0,p0⟩ ?_;clear f0 p0;rintro ⟨v,z⟩ w3 ⟨hz,a0,e0⟩;simp only at hz a0;have z0:=e0.size;have r2:jT L=(239-L%128)%128:=rfl;have e2:jT L<128:=by unfold jT;omega
 obtain ⟨va,vc,rfl,u1⟩:=aM a0;by_cases x0:z<jT L
 ·have x1:(L+1+z)%128≠112:=by omega
  repeat refine aF ?_
  refine TL.buildSlice rfl rfl rfl rfl rfl ?_;intro b' wa h0 q0 h1 f1 o0;have n0:Sl (λ _=>True) wa 1 (some ⟨b',0,none⟩) 1 1 (bB [0]):=(aU (sz:=1) (m:=1) q0 o0 dM).mono (λ _ _=>trivial);have m0:=h0.size;refine TL.append rfl rfl (aO a0 h0) n0 (bO [0]) (by unfold maxLen;omega) oM oM rfl ?_;intro v' wb f0 j0 _;have p0:Grow w wb:=Grow.mk (aL j0 oM (λ k hk=>(aR (aO a0 h0) hk).1) (e0.trans h0).1);repeat refine aF ?_
  refine aE (v',z+1) ⟨rfl,rfl,trivial⟩ ⟨by simp only;omega,?_,p0⟩ (by simp only;omega);simp only;rw [show zs (z+1)=zs z++[0] by simp [zs,List.replicate_succ'],← List.append_assoc,dH];exact f0
 obtain rfl:z=jT L:=by omega
 have x1:(L+1+jT L)%128=112:=by omega
 obtain ⟨s0,u0⟩:∃ s0,s0=g0.flatten++[128]++zs (jT L):=⟨_,rfl⟩
 rw [← u0] at a0;obtain ⟨N,hN⟩:∃ N,N=L+1+jT L:=⟨_,rfl⟩
 rw [← hN] at a0 u1 x1;rw [← hN];have u2:N≤200000:=by omega
 repeat (first|(refine eA ?_;refine iC (a:=L) rfl (M:=18446744073709551616) rfl rfl ?_;rw [show L%18446744073709551616=L by omega])|refine yC ?_|(refine aB 267 ?_;refine aA rfl (mul8_c L hn _) rfl ?_;rintro _ _ ⟨rfl,s2⟩))
 have e1:=e0.size;refine aX (S:=Value×Nat) (λ s=>[(60,.int .i64 (s.2:Int)),(59,.agg #[.int .u64 0,.int .u64 ((8*L:Nat):Int)]),(6,s.1)]) (λ s w4=>s.2≤2∧w4.ownsRow w.heap.size 5 1 s.1 (N+8*s.2) (bB (s0++(be8 0++be8 (8*L)).take (8*s.2)))∧Grow w w4) (λ s=>2-s.2) (.slice va N vc,0) ⟨rfl,rfl,rfl,trivial⟩ ⟨by simp only;omega,by simpa using aO a0 yG,yG⟩ ?_;clear a0 u1 e0 e1 z0;rintro ⟨v,k⟩ w4 ⟨hk,a0,e0⟩;simp only at hk a0;by_cases x0:k<2
 ·obtain ⟨x,hx,y1,t0⟩:∃ x:Nat,x<18446744073709551616∧[Value.int .u64 0,.int .u64 ((8*L:Nat):Int)][k]? = some (.int .u64 (x:Int))∧(be8 0++be8 (8*L)).take (8*(k+1))=(be8 0++be8 (8*L)).take (8*k)++be8 x:=by
   obtain rfl|rfl:k=0∨k=1:=by omega
   ·exact ⟨0,oM,rfl,rfl⟩
   ·exact ⟨8*L,oM,rfl,rfl⟩
  repeat (first|(refine TL.isIndexV ?_;refine TL.indexV rfl rfl oM rfl y1 rfl ?_)|refine yC ?_)
  refine aX (S:=Value×Nat) (λ s=>[(13,.int .i64 (56-8*(s.2:Int))),(12,.int .u64 (x:Int)),(60,.int .i64 (k:Int)),(59,.agg #[.int .u64 0,.int .u64 ((8*L:Nat):Int)]),(6,s.1)]) (λ s w5=>s.2≤8∧w5.ownsRow w.heap.size 5 1 s.1 (N+8*k+s.2) (bB (s0++(be8 0++be8 (8*L)).take (8*k)++(be8 x).take s.2))∧Grow w w5) (λ s=>8-s.2) (v,0) ⟨rfl,rfl,rfl,rfl,rfl,trivial⟩ ⟨by simp only;omega,by simpa using a0,e0⟩ ?_;clear a0 e0;rintro ⟨v,i⟩ w5 ⟨hi,a0,e0⟩;simp only at hi a0;have z0:=e0.size;by_cases o1:i<8
  ·have d2:(56-8*(i:Int))=((56-8*i:Nat):Int):=by omega
   rw [d2];repeat (first|(refine eS ?_;refine TL.shrS rfl rfl (by show 56-8*i≤64;omega) rfl ?_)|(refine eA ?_;refine iC rfl (M:=256) rfl rfl ?_)|refine yC ?_)
   refine TL.buildSlice rfl rfl rfl rfl rfl ?_;intro b' wa h0 q0 h1 f1 o0;have n0:Sl (λ _=>True) wa 1 (some ⟨b',0,none⟩) 1 1 (bB [x / 2^(56-8*i)%256]):=(aU (sz:=1) (m:=1) q0 o0 dM).mono (λ _ _=>trivial);have m0:=h0.size;refine TL.append rfl rfl (aO a0 h0) n0 (bO [x / 2^(56-8*i)%256]) (by unfold maxLen;omega) oM oM rfl ?_;intro v' wb f0 j0 _;have p0:Grow w wb:=Grow.mk (aL j0 oM (λ k hk=>(aR (aO a0 h0) hk).1) (e0.trans h0).1);repeat refine aF ?_
   refine aE (v',i+1) ⟨?_,rfl,rfl,rfl,rfl,trivial⟩ ⟨by simp only;omega,?_,p0⟩ (by simp only;omega)
   ·show some (Value.int .i64 _)=some (Value.int .i64 _);congr 2
    simp only;omega
   ·simp only
    have z1:(be8 x).take (i+1)=(be8 x).take i++[x / 2^(56-8*i)%256]:=by
     rw [List.take_add_one];have:(be8 x)[i]? = some (x / 2^(56-8*i)%256):=by simp [be8,o1]
     rw [this];rfl
    rw [z1,← List.append_assoc,dH];exact f0
  obtain rfl:i=8:=by omega
  repeat refine aF ?_
  refine aE (v,k+1) ⟨rfl,rfl,rfl,trivial⟩ ⟨by simp only;omega,?_,e0⟩ (by simp only;omega);simp only;rw [t0,← List.append_assoc,show N+8*(k+1)=N+8*k+8 by omega];have:(be8 x).take 8=be8 x:=List.take_of_length_le (by rw [lX];omega);rw [this] at a0;exact a0
 obtain rfl:k=2:=by omega
 repeat refine aF ?_
 have r1:s0++(be8 0++be8 (8*L)).take (8*2)=mG g0.flatten:=by
  rw [List.take_of_length_le (by rw [List.length_append,lX,lX];omega),u0];unfold mG;rw [hL];simp only [List.append_assoc]
 rw [r1] at a0;have g2:(mG g0.flatten).length=N+8*2:=by rw [kJ,hL];omega
 exact bA rfl ⟨_,rfl,by rw [g2];exact a0,e0⟩
end Go.Proofs.YtfpadnmdafiddaaGreatDoor
namespace Go.V
open Go Go.RowKit
theorem eZ (b:Nat) (w:World) (o:Obj):Upd b w (w.putObj b o):=⟨rfl,rfl,rfl,World.putObj_size,λ k hk=>World.putObj_heap_other hk⟩
def T2 [Rn] (P:Program) (n:Nat) (x y:Code) (e:dI) (w:World) (Q:dA):Prop :=
 ∀ a,Fits n e a→x.wpIn (FR Rn.ro) 0 P (Exit.then (y.wpIn (FR Rn.ro) 0 P (iG n Q)) (iG n Q)) a w
def thenQ2 [Rn] (P:Program) (n:Nat) (x y:Code) (Q:dA):dA:=λ ex e w =>
 match ex with
 | .normal=>T2 P n x y e w Q
 | ex=>Q ex e w
def roundQ (l:Nat) (rc:LoopState→Option Code→Loop) (R:Value→World→Prop):dA:=λ ex _ w =>
 match ex with
 | .normal=>w.heap[l]? = some (.loop (rc .busy none))∧∀ w',Upd l w w'→w'.heap[l]? = some (.loop (rc .ready none))→R (.bool true) w'
 | .ret=>w.heap[l]? = some (.loop (rc .busy none))∧∀ w',Upd l w w'→w'.heap[l]? = some (.loop (rc .done (some .ret)))→R (.bool false) w'
 | .exit j=>w.heap[l]? = some (.loop (rc .busy none))∧∀ w',Upd l w w'→w'.heap[l]? = some (.loop (rc .done (some (.exit j))))→R (.bool false) w'
 | _=>False
structure LoopIn (n:Nat) (ps:List Tmp) (x y:Code) (e:dI) (rc:LoopState→Option Code→Loop):Prop where
 is:∃ fn tm D,(tm.size=n∧∀ t v,find e t=some v→tm.getD t undef=v)∧rc=λ st pd=>{ state:=st,pending:=pd,fn:=fn,tmps:=tm,params:=ps.toArray,assign:=x,body:=y,defers:=D }
def Yld (P:Program) (l:Nat) (vs:List Value) (w:World) (R:Value→World→Prop):Prop :=
 ∃ f tmps x y,(Instr.yield l vs.toArray).run P w=.ok (.round l f tmps x y) w∧RoundIn Fence.wide 0 P l f tmps x y w (Ret R)
theorem Yld.mono {P:Program} {l:Nat} {vs:List Value} {w:World} {R R':Value→World→Prop} (h:Yld P l vs w R) (hr:∀ v w,R v w→R' v w):Yld P l vs w R':=by
 obtain ⟨f,tmps,x,y,h1,h2⟩:=h;exact ⟨f,tmps,x,y,h1,RoundIn.mono h2 λ e w ⟨v,h3,h4⟩=>⟨v,h3,hr _ _ h4⟩⟩
def psEnv:List Tmp→List Value→dI→dI
 | p::ps,v::vs,e=>psEnv ps vs ((p,v)::e)
 | _,_,e=>e
abbrev inR (l:Nat):Rn:=⟨some l,[],0⟩
theorem fits_ps [Rn] {n:Nat} (a0:Rn.ds=[]):∀ (ps:List Tmp) (vs:List Value) (e:dI) (tm:Array Value),(∀ p∈ps,p<n)→Fits n e { tmps:=tm,defers:=[] }→Fits n (psEnv ps vs e) { tmps:=(ps.zip vs).foldl (λ t (p,v)=>t.setIfInBounds p v) tm,defers:=[] }
 | [],_,e,tm,_,h=>by simpa [psEnv] using h
 | p::ps,[],e,tm,_,h=>by simpa [psEnv] using h
 | p::ps,v::vs,e,tm,hp,h=>by
  have h1:=h.put (d:=p) (Nat.ble_eq_true_of_le (hp p sM)) v;exact fits_ps a0 ps vs _ _ (λ q hq=>hp q (by simp [hq])) h1
theorem yld_of {P:Program} {n l:Nat} {ps:List Tmp} {x y:Code} {e:dI} {w:World} {rc:LoopState→Option Code→Loop} {vs:List Value} {R:Value→World→Prop} (hl:LoopIn n ps x y e rc) (h:w.heap[l]? = some (.loop (rc .ready none)))
  (h0:vs.length=ps.length) (hb:ps.all (λ p=>Nat.blt p n)=true)
  (s0:∀ I:Rn,T P n x (psEnv ps vs e) w (λ ex e1 w1=>match ex with
   | .normal=>w1.heap[l]? = some (.loop (rc .ready none))∧∀ w2,Upd l w1 w2→w2.heap[l]? = some (.loop (rc .busy none))→T P n y e1 w2 (roundQ l rc R)
   | _=>False)):Yld P l vs w R:=by
 letI:=inR l
 have ha:=s0 (inR l);obtain ⟨fn,tm,D,⟨ht,hg⟩,f0⟩:=hl.is;have hy:=run_yield (P:=P) (args:=vs.toArray) h (by subst f0;simp [h0]);refine ⟨_,_,_,_,hy,?_⟩;have q0:∀ p∈ps,p<n:=λ p hp=>Nat.le_of_ble_eq_true (List.all_eq_true.1 hb p hp)
 have i0:Fits n (psEnv ps vs e) { tmps:=((rc .ready none).params.zip vs.toArray).foldl (λ t (p,v)=>t.setIfInBounds p v) (rc .ready none).tmps,defers:=[] }:=by
  have hT:((rc .ready none).params.zip vs.toArray).foldl (λ t (p,v)=>t.setIfInBounds p v) (rc .ready none).tmps=(ps.zip vs).foldl (λ t (p,v)=>t.setIfInBounds p v) tm:=by
   subst f0;rw [← Array.foldl_toList];simp
  rw [hT];exact fits_ps rfl ps vs e tm q0 ⟨rfl,ht,hg⟩
 have m0:(rc .ready none).assign=x:=by subst f0;rfl
 have l0:(rc .ready none).body=y:=by subst f0;rfl
 have g0 : { (rc .ready none) with state:=LoopState.busy }=rc .busy none:=by subst f0;rfl
 have j0:∀ j:Option Code,{ (rc .busy none) with state:=if j.isNone then LoopState.ready else LoopState.done,pending:=j }=rc (if j.isNone then .ready else .done) j:=by subst f0;exact λ _=>rfl
 refine roundIn_of_wpIn (F:=Fence.wide) trivial ?_;rw [m0,l0];refine wpIn_mono (T.out ha i0) ?_;intro ex a1 w1 hx
 cases ex with
 | normal =>
  obtain ⟨e1,p0,h1,h2⟩:=hx;have o0:=(Array.getElem?_eq_some_iff.1 h1).1;refine ⟨_,run_beginRound h1 (by subst f0;rfl),?_⟩;rw [g0];refine wpIn_mono (T.out (h2 _ (eZ l w1 _) (World.putObj_heap_same o0)) p0) ?_;intro ex a2 w3 hx
  have k0:∀ a0:Option Code,w3.heap[l]? = some (.loop (rc .busy none))→(∀ w',Upd l w3 w'→w'.heap[l]? = some (.loop (rc (if a0.isNone then .ready else .done) a0))→R (.bool a0.isNone) w') →
    ∃ v w',(Instr.endRound l a0).run P w3=.ok v w'∧Ret R (.returned v) w':=λ a0 h3 h4=>by
   refine ⟨_,_,run_endRound a0 h3,_,rfl,h4 _ (eZ l w3 _) ?_⟩;rw [j0];exact World.putObj_heap_same (Array.getElem?_eq_some_iff.1 h3).1
  cases ex with
  | normal=>obtain ⟨e2,e0,h3,h4⟩:=hx;exact k0 none h3 h4
  | ret =>
   obtain ⟨e2,ms,e0,hq⟩:=hx;have n0:ms=[]:=e0.rnd.resolve_left (by simp [Rn.ro]);subst n0;obtain ⟨h3,h4⟩:=hq;exact k0 (some .ret) h3 h4
  | exit j=>obtain ⟨e2,e0,h3,h4⟩:=hx;exact k0 (some (.exit j)) h3 h4
  | goto t=>obtain ⟨e2,e0,hq⟩:=hx;exact hq.elim
  | panic c=>obtain ⟨e2,e0,hq⟩:=hx;exact hq.elim
  | outgrown=>obtain ⟨e2,e0,hq⟩:=hx;exact hq.elim
 | ret=>obtain ⟨e2,ms,e0,hq⟩:=hx;exact hq.elim
 | exit j=>obtain ⟨e2,e0,hq⟩:=hx;exact hq.elim
 | goto t=>obtain ⟨e2,e0,hq⟩:=hx;exact hq.elim
 | panic c=>obtain ⟨e2,e0,hq⟩:=hx;exact hq.elim
 | outgrown=>obtain ⟨e2,e0,hq⟩:=hx;exact hq.elim
theorem TL.makeFunc [Rn] {P:Program} {n:Nat} {e:dI} {w:World} {Q:dA} {ops:Array Oper} {rest:List Oper} {d:Nat} {ty:TypeId} {pos:String} {aft:Array Edge} {f:Fn} {xs cs:List Operand} {us vs:List Value} (a0:argsV (val e) xs=some us) (e0:argsV (val e) cs=some vs) (hd:Nat.blt d n=true)
  (k:TL P n ops rest ((d,.func f us.toArray vs.toArray)::e) w Q):TL P n ops (⟨some d,.makeFunc f xs.toArray cs.toArray,ty,pos,aft,none⟩::rest) e w Q :=
 TL.run (λ r hr=>by
  have h1:=argsV_eval hr xs us a0;have h2:=argsV_eval hr cs vs e0;simp [execOp,Instr.makeFunc] at h1 h2 ⊢
  rw [h1,h2];exact ⟨rfl,rfl⟩) hd k
theorem mW [Rn] {P:Program} {n:Nat} {e:dI} {w:World} {Q:dA} {ops:Array Oper} {rest:List Oper} {ty:TypeId} {pos:String} {aft:Array Edge} {f:Fn} {xs cs:Array Operand} {d:Option Nat} (h:TL P n ops (⟨d,.makeFunc f xs cs,ty,pos,aft,none⟩::rest) e w Q):TL P n ops (⟨d,.makeFunc f xs cs,ty,pos,aft,none⟩::rest) e w Q:=h
theorem TL.yield [Rn] {P:Program} {n:Nat} {e:dI} {w:World} {Q:dA} {ops:Array Oper} {rest:List Oper} {d:Nat} {ty:TypeId} {pos:String} {aft:Array Edge} {l:Nat} {x:Operand} {xs:List Operand} {a0:Array TypeId} {vs:List Value} {R:Value→World→Prop} (hx:val e x=some (.func (.yield l) #[] #[])) (e0:argsV (val e) xs=some vs)
  (hy:Yld P l vs w R) (hd:Nat.blt d n=true) (k:∀ v w',R v w'→TL P n ops rest ((d,v)::e) w' Q) :
  TL P n ops (⟨some d,.call ⟨.value x,xs.toArray,a0⟩,ty,pos,aft,none⟩::rest) e w Q:=TL.mk λ a ha =>
 wpListIn_plain rfl λ K hK=>by
  obtain ⟨f,tmps,y,z,h1,h2⟩:=hy
  have hr:(execOp a.eval ⟨some d,.call ⟨.value x,xs.toArray,a0⟩,ty,pos,aft,none⟩).run P w=.ok (.round l f tmps y z) w:=by
   have:=argsV_eval ha xs vs e0;simp [execOp,resolve,ha.eval hx,Deferred.ofValue,invoke,h1] at this ⊢;rw [this];exact h1
  refine Oper.wpFR _ (.inr (.inr (.inr ⟨_,_,_,_,_,_,hr,RoundIn.mono h2 ?_⟩)));rintro x w' ⟨v,rfl,hv⟩;exact ⟨v,rfl,hK _ _ ((k v w' hv).out (ha.put hd v))⟩
section
variable [Rn]
variable {P:Program} {n:Nat} {e:dI} {w:World} {Q:dA}
theorem T.seq2 {x y z:Code} (h:T P n x e w (thenQ2 P n y z Q)):T P n (.seq (.seq x y) z) e w Q:=T.mk λ a ha =>
 wpIn_seq (wpIn_seq (wpIn_mono (T.out h ha) λ ex a w hx=>by
  cases ex<;>first|exact hx|(obtain ⟨e,he,hq⟩:=hx;exact hq a he)))
theorem iI {x y:Code} (h:T2 P n x y e w Q):thenQ2 P n x y Q .normal e w:=h
theorem T.seqR {i:Nat} {x z p q:Code} {g:Operand} {ps:Array Tmp} (h:T P n x e w (thenQ2 P n (.block i (.rangeFunc g ps p q)) z Q)):T P n (.seq (.seq x (.block i (.rangeFunc g ps p q))) z) e w Q:=T.seq2 h
def markQ (D:Nat) (Q:dA):dA:=λ x e w =>
 match x with
 | .ret=>w.heap[D]? = some (.deferred (some []))∧∀ w',Upd D w w'→Q .ret e w'
 | _=>False
abbrev behind (D:Nat):Rn:=⟨none,mkD D::Rn.ds,D+1⟩
theorem lift_mark {D:Nat} {x:Exit} {a:Act} {w:World} (a0:Rn.ro=none) (e0:Rn.lo≤D) (h:@iG (behind D) n (markQ D Q) x a w):iG n Q x a w:=by
 cases x with
 | ret =>
  obtain ⟨e,ms,⟨k1,k2,k3,k4,k5,k6⟩,h1,h2⟩:=h;have k5:∀ r∈ms,D+1≤r∧w.heap[r]? = some (.deferred (some [])):=k5;have k1:a.defers=ms.map mkD++mkD D::Rn.ds:=k1;have hD:D∉ms:=λ hm=>by have:=(k5 D hm).1;omega
  refine ⟨e,ms++[D],⟨by rw [k1];simp,k2,k3,?_,λ r hr=>?_,.inl a0⟩,?_⟩
  ·rw [List.nodup_append];exact ⟨k4,sM,λ x hx y hy=>by simp only [List.mem_singleton] at hy;subst hy;exact λ e=>hD (by rw [← e];exact hx)⟩
  ·rcases List.mem_append.1 hr with h3|h3
   ·have:=k5 r h3;exact ⟨oM,this.2⟩
   ·simp only [List.mem_singleton] at h3;subst h3;exact ⟨e0,by rw [shut_other hD] at h1;exact h1⟩
  ·rw [shut_append];exact h2 _ (eZ D _ _)
 | normal=>obtain ⟨e,he,hq⟩:=h;exact hq.elim
 | exit j=>obtain ⟨e,he,hq⟩:=h;exact hq.elim
 | goto j=>obtain ⟨e,he,hq⟩:=h;exact hq.elim
 | panic c=>obtain ⟨e,he,hq⟩:=h;exact hq.elim
 | outgrown=>obtain ⟨e,he,hq⟩:=h;exact hq.elim
structure RangeOut (P:Program) (n:Nat) (i:Nat) (B:Code) (Q:dA) (e:dI) (D:Nat) (rc:LoopState→Option Code→Loop) (w:World):Prop where
 mark:w.heap[D]? = some (.deferred (some []))
 cases':(w.heap[D+1]? = some (.loop (rc .ready none))∧∀ (I:Rn) (w4:World),Upd (D+1) w w4→@T I P n B e w4 (markQ D Q)) ∨
  (w.heap[D+1]? = some (.loop (rc .done (some .ret)))∧∀ w4 w5,Upd (D+1) w w4→Upd D w4 w5→Q .ret e w5) ∨
  (w.heap[D+1]? = some (.loop (rc .done (some (.exit i))))∧∀ (I:Rn) (w4:World),Upd (D+1) w w4→@T I P n B e w4 (markQ D Q))
theorem T2.range {i:Nat} {g:Operand} {ps:List Tmp} {x y B:Code} {gf:FuncId} {lb:List Value} [hf:FnOk P gf] (h0:Rn.ro=none) (k0:Rn.lo≤w.heap.size) (hg:val e g=some (.func (.func gf) #[] lb.toArray))
  (h:∀ rc w1,LoopIn n ps x y e rc→w1.heap.size=w.heap.size+2→Grow w w1→w1.heap[w.heap.size+1]? = some (.loop (rc .ready none))→w1.heap[w.heap.size]? = some (.deferred (some [])) →
   Calls P gf (.func (.yield (w.heap.size+1)) #[] #[]::lb).toArray w1 (Ret λ _ w2=>RangeOut P n i B Q e w.heap.size rc w2)) :
  T2 P n (.block i (.rangeFunc g ps.toArray x y)) B e w Q:=λ a ha=>by
 have hF:FR Rn.ro=FR none:=by rw [h0]
 refine wpIn_block (wpIn_rangeFunc λ fn _=>?_);obtain ⟨rc,a0⟩:∃ rc:LoopState→Option Code→Loop,rc=λ st pd=>{ state:=st,pending:=pd,fn:=fn,tmps:=a.tmps,params:=ps.toArray,assign:=x,body:=y,defers:=w.heap.size }:=⟨_,rfl⟩
 have e0:(Instr.enterLoop fn a.tmps ps.toArray x y (FR Rn.ro).round).run P w=.ok (w.heap.size+1,[mkD w.heap.size]) ((w.alloc (.deferred (some []))).alloc (.loop (rc .ready none))):=by
  rw [hF,a0];exact run_enterLoop_outer _ _ _ _ _
 generalize hW:(w.alloc (.deferred (some []))).alloc (.loop (rc .ready none))=W1 at e0
 have l0:W1.heap[w.heap.size+1]? = some (.loop (rc .ready none)):=by
  rw [← hW];have:=World.alloc_heap_new (w.alloc (.deferred (some []))) (.loop (rc .ready none));rwa [World.size_alloc] at this
 have m0:W1.heap[w.heap.size]? = some (.deferred (some [])):=by
  rw [← hW];exact (Below.heap_alloc _ _ _ sM).trans (World.alloc_heap_new w _)
 have n0:Grow w W1:=by rw [← hW];exact Grow.mk (((Below.refl _ w).alloc (Nat.le_refl _) _).alloc sM _)
 have hc:=h rc W1 ⟨fn,a.tmps,w.heap.size,⟨ha.size,ha.get⟩,a0⟩ (by rw [← hW];simp) n0 l0 m0;have o0:∀ st pd,{ (rc st pd) with state:=LoopState.exhausted }=rc .exhausted pd:=by subst a0;exact λ _ _=>rfl
 have g0:∀ st pd,(rc st pd).state=st:=by subst a0;exact λ _ _=>rfl
 have i0:∀ st pd,(rc st pd).pending=pd:=by subst a0;exact λ _ _=>rfl
 refine ⟨w.heap.size+1,[mkD w.heap.size],_,⟨.fn (.func gf) lb.toArray,#[.func (.yield (w.heap.size+1)) #[] #[]]⟩,W1,gf,(.func (.yield (w.heap.size+1)) #[] #[]::lb).toArray,W1,e0,?_,λ _ _=>trivial,?_,(λ h=>by cases h),?_⟩
 ·simp [rangeCall,resolve,ha.eval hg,Deferred.ofValue,Sem.run_bind,Result.andThen];rfl
 ·show (callFunc gf (#[Value.func (.yield (w.heap.size+1)) #[] #[]]++lb.toArray)).run P _=_;have:=lE (P:=P) (f:=gf) (.func (.yield (w.heap.size+1)) #[] #[]::lb).toArray W1;simpa using this
 ·refine CallsIn.mono (calls_fr hc) λ en w2 p0=>?_;obtain ⟨v,rfl,hD,f0⟩:=p0
  have j0:@Fits (behind w.heap.size) n e { a with defers:=mkD w.heap.size::a.defers } :=
   @Fits.mk (behind w.heap.size) n e _ (show mkD w.heap.size::a.defers=mkD w.heap.size::Rn.ds by rw [ha.defers]) ha.size ha.get
  have hB:∀ w4,@T (behind w.heap.size) P n B e w4 (markQ w.heap.size Q)→B.wpIn (FR Rn.ro) 0 P (iG n Q) { a with defers:=mkD w.heap.size::a.defers } w4:=λ w4 hT=>by
   rw [hF];exact wpIn_mono (@T.out (behind w.heap.size) _ _ _ _ _ _ hT _ j0) λ ex a w hx=>lift_mark h0 k0 hx
  rcases f0 with ⟨h1,h2⟩|⟨h1,h2⟩|⟨h1,h2⟩
  ·exact ⟨none,_,by have:=run_endLoop (P:=P) h1 (by rw [g0];simp);rw [i0] at this;exact this,hB _ (h2 _ _ (eZ _ _ _))⟩
  ·refine ⟨some .ret,_,by have:=run_endLoop (P:=P) h1 (by rw [g0];simp);rw [i0] at this;exact this,wpIn_ret ?_⟩;refine ⟨e,[w.heap.size],⟨by rw [← ha.defers];rfl,ha.size,ha.get,sM,λ r hr=>?_,.inl h0⟩,h2 _ _ (eZ _ _ _) (eZ _ _ _)⟩;simp only [List.mem_singleton] at hr;subst hr;exact ⟨k0,by rw [World.putObj_heap_other oM];exact hD⟩
  ·refine ⟨some (.exit i),_,by have:=run_endLoop (P:=P) h1 (by rw [g0];simp);rw [i0] at this;exact this,wpIn_exit ?_⟩;simp only [Exit.inBlock,if_true];exact hB _ (h2 _ _ (eZ _ _ _))
end
end Go.V
namespace Go.Proofs.YtfpadnmdafiddaaGreatDoor
open Go Go.RowKit Go.V
theorem chunk_c (a:Option Addr) (n c:Nat) (w:World) :
  Calls Tryz.prog 249 #[.slice a n c,.int .i64 128] w (Ret λ v w'=>∃ b1 b2,v=.func (.func 266) #[] #[.pointer (some ⟨b1,0,none⟩),.pointer (some ⟨b2,0,none⟩)] ∧
   w.heap.size≤b1∧w.heap.size≤b2∧Blk w' b1 30 [.slice a n c]∧Blk w' b2 3 [.int .i64 128]∧Grow w w'):=by
 refine V.calls (args:=[_,_]) Tryz.func249 rfl Tryz.ntmps249 rfl rfl ?_;repeat (first|(refine mW ?_;refine TL.makeFunc (xs:=[]) (cs:=[_,_]) rfl rfl rfl ?_)|refine yA ?_|refine yI λ bk w' hg f0 e0 a0=>?_)
 exact bA rfl ⟨_,rfl,_,_,rfl,oM,oM,yB,yB,yG⟩
theorem chunks_c (G:Nat→Prop) (l b1 b2 m:Nat) (a:Option Addr) (c:Nat) (bs:Bs) (J:Nat→World→Prop) (hl:bs.length=128*m) (hm:m≤1000000)
  (e0:∀ k w,J k w→Blk w b1 30 [.slice a (128*m) c]∧Blk w b2 3 [.int .i64 128]∧Sl G w 1 a (128*m) c (bB bs))
  (m0:∀ k w w',J k w→Grow w w'→J k w')
  (a0:∀ k w a',k<m→J k w→Sl G w 1 a' 128 128 (bB ((bs.drop (128*k)).take 128))→Yld Tryz.prog l [.slice a' 128 128] w (λ v w'=>v=.bool true∧J (k+1) w'))
  (w:World) (h0:J 0 w) :
  Calls Tryz.prog 266 #[.func (.yield l) #[] #[],.pointer (some ⟨b1,0,none⟩),.pointer (some ⟨b2,0,none⟩)] w (Ret λ _ w'=>J m w'):=by
 refine V.calls (args:=[_,_,_]) Tryz.func266 rfl Tryz.ntmps266 rfl rfl ?_;repeat refine aF ?_
 refine aX (S:=Nat) (λ k=>[(4,.int .i64 ((128*k:Nat):Int)),(2,.pointer (some ⟨b2,0,none⟩)),(1,.pointer (some ⟨b1,0,none⟩)),(0,.func (.yield l) #[] #[])]) (λ k w1=>k≤m∧J k w1) (λ k=>m-k) 0 ⟨rfl,rfl,rfl,rfl,trivial⟩ ⟨oM,h0⟩ ?_;clear h0;rintro k w1 ⟨hk,hj⟩;obtain ⟨e1,z0,hs⟩:=e0 k w1 hj;by_cases x0:128*k<128*m;rotate_left
 ·obtain rfl:k=m:=by omega
  repeat refine aF ?_
  exact dK (vs:=[]) rfl rfl ⟨_,rfl,hj⟩
 have o0:=hs.cap;repeat refine aF ?_
 apply T.any 6 [is (.int .i64 ((128:Nat):Int)),is (.slice a (128*m) c),is (.int .i64 ((128*k:Nat):Int)),slF G 1 (128*m-128*k) (c-128*k) ((bB bs).drop (128*k)),is (.int .i64 ((128*m-128*k:Nat):Int)),is (.int .i64 ((128:Nat):Int))]
 ·rfl
 ·repeat' (first|exact aN|refine aK ?_ ?_)
  iterate 3
   ·refine yQ λ wq _ _ i0=>?_;repeat refine aF ?_
    exact aD rfl yG rfl
  ·refine yQ λ wq _ _ i0=>?_;refine TL.slice (l:=128*k) (h:=128*m) (mm:=c) rfl (hs.grow i0) (bI rfl rfl) (aP _) (aP c) (λ _=>rfl) oM oM oM (Nat.le_refl _) rfl ?_;intro a' f0 _;repeat refine aF ?_
   refine aD rfl yG ⟨a',rfl,?_⟩;rw [Nat.mul_one,Nat.mul_one,List.take_of_length_le (by rw [List.length_drop,bE,hl];omega)] at f0;exact f0
  ·(((refine bW rfl rfl rfl ?_);( intro wq _ _ i0;(repeat (refine aJ rfl rfl ?_;intro vq g0;try (obtain rfl:=g0)));(refine aZ ?_))))
   obtain ⟨a',rfl,f0⟩:=g0;repeat refine aF ?_
   exact aD rfl yG rfl
  ·refine yQ λ wq _ _ i0=>?_;refine TL.minV (r:=((128:Nat):Int)) rfl rfl (by split<;>omega) rfl ?_;repeat refine aF ?_
   exact aD rfl yG rfl
 ·intro w6 u0 y0 n0 _ _;((((repeat (refine aJ rfl rfl ?_;intro vq g0;try (obtain rfl:=g0)));(refine aZ ?_))))
  repeat refine aF ?_
  have k0:=m0 k _ _ hj n0;obtain ⟨t0,q0,l0⟩:=e0 k _ k0;repeat refine aF ?_
  refine TL.slice (l:=128*k) (h:=128*k+128) (mm:=128*k+128) rfl l0 (bI rfl rfl) (bI rfl rfl) (bI rfl rfl) (by intro h;cases h) oM oM oM oM rfl ?_;intro a' f0 _;rw [show 128*k+128-128*k=128 by omega,Nat.mul_one,Nat.mul_one] at f0;rw [show 128*k+128-128*k=128 by omega];repeat refine aF ?_
  refine TL.yield rfl rfl (a0 k _ a' oM k0 (by simpa [bB,List.map_take,List.map_drop] using f0)) rfl ?_;rintro _ w7 ⟨rfl,j0⟩;obtain ⟨s0,p0,v0⟩:=e0 (k+1) _ j0;repeat refine aF ?_
  exact aE (k+1) ⟨rfl,rfl,rfl,rfl,trivial⟩ ⟨oM,j0⟩ oM
end Go.Proofs.YtfpadnmdafiddaaGreatDoor
namespace Go.V
open Go Go.RowKit
abbrev wB (x:BitVec 64):Value:=.int .u64 (x.toNat:Int)
theorem ofB (x:BitVec 64):BitVec.ofInt 64 (x.toNat:Int)=x:=by simp
theorem wrapB (x:BitVec 64):IntKind.u64.wrap (x.toNat:Int)=(x.toNat:Int):=eT (M:=18446744073709551616) rfl x.isLt
theorem wrapM (a:Nat):IntKind.u64.wrap (a:Int)=((a%18446744073709551616:Nat):Int):=by
 simp [IntKind.wrap,IntKind.signed,IntKind.bits]
section
variable {P:Program} {n:Nat} {e:dI} {w:World} {Q:dA} {ops:Array Oper} {rest:List Oper} {d:Nat} {ty:TypeId} {pos:String} {aft:Array Edge} {a b:BitVec 64} {x y:Operand} {t1 t2:TypeId}
theorem jS (hx:val e x=some (wB a)) (hy:val e y=some (wB b)) (hd:Nat.blt d n=true) (k:TL P n ops rest ((d,wB (a+b))::e) w Q) :
  TL P n ops (⟨some d,.binOp .add t1 x y t2,ty,pos,aft,none⟩::rest) e w Q :=
 TL.run (λ r hr=>by
  have h:IntKind.u64.wrap ((a.toNat:Int)+(b.toNat:Int))=((a+b).toNat:Int):=by rw [← Int.natCast_add,wrapM,BitVec.toNat_add]
  simp [execOp,binOp,bG,Op.intArith,hr.eval hx,hr.eval hy,h]) hd k
theorem jQ (hx:val e x=some (wB a)) (hy:val e y=some (wB b)) (hd:Nat.blt d n=true) (k:TL P n ops rest ((d,wB (a ^^^ b))::e) w Q) :
  TL P n ops (⟨some d,.binOp .xor t1 x y t2,ty,pos,aft,none⟩::rest) e w Q :=
 TL.pure (v:=wB (a ^^^ b)) (by simp only [pureOp,hx,hy,kindEq,cond_true,intOp];show some (Value.int .u64 (IntKind.u64.wrap ((BitVec.ofInt 64 (a.toNat:Int) ^^^ BitVec.ofInt 64 (b.toNat:Int)).toNat:Int)))=_;rw [ofB,ofB,wrapB]) hd k
theorem TL.andB6 (hx:val e x=some (wB a)) (hy:val e y=some (wB b)) (hd:Nat.blt d n=true) (k:TL P n ops rest ((d,wB (a&&&b))::e) w Q) :
  TL P n ops (⟨some d,.binOp .and t1 x y t2,ty,pos,aft,none⟩::rest) e w Q :=
 TL.pure (v:=wB (a&&&b)) (by simp only [pureOp,hx,hy,kindEq,cond_true,intOp];show some (Value.int .u64 (IntKind.u64.wrap ((BitVec.ofInt 64 (a.toNat:Int)&&&BitVec.ofInt 64 (b.toNat:Int)).toNat:Int)))=_;rw [ofB,ofB,wrapB]) hd k
theorem TL.orB6 (hx:val e x=some (wB a)) (hy:val e y=some (wB b)) (hd:Nat.blt d n=true) (k:TL P n ops rest ((d,wB (a|||b))::e) w Q) :
  TL P n ops (⟨some d,.binOp .or t1 x y t2,ty,pos,aft,none⟩::rest) e w Q :=
 TL.pure (v:=wB (a|||b)) (by simp only [pureOp,hx,hy,kindEq,cond_true,intOp];show some (Value.int .u64 (IntKind.u64.wrap ((BitVec.ofInt 64 (a.toNat:Int)|||BitVec.ofInt 64 (b.toNat:Int)).toNat:Int)))=_;rw [ofB,ofB,wrapB]) hd k
theorem TL.notB6 (hx:val e x=some (wB a)) (hd:Nat.blt d n=true) (k:TL P n ops rest ((d,wB (~~~a))::e) w Q) :
  TL P n ops (⟨some d,.unOp .xor t1 x,ty,pos,aft,none⟩::rest) e w Q :=
 TL.run (λ r hr=>by
  have h:Op.unary .xor (wB a)=(Pure.pure (wB (~~~a)):Sem Value):=by
   show (Pure.pure (Value.int .u64 (IntKind.u64.wrap ((BitVec.ofInt 64 _ ^^^ BitVec.ofInt 64 (a.toNat:Int)).toNat:Int))):Sem Value)=_;rw [ofB];have:BitVec.ofInt 64 (if IntKind.u64.signed=true then -1 else IntKind.u64.max)=BitVec.allOnes 64:=by decide
   rw [this,BitVec.allOnes_xor,wrapB]
  simp [execOp,hr.eval hx,h]) hd k
theorem TL.shlB6 {s:Nat} {zs:Int} {ky:IntKind} (hx:val e x=some (wB a)) (hy:val e y=some (.int ky zs)) [iy:Lit zs s] (hs:s≤64) (hd:Nat.blt d n=true) (k:TL P n ops rest ((d,wB (a<<<s))::e) w Q) :
  TL P n ops (⟨some d,.binOp .shl t1 x y t2,ty,pos,aft,none⟩::rest) e w Q :=
 TL.run (λ r hr=>by
  rw [iy.h] at hy;have h3:min s IntKind.u64.bits=s:=Nat.min_eq_left hs;have h4:¬ ((s:Int)<0):=by omega
  have h:IntKind.u64.wrap ((a.toNat:Int)*2^s)=((a<<<s).toNat:Int):=by
   rw [show (a.toNat:Int)*2^s=((a.toNat*2^s:Nat):Int) by simp,wrapM,BitVec.toNat_shiftLeft,Nat.shiftLeft_eq]
  simp only [execOp,binOp,bG,Op.shift,hr.eval hx,hr.eval hy]
  simp [h3,h4,h]) hd k
theorem TL.shrB6 {s:Nat} {zs:Int} {ky:IntKind} (hx:val e x=some (wB a)) (hy:val e y=some (.int ky zs)) [iy:Lit zs s] (hs:s≤64) (hd:Nat.blt d n=true) (k:TL P n ops rest ((d,wB (a>>>s))::e) w Q) :
  TL P n ops (⟨some d,.binOp .shr t1 x y t2,ty,pos,aft,none⟩::rest) e w Q :=
 TL.run (λ r hr=>by
  rw [iy.h] at hy;have h3:min s IntKind.u64.bits=s:=Nat.min_eq_left hs;have h4:¬ ((s:Int)<0):=by omega
  have h:(a.toNat:Int).fdiv (2^s)=((a>>>s).toNat:Int):=by
   rw [Int.fdiv_eq_ediv_of_nonneg _ (by exact_mod_cast Nat.zero_le (2^s)),BitVec.toNat_ushiftRight,Nat.shiftRight_eq_div_pow];simp
  simp only [execOp,binOp,bG,Op.shift,hr.eval hx,hr.eval hy]
  simp [h3,h4,h]) hd k
theorem TL.convZ6 {z z':Int} {s t:TypeId} {k1 k2 kd:IntKind} [hs:IntTy P s k1] [ht:IntTy P t k2] (hx:val e x=some (.int kd z)) (h:k2.wrap z=z') (hd:Nat.blt d n=true)
  (k:TL P n ops rest ((d,.int k2 z')::e) w Q):TL P n ops (⟨some d,.convert s t x,ty,pos,aft,none⟩::rest) e w Q :=
 TL.run (λ r hr=>by simp [execOp,hr.eval hx,jB hs ht,h]) hd k
theorem TL.convW8 {c:Nat} {zc:Int} {s t:TypeId} [hs:IntTy P s .u8] [ht:IntTy P t .u64] (hx:val e x=some (.int .u8 zc)) [ix:Lit zc c] (hc:c<256) (hd:Nat.blt d n=true) (k:TL P n ops rest ((d,wB (BitVec.ofNat 64 c))::e) w Q) :
  TL P n ops (⟨some d,.convert s t x,ty,pos,aft,none⟩::rest) e w Q :=
 TL.run (λ r hr=>by
  rw [ix.h] at hx;have h:IntKind.u64.wrap (c:Int)=((BitVec.ofNat 64 c).toNat:Int):=by rw [wrapM,BitVec.toNat_ofNat]
  simp [execOp,hr.eval hx,jB hs ht,h]) hd k
end
def rotl (x:BitVec 64) (s:Nat):BitVec 64:=(x<<<s)|||(x>>>(64-s))
attribute [irreducible] rotl
def kP (k:Int):Nat:=(BitVec.ofInt 64 (IntKind.u64.wrap k)&&&BitVec.ofInt 64 63).toNat
theorem rotA_le (k:Int):kP k≤64:=by
 unfold kP;rw [BitVec.toNat_and];exact Nat.le_trans Nat.and_le_right dM
end Go.V
namespace Go.Proofs.YtfpadnmdafiddaaGreatDoor
open Go Go.RowKit Go.V
theorem rotl_c (x:BitVec 64) (k:Int) (w:World) :
  Calls Tryz.prog 270 #[wB x,.int .i64 k] w (Ret λ v w'=>v=wB (rotl x (kP k))∧w'=w):=by
 have hk:IntKind.u64.wrap (BitVec.ofInt 64 (IntKind.u64.wrap k)&&&BitVec.ofInt 64 63).toNat=(kP k:Int):=wrapB _;have hs:=rotA_le k;generalize kP k=s at *;refine V.calls (args:=[_,_]) Tryz.func270 rfl Tryz.ntmps270 rfl rfl ?_;unfold rotl;repeat refine aF ?_
 refine TL.convZ6 rfl rfl rfl ?_;refine TL.pure (v:=.int .u64 (s:Int)) (congrArg (λ z=>some (Value.int .u64 z)) hk) rfl ?_;repeat (first|refine TL.shlB6 rfl rfl hs rfl ?_|(refine eS ?_;refine TL.shrB6 rfl rfl oM rfl ?_)|refine TL.orB6 rfl rfl rfl ?_|(refine iQ ?_;refine TL.subU rfl rfl rfl oM oM rfl ?_)|refine yC ?_)
 exact bA rfl ⟨_,rfl,rfl,rfl⟩
end Go.Proofs.YtfpadnmdafiddaaGreatDoor
