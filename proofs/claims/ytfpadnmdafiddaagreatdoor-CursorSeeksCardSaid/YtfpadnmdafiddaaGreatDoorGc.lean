import Derived.Test.YtfpadnmdafiddaaGreatDoorG0
import Derived.Test.YtfpadnmdafiddaaGreatDoorGb
import Derived.Lib.Mul64
import Derived.RangeFuncIn
import Derived.Test.YtfpadnmdafiddaaGreatDoorGa
set_option linter.all false
set_option maxHeartbeats 16000000
set_option maxRecDepth 100000
namespace Go.Proofs.YtfpadnmdafiddaaGreatDoor
theorem iX (x:Bs×Bs) (l:bT) (key:Bs):cN (x::l) key=if eO x.1 key then cN l key+1 else 0:=by
 unfold cN;rw [List.takeWhile_cons];by_cases h:eO x.1 key
 ·rw [if_pos h,if_pos (show decide (bW x.1 key<0)=true by simpa [eO] using h)];rfl
 ·rw [if_neg h,if_neg (show ¬ decide (bW x.1 key<0)=true by simpa [eO] using h)];rfl
theorem thereN_cons (x:Bs×Bs) (l:bT) (key:Bs):eR (x::l) key=if eO x.1 key then eR l key else decide (x.1=key):=by
 unfold eR;rw [iX];by_cases h:eO x.1 key
 ·simp only [if_pos h,List.getElem?_cons_succ]
 ·simp only [if_neg h,List.getElem?_cons_zero];by_cases e:x.1=key
  ·simp [e,nT]
  ·have:bW x.1 key≠0:=λ g=>e (cmpB_eq g);simp [e,this]
theorem ins_eq (key v:Bs):∀ l:bT,(if eR l key then hY (dT l (cN l key) (cN l key+1)) (cN l key) [(key,v)] else hY l (cN l key) [(key,v)])=gW key v l
 | []=>rfl
 | x::l=>by
  have ih:=ins_eq key v l;rw [iX,thereN_cons,gW];by_cases h:eO x.1 key
  ·simp only [if_pos h,← ih];split<;>simp [hY,dT]
  ·simp only [if_neg h];by_cases e:x.1=key<;>simp [e,hY,dT]
theorem there_iff (key:Bs):∀ {l:bT},Srt l→(eR l key=true↔∃ x∈l,x.1=key)
 | [],_=>by simp [eR,cN]
 | x::l,h=>by
  obtain ⟨h1,h2⟩:=List.pairwise_cons.1 h;rw [thereN_cons];by_cases hx:eO x.1 key
  ·rw [if_pos hx,there_iff key h2];constructor
   ·rintro ⟨y,hy,e⟩;exact ⟨y,List.mem_cons_of_mem _ hy,e⟩
   ·rintro ⟨y,hy,e⟩;rcases List.mem_cons.1 hy with rfl|hy
    ·rw [e] at hx;exact absurd hx (eI _)
    ·exact ⟨y,hy,e⟩
  ·rw [if_neg hx,decide_eq_true_eq];constructor
   ·intro e;exact ⟨x,sM,e⟩
   ·rintro ⟨y,hy,e⟩;rcases List.mem_cons.1 hy with rfl|hy
    ·exact e
    ·have:=h1 y hy;rw [e] at this;exact absurd this hx
theorem insI_len (key v:Bs):∀ l:bT,l.length≤(gW key v l).length∧(gW key v l).length≤l.length+1
 | []=>by simp [gW]
 | x::l=>by
  have ih:=insI_len key v l;unfold gW;split
  ·simp only [List.length_cons];omega
  ·split<;>simp
def pgs (ls:List Sb):List Nat:=ls.flatMap λ x=>x.page::x.ps
theorem iW (a b:List Sb):pgs (a++b)=pgs a++pgs b:=List.flatMap_append ..
theorem pgs_one (x:Sb):pgs [x]=x.page::x.ps:=by simp [pgs]
structure Up (s s':Pg) (h m:Nat) (up:Nd) (l:bT) (uls:List Sb):Prop where
 items:up.items=[]
 kids:up.kids=uls.map (·.page)
 len:uls.length=up.keys.length+1
 two:uls.length≤2
 toks:(toks uls up.keys).Pairwise RT
 keys:∀ k∈up.keys,eF k=true
 its:l=uls.flatMap (·.its)
 sub:∀ x∈uls,∃ nd',cB s' x.page=some nd'∧min m 4≤aR nd'∧Vt s' h nd' x.its x.ps
 ext:Ext s s'
 ok:PgOk s'
 big:uls.length=2→∀ x∈uls,∃ nd',cB s' x.page=some nd'∧4≤aR nd'
theorem split_leaf {l:bT} (h:l.length=9):l=l.take 4++l.drop 4∧(l.take 4).length=4∧(l.drop 4).length=5:=⟨(List.take_append_drop _ _).symm,by simp;omega,by simp;omega⟩
theorem store_up {s:Pg} (hs:PgOk s) {h:Nat} {N:Nd} {l:bT} {ps:List Nat} (hv:Vt s h N l ps) (h1:2≤aR N∨h=0) (h9:aR N≤9) (hsp:2≤cR s) :
  ∃ up s' uls,storeP s N=some (up,s')∧Up s s' h (aR N) up l uls∧cR s'+(pgs uls).length=cR s+ps.length∧(pgs uls).length≤ps.length+2:=by
 unfold storeP;by_cases hz:8<aR N
 ·rw [if_pos hz];have hz9:aR N=9:=by omega
  cases h with
  | zero =>
   obtain ⟨rfl,rfl,h3,h4⟩:=hv;have hl:l.length=9:=by simpa [aR] using hz9
   obtain ⟨e1,e2,e3⟩:=split_leaf hl;have hA:(bV ⟨l,[],[]⟩).1=⟨l.take 4,[],[]⟩:=by simp [bV,bN,dT]
   have hB:(bV ⟨l,[],[]⟩).2.1=⟨l.drop 4,[],[]⟩:=by simp [bV,bN,dT]
   have hK:(bV ⟨l,[],[]⟩).2.2=((l.drop 4).getD 0 ([],[])).1:=by simp [bV,bN,dT]
   have hsrt:Srt (l.take 4++l.drop 4):=by rw [← e1];exact h3
   obtain ⟨p1,p2,p3⟩:=List.pairwise_append.1 hsrt;have hkA:∀ x∈l.take 4,eF x.1=true∧fC x.2=true:=λ x hx=>h4 x (List.mem_of_mem_take hx);have hkB:∀ x∈l.drop 4,eF x.1=true∧fC x.2=true:=λ x hx=>h4 x (List.mem_of_mem_drop hx);obtain ⟨p,s1,w1,w2⟩:=hQ hs oM (leaf_ok p1 hkA oM);have:=w2.spare;obtain ⟨q,s2,w3,w4⟩:=hQ w2.ok oM (leaf_ok p2 hkB oM);have:=w4.spare;rw [hA,hB,hK,w1];simp only;rw [w3]
   obtain ⟨x0,r0,er⟩:∃ x0 r0,l.drop 4=x0::r0:=by
    cases hd:l.drop 4 with
    | nil=>rw [hd] at e3;cases e3
    | cons a b=>exact ⟨a,b,rfl⟩
   refine ⟨_,s2,[⟨p,l.take 4,[]⟩,⟨q,l.drop 4,[]⟩],rfl,⟨rfl,rfl,rfl,sM,?_,?_,sM,?_,w2.ext.trans w4.ext,w4.ok,λ _ x hx=>?_⟩,by simp [pgs];omega,by simp [pgs]⟩
   ·simp only [toks,KT,er,List.getD_cons_zero];rw [er] at p2 p3;have r1:RT (.T ⟨p,l.take 4,[]⟩) (.K x0.1):=λ a ha=>p3 a ha x0 sM
    have r2:RT (.K x0.1) (.T ⟨q,x0::r0,[]⟩):=λ b hb=>by
     rcases List.mem_cons.1 hb with rfl|hb
     ·exact kle_refl _
     ·exact nQ ((List.pairwise_cons.1 p2).1 b hb)
    refine List.pairwise_cons.2 ⟨λ t ht=>?_,List.pairwise_cons.2 ⟨λ t ht=>?_,List.pairwise_cons.2 ⟨λ t ht=>(by cases ht),List.Pairwise.nil⟩⟩⟩
    ·rcases List.mem_cons.1 ht with rfl|ht
     ·exact r1
     ·rcases List.mem_cons.1 ht with rfl|ht
      ·exact RT_K r1 r2
      ·cases ht
    ·rcases List.mem_cons.1 ht with rfl|ht
     ·exact r2
     ·cases ht
   ·intro k hk;simp only [List.mem_singleton] at hk;subst hk;rw [er];exact (hkB x0 (by rw [er];simp)).1
   ·intro x hx;simp only [List.mem_cons,List.not_mem_nil,or_false] at hx;rcases hx with rfl|rfl
    ·exact ⟨_,w4.ext.node w2.node,by simp [aR];omega,rfl,rfl,p1,hkA⟩
    ·exact ⟨_,w4.node,by simp [aR];omega,rfl,rfl,p2,hkB⟩
   ·simp only [List.mem_cons,List.not_mem_nil,or_false] at hx;rcases hx with rfl|rfl
    ·exact ⟨_,w4.ext.node w2.node,by simp [aR];omega⟩
    ·exact ⟨_,w4.node,by simp [aR];omega⟩
  | succ h =>
   obtain ⟨ls,e1,e2,e3,e4,e5,e6,e7,e8⟩:=hv;have hkl:N.kids.length=9:=by simpa [aR,e1] using hz9
   have hll:ls.length=9:=by rw [← hkl,e2,List.length_map]
   have hyl:N.keys.length=8:=by omega
   have hlf:bN N=false:=by
    cases hh:bN N with
    | false=>rfl
    | true=>rw [bM.1 hh] at hkl;cases hkl
   have e3k:∃ k,N.keys=N.keys.take 3++k::N.keys.drop 4∧N.keys.getD 3 []=k:=by
    have hlt:3<N.keys.length:=by omega
    refine ⟨N.keys[3],?_,by simp [List.getD_eq_getElem?_getD,hlt]⟩;rw [← List.drop_eq_getElem_cons hlt,List.take_append_drop]
   obtain ⟨k,ek,ek2⟩:=e3k;have hA:(bV N).1=⟨[],N.kids.take 4,N.keys.take 3⟩:=by simp [bV,hlf,dT]
   have hB:(bV N).2.1=⟨[],N.kids.drop 4,N.keys.drop 4⟩:=by simp [bV,hlf,dT]
   have hK:(bV N).2.2=k:=by simp only [bV,hlf];simpa using ek2
   have el:ls=ls.take 4++ls.drop 4:=(List.take_append_drop _ _).symm;have l1:(ls.take 4).length=(N.keys.take 3).length+1:=by simp;omega
   have l2:(ls.drop 4).length=(N.keys.drop 4).length+1:=by simp;omega
   have hb0:ls.drop 4≠[]:=by intro e;rw [e] at l2;simp at l2
   have et:toks ls N.keys=toks (ls.take 4) (N.keys.take 3)++.K k::toks (ls.drop 4) (N.keys.drop 4):=by
    rw [← toks_join l1 hb0,← el,← ek]
   rw [et] at e4;obtain ⟨p1,p2,p3⟩:=List.pairwise_append.1 e4;obtain ⟨p4,p5⟩:=List.pairwise_cons.1 p2
   have vA:Vt s (h+1) ⟨[],N.kids.take 4,N.keys.take 3⟩ ((ls.take 4).flatMap (·.its)) (pgs (ls.take 4)) :=
    ⟨ls.take 4,rfl,by rw [e2,List.map_take],l1,p1,λ k hk=>e5 k (List.mem_of_mem_take hk),rfl,rfl,λ x hx=>e8 x (List.mem_of_mem_take hx)⟩
   have vB:Vt s (h+1) ⟨[],N.kids.drop 4,N.keys.drop 4⟩ ((ls.drop 4).flatMap (·.its)) (pgs (ls.drop 4)) :=
    ⟨ls.drop 4,rfl,by rw [e2,List.map_drop],l2,p5,λ k hk=>e5 k (List.mem_of_mem_drop hk),rfl,rfl,λ x hx=>e8 x (List.mem_of_mem_drop hx)⟩
   have sA:aR ⟨[],N.kids.take 4,N.keys.take 3⟩=4:=by simp [aR];omega
   have sB:aR ⟨[],N.kids.drop 4,N.keys.drop 4⟩=5:=by simp [aR];omega
   obtain ⟨p,s1,w1,w2⟩:=hQ hs oM (vA.ok hs oM oM);have:=w2.spare;have vB1:=vB.ext w2.ext;obtain ⟨q,s2,w3,w4⟩:=hQ w2.ok oM (vB1.ok w2.ok oM oM);have:=w4.spare;rw [hA,hB,hK,w1];simp only;rw [w3]
   have hp:ps.length=(pgs (ls.take 4)).length+(pgs (ls.drop 4)).length:=by
    rw [e7,show ls.flatMap (λ x=>x.page::x.ps)=pgs ls from rfl];conv=>lhs;rw [el]
    rw [iW,List.length_append]
   refine ⟨_,s2,[⟨p,(ls.take 4).flatMap (·.its),pgs (ls.take 4)⟩,⟨q,(ls.drop 4).flatMap (·.its),pgs (ls.drop 4)⟩],rfl,⟨rfl,rfl,rfl,sM,?_,?_,?_,?_,w2.ext.trans w4.ext,w4.ok,λ _ x hx=>?_⟩,by simp [pgs] at hp ⊢;omega,by simp [pgs] at hp ⊢;omega⟩
   ·have r1:RT (.T ⟨p,(ls.take 4).flatMap (·.its),pgs (ls.take 4)⟩) (.K k):=λ a ha=>by
     obtain ⟨x,hx,hax⟩:=List.mem_flatMap.1 ha;exact p3 (.T x) (T_mem l1 hx) (.K k) sM a hax
    have r2:RT (.K k) (.T ⟨q,(ls.drop 4).flatMap (·.its),pgs (ls.drop 4)⟩):=λ a ha=>by
     obtain ⟨x,hx,hax⟩:=List.mem_flatMap.1 ha;exact p4 (.T x) (T_mem l2 hx) a hax
    simp only [toks,KT];refine List.pairwise_cons.2 ⟨λ t ht=>?_,List.pairwise_cons.2 ⟨λ t ht=>?_,List.pairwise_cons.2 ⟨λ t ht=>(by cases ht),List.Pairwise.nil⟩⟩⟩
    ·rcases List.mem_cons.1 ht with rfl|ht
     ·exact r1
     ·rcases List.mem_cons.1 ht with rfl|ht
      ·exact RT_K r1 r2
      ·cases ht
    ·rcases List.mem_cons.1 ht with rfl|ht
     ·exact r2
     ·cases ht
   ·intro k' hk;simp only [List.mem_singleton] at hk;subst hk;exact e5 k' (by rw [ek];simp)
   ·simp only [List.flatMap_cons,List.flatMap_nil,List.append_nil];rw [← List.flatMap_append,← el];exact e6
   ·intro x hx;simp only [List.mem_cons,List.not_mem_nil,or_false] at hx;rcases hx with rfl|rfl
    ·exact ⟨_,w4.ext.node w2.node,oM,(vA.ext w2.ext).ext w4.ext⟩
    ·exact ⟨_,w4.node,oM,vB1.ext w4.ext⟩
   ·simp only [List.mem_cons,List.not_mem_nil,or_false] at hx;rcases hx with rfl|rfl
    ·exact ⟨_,w4.ext.node w2.node,oM⟩
    ·exact ⟨_,w4.node,oM⟩
 ·rw [if_neg hz];obtain ⟨p,s1,w1,w2⟩:=hQ hs oM (hv.ok hs h1 oM);have:=w2.spare;rw [w1];refine ⟨_,s1,[⟨p,l,ps⟩],rfl,⟨rfl,rfl,rfl,sM,by simp [toks,KT],sM,sM,?_,w2.ext,w2.ok,λ h2=>by simp at h2⟩,by simp [pgs];omega,by simp [pgs]⟩;intro x hx;simp only [List.mem_singleton] at hx;subst hx;exact ⟨N,w2.node,oM,hv.ext w2.ext⟩
theorem mid_put {α : Type} {la lb us:List α} {x : α}:hY (dT (la++x::lb) la.length (la.length+1)) la.length us=la++us++lb:=by
 have e1:(la++x::lb).take la.length=la:=List.take_left' rfl
 have e2:(la++x::lb).drop (la.length+1)=lb:=by
  rw [← List.drop_drop,List.drop_left' rfl];rfl
 unfold hY dT;rw [e1,e2,List.take_left' rfl,List.drop_left' rfl]
theorem mid_ins {α : Type} {la lb us:List α}:hY (la++lb) la.length us=la++us++lb:=by
 unfold hY;rw [List.take_left' rfl,List.drop_left' rfl]
theorem put_up (key v:Bs) (hk:eF key=true) (hval:fC v=true):∀ (h:Nat) {s:Pg} {n f:Nat} {nd:Nd} {l:bT} {ps:List Nat},PgOk s→cB s n=some nd→Vt s h nd l ps→h<f→1≤aR nd→2*(h+1)≤cR s →
  ∃ fr th,jP s key f n=some (fr,th)∧fr.length=h+1∧(th=true↔∃ x∈l,x.1=key)∧∃ up s' uls,mL (key,v) th fr s=some (up,s')∧Up s s' h (aR nd) up (gW key v l) uls ∧
   cR s'+(h+1)+(pgs uls).length=cR s+1+ps.length∧(pgs uls).length≤1+ps.length+(h+1)
 | 0,s,n,f,nd,l,ps,hs,hn,hv,hf,h1,hsp=>by
  obtain ⟨rfl,rfl,h3,h4⟩:=hv;obtain ⟨f,rfl⟩:∃ g,f=g+1:=⟨f-1,oM⟩
  have hok:=fG hn;unfold bF at hok;rw [if_pos (by rfl)] at hok;obtain ⟨_,h8,_⟩:=dG hok;simp only at h8;refine ⟨[(⟨l,[],[]⟩,cN l key)],eR l key,by simp only [jP,hn];rfl,rfl,?_,?_⟩
  ·exact there_iff key h3
  ·have hN:cP ⟨l,[],[]⟩ (cN l key) nd0 (key,v) (eR l key)=⟨gW key v l,[],[]⟩:=by
    rw [← ins_eq];simp only [cP,bN,List.isEmpty_nil,if_true];split<;>rfl
   have hln:=insI_len key v l
   obtain ⟨up,s',uls,q1,q2,q3,q4⟩:=store_up (h:=0) (N:=⟨gW key v l,[],[]⟩) (l:=gW key v l) (ps:=[]) hs ⟨rfl,rfl,insI_srt h3,λ x hx=>by
    rcases nM hx with rfl|hx
    ·exact ⟨hk,hval⟩
    ·exact h4 x hx⟩ (.inr rfl) (by simp [aR];omega) oM
   refine ⟨up,s',uls,?_,⟨q2.items,q2.kids,q2.len,q2.two,q2.toks,q2.keys,q2.its,λ x hx=>?_,q2.ext,q2.ok,q2.big⟩,by simpa using (by simp at q3;omega),by simpa using (by simp at q4;omega)⟩
   ·simp only [mL];rw [hN];exact q1
   ·obtain ⟨nd',g1,g2,g3⟩:=q2.sub x hx;exact ⟨nd',g1,by simp only [aR,List.length_nil,Nat.add_zero] at g2 ⊢;omega,g3⟩
 | h+1,s,n,f,nd,l,ps,hs,hn,hv,hf,h1,hsp=>by
  have hok:=fG hn;have hv0:=hv;obtain ⟨ls,e1,e2,e3,e4,e5,e6,e7,e8⟩:=hv;obtain ⟨f,rfl⟩:∃ g,f=g+1:=⟨f-1,oM⟩
  have hlf:bN nd=false:=by
   cases hh:bN nd with
   | false=>rfl
   | true =>
    rw [bM.1 hh] at e2
    cases ls with
    | nil=>cases e3
    | cons _ _=>cases e2
  unfold bF at hok;rw [if_neg (by rw [hlf];simp)] at hok;obtain ⟨_,w2,w8,w4,_,_⟩:=cO hok;obtain ⟨la,x,lb,ka,kb,a1,a2,a3,a4,a5,a6,a7,a8⟩:=kid_split e3 e4 key;obtain ⟨ndx,x1,x2,x3⟩:=e8 x (by rw [a1];simp);obtain ⟨fr,th,i1,i2,i3,up,s1,uls,i4,i5,i6,i7⟩:=put_up key v hk hval h (s:=s) (n:=x.page) (f:=f) hs x1 x3 oM oM oM
  have hkid:nd.kids[fX nd.keys key]? = some x.page:=by
   rw [e2,a1,← a3];simp
  have hlt:=TK_its a4.symm a6;have hgt:=KT_its a5 a7;have hflat:l=la.flatMap (·.its)++(x.its++lb.flatMap (·.its)):=by rw [e6,a1];simp
  have hnotx:∀ y∈x.its,y∈l:=λ y hy=>by rw [hflat];simp [hy]
  refine ⟨(nd,fX nd.keys key)::fr,th,?_,by simp [i2],?_,?_⟩
  ·simp only [jP,hn,hlf,Bool.false_eq_true,if_false,hkid,i1]
  ·rw [i3];constructor
   ·rintro ⟨y,hy,e⟩;exact ⟨y,hnotx y hy,e⟩
   ·rintro ⟨y,hy,e⟩;rw [hflat] at hy;rcases List.mem_append.1 hy with hy|hy
    ·exact absurd (hlt y hy) (by rw [e];exact eI _)
    ·rcases List.mem_append.1 hy with hy|hy
     ·exact ⟨y,hy,e⟩
     ·exact absurd (hgt y hy) (by rw [e];exact eI _)
  ·have hN:cP nd (fX nd.keys key) up (key,v) th=⟨[],(la++uls++lb).map (·.page),ka++up.keys++kb⟩:=by
    simp only [cP,hlf,Bool.false_eq_true,if_false]
    have m1:hY (dT nd.kids (fX nd.keys key) (fX nd.keys key+1)) (fX nd.keys key) up.kids=(la++uls++lb).map (·.page):=by
     rw [e2,a1,i5.kids,← a3];simp only [List.map_append,List.map_cons];have:=mid_put (la:=la.map (·.page)) (lb:=lb.map (·.page)) (us:=uls.map (·.page)) (x:=x.page);rw [List.length_map] at this;exact this
    have m2:hY nd.keys (fX nd.keys key) up.keys=ka++up.keys++kb:=by
     conv=>lhs;arg 1;rw [a2]
     rw [← a3,← a4];exact mid_ins
    rw [m1,m2];cases nd;simp only at e1 ⊢;rw [e1]
   have hne:∀ y∈uls,y.its≠[]:=λ y hy=>by
    obtain ⟨n1,g1,g2,g3⟩:=i5.sub y hy;exact g3.ne oM
   have hin:gW key v l=(la++uls++lb).flatMap (·.its):=by
    rw [hflat,insI_append hlt,insI_before hgt,i5.its];simp
   have hvN:Vt s1 (h+1) ⟨[],(la++uls++lb).map (·.page),ka++up.keys++kb⟩ (gW key v l) (pgs (la++uls++lb)):=by
    refine ⟨la++uls++lb,rfl,rfl,?_,?_,?_,hin,rfl,?_⟩
    ·have:=i5.len;simp only [List.length_append];omega
    ·rw [toks_mid a4.symm i5.len];refine splice_ok a8 i5.len i5.toks hne (λ t ht a ha=>?_) (λ t ht a ha=>?_)
     ·rw [← i5.its] at ha;rcases nM ha with rfl|ha
      ·exact a6 t ht
      ·have:=(List.pairwise_append.1 (List.pairwise_append.1 a8).1).2.2 t ht (.T x) sM;exact RT_T.1 this a ha
     ·rw [← i5.its] at ha;rcases nM ha with rfl|ha
      ·exact a7 t ht
      ·have:=(List.pairwise_append.1 a8).2.2 (.T x) sM t ht;exact T_RT.1 this a ha
    ·intro k hk2;simp only [List.mem_append] at hk2;rcases hk2 with (hk2|hk2)|hk2
     ·exact e5 k (by rw [a2];simp [hk2])
     ·exact i5.keys k hk2
     ·exact e5 k (by rw [a2];simp [hk2])
    ·intro y hy;simp only [List.mem_append] at hy
     have old:∀ y∈ls,∃ nd',cB s1 y.page=some nd'∧4≤aR nd'∧Vt s1 h nd' y.its y.ps:=λ y hy=>by
      obtain ⟨n1,g1,g2,g3⟩:=e8 y hy;exact ⟨n1,i5.ext.node g1,g2,g3.ext i5.ext⟩
     rcases hy with (hy|hy)|hy
     ·exact old y (by rw [a1];simp [hy])
     ·obtain ⟨n1,g1,g2,g3⟩:=i5.sub y hy;exact ⟨n1,g1,oM,g3⟩
     ·exact old y (by rw [a1];simp [hy])
   have hlsz:ls.length=la.length+1+lb.length:=by rw [a1];simp;omega
   have hkz:nd.kids.length=ls.length:=by rw [e2,List.length_map]
   have hu1:1≤uls.length:=by have:=i5.len;omega
   have hu2:=i5.two;have hsN:aR ⟨[],(la++uls++lb).map (·.page),ka++up.keys++kb⟩=la.length+uls.length+lb.length:=by simp [aR];omega
   have hsnd:aR nd=nd.kids.length:=by simp [aR,e1]
   have hpl:ps.length=(pgs la).length+(1+x.ps.length)+(pgs lb).length:=by
    rw [e7,show ls.flatMap (λ x=>x.page::x.ps)=pgs ls from rfl,a1,show la++x::lb=la++[x]++lb by simp,iW,iW,pgs_one];simp;omega
   obtain ⟨up2,s2,uls2,q1,q2,q3,q4⟩:=store_up i5.ok hvN oM oM oM;refine ⟨up2,s2,uls2,?_,⟨q2.items,q2.kids,q2.len,q2.two,q2.toks,q2.keys,q2.its,λ y hy=>?_,i5.ext.trans q2.ext,q2.ok,q2.big⟩,?_,?_⟩
   ·simp only [mL,i4,hN];exact q1
   ·obtain ⟨n1,g1,g2,g3⟩:=q2.sub y hy;exact ⟨n1,g1,oM,g3⟩
   ·rw [iW,iW,List.length_append,List.length_append] at q3;omega
   ·rw [iW,iW,List.length_append,List.length_append] at q4;omega
end Go.Proofs.YtfpadnmdafiddaaGreatDoor
namespace Go.Proofs.YtfpadnmdafiddaaGreatDoor
open Go Go.RowKit Go.V
theorem findN_eq {key:Bs}:∀ {l:bT} {i:Nat},(∀ j x,j<i→l[j]? = some x→eO x.1 key)→(∀ x,l[i]? = some x→¬ eO x.1 key)→i≤l.length→cN l key=i
 | [],i,_,_,h=>by simp at h;subst h;rfl
 | x::l,0,_,h2,_=>by rw [iX,if_neg (h2 x rfl)]
 | x::l,i+1,h1,h2,h3=>by
  rw [iX,if_pos (h1 0 x oM rfl),findN_eq (l:=l) (i:=i) (λ j y hj hy=>h1 (j+1) y oM (by simpa using hy)) (λ y hy=>h2 y (by simpa using hy)) (by simpa using h3)]
theorem kidN_eq {key:Bs}:∀ {l:List Bs} {i:Nat},(∀ j x,j<i→l[j]? = some x→bW x key≤0)→(∀ x,l[i]? = some x→¬ bW x key≤0)→i≤l.length→fX l key=i
 | [],i,_,_,h=>by simp at h;subst h;rfl
 | x::l,0,_,h2,_=>by
  have:=h2 x rfl;unfold fX;rw [List.takeWhile_cons,if_neg (by simpa using this)];rfl
 | x::l,i+1,h1,h2,h3=>by
  have:=kidN_eq (key:=key) (l:=l) (i:=i) (λ j y hj hy=>h1 (j+1) y oM (by simpa using hy)) (λ y hy=>h2 y (by simpa using hy)) (by simpa using h3);unfold fX at this ⊢;rw [List.takeWhile_cons,if_pos (by simpa using h1 0 x oM rfl),List.length_cons,this]
theorem find_c (F G:Nat→Prop) (x:NV) (nd:Nd) (b:Option Addr) (m d:Nat) (key:Bs) (w:World) (h:NdAt F w x nd) (hk:Sl G w 1 b m d (bB key)) (hok:bF nd=true) (hl:bN nd=true) :
  Calls Tryz.prog 149 #[x.val,.slice b m d] w (Ret λ v w'=>v=.tuple #[.int .i64 (cN nd.items key:Int),.bool (eR nd.items key)]∧Grow w w'):=by
 have hn1:=h.its.len;have hn2:=bR h.kids;have h2:x.n2=0:=by rw [hn2,bM.1 hl];rfl
 have hle:x.n1≤8:=by
  unfold bF at hok;rw [if_pos hl] at hok;rw [hn1];exact (dG hok).2.1
 refine V.calls (args:=[_,_]) Tryz.func149 rfl Tryz.ntmps149 rfl rfl ?_;obtain ⟨cs,hs,hcell⟩:=h.its.at';repeat (first|refine aF ?_|refine yI λ bk w' hg hbk hsz hsz'=>?_|refine yJ λ w' hu hbk hsz=>?_|(refine aB 188 ?_;refine aA rfl (check_ok (h.go (Carry.grow yG)) hok) rfl ?_;rintro _ _ ⟨rfl,hgc⟩)|(refine aB 189 ?_;refine aA rfl (shape_leaf x _ h2) rfl ?_;rintro _ _ ⟨rfl,hgc⟩)|(refine mW ?_;refine lQ rfl rfl ?_))
 have hg0:Grow w w':=by exact yG
 refine aX (S:=Nat) (λ i=>[(21,.int .i64 (i:Int)),(20,.int .i64 (x.n1:Int)),(19,.slice x.a1 x.n1 x.c1),(1,.slice b m d),(6,.pointer (some ⟨bk,0,none⟩))]) (λ i w1=>Blk w1 bk 269 [.slice x.a1 x.n1 x.c1,.slice x.a3 x.n3 x.c3]∧Grow w w1∧i≤x.n1∧∀ j y,j<i→nd.items[j]? = some y→eO y.1 key) (λ i=>x.n1-i) 0 ⟨rfl,rfl,rfl,rfl,rfl,trivial⟩ ⟨hbk,hg0,oM,λ j y hj=>by omega⟩ ?_;clear hbk hg0 hg hu;rintro i w1 ⟨hbk,hg1,hi,hall⟩;have hblt:=hbk.lt;have hs1:=hs.grow hg1;have hk1:=hk.grow hg1;by_cases hlt:i<x.n1;rotate_left
 ·have he:cN nd.items key=x.n1:=findN_eq (λ j y hj hy=>hall j y oM hy) (λ y hy=>by rw [List.getElem?_eq_none oM] at hy;cases hy) oM;have ht:eR nd.items key=false:=by unfold eR;rw [he,List.getElem?_eq_none oM]
  repeat refine aF ?_
  exact fM rfl rfl ⟨_,rfl,by rw [he,ht],yG⟩
 obtain ⟨y,hy⟩:∃ y,nd.items[i]? = some y:=⟨_,List.getElem?_eq_getElem oM⟩
 obtain ⟨ka,kc,va,vc,g1,g2,s1,s2⟩:=hcell i y hy;by_cases hc:bW y.1 key<0
 ·repeat (first|refine aC rfl rfl rfl hlt rfl ⟨F,_,hs1⟩ rfl ?_|(refine aO ?_;refine dR rfl hs1 (two_at g1 g2) rfl rfl ?_)|(refine aB 139 ?_;refine aA rfl (dU _ _ _ _ _ _ _ _ _ _ _ (s1.grow yG) (hk.grow yG)) rfl ?_;rintro _ _ ⟨rfl,hgc⟩)|refine yC ?_|refine yI λ bk w' hg hbk hsz hsz'=>?_|refine yJ λ w' hu hbk hsz=>?_)
  exact aE (i+1) ⟨rfl,rfl,rfl,rfl,rfl,trivial⟩ ⟨yB,yG,oM,λ j z hj hz=>by
   by_cases hj2:j=i
   ·subst hj2;rw [hy] at hz;cases hz;exact hc
   ·exact hall j z oM hz⟩ oM
 ·have he:cN nd.items key=i:=findN_eq hall (λ z hz=>by rw [hy] at hz;cases hz;exact hc) oM;have ht:eR nd.items key=decide (bW y.1 key=0):=by unfold eR;rw [he,hy]
  repeat (first|refine aC rfl rfl rfl hlt rfl ⟨F,_,hs1⟩ rfl ?_|(refine aO ?_;refine dR rfl hs1 (two_at g1 g2) rfl rfl ?_)|(refine aB 139 ?_;refine aA rfl (dU _ _ _ _ _ _ _ _ _ _ _ (s1.grow yG) (hk.grow yG)) rfl ?_;rintro _ _ ⟨rfl,hgc⟩)|refine yC ?_|refine yI λ bk w' hg hbk hsz hsz'=>?_|refine yJ λ w' hu hbk hsz=>?_)
  refine fM rfl rfl ⟨_,rfl,by rw [he,ht];rfl,yG⟩
theorem kid_c (F G:Nat→Prop) (x:NV) (nd:Nd) (b:Option Addr) (m d:Nat) (key:Bs) (w:World) (h:NdAt F w x nd) (hk:Sl G w 1 b m d (bB key)) (hok:bF nd=true) (hl:bN nd=false) :
  Calls Tryz.prog 150 #[x.val,.slice b m d] w (Ret λ v w'=>v=.int .i64 (fX nd.keys key:Int)∧Grow w w'):=by
 have hn2:=bR h.kids;have hn3:=h.kys.len;have h2:x.n2≠0:=by rw [hn2];intro e;rw [bM.2 (List.eq_nil_of_length_eq_zero e)] at hl;cases hl
 have hle:x.n3≤8:=by
  unfold bF at hok;rw [if_neg (by rw [hl];simp)] at hok;have:=cO hok;omega
 refine V.calls (args:=[_,_]) Tryz.func150 rfl Tryz.ntmps150 rfl rfl ?_;obtain ⟨cs,hs,hcell⟩:=h.kys.at';repeat (first|refine aF ?_|refine yI λ bk w' hg hbk hsz hsz'=>?_|refine yJ λ w' hu hbk hsz=>?_|(refine aB 188 ?_;refine aA rfl (check_ok (h.go (Carry.grow yG)) hok) rfl ?_;rintro _ _ ⟨rfl,hgc⟩)|(refine aB 189 ?_;refine aA rfl (lJ x _ h2) rfl ?_;rintro _ _ ⟨rfl,hgc⟩)|(refine mW ?_;refine lQ rfl rfl ?_))
 have hg0:Grow w w':=by exact yG
 refine aX (S:=Nat) (λ i=>[(19,.int .i64 (i:Int)),(18,.int .i64 (x.n3:Int)),(17,.slice x.a3 x.n3 x.c3),(1,.slice b m d),(5,.pointer (some ⟨bk,0,none⟩))]) (λ i w1=>Blk w1 bk 271 x.cs∧Grow w w1∧i≤x.n3∧∀ j y,j<i→nd.keys[j]? = some y→bW y key≤0) (λ i=>x.n3-i) 0 ⟨rfl,rfl,rfl,rfl,rfl,trivial⟩ ⟨hbk,hg0,oM,λ j y hj=>by omega⟩ ?_;clear hbk hg0 hg hu;rintro i w1 ⟨hbk,hg1,hi,hall⟩;have hblt:=hbk.lt;have hs1:=hs.grow hg1;have hk1:=hk.grow hg1;by_cases hlt:i<x.n3;rotate_left
 ·have he:fX nd.keys key=x.n3:=kidN_eq (λ j y hj hy=>hall j y oM hy) (λ y hy=>by rw [List.getElem?_eq_none oM] at hy;cases hy) oM;repeat refine aF ?_
  exact bA rfl ⟨_,rfl,by rw [he],yG⟩
 obtain ⟨y,hy⟩:∃ y,nd.keys[i]? = some y:=⟨_,List.getElem?_eq_getElem oM⟩
 obtain ⟨ka,kc,g1,s1⟩:=hcell i y hy;have hcx:w1.cell? (at' x.a3 i)=some (.slice ka y.length kc):=hs1.row.cell g1;by_cases hc:bW y key≤0
 ·repeat (first|(refine aH ?_;refine aC rfl rfl rfl hlt (Nat.mul_one _) ⟨F,_,hs1⟩ rfl ?_)|(refine aB 139 ?_;refine aA rfl (dU _ _ _ _ _ _ _ _ _ _ _ (s1.grow yG) (hk.grow yG)) rfl ?_;rintro _ _ ⟨rfl,hgc⟩)|refine yC ?_)
  exact aE (i+1) ⟨rfl,rfl,rfl,rfl,rfl,trivial⟩ ⟨yB,yG,oM,λ j z hj hz=>by
   by_cases hj2:j=i
   ·subst hj2;rw [hy] at hz;cases hz;exact hc
   ·exact hall j z oM hz⟩ oM
 ·have he:fX nd.keys key=i:=kidN_eq hall (λ z hz=>by rw [hy] at hz;cases hz;exact hc) oM;repeat (first|(refine aH ?_;refine aC rfl rfl rfl hlt (Nat.mul_one _) ⟨F,_,hs1⟩ rfl ?_)|(refine aB 139 ?_;refine aA rfl (dU _ _ _ _ _ _ _ _ _ _ _ (s1.grow yG) (hk.grow yG)) rfl ?_;rintro _ _ ⟨rfl,hgc⟩)|refine yC ?_)
  refine bA rfl ⟨_,rfl,by rw [he],yG⟩
theorem lK {w:World} {base e sz:Nat}:w.ownsRow base e sz (.slice none 0 0) 0 []:=⟨sM,.inl ⟨rfl,rfl⟩⟩
theorem take_step {α : Type} {l:List α} {i:Nat} {x : α} (h:l[i]? = some x):l.take (i+1)=l.take i++[x]:=by
 obtain ⟨hi,rfl⟩:=List.getElem?_eq_some_iff.1 h;rw [List.take_succ_eq_append_getElem hi]
theorem bytes_leaf (F:Nat→Prop) (x:NV) (nd:Nd) (w:World) (h:NdAt F w x nd) (hok:bF nd=true) (hl:bN nd=true) :
  Calls Tryz.prog 154 #[x.val] w (Ret λ v w'=>∃ u,v=.tuple #[u,.int .i64 0]∧w'.ownsRow w.heap.size 5 1 u (dC nd).length (bB (dC nd))∧Grow w w'):=by
 have hn1:=h.its.len;have hn2:=bR h.kids;have h2:x.n2=0:=by rw [hn2,bM.1 hl];rfl
 have hwl:=hok;unfold bF at hwl;rw [if_pos hl] at hwl;obtain ⟨_,h8,hits⟩:=dG hwl;have hle:x.n1≤8:=by rw [hn1];exact h8
 refine V.calls (args:=[_]) Tryz.func154 rfl Tryz.ntmps154 rfl rfl ?_;obtain ⟨cs,hs,hcell⟩:=h.its.at';repeat (first|refine aF ?_|refine yI λ bk w' hg hbk hsz hsz'=>?_|refine yJ λ w' hu hbk hsz=>?_|(refine aB 188 ?_;refine aA rfl (check_ok (h.go (Carry.grow yG)) hok) rfl ?_;rintro _ _ ⟨rfl,hgc⟩)|(refine aB 189 ?_;refine aA rfl (shape_leaf x _ h2) rfl ?_;rintro _ _ ⟨rfl,hgc⟩)|(refine mW ?_;refine lQ rfl rfl ?_))
 have hg0:Grow w w':=by exact yG
 refine TL.buildSlice rfl rfl rfl rfl rfl ?_;intro b w3 hg3 hb3 hs3 hs4 hs5;have hsl:Sl (λ _=>True) w3 1 (some ⟨b,0,none⟩) 2 2 (bB [0,x.n1]):=(aV (sz:=1) (m:=2) hb3 hs5 dM).mono (λ _ _=>trivial);have hbk3:=hbk.grow hg3;have hsz3:=hg3.size;have hsz0:=hg0.size;refine TL.append (base:=w.heap.size) rfl rfl lK hsl (bO [0,x.n1]) (by unfold maxLen;omega) oM oM rfl ?_;intro v1 w4 hown4 hgb4 _;have hbk4:Blk w4 bk 269 [.slice x.a1 x.n1 x.c1,.slice x.a3 x.n3 x.c3]:=dD hgb4 (by simp [Value.ownBlock]) hbk3;have hg4:Grow w w4:=Grow.mk (aL hgb4 oM (λ k hk=>by cases hk) (hg0.trans hg3).1);clear hbk hbk3 hgb4 hb3 hg3 hsl hu hg;repeat refine aF ?_
 refine aX (S:=Value×Nat×Nat) (λ s=>[(34,.int .i64 (s.2.2:Int)),(33,.int .i64 (x.n1:Int)),(32,.slice x.a1 x.n1 x.c1),(5,s.1)]) (λ s w2=>s.2.2≤x.n1∧s.2.1≤2+50*s.2.2∧w2.ownsRow w.heap.size 5 1 s.1 s.2.1 (bB ([0,x.n1]++(nd.items.take s.2.2).flatMap (λ y=>bS y.1++bS y.2)))∧Grow w w2) (λ s=>x.n1-s.2.2) (v1,2,0) ⟨rfl,rfl,rfl,rfl,trivial⟩ ⟨by show 0≤x.n1;omega,by show 2≤2+50*0;omega,by simpa using hown4,hg4⟩ ?_;clear hbk4 hg4 hown4;rintro ⟨u,k,i⟩ w1 ⟨hi,hk,hown,hg1⟩;simp only at hi hk hown;refine bD (e':=[(34,.int .i64 (i:Int)),(33,.int .i64 (x.n1:Int)),(32,.slice x.a1 x.n1 x.c1),(5,u)]) ?_ ⟨rfl,rfl,rfl,rfl,trivial⟩;have hs1:=hs.grow hg1;have hsz1:=hg1.size;by_cases hlt:i<x.n1;rotate_left
 ·obtain rfl:i=x.n1:=by omega
  repeat refine aF ?_
  refine fM rfl rfl ⟨_,rfl,_,rfl,?_,hg1⟩
  have e:dC nd=[0,x.n1]++(nd.items.take x.n1).flatMap (λ y=>bS y.1++bS y.2):=by
   unfold dC;rw [if_pos hl,hn1,List.take_length]
  rw [e];have:=hown.1;rw [bE,Nat.mul_one] at this;rw [this];exact hown
 obtain ⟨y,hy⟩:∃ y,nd.items[i]? = some y:=⟨_,List.getElem?_eq_getElem oM⟩
 obtain ⟨ka,kc,va,vc,g1,g2,s1,s2⟩:=hcell i y hy;have hko:=mQ hits (List.mem_of_getElem? hy);have hk1:=eM hko.1;have hv1:=iD hko.2;have lk:=jF y.1 oM;have lv:=jF y.2 oM;repeat (first|refine aC rfl rfl rfl hlt rfl ⟨F,_,hs1⟩ rfl ?_|(refine aO ?_;refine dR rfl hs1 (two_at g1 g2) rfl rfl ?_)|refine yC ?_|refine yI λ bk w' hg hbk hsz hsz'=>?_|refine yJ λ w' hu hbk hsz=>?_)
 have hgA1:Grow w1 w':=by exact yG
 have hgA:Grow w w':=hg1.trans hgA1;have hownA:=aS hown hgA1;refine aA rfl (block_c F ka _ kc y.1 _ (s1.grow hgA) oM) rfl ?_;rintro bv wb ⟨hob,hgb⟩;obtain ⟨ba,bc,rfl,hsb⟩:=aM hob;have hszA:=hgA.size;have hszb:=hgb.size;refine TL.append rfl rfl (aS hownA hgb) hsb (bO _) (by unfold maxLen;omega) oM oM rfl ?_;intro v5 w5 hown5 hgb5 _;have hg5:Grow w w5:=Grow.mk (aL hgb5 oM (λ k hk=>(aT (aS hownA hgb) hk).1) (hgA.trans hgb).1);have hbkB:=hbk.grow hgb;have hbk5:Blk w5 bk 58 [.slice ka y.1.length kc,.slice va y.2.length vc]:=dD hgb5 (λ e=>by have:=aT hown e;omega) hbkB;clear hownA hgA hgA1 hob hsb hgb hgb5 hbk hbkB hu hg hown;repeat refine aF ?_
 refine aA rfl (block_c F va _ vc y.2 _ (s2.grow hg5) oM) rfl ?_;rintro bv wb ⟨hob,hgb⟩;obtain ⟨ba,bc,rfl,hsb⟩:=aM hob;have hsz5:=hg5.size;have hszb:=hgb.size;refine TL.append rfl rfl (aS hown5 hgb) hsb (bO _) (by unfold maxLen;omega) oM oM rfl ?_;intro v6 w6 hown6 hgb6 _;have hg6:Grow w w6:=Grow.mk (aL hgb6 oM (λ k hk=>(aT (aS hown5 hgb) hk).1) (hg5.trans hgb).1);repeat refine aF ?_
 refine aE (v6,k+(bS y.1).length+(bS y.2).length,i+1) ⟨rfl,rfl,rfl,rfl,trivial⟩ ⟨hlt,by simp only;omega,?_,hg6⟩ (by simp only;omega);simp only;rw [take_step hy,List.flatMap_append];simp only [List.flatMap_cons,List.flatMap_nil,List.append_nil,dH,← List.append_assoc] at hown6 ⊢;exact hown6
theorem bytes_branch (F:Nat→Prop) (x:NV) (nd:Nd) (w:World) (h:NdAt F w x nd) (hok:bF nd=true) (hl:bN nd=false) :
  Calls Tryz.prog 154 #[x.val] w (Ret λ v w'=>∃ u,v=.tuple #[u,.int .i64 0]∧w'.ownsRow w.heap.size 5 1 u (dC nd).length (bB (dC nd))∧Grow w w'):=by
 have hn2:=bR h.kids;have hn3:=h.kys.len;have h2:x.n2≠0:=by rw [hn2];intro e;rw [bM.2 (List.eq_nil_of_length_eq_zero e)] at hl;cases hl
 have hwl:=hok;unfold bF at hwl;rw [if_neg (by rw [hl];simp)] at hwl;obtain ⟨_,p2,p8,p4,pk,py⟩:=cO hwl;have hle:x.n2≤8:=by rw [hn2];exact p8
 have hle3:x.n3≤8:=by omega
 refine V.calls (args:=[_]) Tryz.func154 rfl Tryz.ntmps154 rfl rfl ?_;obtain ⟨cs,hs,hcell⟩:=h.kys.at';repeat (first|refine aF ?_|refine yI λ bk w' hg hbk hsz hsz'=>?_|refine yJ λ w' hu hbk hsz=>?_|(refine aB 188 ?_;refine aA rfl (check_ok (h.go (Carry.grow yG)) hok) rfl ?_;rintro _ _ ⟨rfl,hgc⟩)|(refine aB 189 ?_;refine aA rfl (lJ x _ h2) rfl ?_;rintro _ _ ⟨rfl,hgc⟩)|(refine mW ?_;first|refine lQ rfl rfl ?_|refine TL.assertNo rfl rfl rfl ?_))
 have hg0:Grow w w':=by exact yG
 refine TL.buildSlice rfl rfl rfl rfl rfl ?_;intro b w3 hg3 hb3 hs3 hs4 hs5;have hsl:Sl (λ _=>True) w3 1 (some ⟨b,0,none⟩) 2 2 (bB [1,x.n2]):=(aV (sz:=1) (m:=2) hb3 hs5 dM).mono (λ _ _=>trivial);have hbk3:=hbk.grow hg3;have hsz3:=hg3.size;have hsz0:=hg0.size;refine TL.append (base:=bk+1) rfl rfl lK hsl (bO [1,x.n2]) (by unfold maxLen;omega) oM oM rfl ?_;intro v1 w4 hown4 hgb4 _;have hbk4:Blk w4 bk 271 x.cs:=dD hgb4 (by simp [Value.ownBlock]) hbk3;have hg4:Grow w w4:=Grow.mk (aL hgb4 oM (λ k hk=>by cases hk) (hg0.trans hg3).1);have hbkw:w.heap.size≤bk:=by omega
 clear hbk hbk3 hgb4 hb3 hg3 hsl hu hg;repeat refine aF ?_
 refine aX (S:=Value×Nat×Nat) (λ s=>[(62,.int .i64 (s.2.2:Int)),(61,.int .i64 (x.n2:Int)),(60,.slice x.a2 x.n2 x.c2),(9,.pointer (some ⟨bk,0,none⟩)),(5,s.1)]) (λ s w2=>s.2.2≤x.n2∧s.2.1≤2+50*s.2.2∧w2.ownsRow (bk+1) 5 1 s.1 s.2.1 (bB ([1,x.n2]++(nd.kids.take s.2.2).flatMap bP))∧Blk w2 bk 271 x.cs∧Grow w w2) (λ s=>x.n2-s.2.2) (v1,2,0) ⟨rfl,rfl,rfl,rfl,rfl,trivial⟩ ⟨by show 0≤x.n2;omega,by show 2≤2+50*0;omega,by simpa using hown4,hbk4,hg4⟩ ?_;clear hbk4 hg4 hown4;rintro ⟨u,k,i⟩ w1 ⟨hi,hk,hown,hbk,hg1⟩;simp only at hi hk hown;refine bD (e':=[(62,.int .i64 (i:Int)),(61,.int .i64 (x.n2:Int)),(60,.slice x.a2 x.n2 x.c2),(9,.pointer (some ⟨bk,0,none⟩)),(5,u)]) ?_ ⟨rfl,rfl,rfl,rfl,rfl,trivial⟩;have hs1:=h.kids.grow hg1;have hsz1:=hg1.size;by_cases hlt:i<x.n2
 ·obtain ⟨p,hp⟩:∃ p,nd.kids[i]? = some p:=⟨_,List.getElem?_eq_getElem oM⟩
  have hcx:w1.cell? (at' x.a2 i)=some (.int .i64 (p:Int)):=hs1.row.cell (jR hp);have hpl:=kid_ok pk (List.mem_of_getElem? hp);repeat (first|(refine aH ?_;refine aC rfl rfl rfl hlt (Nat.mul_one _) ⟨F,_,hs1⟩ rfl ?_)|refine yC ?_)
  refine aA rfl (word_c p oM _) rfl ?_;rintro bv wb ⟨hob,hgb⟩;obtain ⟨ba,bc,rfl,hsb⟩:=aM hob;have hszb:=hgb.size;have hbl:=hbk.lt;refine TL.append rfl rfl (aS hown hgb) hsb (bO _) (by unfold maxLen;omega) oM oM rfl ?_;intro v6 w6 hown6 hgb6 _;have hg6:Grow w w6:=Grow.mk (aL hgb6 oM (λ k hk=>by have:=aT (aS hown hgb) hk;omega) (hg1.trans hgb).1);have hbk6:Blk w6 bk 271 x.cs:=dD hgb6 (λ e=>by have:=aT hown e;omega) (hbk.grow hgb);repeat refine aF ?_
  refine aE (v6,k+4,i+1) ⟨rfl,rfl,rfl,rfl,rfl,trivial⟩ ⟨hlt,by simp only;omega,?_,hbk6,hg6⟩ (by simp only;omega)
  ·simp only;rw [take_step hp,List.flatMap_append];simp only [List.flatMap_cons,List.flatMap_nil,List.append_nil,dH,← List.append_assoc] at hown6 ⊢;exact hown6
 obtain rfl:i=x.n2:=by omega
 repeat refine aF ?_
 have hpre:(nd.kids.take x.n2).flatMap bP=nd.kids.flatMap bP:=by rw [hn2,List.take_length]
 rw [hpre] at hown;refine aX (S:=Value×Nat×Nat) (λ s=>[(75,.int .i64 (s.2.2:Int)),(74,.int .i64 (x.n3:Int)),(73,.slice x.a3 x.n3 x.c3),(5,s.1)]) (λ s w2=>bk<w2.heap.size∧s.2.2≤x.n3∧s.2.1≤1000+50*s.2.2∧w2.ownsRow (bk+1) 5 1 s.1 s.2.1 (bB ([1,x.n2]++nd.kids.flatMap bP++(nd.keys.take s.2.2).flatMap bS))∧Grow w w2) (λ s=>x.n3-s.2.2) (u,k,0) ⟨rfl,rfl,rfl,rfl,trivial⟩ ⟨hbk.lt,by show 0≤x.n3;omega,by show k≤1000+50*0;omega,by simpa using hown,hg1⟩ ?_;clear hbk hg1 hown hsz1 hs1 hi hk;rintro ⟨u,k,i⟩ w1 ⟨hbl,hi,hk,hown,hg1⟩;simp only at hi hk hown;refine bD (e':=[(75,.int .i64 (i:Int)),(74,.int .i64 (x.n3:Int)),(73,.slice x.a3 x.n3 x.c3),(5,u)]) ?_ ⟨rfl,rfl,rfl,rfl,trivial⟩;have hs1:=hs.grow hg1;have hsz1:=hg1.size;by_cases hlt3:i<x.n3
 ·obtain ⟨p,hp⟩:∃ p,nd.keys[i]? = some p:=⟨_,List.getElem?_eq_getElem oM⟩
  obtain ⟨ka,kc,g1,s1⟩:=hcell i p hp;have hcx:w1.cell? (at' x.a3 i)=some (.slice ka p.length kc):=hs1.row.cell g1;have hpl:=eM (key_ok' py (List.mem_of_getElem? hp));have lk:=jF p oM;repeat (first|(refine aH ?_;refine aC rfl rfl rfl hlt3 (Nat.mul_one _) ⟨F,_,hs1⟩ rfl ?_)|refine yC ?_)
  refine aA rfl (block_c F ka _ kc p _ (s1.grow hg1) oM) rfl ?_;rintro bv wb ⟨hob,hgb⟩;obtain ⟨ba,bc,rfl,hsb⟩:=aM hob;have hszb:=hgb.size;refine TL.append rfl rfl (aS hown hgb) hsb (bO _) (by unfold maxLen;omega) oM oM rfl ?_;intro v6 w6 hown6 hgb6 _;have hg6:Grow w w6:=Grow.mk (aL hgb6 oM (λ k hk=>by have:=aT (aS hown hgb) hk;omega) (hg1.trans hgb).1);repeat refine aF ?_
  have hsz6:=hgb6.size;refine aE (v6,k+(bS p).length,i+1) ⟨rfl,rfl,rfl,rfl,trivial⟩ ⟨oM,hlt3,by simp only;omega,?_,hg6⟩ (by simp only;omega);simp only;rw [take_step hp,List.flatMap_append];simp only [List.flatMap_cons,List.flatMap_nil,List.append_nil,dH,← List.append_assoc] at hown6 ⊢;exact hown6
 obtain rfl:i=x.n3:=by omega
 repeat refine aF ?_
 refine fM rfl rfl ⟨_,rfl,_,rfl,?_,hg1⟩
 have e:dC nd=[1,x.n2]++nd.kids.flatMap bP++(nd.keys.take x.n3).flatMap bS:=by
  unfold dC;rw [if_neg (by rw [hl];simp),hn2,hn3,List.take_length]
 rw [e];have:=hown.1;rw [bE,Nat.mul_one] at this;rw [this];exact eC hown oM
theorem dO {b:Nat} {w w':World} (m:Mut b w w'):But b w w':=⟨m.os,m.tape,m.output,m.size,λ k hk hb=>m.block k hk (λ e=>hb (by cases e;rfl))⟩
theorem Carry.but {F:Nat→Prop} {w w':World} {b:Nat} (u:But b w w') (hb:∀ k,F k→k<w.heap.size→k≠b):Carry F w F w':=⟨u.size,λ k hk h=>⟨hk,u.block k h (hb k hk h)⟩⟩
theorem mN {w w':World} {base n sz e b:Nat} {v:Value} {xs:List Value} (h:w.ownsRow base e sz v n xs) (u:But b w w') (hb:b<base):w'.ownsRow base e sz v n xs:=cL h λ k hk hv=>u.block k (aT h hv).2 oM
theorem but_grow' {b:Nat} {w w':World} (g:Grow w w'):But b w w':=gE g (But.refl b w)
section
variable [Rn]
variable {P:Program} {n:Nat} {e:dJ} {w w':World} {Q:dI} {ops:Array Oper} {rest:List Oper} {d:Nat} {ty:TypeId} {pos:String} {aft:Array Edge}
def zs (n:Nat):Bs:=List.replicate n 0
theorem eS (m:Nat) {t:TypeId} (hz:(P.info? t).bind (·.zero)=some (.agg (bB (zs m)).toArray)) (hd:Nat.blt d n=true)
  (k:∀ b w',Grow w w'→Blk w' b t (bB (zs m))→w.heap.size=b→w'.heap.size=b+1→TL P n ops rest ((d,.pointer (some ⟨b,0,none⟩))::e) w' Q) :
  TL P n ops (⟨some d,.alloc t,ty,pos,aft,none⟩::rest) e w Q:=@TL.alloc _ P n e w Q ops rest d ty pos aft t _ (bB (zs m)) ⟨hz⟩ rfl hd k
theorem nX {t bt:TypeId} {m b:Nat} {x:Operand} {l:Bs} [ht:Agg P t m] (hx:val e x=some (.pointer (some ⟨b,0,none⟩))) (hb:Blk w b bt (bB l)) (hl:l.length=m) (hd:Nat.blt d n=true)
  (k:TL P n ops rest ((d,.agg (bB l).toArray)::e) w Q):TL P n ops (⟨some d,.load t x,ty,pos,aft,none⟩::rest) e w Q :=
 iO hx hb (by rw [bE,hl];exact Nat.beq_refl m) hd k
theorem fK {t bt:TypeId} {m b:Nat} {x y:Operand} {l v:Bs} [ht:Agg P t m] (hx:val e x=some (.pointer (some ⟨b,0,none⟩))) (hy:val e y=some (.agg (bB v).toArray)) (hb:Blk w b bt (bB l)) (hl:l.length=m) (hv:v.length=m)
  (k:∀ w',Upd b w w'→Blk w' b bt (bB v)→w'.heap.size=w.heap.size→TL P n ops rest e w' Q):TL P n ops (⟨none,.store t x y,ty,pos,aft,none⟩::rest) e w Q :=
 eJ hx hy hb (by rw [bE,hv];exact Nat.beq_refl m) (by rw [bE,hl];exact Nat.beq_refl m) (List.all_eq_true.2 (bO v)) k
theorem TL.loadAll {t m:Nat} {x:Operand} {a:Option Addr} {F:Nat→Prop} {c:Nat} {cs:List Value} [ht:Agg P t m] (hx:val e x=some (.pointer a)) (hs:Sl F w 1 a m c cs) (hm:Nat.ble 1 m=true) (hd:Nat.blt d n=true)
  (k:TL P n ops rest ((d,.agg cs.toArray)::e) w Q):TL P n ops (⟨some d,.load t x,ty,pos,aft,none⟩::rest) e w Q:=by
 have hm:=Nat.le_of_ble_eq_true hm
 cases a with
 | none=>have:=hs.nil rfl;have:=hs.cap;omega
 | some p =>
  have hl:=hs.len;exact TL.run (λ r hr=>by simp [execOp,Instr.loadAt,hr.eval hx,Instr.sureAddr,iR ht oM (hs.row.cell_add rfl)]) hd k
theorem putAt_eq:∀ (vs cs:List Value) (o:Nat),o+vs.length≤cs.length→iH cs o vs=cs.take o++vs++cs.drop (o+vs.length)
 | [],cs,o,_=>by simp [iH]
 | v::vs,cs,o,h=>by
  simp only [List.length_cons] at h;have hlt:o<cs.length:=by omega
  rw [iH,putAt_eq vs (cs.set o v) (o+1) (by simp;omega)]
  have e1:(cs.set o v).take (o+1)=cs.take o++[v]:=by
   rw [List.take_succ_eq_append_getElem (by simpa using hlt),List.take_set_of_le (Nat.le_refl _)];simp
  have e2:(cs.set o v).drop (o+1+vs.length)=cs.drop (o+(v::vs).length):=by
   rw [List.drop_set_of_lt oM];congr 1
   simp only [List.length_cons];omega
  rw [e1,e2];simp
theorem putAt_bys {l v:Bs} {o:Nat} (h:o+v.length≤l.length):iH (bB l) o (bB v)=bB (l.take o++v++l.drop (o+v.length)):=by
 rw [putAt_eq _ _ _ (by simpa [bE] using h),bE];simp [bB,List.map_take,List.map_drop]
theorem jO {b o m c:Nat} {t:TypeId} {l:Bs} (hb:Blk w b t (bB l)) (hm:o+m≤l.length) (hc:m≤c) (hc2:c≤maxLen):Sl (λ k=>k=b) w 1 (some ⟨b,o,none⟩) m c (bB ((l.drop o).take m)) :=
 ⟨by rw [bE,List.length_take,List.length_drop];omega,hc,hc2,(λ h=>by cases h),λ _=>⟨rfl,rfl,hb.lt,λ j v hj=>hb.cell (by
  unfold bB at *;rw [List.getElem?_map,List.getElem?_take] at hj;split at hj
  ·rw [List.getElem?_drop] at hj;rw [List.getElem?_map];exact hj
  ·cases hj)⟩⟩
end
theorem zero_sector:(Tryz.prog.info? 247).bind (·.zero)=some (.agg (bB (zs 256)).toArray):=by kernel_rfl
theorem zero_page:(Tryz.prog.info? 197).bind (·.zero)=some (.agg (bB (zs 512)).toArray):=by kernel_rfl
theorem zero_dig:(Tryz.prog.info? 243).bind (·.zero)=some (.agg (bB (zs 32)).toArray):=by kernel_rfl
theorem cJ (n:Nat):(zs n).length=n:=List.length_replicate
instance:PtrTy Tryz.prog 118:=⟨kR⟩
instance:MapTy Tryz.prog 248 3 247:=⟨kR⟩
structure DkAt (w:World) (d:Nat) (s m N:Nat) (f:Nat→Option Value):Prop where
 blk:Blk w d 250 [.pointer (some ⟨d,0,none⟩),.slice (some ⟨s,0,none⟩) N N,.map (some m)]
 map:MapF w m f
 ne:d≠m
 le:N≤16384
theorem DkAt.keep {w w':World} {d s m N:Nat} {f:Nat→Option Value} (h:DkAt w d s m N f) (hd:w'.heap[d]? = w.heap[d]?) (hm:w'.heap[m]? = w.heap[m]?):DkAt w' d s m N f :=
 ⟨by have:=h.blk;unfold Blk at *;rw [hd];exact this,h.map.keep hm,h.ne,h.le⟩
theorem DkAt.grow {w w':World} {d s m N:Nat} {f:Nat→Option Value} (g:Grow w w') (h:DkAt w d s m N f):DkAt w' d s m N f:=h.keep (g.block d h.blk.lt) (g.block m h.map.lt)
theorem dmade_c (s N:Nat) (w:World) (hN:N≤16384) :
  Calls Tryz.prog 141 #[.slice (some ⟨s,0,none⟩) N N] w (Ret λ v w'=>∃ d m,v=.pointer (some ⟨d,0,none⟩)∧w.heap.size≤d∧w.heap.size≤m∧DkAt w' d s m N (λ _=>none)∧Grow w w'):=by
 refine V.calls (args:=[_]) Tryz.func141 rfl Tryz.ntmps141 rfl rfl ?_;repeat (first|(refine TL.isMakeMap ?_;refine TL.makeMapF rfl ?_;intro m w1 hg1 hm1 hs1 hs2)|refine yA ?_|refine yI λ bk w' hg hbk hsz hsz'=>?_|refine yJ λ w' hu hbk hsz=>?_)
 refine bA rfl ⟨_,rfl,bk,m,rfl,oM,oM,⟨hbk,MapF.upd hu oM (hm1.grow hg),oM,hN⟩,yG⟩
theorem dnew_c (n:Nat) (w:World) (h1:1≤n) (hn:n≤16384) :
  Calls Tryz.prog 67 #[.int .i64 (n:Int)] w (Ret λ v w'=>∃ d s m,v=.tuple #[.pointer (some ⟨d,0,none⟩),.int .i64 0]∧w.heap.size≤d∧w.heap.size≤m∧DkAt w' d s m n (λ _=>none)∧Grow w w'):=by
 refine V.calls (args:=[_]) Tryz.func67 rfl Tryz.ntmps67 rfl rfl ?_;repeat refine aF ?_
 haveI:Zero Tryz.prog 247 (.agg (bB (zs 256)).toArray):=⟨zero_sector⟩
 refine jB rfl rfl oM (by unfold maxLen;omega) rfl ?_;intro b w1 hb hown hg1;clear hown;have:=hg1.size;refine aA rfl (dmade_c b n _ hn) rfl ?_;rintro _ w2 ⟨d,m,rfl,q1,q2,q3,hg2⟩;repeat refine aF ?_
 exact fM rfl rfl ⟨_,rfl,d,b,m,rfl,oM,oM,q3,hg1.trans hg2⟩
theorem dvalid_c {w:World} {d s m N:Nat} {f:Nat→Option Value} (h:DkAt w d s m N f) :
  Calls Tryz.prog 184 #[.pointer (some ⟨d,0,none⟩)] w (Ret λ v w'=>v=.bool true∧w=w'):=by
 refine V.calls (args:=[_]) Tryz.func184 rfl Tryz.ntmps184 rfl rfl ?_;have hb:=h.blk;repeat (first|(refine TL.isNeT 118 ?_;refine TL.neNilP rfl rfl rfl ?_)|(refine kU 118 ?_;refine TL.eqSame rfl rfl rfl ?_)|refine yA ?_)
 exact bA rfl ⟨_,rfl,rfl,rfl⟩
theorem dsize_c {w:World} {d s m N:Nat} {f:Nat→Option Value} (h:DkAt w d s m N f) :
  Calls Tryz.prog 142 #[.pointer (some ⟨d,0,none⟩)] w (Ret λ v w'=>v=.int .i64 (N:Int)∧w=w'):=by
 refine V.calls (args:=[_]) Tryz.func142 rfl Tryz.ntmps142 rfl rfl ?_;have hb:=h.blk;repeat (first|(refine aB 184 ?_;refine aA rfl (dvalid_c h) rfl ?_;rintro _ _ ⟨rfl,rfl⟩)|refine yA ?_)
 exact bA rfl ⟨_,rfl,rfl,rfl⟩
theorem dcheck_c {w:World} {d s m N:Nat} {f:Nat→Option Value} (h:DkAt w d s m N f) (k:Nat) (hk:k<N) :
  Calls Tryz.prog 171 #[.pointer (some ⟨d,0,none⟩),.int .i64 (k:Int)] w (Ret λ v w'=>v=.int .i64 0∧w=w'):=by
 refine V.calls (args:=[_,_]) Tryz.func171 rfl Tryz.ntmps171 rfl rfl ?_;have hb:=h.blk;repeat (first|(refine aB 184 ?_;refine aA rfl (dvalid_c h) rfl ?_;rintro _ _ ⟨rfl,rfl⟩)|refine yC ?_)
 exact bA rfl ⟨_,rfl,rfl,rfl⟩
theorem dread_c {w:World} {d s m N:Nat} {f:Nat→Option Value} (h:DkAt w d s m N f) (k:Nat) (hk:k<N) (vs:Bs) (hf:f k=some (.agg (bB vs).toArray)) (hl:vs.length=256) :
  Calls Tryz.prog 129 #[.pointer (some ⟨d,0,none⟩),.int .i64 (k:Int)] w (Ret λ v w'=>∃ b,v=.tuple #[.slice (some ⟨b,0,none⟩) 256 256,.int .i64 0]∧w.heap.size≤b∧Sl (λ k=>k=b) w' 1 (some ⟨b,0,none⟩) 256 256 (bB vs)∧Grow w w'):=by
 have hN:=h.le;refine V.calls (args:=[_,_]) Tryz.func129 rfl Tryz.ntmps129 rfl rfl ?_;have hb:=h.blk;have hlb:(bB vs).length=256:=by rw [bE,hl]
 repeat (first|(refine aB 171 ?_;refine aA rfl (dcheck_c h k hk) rfl ?_;rintro _ _ ⟨rfl,rfl⟩)|(refine mU ?_;refine TL.lookupYes rfl rfl h.map hf oM rfl ?_)|refine yC ?_)
 refine eS 256 zero_sector rfl ?_;intro b w1 hg1 hb1 hs1 hs2;refine fK rfl rfl hb1 (cJ _) hl ?_;intro w2 hu2 hb2 hs3;repeat refine aF ?_
 refine fM rfl rfl ⟨_,rfl,b,rfl,oM,?_,yG⟩;have:=jO (o:=0) (m:=256) (c:=256) hb2 oM oM dM;rw [List.drop_zero,List.take_of_length_le oM] at this;exact this
theorem dwrite_c {w:World} {d s m N:Nat} {f:Nat→Option Value} (h:DkAt w d s m N f) (k:Nat) (hk:k<N) (F:Nat→Prop) (a:Option Addr) (c:Nat) (vs:Bs) (hs:Sl F w 1 a 256 c (bB vs)) :
  Calls Tryz.prog 124 #[.pointer (some ⟨d,0,none⟩),.int .i64 (k:Int),.slice a 256 c] w (Ret λ v w'=>DkAt w' d s m N (upF f k (.agg (bB vs).toArray))∧But m w w'):=by
 have hN:=h.le;refine V.calls (args:=[_,_,_]) Tryz.func124 rfl Tryz.ntmps124 rfl rfl ?_;have hb:=h.blk;have hlb:(bB vs).length=256:=by have:=hs.len;omega
 repeat (first|(refine aB 171 ?_;refine aA rfl (dcheck_c h k hk) rfl ?_;rintro _ _ ⟨rfl,rfl⟩)|refine yC ?_)
 apply T.any 8 [is _,is _,is _,is _,is _,is _,is (.pointer a),is (.agg (bB vs).toArray)]
 ·kernel_rfl
 ·repeat' (first|exact aN|refine aK ?_ ?_)
  iterate 6
   ·refine yQ λ wq _ _ hgq=>?_;repeat refine aF ?_
    exact aD rfl yG rfl
  ·refine yQ λ wq _ _ hgq=>?_;refine TL.arrayAt rfl (Nat.le_refl _) rfl ?_;repeat refine aF ?_
   exact aD rfl yG rfl
  ·refine yQ λ wq _ _ hgq=>?_;refine TL.loadAll rfl (hs.grow yG) rfl rfl ?_;repeat refine aF ?_
   exact aD rfl yG rfl
 ·intro w6 lo6 hi6 hg6 _ _;((refine yT ?_))
  refine TL.updateF rfl rfl rfl (h.map.grow hg6) oM ?_;intro w7 hu7 hm7;repeat refine aF ?_
  have hb7:Blk w7 d 250 _:=Blk.upd hu7 h.ne (hb.grow hg6);exact bA rfl ⟨_,rfl,⟨hb7,hm7,h.ne,h.le⟩,but_upd hu7 (but_grow' hg6)⟩
theorem mulw_c (x y:Nat) (hx:x<18446744073709551616) (hy:y<18446744073709551616) (w:World) :
  Calls Tryz.prog 267 #[.int .u64 (x:Int),.int .u64 (y:Int)] w (Ret λ v w'=>v=.tuple #[.int .u64 ((x*y / 18446744073709551616:Nat):Int),.int .u64 ((x*y%18446744073709551616:Nat):Int)]∧Grow w w'):=by
 refine V.calls (args:=[_,_]) Tryz.func267 rfl Tryz.ntmps267 rfl rfl ?_;have ha:=Lib.half_mul_le (a:=x / 4294967296) (b:=y / 4294967296) oM oM;have hb:=Lib.half_mul_le (a:=x / 4294967296) (b:=y%4294967296) oM oM;have hc:=Lib.half_mul_le (a:=x%4294967296) (b:=y / 4294967296) oM oM;have hd:=Lib.half_mul_le (a:=x%4294967296) (b:=y%4294967296) oM oM;have hl:=(Lib.mul64_hi x y hx hy).2.2.2;repeat refine dF ?_
 refine fM rfl rfl ⟨_,rfl,?_,yG⟩;rw [hl]
theorem mul8_c (L:Nat) (h:L≤100000) (w:World) :
  Calls Tryz.prog 267 #[.int .u64 (L:Int),.int .u64 8] w (Ret λ v w'=>v=.tuple #[.int .u64 0,.int .u64 ((8*L:Nat):Int)]∧Grow w w') :=
 Calls.mono (mulw_c L 8 oM oM w) λ e w' ⟨v,h1,h2,h3⟩=>⟨v,h1,by
  rw [h2];have e1:L*8 / 18446744073709551616=0:=by omega
  have e2:L*8%18446744073709551616=8*L:=by omega
  rw [e1,e2];rfl,h3⟩
def jZ (n:Nat):Nat:=(239-n%128)%128
def be8 (n:Nat):Bs:=(List.range 8).map λ i=>n / 2^(56-8*i)%256
def mI (l:Bs):Bs:=l++[128]++zs (jZ l.length)++be8 0++be8 (8*l.length)
theorem mB (n:Nat):(be8 n).length=8:=by simp [be8]
theorem kQ (l:Bs):(mI l).length=l.length+17+jZ l.length:=by simp [mI,mB,cJ];omega
theorem lU {bss:List Bs} {i:Nat} {p:Bs} (h:bss[i]? = some p):(bss.take (i+1)).flatten=(bss.take i).flatten++p:=by
 rw [List.take_add_one,h];simp
theorem flat_le (bss:List Bs) (i:Nat):(bss.take i).flatten.length≤bss.flatten.length:=by
 have:bss.flatten=(bss.take i).flatten++(bss.drop i).flatten:=by rw [← List.flatten_append,List.take_append_drop]
 rw [this,List.length_append];omega
theorem padded_c (F:Nat→Prop) (a:Option Addr) (n c:Nat) (bss:List Bs) (w:World) (h:KysAt F w a n c bss) (hn:bss.flatten.length≤100000) :
  Calls Tryz.prog 250 #[.slice a n c] w (Ret λ v w'=>w'.ownsRow w.heap.size 5 1 v (mI bss.flatten).length (bB (mI bss.flatten))∧Grow w w'):=by
 have hlen:=h.len;obtain ⟨cs,hs,hcell⟩:=h.at';have hnle:=hs.le;refine V.calls (args:=[_]) Tryz.func250 rfl Tryz.ntmps250 rfl rfl ?_;repeat refine aF ?_
 refine aX (S:=Nat) (λ i=>[(16,.int .i64 (i:Int)),(15,.int .i64 (n:Int)),(14,.slice a n c),(3,.int .i64 (((bss.take i).flatten.length:Nat):Int)),(0,.slice a n c)]) (λ i w1=>Grow w w1∧i≤n) (λ i=>n-i) 0 ⟨rfl,rfl,rfl,rfl,rfl,trivial⟩ ⟨Grow.refl _,oM⟩ ?_;rintro i w1 ⟨hg1,hi⟩;have hs1:=hs.grow hg1;have hle:=flat_le bss i;by_cases hlt:i<n
 ·obtain ⟨p,hp⟩:∃ p,bss[i]? = some p:=⟨_,List.getElem?_eq_getElem oM⟩
  obtain ⟨ka,kc,g1,s1⟩:=hcell i p hp;have hcx:w1.cell? (at' a i)=some (.slice ka p.length kc):=hs1.row.cell g1;have hle2:=flat_le bss (i+1);rw [lU hp,List.length_append] at hle2;repeat (first|(refine aH ?_;refine aC rfl rfl rfl hlt (Nat.mul_one _) ⟨F,_,hs1⟩ rfl ?_)|refine yC ?_)
  exact aE (i+1) ⟨rfl,rfl,rfl,by rw [lU hp,List.length_append];rfl,rfl,trivial⟩ ⟨hg1,oM⟩ oM
 obtain rfl:i=n:=by omega
 have htk:bss.take i=bss:=List.take_of_length_le oM;rw [htk];rw [htk] at hle;generalize hL:bss.flatten.length=L at *;repeat refine aF ?_
 refine TL.make0 (bytes:=1) (c:=(L+16) / 128*128+128) rfl rfl oM (by unfold maxLen;omega) rfl ?_;rintro b w2 hb hown hg2;have h2:=hg2.size;repeat refine aF ?_
 have hown':=eC hown (show w.heap.size≤w1.heap.size from hg1.size);have hg3:=hg1.trans hg2;refine aX (S:=Value×Nat) (λ s=>[(33,.int .i64 (s.2:Int)),(32,.int .i64 (i:Int)),(31,.slice a i c),(6,s.1),(3,.int .i64 (L:Int))]) (λ s w3=>s.2≤i∧w3.ownsRow w.heap.size 5 1 s.1 (bss.take s.2).flatten.length (bB (bss.take s.2).flatten)∧Grow w w3) (λ s=>i-s.2) (_,0) ⟨rfl,rfl,rfl,rfl,rfl,trivial⟩ ⟨oM,hown',hg3⟩ ?_;clear hown hown' hg2 hg3 hg1 hs1 h2 hb;rintro ⟨v,j⟩ w3 ⟨hj,hown,hg3⟩;simp only at hj hown;have hsz:=hg3.size;have hs3:=hs.grow hg3;by_cases hlt:j<i
 ·obtain ⟨p,hp⟩:∃ p,bss[j]? = some p:=⟨_,List.getElem?_eq_getElem oM⟩
  obtain ⟨ka,kc,g1,s1⟩:=hcell j p hp;have hcx:w3.cell? (at' a j)=some (.slice ka p.length kc):=hs3.row.cell g1;have hle2:=flat_le bss (j+1);rw [lU hp,List.length_append,hL] at hle2;repeat (first|(refine aH ?_;refine aC rfl rfl rfl hlt (Nat.mul_one _) ⟨F,_,hs3⟩ rfl ?_)|refine yC ?_)
  refine TL.append rfl rfl hown (s1.grow hg3) (bO p) (by unfold maxLen;omega) oM oM rfl ?_;intro v' w4 hown4 hgb _;repeat refine aF ?_
  refine aE (v',j+1) ⟨rfl,rfl,rfl,rfl,rfl,trivial⟩ ⟨by simp only;omega,?_,Grow.mk (aL hgb oM (λ k hk=>(aT hown hk).1) hg3.1)⟩ (by simp only;omega);simp only;rw [lU hp,dH,List.length_append];exact hown4
 obtain rfl:j=i:=by omega
 rw [htk,hL] at hown;repeat refine aF ?_
 refine TL.buildSlice rfl rfl rfl rfl rfl ?_;intro b' wa hga hba hsa hsb hsc;have hsl:Sl (λ _=>True) wa 1 (some ⟨b',0,none⟩) 1 1 (bB [128]):=(aV (sz:=1) (m:=1) hba hsc dM).mono (λ _ _=>trivial);have hga':=hga.size;refine TL.append rfl rfl (aS hown hga) hsl (bO [128]) (by unfold maxLen;omega) oM oM rfl ?_;intro v' wb hownb hgb _;have hgn:Grow w wb:=Grow.mk (aL hgb oM (λ k hk=>(aT (aS hown hga) hk).1) (hg3.trans hga).1);repeat refine aF ?_
 clear hown hg3 hsz hs3 hgb hga hga' hsl hba hsa hsb hsc;refine aX (S:=Value×Nat) (λ s=>[(6,s.1),(3,.int .i64 (L:Int))]) (λ s w3=>s.2≤jZ L∧w3.ownsRow w.heap.size 5 1 s.1 (L+1+s.2) (bB (bss.flatten++[128]++zs s.2))∧Grow w w3) (λ s=>jZ L-s.2) (v',0) ⟨rfl,rfl,trivial⟩ ⟨by simp only;omega,by simp only [zs,List.replicate_zero,List.append_nil];rw [dH];exact hownb,hgn⟩ ?_;clear hownb hgn;rintro ⟨v,z⟩ w3 ⟨hz,hown,hg3⟩;simp only at hz hown;have hsz:=hg3.size;have hpz:jZ L=(239-L%128)%128:=rfl;have hpz2:jZ L<128:=by unfold jZ;omega
 obtain ⟨va,vc,rfl,hsv⟩:=aM hown;by_cases hlt:z<jZ L
 ·have hne:(L+1+z)%128≠112:=by omega
  repeat refine aF ?_
  refine TL.buildSlice rfl rfl rfl rfl rfl ?_;intro b' wa hga hba hsa hsb hsc;have hsl:Sl (λ _=>True) wa 1 (some ⟨b',0,none⟩) 1 1 (bB [0]):=(aV (sz:=1) (m:=1) hba hsc dM).mono (λ _ _=>trivial);have hga':=hga.size;refine TL.append rfl rfl (aS hown hga) hsl (bO [0]) (by unfold maxLen;omega) oM oM rfl ?_;intro v' wb hownb hgb _;have hgn:Grow w wb:=Grow.mk (aL hgb oM (λ k hk=>(aT (aS hown hga) hk).1) (hg3.trans hga).1);repeat refine aF ?_
  refine aE (v',z+1) ⟨rfl,rfl,trivial⟩ ⟨by simp only;omega,?_,hgn⟩ (by simp only;omega);simp only;rw [show zs (z+1)=zs z++[0] by simp [zs,List.replicate_succ'],← List.append_assoc,dH];exact hownb
 obtain rfl:z=jZ L:=by omega
 have hne:(L+1+jZ L)%128=112:=by omega
 obtain ⟨pre,hpre⟩:∃ pre,pre=bss.flatten++[128]++zs (jZ L):=⟨_,rfl⟩
 rw [← hpre] at hown;obtain ⟨N,hN⟩:∃ N,N=L+1+jZ L:=⟨_,rfl⟩
 rw [← hN] at hown hsv hne;rw [← hN];have hN1:N≤200000:=by omega
 repeat (first|(refine dL ?_;refine iC (a:=L) rfl (M:=18446744073709551616) rfl rfl ?_;rw [show L%18446744073709551616=L by omega])|refine yC ?_|(refine aB 267 ?_;refine aA rfl (mul8_c L hn _) rfl ?_;rintro _ _ ⟨rfl,hgc⟩))
 have hsz4:=hg3.size;refine aX (S:=Value×Nat) (λ s=>[(60,.int .i64 (s.2:Int)),(59,.agg #[.int .u64 0,.int .u64 ((8*L:Nat):Int)]),(6,s.1)]) (λ s w4=>s.2≤2∧w4.ownsRow w.heap.size 5 1 s.1 (N+8*s.2) (bB (pre++(be8 0++be8 (8*L)).take (8*s.2)))∧Grow w w4) (λ s=>2-s.2) (.slice va N vc,0) ⟨rfl,rfl,rfl,trivial⟩ ⟨by simp only;omega,by simpa using aS hown yG,yG⟩ ?_;clear hown hsv hg3 hsz4 hsz;rintro ⟨v,k⟩ w4 ⟨hk,hown,hg3⟩;simp only at hk hown;by_cases hlt:k<2
 ·obtain ⟨x,hx,hxv,htk⟩:∃ x:Nat,x<18446744073709551616∧[Value.int .u64 0,.int .u64 ((8*L:Nat):Int)][k]? = some (.int .u64 (x:Int))∧(be8 0++be8 (8*L)).take (8*(k+1))=(be8 0++be8 (8*L)).take (8*k)++be8 x:=by
   obtain rfl|rfl:k=0∨k=1:=by omega
   ·exact ⟨0,oM,rfl,rfl⟩
   ·exact ⟨8*L,oM,rfl,rfl⟩
  repeat (first|(refine TL.isIndexV ?_;refine TL.indexV rfl rfl oM rfl hxv rfl ?_)|refine yC ?_)
  refine aX (S:=Value×Nat) (λ s=>[(13,.int .i64 (56-8*(s.2:Int))),(12,.int .u64 (x:Int)),(60,.int .i64 (k:Int)),(59,.agg #[.int .u64 0,.int .u64 ((8*L:Nat):Int)]),(6,s.1)]) (λ s w5=>s.2≤8∧w5.ownsRow w.heap.size 5 1 s.1 (N+8*k+s.2) (bB (pre++(be8 0++be8 (8*L)).take (8*k)++(be8 x).take s.2))∧Grow w w5) (λ s=>8-s.2) (v,0) ⟨rfl,rfl,rfl,rfl,rfl,trivial⟩ ⟨by simp only;omega,by simpa using hown,hg3⟩ ?_;clear hown hg3;rintro ⟨v,i⟩ w5 ⟨hi,hown,hg3⟩;simp only at hi hown;have hsz:=hg3.size;by_cases hlt2:i<8
  ·have hsh:(56-8*(i:Int))=((56-8*i:Nat):Int):=by omega
   rw [hsh];repeat (first|(refine eU ?_;refine TL.shrS rfl rfl (by show 56-8*i≤64;omega) rfl ?_)|(refine dL ?_;refine iC rfl (M:=256) rfl rfl ?_)|refine yC ?_)
   refine TL.buildSlice rfl rfl rfl rfl rfl ?_;intro b' wa hga hba hsa hsb hsc;have hsl:Sl (λ _=>True) wa 1 (some ⟨b',0,none⟩) 1 1 (bB [x / 2^(56-8*i)%256]):=(aV (sz:=1) (m:=1) hba hsc dM).mono (λ _ _=>trivial);have hga':=hga.size;refine TL.append rfl rfl (aS hown hga) hsl (bO [x / 2^(56-8*i)%256]) (by unfold maxLen;omega) oM oM rfl ?_;intro v' wb hownb hgb _;have hgn:Grow w wb:=Grow.mk (aL hgb oM (λ k hk=>(aT (aS hown hga) hk).1) (hg3.trans hga).1);repeat refine aF ?_
   refine aE (v',i+1) ⟨?_,rfl,rfl,rfl,rfl,trivial⟩ ⟨by simp only;omega,?_,hgn⟩ (by simp only;omega)
   ·show some (Value.int .i64 _)=some (Value.int .i64 _);congr 2
    simp only;omega
   ·simp only
    have hx8:(be8 x).take (i+1)=(be8 x).take i++[x / 2^(56-8*i)%256]:=by
     rw [List.take_add_one];have:(be8 x)[i]? = some (x / 2^(56-8*i)%256):=by simp [be8,hlt2]
     rw [this];rfl
    rw [hx8,← List.append_assoc,dH];exact hownb
  obtain rfl:i=8:=by omega
  repeat refine aF ?_
  refine aE (v,k+1) ⟨rfl,rfl,rfl,trivial⟩ ⟨by simp only;omega,?_,hg3⟩ (by simp only;omega);simp only;rw [htk,← List.append_assoc,show N+8*(k+1)=N+8*k+8 by omega];have:(be8 x).take 8=be8 x:=List.take_of_length_le (by rw [mB];omega);rw [this] at hown;exact hown
 obtain rfl:k=2:=by omega
 repeat refine aF ?_
 have hfin:pre++(be8 0++be8 (8*L)).take (8*2)=mI bss.flatten:=by
  rw [List.take_of_length_le (by rw [List.length_append,mB,mB];omega),hpre];unfold mI;rw [hL];simp only [List.append_assoc]
 rw [hfin] at hown;have hll:(mI bss.flatten).length=N+8*2:=by rw [kQ,hL];omega
 exact bA rfl ⟨_,rfl,by rw [hll];exact hown,hg3⟩
end Go.Proofs.YtfpadnmdafiddaaGreatDoor
namespace Go.V
open Go Go.RowKit
theorem iU (b:Nat) (w:World) (o:Obj):Upd b w (w.putObj b o):=⟨rfl,rfl,rfl,World.putObj_size,λ k hk=>World.putObj_heap_other hk⟩
def T2 [Rn] (P:Program) (n:Nat) (x y:Code) (e:dJ) (w:World) (Q:dI):Prop :=
 ∀ a,Fits n e a→x.wpIn (FR Rn.ro) 0 P (Exit.then (y.wpIn (FR Rn.ro) 0 P (iL n Q)) (iL n Q)) a w
def thenQ2 [Rn] (P:Program) (n:Nat) (x y:Code) (Q:dI):dI:=λ ex e w =>
 match ex with
 | .normal=>T2 P n x y e w Q
 | ex=>Q ex e w
def roundQ (l:Nat) (rc:LoopState→Option Code→Loop) (R:Value→World→Prop):dI:=λ ex _ w =>
 match ex with
 | .normal=>w.heap[l]? = some (.loop (rc .busy none))∧∀ w',Upd l w w'→w'.heap[l]? = some (.loop (rc .ready none))→R (.bool true) w'
 | .ret=>w.heap[l]? = some (.loop (rc .busy none))∧∀ w',Upd l w w'→w'.heap[l]? = some (.loop (rc .done (some .ret)))→R (.bool false) w'
 | .exit j=>w.heap[l]? = some (.loop (rc .busy none))∧∀ w',Upd l w w'→w'.heap[l]? = some (.loop (rc .done (some (.exit j))))→R (.bool false) w'
 | _=>False
structure LoopIn (n:Nat) (ps:List Tmp) (x y:Code) (e:dJ) (rc:LoopState→Option Code→Loop):Prop where
 is:∃ fn tm D,(tm.size=n∧∀ t v,find e t=some v→tm.getD t undef=v)∧rc=λ st pd=>{ state:=st,pending:=pd,fn:=fn,tmps:=tm,params:=ps.toArray,assign:=x,body:=y,defers:=D }
def Yld (P:Program) (l:Nat) (vs:List Value) (w:World) (R:Value→World→Prop):Prop :=
 ∃ f tmps x y,(Instr.yield l vs.toArray).run P w=.ok (.round l f tmps x y) w∧RoundIn Fence.wide 0 P l f tmps x y w (Ret R)
theorem Yld.mono {P:Program} {l:Nat} {vs:List Value} {w:World} {R R':Value→World→Prop} (h:Yld P l vs w R) (hr:∀ v w,R v w→R' v w):Yld P l vs w R':=by
 obtain ⟨f,tmps,x,y,h1,h2⟩:=h;exact ⟨f,tmps,x,y,h1,RoundIn.mono h2 λ e w ⟨v,h3,h4⟩=>⟨v,h3,hr _ _ h4⟩⟩
def psEnv:List Tmp→List Value→dJ→dJ
 | p::ps,v::vs,e=>psEnv ps vs ((p,v)::e)
 | _,_,e=>e
abbrev inR (l:Nat):Rn:=⟨some l,[],0⟩
theorem fits_ps [Rn] {n:Nat} (hds:Rn.ds=[]):∀ (ps:List Tmp) (vs:List Value) (e:dJ) (tm:Array Value),(∀ p∈ps,p<n)→Fits n e { tmps:=tm,defers:=[] }→Fits n (psEnv ps vs e) { tmps:=(ps.zip vs).foldl (λ t (p,v)=>t.setIfInBounds p v) tm,defers:=[] }
 | [],_,e,tm,_,h=>by simpa [psEnv] using h
 | p::ps,[],e,tm,_,h=>by simpa [psEnv] using h
 | p::ps,v::vs,e,tm,hp,h=>by
  have h1:=h.put (d:=p) (Nat.ble_eq_true_of_le (hp p sM)) v;exact fits_ps hds ps vs _ _ (λ q hq=>hp q (by simp [hq])) h1
theorem yld_of {P:Program} {n l:Nat} {ps:List Tmp} {x y:Code} {e:dJ} {w:World} {rc:LoopState→Option Code→Loop} {vs:List Value} {R:Value→World→Prop} (hl:LoopIn n ps x y e rc) (h:w.heap[l]? = some (.loop (rc .ready none)))
  (hlen:vs.length=ps.length) (hb:ps.all (λ p=>Nat.blt p n)=true)
  (ha':∀ I:Rn,T P n x (psEnv ps vs e) w (λ ex e1 w1=>match ex with
   | .normal=>w1.heap[l]? = some (.loop (rc .ready none))∧∀ w2,Upd l w1 w2→w2.heap[l]? = some (.loop (rc .busy none))→T P n y e1 w2 (roundQ l rc R)
   | _=>False)):Yld P l vs w R:=by
 letI:=inR l
 have ha:=ha' (inR l);obtain ⟨fn,tm,D,⟨ht,hg⟩,hrc⟩:=hl.is;have hy:=run_yield (P:=P) (args:=vs.toArray) h (by subst hrc;simp [hlen]);refine ⟨_,_,_,_,hy,?_⟩;have hb':∀ p∈ps,p<n:=λ p hp=>Nat.le_of_ble_eq_true (List.all_eq_true.1 hb p hp)
 have hfit:Fits n (psEnv ps vs e) { tmps:=((rc .ready none).params.zip vs.toArray).foldl (λ t (p,v)=>t.setIfInBounds p v) (rc .ready none).tmps,defers:=[] }:=by
  have hT:((rc .ready none).params.zip vs.toArray).foldl (λ t (p,v)=>t.setIfInBounds p v) (rc .ready none).tmps=(ps.zip vs).foldl (λ t (p,v)=>t.setIfInBounds p v) tm:=by
   subst hrc;rw [← Array.foldl_toList];simp
  rw [hT];exact fits_ps rfl ps vs e tm hb' ⟨rfl,ht,hg⟩
 have hx0:(rc .ready none).assign=x:=by subst hrc;rfl
 have hy0:(rc .ready none).body=y:=by subst hrc;rfl
 have hbusy : { (rc .ready none) with state:=LoopState.busy }=rc .busy none:=by subst hrc;rfl
 have hend:∀ j:Option Code,{ (rc .busy none) with state:=if j.isNone then LoopState.ready else LoopState.done,pending:=j }=rc (if j.isNone then .ready else .done) j:=by subst hrc;exact λ _=>rfl
 refine roundIn_of_wpIn (F:=Fence.wide) trivial ?_;rw [hx0,hy0];refine wpIn_mono (T.out ha hfit) ?_;intro ex a1 w1 hx
 cases ex with
 | normal =>
  obtain ⟨e1,he1,h1,h2⟩:=hx;have hlt:=(Array.getElem?_eq_some_iff.1 h1).1;refine ⟨_,run_beginRound h1 (by subst hrc;rfl),?_⟩;rw [hbusy];refine wpIn_mono (T.out (h2 _ (iU l w1 _) (World.putObj_heap_same hlt)) he1) ?_;intro ex a2 w3 hx
  have fin:∀ jump:Option Code,w3.heap[l]? = some (.loop (rc .busy none))→(∀ w',Upd l w3 w'→w'.heap[l]? = some (.loop (rc (if jump.isNone then .ready else .done) jump))→R (.bool jump.isNone) w') →
    ∃ v w',(Instr.endRound l jump).run P w3=.ok v w'∧Ret R (.returned v) w':=λ jump h3 h4=>by
   refine ⟨_,_,run_endRound jump h3,_,rfl,h4 _ (iU l w3 _) ?_⟩;rw [hend];exact World.putObj_heap_same (Array.getElem?_eq_some_iff.1 h3).1
  cases ex with
  | normal=>obtain ⟨e2,he2,h3,h4⟩:=hx;exact fin none h3 h4
  | ret =>
   obtain ⟨e2,ms,he2,hq⟩:=hx;have hms:ms=[]:=he2.rnd.resolve_left (by simp [Rn.ro]);subst hms;obtain ⟨h3,h4⟩:=hq;exact fin (some .ret) h3 h4
  | exit j=>obtain ⟨e2,he2,h3,h4⟩:=hx;exact fin (some (.exit j)) h3 h4
  | goto t=>obtain ⟨e2,he2,hq⟩:=hx;exact hq.elim
  | panic c=>obtain ⟨e2,he2,hq⟩:=hx;exact hq.elim
  | outgrown=>obtain ⟨e2,he2,hq⟩:=hx;exact hq.elim
 | ret=>obtain ⟨e2,ms,he2,hq⟩:=hx;exact hq.elim
 | exit j=>obtain ⟨e2,he2,hq⟩:=hx;exact hq.elim
 | goto t=>obtain ⟨e2,he2,hq⟩:=hx;exact hq.elim
 | panic c=>obtain ⟨e2,he2,hq⟩:=hx;exact hq.elim
 | outgrown=>obtain ⟨e2,he2,hq⟩:=hx;exact hq.elim
theorem TL.makeFunc [Rn] {P:Program} {n:Nat} {e:dJ} {w:World} {Q:dI} {ops:Array Oper} {rest:List Oper} {d:Nat} {ty:TypeId} {pos:String} {aft:Array Edge} {f:Fn} {xs cs:List Operand} {us vs:List Value} (hxs:argsV (val e) xs=some us) (hcs:argsV (val e) cs=some vs) (hd:Nat.blt d n=true)
  (k:TL P n ops rest ((d,.func f us.toArray vs.toArray)::e) w Q):TL P n ops (⟨some d,.makeFunc f xs.toArray cs.toArray,ty,pos,aft,none⟩::rest) e w Q :=
 TL.run (λ r hr=>by
  have h1:=argsV_eval hr xs us hxs;have h2:=argsV_eval hr cs vs hcs;simp [execOp,Instr.makeFunc] at h1 h2 ⊢
  rw [h1,h2];exact ⟨rfl,rfl⟩) hd k
theorem nA [Rn] {P:Program} {n:Nat} {e:dJ} {w:World} {Q:dI} {ops:Array Oper} {rest:List Oper} {ty:TypeId} {pos:String} {aft:Array Edge} {f:Fn} {xs cs:Array Operand} {d:Option Nat} (h:TL P n ops (⟨d,.makeFunc f xs cs,ty,pos,aft,none⟩::rest) e w Q):TL P n ops (⟨d,.makeFunc f xs cs,ty,pos,aft,none⟩::rest) e w Q:=h
theorem TL.yield [Rn] {P:Program} {n:Nat} {e:dJ} {w:World} {Q:dI} {ops:Array Oper} {rest:List Oper} {d:Nat} {ty:TypeId} {pos:String} {aft:Array Edge} {l:Nat} {x:Operand} {xs:List Operand} {tys:Array TypeId} {vs:List Value} {R:Value→World→Prop} (hx:val e x=some (.func (.yield l) #[] #[])) (hxs:argsV (val e) xs=some vs)
  (hy:Yld P l vs w R) (hd:Nat.blt d n=true) (k:∀ v w',R v w'→TL P n ops rest ((d,v)::e) w' Q) :
  TL P n ops (⟨some d,.call ⟨.value x,xs.toArray,tys⟩,ty,pos,aft,none⟩::rest) e w Q:=TL.mk λ a ha =>
 wpListIn_plain rfl λ K hK=>by
  obtain ⟨f,tmps,y,z,h1,h2⟩:=hy
  have hr:(execOp a.eval ⟨some d,.call ⟨.value x,xs.toArray,tys⟩,ty,pos,aft,none⟩).run P w=.ok (.round l f tmps y z) w:=by
   have:=argsV_eval ha xs vs hxs;simp [execOp,resolve,ha.eval hx,Deferred.ofValue,invoke,h1] at this ⊢;rw [this];exact h1
  refine Oper.wpFR _ (.inr (.inr (.inr ⟨_,_,_,_,_,_,hr,RoundIn.mono h2 ?_⟩)));rintro x w' ⟨v,rfl,hv⟩;exact ⟨v,rfl,hK _ _ ((k v w' hv).out (ha.put hd v))⟩
section
variable [Rn]
variable {P:Program} {n:Nat} {e:dJ} {w:World} {Q:dI}
theorem T.seq2 {x y z:Code} (h:T P n x e w (thenQ2 P n y z Q)):T P n (.seq (.seq x y) z) e w Q:=T.mk λ a ha =>
 wpIn_seq (wpIn_seq (wpIn_mono (T.out h ha) λ ex a w hx=>by
  cases ex<;>first|exact hx|(obtain ⟨e,he,hq⟩:=hx;exact hq a he)))
theorem mY {x y:Code} (h:T2 P n x y e w Q):thenQ2 P n x y Q .normal e w:=h
theorem T.seqR {i:Nat} {x z p q:Code} {g:Operand} {ps:Array Tmp} (h:T P n x e w (thenQ2 P n (.block i (.rangeFunc g ps p q)) z Q)):T P n (.seq (.seq x (.block i (.rangeFunc g ps p q))) z) e w Q:=T.seq2 h
def markQ (D:Nat) (Q:dI):dI:=λ x e w =>
 match x with
 | .ret=>w.heap[D]? = some (.deferred (some []))∧∀ w',Upd D w w'→Q .ret e w'
 | _=>False
abbrev behind (D:Nat):Rn:=⟨none,mkD D::Rn.ds,D+1⟩
theorem lift_mark {D:Nat} {x:Exit} {a:Act} {w:World} (hro:Rn.ro=none) (hlo:Rn.lo≤D) (h:@iL (behind D) n (markQ D Q) x a w):iL n Q x a w:=by
 cases x with
 | ret =>
  obtain ⟨e,ms,⟨k1,k2,k3,k4,k5,k6⟩,h1,h2⟩:=h;have k5:∀ r∈ms,D+1≤r∧w.heap[r]? = some (.deferred (some [])):=k5;have k1:a.defers=ms.map mkD++mkD D::Rn.ds:=k1;have hD:D∉ms:=λ hm=>by have:=(k5 D hm).1;omega
  refine ⟨e,ms++[D],⟨by rw [k1];simp,k2,k3,?_,λ r hr=>?_,.inl hro⟩,?_⟩
  ·rw [List.nodup_append];exact ⟨k4,sM,λ x hx y hy=>by simp only [List.mem_singleton] at hy;subst hy;exact λ e=>hD (by rw [← e];exact hx)⟩
  ·rcases List.mem_append.1 hr with h3|h3
   ·have:=k5 r h3;exact ⟨oM,this.2⟩
   ·simp only [List.mem_singleton] at h3;subst h3;exact ⟨hlo,by rw [shut_other hD] at h1;exact h1⟩
  ·rw [shut_append];exact h2 _ (iU D _ _)
 | normal=>obtain ⟨e,he,hq⟩:=h;exact hq.elim
 | exit j=>obtain ⟨e,he,hq⟩:=h;exact hq.elim
 | goto j=>obtain ⟨e,he,hq⟩:=h;exact hq.elim
 | panic c=>obtain ⟨e,he,hq⟩:=h;exact hq.elim
 | outgrown=>obtain ⟨e,he,hq⟩:=h;exact hq.elim
structure RangeOut (P:Program) (n:Nat) (i:Nat) (B:Code) (Q:dI) (e:dJ) (D:Nat) (rc:LoopState→Option Code→Loop) (w:World):Prop where
 mark:w.heap[D]? = some (.deferred (some []))
 cases':(w.heap[D+1]? = some (.loop (rc .ready none))∧∀ (I:Rn) (w4:World),Upd (D+1) w w4→@T I P n B e w4 (markQ D Q)) ∨
  (w.heap[D+1]? = some (.loop (rc .done (some .ret)))∧∀ w4 w5,Upd (D+1) w w4→Upd D w4 w5→Q .ret e w5) ∨
  (w.heap[D+1]? = some (.loop (rc .done (some (.exit i))))∧∀ (I:Rn) (w4:World),Upd (D+1) w w4→@T I P n B e w4 (markQ D Q))
theorem T2.range {i:Nat} {g:Operand} {ps:List Tmp} {x y B:Code} {gf:FuncId} {lb:List Value} [hf:FnOk P gf] (hro:Rn.ro=none) (hlo:Rn.lo≤w.heap.size) (hg:val e g=some (.func (.func gf) #[] lb.toArray))
  (h:∀ rc w1,LoopIn n ps x y e rc→w1.heap.size=w.heap.size+2→Grow w w1→w1.heap[w.heap.size+1]? = some (.loop (rc .ready none))→w1.heap[w.heap.size]? = some (.deferred (some [])) →
   Calls P gf (.func (.yield (w.heap.size+1)) #[] #[]::lb).toArray w1 (Ret λ _ w2=>RangeOut P n i B Q e w.heap.size rc w2)) :
  T2 P n (.block i (.rangeFunc g ps.toArray x y)) B e w Q:=λ a ha=>by
 have hF:FR Rn.ro=FR none:=by rw [hro]
 refine wpIn_block (wpIn_rangeFunc λ fn _=>?_);obtain ⟨rc,hrc⟩:∃ rc:LoopState→Option Code→Loop,rc=λ st pd=>{ state:=st,pending:=pd,fn:=fn,tmps:=a.tmps,params:=ps.toArray,assign:=x,body:=y,defers:=w.heap.size }:=⟨_,rfl⟩
 have hent:(Instr.enterLoop fn a.tmps ps.toArray x y (FR Rn.ro).round).run P w=.ok (w.heap.size+1,[mkD w.heap.size]) ((w.alloc (.deferred (some []))).alloc (.loop (rc .ready none))):=by
  rw [hF,hrc];exact run_enterLoop_outer _ _ _ _ _
 generalize hW:(w.alloc (.deferred (some []))).alloc (.loop (rc .ready none))=W1 at hent
 have hl1:W1.heap[w.heap.size+1]? = some (.loop (rc .ready none)):=by
  rw [← hW];have:=World.alloc_heap_new (w.alloc (.deferred (some []))) (.loop (rc .ready none));rwa [World.size_alloc] at this
 have hk1:W1.heap[w.heap.size]? = some (.deferred (some [])):=by
  rw [← hW];exact (Below.heap_alloc _ _ _ sM).trans (World.alloc_heap_new w _)
 have hgr:Grow w W1:=by rw [← hW];exact Grow.mk (((Below.refl _ w).alloc (Nat.le_refl _) _).alloc sM _)
 have hc:=h rc W1 ⟨fn,a.tmps,w.heap.size,⟨ha.size,ha.get⟩,hrc⟩ (by rw [← hW];simp) hgr hl1 hk1;have hend:∀ st pd,{ (rc st pd) with state:=LoopState.exhausted }=rc .exhausted pd:=by subst hrc;exact λ _ _=>rfl
 have hst:∀ st pd,(rc st pd).state=st:=by subst hrc;exact λ _ _=>rfl
 have hpd:∀ st pd,(rc st pd).pending=pd:=by subst hrc;exact λ _ _=>rfl
 refine ⟨w.heap.size+1,[mkD w.heap.size],_,⟨.fn (.func gf) lb.toArray,#[.func (.yield (w.heap.size+1)) #[] #[]]⟩,W1,gf,(.func (.yield (w.heap.size+1)) #[] #[]::lb).toArray,W1,hent,?_,λ _ _=>trivial,?_,(λ h=>by cases h),?_⟩
 ·simp [rangeCall,resolve,ha.eval hg,Deferred.ofValue,Sem.run_bind,Result.andThen];rfl
 ·show (callFunc gf (#[Value.func (.yield (w.heap.size+1)) #[] #[]]++lb.toArray)).run P _=_;have:=run_callFunc (P:=P) (f:=gf) (.func (.yield (w.heap.size+1)) #[] #[]::lb).toArray W1;simpa using this
 ·refine CallsIn.mono (calls_fr hc) λ en w2 hen=>?_;obtain ⟨v,rfl,hD,hcase⟩:=hen
  have hfit:@Fits (behind w.heap.size) n e { a with defers:=mkD w.heap.size::a.defers } :=
   @Fits.mk (behind w.heap.size) n e _ (show mkD w.heap.size::a.defers=mkD w.heap.size::Rn.ds by rw [ha.defers]) ha.size ha.get
  have hB:∀ w4,@T (behind w.heap.size) P n B e w4 (markQ w.heap.size Q)→B.wpIn (FR Rn.ro) 0 P (iL n Q) { a with defers:=mkD w.heap.size::a.defers } w4:=λ w4 hT=>by
   rw [hF];exact wpIn_mono (@T.out (behind w.heap.size) _ _ _ _ _ _ hT _ hfit) λ ex a w hx=>lift_mark hro hlo hx
  rcases hcase with ⟨h1,h2⟩|⟨h1,h2⟩|⟨h1,h2⟩
  ·exact ⟨none,_,by have:=run_endLoop (P:=P) h1 (by rw [hst];simp);rw [hpd] at this;exact this,hB _ (h2 _ _ (iU _ _ _))⟩
  ·refine ⟨some .ret,_,by have:=run_endLoop (P:=P) h1 (by rw [hst];simp);rw [hpd] at this;exact this,wpIn_ret ?_⟩;refine ⟨e,[w.heap.size],⟨by rw [← ha.defers];rfl,ha.size,ha.get,sM,λ r hr=>?_,.inl hro⟩,h2 _ _ (iU _ _ _) (iU _ _ _)⟩;simp only [List.mem_singleton] at hr;subst hr;exact ⟨hlo,by rw [World.putObj_heap_other oM];exact hD⟩
  ·refine ⟨some (.exit i),_,by have:=run_endLoop (P:=P) h1 (by rw [hst];simp);rw [hpd] at this;exact this,wpIn_exit ?_⟩;simp only [Exit.inBlock,if_true];exact hB _ (h2 _ _ (iU _ _ _))
end
end Go.V
namespace Go.Proofs.YtfpadnmdafiddaaGreatDoor
open Go Go.RowKit Go.V
theorem chunk_c (a:Option Addr) (n c:Nat) (w:World) :
  Calls Tryz.prog 249 #[.slice a n c,.int .i64 128] w (Ret λ v w'=>∃ b1 b2,v=.func (.func 266) #[] #[.pointer (some ⟨b1,0,none⟩),.pointer (some ⟨b2,0,none⟩)] ∧
   w.heap.size≤b1∧w.heap.size≤b2∧Blk w' b1 30 [.slice a n c]∧Blk w' b2 3 [.int .i64 128]∧Grow w w'):=by
 refine V.calls (args:=[_,_]) Tryz.func249 rfl Tryz.ntmps249 rfl rfl ?_;repeat (first|(refine nA ?_;refine TL.makeFunc (xs:=[]) (cs:=[_,_]) rfl rfl rfl ?_)|refine yA ?_|refine yI λ bk w' hg hbk hsz hsz'=>?_)
 exact bA rfl ⟨_,rfl,_,_,rfl,oM,oM,yB,yB,yG⟩
theorem chunks_c (G:Nat→Prop) (l b1 b2 m:Nat) (a:Option Addr) (c:Nat) (bs:Bs) (J:Nat→World→Prop) (hl:bs.length=128*m) (hm:m≤1000000)
  (hpre:∀ k w,J k w→Blk w b1 30 [.slice a (128*m) c]∧Blk w b2 3 [.int .i64 128]∧Sl G w 1 a (128*m) c (bB bs))
  (hgr:∀ k w w',J k w→Grow w w'→J k w')
  (hround:∀ k w a',k<m→J k w→Sl G w 1 a' 128 128 (bB ((bs.drop (128*k)).take 128))→Yld Tryz.prog l [.slice a' 128 128] w (λ v w'=>v=.bool true∧J (k+1) w'))
  (w:World) (h0:J 0 w) :
  Calls Tryz.prog 266 #[.func (.yield l) #[] #[],.pointer (some ⟨b1,0,none⟩),.pointer (some ⟨b2,0,none⟩)] w (Ret λ _ w'=>J m w'):=by
 refine V.calls (args:=[_,_,_]) Tryz.func266 rfl Tryz.ntmps266 rfl rfl ?_;repeat refine aF ?_
 refine aX (S:=Nat) (λ k=>[(4,.int .i64 ((128*k:Nat):Int)),(2,.pointer (some ⟨b2,0,none⟩)),(1,.pointer (some ⟨b1,0,none⟩)),(0,.func (.yield l) #[] #[])]) (λ k w1=>k≤m∧J k w1) (λ k=>m-k) 0 ⟨rfl,rfl,rfl,rfl,trivial⟩ ⟨oM,h0⟩ ?_;clear h0;rintro k w1 ⟨hk,hj⟩;obtain ⟨hb1,hb2,hs⟩:=hpre k w1 hj;by_cases hlt:128*k<128*m;rotate_left
 ·obtain rfl:k=m:=by omega
  repeat refine aF ?_
  exact cE (vs:=[]) rfl rfl ⟨_,rfl,hj⟩
 have hcap:=hs.cap;repeat refine aF ?_
 apply T.any 6 [is (.int .i64 ((128:Nat):Int)),is (.slice a (128*m) c),is (.int .i64 ((128*k:Nat):Int)),slF G 1 (128*m-128*k) (c-128*k) ((bB bs).drop (128*k)),is (.int .i64 ((128*m-128*k:Nat):Int)),is (.int .i64 ((128:Nat):Int))]
 ·rfl
 ·repeat' (first|exact aN|refine aK ?_ ?_)
  iterate 3
   ·refine yQ λ wq _ _ hgq=>?_;repeat refine aF ?_
    exact aD rfl yG rfl
  ·refine yQ λ wq _ _ hgq=>?_;refine TL.slice (l:=128*k) (h:=128*m) (mm:=c) rfl (hs.grow hgq) (bI rfl rfl) (aP _) (aP c) (λ _=>rfl) oM oM oM (Nat.le_refl _) rfl ?_;intro a' hsl _;repeat refine aF ?_
   refine aD rfl yG ⟨a',rfl,?_⟩;rw [Nat.mul_one,Nat.mul_one,List.take_of_length_le (by rw [List.length_drop,bE,hl];omega)] at hsl;exact hsl
  ·(((refine bX rfl rfl rfl ?_);( intro wq _ _ hgq;(repeat (refine aJ rfl rfl ?_;intro vq hvq;try (obtain rfl:=hvq)));(refine aZ ?_))))
   obtain ⟨a',rfl,hsl⟩:=hvq;repeat refine aF ?_
   exact aD rfl yG rfl
  ·refine yQ λ wq _ _ hgq=>?_;refine TL.minV (r:=((128:Nat):Int)) rfl rfl (by split<;>omega) rfl ?_;repeat refine aF ?_
   exact aD rfl yG rfl
 ·intro w6 lo6 hi6 hg6 _ _;((((repeat (refine aJ rfl rfl ?_;intro vq hvq;try (obtain rfl:=hvq)));(refine aZ ?_))))
  repeat refine aF ?_
  have hj6:=hgr k _ _ hj hg6;obtain ⟨hb16,hb26,hs6⟩:=hpre k _ hj6;repeat refine aF ?_
  refine TL.slice (l:=128*k) (h:=128*k+128) (mm:=128*k+128) rfl hs6 (bI rfl rfl) (bI rfl rfl) (bI rfl rfl) (by intro h;cases h) oM oM oM oM rfl ?_;intro a' hsl _;rw [show 128*k+128-128*k=128 by omega,Nat.mul_one,Nat.mul_one] at hsl;rw [show 128*k+128-128*k=128 by omega];repeat refine aF ?_
  refine TL.yield rfl rfl (hround k _ a' oM hj6 (by simpa [bB,List.map_take,List.map_drop] using hsl)) rfl ?_;rintro _ w7 ⟨rfl,hj7⟩;obtain ⟨hb17,hb27,hs7⟩:=hpre (k+1) _ hj7;repeat refine aF ?_
  exact aE (k+1) ⟨rfl,rfl,rfl,rfl,trivial⟩ ⟨oM,hj7⟩ oM
end Go.Proofs.YtfpadnmdafiddaaGreatDoor
namespace Go.V
open Go Go.RowKit
abbrev wB (x:BitVec 64):Value:=.int .u64 (x.toNat:Int)
theorem ofB (x:BitVec 64):BitVec.ofInt 64 (x.toNat:Int)=x:=by simp
theorem wrapB (x:BitVec 64):IntKind.u64.wrap (x.toNat:Int)=(x.toNat:Int):=eV (M:=18446744073709551616) rfl x.isLt
theorem wrapM (a:Nat):IntKind.u64.wrap (a:Int)=((a%18446744073709551616:Nat):Int):=by
 simp [IntKind.wrap,IntKind.signed,IntKind.bits]
section
variable {P:Program} {n:Nat} {e:dJ} {w:World} {Q:dI} {ops:Array Oper} {rest:List Oper} {d:Nat} {ty:TypeId} {pos:String} {aft:Array Edge} {a b:BitVec 64} {x y:Operand} {t1 t2:TypeId}
theorem jX (hx:val e x=some (wB a)) (hy:val e y=some (wB b)) (hd:Nat.blt d n=true) (k:TL P n ops rest ((d,wB (a+b))::e) w Q) :
  TL P n ops (⟨some d,.binOp .add t1 x y t2,ty,pos,aft,none⟩::rest) e w Q :=
 TL.run (λ r hr=>by
  have h:IntKind.u64.wrap ((a.toNat:Int)+(b.toNat:Int))=((a+b).toNat:Int):=by rw [← Int.natCast_add,wrapM,BitVec.toNat_add]
  simp [execOp,binOp,bG,Op.intArith,hr.eval hx,hr.eval hy,h]) hd k
theorem jV (hx:val e x=some (wB a)) (hy:val e y=some (wB b)) (hd:Nat.blt d n=true) (k:TL P n ops rest ((d,wB (a ^^^ b))::e) w Q) :
  TL P n ops (⟨some d,.binOp .xor t1 x y t2,ty,pos,aft,none⟩::rest) e w Q :=
 TL.pure (v:=wB (a ^^^ b)) (by simp only [pureOp,hx,hy,kindEq,cond_true,intOp];show some (Value.int .u64 (IntKind.u64.wrap ((BitVec.ofInt 64 (a.toNat:Int) ^^^ BitVec.ofInt 64 (b.toNat:Int)).toNat:Int)))=_;rw [ofB,ofB,wrapB]) hd k
theorem TL.andB6 (hx:val e x=some (wB a)) (hy:val e y=some (wB b)) (hd:Nat.blt d n=true) (k:TL P n ops rest ((d,wB (a&&&b))::e) w Q) :
  TL P n ops (⟨some d,.binOp .and t1 x y t2,ty,pos,aft,none⟩::rest) e w Q :=
 TL.pure (v:=wB (a&&&b)) (by simp only [pureOp,hx,hy,kindEq,cond_true,intOp];show some (Value.int .u64 (IntKind.u64.wrap ((BitVec.ofInt 64 (a.toNat:Int)&&&BitVec.ofInt 64 (b.toNat:Int)).toNat:Int)))=_;rw [ofB,ofB,wrapB]) hd k
theorem TL.orB6 (hx:val e x=some (wB a)) (hy:val e y=some (wB b)) (hd:Nat.blt d n=true) (k:TL P n ops rest ((d,wB (a|||b))::e) w Q) :
  TL P n ops (⟨some d,.binOp .or t1 x y t2,ty,pos,aft,none⟩::rest) e w Q :=
 TL.pure (v:=wB (a|||b)) (by simp only [pureOp,hx,hy,kindEq,cond_true,intOp];show some (Value.int .u64 (IntKind.u64.wrap ((BitVec.ofInt 64 (a.toNat:Int)|||BitVec.ofInt 64 (b.toNat:Int)).toNat:Int)))=_;rw [ofB,ofB,wrapB]) hd k
theorem TL.notB6 (hx:val e x=some (wB a)) (hd:Nat.blt d n=true) (k:TL P n ops rest ((d,wB (~~~a))::e) w Q) :
  TL P n ops (⟨some d,.unOp .xor t1 x,ty,pos,aft,none⟩::rest) e w Q :=
 TL.run (λ r hr=>by
  have h:Op.unary .xor (wB a)=(Pure.pure (wB (~~~a)):Sem Value):=by
   show (Pure.pure (Value.int .u64 (IntKind.u64.wrap ((BitVec.ofInt 64 _ ^^^ BitVec.ofInt 64 (a.toNat:Int)).toNat:Int))):Sem Value)=_;rw [ofB];have:BitVec.ofInt 64 (if IntKind.u64.signed=true then -1 else IntKind.u64.max)=BitVec.allOnes 64:=by decide
   rw [this,BitVec.allOnes_xor,wrapB]
  simp [execOp,hr.eval hx,h]) hd k
theorem TL.shlB6 {s:Nat} {zs:Int} {ky:IntKind} (hx:val e x=some (wB a)) (hy:val e y=some (.int ky zs)) [iy:Lit zs s] (hs:s≤64) (hd:Nat.blt d n=true) (k:TL P n ops rest ((d,wB (a<<<s))::e) w Q) :
  TL P n ops (⟨some d,.binOp .shl t1 x y t2,ty,pos,aft,none⟩::rest) e w Q :=
 TL.run (λ r hr=>by
  rw [iy.h] at hy;have h3:min s IntKind.u64.bits=s:=Nat.min_eq_left hs;have h4:¬ ((s:Int)<0):=by omega
  have h:IntKind.u64.wrap ((a.toNat:Int)*2^s)=((a<<<s).toNat:Int):=by
   rw [show (a.toNat:Int)*2^s=((a.toNat*2^s:Nat):Int) by simp,wrapM,BitVec.toNat_shiftLeft,Nat.shiftLeft_eq]
  simp only [execOp,binOp,bG,Op.shift,hr.eval hx,hr.eval hy]
  simp [h3,h4,h]) hd k
theorem TL.shrB6 {s:Nat} {zs:Int} {ky:IntKind} (hx:val e x=some (wB a)) (hy:val e y=some (.int ky zs)) [iy:Lit zs s] (hs:s≤64) (hd:Nat.blt d n=true) (k:TL P n ops rest ((d,wB (a>>>s))::e) w Q) :
  TL P n ops (⟨some d,.binOp .shr t1 x y t2,ty,pos,aft,none⟩::rest) e w Q :=
 TL.run (λ r hr=>by
  rw [iy.h] at hy;have h3:min s IntKind.u64.bits=s:=Nat.min_eq_left hs;have h4:¬ ((s:Int)<0):=by omega
  have h:(a.toNat:Int).fdiv (2^s)=((a>>>s).toNat:Int):=by
   rw [Int.fdiv_eq_ediv_of_nonneg _ (by exact_mod_cast Nat.zero_le (2^s)),BitVec.toNat_ushiftRight,Nat.shiftRight_eq_div_pow];simp
  simp only [execOp,binOp,bG,Op.shift,hr.eval hx,hr.eval hy]
  simp [h3,h4,h]) hd k
theorem TL.convZ6 {z z':Int} {s t:TypeId} {k1 k2 kd:IntKind} [hs:IntTy P s k1] [ht:IntTy P t k2] (hx:val e x=some (.int kd z)) (h:k2.wrap z=z') (hd:Nat.blt d n=true)
  (k:TL P n ops rest ((d,.int k2 z')::e) w Q):TL P n ops (⟨some d,.convert s t x,ty,pos,aft,none⟩::rest) e w Q :=
 TL.run (λ r hr=>by simp [execOp,hr.eval hx,jC hs ht,h]) hd k
theorem TL.convW8 {c:Nat} {zc:Int} {s t:TypeId} [hs:IntTy P s .u8] [ht:IntTy P t .u64] (hx:val e x=some (.int .u8 zc)) [ix:Lit zc c] (hc:c<256) (hd:Nat.blt d n=true) (k:TL P n ops rest ((d,wB (BitVec.ofNat 64 c))::e) w Q) :
  TL P n ops (⟨some d,.convert s t x,ty,pos,aft,none⟩::rest) e w Q :=
 TL.run (λ r hr=>by
  rw [ix.h] at hx;have h:IntKind.u64.wrap (c:Int)=((BitVec.ofNat 64 c).toNat:Int):=by rw [wrapM,BitVec.toNat_ofNat]
  simp [execOp,hr.eval hx,jC hs ht,h]) hd k
end
def rotl (x:BitVec 64) (s:Nat):BitVec 64:=(x<<<s)|||(x>>>(64-s))
attribute [irreducible] rotl
def kY (k:Int):Nat:=(BitVec.ofInt 64 (IntKind.u64.wrap k)&&&BitVec.ofInt 64 63).toNat
theorem rotA_le (k:Int):kY k≤64:=by
 unfold kY;rw [BitVec.toNat_and];exact Nat.le_trans Nat.and_le_right dM
end Go.V
namespace Go.Proofs.YtfpadnmdafiddaaGreatDoor
open Go Go.RowKit Go.V
theorem rotl_c (x:BitVec 64) (k:Int) (w:World) :
  Calls Tryz.prog 270 #[wB x,.int .i64 k] w (Ret λ v w'=>v=wB (rotl x (kY k))∧w'=w):=by
 have hk:IntKind.u64.wrap (BitVec.ofInt 64 (IntKind.u64.wrap k)&&&BitVec.ofInt 64 63).toNat=(kY k:Int):=wrapB _;have hs:=rotA_le k;generalize kY k=s at *;refine V.calls (args:=[_,_]) Tryz.func270 rfl Tryz.ntmps270 rfl rfl ?_;unfold rotl;repeat refine aF ?_
 refine TL.convZ6 rfl rfl rfl ?_;refine TL.pure (v:=.int .u64 (s:Int)) (congrArg (λ z=>some (Value.int .u64 z)) hk) rfl ?_;repeat (first|refine TL.shlB6 rfl rfl hs rfl ?_|(refine eU ?_;refine TL.shrB6 rfl rfl oM rfl ?_)|refine TL.orB6 rfl rfl rfl ?_|(refine iP ?_;refine TL.subU rfl rfl rfl oM oM rfl ?_)|refine yC ?_)
 exact bA rfl ⟨_,rfl,rfl,rfl⟩
def be (l:List Nat):BitVec 64:=l.foldl (λ x b=>(x<<<8)|||BitVec.ofNat 64 b) 0#64
def part (bs:List Nat) (i:Nat):List (BitVec 64):=(List.range 80).map λ j=>be (((bs.take i).drop (8*j)).take 8)
theorem jQ (bs:List Nat) (i:Nat):(part bs i).length=80:=by simp [part]
theorem part_at (bs:List Nat) (i:Nat) {j:Nat} (h:j<80):(part bs i).getD j 0#64=be (((bs.take i).drop (8*j)).take 8):=by
 rw [List.getD_eq_getElem?_getD,part,List.getElem?_map,List.getElem?_range h];rfl
theorem part_zero (bs:List Nat):part bs 0=List.replicate 80 0#64:=by
 apply List.ext_getElem?;intro j;by_cases h:j<80
 ·rw [part,List.getElem?_map,List.getElem?_range h,List.getElem?_replicate,if_pos h];simp [be]
 ·rw [List.getElem?_eq_none (by rw [jQ];omega),List.getElem?_eq_none (by simp;omega)]
theorem part_step {bs:List Nat} {i:Nat} (hi:i<128) (hl:bs.length=128):(part bs i).set (i / 8) (((part bs i).getD (i / 8) 0#64<<<8)|||BitVec.ofNat 64 (bs.getD i 0))=part bs (i+1):=by
 apply List.ext_getElem?;intro j;have htk:bs.take (i+1)=bs.take i++[bs.getD i 0]:=by rw [List.getD_eq_getElem?_getD,List.getElem?_eq_getElem oM];simp only [Option.getD_some];exact (List.take_append_getElem oM).symm
 by_cases h:j<80
 ·have e2:(part bs (i+1))[j]? = some (be (((bs.take (i+1)).drop (8*j)).take 8)):=by rw [part,List.getElem?_map,List.getElem?_range h];rfl
  have e1:(part bs i)[j]? = some (be (((bs.take i).drop (8*j)).take 8)):=by rw [part,List.getElem?_map,List.getElem?_range h];rfl
  have hlen:(bs.take i).length=i:=by rw [List.length_take];omega
  rw [e2];by_cases hj:i / 8=j
  ·subst hj;rw [List.getElem?_set_self (by rw [jQ];omega),part_at _ _ h,htk,List.drop_append_of_le_length oM];have h1:((bs.take i).drop (8*(i / 8))).length≤7:=by rw [List.length_drop,hlen];omega
   rw [List.take_of_length_le (l:=(bs.take i).drop (8*(i / 8))) oM,List.take_of_length_le (l:=(bs.take i).drop (8*(i / 8))++[bs.getD i 0]) (by rw [List.length_append];simp only [List.length_singleton];omega)];simp only [be,List.foldl_append,List.foldl_cons,List.foldl_nil]
  ·rw [List.getElem?_set_ne hj,e1,htk];rcases Nat.lt_or_gt_of_ne hj with hj|hj
   ·rw [List.drop_eq_nil_of_le (by rw [hlen];omega),List.drop_eq_nil_of_le (by rw [List.length_append,hlen];simp only [List.length_singleton];omega)]
   ·rw [List.drop_append_of_le_length oM,List.take_append_of_le_length (by rw [List.length_drop,hlen];omega)]
 ·rw [List.getElem?_eq_none (by rw [List.length_set,jQ];omega),List.getElem?_eq_none (by rw [jQ];omega)]
attribute [irreducible] part
def sg0 (x:BitVec 64):BitVec 64:=rotl x (kY (-1)) ^^^ rotl x (kY (-8)) ^^^ (x>>>7)
def sg1 (x:BitVec 64):BitVec 64:=rotl x (kY (-19)) ^^^ rotl x (kY (-61)) ^^^ (x>>>6)
def nextW (r:List (BitVec 64)) (t:Nat):BitVec 64:=r.getD (t-16) 0#64+sg0 (r.getD (t-15) 0#64)+r.getD (t-7) 0#64+sg1 (r.getD (t-2) 0#64)
def lY:Nat→List (BitVec 64)→List (BitVec 64)
 | 0,ws=>ws
 | n+1,ws=>(lY n ws).set (n+16) (nextW (lY n ws) (n+16))
theorem sched_len (n:Nat) (ws:List (BitVec 64)):(lY n ws).length=ws.length:=by induction n<;>simp [lY, *]
theorem kD {ws:List (BitVec 64)} {j:Nat} (h:j<ws.length):(ws.map wB)[j]? = some (wB (ws.getD j 0#64)):=by
 simp [List.getD_eq_getElem?_getD,h]
theorem map_set (ws:List (BitVec 64)) (j:Nat) (x:BitVec 64):(ws.map wB).set j (wB x)=(ws.set j x).map wB:=by rw [List.map_set]
def pbs (bs:List Nat):List Value:=bs.map λ (b:Nat)=>Value.int .u8 (b:Int)
theorem pbs_at {bs:List Nat} {j:Nat} (h:j<bs.length):(pbs bs)[j]? = some (.int .u8 ((bs.getD j 0:Nat):Int)):=by
 simp [pbs,List.getD_eq_getElem?_getD,h]
instance:Zero Tryz.prog 340 (.agg ((List.replicate 80 0#64).map wB).toArray):=⟨kR⟩
theorem schedule_c (bs:List Nat) (hl:bs.length=128) (hb:∀ b∈bs,b<256) (w:World):Calls Tryz.prog 268 #[.agg (pbs bs).toArray] w
  (Ret λ v w'=>v=.agg ((lY 64 (part bs 128)).map wB).toArray∧Grow w w'):=by
 refine V.calls (args:=[_]) Tryz.func268 rfl Tryz.ntmps268 rfl rfl ?_;have hpl:(pbs bs).length=128:=by simp [pbs,hl]
 repeat (first|refine aF ?_|refine yI λ bk w' hg hbk hsz hsz'=>?_)
 refine iO rfl yB (by rw [hpl];rfl) rfl ?_;rename_i bp wp hgp hbp hszp hszp' br wr hgr hbr hszr hszr';have hr2:bk≠br∧w.heap.size≤br∧w.heap.size≤bk:=by omega
 have hbr':=hbr.grow hg;replace hg:Grow w w':=by exact yG
 clear hgp hgr hbp hbr;have hb0:Blk w' bk 340 ((part bs 0).map wB):=by rw [part_zero];exact hbk
 repeat refine aF ?_
 refine aX (S:=Nat) (λ i=>[(12,.int .i64 (i:Int)),(11,.agg (pbs bs).toArray),(3,.pointer (some ⟨bk,0,none⟩)),(2,.pointer (some ⟨br,0,none⟩))])
  (λ i w6=>i≤128∧Blk w6 bk 340 ((part bs i).map wB)∧w6.heap.size=w'.heap.size∧Grow w w6∧Upd bk w' w6) (λ i=>128-i) 0 ⟨rfl,rfl,rfl,rfl,trivial⟩ ⟨Nat.zero_le _,hb0,rfl,hg,Upd.refl _ _⟩ ?_
 rintro i w6 ⟨hi,hb6,hs6,hg6,hu6⟩;by_cases hik:i<128
 ·have ht:(decide ((i:Int)<128))=true:=decide_eq_true oM;have hpi:=jQ bs i;have hbi:bs.getD i 0<256:=by rw [List.getD_eq_getElem?_getD,List.getElem?_eq_getElem oM];exact hb _ (List.getElem_mem _)
  have hps:=part_step hik hl;repeat refine aF ?_
  refine TL.indexV rfl rfl oM rfl (pbs_at oM) rfl ?_;generalize bs.getD i 0=bi at *;repeat (first|(refine aO ?_;refine aQ rfl (Blk.cell hb6 (kD oM)) rfl ?_)|(refine jW ?_;refine TL.shlB6 rfl rfl dM rfl ?_)|refine TL.convW8 rfl hbi rfl ?_|refine TL.orB6 rfl rfl rfl ?_|refine yC ?_)
  (refine dQ rfl rfl hb6 rfl (by rw [List.length_map,hpi];exact Nat.ble_eq_true_of_le oM) (map_set _ _ _) ?_;intro w7 hu7 hb7 hs7)
  rw [hps] at hb7;clear hps hpi hbi;replace hg6:=aI hu7 oM hg6;replace hu6:=hu6.trans hu7;clear hu7 hb6;repeat refine aF ?_
  exact aE (i+1) ⟨rfl,rfl,rfl,rfl,trivial⟩ ⟨hik,hb7,oM,hg6,hu6⟩ oM
 ·obtain rfl:i=128:=by omega
  have ht:(decide (((128:Nat):Int)<128))=false:=by decide
  have hbr6:=hbr'.upd hu6 oM;clear hb0 hbr' hu6 hi hik;have hpl0:=jQ bs 128;obtain ⟨ws,hws⟩:∃ ws,ws=part bs 128:=⟨_,rfl⟩
  rw [← hws] at hb6 hpl0 ⊢;repeat refine aF ?_
  refine aX (S:=Nat) (λ t=>[(6,.int .i64 ((t+16:Nat):Int)),(3,.pointer (some ⟨bk,0,none⟩)),(2,.pointer (some ⟨br,0,none⟩))])
   (λ t w7=>t≤64∧Blk w7 bk 340 ((lY t ws).map wB)∧Blk w7 br 340 (Value.agg ((List.replicate 80 0#64).map wB).toArray).cells.toList∧Grow w w7) (λ t=>64-t) 0 ⟨rfl,rfl,rfl,trivial⟩ ⟨Nat.zero_le _,hb6,hbr6,hg6⟩ ?_
  clear hb6 hg6 hbr6 hs6 hbk hg hszp hszp' hszr' hsz' hb ht hpl;rintro t w7 ⟨ht',hb7,hbr7,hg7⟩;by_cases htk:t<64
  ·have htc:(decide (((t+16:Nat):Int)<80))=true:=decide_eq_true oM;have hln:(lY t ws).length=80:=by rw [sched_len,hpl0]
   repeat refine aF ?_
   apply T.any 10 [is _,is _,is _,is _,is _,is _,is _,is _,is _,is _];(· kernel_rfl);(· ((repeat' (first|exact aN|refine aK ?_ ?_));(iterate 10 (· (refine yQ λ wq _ _ hgq=>?_;(repeat (first|refine aF ?_|(refine aO ?_;refine aQ rfl (Blk.cell yB (kD oM)) rfl ?_)));exact aD rfl yG rfl)))));(rintro _ _ _ hgr _ _;(refine yT ?_))
   have hb8:=hb7.grow hgr;have hbr8:=hbr7.grow hgr;replace hg7:=hg7.trans hgr;clear hgr hb7 hbr7;repeat (first|(refine aB 270 ?_;refine aA rfl (rotl_c _ _ _) rfl ?_;rintro _ _ ⟨rfl,rfl⟩)|refine jV rfl rfl rfl ?_|(refine eU ?_;refine TL.shrB6 rfl rfl dM rfl ?_)|refine yC ?_)
   apply T.any 14 [is _,is _,is _,is _,is _,is _,is _,is _,is _,is _,is _,is _,is _,is _];(· kernel_rfl);(· ((repeat' (first|exact aN|refine aK ?_ ?_));(iterate 14 (· (refine yQ λ wq _ _ hgq=>?_;(repeat (first|(refine aO ?_;refine aQ rfl (Blk.cell yB (kD oM)) rfl ?_)|refine jX rfl rfl rfl ?_|refine yC ?_));exact aD rfl yG rfl)))));(rintro _ _ _ hgr _ _;(refine yT ?_))
   have hb9:=hb8.grow hgr;have hbr9:=hbr8.grow hgr;replace hg7:=hg7.trans hgr;clear hgr hb8 hbr8;repeat (first|(refine bZ ?_;refine dQ rfl rfl hb9 rfl (by rw [List.length_map,hln];exact Nat.ble_eq_true_of_le oM) (map_set _ _ _) ?_;intro w10 hu10 hb10 hs10;have hbr10:=hbr9.upd hu10 oM;replace hg7:=aI hu10 oM hg7;clear hu10 hb9 hbr9)|refine yC ?_)
   refine aE (t+1) ⟨rfl,rfl,rfl,trivial⟩ ⟨htk,?_,hbr10,hg7⟩ oM;simp only [lY,nextW,sg0,sg1];exact hb10
  ·obtain rfl:t=64:=by omega
   have htc:(decide (((64+16:Nat):Int)<80))=false:=by decide
   have hln:(lY 64 ws).length=80:=by rw [sched_len,hpl0]
   obtain ⟨sw,hsw⟩:∃ sw,sw=lY 64 ws:=⟨_,rfl⟩
   rw [← hsw] at hb7 hln;repeat (first|(refine aO ?_;refine iO rfl hb7 (by rw [List.length_map,hln];rfl) rfl ?_)|(refine bZ ?_;refine eJ rfl rfl hbr7 (by rw [List.length_map,hln];rfl) rfl (by simp [Value.oneCell']) ?_;intro w8 hu8 hb8 hs8)|refine yC ?_)
   rw [← hsw];exact retC rfl (aW hb8 (by rw [List.length_map,hln];rfl)) ⟨_,rfl,rfl,aI hu8 oM hg7⟩
set_option maxRecDepth 20000
def Kw:List (BitVec 64):=[0x428a2f98d728ae22#64,0x7137449123ef65cd#64,0xb5c0fbcfec4d3b2f#64,0xe9b5dba58189dbbc#64,0x3956c25bf348b538#64,0x59f111f1b605d019#64,0x923f82a4af194f9b#64,0xab1c5ed5da6d8118#64,0xd807aa98a3030242#64,0x12835b0145706fbe#64,0x243185be4ee4b28c#64,0x550c7dc3d5ffb4e2#64,0x72be5d74f27b896f#64,0x80deb1fe3b1696b1#64,0x9bdc06a725c71235#64,0xc19bf174cf692694#64,0xe49b69c19ef14ad2#64,0xefbe4786384f25e3#64,0x0fc19dc68b8cd5b5#64,0x240ca1cc77ac9c65#64,0x2de92c6f592b0275#64,0x4a7484aa6ea6e483#64,0x5cb0a9dcbd41fbd4#64,0x76f988da831153b5#64,0x983e5152ee66dfab#64,0xa831c66d2db43210#64,0xb00327c898fb213f#64,0xbf597fc7beef0ee4#64,0xc6e00bf33da88fc2#64,0xd5a79147930aa725#64,0x06ca6351e003826f#64,0x142929670a0e6e70#64,0x27b70a8546d22ffc#64,0x2e1b21385c26c926#64,0x4d2c6dfc5ac42aed#64,0x53380d139d95b3df#64,0x650a73548baf63de#64,0x766a0abb3c77b2a8#64,0x81c2c92e47edaee6#64,0x92722c851482353b#64,0xa2bfe8a14cf10364#64,0xa81a664bbc423001#64,0xc24b8b70d0f89791#64,0xc76c51a30654be30#64,0xd192e819d6ef5218#64,0xd69906245565a910#64,0xf40e35855771202a#64,0x106aa07032bbd1b8#64,0x19a4c116b8d2d0c8#64,0x1e376c085141ab53#64,0x2748774cdf8eeb99#64,0x34b0bcb5e19b48a8#64,0x391c0cb3c5c95a63#64,0x4ed8aa4ae3418acb#64,0x5b9cca4f7763e373#64,0x682e6ff3d6b2b8a3#64,0x748f82ee5defb2fc#64,0x78a5636f43172f60#64,0x84c87814a1f0ab72#64,0x8cc702081a6439ec#64,0x90befffa23631e28#64,0xa4506cebde82bde9#64,0xbef9a3f7b2c67915#64,0xc67178f2e372532b#64,0xca273eceea26619c#64,0xd186b8c721c0c207#64,0xeada7dd6cde0eb1e#64,0xf57d4f7fee6ed178#64,0x06f067aa72176fba#64,0x0a637dc5a2c898a6#64,0x113f9804bef90dae#64,0x1b710b35131c471b#64,0x28db77f523047d84#64,0x32caab7b40c72493#64,0x3c9ebe0a15c9bebc#64,0x431d67c49c100d4c#64,0x4cc5d4becb3e42b6#64,0x597f299cfc657e2a#64,0x5fcb6fab3ad6faec#64,0x6c44198c4a475817#64]
theorem K_c (w:World):Calls Tryz.prog 269 #[] w (Ret λ v w'=>v=.agg (Kw.map wB).toArray∧Grow w w'):=by
 refine V.calls (args:=[]) Tryz.func269 rfl Tryz.ntmps269 rfl rfl ?_;refine T.seq ?_;refine nZ ?_;refine TL.alloc rfl rfl ?_;intro bk w1 hg1 hb1 hsz hsz';refine TL.nil ?_;refine fA ?_;refine T.seq ?_;refine nZ ?_;refine mX (cs:=Kw.map wB) rfl kR rfl ?_;(refine eJ rfl rfl hb1 rfl rfl rfl ?_;intro w2 hu2 hb2 hs2)
 refine TL.nil ?_;refine fA ?_;refine T.ret ?_;exact retC rfl (aW hb2 rfl) ⟨_,rfl,rfl,aI hu2 oM hg1⟩
structure St where
 (a b c d e f g h:BitVec 64)
def bs0 (x:BitVec 64):BitVec 64:=rotl x (kY (-28)) ^^^ rotl x (kY (-34)) ^^^ rotl x (kY (-39))
def bs1 (x:BitVec 64):BitVec 64:=rotl x (kY (-14)) ^^^ rotl x (kY (-18)) ^^^ rotl x (kY (-41))
def tOne (s:St) (k w:BitVec 64):BitVec 64:=s.h+bs1 s.e+((s.e&&&s.f) ^^^ (~~~s.e&&&s.g))+k+w
def tTwo (s:St):BitVec 64:=bs0 s.a+((s.a&&&s.b) ^^^ (s.a&&&s.c) ^^^ (s.b&&&s.c))
def rnd (s:St) (k w:BitVec 64):St:=⟨tOne s k w+tTwo s,s.a,s.b,s.c,s.d+tOne s k w,s.e,s.f,s.g⟩
def rnK (ks ws:List (BitVec 64)) (s:St):Nat→St
 | 0=>s
 | t+1=>rnd (rnK ks ws s t) (ks.getD t 0#64) (ws.getD t 0#64)
def rn (ws:List (BitVec 64)) (s:St):Nat→St:=rnK Kw ws s
def St.l (s:St):List (BitVec 64):=[s.a,s.b,s.c,s.d,s.e,s.f,s.g,s.h]
def addL (st s:List (BitVec 64)):Nat→List (BitVec 64)
 | 0=>st
 | q+1=>(addL st s q).set q ((addL st s q).getD q 0#64+s.getD q 0#64)
theorem addL_len (st s:List (BitVec 64)) (q:Nat):(addL st s q).length=st.length:=by induction q<;>simp [addL, *]
def pieceB (s:St) (bs:List Nat):List (BitVec 64):=addL s.l (rn (lY 64 (part bs 128)) s 80).l 8
theorem piece_c (s:St) (bs:List Nat) (hl:bs.length=128) (hb:∀ b∈bs,b<256) (w:World):Calls Tryz.prog 251 #[.agg (s.l.map wB).toArray,.agg (pbs bs).toArray] w
  (Ret λ v w'=>v=.agg ((pieceB s bs).map wB).toArray∧Grow w w'):=by
 refine V.calls (args:=[_,_]) Tryz.func251 rfl Tryz.ntmps251 rfl rfl ?_;have hpl:(pbs bs).length=128:=by simp [pbs,hl]
 obtain ⟨ws,hws⟩:∃ ws,ws=lY 64 (part bs 128):=⟨_,rfl⟩
 have hwl:ws.length=80:=by rw [hws,sched_len,jQ]
 obtain ⟨ks,hks⟩:∃ ks,ks=Kw:=⟨_,rfl⟩
 have hkl:ks.length=80:=by rw [hks];rfl
 have hsc:∀ w,Calls Tryz.prog 268 #[.agg (pbs bs).toArray] w (Ret λ v w'=>v=.agg (ws.map wB).toArray∧Grow w w'):=by rw [hws];exact schedule_c bs hl hb
 have hkc:∀ w,Calls Tryz.prog 269 #[] w (Ret λ v w'=>v=.agg (ks.map wB).toArray∧Grow w w'):=by rw [hks];exact K_c
 have hpb:pieceB s bs=addL s.l (rnK ks ws s 80).l 8:=by rw [hws,hks];rfl
 have hwo:(ws.map wB).all Value.oneCell'=true:=by simp [Value.oneCell']
 have hko:(ks.map wB).all Value.oneCell'=true:=by simp [Value.oneCell']
 repeat (first|(refine aO ?_;refine iO rfl yB (by rw [hpl];rfl) rfl ?_)|(refine aB 268 ?_;refine aA rfl (hsc _) rfl ?_;rintro _ _ ⟨rfl,hgc⟩)|(refine aB 269 ?_;refine aA rfl (hkc _) rfl ?_;rintro _ _ ⟨rfl,hgc⟩)|(refine bZ ?_;refine eJ rfl rfl yB (by rw [List.length_map,hwl];rfl) rfl hwo ?_;intro w' hu hbk hsz)|(refine bZ ?_;refine eJ rfl rfl yB (by rw [List.length_map,hkl];rfl) rfl hko ?_;intro w' hu hbk hsz)|refine yC ?_|refine yI λ bk w' hg hbk hsz hsz'=>?_)
 rename_i b2 w2 hg2 hb2 hz2 hz2' b3 w3 hg3 hb3 hz3 hz3' b4 w4 hg4 hb4 hz4 hz4' w5 hg5 w6 b5 w7 hg7 hb5 hz5 hz5' w8 hb6 hz6 w9 hu9 hb9 hz9;have hsz5:=hg5.2;have hsz6:=hgc.2;have h2:Blk w' b2 295 (s.l.map wB):=by exact yB
 have h5:Blk w' b5 340 (ws.map wB):=by exact yB
 have h4:=((((((hb4.grow hg5).grow hgc).grow hg7).grow hg).upd hu9 oM).upd hu oM)
 have hlt:w.heap.size≤b2∧w.heap.size≤b4∧b2≠b4∧b2<b5∧b5<bk:=by omega
 have hG:Grow w w':=by exact yG
 clear hg2 hb2 hz2 hz2' hg3 hb3 hz3 hz3' hg4 hb4 hz4 hz4' hg5 hgc hg7 hb5 hz5 hz5' hg hb6 hz6 hu9 hb9 hz9 hu hsz hsz' hsz5 hsz6 hws hsc hks hkc hwo hko hl hb hpl;refine bD (e':=[(2,.pointer (some ⟨b2,0,none⟩)),(4,.pointer (some ⟨b4,0,none⟩)),(5,.pointer (some ⟨b5,0,none⟩)),(6,.pointer (some ⟨bk,0,none⟩))]) ?_ ⟨rfl,rfl,rfl,rfl,trivial⟩;repeat refine aF ?_
 apply T.any 12 [is _,is _,is _,is _,is _,is _,is _,is _,is _,is _,is _,is _];(· kernel_rfl);(· ((repeat' (first|exact aN|refine aK ?_ ?_));(iterate 12 (· (refine yQ λ wq _ _ hgq=>?_;(repeat refine aF ?_);exact aD rfl yG rfl)))));(rintro _ _ _ hgr _ _;(refine yT ?_))
 replace h2:=h2.grow hgr;replace h4:=h4.grow hgr;replace h5:=h5.grow hgr;replace hbk:=hbk.grow hgr;replace hG:=hG.trans hgr;clear hgr;repeat refine aF ?_
 apply T.any 12 [is _,is _,is _,is _,is _,is _,is _,is _,is _,is _,is _,is _];(· kernel_rfl);(· ((repeat' (first|exact aN|refine aK ?_ ?_));(iterate 12 (· (refine yQ λ wq _ _ hgq=>?_;(repeat refine aF ?_);exact aD rfl yG rfl)))));(rintro _ _ _ hgr _ _;(refine yT ?_))
 replace h2:=h2.grow hgr;replace h4:=h4.grow hgr;replace h5:=h5.grow hgr;replace hbk:=hbk.grow hgr;replace hG:=hG.trans hgr;clear hgr;rename_i wA _ _;repeat refine aF ?_
 refine aX (S:=Nat×St) (λ q=>[(41,.int .i64 (q.1:Int)),(14,wB q.2.h),(13,wB q.2.g),(12,wB q.2.f),(11,wB q.2.e),(10,wB q.2.d),(9,wB q.2.c),(8,wB q.2.b),(7,wB q.2.a),(6,.pointer (some ⟨bk,0,none⟩)),(5,.pointer (some ⟨b5,0,none⟩)),(4,.pointer (some ⟨b4,0,none⟩)),(2,.pointer (some ⟨b2,0,none⟩))])
  (λ q w7=>q.1≤80∧q.2=rnK ks ws s q.1∧Blk w7 b2 295 (s.l.map wB)∧Blk w7 b4 295 (List.replicate 8 (wB 0#64))∧Blk w7 b5 340 (ws.map wB)∧Blk w7 bk 340 (ks.map wB)∧Grow w w7) (λ q=>80-q.1) (0,s) ⟨rfl,rfl,rfl,rfl,rfl,rfl,rfl,rfl,rfl,rfl,rfl,rfl,rfl,trivial⟩ ⟨Nat.zero_le _,rfl,h2,h4,h5,hbk,hG⟩ ?_
 clear h2 h4 h5 hbk hG;rintro ⟨t,s'⟩ w7 ⟨ht,hs',h2,h4,h5,hbk,hG⟩;simp only at ht hs';by_cases htk:t<80
 ·have htc:(decide ((t:Int)<80))=true:=decide_eq_true oM;repeat refine aF ?_
  repeat (first|(refine aB 270 ?_;refine aA rfl (rotl_c _ _ _) rfl ?_;rintro _ _ ⟨rfl,rfl⟩)|refine jV rfl rfl rfl ?_|refine yC ?_)
  apply T.any 20 [is _,is _,is _,is _,is _,is _,is _,is _,is _,is _,is _,is _,is _,is _,is _,is _,is _,is _,is _,is _];(· kernel_rfl);(· ((repeat' (first|exact aN|refine aK ?_ ?_));(iterate 20 (· (refine yQ λ wq _ _ hgq=>?_;(repeat (first|(refine aO ?_;first|refine aQ rfl (Blk.cell (b:=b5) yB (kD oM)) rfl ?_|refine aQ rfl (Blk.cell (b:=bk) yB (kD oM)) rfl ?_)|refine jV rfl rfl rfl ?_|refine jX rfl rfl rfl ?_|refine TL.andB6 rfl rfl rfl ?_|refine TL.notB6 rfl rfl ?_|refine yC ?_));exact aD rfl yG rfl)))));(rintro _ _ _ hgr _ _;(refine yT ?_))
  replace h2:=h2.grow hgr;replace h4:=h4.grow hgr;replace h5:=h5.grow hgr;replace hbk:=hbk.grow hgr;replace hG:=hG.trans hgr;clear hgr;repeat (first|(refine aB 270 ?_;refine aA rfl (rotl_c _ _ _) rfl ?_;rintro _ _ ⟨rfl,rfl⟩)|refine jV rfl rfl rfl ?_|refine jX rfl rfl rfl ?_|refine TL.andB6 rfl rfl rfl ?_|refine yC ?_)
  exact aE (t+1,rnd s' (ks.getD t 0#64) (ws.getD t 0#64)) ⟨rfl,rfl,rfl,rfl,rfl,rfl,rfl,rfl,rfl,rfl,rfl,rfl,rfl,trivial⟩ ⟨htk,by rw [hs'];rfl,h2,h4,h5,hbk,hG⟩ (by simp only;omega)
 ·obtain rfl:t=80:=by omega
  have htc:(decide (((80:Nat):Int)<80))=false:=by decide
  repeat refine aF ?_
  refine aX (S:=Nat) (λ q=>[(115,.int .i64 (q:Int)),(114,.agg (s'.l.map wB).toArray),(4,.pointer (some ⟨b4,0,none⟩)),(2,.pointer (some ⟨b2,0,none⟩))])
   (λ q w8=>q≤8∧Blk w8 b2 295 ((addL s.l s'.l q).map wB)∧Blk w8 b4 295 (List.replicate 8 (wB 0#64))∧Grow w w8) (λ q=>8-q) 0 ⟨rfl,rfl,rfl,rfl,trivial⟩ ⟨Nat.zero_le _,h2,h4,hG⟩ ?_
  clear h2 h4 h5 hbk hG;rintro q w8 ⟨hq,h2,h4,hG⟩;have hal:(addL s.l s'.l q).length=8:=by rw [addL_len];rfl
  by_cases hqk:q<8
  ·have hqc:(decide ((q:Int)<8))=true:=decide_eq_true oM;repeat (first|(refine TL.isIndexV ?_;refine TL.indexV rfl rfl oM rfl (kD (by show q<8;omega)) rfl ?_)|(refine aO ?_;refine aQ rfl (Blk.cell h2 (kD oM)) rfl ?_)|refine jX rfl rfl rfl ?_|refine yC ?_)
   (refine dQ rfl rfl h2 rfl (by rw [List.length_map,hal];exact Nat.ble_eq_true_of_le oM) (map_set _ _ _) ?_;intro w9 hu9 hb9 hs9)
   replace h4:=h4.upd hu9 oM;replace hG:=aI hu9 oM hG;clear hu9 h2;repeat refine aF ?_
   exact aE (q+1) ⟨rfl,rfl,rfl,rfl,trivial⟩ ⟨hqk,hb9,h4,hG⟩ oM
  ·obtain rfl:q=8:=by omega
   have hqc:(decide (((8:Nat):Int)<8))=false:=by decide
   obtain ⟨rl,hrl⟩:∃ rl,rl=addL s.l s'.l 8:=⟨_,rfl⟩
   rw [← hrl] at h2 hal;repeat (first|(refine aO ?_;refine iO rfl h2 (by rw [List.length_map,hal];rfl) rfl ?_)|(refine bZ ?_;refine eJ rfl rfl h4 (by rw [List.length_map,hal];rfl) rfl (by simp [Value.oneCell']) ?_;intro w9 hu9 hb9 hs9)|refine yC ?_)
   exact retC rfl (aW hb9 (by rw [List.length_map,hal];rfl)) ⟨_,rfl,by rw [hpb,hrl,hs'],aI hu9 oM hG⟩
def St.of (l:List (BitVec 64)):St:=⟨l.getD 0 0,l.getD 1 0,l.getD 2 0,l.getD 3 0,l.getD 4 0,l.getD 5 0,l.getD 6 0,l.getD 7 0⟩
theorem St.of_l {l:List (BitVec 64)} (h:l.length=8):(St.of l).l=l:=by
 match l,h with
 | [a,b,c,d,e,f,g,i],_=>rfl
theorem pieceB_len (s:St) (bs:List Nat):(pieceB s bs).length=8:=by
 unfold pieceB;rw [addL_len];rfl
def lW (s:St) (bs:Bs):Nat→St
 | 0=>s
 | k+1=>St.of (pieceB (lW s bs k) ((bs.drop (128*k)).take 128))
theorem wordsB_l (s:St) (bs:Bs) (k:Nat):(lW s bs (k+1)).l=pieceB (lW s bs k) ((bs.drop (128*k)).take 128):=St.of_l (pieceB_len _ _)
theorem padS_mod (l:Bs):(mI l).length=128*((mI l).length / 128):=by
 have:=kQ l;have hz:jZ l.length=(239-l.length%128)%128:=rfl;omega
theorem padS_lt {l:Bs} (h:∀ b∈l,b<256):∀ b∈mI l,b<256:=by
 intro b hb;simp only [mI,List.mem_append,List.mem_singleton,zs,List.mem_replicate,be8,List.mem_map] at hb;rcases hb with (((hb|hb)|hb)|⟨i,_,hb⟩)|⟨i,_,hb⟩
 ·exact h b hb
 ·omega
 ·omega
 ·omega
 ·omega
def kW (s:St) (l:Bs):St:=lW s (mI l) ((mI l).length / 128)
theorem whole_c (F:Nat→Prop) (s:St) (a:Option Addr) (n c:Nat) (bss:List Bs) (w:World) (h:KysAt F w a n c bss) (hn:bss.flatten.length≤100000) (hb:∀ b∈bss.flatten,b<256) :
  Calls Tryz.prog 212 #[.agg (s.l.map wB).toArray,.slice a n c] w (Ret λ v w'=>v=.agg ((kW s bss.flatten).l.map wB).toArray∧Grow w w'):=by
 refine V.calls (args:=[_,_]) Tryz.func212 rfl Tryz.ntmps212 rfl rfl ?_;repeat (first|refine T.seqR ?_|refine yA ?_|refine yI λ bk w' hg hbk hsz hsz'=>?_)
 rename_i b0 w0 g0 k0 s0 s0';have hg2:Grow w w':=by exact yG
 have hb0:Blk w' b0 295 (s.l.map wB):=Blk.grow hg k0;have hsz2:=hg2.size;have hbk':Blk w' bk 295 ((List.replicate 8 0#64).map wB):=hbk;have hne:bk≠b0:=by omega
 have hbkl:=hbk.lt;clear hbk;refine aB 250 ?_;refine aA rfl (padded_c F a n c bss _ (h.go (Carry.grow hg2)) hn) rfl ?_;rintro v w2 ⟨hown,hg3⟩;have hm:=padS_mod bss.flatten;have hlt:=padS_lt hb;have hlp:=kQ bss.flatten;have hz:jZ bss.flatten.length<128:=by unfold jZ;omega
 unfold kW;generalize (mI bss.flatten).length / 128=m at *;generalize mI bss.flatten=bs at *;rw [hm] at hown;obtain ⟨va,vc,rfl,hsv⟩:=aM hown;obtain ⟨G,hG,hsG⟩:∃ G:Nat→Prop,(∀ k,G k→w'.heap.size≤k∧k<w2.heap.size)∧Sl G w2 1 va (128*m) vc (bB bs):=⟨_,λ k hk=>⟨hk.1.1,hk.2⟩,hsv.tight⟩
 refine aB 249 ?_;refine aA rfl (chunk_c va _ vc _) rfl ?_;rintro _ w3 ⟨b1,b2,rfl,h1,h2,hb1,hb2,hg4⟩;repeat refine dF ?_
 refine mY (T2.range (ps:=[9]) (lb:=[_,_]) rfl (Nat.zero_le _) rfl ?_);intro rc w4 hli hs4 hg5 hl4 hD4;have h3:=hg3.size;have h4:=hg4.size;have hbb:=hb0.lt;have hbl1:=hb1.lt;have hbl2:=hb2.lt;obtain ⟨D,hD⟩:∃ D,D=w3.heap.size:=⟨_,rfl⟩
 rw [← hD] at hl4 hD4 hs4 ⊢
 refine Calls.mono (chunks_c G (D+1) b1 b2 m va vc bs (λ k w'=>Blk w' b0 295 ((lW s bs k).l.map wB)∧Blk w' b1 30 [.slice va (128*m) vc]∧Blk w' b2 3 [.int .i64 128] ∧
   Sl G w' 1 va (128*m) vc (bB bs)∧w'.heap[D+1]? = some (.loop (rc .ready none))∧w'.heap[D]? = some (.deferred (some []))∧Grow w w'∧Blk w' bk 295 ((List.replicate 8 0#64).map wB)) hm oM (λ k w' h=>⟨h.2.1,h.2.2.1,h.2.2.2.1⟩) ?_ ?_ _ ?_) ?_
 ·rintro k w5 w6 ⟨q1,q2,q3,q4,q5,q6,q7,q8⟩ hg;exact ⟨q1.grow hg,q2.grow hg,q3.grow hg,q4.grow hg,(hg.block _ (Array.getElem?_eq_some_iff.1 q5).1).trans q5,(hg.block _ (Array.getElem?_eq_some_iff.1 q6).1).trans q6,q7.trans hg,q8.grow hg⟩
 ·rintro k w5 a' hk ⟨q1,q2,q3,q4,q5,q6,q7,q8⟩ hs';refine yld_of hli q5 rfl rfl λ I=>?_;repeat refine dF ?_
  refine ⟨q5,λ w6 hu6 hl6=>?_⟩;have q1':=q1.upd hu6 oM;have hs6:=hs'.upd hu6 (λ k hk=>by have:=hG k hk;omega);repeat refine dF ?_
  apply T.any 4 [is (.agg ((lW s bs k).l.map wB).toArray),is (.slice a' 128 128),is (.pointer a'),is (.agg (bB ((bs.drop (128*k)).take 128)).toArray)]
  ·rfl
  ·repeat' (first|exact aN|refine aK ?_ ?_)
   iterate 2
    ·refine yQ λ wq _ _ hgq=>?_;repeat refine dF ?_
     exact aD rfl yG rfl
   ·refine yQ λ wq _ _ hgq=>?_;refine TL.arrayAt rfl (Nat.le_refl _) rfl ?_;repeat refine dF ?_
    exact aD rfl yG rfl
   ·refine yQ λ wq _ _ hgq=>?_;refine TL.loadAll rfl (hs6.grow yG) rfl rfl ?_;repeat refine dF ?_
    exact aD rfl yG rfl
  ·intro w7 lo7 hi7 hg7 _ _;((refine yT ?_))
   refine aB 251 ?_;refine aA rfl (piece_c (lW s bs k) _ ?_ ?_ _) rfl ?_
   ·rw [List.length_take,List.length_drop];omega
   ·exact λ b hb=>hlt b (List.mem_of_mem_drop (List.mem_of_mem_take hb))
   rintro _ w8 ⟨rfl,hg8⟩;have q1'':=q1'.grow (hg7.trans hg8);rw [← wordsB_l];repeat (first|refine dF ?_|refine yJ λ w' hu hbk hsz=>?_)
   have z7:=hg7.size;have z8:=hg8.size;have zu:=hu6.size;rename_i wf hu hbk _;refine ⟨?_,λ wz huz hlz=>?_⟩
   ·rw [hu.block _ oM,hg8.block _ (by have:=(Array.getElem?_eq_some_iff.1 hl6).1;omega),hg7.block _ (Array.getElem?_eq_some_iff.1 hl6).1];exact hl6
   ·have keep:∀ x,x≠b0→x≠D+1→x<w5.heap.size→wz.heap[x]? = w5.heap[x]?:=λ x hx hx1 hx2 =>
     (huz.block x hx1).trans ((hu.block x hx).trans ((hg8.block x oM).trans ((hg7.block x oM).trans (hu6.block x hx1))))
    have hsz5:w5.heap.size≤wz.heap.size:=by have:=hu.size;have:=huz.size;omega
    have hgw:Grow w wz:=aI huz (by have:=q7.size;omega) (aI hu oM ((aI hu6 oM q7).trans (hg7.trans hg8)));refine ⟨rfl,hbk.upd huz oM,?_,?_,q4.keep (λ x hx hx2=>keep x (by have:=hG x hx;omega) (by have:=hG x hx;omega) hx2) hsz5,hlz,?_,hgw,?_⟩
    ·have hlx:=q2.lt;unfold Blk at q2 ⊢;rw [keep b1 oM oM hlx];exact q2
    ·have hlx:=q3.lt;unfold Blk at q3 ⊢;rw [keep b2 oM oM hlx];exact q3
    ·rw [keep D oM oM (Array.getElem?_eq_some_iff.1 q6).1];exact q6
    ·have hlx:=q8.lt;unfold Blk at q8 ⊢;rw [keep bk hne oM hlx];exact q8
 ·have hg24:Grow w2 w4:=hg4.trans hg5;exact ⟨(hb0.grow (hg3.trans hg24)),hb1.grow hg5,hb2.grow hg5,hsG.grow hg24,hl4,hD4,hg2.trans (hg3.trans hg24),hbk'.grow (hg3.trans hg24)⟩
 ·rintro _ w5 ⟨v,rfl,q1,q2,q3,q4,q5,q6,q7,q8⟩;refine ⟨v,rfl,q6,.inl ⟨q5,λ I w6 hu6=>?_⟩⟩;have q1':=q1.upd hu6 oM;have q8':=q8.upd hu6 oM;repeat (first|refine dF ?_|refine yJ λ w' hu hbk hsz=>?_)
  refine ⟨?_,λ wz huz=>?_⟩
  ·rw [hu.block _ oM,hu6.block _ oM];exact q6
  ·exact retC rfl (aW (hbk.upd huz oM) rfl) ⟨_,rfl,rfl,aI huz (by have:=q7.size;have:=hg2.size;omega) (aI hu oM (aI hu6 oM q7))⟩
end Go.Proofs.YtfpadnmdafiddaaGreatDoor
namespace Go.V
open Go Go.RowKit
section
variable [Rn]
variable {P:Program} {n:Nat} {e:dJ} {w:World} {Q:dI} {ops:Array Oper} {rest:List Oper} {d:Nat} {ty:TypeId} {pos:String} {aft:Array Edge}
theorem jM {t elem size bytes b m c:Nat} {x:Operand} {t0:TypeId} {cs:List Value} [ht:SliceTy P t elem size bytes] [h8:IntTy P elem .u8] (hx:val e x=some (.slice (some ⟨b,0,none⟩) m c)) (hb:Blk w b t0 cs) (hm:cs.length=m) (hc:m≤c) (hc2:c≤maxLen) (hd:Nat.blt d n=true)
  (k:∀ w',Upd b w w'→Sl (λ k=>k=b) w' 1 (some ⟨b,0,none⟩) m c cs→TL P n ops rest ((d,.slice (some ⟨b,0,none⟩) m c)::e) w' Q):TL P n ops (⟨some d,.convert t t x,ty,pos,aft,none⟩::rest) e w Q:=by
 have hlt:=hb.lt;have hw0:w.heap[b]? = some (.cells cs.toArray t0 (0,0)):=by unfold Blk at hb;exact hb
 have hs:w.shape? b=some (t0,cs.toArray.size):=by simp [World.shape?,hw0]
 refine TL.run (w':=w.freeze ⟨b,cs.toArray.size,none⟩ 1) (λ r hr=>?_) hd (k _ ⟨rfl,rfl,rfl,by simp [World.freeze],λ k hk=>?_⟩ ⟨oM,hc,hc2,(λ h=>by cases h),λ _=>⟨rfl,rfl,by simpa [World.freeze] using hlt,λ j v hj=>?_⟩⟩)
 ·have m1:(markStringish ⟨b,0,none⟩).run P w=.ok () (w.freeze ⟨b,cs.toArray.size,none⟩ 1):=by simp [markStringish,shape,freeze,Sem.run,hs]
  simp [execOp,hr.eval hx,convert,underlying,ht.und,h8.und,m1]
 ·simp only [World.freeze,Nat.one_ne_zero,if_false,Array.getElem?_modify,if_neg (Ne.symm hk)]
 ·have hw':(w.freeze ⟨b,cs.toArray.size,none⟩ 1).heap[b]? = some (.cells cs.toArray t0 (if ((0:Nat),(0:Nat)).1==((0:Nat),(0:Nat)).2 then (cs.toArray.size,cs.toArray.size+1) else (min 0 cs.toArray.size,max 0 (cs.toArray.size+1)))):=by
   simp only [World.freeze,Nat.one_ne_zero,if_false,Array.getElem?_modify,if_true,hw0,Option.map_some]
  simp only [World.cell?,hw',Nat.zero_add];simpa using hj
end
end Go.V
namespace Go.Proofs.YtfpadnmdafiddaaGreatDoor
open Go Go.RowKit Go.V
def startL:List (BitVec 64):=[7640891576956012808#64,13503953896175478587#64,4354685564936845355#64,11912009170470909681#64,5840696475078001361#64,11170449401992604703#64,2270897969802886507#64,6620516959819538809#64]
def xorK:BitVec 64:=11936128518282651045#64
def xorL:Nat→List (BitVec 64)
 | 0=>startL
 | q+1=>(xorL q).set q ((xorL q).getD q 0#64 ^^^ xorK)
theorem xorL_len (q:Nat):(xorL q).length=8:=by induction q with|zero=>rfl|succ q ih=>simp [xorL,ih]
def mJ:Bs:=[83,72,65,45,53,49,50,47,50,53,54]
def shortS:St:=kW (St.of (xorL 8)) mJ
theorem start_c (w:World):Calls Tryz.prog 252 #[] w (Ret λ v w'=>v=.agg (startL.map wB).toArray∧Grow w w'):=by
 refine V.calls (args:=[]) Tryz.func252 rfl Tryz.ntmps252 rfl rfl ?_;repeat (first|refine dF ?_|refine yI λ bk w' hg hbk hsz hsz'=>?_|refine yJ λ w' hu hbk hsz=>?_)
 exact retC rfl (aW (by assumption) rfl) ⟨_,rfl,rfl,yG⟩
theorem short_c (w:World):Calls Tryz.prog 213 #[] w (Ret λ v w'=>v=.agg (shortS.l.map wB).toArray∧Grow w w'):=by
 refine V.calls (args:=[]) Tryz.func213 rfl Tryz.ntmps213 rfl rfl ?_;repeat (first|refine aF ?_|refine yI λ bk w' hg hbk hsz hsz'=>?_)
 refine aB 252 ?_;refine aA (vs:=[]) rfl (start_c _) rfl ?_;rintro _ w2 ⟨rfl,hg2⟩;have hbr:Blk w2 bk 295 ((List.replicate 8 0#64).map wB):=Blk.grow hg2 hbk;have hgw:Grow w w2:=hg.trans hg2;have hz1:=hg2.size;have hz2:w.heap.size=bk:=hsz;have hz3:=hsz';clear hg hbk hsz hsz' hg2;repeat (first|refine aF ?_|refine yI λ bk w' hg hbk hsz hsz'=>?_|refine yJ λ w' hu hbk hsz=>?_)
 rename_i b0 wa wb hbz hsz0;have hbr2:Blk w' b0 295 ((List.replicate 8 0#64).map wB):=by exact yB
 have hgw2:Grow w w':=by exact yG
 have hne:b0≠bk:=by omega
 have hle1:w.heap.size≤b0:=by omega
 have hle:w.heap.size≤bk:=by omega
 clear hbr hgw hz1 hz2 hz3 hu hsz hg hsz' hbz hsz0;refine aX (S:=Nat) (λ i=>[(4,.int .i64 (i:Int)),(1,.pointer (some ⟨bk,0,none⟩)),(0,.pointer (some ⟨b0,0,none⟩))]) (λ i w3=>i≤8∧Blk w3 bk 295 ((xorL i).map wB)∧Blk w3 b0 295 ((List.replicate 8 0#64).map wB)∧Grow w w3) (λ i=>8-i) 0 ⟨rfl,rfl,rfl,trivial⟩ ⟨oM,hbk,hbr2,hgw2⟩ ?_;clear hbk hbr2 hgw2;rintro i w3 ⟨hi,hbk,hbr,hg⟩;have hln:=xorL_len i;by_cases hlt:i<8
 ·repeat (first|(refine aO ?_;refine aQ rfl (Blk.cell hbk (kD oM)) rfl ?_)|refine jV (b:=xorK) rfl rfl rfl ?_|refine yC ?_)
  refine dQ rfl rfl hbk rfl (by rw [List.length_map,hln];exact Nat.ble_eq_true_of_le oM) (map_set _ _ _) ?_;intro w7 hu7 hb7 hs7;repeat refine aF ?_
  exact aE (i+1) ⟨rfl,rfl,rfl,trivial⟩ ⟨hlt,hb7,hbr.upd hu7 hne,aI hu7 hle hg⟩ oM
 obtain rfl:i=8:=by omega
 repeat (first|(refine aO ?_;refine iO rfl hbk (by rw [List.length_map,hln];rfl) rfl ?_)|refine yC ?_)
 refine TL.buildSlice rfl rfl rfl rfl rfl ?_;intro b1 w4 hg4 hb1 q1 q2 q3;have hb1':Blk w4 b1 5 (bB mJ):=hb1;refine jM rfl hb1' rfl (Nat.le_refl _) dM rfl ?_;intro w5 hu5 hs5;refine TL.buildSlice rfl rfl rfl rfl rfl ?_;intro b2 w6 hg6 hb2 r1 r2 r3;have hz3:=hg.size;have hbrl:=hbr.lt;have hle0:w.heap.size≤b0:=hle1;have hz4:=hg4.size;have hz5:=hu5.size;have hz6:=hg6.size;have hs2:Sl (λ k=>k=b2∨k=b1) w6 1 (some ⟨b2,0,none⟩) 1 1 [.slice (some ⟨b1,0,none⟩) 11 11]:=(aV (sz:=1) (m:=1) hb2 r3 dM).mono (λ k hk=>.inl hk);have hky:KysAt (λ k=>k=b2∨k=b1) w6 (some ⟨b2,0,none⟩) 1 1 [mJ]:=⟨_,hs2,⟨_,_,_,rfl,(hs5.grow hg6).mono (λ k hk=>.inr hk)⟩,trivial⟩
 refine aB 212 ?_;have hsl:(St.of (xorL 8)).l=xorL 8:=St.of_l (xorL_len 8);rw [← hsl];refine aA rfl (whole_c _ (St.of (xorL 8)) _ 1 1 [mJ] _ hky dM dM) rfl ?_;rintro _ w7 ⟨rfl,hg7⟩;rw [show kW (St.of (xorL 8)) [mJ].flatten=shortS from rfl];have hz7:=hg7.size;have hbr7:Blk w7 b0 295 ((List.replicate 8 0#64).map wB):=((((hbr.grow hg4).upd hu5 oM).grow hg6).grow hg7)
 have hg8:Grow w w7:=(((aI hu5 oM (hg.trans hg4)).trans hg6).trans hg7)
 repeat (first|(refine bZ ?_;refine eJ rfl rfl hbr7 rfl rfl (by simp [Value.oneCell']) ?_;intro w' hu hbk hsz)|refine yC ?_)
 exact retC rfl (aW hbk rfl) ⟨_,rfl,rfl,aI hu oM hg8⟩
def sumB (s:St) (i:Nat):Nat:=(s.l.getD (i / 8) 0#64).toNat / 2^(56-8*(i%8))%256
def sumS (s:St):Bs:=(List.range 64).map (sumB s)
def sumL (s:St):Nat→Bs
 | 0=>zs 64
 | i+1=>(sumL s i).set i (sumB s i)
theorem sumL_len (s:St) (i:Nat):(sumL s i).length=64:=by induction i with|zero=>rfl|succ i ih=>simp [sumL,ih]
theorem sumL_at (s:St):∀ (i:Nat),i≤64→∀ j,j<i→(sumL s i)[j]? = some (sumB s j)
 | 0,_,j,h=>by omega
 | i+1,hi,j,h=>by
  simp only [sumL];have hl:=sumL_len s i;by_cases hj:j=i
  ·subst hj;rw [List.getElem?_set_self oM]
  ·rw [List.getElem?_set_ne oM];exact sumL_at s i oM j oM
theorem sumL_end (s:St):sumL s 64=sumS s:=by
 apply List.ext_getElem?;intro j;by_cases hj:j<64
 ·rw [sumL_at s 64 (Nat.le_refl _) j hj];simp [sumS,hj]
 ·rw [List.getElem?_eq_none (by rw [sumL_len];omega),List.getElem?_eq_none (by simp [sumS];omega)]
theorem kO (s:St):(sumS s).length=64:=by simp [sumS]
def shaB (l:Bs):Bs:=(sumS (kW shortS l)).take 32
theorem kP (l:Bs):(shaB l).length=32:=by simp [shaB,kO]
theorem bys_set (l:Bs) (i x:Nat):(bB l).set i (.int .u8 (x:Int))=bB (l.set i x):=by simp [bB,List.map_set]
theorem zero_64:(Tryz.prog.info? 238).bind (·.zero)=some (.agg (bB (zs 64)).toArray):=by kernel_rfl
theorem sum_c (s:St) (w:World):Calls Tryz.prog 211 #[.agg (s.l.map wB).toArray] w (Ret λ v w'=>v=.agg (bB (sumS s)).toArray∧Grow w w'):=by
 refine V.calls (args:=[_]) Tryz.func211 rfl Tryz.ntmps211 rfl rfl ?_;repeat (first|(refine fL ?_;refine eS 64 zero_64 rfl ?_;intro bk w' hg hbk hsz hsz')|refine yC ?_|refine yI λ bk w' hg hbk hsz hsz'=>?_)
 rename_i b1 w1 hg1 hb1 q1 q1' b2 w2 hg2 hb2 q2 q2';have hb1':Blk w' b1 295 (s.l.map wB):=by exact yB
 have hb2':Blk w' b2 238 (bB (zs 64)):=by exact yB
 have hgw:Grow w w':=by exact yG
 have hn:b1≠bk∧b2≠bk∧w.heap.size≤bk∧w.heap.size≤b2:=by omega
 clear hg1 hb1 q1 q1' hg2 hb2 q2 q2' hg hsz hsz';refine aX (S:=Nat) (λ i=>[(5,.int .i64 (i:Int)),(3,.pointer (some ⟨bk,0,none⟩)),(2,.pointer (some ⟨b2,0,none⟩)),(1,.pointer (some ⟨b1,0,none⟩))]) (λ i w3=>i≤64∧Blk w3 bk 238 (bB (sumL s i))∧Blk w3 b1 295 (s.l.map wB)∧Blk w3 b2 238 (bB (zs 64))∧Grow w w3) (λ i=>64-i) 0 ⟨rfl,rfl,rfl,rfl,trivial⟩ ⟨oM,hbk,hb1',hb2',hgw⟩ ?_;clear hbk hb1' hb2' hgw;rintro i w3 ⟨hi,hbk,hb1,hb2,hg⟩;have hln:=sumL_len s i;by_cases hlt:i<64
 ·have hsl:s.l.length=8:=rfl;repeat (first|(refine aO ?_;refine aQ rfl (Blk.cell hb1 (kD oM)) rfl ?_)|(refine aH ?_;refine TL.indexA1 (j:=i / 8) rfl rfl oM rfl ?_)|(refine eQ ?_;refine TL.mulN (a:=8) rfl rfl oM rfl ?_)|(refine iP ?_;refine TL.subN (a:=56) (b:=8*(i%8)) rfl rfl oM oM rfl ?_)|(refine eU ?_;refine TL.shrS rfl rfl (by show 56-8*(i%8)≤64;omega) rfl ?_)|(refine dL ?_;refine iC rfl (M:=256) rfl rfl ?_)|refine yC ?_)
  have hget:(s.l.getD (i / 8) 0#64).toNat / 2^(56-8*(i%8))%256=sumB s i:=rfl;rw [hget];refine dQ rfl rfl hbk rfl (by rw [bE,hln];exact Nat.ble_eq_true_of_le oM) (bys_set _ _ _) ?_;intro w7 hu7 hb7 hs7;repeat refine aF ?_
  exact aE (i+1) ⟨rfl,rfl,rfl,rfl,trivial⟩ ⟨hlt,hb7,hb1.upd hu7 hn.1,hb2.upd hu7 hn.2.1,aI hu7 hn.2.2.1 hg⟩ oM
 obtain rfl:i=64:=by omega
 rw [sumL_end] at hbk;have hl:=kO s;generalize sumS s=l at *;clear hln;obtain ⟨z,hz⟩:∃ z,z=zs 64:=⟨_,rfl⟩
 have hzl:z.length=64:=by rw [hz];exact cJ _
 rw [← hz] at hb2;clear hz;repeat (first|refine nX rfl hbk hl rfl ?_|(refine bZ ?_;refine fK rfl rfl hb2 hzl hl ?_;intro w' hu hb2' hsz)|refine yC ?_)
 exact retC rfl (aW hb2' (by rw [bE,hl];rfl)) ⟨_,rfl,rfl,aI hu hn.2.2.2 hg⟩
theorem sha_c (F:Nat→Prop) (a:Option Addr) (n c:Nat) (bss:List Bs) (w:World) (h:KysAt F w a n c bss) (hn:bss.flatten.length≤100000) (hb:∀ b∈bss.flatten,b<256) :
  Calls Tryz.prog 169 #[.slice a n c] w (Ret λ v w'=>v=.agg (bB (shaB bss.flatten)).toArray∧Grow w w'):=by
 refine V.calls (args:=[_]) Tryz.func169 rfl Tryz.ntmps169 rfl rfl ?_;repeat (first|(refine fL ?_;refine eS 32 zero_dig rfl ?_;intro bk w' hg hbk hsz hsz')|refine yC ?_)
 refine aB 213 ?_;refine aA (vs:=[]) rfl (short_c _) rfl ?_;rintro _ w2 ⟨rfl,hg2⟩;repeat refine aF ?_
 refine aB 212 ?_;refine aA rfl (whole_c F shortS a n c bss _ (h.go (Carry.grow (hg.trans hg2))) hn hb) rfl ?_;rintro _ w3 ⟨rfl,hg3⟩;refine aB 211 ?_;refine aA rfl (sum_c _ _) rfl ?_;rintro _ w4 ⟨rfl,hg4⟩;unfold shaB;have hl:=kO (kW shortS bss.flatten);generalize sumS (kW shortS bss.flatten)=l at *;have hb4:Blk w4 bk 243 (bB (zs 32)):=((hbk.grow hg2).grow hg3).grow hg4;have hgw:Grow w w4:=((hg.trans hg2).trans hg3).trans hg4;have hle:w.heap.size≤bk:=by omega
 have hbl:=hb4.lt;clear hg hbk hsz hsz' hg2 hg3 hg4;repeat (first|(refine fL ?_;refine eS 64 zero_64 rfl ?_;intro b2 w5 hg5 hb5 q1 q2)|(refine bZ ?_;refine fK rfl rfl hb5 (cJ _) hl ?_;intro w6 hu6 hb6 q3)|refine yC ?_)
 have hb46:Blk w6 bk 243 (bB (zs 32)):=(hb4.grow hg5).upd hu6 oM;have hsl:Sl (λ k=>k=b2) w6 1 (some ⟨b2,0,none⟩) 32 64 (bB ((l.drop 0).take 32)):=jO (o:=0) (m:=32) (c:=64) hb6 oM oM dM;rw [List.drop_zero] at hsl;refine TL.arrayAt (a:=some ⟨b2,0,none⟩) (n:=11) rfl (Nat.le_refl 32) rfl ?_;refine TL.loadAll rfl hsl rfl rfl ?_;have hl2:(l.take 32).length=32:=by rw [List.length_take,hl];rfl
 generalize l.take 32=l2 at *;refine fK rfl rfl hb46 (cJ _) hl2 ?_;intro w7 hu7 hb7 _;repeat refine aF ?_
 exact retC rfl (aW hb7 (by rw [bE,hl2];rfl)) ⟨_,rfl,rfl,aI hu7 hle (aI hu6 oM (hgw.trans hg5))⟩
def dB (b:Bs):Bs:=b++zs (500-b.length)
def gQ (n:Nat) (b:Bs):Bs:=(shaB (bP n++dB b)).take 12++dB b
theorem jE (b:Bs) (h:b.length≤500):(dB b).length=500:=by simp [dB,cJ];omega
theorem lN (n:Nat) (b:Bs) (h:b.length≤500):(gQ n b).length=512:=by
 unfold gQ;rw [List.length_append,List.length_take,kP,jE b h];rfl
theorem lL (n:Nat):(bP n).length=4:=rfl
theorem word4_lt (n:Nat):∀ b∈bP n,b<256:=by
 intro b hb;simp only [bP,List.mem_cons,List.not_mem_nil,or_false] at hb;omega
theorem body_lt {b:Bs} (h:∀ x∈b,x<256):∀ x∈dB b,x<256:=by
 intro x hx;simp only [dB,zs,List.mem_append,List.mem_replicate] at hx;rcases hx with hx|hx
 ·exact h x hx
 ·omega
def kyF {B:Nat} (m:Nat) (l:List Bs):SFact B:={ G:=λ v _ _ w=>∃ a c,v=.slice a m c∧KysAt (λ _=>True) w a m c l,st:=λ v _ _ w w' g h=>by obtain ⟨a,c,h1,h2⟩:=h;exact ⟨a,c,h1,h2.go (Carry.grow g)⟩ }
theorem page_c (F:Nat→Prop) (n:Nat) (hn:n<4294967296) (a:Option Addr) (m c:Nat) (b:Bs) (w:World) (hs:Sl F w 1 a m c (bB b)) (hm:m≤500) (hb:∀ x∈b,x<256) :
  Calls Tryz.prog 123 #[.int .i64 (n:Int),.slice a m c] w (Ret λ v w'=>v=.agg (bB (gQ n b)).toArray∧Grow w w'):=by
 have hlb:=gX hs;refine V.calls (args:=[_,_]) Tryz.func123 rfl Tryz.ntmps123 rfl rfl ?_;repeat (first|(refine fL ?_;refine eS 512 zero_page rfl ?_;intro bk w' hg hbk hsz hsz')|refine yC ?_)
 rename_i b4 w1 hg1 hb4 q1 q2;have hsz1:=hg.size;refine TL.copyB (b:=bk) (o:=12) (m:=500) (c:=500) rfl rfl hbk (hs.grow (hg1.trans hg)) (bO b) (by rw [bE,cJ];omega) rfl ?_;intro w2 hu2 hb2 hz2
 have hb0:iH (bB (zs 512)) 12 ((bB b).take (min m 500))=bB (zs 12++dB b):=by
  rw [List.take_of_length_le (by rw [bE];omega),putAt_eq _ _ _ (by rw [bE,bE,cJ];omega),bE];unfold dB bB zs;rw [← List.append_assoc];simp only [List.map_append,List.map_replicate,List.take_replicate,List.drop_replicate];rw [show min 12 512=12 from rfl,show 512-(12+b.length)=500-b.length by omega]
 rw [hb0] at hb2;have hb42:Blk w2 b4 197 (bB (zs 512)):=(hb4.grow hg).upd hu2 oM;have hgw:Grow w w2:=aI hu2 oM (hg1.trans hg);have hne:b4≠bk∧w.heap.size≤bk∧w.heap.size≤b4:=by omega
 have hl5:=jE b oM;have hlt5:=body_lt hb;have hpg:gQ n b=(shaB (bP n++dB b)).take 12++dB b:=rfl;rw [hpg];generalize dB b=B at *;clear hbk hb4 hg1 hg q1 q2 hsz hsz' hsz1 hu2 hz2 hb0 hpg;repeat refine aF ?_
 apply T.any 7 [is (.int .i64 (n:Int)),is (.int .u64 (n:Int)),own w2.heap.size 5 1 4 (bB (bP n)),is (.slice (some ⟨bk,12,none⟩) 500 500),kyF 2 [bP n,B],is (.agg (bB (shaB (bP n++B))).toArray),newB 243 (bB (zs 32))]
 ·rfl
 ·repeat' (first|exact aN|refine aK ?_ ?_)
  ·refine yQ λ wq _ _ hgq=>?_;repeat refine aF ?_
   exact aD rfl yG rfl
  ·refine yQ λ wq _ _ hgq=>?_;repeat refine aF ?_
   exact aD rfl yG rfl
  ·refine yQ λ wq _ _ hgq=>?_;refine aB 170 ?_;refine aA rfl (word_c n oM _) rfl ?_;rintro v w4 ⟨hown,hg4⟩;repeat refine aF ?_
   exact aD rfl yG (eC hown hgq.size)
  ·refine yQ λ wq _ _ hgq=>?_;repeat refine aF ?_
   exact aD rfl yG rfl
  ·(((refine bX rfl rfl rfl ?_);( intro wq _ _ hgq;(repeat (refine aJ rfl rfl ?_;intro vq hvq;try (obtain rfl:=hvq)));(refine aZ ?_))))
   obtain ⟨a1,c1,rfl,hs1⟩:=aM hvq;have hbq:=hb2.grow hgq;have hs5:Sl (λ _=>True) _ 1 (some ⟨bk,12,none⟩) 500 500 (bB (((zs 12++B).drop 12).take 500)):=(jO (o:=12) (m:=500) (c:=500) hbq (by rw [List.length_append,cJ,hl5];omega) (Nat.le_refl _) dM).mono (λ _ _=>trivial);rw [List.drop_left' (cJ 12),List.take_of_length_le oM] at hs5;refine TL.buildSlice rfl rfl rfl rfl rfl ?_;intro b3 w4 hg4 hb3 r1 r2 r3;repeat refine aF ?_
   have hsl:Sl (λ _=>True) w4 1 (some ⟨b3,0,none⟩) 2 2 [.slice a1 4 c1,.slice (some ⟨bk,12,none⟩) 500 500]:=(aV (sz:=1) (m:=2) hb3 r3 dM).mono (λ _ _=>trivial);exact aD rfl yG ⟨_,_,rfl,⟨_,hsl,⟨_,_,_,rfl,(hs1.grow hg4).mono (λ _ _=>trivial)⟩,⟨_,_,_,rfl,hs5.grow hg4⟩,trivial⟩⟩
  ·refine bX rfl rfl rfl ?_;intro wq _ _ hgq;refine aJ rfl rfl ?_;intro v4 h4;refine aJ rfl rfl ?_;intro v2 h2;refine aZ ?_;obtain ⟨a4,c4,rfl,h4⟩:=h4;refine aB 169 ?_
   refine aA rfl (sha_c _ a4 2 c4 [bP n,B] _ h4 (by simp [lL,hl5]) (by
    intro x hx;simp only [List.flatten_cons,List.flatten_nil,List.append_nil,List.mem_append] at hx;rcases hx with hx|hx
    ·exact word4_lt n x hx
    ·exact hlt5 x hx)) rfl ?_
   rintro _ w4 ⟨rfl,hg4⟩;rw [show [bP n,B].flatten=bP n++B by simp];repeat refine aF ?_
   exact aD rfl yG rfl
  ·refine yQ λ wq _ _ hgq=>?_;refine eS 32 zero_dig rfl ?_;intro b5 w4 hg4 hb5 q1 q2;repeat refine aF ?_
   exact aD rfl yG ⟨b5,rfl,oM,oM,hb5⟩
 ·intro w6 lo6 hi6 hg6 _ _;iterate 7 (refine aJ rfl rfl ?_;intro vq hvq;try (obtain rfl:=hvq))
  refine aZ ?_;obtain ⟨b5,rfl,h51,h52,hb5⟩:=hvq;have hD:=kP (bP n++B);generalize shaB (bP n++B)=D at *;have hb2':=hb2.grow hg6;have hb4':=hb42.grow hg6;have hgw':=hgw.trans hg6;have hl2:=hb2.lt;have hl4:=hb42.lt;have hspan:=‹∀ (i:Nat),i<7→w2.heap.size≤lo6 i∧lo6 i≤hi6 i∧hi6 i≤w6.heap.size› 6 oM;have h51':lo6 6≤b5:=h51;have hb5n:bk≠b5∧b4≠b5∧w.heap.size≤b5:=by have:=hgw.size;omega
  repeat (first|(refine bZ ?_;refine fK rfl rfl hb5 (cJ _) hD ?_;intro w7 hu7 hb7 _)|refine yC ?_)
  have hb27:=hb2'.upd hu7 hb5n.1;have hb47:=hb4'.upd hu7 hb5n.2.1;have hgw7:Grow w w7:=aI hu7 hb5n.2.2 hgw';apply T.any 2 [is (.slice (some ⟨bk,0,none⟩) 12 512),is (.slice (some ⟨b5,0,none⟩) 32 32)]
  ·rfl
  ·repeat' (first|exact aN|refine aK ?_ ?_)
   iterate 2
    ·refine yQ λ wq _ _ hgq=>?_;repeat refine aF ?_
     exact aD rfl yG rfl
  ·intro w8 lo8 hi8 hg8 _ _;((refine yT ?_))
   have hb78:=hb7.grow hg8;have hs8:=jO (o:=0) (m:=32) (c:=32) hb78 oM (Nat.le_refl _) dM;rw [List.drop_zero,List.take_of_length_le oM] at hs8;refine TL.copyB (b:=bk) (o:=0) (m:=12) (c:=512) rfl rfl (hb27.grow hg8) hs8 (bO D) (by rw [bE,List.length_append,cJ,hl5];omega) rfl ?_;intro w9 hu9 hb9 hz9
   have hfin:iH (bB (zs 12++B)) 0 ((bB D).take (min 32 12))=bB (D.take 12++B):=by
    rw [show min 32 12=12 from rfl,show (bB D).take 12=bB (D.take 12) by simp [bB,List.map_take],putAt_bys (by rw [List.length_take,List.length_append,cJ];omega)];have e1:(D.take 12).length=12:=by rw [List.length_take,hD];rfl
    rw [e1,List.take_zero,List.nil_append,Nat.zero_add,List.drop_left' (cJ 12)]
   rw [hfin] at hb9;have hl9:(D.take 12++B).length=512:=by rw [List.length_append,List.length_take,hD,hl5];rfl
   have hb49:=(hb47.grow hg8).upd hu9 hne.1;have hgw9:Grow w w9:=aI hu9 hne.2.1 (hgw7.trans hg8);generalize D.take 12++B=R at *;repeat (first|refine nX rfl hb9 hl9 rfl ?_|(refine bZ ?_;refine fK rfl rfl hb49 (cJ _) hl9 ?_;intro w10 hu10 hb10 _)|refine yC ?_)
   exact retC rfl (aW hb10 (by rw [bE,hl9];rfl)) ⟨_,rfl,rfl,aI hu10 hne.2.2 hgw9⟩
def kV (l:List Nat):List Value:=l.map λ (x:Nat)=>.int .u64 (x:Int)
theorem gH (l:List Nat):(kV l).length=l.length:=by simp [kV]
theorem ws64_at {l:List Nat} {i:Nat} (h:i<l.length):(kV l)[i]? = some (.int .u64 ((l.getD i 0:Nat):Int)):=by
 simp [kV,List.getD_eq_getElem?_getD,h]
instance:PtrTy Tryz.prog 25:=⟨kR⟩
def pgc (p d u c W:Nat):List Value:=[.pointer (some ⟨p,0,none⟩),.pointer (some ⟨d,0,none⟩),.int .i64 (c:Int),.slice (some ⟨u,0,none⟩) W W]
structure PL where
 p:Nat
 d:Nat
 u:Nat
 m:Nat
 s:Nat
structure PgAt (w:World) (L:PL) (g:Pg):Prop where
 blk:Blk w L.p 150 (pgc L.p L.d L.u g.count g.words.length)
 used:Blk w L.u 168 (kV g.words)
 ok:PgOk g
 cnt:g.count≤8192
 f:∃ f:Nat→Option Value,DkAt w L.d L.s L.m (2*g.count) f∧∀ n,bL g n=true→f (2*n)=some (.agg (bB ((gQ n (g.body n)).take 256)).toArray)∧f (2*n+1)=some (.agg (bB ((gQ n (g.body n)).drop 256)).toArray)
 lt:∀ n,∀ x∈g.body n,x<256
 bl:∀ n,bL g n=true→(g.body n).length=500
 ne:L.p≠L.u∧L.p≠L.m∧L.u≠L.m∧L.d≠L.u∧L.d≠L.p
theorem valid_c {w:World} {L:PL} {g:Pg} (h:PgAt w L g) :
  Calls Tryz.prog 85 #[.pointer (some ⟨L.p,0,none⟩)] w (Ret λ v w'=>v=.bool true∧w=w'):=by
 refine V.calls (args:=[_]) Tryz.func85 rfl Tryz.ntmps85 rfl rfl ?_;have hb:=h.blk;unfold pgc at hb;repeat (first|(refine TL.isNeT 25 ?_;refine TL.neNilP rfl rfl rfl ?_)|(refine kU 25 ?_;refine TL.eqSame rfl rfl rfl ?_)|refine yA ?_)
 exact bA rfl ⟨_,rfl,rfl,rfl⟩
theorem has_c {w:World} {L:PL} {g:Pg} (h:PgAt w L g) (n:Nat) (hn:n<9223372036854775808) :
  Calls Tryz.prog 91 #[.pointer (some ⟨L.p,0,none⟩),.int .i64 (n:Int)] w (Ret λ v w'=>v=.bool (bL g n)∧w=w'):=by
 refine V.calls (args:=[_,_]) Tryz.func91 rfl Tryz.ntmps91 rfl rfl ?_;have hb:=h.blk;have hu:=h.used;have hcn:=h.cnt;unfold pgc at hb;by_cases hlt:n<g.count
 ·have hdv:=used_div h.ok hlt;have hux:Sl (λ k=>k=L.u) w 1 (some ⟨L.u,0,none⟩) g.words.length g.words.length (kV g.words):=aV (sz:=1) (m:=g.words.length) hu (by rw [gH,Nat.mul_one]) (by unfold maxLen;have:=h.ok.wl;omega);have hcell:w.cell? (at' (some ⟨L.u,0,none⟩) (n / 64))=some (.int .u64 ((g.words.getD (n / 64) 0:Nat):Int)):=hux.row.cell (ws64_at hdv);have hup:bL g n=(g.words.getD (n / 64) 0).testBit (n%64):=by simp [bL,hlt]
  rw [hup,Nat.testBit_eq_decide_div_mod_eq]
  have hxl:g.words.getD (n / 64) 0<18446744073709551616:=by
   rw [List.getD_eq_getElem?_getD,List.getElem?_eq_getElem hdv];exact h.ok.w64 _ (List.getElem_mem _)
  generalize g.words.getD (n / 64) 0=x at *;have hq:x / 2^(n%64)<18446744073709551616:=Nat.lt_of_le_of_lt (Nat.div_le_self ..) hxl;have hr:x / 2^(n%64)%2=1∨x / 2^(n%64)%2=0:=by omega
  repeat (first|(refine aH ?_;refine aC (j:=n / 64) rfl rfl oM hdv (Nat.mul_one _) ⟨_,_,hux⟩ rfl ?_)|(refine TL.isAnd ?_;refine TL.andU rfl rfl rfl rfl hq oM rfl ?_)|refine yC ?_)
  exact bA rfl ⟨_,rfl,by
   congr 1
   rcases hr with hr|hr<;>rw [hr]<;>rfl,rfl⟩
 ·have hup:bL g n=false:=by simp [bL,hlt]
  rw [hup];repeat (refine yC ?_)
  exact bA rfl ⟨_,rfl,rfl,rfl⟩
theorem has_neg {w:World} {L:PL} (p':List Value) :
  Calls Tryz.prog 91 #[.pointer (some ⟨L.p,0,none⟩),.int .i64 (-1)] w (Ret λ v w'=>v=.bool false∧w=w'):=by
 refine V.calls (args:=[_,_]) Tryz.func91 rfl Tryz.ntmps91 rfl rfl ?_;repeat (refine yA ?_)
 exact bA rfl ⟨_,rfl,rfl,rfl⟩
theorem pcheck_c {w:World} {L:PL} {g:Pg} (h:PgAt w L g) (n:Nat) (hn:n<9223372036854775808) :
  Calls Tryz.prog 128 #[.pointer (some ⟨L.p,0,none⟩),.int .i64 (n:Int)] w (Ret λ v w'=>v=.int .i64 (if bL g n=true then 0 else 6)∧w=w'):=by
 refine V.calls (args:=[_,_]) Tryz.func128 rfl Tryz.ntmps128 rfl rfl ?_;repeat (first|(refine aB 85 ?_;refine aA rfl (valid_c h) rfl ?_;rintro _ _ ⟨rfl,rfl⟩)|(refine aB 91 ?_;refine aA rfl (has_c h n hn) rfl ?_;rintro _ _ ⟨rfl,rfl⟩)|refine yA ?_)
 cases hu:bL g n with
 | true =>
  repeat refine dF ?_
  exact bA rfl ⟨_,rfl,rfl,rfl⟩
 | false =>
  repeat refine dF ?_
  exact bA rfl ⟨_,rfl,rfl,rfl⟩
theorem pcheck_neg {w:World} {L:PL} {g:Pg} (h:PgAt w L g) :
  Calls Tryz.prog 128 #[.pointer (some ⟨L.p,0,none⟩),.int .i64 (-1)] w (Ret λ v w'=>v=.int .i64 6∧w=w'):=by
 refine V.calls (args:=[_,_]) Tryz.func128 rfl Tryz.ntmps128 rfl rfl ?_;repeat (first|(refine aB 85 ?_;refine aA rfl (valid_c h) rfl ?_;rintro _ _ ⟨rfl,rfl⟩)|(refine aB 91 ?_;refine aA rfl (has_neg []) rfl ?_;rintro _ _ ⟨rfl,rfl⟩)|refine yA ?_)
 exact bA rfl ⟨_,rfl,rfl,rfl⟩
end Go.Proofs.YtfpadnmdafiddaaGreatDoor
namespace Go.V
open Go Go.RowKit
section
variable [Rn]
variable {P:Program} {n:Nat} {e:dJ} {w:World} {Q:dI} {ops:Array Oper} {rest:List Oper} {d:Nat} {ty:TypeId} {pos:String} {aft:Array Edge}
theorem TL.orN6 {x y:Operand} {a b:Nat} {zx zy:Int} {t1 t2:TypeId} (hx:val e x=some (.int .u64 zx)) [ix:Lit zx a] (hy:val e y=some (.int .u64 zy)) [iy:Lit zy b] (ha:a<18446744073709551616) (hb:b<18446744073709551616) (hd:Nat.blt d n=true)
  (k:TL P n ops rest ((d,.int .u64 ((a|||b:Nat):Int))::e) w Q):TL P n ops (⟨some d,.binOp .or t1 x y t2,ty,pos,aft,none⟩::rest) e w Q :=
 TL.run (λ r hr=>by
  rw [ix.h] at hx;rw [iy.h] at hy
  have e1:((BitVec.ofInt IntKind.u64.bits (a:Int))|||(BitVec.ofInt IntKind.u64.bits (b:Int))).toNat=a|||b:=by
   rw [BitVec.toNat_or,bits_nat (M:=18446744073709551616) rfl,bits_nat (M:=18446744073709551616) rfl,Nat.mod_eq_of_lt ha,Nat.mod_eq_of_lt hb]
  have e2:=eV (kd:=.u64) (M:=18446744073709551616) rfl (show a|||b<18446744073709551616 from Nat.or_lt_two_pow (n:=64) ha hb);rw [← e1] at e2
  have hb:binOp .or t1 (.int .u64 (a:Int)) (.int .u64 (b:Int))=Pure.pure (.int .u64 ((a|||b:Nat):Int)):=by
   simp only [binOp,Op.intBits,ne_eq,not_true_eq_false,if_false];rw [e2,e1]
  simp only [execOp,bG,hr.eval hx,hr.eval hy,hb]
  rfl) hd k
end
end Go.V
namespace Go.Proofs.YtfpadnmdafiddaaGreatDoor
open Go Go.RowKit Go.V
theorem ws64_set (l:List Nat) (i x:Nat):(kV l).set i (.int .u64 (x:Int))=kV (l.set i x):=by simp [kV,List.map_set]
theorem pow_lt64 (n:Nat):2^(n%64)<18446744073709551616:=by
 have:n%64<64:=Nat.mod_lt _ oM
 calc 2^(n%64)<2^64:=Nat.pow_lt_pow_right oM this
  _=18446744073709551616:=by decide
theorem mark_c {w:World} {p u W:Nat} {x0 x1 x2:Value} {l:List Nat} (hb:Blk w p 150 [x0,x1,x2,.slice (some ⟨u,0,none⟩) W W]) (hu:Blk w u 168 (kV l)) (hW:l.length=W) (h64:∀ x∈l,x<18446744073709551616) (n:Nat) (hn:n / 64<W) (hW2:W≤1000) :
  Calls Tryz.prog 92 #[.pointer (some ⟨p,0,none⟩),.int .i64 (n:Int)] w (Ret λ v w'=>Blk w' u 168 (kV (gY l n))∧But u w w'):=by
 refine V.calls (args:=[_,_]) Tryz.func92 rfl Tryz.ntmps92 rfl rfl ?_;subst hW
 have hx64:l.getD (n / 64) 0<18446744073709551616:=by
  rw [List.getD_eq_getElem?_getD,List.getElem?_eq_getElem hn];exact h64 _ (List.getElem_mem _)
 have hp64:=pow_lt64 n;have hmk:gY l n=l.set (n / 64) (l.getD (n / 64) 0|||2^(n%64)):=rfl;rw [hmk];have hg:=ws64_at hn;generalize l.getD (n / 64) 0=x at *;generalize hpw:2^(n%64)=y at *;have hux:∀ w',Grow w w'→Sl (λ k=>k=u) w' 1 (some ⟨u,0,none⟩) l.length l.length (kV l):=λ w' g=>aV (sz:=1) (m:=l.length) (hu.grow g) (by rw [gH,Nat.mul_one]) (by unfold maxLen;omega);have hux2:∀ w',Grow w w'→w'.cell? (at' (some ⟨u,0,none⟩) (n / 64))=some (.int .u64 (x:Int)):=λ w' g=>(hux w' g).row.cell hg;repeat refine aF ?_
 apply T.any 12 [is (.pointer (some ⟨p,0,none⟩)),is (.pointer (some ⟨p,0,none⟩)),is (.pointer (some ⟨p,3,none⟩)),is (.slice (some ⟨u,0,none⟩) l.length l.length),is (.int .i64 (n:Int)),is (.int .i64 ((n / 64:Nat):Int)),is (.pointer (some (at' (some ⟨u,0,none⟩) (n / 64)))),is (.int .u64 (x:Int)),is (.int .i64 (n:Int)),is (.int .i64 ((n%64:Nat):Int)),is (.int .u64 (y:Int)),is (.int .u64 ((x|||y:Nat):Int))]
 ·rfl
 ·repeat' (first|exact aN|refine aK ?_ ?_)
  iterate 6
   ·refine yQ λ wq _ _ hgq=>?_;repeat refine aF ?_
    exact aD rfl yG rfl
  ·refine yQ λ wq _ _ hgq=>?_;refine aC (j:=n / 64) rfl rfl rfl hn (Nat.mul_one _) ⟨_,_,hux _ hgq⟩ rfl ?_;repeat refine aF ?_
   exact aD rfl yG rfl
  ·refine yQ λ wq _ _ hgq=>?_;refine aQ rfl (hux2 _ hgq) rfl ?_;repeat refine aF ?_
   exact aD rfl yG rfl
  iterate 2
   ·refine yQ λ wq _ _ hgq=>?_;repeat refine aF ?_
    exact aD rfl yG rfl
  ·refine yQ λ wq _ _ hgq=>?_;refine TL.shlS (a:=1) (M:=18446744073709551616) rfl rfl rfl (by show n%64≤64;omega) (by rw [Nat.one_mul,hpw];exact hp64) rfl ?_;rw [Nat.one_mul,hpw];repeat refine aF ?_
   exact aD rfl yG rfl
  ·refine yQ λ wq _ _ hgq=>?_;refine TL.orN6 rfl rfl hx64 hp64 rfl ?_;repeat refine aF ?_
   exact aD rfl yG rfl
 ·intro w6 lo6 hi6 hg6 _ _;((refine yT ?_))
  refine aC (j:=n / 64) rfl rfl rfl hn (Nat.mul_one _) ⟨_,_,hux _ hg6⟩ rfl ?_;rw [show at' (some ⟨u,0,none⟩) (n / 64)=⟨u,n / 64,none⟩ by rw [at_some,Nat.zero_add]];repeat refine aF ?_
  refine dQ rfl rfl (hu.grow hg6) rfl (by rw [gH];exact Nat.ble_eq_true_of_le hn) (ws64_set _ _ _) ?_;intro w7 hu7 hb7 _;repeat refine aF ?_
  exact cE (vs:=[]) rfl rfl ⟨_,rfl,hb7,but_upd hu7 (but_grow' hg6)⟩
end Go.Proofs.YtfpadnmdafiddaaGreatDoor
namespace Go.V
open Go Go.RowKit
section
variable [Rn]
variable {P:Program} {n:Nat} {e:dJ} {w:World} {Q:dI} {ops:Array Oper} {rest:List Oper} {d:Nat} {ty:TypeId} {pos:String} {aft:Array Edge}
theorem TL.andN6 {x y:Operand} {a b:Nat} {zx zy:Int} {t1 t2:TypeId} (hx:val e x=some (.int .u64 zx)) [ix:Lit zx a] (hy:val e y=some (.int .u64 zy)) [iy:Lit zy b] (ha:a<18446744073709551616) (hb:b<18446744073709551616) (hd:Nat.blt d n=true)
  (k:TL P n ops rest ((d,.int .u64 ((a&&&b:Nat):Int))::e) w Q):TL P n ops (⟨some d,.binOp .and t1 x y t2,ty,pos,aft,none⟩::rest) e w Q :=
 TL.run (λ r hr=>by
  rw [ix.h] at hx;rw [iy.h] at hy
  have e1:((BitVec.ofInt IntKind.u64.bits (a:Int))&&&(BitVec.ofInt IntKind.u64.bits (b:Int))).toNat=a&&&b:=by
   rw [BitVec.toNat_and,bits_nat (M:=18446744073709551616) rfl,bits_nat (M:=18446744073709551616) rfl,Nat.mod_eq_of_lt ha,Nat.mod_eq_of_lt hb]
  have e2:=eV (kd:=.u64) (M:=18446744073709551616) rfl (show a&&&b<18446744073709551616 from Nat.lt_of_le_of_lt Nat.and_le_left ha);rw [← e1] at e2
  have hb:binOp .and t1 (.int .u64 (a:Int)) (.int .u64 (b:Int))=Pure.pure (.int .u64 ((a&&&b:Nat):Int)):=by
   simp only [binOp,Op.intBits,ne_eq,not_true_eq_false,if_false];rw [e2,e1]
  simp only [execOp,bG,hr.eval hx,hr.eval hy,hb]
  rfl) hd k
theorem TL.negN6 {x:Operand} {a:Nat} {zx:Int} {t1:TypeId} (hx:val e x=some (.int .u64 zx)) [ix:Lit zx a] (h0:0<a) (ha:a<18446744073709551616) (hd:Nat.blt d n=true)
  (k:TL P n ops rest ((d,.int .u64 ((18446744073709551616-a:Nat):Int))::e) w Q):TL P n ops (⟨some d,.unOp .neg t1 x,ty,pos,aft,none⟩::rest) e w Q :=
 TL.pure (by
  rw [ix.h] at hx;simp only [pureOp,hx]
  have e1:IntKind.u64.wrap (0-(a:Int))=((18446744073709551616-a:Nat):Int):=by
   simp only [IntKind.wrap,IntKind.signed,IntKind.bits];simp;omega
  rw [e1]) hd k
theorem TL.isAndW {x y:Operand} {t1 t2:TypeId} {d:Option Nat} (h:TL P n ops (⟨d,.binOp .and t1 x y t2,ty,pos,aft,none⟩::rest) e w Q):TL P n ops (⟨d,.binOp .and t1 x y t2,ty,pos,aft,none⟩::rest) e w Q:=h
theorem TL.notN6 {x:Operand} {a:Nat} {zx:Int} {t1:TypeId} (hx:val e x=some (.int .u64 zx)) [ix:Lit zx a] (ha:a<18446744073709551616) (hd:Nat.blt d n=true)
  (k:TL P n ops rest ((d,.int .u64 ((18446744073709551615-a:Nat):Int))::e) w Q):TL P n ops (⟨some d,.unOp .xor t1 x,ty,pos,aft,none⟩::rest) e w Q :=
 TL.run (λ r hr=>by
  rw [ix.h] at hx
  have e1:(BitVec.ofInt IntKind.u64.bits (18446744073709551615:Int) ^^^ BitVec.ofInt IntKind.u64.bits (a:Int)).toNat=18446744073709551615-a:=by
   have h1:BitVec.ofInt IntKind.u64.bits (18446744073709551615:Int)=(BitVec.allOnes 64:BitVec 64):=(by decide:BitVec.ofInt 64 18446744073709551615=BitVec.allOnes 64)
   rw [h1];show (BitVec.allOnes 64 ^^^ BitVec.ofInt 64 (a:Int)).toNat=_;rw [BitVec.allOnes_xor,BitVec.toNat_not]
   have h2:(BitVec.ofInt 64 (a:Int)).toNat=a:=by
    have:=bits_nat (kd:=.u64) (M:=18446744073709551616) rfl a;rw [Nat.mod_eq_of_lt ha] at this;exact this
   rw [h2]
  have e2:=eV (kd:=.u64) (M:=18446744073709551616) rfl (show 18446744073709551615-a<18446744073709551616 by omega);rw [← e1] at e2
  have hb:Op.intBits .xor .u64 18446744073709551615 (a:Int)=Pure.pure (.int .u64 ((18446744073709551615-a:Nat):Int)):=by
   simp only [Op.intBits,ne_eq,not_true_eq_false,if_false];rw [e2,e1]
  have hs:(if IntKind.u64.signed=true then (-1:Int) else IntKind.u64.max)=18446744073709551615:=by decide
  simp only [execOp,hr.eval hx,Op.unary];rw [hs,hb]
  rfl) hd k
end
end Go.V
namespace Go.Proofs.YtfpadnmdafiddaaGreatDoor
open Go Go.RowKit Go.V
theorem odd_split:∀ (x:Nat),x≠0→∃ k m,x=2^k*(2*m+1):=by
 intro x
 induction x using Nat.strongRecOn with
 | _ x ih =>
  intro h;by_cases h2:x%2=1
  ·exact ⟨0,x / 2,oM⟩
  ·obtain ⟨k,m,hk⟩:=ih (x / 2) oM oM;exact ⟨k+1,m,by rw [Nat.pow_succ,Nat.mul_comm (2^k) 2,Nat.mul_assoc,← hk];omega⟩
theorem mT (k m i:Nat):(2^k*(2*m+1)).testBit i=if i<k then false else if i=k then true else m.testBit (i-k-1):=by
 have h:=Nat.testBit_two_pow_mul_add (2*m+1) (b:=0) (i:=k) (Nat.two_pow_pos k) i;rw [Nat.add_zero] at h;rw [h];by_cases h1:i<k
 ·simp [h1]
 ·rw [if_neg h1,if_neg h1];by_cases h2:i=k
  ·subst h2;simp
  ·rw [if_neg h2];obtain ⟨t,ht⟩:∃ t,i-k=t+1:=⟨i-k-1,oM⟩
   rw [ht,Nat.testBit_succ,show (2*m+1) / 2=m by omega];rfl
theorem bit_pred (k m i:Nat):(2^k*(2*m+1)-1).testBit i=if i<k then true else if i=k then false else m.testBit (i-k-1):=by
 have hp:=Nat.two_pow_pos k;have e:2^k*(2*m+1)-1=2^k*(2*m)+(2^k-1):=by rw [Nat.mul_add,Nat.mul_one];omega
 rw [e,Nat.testBit_two_pow_mul_add (2*m) (b:=2^k-1) (i:=k) oM i];by_cases h1:i<k
 ·simp [h1,Nat.testBit_two_pow_sub_one]
 ·rw [if_neg h1,if_neg h1];by_cases h2:i=k
  ·subst h2;simp
  ·rw [if_neg h2];obtain ⟨t,ht⟩:∃ t,i-k=t+1:=⟨i-k-1,oM⟩
   rw [ht,Nat.testBit_succ,show (2*m) / 2=m by omega];rfl
theorem low_bit (k m:Nat) (h:2^k*(2*m+1)<18446744073709551616):(2^k*(2*m+1))&&&(18446744073709551616-2^k*(2*m+1))=2^k:=by
 apply Nat.eq_of_testBit_eq;intro i;have hp:=Nat.two_pow_pos k;have hpos:0<2^k*(2*m+1):=Nat.mul_pos hp oM
 have e:18446744073709551616-2^k*(2*m+1)=2^64-((2^k*(2*m+1)-1)+1):=by
  rw [Nat.sub_add_cancel hpos]
 rw [Nat.testBit_and,e,Nat.testBit_two_pow_sub_succ oM,mT,bit_pred,Nat.testBit_two_pow]
 have hk64:k<64:=by
  rcases Nat.lt_or_ge k 64 with h1|h1
  ·exact h1
  ·have h2:2^64≤2^k:=Nat.pow_le_pow_right oM h1;have h3:2^k*1≤2^k*(2*m+1):=Nat.mul_le_mul_left _ oM;have h4:(2:Nat)^64=18446744073709551616:=by decide
   omega
 by_cases h1:i<k
 ·simp [h1];omega
 ·by_cases h2:i=k
  ·subst h2;simp [hk64]
  ·simp only [h1,h2,if_false];cases m.testBit (i-k-1)<;>simp<;>omega
def tabB:Bs:=[0,1,56,2,57,49,28,3,61,58,42,50,38,29,17,4,62,47,59,36,45,43,51,22,53,39,33,30,24,18,12,5,63,55,48,27,60,41,37,16,46,35,44,21,52,32,23,11,54,26,40,15,34,20,31,10,25,14,19,9,13,8,7,6]
def TabAt (w:World):Prop:=0<w.heap.size∧∀ (j x:Nat),tabB[j]? = some x→w.cell? ⟨0,j,none⟩=some (.int .u8 (x:Int))
theorem TabAt.keep {w w':World} (h:TabAt w) (h0:w'.heap[0]? = w.heap[0]?) (hs:w.heap.size≤w'.heap.size):TabAt w' :=
 ⟨Nat.lt_of_lt_of_le h.1 hs,λ j x hj=>(World.cell?_of_block (w:=w) (a:=⟨0,j,none⟩) h0).trans (h.2 j x hj)⟩
theorem TabAt.grow {w w':World} (h:TabAt w) (g:Grow w w'):TabAt w':=h.keep (g.block 0 h.1) g.size
theorem TabAt.but {w w':World} {b:Nat} (h:TabAt w) (u:But b w w') (hb:b≠0):TabAt w':=h.keep (u.block 0 h.1 oM) u.size
theorem tab_at:∀ k:Fin 64,2^k.val*285870213051353865%18446744073709551616 / 288230376151711744<64∧tabB[2^k.val*285870213051353865%18446744073709551616 / 288230376151711744]? = some k.val:=by decide +kernel
theorem tz0_c (w:World):Calls Tryz.prog 102 #[.int .u64 0] w (Ret λ v w'=>v=.int .i64 64∧w=w'):=by
 refine V.calls (args:=[_]) Tryz.func102 rfl Tryz.ntmps102 rfl rfl ?_;repeat refine dF ?_
 exact bA rfl ⟨_,rfl,rfl,rfl⟩
theorem tz_c (k m:Nat) (h:2^k*(2*m+1)<18446744073709551616) (hk:k<64) (w:World) (ht:TabAt w):Calls Tryz.prog 102 #[.int .u64 ((2^k*(2*m+1):Nat):Int)] w (Ret λ v w'=>v=.int .i64 (k:Int)∧w=w'):=by
 refine V.calls (args:=[_]) Tryz.func102 rfl Tryz.ntmps102 rfl rfl ?_;have hlb:=low_bit k m h;have hpos:0<2^k*(2*m+1):=Nat.mul_pos (Nat.two_pow_pos k) oM;have htab:=tab_at ⟨k,hk⟩;simp only at htab;generalize 2^k*(2*m+1)=x at *;generalize hi:2^k*285870213051353865%18446744073709551616 / 288230376151711744=i at htab;have hidx:2^k*285870213051353865%18446744073709551616 / 2^58=i:=hi;have hcell:w.cell? ⟨0,i,none⟩=some (.int .u8 (k:Int)):=ht.2 i k htab.2;repeat (first|(refine TL.isUn ?_;refine TL.negN6 rfl hpos h rfl ?_)|(refine TL.isAndW ?_;refine TL.andN6 rfl rfl h oM rfl ?_;rw [hlb])|refine yC ?_)
 rw [hidx];repeat (first|refine aQ rfl hcell rfl ?_|refine yC ?_)
 exact bA rfl ⟨_,rfl,rfl,rfl⟩
theorem word_low (x:Nat) (h:x<18446744073709551616):x=18446744073709551615∨∃ k m,18446744073709551615-x=2^k*(2*m+1)∧k<64∧x.testBit k=false∧∀ i,i<k→x.testBit i=true:=by
 by_cases hx:x=18446744073709551615
 ·exact .inl hx
 ·right;obtain ⟨k,m,hk⟩:=odd_split (18446744073709551615-x) oM
  have hb:∀ i,i<64→x.testBit i = !(2^k*(2*m+1)).testBit i:=by
   intro i hi;have e:2^k*(2*m+1)=2^64-(x+1):=by rw [← hk];omega
   rw [e,Nat.testBit_two_pow_sub_succ oM];simp [hi]
  have hk64:k<64:=by
   rcases Nat.lt_or_ge k 64 with h1|h1
   ·exact h1
   ·have h2:2^64≤2^k:=Nat.pow_le_pow_right oM h1;have h3:2^k*1≤2^k*(2*m+1):=Nat.mul_le_mul_left _ oM;have h4:(2:Nat)^64=18446744073709551616:=by decide
    omega
  refine ⟨k,m,hk,hk64,?_,λ i hi=>?_⟩
  ·rw [hb k hk64,mT];simp
  ·rw [hb i oM,mT];simp [hi]
theorem ones_bit (i:Nat) (h:i<64):(18446744073709551615:Nat).testBit i=true:=by
 have:=Nat.testBit_two_pow_sub_one 64 i;rw [show (2:Nat)^64-1=18446744073709551615 by decide] at this;rw [this];simp [h]
theorem lowP_eq {g:Pg} {v:Nat} (hv:v≤g.count) (h1:∀ k,k<v→bL g k=true) (h2:v=g.count∨bL g v=false):lowP g=v:=by
 rcases Nat.lt_trichotomy (lowP g) v with h|h|h
 ·have:=lowP_free (s:=g) oM;rw [h1 _ h] at this;cases this.2
 ·exact h
 ·have:=lowP_le g;rcases h2 with h2|h2
  ·omega
  ·rw [lowP_used h] at h2;cases h2
theorem used_word {g:Pg} {i k:Nat} (hk:k<64) (h:64*i+k<g.count):bL g (64*i+k)=(g.words.getD i 0).testBit k:=by
 have e1:(64*i+k) / 64=i:=by omega
 have e2:(64*i+k)%64=k:=by omega
 simp [bL,h,e1,e2]
theorem lowest_c {w:World} {L:PL} {g:Pg} (h:PgAt w L g) (ht:TabAt w) :
  Calls Tryz.prog 122 #[.pointer (some ⟨L.p,0,none⟩)] w (Ret λ v w'=>v=.int .i64 (lowP g:Int)∧w=w'):=by
 refine V.calls (args:=[_]) Tryz.func122 rfl Tryz.ntmps122 rfl rfl ?_;have hb:=h.blk;have hu:=h.used;have hcn:=h.cnt;have hwl:=h.ok.wl;unfold pgc at hb;have hux:Sl (λ k=>k=L.u) w 1 (some ⟨L.u,0,none⟩) g.words.length g.words.length (kV g.words):=aV (sz:=1) (m:=g.words.length) hu (by rw [gH,Nat.mul_one]) (by unfold maxLen;omega);repeat refine aF ?_
 refine aX (S:=Nat) (λ i=>[(11,.int .i64 (i:Int)),(10,.int .i64 (g.words.length:Int)),(9,.slice (some ⟨L.u,0,none⟩) g.words.length g.words.length),(0,.pointer (some ⟨L.p,0,none⟩))]) (λ i w'=>w=w'∧i≤g.words.length∧∀ j,j<i→g.words.getD j 0=18446744073709551615) (λ i=>g.words.length-i) 0 ⟨rfl,rfl,rfl,rfl,trivial⟩ ⟨rfl,oM,λ j hj=>by omega⟩ ?_;rintro i _ ⟨rfl,hi,hall⟩
 have hbefore:∀ k,k<64*i→k<g.count→bL g k=true:=λ k hk hc=>by
  have:=used_word (g:=g) (i:=k / 64) (k:=k%64) oM oM;rw [show 64*(k / 64)+k%64=k by omega,hall (k / 64) oM,ones_bit _ oM] at this;exact this
 by_cases hlt:i<g.words.length;rotate_left
 ·have hlow:lowP g=g.count:=lowP_eq (Nat.le_refl _) (λ k hk=>hbefore k oM hk) (.inl rfl);rw [hlow];repeat refine aF ?_
  exact bA rfl ⟨_,rfl,rfl,rfl⟩
 have hx64:g.words.getD i 0<18446744073709551616:=by
  rw [List.getD_eq_getElem?_getD,List.getElem?_eq_getElem hlt];exact h.ok.w64 _ (List.getElem_mem _)
 have hcell:w.cell? (at' (some ⟨L.u,0,none⟩) i)=some (.int .u64 ((g.words.getD i 0:Nat):Int)):=hux.row.cell (ws64_at hlt);have huw:=λ k (hk:k<64) (hc:64*i+k<g.count)=>used_word (g:=g) (i:=i) hk hc;obtain ⟨x,hx⟩:∃ x,x=g.words.getD i 0:=⟨_,rfl⟩
 rw [← hx] at hcell hx64 huw;rcases word_low x hx64 with hfull|⟨k,m,hk,hk64,hk0,hk1⟩
 ·subst hfull;repeat (first|(refine aH ?_;refine aC (j:=i) rfl rfl rfl hlt (Nat.mul_one _) ⟨_,_,hux⟩ rfl ?_)|(refine TL.isUn ?_;refine TL.notN6 rfl hx64 rfl ?_)|(refine aB 102 ?_;refine aA rfl (tz0_c _) rfl ?_;rintro _ _ ⟨rfl,rfl⟩)|(refine eQ ?_;refine TL.mulN (a:=64) rfl rfl oM rfl ?_)|refine yC ?_)
  exact aE (i+1) ⟨rfl,rfl,rfl,rfl,trivial⟩ ⟨rfl,oM,λ j hj=>by
   by_cases hj2:j=i
   ·subst hj2;exact hx.symm
   ·exact hall j oM⟩ oM
 ·have hlow:lowP g=min (64*i+k) g.count:=by
   by_cases hc:64*i+k<g.count
   ·rw [Nat.min_eq_left oM];refine lowP_eq oM (λ j hj=>?_) (.inr ?_)
    ·by_cases hji:j<64*i
     ·exact hbefore j hji oM
     ·have:=huw (j-64*i) oM oM;rw [show 64*i+(j-64*i)=j by omega,hk1 _ oM] at this;exact this
    ·rw [huw k hk64 hc,hk0]
   ·rw [Nat.min_eq_right oM];refine lowP_eq (Nat.le_refl _) (λ j hj=>?_) (.inl rfl);by_cases hji:j<64*i
    ·exact hbefore j hji hj
    ·have:=huw (j-64*i) oM oM;rw [show 64*i+(j-64*i)=j by omega,hk1 _ oM] at this;exact this
  rw [hlow];repeat (first|(refine aH ?_;refine aC (j:=i) rfl rfl rfl hlt (Nat.mul_one _) ⟨_,_,hux⟩ rfl ?_)|(refine TL.isUn ?_;refine TL.notN6 rfl hx64 rfl ?_;rw [hk])|(refine aB 102 ?_;refine aA rfl (tz_c k m oM hk64 _ ht) rfl ?_;rintro _ _ ⟨rfl,rfl⟩)|(refine eQ ?_;refine TL.mulN (a:=64) rfl rfl oM rfl ?_)|(refine eW ?_;refine TL.minV (r:=((min (64*i+k) g.count:Nat):Int)) rfl rfl (by split<;>omega) rfl ?_)|refine yC ?_)
  exact bA rfl ⟨_,rfl,rfl,rfl⟩
structure ButS (S:Nat→Prop) (w w':World):Prop where
 os:w'.os=w.os
 tape:w'.tape=w.tape
 output:w'.output=w.output
 size:w.heap.size≤w'.heap.size
 block:∀ k,k<w.heap.size→¬ S k→w'.heap[k]? = w.heap[k]?
theorem ButS.refl (S:Nat→Prop) (w:World):ButS S w w:=⟨rfl,rfl,rfl,Nat.le_refl _,λ _ _ _=>rfl⟩
theorem ButS.trans {S:Nat→Prop} {a b c:World} (h:ButS S a b) (k:ButS S b c):ButS S a c :=
 ⟨k.os.trans h.os,k.tape.trans h.tape,k.output.trans h.output,Nat.le_trans h.size k.size,λ i hi hs=>(k.block i (Nat.lt_of_lt_of_le hi h.size) hs).trans (h.block i hi hs)⟩
theorem ButS.grow {S:Nat→Prop} {w w':World} (g:Grow w w'):ButS S w w':=⟨g.1.os,g.1.tape,g.1.output,g.2,λ k hk _=>g.block k hk⟩
theorem ButS.but {S:Nat→Prop} {w w':World} {b:Nat} (u:But b w w') (hb:S b):ButS S w w':=⟨u.os,u.tape,u.output,u.size,λ k hk hs=>u.block k hk (λ e=>hs (e▸hb))⟩
theorem ButS.upd {S:Nat→Prop} {w0 w w':World} {b:Nat} (h:ButS S w0 w) (u:Upd b w w') (hb:w0.heap.size≤b):ButS S w0 w' :=
 ⟨u.os.trans h.os,u.tape.trans h.tape,u.output.trans h.output,by rw [u.size];exact h.size,λ k hk hs=>(u.block k oM).trans (h.block k hk hs)⟩
theorem Carry.buts {S F:Nat→Prop} {w w':World} (u:ButS S w w') (hb:∀ k,F k→k<w.heap.size→¬ S k):Carry F w F w':=⟨u.size,λ k hk h=>⟨hk,u.block k h (hb k hk h)⟩⟩
theorem bY {S:Nat→Prop} {w w':World} {b:Nat} {t:TypeId} {cs:List Value} (h:Blk w b t cs) (u:ButS S w w') (hb:¬ S b):Blk w' b t cs:=by
 have hl:=h.lt;unfold Blk at *;rw [u.block b hl hb];exact h
theorem TabAt.buts {S:Nat→Prop} {w w':World} (h:TabAt w) (u:ButS S w w') (hb:¬ S 0):TabAt w':=h.keep (u.block 0 h.1 hb) u.size
def PL.S (L:PL) (k:Nat):Prop:=k=L.u∨k=L.m∨k=L.p
theorem PgAt.grow {w w':World} {L:PL} {g:Pg} (h:PgAt w L g) (gr:Grow w w'):PgAt w' L g:=by
 obtain ⟨f,h1,h2⟩:=h.f;exact ⟨h.blk.grow gr,h.used.grow gr,h.ok,h.cnt,⟨f,h1.grow gr,h2⟩,h.lt,h.bl,h.ne⟩
theorem PgAt.upd {w w':World} {L:PL} {g:Pg} {b:Nat} (h:PgAt w L g) (u:Upd b w w') (hb:b≠L.p∧b≠L.d∧b≠L.u∧b≠L.m):PgAt w' L g:=by
 obtain ⟨f,h1,h2⟩:=h.f;exact ⟨h.blk.upd u (Ne.symm hb.1),h.used.upd u (Ne.symm hb.2.2.1),h.ok,h.cnt,⟨f,h1.keep (u.block _ (Ne.symm hb.2.1)) (u.block _ (Ne.symm hb.2.2.2)),h2⟩,h.lt,h.bl,h.ne⟩
theorem PgAt.lts {w:World} {L:PL} {g:Pg} (h:PgAt w L g):L.p<w.heap.size∧L.d<w.heap.size∧L.u<w.heap.size∧L.m<w.heap.size:=by
 obtain ⟨f,h1,h2⟩:=h.f;exact ⟨h.blk.lt,h1.blk.lt,h.used.lt,h1.map.lt⟩
theorem body500_idem (b:Bs) (h:b.length≤500):dB (dB b)=dB b:=by
 have hl:=jE b h;rw [show dB (dB b)=dB b++zs (500-(dB b).length) from rfl,hl];exact List.append_nil _
theorem pageB_body (n:Nat) (b:Bs) (h:b.length≤500):gQ n (dB b)=gQ n b:=by
 unfold gQ;rw [body500_idem b h]
theorem new_c {w:World} {L:PL} {g:Pg} (h:PgAt w L g) (ht:TabAt w) (F:Nat→Prop) (a:Option Addr) (m c:Nat) (b:Bs) (hs:Sl F w 1 a m c (bB b)) (hm:m≤500) (hbl:∀ x∈b,x<256) (n:Nat) (g':Pg) (hne:newP g b=some (n,g')) :
  Calls Tryz.prog 45 #[.pointer (some ⟨L.p,0,none⟩),.slice a m c] w (Ret λ v w'=>v=.tuple #[.int .i64 (n:Int),.int .i64 0]∧PgAt w' L g'∧ButS L.S w w'):=by
 have hnew:=newP_new h.ok hne;have hlen:=gX hs
 have hlow:lowP g=n:=by
  unfold newP at hne;simp only at hne;split at hne
  ·cases hne
  ·cases hne;rfl
 have hgw:g'.words=gY g.words n:=by
  unfold newP at hne;simp only at hne;split at hne
  ·cases hne
  ·cases hne;rfl
 have hcn:=h.cnt;have hlt:=hnew.lt;have hlo:=lowest_c h ht;rw [hlow] at hlo;refine V.calls (args:=[_,_]) Tryz.func45 rfl Tryz.ntmps45 rfl rfl ?_;have hb:=h.blk;unfold pgc at hb;repeat (first|(refine aB 85 ?_;refine aA rfl (valid_c h) rfl ?_;rintro _ _ ⟨rfl,rfl⟩)|(refine aB 122 ?_;refine aA rfl (hlo) rfl ?_;rintro _ _ ⟨rfl,rfl⟩)|refine yC ?_)
 refine aB 123 ?_;refine aA rfl (page_c F n oM a m c b _ hs hm hbl) rfl ?_;rintro _ w2 ⟨rfl,hg2⟩;have hlp:=lN n b oM;obtain ⟨pg,hpg⟩:∃ pg,pg=gQ n b:=⟨_,rfl⟩
 rw [← hpg] at hlp ⊢;refine fL ?_;refine eS 512 zero_page rfl ?_;intro b7 w3 hg3 hb7 q1 q2;refine fK rfl rfl hb7 (cJ _) hlp ?_;intro w4 hu4 hb74 q3;have h3:=h.grow (hg2.trans hg3);have hl:=h.lts;have hz2:=hg2.size;have h4:=h3.upd hu4 oM;have hbs4:ButS L.S w w4:=(ButS.grow (hg2.trans hg3)).upd hu4 oM;have hn7:b7≠L.p∧b7≠L.d∧b7≠L.u∧b7≠L.m:=by omega
 clear hb7 hg3 hg2 hu4 hb h3 hlo;have hb:=h4.blk;unfold pgc at hb;obtain ⟨f,hd,hf⟩:=h4.f;repeat refine aF ?_
 apply T.any 7 [is (.pointer (some ⟨L.p,0,none⟩)),is (.pointer (some ⟨L.p,0,none⟩)),is (.pointer (some ⟨L.p,1,none⟩)),is (.pointer (some ⟨L.d,0,none⟩)),is (.int .i64 (n:Int)),is (.int .i64 ((2*n:Nat):Int)),is (.slice (some ⟨b7,0,none⟩) 256 512)]
 ·rfl
 ·repeat' (first|exact aN|refine aK ?_ ?_)
  iterate 5
   ·refine yQ λ wq _ _ hgq=>?_;repeat refine aF ?_
    exact aD rfl yG rfl
  ·refine yQ λ wq _ _ hgq=>?_;refine TL.mulN (a:=2) rfl rfl oM rfl ?_;repeat refine aF ?_
   exact aD rfl yG rfl
  ·refine yQ λ wq _ _ hgq=>?_;repeat refine aF ?_
   exact aD rfl yG rfl
 intro w5 lo5 hi5 hg5 _ _;((refine yT ?_))
 have hs5:=jO (o:=0) (m:=256) (c:=512) (hb74.grow hg5) oM oM dM;rw [List.drop_zero] at hs5;refine aB 124 ?_;refine aA rfl (dwrite_c (hd.grow hg5) (2*n) oM _ _ 512 _ hs5) rfl ?_;rintro v6 w6 ⟨hd6,hu6⟩;have hb6:=cD hu6 (hb.grow hg5) h.ne.2.1;have hb76:=cD hu6 (hb74.grow hg5) hn7.2.2.2;have hus6:=cD hu6 (h4.used.grow hg5) h.ne.2.2.1;have hbs6:ButS L.S w w6:=hbs4.trans ((ButS.grow hg5).trans (ButS.but hu6 (.inr (.inl rfl))));clear hb74 hs5 hu6 hbs4;repeat refine aF ?_
 apply T.any 8 [is (.pointer (some ⟨L.p,0,none⟩)),is (.pointer (some ⟨L.p,0,none⟩)),is (.pointer (some ⟨L.p,1,none⟩)),is (.pointer (some ⟨L.d,0,none⟩)),is (.int .i64 (n:Int)),is (.int .i64 ((2*n:Nat):Int)),is (.int .i64 ((2*n+1:Nat):Int)),is (.slice (some ⟨b7,256,none⟩) 256 256)]
 ·rfl
 ·repeat' (first|exact aN|refine aK ?_ ?_)
  iterate 5
   ·refine yQ λ wq _ _ hgq=>?_;repeat refine aF ?_
    exact aD rfl yG rfl
  ·refine yQ λ wq _ _ hgq=>?_;refine TL.mulN (a:=2) rfl rfl oM rfl ?_;repeat refine aF ?_
   exact aD rfl yG rfl
  iterate 2
   ·refine yQ λ wq _ _ hgq=>?_;repeat refine aF ?_
    exact aD rfl yG rfl
 intro w7 lo7 hi7 hg7 _ _;((refine yT ?_))
 have hs7:=jO (o:=256) (m:=256) (c:=256) (hb76.grow hg7) oM oM dM;rw [List.take_of_length_le (by rw [List.length_drop];omega)] at hs7;refine aB 124 ?_;refine aA rfl (dwrite_c (hd6.grow hg7) (2*n+1) oM _ _ 256 _ hs7) rfl ?_;rintro v8 w8 ⟨hd8,hu8⟩;have hb8:=cD hu8 (hb6.grow hg7) h.ne.2.1;have hus8:=cD hu8 (hus6.grow hg7) h.ne.2.2.1;have hbs8:ButS L.S w w8:=hbs6.trans ((ButS.grow hg7).trans (ButS.but hu8 (.inr (.inl rfl))));clear hs7 hu8 hbs6 hb76 hb6 hus6;have hdv:=used_div h.ok hlt;repeat refine aF ?_
 refine aB 92 ?_;refine aA rfl (mark_c hb8 hus8 rfl h.ok.w64 n hdv (by have:=h.ok.wl;omega)) rfl ?_;rintro v9 w9 ⟨hus9,hu9⟩;have hb9:=cD hu9 hb8 h.ne.1;have hbs9:ButS L.S w w9:=hbs8.trans (ButS.but hu9 (.inl rfl));have hd9:DkAt w9 L.d L.s L.m (2*g.count) _:=hd8.keep (hu9.block _ hd8.blk.lt h.ne.2.2.2.1) (hu9.block _ hd8.map.lt (Ne.symm h.ne.2.2.1));repeat refine aF ?_
 refine fM rfl rfl ⟨_,rfl,rfl,⟨?_,?_,hnew.ok,by rw [hnew.count];exact h.cnt,⟨_,by rw [hnew.count];exact hd9,?_⟩,?_,?_,h.ne⟩,hbs9⟩
 ·unfold pgc;rw [hnew.count,hgw,show (gY g.words n).length=g.words.length by simp [gY]];exact hb9
 ·rw [hgw];exact hus9
 ·intro k hk;rw [hnew.used] at hk;by_cases hkn:k=n
  ·subst hkn;rw [hnew.body,show padB b=dB b from rfl,pageB_body k b oM,← hpg];constructor
   ·simp [upF]
   ·simp [upF]
  ·have hk2:bL g k=true:=by simpa [hkn] using hk
   rw [hnew.other k hkn];have h1:=hf k hk2;constructor
   ·simp only [upF];rw [if_neg oM,if_neg oM];exact h1.1
   ·simp only [upF];rw [if_neg oM,if_neg oM];exact h1.2
 ·intro k x hx;by_cases hkn:k=n
  ·subst hkn;rw [hnew.body] at hx;exact body_lt hbl x hx
  ·rw [hnew.other k hkn] at hx;exact h.lt k x hx
 ·intro k hk;rw [hnew.used] at hk;by_cases hkn:k=n
  ·subst hkn;rw [hnew.body];exact jE b oM
  ·rw [hnew.other k hkn];exact h.bl k (by simpa [hkn] using hk)
theorem bclone_c (F:Nat→Prop) (ad:Addr) (m c:Nat) (l:Bs) (w:World) (hs:Sl F w 1 (some ad) m c (bB l)) (hm:m≤100000) :
  Calls Tryz.prog 130 #[.slice (some ad) m c] w (Ret λ v w'=>w'.ownsRow w.heap.size 5 1 v m (bB l)∧Grow w w'):=by
 refine V.calls (args:=[_]) Tryz.func130 rfl Tryz.ntmps130 rfl rfl ?_;repeat (first|refine dF ?_|refine yI λ bk w' hg hbk hsz hsz'=>?_)
 refine lC rfl rfl (eL (base:=w.heap.size) hbk oM) (hs.grow yG) (bO l) oM oM rfl ?_;intro v w2 hown hg2;repeat refine dF ?_
 exact bA rfl ⟨_,rfl,hown,yG⟩
theorem read_neg {w:World} {L:PL} {g:Pg} (h:PgAt w L g) :
  Calls Tryz.prog 50 #[.pointer (some ⟨L.p,0,none⟩),.int .i64 (-1)] w (Ret λ v w'=>v=.tuple #[.slice none 0 0,.int .i64 6]∧w=w'):=by
 refine V.calls (args:=[_,_]) Tryz.func50 rfl Tryz.ntmps50 rfl rfl ?_;repeat (first|(refine aB 128 ?_;refine aA rfl (pcheck_neg h) rfl ?_;rintro _ _ ⟨rfl,rfl⟩)|refine yA ?_)
 exact fM rfl rfl ⟨_,rfl,rfl,rfl⟩
theorem same_bys:∀ (l l':Bs),l.length=l'.length→kL (bB l) (bB l')
 | [],[],_=>trivial
 | [],_::_,h=>by cases h
 | _::_,[],h=>by cases h
 | x::l,y::l',h=>⟨rfl,same_bys l l' (by simpa using h)⟩
def readB (p:Bs) (i:Nat):Bs:=p.take (256*i)++zs (512-256*i)
theorem readB_step (p:Bs) (hl:p.length=512) (i:Nat) (hi:i<2):((p.drop (256*i)).take 256).length=256∧iH (bB (readB p i)) (i*256) (bB ((p.drop (256*i)).take 256))=bB (readB p (i+1)):=by
 have e:((p.drop (256*i)).take 256).length=256:=by rw [List.length_take,List.length_drop,hl];omega
 have e2:(p.take (256*i)).length=i*256:=by rw [List.length_take,hl];omega
 refine ⟨e,?_⟩;rw [putAt_bys (by rw [e];simp only [readB,List.length_append,cJ,e2];omega),e];have e3:(readB p i).take (i*256)=p.take (256*i):=List.take_left' e2
 have e4:(readB p i).drop (i*256+256)=zs (512-256*(i+1)):=by
  unfold readB zs;rw [List.drop_append,List.drop_eq_nil_of_le oM,List.nil_append,List.drop_replicate,e2];have e5:512-256*i-(i*256+256-i*256)=512-256*(i+1):=by omega
  rw [e5]
 rw [e3,e4,← List.take_add,show 256*i+256=256*(i+1) by omega];rfl
theorem pread_c {w:World} {L:PL} {g:Pg} (h:PgAt w L g) (n:Nat) (hn:n<4294967296) (hu:bL g n=true) :
  Calls Tryz.prog 50 #[.pointer (some ⟨L.p,0,none⟩),.int .i64 (n:Int)] w (Ret λ v w'=>∃ u,v=.tuple #[u,.int .i64 0]∧w'.ownsRow w.heap.size 5 1 u 500 (bB (g.body n))∧Grow w w'):=by
 have hc:=pcheck_c h n oM;rw [hu] at hc;simp only [if_true] at hc
 have hlt:n<g.count:=by
  rcases Nat.lt_or_ge n g.count with h1|h1
  ·exact h1
  ·simp [bL,Nat.not_lt.2 h1] at hu
 have hcn:=h.cnt;have hbl:=h.bl n hu;have hlp:=lN n (g.body n) oM;refine V.calls (args:=[_,_]) Tryz.func50 rfl Tryz.ntmps50 rfl rfl ?_;repeat (first|(refine aB 128 ?_;refine aA rfl (hc) rfl ?_;rintro _ _ ⟨rfl,rfl⟩)|(refine fL ?_;refine eS 512 zero_page rfl ?_;intro b7 w1 hg1 hb7 q1 q2)|refine yC ?_)
 have hpb:gQ n (g.body n)=(gQ n (g.body n)).take 12++g.body n:=by
  have e1:gQ n (g.body n)=(shaB (bP n++dB (g.body n))).take 12++dB (g.body n):=rfl
  have e2:dB (g.body n)=g.body n:=by
   show g.body n++zs (500-(g.body n).length)=g.body n;rw [hbl];exact List.append_nil _
  rw [e1,e2,List.take_left' (by rw [List.length_take,kP];rfl)]
 obtain ⟨f,hd,hf⟩:=h.f;obtain ⟨hf1,hf2⟩:=hf n hu;have hpage:=λ w F a c hs=>page_c F n oM a 500 c (g.body n) w hs (Nat.le_refl _) (h.lt n);obtain ⟨p,hp⟩:∃ p,p=gQ n (g.body n):=⟨_,rfl⟩
 rw [← hp] at hf1 hf2 hlp hpb hpage;have hl:=h.lts;refine aX (S:=Nat) (λ i=>[(17,.int .i64 (i:Int)),(7,.pointer (some ⟨b7,0,none⟩)),(1,.int .i64 (n:Int)),(0,.pointer (some ⟨L.p,0,none⟩))]) (λ i w2=>i≤2∧Blk w2 b7 197 (bB (readB p i))∧Grow w w2) (λ i=>2-i) 0 ⟨rfl,rfl,rfl,rfl,trivial⟩ ⟨oM,by simpa [readB] using hb7,hg1⟩ ?_;clear hb7;rintro i w2 ⟨hi,hb7,hg2⟩;have hz2:=hg2.size;have h2:=h.grow hg2;have hb:=h2.blk;unfold pgc at hb;have hrl:(readB p i).length=512:=by simp [readB,cJ,hlp];omega
 by_cases hi2:i<2
 ·obtain ⟨hvl,hst⟩:=readB_step p hlp i hi2
  have hvs:f (2*n+i)=some (.agg (bB ((p.drop (256*i)).take 256)).toArray):=by
   obtain rfl|rfl:i=0∨i=1:=by omega
   ·exact hf1
   ·have:(p.drop (256*1)).take 256=p.drop 256:=List.take_of_length_le (by rw [List.length_drop,hlp];omega);rw [this];exact hf2
  generalize (p.drop (256*i)).take 256=vs at *;repeat (first|(refine eQ ?_;refine TL.mulN (a:=2) rfl rfl oM rfl ?_)|refine yC ?_)
  refine aB 129 ?_;refine aA rfl (dread_c (hd.grow hg2) (2*n+i) oM vs hvs hvl) rfl ?_;rintro _ w3 ⟨bs,rfl,hbs1,hbs2,hg3⟩;repeat (first|(refine eQ ?_;refine TL.mulN (a:=i) (b:=256) rfl rfl oM rfl ?_)|(refine eQ ?_;refine TL.mulN (a:=i+1) (b:=256) rfl rfl oM rfl ?_)|refine yC ?_)
  refine TL.copyB (b:=b7) (o:=0+i*256*1) (m:=(i+1)*256-i*256) rfl rfl (hb7.grow hg3) hbs2 (bO vs) (by rw [bE,hrl];omega) rfl ?_;rw [show 0+i*256*1=i*256 by omega,show min 256 ((i+1)*256-i*256)=256 by omega,List.take_of_length_le (by rw [bE];omega),hst];intro w4 hu4 hb74 _;repeat refine aF ?_
  exact aE (i+1) ⟨rfl,rfl,rfl,rfl,trivial⟩ ⟨oM,hb74,aI hu4 oM (hg2.trans hg3)⟩ oM
 obtain rfl:i=2:=by omega
 have hfin:readB p 2=p:=by
  simp only [readB];rw [List.take_of_length_le oM];exact List.append_nil _
 rw [hfin] at hb7;clear hb hrl hfin;repeat refine aF ?_
 have hs2:=jO (o:=12) (m:=500) (c:=500) hb7 oM (Nat.le_refl _) dM
 have hdr:(p.drop 12).take 500=g.body n:=by
  rw [List.take_of_length_le (by rw [List.length_drop];omega)];have e12:(p.take 12).length=12:=by rw [List.length_take,hlp];rfl
  have:=congrArg (List.drop 12) hpb;rw [List.drop_left' e12] at this;exact this
 rw [hdr] at hs2;apply T.any 4 [is (.agg (bB p).toArray),is (.int .i64 (n:Int)),is (.slice (some ⟨b7,12,none⟩) 500 500),is (.agg (bB p).toArray)]
 ·rfl
 ·repeat' (first|exact aN|refine aK ?_ ?_)
  ·refine yQ λ wq _ _ hgq=>?_;refine nX rfl (hb7.grow hgq) hlp rfl ?_;repeat refine aF ?_
   exact aD rfl yG rfl
  iterate 2
   ·refine yQ λ wq _ _ hgq=>?_;repeat refine aF ?_
    exact aD rfl yG rfl
  ·refine yQ λ wq _ _ hgq=>?_;refine aB 123 ?_;refine aA rfl (hpage _ _ _ _ (hs2.grow hgq)) rfl ?_;rintro _ w4 ⟨rfl,hg4⟩;repeat refine aF ?_
   exact aD rfl yG rfl
 intro w5 lo5 hi5 hg5 _ _;((refine yT ?_))
 refine TL.neArr true rfl rfl rfl (same_bys p p rfl) (by rw [bE,hlp]) sM rfl ?_;repeat refine aF ?_
 refine aB 130 ?_;refine aA rfl (bclone_c _ _ 500 500 (g.body n) _ (hs2.grow hg5) oM) rfl ?_;rintro v w6 ⟨hown,hg6⟩;have hgw:Grow w w6:=(hg2.trans hg5).trans hg6;have:=hg5.size;have hz2:=hg2.size;repeat refine aF ?_
 exact fM rfl rfl ⟨_,rfl,v,rfl,eC hown oM,hgw⟩
end Go.Proofs.YtfpadnmdafiddaaGreatDoor
namespace Go.Proofs.YtfpadnmdafiddaaGreatDoor
theorem nU {a b c d:Nat} (ha:a<256) (hc:c<256):(a+256*b)&&&(c+256*d)=(a&&&c)+256*(b&&&d):=by
 have key:∀ x y i:Nat,x<256→(x+256*y).testBit i=if i<8 then x.testBit i else y.testBit (i-8):=by
  intro x y i hx;have:=Nat.testBit_two_pow_mul_add y (b:=x) (i:=8) (by simpa using hx) i;rw [Nat.add_comm,show (256:Nat)=2^8 by decide];exact this
 have hac:a&&&c<256:=Nat.lt_of_le_of_lt Nat.and_le_left ha;apply Nat.eq_of_testBit_eq;intro i;rw [Nat.testBit_and,key a b i ha,key c d i hc,key _ _ i hac];by_cases h:i<8<;>simp [h,Nat.testBit_and]
def lanes (c:Nat):Nat→Nat
 | 0=>0
 | k+1=>c+256*lanes c k
def gL:List Nat→Nat
 | []=>0
 | b::bs=>b+256*gL bs
def A8 (b:Nat):Nat:=(b / 2&&&85)+(b&&&85)
def B8 (b:Nat):Nat:=(b / 4&&&51)+(b&&&51)
def C8 (b:Nat):Nat:=b / 16+b%16
theorem a8:∀ (b:Fin 256) (t:Fin 2),(b.val / 2+128*t.val)&&&85=b.val / 2&&&85:=by decide +kernel
theorem b8:∀ (b:Fin 256) (t:Fin 4),(b.val / 4+64*t.val)&&&51=b.val / 4&&&51:=by decide +kernel
theorem a8_ok:∀ b:Fin 256,A8 b.val<256:=by decide +kernel
theorem b8_ok:∀ b:Fin 256,B8 (A8 b.val)<256∧B8 (A8 b.val)%16≤4∧B8 (A8 b.val) / 16≤4:=by decide +kernel
def nK (b:Nat):Nat:=b%2+b / 2%2+b / 4%2+b / 8%2+b / 16%2+b / 32%2+b / 64%2+b / 128%2
theorem c8_ok:∀ b:Fin 256,C8 (B8 (A8 b.val))=nK b.val:=by decide +kernel
theorem stepA:∀ (bs:List Nat),(∀ b∈bs,b<256)→(gL bs / 2&&&lanes 85 bs.length)+(gL bs&&&lanes 85 bs.length)=gL (bs.map A8)
 | [],_=>rfl
 | b::bs,h=>by
  have hb:=h b sM;have ih:=stepA bs (λ x hx=>h x (by simp [hx]));simp only [gL,lanes,List.length_cons,List.map_cons];have e:(b+256*gL bs) / 2=(b / 2+128*(gL bs%2))+256*(gL bs / 2):=by omega
  rw [e,nU oM oM,nU hb oM,a8 ⟨b,hb⟩ ⟨gL bs%2,oM⟩,← ih];simp only [A8];omega
theorem stepB:∀ (bs:List Nat),(∀ b∈bs,b<256)→(gL bs / 4&&&lanes 51 bs.length)+(gL bs&&&lanes 51 bs.length)=gL (bs.map B8)
 | [],_=>rfl
 | b::bs,h=>by
  have hb:=h b sM;have ih:=stepB bs (λ x hx=>h x (by simp [hx]));simp only [gL,lanes,List.length_cons,List.map_cons];have e:(b+256*gL bs) / 4=(b / 4+64*(gL bs%4))+256*(gL bs / 4):=by omega
  rw [e,nU oM oM,nU hb oM,b8 ⟨b,hb⟩ ⟨gL bs%4,oM⟩,← ih];simp only [B8];omega
theorem and15 (x:Nat):x&&&15=x%16:=Nat.and_two_pow_sub_one_eq_mod x 4
theorem and127 (x:Nat):x&&&127=x%128:=Nat.and_two_pow_sub_one_eq_mod x 7
theorem stepC:∀ (bs:List Nat),(∀ b∈bs,b<256∧b%16≤4∧b / 16≤4)→(gL bs / 16+gL bs)&&&lanes 15 bs.length=gL (bs.map C8)
 | [],_=>rfl
 | b::bs,h=>by
  have hb:=h b sM;have ih:=stepC bs (λ x hx=>h x (by simp [hx]))
  have hlow:gL bs%16≤4:=by
   cases bs with
   | nil=>simp [gL]
   | cons x xs=>have:=h x sM;simp only [gL];omega
  simp only [gL,lanes,List.length_cons,List.map_cons];have e:(b+256*gL bs) / 16+(b+256*gL bs)=(b / 16+16*(gL bs%16)+b)+256*(gL bs / 16+gL bs):=by omega
  rw [e,nU oM oM,ih,and15];simp only [C8];omega
theorem lanes85:lanes 85 8=6148914691236517205:=by decide
theorem lanes51:lanes 51 8=3689348814741910323:=by decide
theorem lanes15:lanes 15 8=1085102592571150095:=by decide
def fR (x:Nat):List Nat:=[x%256,x / 256%256,x / 65536%256,x / 16777216%256,x / 4294967296%256,x / 1099511627776%256,x / 281474976710656%256,x / 72057594037927936%256]
theorem bytes8_val (x:Nat) (h:x<18446744073709551616):gL (fR x)=x:=by simp only [fR,gL];omega
theorem bytes8_lt (x:Nat):∀ b∈fR x,b<256:=by
 intro b hb;simp only [fR,List.mem_cons,List.not_mem_nil,or_false] at hb;omega
def ones (x:Nat):Nat:=((fR x).map nK).sum
theorem iI (b:Nat):nK b≤8:=by unfold nK;omega
theorem pop_masks (x:Nat) (h:x<18446744073709551616):∃ y z v,(x / 2&&&6148914691236517205)+(x&&&6148914691236517205)=y∧(y / 4&&&3689348814741910323)+(y&&&3689348814741910323)=z∧(z / 16+z)&&&1085102592571150095=v ∧
  y<18446744073709551616∧z≤4919131752989213764∧v≤578721382704613384∧v=gL ((fR x).map nK):=by
 have hx:=bytes8_val x h;have hlt:=bytes8_lt x;have h1:=stepA (fR x) hlt;rw [show (fR x).length=8 from rfl,lanes85,hx] at h1
 have hltA:∀ b∈(fR x).map A8,b<256:=by
  intro b hb;obtain ⟨c,hc,rfl⟩:=List.mem_map.1 hb;exact a8_ok ⟨c,hlt c hc⟩
 have h2:=stepB _ hltA;rw [show ((fR x).map A8).length=8 from rfl,lanes51] at h2
 have hltB:∀ b∈((fR x).map A8).map B8,b<256∧b%16≤4∧b / 16≤4:=by
  intro b hb;obtain ⟨c,hc,rfl⟩:=List.mem_map.1 hb;obtain ⟨c2,hc2,rfl⟩:=List.mem_map.1 hc;exact b8_ok ⟨c2,hlt c2 hc2⟩
 have h3:=stepC _ hltB;rw [show (((fR x).map A8).map B8).length=8 from rfl,lanes15] at h3
 have h4:(((fR x).map A8).map B8).map C8=(fR x).map nK:=by
  rw [List.map_map,List.map_map];apply List.map_congr_left;intro b hb;exact c8_ok ⟨b,hlt b hb⟩
 rw [h4] at h3;refine ⟨_,_,_,h1,h2,h3,?_,?_,?_,rfl⟩
 ·generalize hA:(fR x).map A8=l at hltA
  match l,show l.length=8 by rw [← hA];rfl with
  | [a,b,c,d,e,f,g,i],_=>simp only [gL];simp at hltA;omega
 ·generalize hB:((fR x).map A8).map B8=l at hltB
  match l,show l.length=8 by rw [← hB];rfl with
  | [a,b,c,d,e,f,g,i],_=>simp only [gL];simp at hltB;omega
 ·have hm:∀ b∈(fR x).map nK,b≤8:=by
   intro b hb;obtain ⟨c,_,rfl⟩:=List.mem_map.1 hb;exact iI c
  generalize hC:(fR x).map nK=l at hm
  match l,show l.length=8 by rw [← hC];rfl with
  | [a,b,c,d,e,f,g,i],_=>simp only [gL];simp at hm;omega
theorem divr {r q m:Nat} (h:r<m):(r+m*q) / m=q:=by
 rw [Nat.add_mul_div_left _ _ oM,Nat.div_eq_of_lt h,Nat.zero_add]
theorem pop_num (a0 a1 a2 a3 a4 a5 a6 a7:Nat) (h0:a0≤8) (h1:a1≤8) (h2:a2≤8) (h3:a3≤8) (h4:a4≤8) (h5:a5≤8) (h6:a6≤8) (h7:a7≤8) (v D1 D2:Nat) (hv:v=gL [a0,a1,a2,a3,a4,a5,a6,a7]) (hD1:D1=v+v / 256) (hD2:D2=D1+D1 / 65536) :
  (D2+D2 / 4294967296)%128=a0+a1+a2+a3+a4+a5+a6+a7:=by
 have e1:v / 256=gL [a1,a2,a3,a4,a5,a6,a7]:=by
  rw [hv];exact divr oM
 have e2:D1=((a0+a1)+256*(a1+a2))+65536*((a2+a3)+256*(a3+a4)+65536*((a4+a5)+256*(a5+a6)+65536*((a6+a7)+256*a7))):=by
  rw [hD1,e1,hv];simp only [gL];omega
 have e3:D1 / 65536=(a2+a3)+256*(a3+a4)+65536*((a4+a5)+256*(a5+a6)+65536*((a6+a7)+256*a7)):=by
  rw [e2];exact divr oM
 have e4:D2=((a0+a1+a2+a3)+256*(a1+a2+a3+a4)+65536*(a2+a3+a4+a5)+16777216*(a3+a4+a5+a6))+4294967296*((a4+a5+a6+a7)+256*(a5+a6+a7)+65536*((a6+a7)+256*a7)):=by
  rw [hD2,e3,e2];clear hv hD1 hD2 e1 e2 e3 h0 h1 h2 h3 h4 h5 h6 h7;omega
 have e5:D2 / 4294967296=(a4+a5+a6+a7)+256*(a5+a6+a7)+65536*((a6+a7)+256*a7):=by
  rw [e4];exact divr (by clear hv hD1 hD2 e1 e2 e3 e4;omega)
 have e6:D2+D2 / 4294967296=(a0+a1+a2+a3+a4+a5+a6+a7)+128*(2*((a1+a2+a3+a4)+256*(a2+a3+a4+a5)+65536*(a3+a4+a5+a6)+(a5+a6+a7)+256*((a6+a7)+256*a7)+16777216*((a4+a5+a6+a7)+256*(a5+a6+a7)+65536*((a6+a7)+256*a7)))):=by
  rw [e5,e4];clear hv hD1 hD2 e1 e2 e3 e4 e5 h0 h1 h2 h3 h4 h5 h6 h7;omega
 rw [e6,Nat.add_mul_mod_self_left,Nat.mod_eq_of_lt (by clear hv hD1 hD2 e1 e2 e3 e4 e5 e6;omega)]
theorem pop_sum (x v:Nat) (hv:v=gL ((fR x).map nK)):((v+v / 256)+(v+v / 256) / 65536+((v+v / 256)+(v+v / 256) / 65536) / 4294967296)%128=ones x:=by
 have:=pop_num _ _ _ _ _ _ _ _ (iI (x%256)) (iI (x / 256%256)) (iI (x / 65536%256)) (iI (x / 16777216%256)) (iI (x / 4294967296%256)) (iI (x / 1099511627776%256)) (iI (x / 281474976710656%256)) (iI (x / 72057594037927936%256)) v _ _ hv rfl rfl;rw [this];unfold ones;simp only [fR,List.map_cons,List.map_nil,List.sum_cons,List.sum_nil,Nat.add_assoc,Nat.add_zero]
end Go.Proofs.YtfpadnmdafiddaaGreatDoor
namespace Go.Proofs.YtfpadnmdafiddaaGreatDoor
open Go Go.RowKit Go.V
theorem ones_c (x:Nat) (hx:x<18446744073709551616) (w:World):Calls Tryz.prog 155 #[.int .u64 (x:Int)] w (Ret λ v w'=>v=.int .i64 (ones x:Int)∧w=w'):=by
 refine V.calls (args:=[_]) Tryz.func155 rfl Tryz.ntmps155 rfl rfl ?_;obtain ⟨y,z,v,hy,hz,hv,by1,bz,bv,hval⟩:=pop_masks x hx;have hps:=pop_sum x v hval;repeat (first|(refine TL.isAndW ?_;refine TL.andN6 rfl rfl oM oM rfl ?_)|(refine nY ?_;first|(refine TL.addU rfl rfl rfl (by rw [hy];exact by1) rfl ?_;rw [hy])|(refine TL.addU rfl rfl rfl (by rw [hz];omega) rfl ?_;rw [hz]))|refine yC ?_)
 have hv':z / 2^4+z&&&1085102592571150095=v:=hv;rw [hv'];obtain ⟨D1,hD1⟩:∃ D1,D1=v+v / 256:=⟨_,rfl⟩
 obtain ⟨D2,hD2⟩:∃ D2,D2=D1+D1 / 65536:=⟨_,rfl⟩
 obtain ⟨D3,hD3⟩:∃ D3,D3=D2+D2 / 4294967296:=⟨_,rfl⟩
 have b1:D1≤581000000000000000:=by omega
 have b2:D2≤582000000000000000:=by omega
 have b3:D3≤583000000000000000:=by omega
 have m1:(v+v / 2^8)%18446744073709551616=D1:=by rw [hD1];exact Nat.mod_eq_of_lt oM
 rw [m1];have m2:(D1+D1 / 2^16)%18446744073709551616=D2:=by rw [hD2];exact Nat.mod_eq_of_lt oM
 rw [m2];have m3:(D2+D2 / 2^32)%18446744073709551616=D3:=by rw [hD3];exact Nat.mod_eq_of_lt oM
 rw [m3];rw [← hD1,← hD2,← hD3] at hps;clear hD1 hD2 hD3 m1 m2 m3 hv' hv hy hz;repeat (first|(refine dL ?_;refine TL.convN (a:=D3) rfl oM rfl ?_)|refine yC ?_)
 have e1:(BitVec.ofInt IntKind.i64.bits (D3:Int)&&&BitVec.ofInt IntKind.i64.bits 127).toNat=ones x:=by
  have q1:(BitVec.ofInt 64 (D3:Int)).toNat=D3:=by
   have:=Go.V.bits_nat (kd:=.u64) (M:=18446744073709551616) rfl D3;rw [Nat.mod_eq_of_lt oM] at this;exact this
  have q2:(BitVec.ofInt 64 127).toNat=127:=by decide
  show (BitVec.ofInt 64 (D3:Int)&&&BitVec.ofInt 64 127).toNat=ones x;rw [BitVec.toNat_and,q1,q2,and127,hps]
 have e2:IntKind.i64.wrap ((BitVec.ofInt IntKind.i64.bits (D3:Int)&&&BitVec.ofInt IntKind.i64.bits 127).toNat:Int)=(ones x:Int):=by
  rw [e1];have:ones x<128:=by rw [← hps];exact Nat.mod_lt _ oM
  exact IntWalk.i64_in _ ⟨oM,oM⟩
 rw [e2];exact bA rfl ⟨_,rfl,rfl,rfl⟩
def iF (l:List Nat):Nat:=(l.map ones).sum
theorem ones_le (x:Nat):ones x≤64:=by
 have h:∀ l:List Nat,(l.map nK).sum≤8*l.length:=by
  intro l
  induction l with
  | nil=>simp
  | cons b l ih=>have:=iI b;simp only [List.map_cons,List.sum_cons,List.length_cons];omega
 have:=h (fR x);exact this
theorem onesW_le (l:List Nat):iF l≤64*l.length:=by
 induction l with
 | nil=>simp [iF]
 | cons b l ih=>have:=ones_le b;simp only [iF,List.map_cons,List.sum_cons,List.length_cons] at *;omega
theorem onesW_take {l:List Nat} {i x:Nat} (h:l[i]? = some x):iF (l.take (i+1))=iF (l.take i)+ones x:=by
 rw [List.take_add_one,h];simp [iF]
theorem total_c (F:Nat→Prop) (a:Option Addr) (n c:Nat) (l:List Nat) (w:World) (hs:Sl F w 1 a n c (kV l)) (h64:∀ x∈l,x<18446744073709551616) (hn:n≤1000) :
  Calls Tryz.prog 86 #[.slice a n c] w (Ret λ v w'=>v=.int .i64 (iF l:Int)∧w=w'):=by
 have hl:n=l.length:=by have:=hs.len;rw [gH] at this;omega
 refine V.calls (args:=[_]) Tryz.func86 rfl Tryz.ntmps86 rfl rfl ?_;repeat refine aF ?_
 refine aX (S:=Nat) (λ i=>[(8,.int .i64 (i:Int)),(7,.int .i64 (n:Int)),(6,.slice a n c),(3,.int .i64 (iF (l.take i):Int))]) (λ i w'=>w=w'∧i≤n) (λ i=>n-i) 0 ⟨rfl,rfl,rfl,rfl,trivial⟩ ⟨rfl,oM⟩ ?_;rintro i _ ⟨rfl,hi⟩;have hle:=onesW_le (l.take i);rw [List.length_take] at hle;by_cases hlt:i<n
 ·obtain ⟨x,hx⟩:∃ x,l[i]? = some x:=⟨_,List.getElem?_eq_getElem oM⟩
  have hx64:=h64 x (List.mem_of_getElem? hx);have hcell:w.cell? (at' a i)=some (.int .u64 (x:Int)):=hs.row.cell (by simp [kV,hx]);have hxo:=ones_le x;repeat (first|(refine aH ?_;refine aC (j:=i) rfl rfl rfl hlt (Nat.mul_one _) ⟨_,_,hs⟩ rfl ?_)|(refine aB 155 ?_;refine aA rfl (ones_c x hx64 _) rfl ?_;rintro _ _ ⟨rfl,rfl⟩)|refine yC ?_)
  exact aE (i+1) ⟨rfl,rfl,rfl,by rw [onesW_take hx];rfl,trivial⟩ ⟨rfl,oM⟩ oM
 obtain rfl:i=n:=by omega
 rw [List.take_of_length_le oM];repeat refine aF ?_
 exact bA rfl ⟨_,rfl,rfl,rfl⟩
theorem spare_c {w:World} {L:PL} {g:Pg} (h:PgAt w L g) (hT:iF g.words≤g.count) :
  Calls Tryz.prog 21 #[.pointer (some ⟨L.p,0,none⟩)] w (Ret λ v w'=>v=.int .i64 ((g.count-iF g.words:Nat):Int)∧Grow w w'):=by
 refine V.calls (args:=[_]) Tryz.func21 rfl Tryz.ntmps21 rfl rfl ?_;have hb:=h.blk;have hu:=h.used;have hcn:=h.cnt;have hwl:=h.ok.wl;unfold pgc at hb;have hux:∀ w',Grow w w'→Sl (λ k=>k=L.u) w' 1 (some ⟨L.u,0,none⟩) g.words.length g.words.length (kV g.words):=λ w' gr=>aV (sz:=1) (m:=g.words.length) (hu.grow gr) (by rw [gH,Nat.mul_one]) (by unfold maxLen;omega);repeat (first|(refine aB 85 ?_;refine aA rfl (valid_c h) rfl ?_;rintro _ _ ⟨rfl,rfl⟩)|refine yC ?_)
 apply T.any 10 [is (.pointer (some ⟨L.p,0,none⟩)),is (.pointer (some ⟨L.p,0,none⟩)),is (.pointer (some ⟨L.p,2,none⟩)),is (.int .i64 (g.count:Int)),is (.pointer (some ⟨L.p,0,none⟩)),is (.pointer (some ⟨L.p,0,none⟩)),is (.pointer (some ⟨L.p,3,none⟩)),is (.slice (some ⟨L.u,0,none⟩) g.words.length g.words.length),is (.int .i64 (iF g.words:Int)),is (.int .i64 ((g.count-iF g.words:Nat):Int))]
 ·rfl
 ·repeat' (first|exact aN|refine aK ?_ ?_)
  iterate 8
   ·refine yQ λ wq _ _ hgq=>?_;repeat refine aF ?_
    exact aD rfl yG rfl
  ·refine yQ λ wq _ _ hgq=>?_;repeat (first|(refine aB 86 ?_;refine aA rfl (total_c _ _ _ _ _ _ (hux _ hgq) h.ok.w64 oM) rfl ?_;rintro _ _ ⟨rfl,rfl⟩)|refine yC ?_)
   exact aD rfl yG rfl
  ·refine yQ λ wq _ _ hgq=>?_;refine TL.subN (a:=g.count) (b:=iF g.words) rfl rfl hT oM rfl ?_;repeat refine aF ?_
   exact aD rfl yG rfl
 ·intro w6 lo6 hi6 hg6 _ _;((refine yT ?_))
  repeat refine aF ?_
  exact bA rfl ⟨_,rfl,rfl,hg6⟩
end Go.Proofs.YtfpadnmdafiddaaGreatDoor
namespace Go.Proofs.YtfpadnmdafiddaaGreatDoor
def nS (p:Nat→Bool):Nat→Nat
 | 0=>0
 | n+1=>nS p n+(p n).toNat
theorem cntF_eq (p:Nat→Bool):∀ n,((List.range n).filter p).length=nS p n
 | 0=>rfl
 | n+1=>by
  rw [List.range_succ,List.filter_append,List.length_append,cntF_eq p n,nS];cases h:p n<;>simp [h]
theorem cntF_split (p:Nat→Bool) (m:Nat):∀ k,nS p (m+k)=nS p m+nS (λ j=>p (m+j)) k
 | 0=>rfl
 | k+1=>by rw [← Nat.add_assoc,nS,cntF_split p m k,nS];omega
theorem cntF_same {p q:Nat→Bool}:∀ n,(∀ k,k<n→p k=q k)→nS p n=nS q n
 | 0,_=>rfl
 | n+1,h=>by rw [nS,nS,cntF_same n (λ k hk=>h k oM),h n oM]
theorem cntF_none {p:Nat→Bool}:∀ n,(∀ k,k<n→p k=false)→nS p n=0
 | 0,_=>rfl
 | n+1,h=>by rw [nS,cntF_none n (λ k hk=>h k oM),h n oM];rfl
theorem ones8_bits:∀ b:Fin 256,nK b.val=nS b.val.testBit 8:=by decide +kernel
theorem byte_bits (x k:Nat):nS (λ j=>x.testBit (8*k+j)) 8=nK (x / 2^(8*k)%256):=by
 rw [ones8_bits ⟨x / 2^(8*k)%256,Nat.mod_lt _ oM⟩];refine cntF_same 8 λ j hj=>?_;show x.testBit (8*k+j)=(x / 2^(8*k)%256).testBit j;rw [show (256:Nat)=2^8 from rfl,Nat.testBit_mod_two_pow,Nat.testBit_div_two_pow];simp [hj,Nat.add_comm]
theorem cntF_ones (x:Nat):nS x.testBit 64=ones x:=by
 have s:∀ k,nS x.testBit (8*(k+1))=nS x.testBit (8*k)+nK (x / 2^(8*k)%256):=λ k=>by
  rw [show 8*(k+1)=8*k+8 by omega,cntF_split,byte_bits]
 rw [show 64=8*(7+1) from rfl,s 7,s 6,s 5,s 4,s 3,s 2,s 1,s 0];show 0+_+_+_+_+_+_+_+_=_;have e0:x / 2^(8*0)%256=x%256:=by rw [Nat.mul_zero,Nat.pow_zero,Nat.div_one]
 rw [e0];simp only [ones,fR,List.map_cons,List.map_nil,List.sum_cons,List.sum_nil];rw [show (2:Nat)^(8*1)=256 from rfl,show (2:Nat)^(8*2)=65536 from rfl,show (2:Nat)^(8*3)=16777216 from rfl,show (2:Nat)^(8*4)=4294967296 from rfl,show (2:Nat)^(8*5)=1099511627776 from rfl,show (2:Nat)^(8*6)=281474976710656 from rfl,show (2:Nat)^(8*7)=72057594037927936 from rfl];simp only [Nat.add_assoc,Nat.zero_add,Nat.add_zero]
def bitF (l:List Nat) (n:Nat):Bool:=(l.getD (n / 64) 0).testBit (n%64)
theorem cntF_words (l:List Nat):∀ i,i≤l.length→nS (bitF l) (64*i)=((l.take i).map ones).sum
 | 0,_=>rfl
 | i+1,h=>by
  have hx:l[i]? = some (l.getD i 0):=by rw [List.getD_eq_getElem?_getD,List.getElem?_eq_getElem oM];rfl
  have ih:=cntF_words l i oM;rw [show 64*(i+1)=64*i+64 by omega,cntF_split,ih,List.take_add_one,hx];simp only [Option.toList_some,List.map_append,List.map_cons,List.map_nil,List.sum_append,List.sum_cons,List.sum_nil,Nat.add_zero];rw [← cntF_ones];congr 1
  refine cntF_same 64 λ j hj=>?_;show (l.getD ((64*i+j) / 64) 0).testBit ((64*i+j)%64)=_;rw [show (64*i+j) / 64=i by omega,show (64*i+j)%64=j by omega]
theorem total_words {s:Pg} (hs:PgOk s):fQ s=(s.words.map ones).sum:=by
 have h1:=cntF_words s.words s.words.length (Nat.le_refl _);rw [List.take_length] at h1;rw [← h1];have hwl:=hs.wl;obtain ⟨k,hk⟩:∃ k,64*s.words.length=s.count+k:=⟨64*s.words.length-s.count,oM⟩
 rw [hk,cntF_split,cntF_none (p:=λ j=>bitF s.words (s.count+j)) k (λ j _=>hs.top (s.count+j) oM),Nat.add_zero];show ((List.range s.count).filter λ n=>bL s n).length=_;rw [cntF_eq];refine cntF_same _ λ n hn=>?_;show bL s n=bitF s.words n;simp [bL,bitF,hn]
end Go.Proofs.YtfpadnmdafiddaaGreatDoor
namespace Go.Proofs.YtfpadnmdafiddaaGreatDoor
open Go Go.RowKit Go.V
theorem sparet_c {w:World} {L:PL} {g:Pg} (h:PgAt w L g) :
  Calls Tryz.prog 21 #[.pointer (some ⟨L.p,0,none⟩)] w (Ret λ v w'=>v=.int .i64 (cR g:Int)∧Grow w w'):=by
 have ht:=total_words h.ok;have hle:iF g.words≤g.count:=by rw [show iF g.words=fQ g from ht.symm];exact nF g
 have:=spare_c h hle;rw [show iF g.words=fQ g from ht.symm] at this;exact this
theorem blk_of_own {w:World} {base elem sz b n:Nat} {xs:List Value} (h:w.ownsRow base elem sz (.slice (some ⟨b,0,none⟩) n n) n xs):Blk w b elem xs:=by
 obtain ⟨hl,h2⟩:=h;rcases h2 with h2|⟨b',cap,cur,hv,_,hb,_,_,h5,h6⟩
 ·cases h2.1
 ·cases hv
  have e:cur.toList=xs:=by
   have h7:cur.toList.length≤n*sz:=by rw [Array.length_toList,h5];omega
   have h8:List.take (n*sz) cur.toList=xs:=by simpa using h6
   rw [List.take_of_length_le h7] at h8;exact h8
  unfold Blk;rw [← e];simpa using hb
def pg0 (c:Nat):Pg:=⟨c,List.replicate ((c+63) / 64) 0,λ _=>[]⟩
theorem nJ (c n:Nat):bL (pg0 c) n=false:=by
 simp only [bL,pg0,List.getD_eq_getElem?_getD,List.getElem?_replicate];split<;>simp
theorem pg0_ok (c:Nat) (h:c≤8192):PgOk (pg0 c) :=
 ⟨by simp [pg0],by intro x hx;simp only [pg0,List.mem_replicate] at hx;omega,λ n _=>by
  simp only [pg0,List.getD_eq_getElem?_getD,List.getElem?_replicate]
  split<;>simp,h⟩
theorem open_c {w:World} {d s m c:Nat} {f:Nat→Option Value} (h:DkAt w d s m (2*c) f) (h1:1≤c) (hc:c≤8192) :
  Calls Tryz.prog 68 #[.pointer (some ⟨d,0,none⟩),.slice none 0 0] w (Ret λ v w'=>∃ L:PL,v=.tuple #[.pointer (some ⟨L.p,0,none⟩),.int .i64 0]∧L.d=d∧L.m=m∧w.heap.size≤L.p∧w.heap.size≤L.u∧PgAt w' L (pg0 c)∧Grow w w'):=by
 refine V.calls (args:=[_,_]) Tryz.func68 rfl Tryz.ntmps68 rfl rfl ?_;repeat (first|(refine aB 142 ?_;refine aA rfl (dsize_c h) rfl ?_;rintro _ _ ⟨rfl,rfl⟩)|(refine TL.isQuo ?_;refine TL.quoN (a:=2*c) (b:=2) rfl rfl oM oM rfl ?_;rw [show 2*c / 2=c by omega])|refine yC ?_|refine yI λ bk w' hg hbk hsz hsz'=>?_)
 refine jB (c:=(c+63) / 64) (z:=.int .u64 0) rfl rfl oM (by unfold maxLen;omega) rfl ?_;intro b w2 hb hown hg2;have hbu:=blk_of_own hown;have hz2:=hg2.size
 have hzc:(madeCells (Value.int IntKind.u64 0).cells ((c+63) / 64*1)).toList=kV (List.replicate ((c+63) / 64) 0):=by
  have h0:∀ x:Nat,(Value.int IntKind.u64 0).cells[x%(Value.int IntKind.u64 0).cells.size]! = .int .u64 0:=λ x=>by
   rw [show (Value.int IntKind.u64 0).cells = #[.int .u64 0] from rfl];simp [Nat.mod_one]
  simp only [kV,madeCells,Nat.mul_one,Array.toList_map,Array.toList_range,h0,List.map_replicate];rw [List.map_const',List.length_range];rfl
 rw [hzc] at hbu;repeat (first|refine aF ?_|refine yJ λ w' hu hbk hsz=>?_)
 have hbu1:=hbu.upd hu oM;obtain ⟨w3,hw3⟩:∃ x,x=w':=⟨_,rfl⟩
 refine aX (S:=Unit) (λ _=>[(30,.int .i64 0),(29,.int .i64 0),(6,.pointer (some ⟨bk,0,none⟩))]) (λ _ wx=>wx=w3) (λ _=>0) () ⟨rfl,rfl,rfl,trivial⟩ hw3.symm ?_;rintro _ wx hwx;rw [hw3] at hwx;subst hwx;repeat (first|refine aF ?_|refine yJ λ w' hu hbk hsz=>?_)
 have hG:Grow w w':=by exact yG
 have hne:b≠bk:=by omega
 have hbu2:Blk w' b 168 (kV (List.replicate ((c+63) / 64) 0))
  := hbu1.upd hu hne
 have hfin:Blk w' bk 150 (pgc bk d b c ((c+63) / 64)):=hbk;have hdl:=h.blk.lt;have hml:=h.map.lt;refine fM rfl rfl ⟨_,rfl,⟨bk,d,b,m,s⟩,rfl,rfl,rfl,by simp only;omega,by simp only;omega,⟨?_,hbu2,pg0_ok c hc,hc,⟨f,h.grow hG,λ n hn=>?_⟩,λ n x hx=>?_,λ n hn=>?_,?_⟩,hG⟩
 ·show Blk w' bk 150 (pgc bk d b c (List.replicate ((c+63) / 64) 0).length);rw [List.length_replicate];exact hfin
 ·rw [nJ] at hn;cases hn
 ·cases hx
 ·rw [nJ] at hn;cases hn
 ·simp only;omega
end Go.Proofs.YtfpadnmdafiddaaGreatDoor
