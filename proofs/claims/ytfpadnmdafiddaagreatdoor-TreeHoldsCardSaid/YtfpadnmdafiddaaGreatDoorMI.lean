import Derived.Test.YtfpadnmdafiddaaGreatDoorMG
set_option linter.all false
set_option maxHeartbeats 16000000
set_option maxRecDepth 100000
namespace Go.Proofs.YtfpadnmdafiddaaGreatDoor
theorem Vt.height {s:Pg}:∀ {h h':Nat} {nd:Nd} {l l':dO} {ps ps':List Nat},Vt s h nd l ps→Vt s h' nd l' ps'→h=h'
 | 0,h',nd,_,_,_,_,a,b=>by
  have:=b.leaf.1 (a.leaf.2 rfl)
  omega
 | h+1,0,nd,_,_,_,_,a,b=>by
  have:=a.leaf.1 (b.leaf.2 rfl)
  omega
 | h+1,h'+1,nd,_,_,_,_,⟨ls,e1,e2,e3,_,_,_,_,e8⟩,⟨ls',f1,f2,f3,_,_,_,_,f8⟩=>by
  rw [e2] at f2
  cases ls with
  | nil=>cases e3
  | cons x r =>
   cases ls' with
   | nil=>cases f3
   | cons y r' =>
    simp only [List.map_cons,List.cons.injEq] at f2
    obtain ⟨n1,g1,_,g3⟩:=e8 x (by simp)
    obtain ⟨n2,k1,_,k3⟩:=f8 y (by simp)
    rw [f2.1,k1] at g1
    cases g1
    have:=g3.height k3
    omega
theorem Vt.many {s:Pg}:∀ {h:Nat} {nd:Nd} {l:dO} {ps:List Nat},Vt s h nd l ps→bJ nd*4^h≤l.length
 | 0,nd,l,ps,h=>by obtain ⟨rfl,_⟩:=h;simp [bJ]
 | h+1,nd,l,ps,⟨ls,e1,e2,e3,e4,e5,e6,e7,e8⟩=>by
  have hz:bJ nd=ls.length:=by simp [bJ,e1,e2]
  rw [hz,e6]
  clear e6 e3 hz e2 e4 e5 e7
  induction ls with
  | nil=>simp
  | cons x r ih =>
   obtain ⟨nd',g1,g2,g3⟩:=e8 x (by simp)
   have h1:=g3.many
   have h2:=ih (λ y hy=>e8 y (List.mem_cons_of_mem _ hy))
   have h3:4*4^h≤bJ nd'*4^h:=Nat.mul_le_mul_right _ g2
   simp only [List.flatMap_cons,List.length_append,List.length_cons,Nat.pow_succ] at h2 ⊢
   have h4:(r.length+1)*(4^h*4)=r.length*(4^h*4)+4^h*4:=by rw [Nat.add_mul,Nat.one_mul]
   omega
theorem Vt.pages {s:Pg}:∀ {h:Nat} {nd:Nd} {l:dO} {ps:List Nat},Vt s h nd l ps→3*ps.length+bJ nd≤l.length
 | 0,nd,l,ps,h=>by obtain ⟨rfl,rfl,_⟩:=h;simp [bJ]
 | h+1,nd,l,ps,⟨ls,e1,e2,e3,e4,e5,e6,e7,e8⟩=>by
  have hz:bJ nd=ls.length:=by simp [bJ,e1,e2]
  rw [hz,e6,e7]
  clear e6 e3 hz e2 e7 e4 e5
  induction ls with
  | nil=>simp
  | cons x r ih =>
   obtain ⟨nd',g1,g2,g3⟩:=e8 x (by simp)
   have h1:=g3.pages
   have h2:=ih (λ y hy=>e8 y (List.mem_cons_of_mem _ hy))
   simp only [List.flatMap_cons,List.length_append,List.length_cons] at h2 ⊢
   omega
theorem Vt.below {s:Pg}:∀ {h:Nat} {nd:Nd} {l:dO} {ps:List Nat},Vt s h nd l ps→∀ p∈ps,∃ h' nd' l' ps',h'<h∧dR s p=some nd'∧Vt s h' nd' l' ps'
 | 0,nd,l,ps,h,p,hp=>by obtain ⟨_,rfl,_⟩:=h;cases hp
 | h+1,nd,l,ps,⟨ls,e1,e2,e3,_,_,e6,e7,e8⟩,p,hp=>by
  rw [e7] at hp
  obtain ⟨x,hx,hpx⟩:=List.mem_flatMap.1 hp
  obtain ⟨nd',g1,g2,g3⟩:=e8 x hx
  rcases List.mem_cons.1 hpx with rfl|hpx
  ·exact ⟨h,nd',_,_,by omega,g1,g3⟩
  ·obtain ⟨h',n',l',ps',q1,q2,q3⟩:=g3.below p hpx
   exact ⟨h',n',l',ps',by omega,q2,q3⟩
def TrAt (s:Pg):Option Nat→Nat→dO→List Nat→Prop
 | none,lv,l,ps=>lv=0∧l=[]∧ps=[]
 | some n,lv,l,ps=>∃ h nd ps',lv=h+1∧dR s n=some nd∧Vt s h nd l ps'∧1≤bJ nd∧ps=n::ps'
theorem TrAt.ext {s s':Pg} (hx:Ext s s') {r:Option Nat} {lv:Nat} {l:dO} {ps:List Nat} (h:TrAt s r lv l ps):TrAt s' r lv l ps:=by
 cases r with
 | none=>exact h
 | some n =>
  obtain ⟨h,nd,ps',e1,e2,e3,e4,e5⟩:=h
  exact ⟨h,nd,ps',e1,hx.node e2,e3.ext hx,e4,e5⟩
theorem TrAt.srt {s:Pg} {r:Option Nat} {lv:Nat} {l:dO} {ps:List Nat} (h:TrAt s r lv l ps):Srt l:=by
 cases r with
 | none=>rw [h.2.1];exact List.Pairwise.nil
 | some n=>obtain ⟨h,nd,ps',e1,e2,e3,e4,e5⟩:=h;exact e3.srt
theorem TrAt.items {s:Pg} {r:Option Nat} {lv:Nat} {l:dO} {ps:List Nat} (h:TrAt s r lv l ps):∀ x∈l,dB x.1=true∧fR x.2=true:=by
 cases r with
 | none=>rw [h.2.1];intro x hx;cases hx
 | some n=>obtain ⟨h,nd,ps',e1,e2,e3,e4,e5⟩:=h;exact e3.items
theorem TrAt.lt {s:Pg} (hs:PgOk s) {n lv:Nat} {l:dO} {ps:List Nat} (h:TrAt s (some n) lv l ps):n<8192:=by
 obtain ⟨h,nd,ps',e1,e2,e3,e4,e5⟩:=h
 have:=fH (eT e2)
 have:=hs.cnt
 omega
theorem TrAt.many {s:Pg} {r:Option Nat} {lv:Nat} {l:dO} {ps:List Nat} (h:TrAt s r lv l ps) (h2:2≤lv):2*4^(lv-1)≤l.length:=by
 cases r with
 | none=>have:=h.1;omega
 | some n =>
  obtain ⟨h,nd,ps',rfl,e2,e3,e4,e5⟩:=h
  have h1:=e3.many
  have hz:2≤bJ nd:=by
   have hok:=iN e2
   obtain ⟨h,rfl⟩:∃ g,h=g+1:=⟨h-1,by omega⟩
   have hl:¬ cK nd=true:=λ e=>by have:=e3.leaf.1 e;omega
   unfold cE at hok
   rw [if_neg hl] at hok
   obtain ⟨_,w2,_⟩:=cT hok
   unfold bJ
   omega
  have h3:2*4^h≤bJ nd*4^h:=Nat.mul_le_mul_right _ hz
  rw [Nat.add_sub_cancel]
  omega
theorem TrAt.pages {s:Pg} {r:Option Nat} {lv:Nat} {l:dO} {ps:List Nat} (h:TrAt s r lv l ps):3*ps.length≤l.length+2:=by
 cases r with
 | none=>rw [h.2.2];simp
 | some n =>
  obtain ⟨h,nd,ps',rfl,e2,e3,e4,rfl⟩:=h
  have:=e3.pages
  simp only [List.length_cons]
  omega
theorem TrAt.levels {s:Pg} {r:Option Nat} {lv k:Nat} {l:dO} {ps:List Nat} (h:TrAt s r lv l ps) (hk:1≤k) (hl:l.length<2*4^k):lv≤k:=by
 by_cases h2:lv≤k
 ·exact h2
 ·have h3:=h.many (by omega)
  have h4:4^k≤4^(lv-1):=Nat.pow_le_pow_right (by omega) (by omega)
  omega
theorem Ext.spare {s s':Pg} (h:Ext s s'):bZ s'≤bZ s:=by
 unfold bZ
 have:gT s≤gT s':=by
  unfold gT
  rw [h.count,← List.countP_eq_length_filter,← List.countP_eq_length_filter]
  exact List.countP_mono_left λ n _ hn=>(h.used n hn).1
 rw [h.count]
 omega
theorem TrAt.empty {s:Pg} {r:Option Nat} {lv:Nat} {l:dO} {ps:List Nat} (h:TrAt s r lv l ps):r=none↔l=[]:=by
 cases r with
 | none=>exact Iff.intro (λ _=>h.2.1) (λ _=>rfl)
 | some n =>
  obtain ⟨h,nd,ps',e1,e2,e3,e4,e5⟩:=h
  exact Iff.intro (λ e=>by cases e) (λ e=>absurd e (e3.ne e4))
theorem put_tr {s:Pg} {r:Option Nat} {lv:Nat} {l:dO} {ps:List Nat} (hs:PgOk s) (h:TrAt s r lv l ps) {key v:Bs} (hk:dB key=true) (hv:fR v=true) (hlv:lv≤16) (hsp:2*lv+1≤bZ s) :
  ∃ n s' lv' ps',putP s r key v=some (n,s')∧Ext s s'∧PgOk s'∧TrAt s' (some n) lv' (gU key v l) ps'∧bZ s'+lv+ps'.length=bZ s+ps.length∧bZ s≤bZ s'+(2*lv+1)∧bZ s'≤bZ s:=by
 cases r with
 | none =>
  obtain ⟨rfl,rfl,rfl⟩:=h
  have hok:cE ⟨[(key,v)],[],[]⟩=true:=leaf_ok (List.pairwise_singleton _ _) (λ x hx=>by
   rw [List.mem_singleton] at hx;subst hx;exact ⟨hk,hv⟩) (by simp)
  obtain ⟨n,s',e,hw⟩:=fE hs (by omega) hok
  have:=hw.spare
  refine ⟨n,s',1,[n],by simpa [putP] using e,hw.ext,hw.ok,⟨0,_,[],rfl,hw.node,⟨rfl,rfl,List.pairwise_singleton _ _,λ x hx=>by
   simp only [gU,List.mem_singleton] at hx;subst hx;exact ⟨hk,hv⟩⟩,by simp [bJ,gU],rfl⟩,by simp;omega,by omega,by omega⟩
 | some n =>
  obtain ⟨h,nd,ps',rfl,e2,e3,e4,rfl⟩:=h
  obtain ⟨fr,th,q1,_,q3,up,s',uls,q4,q5,q6,q7⟩:=put_up key v hk hv h (f:=16) hs e2 e3 (by omega) e4 (by omega)
  have hup:∀ {z:Option (Nat×Pg)},(match up.kids with | [k]=>some (k,s')|_=>gB s' up)=z→putP s (some n) key v=z:=by
   intro z hz
   simp only [putP,q1,q4]
   exact hz
  have hlen:=q5.len
  have htwo:=q5.two
  simp only [List.length_cons]
  match uls,q5,hlen,htwo,q6,q7 with
  | [],q5,hlen,_,_,_=>simp at hlen
  | [x],q5,hlen,_,q6,q7 =>
   obtain ⟨nd',g1,g2,g3⟩:=q5.sub x (by simp)
   have hz:1≤bJ nd':=by omega
   have hi:gU key v l=x.its:=by rw [q5.its];simp
   rw [pgs_one] at q6 q7
   simp only [List.length_cons] at q6 q7
   refine ⟨x.page,s',h+1,x.page::x.ps,hup (by rw [q5.kids];rfl),q5.ext,q5.ok,⟨h,nd',x.ps,rfl,g1,by rw [hi];exact g3,hz,rfl⟩,by simp only [List.length_cons];omega,by omega,q5.ext.spare⟩
  | [x,y],q5,hlen,_,q6,q7 =>
   have hbig:=q5.big rfl
   have hvt:Vt s' (h+1) up (gU key v l) (pgs [x,y]):=⟨[x,y],q5.items,q5.kids,q5.len,q5.toks,q5.keys,q5.its,rfl,λ z hz=>by
    obtain ⟨n1,g1,g2,g3⟩:=q5.sub z hz
    obtain ⟨n2,g4,g5⟩:=hbig z hz
    rw [g1] at g4
    cases g4
    exact ⟨n1,g1,g5,g3⟩⟩
   have hz2:bJ up=2:=by simp [bJ,q5.items,q5.kids]
   have hok:=hvt.ok q5.ok (.inl (by omega)) (by omega)
   obtain ⟨m,s2,w1,w2⟩:=fE q5.ok (by simp [pgs] at q6 q7;omega) hok
   have:=w2.spare
   refine ⟨m,s2,h+2,m::pgs [x,y],hup (by rw [q5.kids];exact w1),q5.ext.trans w2.ext,w2.ok,⟨h+1,up,_,rfl,w2.node,hvt.ext w2.ext,by omega,rfl⟩,by simp only [List.length_cons];omega,by omega,(q5.ext.trans w2.ext).spare⟩
  | x::y::z::r,q5,hlen,htwo,_,_=>simp at htwo
theorem del_tr {s:Pg} {n lv:Nat} {l:dO} {ps:List Nat} (hs:PgOk s) (h:TrAt s (some n) lv l ps) {key:Bs} (hkey:∃ x∈l,x.1=key) (hlv:lv≤16) (hsp:2*lv+1≤bZ s) :
  ∃ fr r s' lv' ps',gZ s key 16 n=some (fr,true)∧delP s fr=some (r,s')∧Ext s s'∧PgOk s'∧TrAt s' r lv' (gV key l) ps'∧bZ s≤bZ s'+(2*lv+1)∧bZ s'≤bZ s:=by
 obtain ⟨h,nd,ps',rfl,e2,e3,e4,rfl⟩:=h
 obtain ⟨fr,q1,_,low,s',ps2,q2,q3,q4,q5,q6,q7,q8,q9⟩:=del_up key h (f:=16) hs e2 e3 (by omega) (by omega) hkey
 have h8:=node_le e2
 have hup:∀ {z:Option (Option Nat×Pg)},(if bJ low=0 then some (none,s') else match low.kids with
   | [k]=>some (some k,s')
   | _=>match gB s' low with
    | none=>none
    | some (p,s2)=>some (some p,s2))=z→delP s fr=z:=by
  intro z hz
  simp only [delP,q2]
  exact hz
 by_cases h0:bJ low=0
 ·refine ⟨fr,none,s',0,[],q1,hup (by rw [if_pos h0]),q3,q4,⟨rfl,?_,rfl⟩,by omega,q9⟩
  cases h with
  | zero=>obtain ⟨rfl,_⟩:=q5;exact List.eq_nil_of_length_eq_zero (by simpa [bJ] using h0)
  | succ h =>
   obtain ⟨ls,f1,f2,f3,_⟩:=q5
   simp [bJ,f1,f2] at h0
   rw [h0] at f3
   cases f3
 ·have hdl:gV key l≠[]:=q5.ne (by omega)
  by_cases hk1:low.kids.length=1
  ·cases h with
   | zero=>obtain ⟨rfl,_⟩:=q5;simp at hk1
   | succ h =>
    obtain ⟨ls,f1,f2,f3,f4,f5,f6,f7,f8⟩:=q5
    rw [f2,List.length_map] at hk1
    match ls,f2,f6,f7,f8,hk1 with
    | [x],f2,f6,f7,f8,_ =>
     obtain ⟨nd',g1,g2,g3⟩:=f8 x (by simp)
     have hi:gV key l=x.its:=by rw [f6];simp
     exact ⟨fr,some x.page,s',h+1,_,q1,hup (by rw [if_neg h0,f2];rfl),q3,q4,⟨h,nd',x.ps,rfl,g1,by rw [hi];exact g3,by omega,rfl⟩,by omega,q9⟩
  ·have hok:=q5.ok q4 (by
    cases h with
    | zero=>exact .inr rfl
    | succ h =>
     left
     obtain ⟨ls,f1,f2,_⟩:=q5
     simp only [bJ,f1,List.length_nil,Nat.zero_add] at h0 ⊢
     omega) (by omega)
   obtain ⟨m,s2,w1,w2⟩:=fE q4 (by omega) hok
   have:=w2.spare
   refine ⟨fr,some m,s2,h+1,_,q1,hup ?_,q3.trans w2.ext,w2.ok,⟨h,low,ps2,rfl,w2.node,q5.ext w2.ext,by omega,rfl⟩,by omega,by omega⟩
   rw [if_neg h0]
   split
   ·rename_i k hk;rw [hk] at hk1;simp at hk1
   ·rw [w1]
theorem path_tr (key:Bs):∀ (h:Nat) {s:Pg} {n f:Nat} {nd:Nd} {l:dO} {ps:List Nat},dR s n=some nd→Vt s h nd l ps→h<f →
  ∃ fr th,gZ s key f n=some (fr,th)∧fr.length=h+1∧(th=true↔∃ x∈l,x.1=key)∧∀ v,(key,v)∈l→∃ nd i,fr[h]? = some (nd,i)∧nd.items[i]? = some (key,v)
 | 0,s,n,f,nd,l,ps,hn,hv,hf=>by
  obtain ⟨rfl,rfl,h3,h4⟩:=hv
  obtain ⟨f,rfl⟩:∃ g,f=g+1:=⟨f-1,by omega⟩
  refine ⟨[(⟨l,[],[]⟩,gD l key)],gF l key,by simp only [gZ,hn];rfl,rfl,mP key h3,λ v hv=>⟨_,_,rfl,?_⟩⟩
  have ht:=(mP key h3).2 ⟨_,hv,rfl⟩
  unfold gF at ht
  split at ht
  ·cases ht
  ·rename_i x hx
   simp only [decide_eq_true_eq] at ht
   simp only
   rw [hx]
   have e1:x.1=key:=cmpB_eq ht
   have hxm:=List.mem_of_getElem? hx
   have:x=(key,v):=by
    obtain ⟨i,hi,e⟩:=List.mem_iff_getElem.1 hxm
    obtain ⟨j,hj,e'⟩:=List.mem_iff_getElem.1 hv
    rcases Nat.lt_trichotomy i j with g|g|g
    ·have:=(List.pairwise_iff_getElem.1 h3) i j hi hj g
     rw [e,e',e1] at this
     exact absurd this (dC _)
    ·subst g;rw [← e,← e']
    ·have:=(List.pairwise_iff_getElem.1 h3) j i hj hi g
     rw [e,e',e1] at this
     exact absurd this (dC _)
   rw [this]
 | h+1,s,n,f,nd,l,ps,hn,hv,hf=>by
  have hlf:cK nd=false:=by
   cases hh:cK nd with
   | false=>rfl
   | true=>have:=hv.leaf.1 hh;omega
  obtain ⟨ls,e1,e2,e3,e4,e5,e6,e7,e8⟩:=hv
  obtain ⟨f,rfl⟩:∃ g,f=g+1:=⟨f-1,by omega⟩
  obtain ⟨la,x,lb,ka,kb,a1,a2,a3,a4,a5,a6,a7,a8⟩:=kid_split e3 e4 key
  obtain ⟨ndx,x1,x2,x3⟩:=e8 x (by rw [a1];simp)
  obtain ⟨fr,th,i1,i2,i3,i4⟩:=path_tr key h (s:=s) (n:=x.page) (f:=f) x1 x3 (by omega)
  have hkid:nd.kids[iQ nd.keys key]? = some x.page:=by
   rw [e2,a1,← a3]
   simp
  have hlt:=TK_its a4.symm a6
  have hgt:=KT_its a5 a7
  have hflat:l=la.flatMap (·.its)++(x.its++lb.flatMap (·.its)):=by rw [e6,a1];simp
  have hin:∀ y∈l,y.1=key→y∈x.its:=by
   intro y hy e
   rw [hflat] at hy
   rcases List.mem_append.1 hy with hy|hy
   ·exact absurd (hlt y hy) (by rw [e];exact dC _)
   ·rcases List.mem_append.1 hy with hy|hy
    ·exact hy
    ·exact absurd (hgt y hy) (by rw [e];exact dC _)
  refine ⟨(nd,iQ nd.keys key)::fr,th,?_,by simp [i2],?_,?_⟩
  ·simp only [gZ,hn,hlf,Bool.false_eq_true,if_false,hkid,i1]
  ·rw [i3]
   exact ⟨λ ⟨y,hy,e⟩=>⟨y,by rw [hflat];simp [hy],e⟩,λ ⟨y,hy,e⟩=>⟨y,hin y hy e,e⟩⟩
  ·intro v hv
   obtain ⟨nd',i,g1,g2⟩:=i4 v (hin _ hv rfl)
   exact ⟨nd',i,by simpa using g1,g2⟩
end Go.Proofs.YtfpadnmdafiddaaGreatDoor
namespace Go.Proofs.YtfpadnmdafiddaaGreatDoor
theorem getMc (n k:Nat) (t:Part) (M:eR):gK ((n,t)::M) k=if k=n then some t else gK M k:=by
 unfold gK
 rw [List.find?_cons]
 by_cases h:k=n
 ·subst h;simp
 ·rw [if_neg h]
  have:(n==k)=false:=by simp;omega
  simp [this]
theorem toks_adj:∀ {ls:List Sb} {ks:List Bs},ls.length=ks.length+1→(toks ls ks).Pairwise RT→∀ i k,ks[i]? = some k→(∀ x,ls[i]? = some x→RT (.T x) (.K k))∧∀ y,ls[i+1]? = some y→RT (.K k) (.T y)
 | [],ks,h,_,_,_,_=>by cases h
 | [x],ks,h,_,i,k,hk=>by
  obtain rfl:ks=[]:=List.eq_nil_of_length_eq_zero (by simpa using h.symm)
  cases hk
 | x::y::r,[],h,_,i,k,hk=>by cases hk
 | x::y::r,k0::ks,h,hp,i,k,hk=>by
  have e:toks (x::y::r) (k0::ks)=Tok.T x::Tok.K k0::toks (y::r) ks:=rfl
  rw [e] at hp
  obtain ⟨p1,p2⟩:=List.pairwise_cons.1 hp
  obtain ⟨p3,p4⟩:=List.pairwise_cons.1 p2
  cases i with
  | zero =>
   simp only [List.getElem?_cons_zero,Option.some.injEq] at hk
   subst hk
   refine ⟨λ z hz=>?_,λ z hz=>?_⟩
   ·simp only [List.getElem?_cons_zero,Option.some.injEq] at hz
    subst hz
    exact p1 _ (by simp)
   ·simp only [List.getElem?_cons_succ,List.getElem?_cons_zero,Option.some.injEq] at hz
    subst hz
    exact p3 _ (by simp [toks])
  | succ i =>
   have ih:=toks_adj (ls:=y::r) (ks:=ks) (by simpa using h) p4 i k (by simpa using hk)
   exact ⟨λ z hz=>ih.1 z (by simpa using hz),λ z hz=>ih.2 z (by simpa using hz)⟩
def firstK (l:dO):Bs:=(l.getD 0 ([],[])).1
def lastK (l:dO):Bs:=(l.getD (l.length-1) ([],[])).1
theorem firstK_mem {l:dO} (h:l≠[]):∃ x∈l,x.1=firstK l:=by
 cases l with
 | nil=>exact absurd rfl h
 | cons x r=>exact ⟨x,by simp,rfl⟩
theorem lastK_mem {l:dO} (h:l≠[]):∃ x∈l,x.1=lastK l:=by
 have hl:l.length-1<l.length:=by
  cases l with
  | nil=>exact absurd rfl h
  | cons x r=>simp
 refine ⟨l[l.length-1],List.getElem_mem hl,?_⟩
 unfold lastK
 rw [List.getD_eq_getElem?_getD,List.getElem?_eq_getElem hl]
 rfl
theorem firstK_append {l r:dO} (h:l≠[]):firstK (l++r)=firstK l:=by
 cases l with
 | nil=>exact absurd rfl h
 | cons x t=>rfl
theorem lastK_append {l r:dO} (h:r≠[]):lastK (l++r)=lastK r:=by
 unfold lastK
 have hr:0<r.length:=List.length_pos_iff.2 h
 rw [List.getD_eq_getElem?_getD,List.getD_eq_getElem?_getD,List.length_append,List.getElem?_append_right (by omega)]
 congr 3
 omega
def DeepM (M:eR):Nat→Nat→Prop
 | 0,_=>False
 | f+1,n=>∃ t,gK M n=some t∧∀ k∈t.node.kids,DeepM M f k
def SubM (M M':eR):Prop:=∀ k t,gK M k=some t→gK M' k=some t
theorem DeepM.sub {M M':eR} (h:SubM M M'):∀ {f n:Nat},DeepM M f n→DeepM M' f n
 | 0,_,h=>h.elim
 | f+1,n,⟨t,h1,h2⟩=>⟨t,h n t h1,λ k hk=>(h2 k hk).sub h⟩
theorem flatMap_same {α β : Type} {f g : α→List β}:∀ {l:List α},(∀ x∈l,f x=g x)→l.flatMap f=l.flatMap g
 | [],_=>rfl
 | x::r,h=>by
  simp only [List.flatMap_cons]
  rw [h x (by simp),flatMap_same λ y hy=>h y (List.mem_cons_of_mem _ hy)]
theorem itemsP_sub {M M':eR} (h:SubM M M'):∀ {f n:Nat},DeepM M f n→fT M' f n=fT M f n
 | 0,_,h=>h.elim
 | f+1,n,⟨t,h1,h2⟩=>by
  rw [fT,fT,h1,h n t h1]
  simp only
  congr 1
  exact flatMap_same λ k hk=>itemsP_sub h (h2 k hk)
structure Known (s:Pg) (M:eR) (n:Nat) (t:Part) (h:Nat) (l:dO) (ps:List Nat):Prop where
 node:dR s n=some t.node
 vt:Vt s h t.node l ps
 sz:1≤bJ t.node
 lv:t.levels=h+1
 low:t.low=firstK l
 high:t.high=lastK l
 deep:DeepM M (h+1) n
 its:fT M (h+1) n=l
 ps:∀ p∈ps,∃ t,gK M p=some t
theorem Known.sub {s:Pg} {M M':eR} (hs:SubM M M') {n h:Nat} {t:Part} {l:dO} {ps:List Nat} (k:Known s M n t h l ps):Known s M' n t h l ps :=
 ⟨k.node,k.vt,k.sz,k.lv,k.low,k.high,k.deep.sub hs,(itemsP_sub hs k.deep).trans k.its,λ p hp=>let ⟨t,ht⟩:=k.ps p hp;⟨t,hs p t ht⟩⟩
def MemoOk (s:Pg) (M:eR):Prop:=∀ n t,gK M n=some t→∃ h l ps,Known s M n t h l ps
theorem MemoOk.at_ {s:Pg} {M:eR} (hM:MemoOk s M) {n h:Nat} {t:Part} {nd:Nd} {l:dO} {ps:List Nat} (ht:gK M n=some t) (hn:dR s n=some nd) (hv:Vt s h nd l ps):t.node=nd∧Known s M n t h l ps:=by
 obtain ⟨h',l',ps',k⟩:=hM n t ht
 have e:=k.node
 rw [hn] at e
 cases e
 obtain rfl:=hv.height k.vt
 obtain ⟨rfl,rfl⟩:=hv.same k.vt
 exact ⟨rfl,k⟩
theorem SubM.cons {M:eR} {n:Nat} {t:Part} (h:gK M n=none):SubM M ((n,t)::M):=λ k t' hk=>by
 rw [getMc,if_neg]
 ·exact hk
 ·intro e;subst e;rw [h] at hk;cases hk
theorem MemoOk.cons {s:Pg} {M:eR} (hM:MemoOk s M) {n h:Nat} {t:Part} {l:dO} {ps:List Nat} (h0:gK M n=none) (k:Known s ((n,t)::M) n t h l ps):MemoOk s ((n,t)::M):=λ m t' hm=>by
 rw [getMc] at hm
 split at hm
 ·rename_i e;subst e;cases hm;exact ⟨h,l,ps,k⟩
 ·obtain ⟨h',l',ps',k'⟩:=hM m t' hm
  exact ⟨h',l',ps',k'.sub (SubM.cons h0)⟩
def PartT (s:Pg) (h f:Nat):Prop:=∀ {n:Nat} {nd:Nd} {l:dO} {ps:List Nat} {M:eR},MemoOk s M→dR s n=some nd→Vt s h nd l ps→1≤bJ nd →
  ∃ t M',kJ s f n M=some (t,M')∧MemoOk s M'∧SubM M M'∧gK M' n=some t∧t.node=nd∧Known s M' n t h l ps∧∀ k t',gK M' k=some t'→(∃ t,gK M k=some t)∨k∈n::ps
theorem kids_tr {s:Pg} {h f:Nat} (hh:h+1≤15) (ih:PartT s h f) {nd:Nd} {ls:List Sb} (e3:ls.length=nd.keys.length+1) (e4:(toks ls nd.keys).Pairwise RT) (e8:∀ x∈ls,∃ nd',dR s x.page=some nd'∧4≤bJ nd'∧Vt s h nd' x.its x.ps) :
  ∀ (rest done:List Sb) {M:eR} {t:Part},ls=done++rest→MemoOk s M→t.node=nd→(done≠[]→t.levels=h+2∧t.low=firstK (ls.flatMap (·.its))∧t.high=lastK (done.flatMap (·.its))) →
   ∃ t' M',lH (kJ s f) nd (rest.map (·.page)) done.length t M=some (t',M')∧MemoOk s M'∧SubM M M'∧(∀ x∈rest,∃ tx,gK M' x.page=some tx∧Known s M' x.page tx h x.its x.ps)∧(∀ k t',gK M' k=some t'→(∃ t,gK M k=some t)∨k∈pgs rest) ∧
    t'.node=nd∧t'.levels=h+2∧t'.low=firstK (ls.flatMap (·.its))∧t'.high=lastK (ls.flatMap (·.its)):=by
 intro rest
 induction rest with
 | nil =>
  intro done M t e hM hn hd
  rw [List.append_nil] at e
  subst e
  have hne:ls≠[]:=by intro e;subst e;cases e3
  obtain ⟨h1,h2,h3⟩:=hd hne
  refine ⟨t,M,?_,hM,λ _ _ h=>h,(λ x hx=>by cases hx),λ k t' hk=>.inl ⟨t',hk⟩,hn,h1,h2,h3⟩
  simp only [List.map_nil,lH]
  rw [if_neg (by omega)]
 | cons x r ihr =>
  intro done M t e hM hn hd
  obtain ⟨ndx,g1,g2,g3⟩:=e8 x (by rw [e];simp)
  obtain ⟨p,M1,q1,q2,q3,q4,q5,q6,q7⟩:=ih hM g1 g3 (by omega)
  have hxne:x.its≠[]:=g3.ne (by omega)
  have hlx:ls[done.length]? = some x:=by rw [e];simp
  let t1:Part:=if done.length=0 then ⟨nd,p.levels+1,p.low,p.high⟩ else ⟨nd,t.levels,t.low,p.high⟩
  have ht1:t1.node=nd∧t1.levels=h+2∧t1.low=firstK (ls.flatMap (·.its))∧t1.high=lastK ((done++[x]).flatMap (·.its)):=by
   have hhi:p.high=lastK ((done++[x]).flatMap (·.its)):=by
    rw [q6.high]
    simp only [List.flatMap_append,List.flatMap_cons,List.flatMap_nil,List.append_nil]
    exact (lastK_append hxne).symm
   simp only [t1]
   split
   ·rename_i h0
    have hd0:done=[]:=List.eq_nil_of_length_eq_zero h0
    refine ⟨rfl,by rw [q6.lv],?_,hhi⟩
    rw [q6.low,e,hd0]
    simp only [List.nil_append,List.flatMap_cons]
    exact (firstK_append hxne).symm
   ·rename_i h0
    obtain ⟨k1,k2,k3⟩:=hd (λ e=>h0 (by rw [e];rfl))
    exact ⟨rfl,k1,k2,hhi⟩
  obtain ⟨w1,w2,w3,w4⟩:=ht1
  have hc1:¬ bJ p.node<4:=by rw [q5];omega
  have hc2:(p.levels+1==t1.levels)=true:=by rw [w2,q6.lv];simp
  have hc3:(decide (0<done.length)&&decide (dX p.low (nd.keys.getD (done.length-1) [])<0))=false:=by
   by_cases h0:0<done.length
   ·have hk:done.length-1<nd.keys.length:=by
     have:done.length<ls.length:=by rw [e];simp
     omega
    have hkk:=List.getElem?_eq_getElem hk
    have hrt:=(toks_adj e3 e4 (done.length-1) _ hkk).2 x (by rw [show done.length-1+1=done.length by omega];exact hlx)
    obtain ⟨y,hy,ey⟩:=firstK_mem hxne
    have h1:=hrt y hy
    rw [ey,← q6.low] at h1
    rw [List.getD_eq_getElem?_getD,hkk]
    simp only [Option.getD_some,Bool.and_eq_false_iff,decide_eq_false_iff_not]
    right
    exact h1
   ·simp [h0]
  have hc4:(decide (done.length<nd.keys.length)&&decide (0≤dX p.high (nd.keys.getD done.length [])))=false:=by
   by_cases h0:done.length<nd.keys.length
   ·have hkk:=List.getElem?_eq_getElem h0
    have hrt:=(toks_adj e3 e4 done.length _ hkk).1 x hlx
    obtain ⟨y,hy,ey⟩:=lastK_mem hxne
    have h1:=hrt y hy
    rw [ey,← q6.high] at h1
    rw [List.getD_eq_getElem?_getD,hkk]
    simp only [Option.getD_some,Bool.and_eq_false_iff,decide_eq_false_iff_not]
    right
    unfold hX at h1
    omega
   ·simp [h0]
  obtain ⟨t',M',u1,u2,u3,u4,u5,u6⟩:=ihr (done++[x]) (M:=M1) (t:=t1) (by rw [e];simp) q2 w1 (λ _=>⟨w2,w3,w4⟩)
  refine ⟨t',M',?_,u2,λ k tk hk=>u3 k tk (q3 k tk hk),?_,?_,u6⟩
  ·simp only [List.map_cons,lH,q1]
   rw [if_neg]
   ·rw [List.length_append,List.length_cons,List.length_nil] at u1
    exact u1
   ·have hc1':decide (bJ p.node<4)=false:=decide_eq_false hc1
    rw [show (p.levels+1==(if done.length=0 then (⟨nd,p.levels+1,p.low,p.high⟩:Part) else ⟨nd,t.levels,t.low,p.high⟩).levels)=true from hc2]
    rw [hc1',hc3,hc4]
    simp
  ·intro y hy
   rcases List.mem_cons.1 hy with rfl|hy
   ·exact ⟨p,u3 _ _ q4,q6.sub u3⟩
   ·exact u4 y hy
  ·intro k tk hk
   rcases u5 k tk hk with ⟨t2,ht2⟩|hk2
   ·rcases q7 k t2 ht2 with h1|h1
    ·exact .inl h1
    ·right;unfold pgs;simp only [List.flatMap_cons,List.mem_append];exact .inl h1
   ·right;unfold pgs at hk2 ⊢;simp only [List.flatMap_cons,List.mem_append];exact .inr hk2
theorem part_tr (s:Pg):∀ (h f:Nat),h<f→h≤15→PartT s h f:=by
 intro h
 induction h with
 | zero =>
  intro f hf h15 n nd l ps M hM hn hv hz
  cases hg:gK M n with
  | some t =>
   obtain ⟨k1,k2⟩:=hM.at_ hg hn hv
   exact ⟨t,M,by unfold kJ;rw [hg],hM,λ _ _ h=>h,hg,k1,k2,λ k t' hk=>.inl ⟨t',hk⟩⟩
  | none =>
   obtain ⟨f,rfl⟩:∃ g,f=g+1:=⟨f-1,by omega⟩
   have hlf:=hv.leaf.2 rfl
   obtain ⟨rfl,rfl,h3,h4⟩:=id hv
   have hkn:Known s ((n,fL ⟨l,[],[]⟩)::M) n (fL ⟨l,[],[]⟩) 0 l []:=by
    have hgg:gK ((n,fL ⟨l,[],[]⟩)::M) n=some (fL ⟨l,[],[]⟩):=by rw [getMc,if_pos rfl]
    exact ⟨hn,hv,hz,rfl,rfl,rfl,⟨_,hgg,(λ k hk=>by cases hk)⟩,(by rw [fT,hgg];simp [fL]),(λ p hp=>by cases hp)⟩
   refine ⟨fL ⟨l,[],[]⟩,(n,fL ⟨l,[],[]⟩)::M,?_,hM.cons hg hkn,SubM.cons hg,by rw [getMc,if_pos rfl],rfl,hkn,λ k t' hk=>?_⟩
   ·unfold kJ
    rw [hg]
    simp only [hn]
    rw [if_pos hlf]
   ·rw [getMc] at hk
    split at hk
    ·rename_i e;exact .inr (by simp [e])
    ·exact .inl ⟨t',hk⟩
 | succ h ih =>
  intro f hf h15 n nd l ps M hM hn hv hz
  cases hg:gK M n with
  | some t =>
   obtain ⟨k1,k2⟩:=hM.at_ hg hn hv
   exact ⟨t,M,by unfold kJ;rw [hg],hM,λ _ _ h=>h,hg,k1,k2,λ k t' hk=>.inl ⟨t',hk⟩⟩
  | none =>
   obtain ⟨f,rfl⟩:∃ g,f=g+1:=⟨f-1,by omega⟩
   have hlf:¬ cK nd=true:=λ e=>by have:=hv.leaf.1 e;omega
   obtain ⟨ls,e1,e2,e3,e4,e5,e6,e7,e8⟩:=id hv
   obtain ⟨t,M1,u1,u2,u3,u4,u5,u6,u7,u8,u9⟩:=kids_tr h15 (ih f (by omega) (by omega)) e3 e4 e8 ls [] (M:=M) (t:=⟨nd,0,[],[]⟩) rfl hM rfl (λ h=>absurd rfl h)
   have hn1:gK M1 n=none:=by
    cases hc:gK M1 n with
    | none=>rfl
    | some tc =>
     rcases u5 n tc hc with ⟨t2,h2⟩|h2
     ·rw [hg] at h2;cases h2
     ·have hnp:n∈ps:=by rw [e7];exact h2
      obtain ⟨h',nd',l',ps',k1,k2,k3⟩:=hv.below n hnp
      rw [hn] at k2
      cases k2
      have:=hv.height k3
      omega
   have hgg:gK ((n,t)::M1) n=some t:=by rw [getMc,if_pos rfl]
   have hsub:SubM M1 ((n,t)::M1):=SubM.cons hn1
   have hkn:Known s ((n,t)::M1) n t (h+1) l ps:=by
    refine ⟨by rw [u6];exact hn,by rw [u6];exact hv,by rw [u6];exact hz,u7,by rw [u8,e6],by rw [u9,e6],⟨t,hgg,λ k hk=>?_⟩,?_,λ p hp=>?_⟩
    ·rw [u6,e2] at hk
     obtain ⟨x,hx,rfl⟩:=List.mem_map.1 hk
     obtain ⟨tx,_,kx⟩:=u4 x hx
     exact kx.deep.sub hsub
    ·rw [fT,hgg]
     simp only [u6,e1,List.nil_append,e2,e6]
     rw [List.flatMap_map]
     exact flatMap_same λ x hx=>by
      obtain ⟨tx,_,kx⟩:=u4 x hx
      exact (itemsP_sub hsub kx.deep).trans kx.its
    ·rw [e7] at hp
     obtain ⟨x,hx,hpx⟩:=List.mem_flatMap.1 hp
     obtain ⟨tx,h1,kx⟩:=u4 x hx
     rcases List.mem_cons.1 hpx with rfl|hpx
     ·exact ⟨tx,hsub _ _ h1⟩
     ·obtain ⟨tp,h2⟩:=kx.ps p hpx
      exact ⟨tp,hsub _ _ h2⟩
   refine ⟨t,(n,t)::M1,?_,u2.cons hn1 hkn,λ k tk hk=>hsub k tk (u3 k tk hk),hgg,u6,hkn,λ k tk hk=>?_⟩
   ·unfold kJ
    rw [hg]
    simp only [hn]
    rw [if_neg hlf,e2]
    simp only [List.length_nil] at u1
    rw [u1]
   ·rw [getMc] at hk
    split at hk
    ·rename_i e;exact .inr (by simp [e])
    ·rcases u5 k tk hk with h1|h1
     ·exact .inl h1
     ·right;rw [e7];exact List.mem_cons_of_mem _ h1
theorem tree_tr {s:Pg} {r:Option Nat} {lv:Nat} {l:dO} {ps:List Nat} (h:TrAt s r lv l ps) (h16:lv≤16) :
  ∃ M,treeP s r []=some (lv,M)∧(∀ n,r=some n→∃ f,DeepM M f n∧l=fT M f n)∧∀ k,(∃ t,gK M k=some t)↔k∈ps:=by
 cases r with
 | none =>
  obtain ⟨rfl,rfl,rfl⟩:=h
  exact ⟨[],rfl,(λ n hn=>by cases hn),λ k=>⟨(λ ⟨t,ht⟩=>by simp [gK] at ht),(λ hk=>by cases hk)⟩⟩
 | some n =>
  obtain ⟨h,nd,ps',rfl,e2,e3,e4,rfl⟩:=h
  obtain ⟨t,M,q1,q2,q3,q4,q5,q6,q7⟩:=part_tr s h 16 (by omega) (by omega) (M:=[]) (λ n t ht=>by simp [gK] at ht) e2 e3 e4
  refine ⟨M,?_,λ m hm=>?_,λ k=>⟨λ ⟨tk,hk⟩=>?_,λ hk=>?_⟩⟩
  ·simp only [treeP,q1]
   rw [if_neg (by rw [q5];omega),q6.lv]
  ·cases hm;exact ⟨h+1,q6.deep,q6.its.symm⟩
  ·rcases q7 k tk hk with ⟨t2,h2⟩|h2
   ·simp [gK] at h2
   ·exact h2
  ·rcases List.mem_cons.1 hk with rfl|hk
   ·exact ⟨t,q4⟩
   ·exact q6.ps k hk
end Go.Proofs.YtfpadnmdafiddaaGreatDoor
