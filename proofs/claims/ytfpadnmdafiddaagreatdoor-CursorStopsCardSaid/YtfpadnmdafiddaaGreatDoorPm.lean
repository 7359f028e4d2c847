import Derived.Test.YtfpadnmdafiddaaGreatDoorP0
import Derived.Test.YtfpadnmdafiddaaGreatDoorPl
import Derived.Test.YtfpadnmdafiddaaGreatDoorPi
import Derived.Test.YtfpadnmdafiddaaGreatDoorPf
import Derived.Test.YtfpadnmdafiddaaGreatDoorPk
import Derived.Test.YtfpadnmdafiddaaGreatDoorPg
set_option linter.all false
set_option maxHeartbeats 16000000
set_option maxRecDepth 100000
namespace Go.Proofs.YtfpadnmdafiddaaGreatDoor
structure Kd (s:Pg) (h:Nat) (p:Nd) (ls:List Sb):Prop where
 it:p.items=[]
 kids:p.kids=ls.map (·.page)
 len:ls.length=p.keys.length+1
 tok:(toks ls p.keys).Pairwise RT
 keys:∀ k∈p.keys,dW k=true
 sub:∀ x∈ls,∃ nd',cD s x.page=some nd'∧4≤aT nd'∧Vt s h nd' x.its x.ps
theorem Kd.vt {s:Pg} {h:Nat} {p:Nd} {ls:List Sb} (k:Kd s h p ls):Vt s (h+1) p (ls.flatMap (·.its)) (ls.flatMap λ x=>x.page::x.ps) :=
 ⟨ls,k.it,k.kids,k.len,k.tok,k.keys,rfl,rfl,k.sub⟩
theorem Vt.kd {s:Pg} {h:Nat} {p:Nd} {l:bT} {ps:List Nat} (v:Vt s (h+1) p l ps):∃ ls,Kd s h p ls∧l=ls.flatMap (·.its):=by
 obtain ⟨ls,e1,e2,e3,e4,e5,e6,e7,e8⟩:=v;exact ⟨ls,⟨e1,e2,e3,e4,e5,e8⟩,e6⟩
def Ctx (s:Pg) (H:Nat) (top:Nd):List (Nd×Nat)→Nat→Nd→bT→bT→Prop
 | [],h,nd,L,R=>h=H∧nd=top∧L=[]∧R=[]
 | (p,i)::fr,h,nd,L,R=>∃ L0 R0 ls x,Ctx s H top fr (h+1) p L0 R0∧Kd s h p ls∧ls[i]? = some x∧cD s x.page=some nd∧L=L0++(ls.take i).flatMap (·.its)∧R=(ls.drop (i+1)).flatMap (·.its)++R0
theorem split_at {α : Type}:∀ {ls:List α} {i:Nat} {x : α},ls[i]? = some x→ls=ls.take i++x::ls.drop (i+1)
 | [],i,x,h=>by simp at h
 | a::r,0,x,h=>by simp at h;simp [h]
 | a::r,i+1,x,h=>by
  have:=split_at (ls:=r) (i:=i) (x:=x) (by simpa using h);simp only [List.take_succ_cons,List.drop_succ_cons,List.cons_append,List.cons.injEq,true_and];exact this
theorem dZ {α : Type} {ls:List α} {i:Nat} {x : α} (h:ls[i]? = some x):ls.take (i+1)=ls.take i++[x]:=by
 rw [List.take_add_one,h];rfl
theorem iE {α : Type} {ls:List α} {i:Nat} {x : α} (h:ls[i]? = some x):ls.drop i=x::ls.drop (i+1):=by
 obtain ⟨hi,e⟩:=List.getElem?_eq_some_iff.1 h;rw [List.drop_eq_getElem_cons hi,e]
theorem Ctx.all {s:Pg} {H:Nat} {top:Nd} {all:bT} {ps0:List Nat} (hv:Vt s H top all ps0):∀ {fr:List (Nd×Nat)} {h:Nat} {nd:Nd} {L R:bT},Ctx s H top fr h nd L R→∃ l ps,Vt s h nd l ps∧L++l++R=all∧(fr=[]∨4≤aT nd)∧h+fr.length=H∧∀ p∈ps,p∈ps0
 | [],h,nd,L,R,c=>by
  obtain ⟨rfl,rfl,rfl,rfl⟩:=c;exact ⟨all,ps0,hv,sM,.inl rfl,rfl,λ p hp=>hp⟩
 | (p,i)::fr,h,nd,L,R,c=>by
  obtain ⟨L0,R0,ls,x,c0,k,hx,hn,rfl,rfl⟩:=c;obtain ⟨l,ps,v,e,_,hh,hsub⟩:=Ctx.all hv c0;obtain ⟨e1,e1'⟩:=v.same k.vt;obtain ⟨nd',g1,g2,g3⟩:=k.sub x (List.mem_of_getElem? hx);rw [hn] at g1;cases g1;refine ⟨x.its,x.ps,g3,?_,.inr g2,by simp only [List.length_cons];omega,λ p hp=>hsub p (by rw [e1'];exact List.mem_flatMap.2 ⟨x,List.mem_of_getElem? hx,List.mem_cons_of_mem _ hp⟩)⟩;rw [← e,e1];conv=>rhs;rw [split_at hx]
  simp
def PartsOf (s:Pg):Nat→Nd→List bT→Prop
 | 0,nd,qs=>qs=nd.items.map λ x=>[x]
 | h+1,nd,qs=>∃ ls,Kd s h nd ls∧qs=ls.map (·.its)
theorem hZ {α : Type}:∀ l:List α,(l.map λ x=>[x]).flatten=l
 | []=>rfl
 | a::r=>by simp [hZ r]
theorem eQ (ls:List Sb):(ls.map (·.its)).flatten=ls.flatMap (·.its):=by rw [List.flatMap_def]
theorem Vt.parts {s:Pg}:∀ {h:Nat} {nd:Nd} {l:bT} {ps:List Nat},Vt s h nd l ps→∃ qs,PartsOf s h nd qs∧qs.flatten=l∧qs.length=aT nd
 | 0,nd,l,ps,v=>by
  obtain ⟨rfl,_⟩:=v;exact ⟨_,rfl,hZ _,by simp [aT]⟩
 | h+1,nd,l,ps,v=>by
  obtain ⟨ls,k,e⟩:=v.kd;exact ⟨_,⟨ls,k,rfl⟩,by rw [eQ,e],by simp [aT,k.it,k.kids]⟩
theorem PartsOf.same {s:Pg}:∀ {h:Nat} {nd:Nd} {l:bT} {ps:List Nat} {qs:List bT},Vt s h nd l ps→PartsOf s h nd qs→qs.flatten=l∧qs.length=aT nd
 | 0,nd,l,ps,qs,v,p=>by
  obtain ⟨rfl,_⟩:=v;cases p;exact ⟨hZ _,by simp [aT]⟩
 | h+1,nd,l,ps,qs,v,p=>by
  obtain ⟨ls,k,rfl⟩:=p;exact ⟨by rw [eQ];exact (k.vt.same v).1,by simp [aT,k.it,k.kids]⟩
def Pos (s:Pg) (H:Nat) (top:Nd) (fr:List (Nd×Nat)) (nd:Nd) (c:Nat) (pre post:bT):Prop :=
 ∃ h L R qs,Ctx s H top fr h nd L R∧PartsOf s h nd qs∧c≤qs.length∧pre=L++(qs.take c).flatten∧post=(qs.drop c).flatten++R
section
variable {s:Pg} {H:Nat} {top:Nd} {al:bT} {ps0:List Nat}
theorem Pos.all (hv:Vt s H top al ps0) {fr:List (Nd×Nat)} {nd:Nd} {c:Nat} {e0 a0:bT} (p:Pos s H top fr nd c e0 a0):e0++a0=al∧c≤aT nd∧fr.length≤H∧(fr=[]∨4≤aT nd):=by
 obtain ⟨h,L,R,qs,c0,pq,hc,rfl,rfl⟩:=p;obtain ⟨l,ps,v,e,h4,hh,_⟩:=c0.all hv;obtain ⟨e1,e2⟩:=PartsOf.same v pq;refine ⟨?_,oM,oM,h4⟩;rw [← e,← e1];conv=>rhs;rw [← List.take_append_drop c qs,List.flatten_append]
 simp
theorem Pos.popR (hv:Vt s H top al ps0) {p nd:Nd} {i:Nat} {fr:List (Nd×Nat)} {e0 a0:bT} (q:Pos s H top ((p,i)::fr) nd (aT nd) e0 a0):Pos s H top fr p (i+1) e0 a0:=by
 obtain ⟨h,L,R,qs,c0,pq,hc,rfl,rfl⟩:=q;obtain ⟨l,ps,v,e,_⟩:=c0.all hv;obtain ⟨e1,e2⟩:=PartsOf.same v pq;obtain ⟨L0,R0,ls,x,c1,k,hx,hn,rfl,rfl⟩:=c0;obtain ⟨f0,g1,g2,g3⟩:=k.sub x (List.mem_of_getElem? hx);rw [hn] at g1;cases g1;have e3:=(g3.same v).1;have hi:=(List.getElem?_eq_some_iff.1 hx).1;refine ⟨h+1,L0,R0,ls.map (·.its),c1,⟨ls,k,rfl⟩,by simp;omega,?_,?_⟩
 ·rw [← e2,List.take_length,e1,← e3,← List.map_take,eQ,dZ hx];simp
 ·rw [← e2,List.drop_length,← List.map_drop,eQ];simp
theorem Pos.popL (hv:Vt s H top al ps0) {p nd:Nd} {i:Nat} {fr:List (Nd×Nat)} {e0 a0:bT} (q:Pos s H top ((p,i)::fr) nd 0 e0 a0):Pos s H top fr p i e0 a0:=by
 obtain ⟨h,L,R,qs,c0,pq,hc,rfl,rfl⟩:=q;obtain ⟨l,ps,v,e,_⟩:=c0.all hv;obtain ⟨e1,e2⟩:=PartsOf.same v pq;obtain ⟨L0,R0,ls,x,c1,k,hx,hn,rfl,rfl⟩:=c0;obtain ⟨f0,g1,g2,g3⟩:=k.sub x (List.mem_of_getElem? hx);rw [hn] at g1;cases g1;have e3:=(g3.same v).1;have hi:=(List.getElem?_eq_some_iff.1 hx).1;refine ⟨h+1,L0,R0,ls.map (·.its),c1,⟨ls,k,rfl⟩,by simp;omega,?_,?_⟩
 ·rw [← List.map_take,eQ];simp
 ·rw [List.drop_zero,e1,← e3,← List.map_drop,eQ,iE hx];simp
theorem Pos.endR (hv:Vt s H top al ps0) {nd:Nd} {e0 a0:bT} (q:Pos s H top [] nd (aT nd) e0 a0):e0=al∧a0=[]:=by
 have ha:=(q.all hv).1;obtain ⟨h,L,R,qs,c0,pq,hc,rfl,rfl⟩:=q;obtain ⟨l,ps,v,e,_⟩:=c0.all hv;obtain ⟨e1,e2⟩:=PartsOf.same v pq;obtain ⟨rfl,rfl,rfl,rfl⟩:=c0;have h0:(qs.drop (aT nd)).flatten++([]:bT)=[]:=by rw [← e2,List.drop_length];rfl
 rw [h0,List.append_nil] at ha;exact ⟨ha,h0⟩
theorem Pos.endL (hv:Vt s H top al ps0) {nd:Nd} {e0 a0:bT} (q:Pos s H top [] nd 0 e0 a0):e0=[]∧a0=al:=by
 have ha:=(q.all hv).1;obtain ⟨h,L,R,qs,c0,pq,hc,rfl,rfl⟩:=q;obtain ⟨rfl,rfl,rfl,rfl⟩:=c0;simp only [List.take_zero,List.flatten_nil,List.append_nil,List.nil_append] at ha ⊢;exact ⟨trivial,ha⟩
theorem Pos.downR (hv:Vt s H top al ps0) {fr:List (Nd×Nat)} {nd f0:Nd} {c k:Nat} {e0 a0:bT} (q:Pos s H top fr nd c e0 a0) (hk:nd.kids[c]? = some k) (hn:cD s k=some f0):Pos s H top ((nd,c)::fr) f0 0 e0 a0:=by
 obtain ⟨h,L,R,qs,c0,pq,hc,rfl,rfl⟩:=q;obtain ⟨_,_,v,_⟩:=c0.all hv
 cases h with
 | zero=>obtain ⟨rfl,_⟩:=v;simp at hk
 | succ h =>
  obtain ⟨ls,kd,rfl⟩:=pq;rw [kd.kids,List.getElem?_map] at hk;obtain ⟨x,hx,rfl⟩:=Option.map_eq_some_iff.1 hk;obtain ⟨g0,g1,g2,g3⟩:=kd.sub x (List.mem_of_getElem? hx);rw [hn] at g1;cases g1;obtain ⟨qs,p1,p2,p3⟩:=g3.parts;refine ⟨h,_,_,qs,⟨L,R,ls,x,c0,kd,hx,hn,rfl,rfl⟩,p1,Nat.zero_le _,?_,?_⟩
  ·simp only [List.take_zero,List.flatten_nil,List.append_nil,← List.map_take,eQ]
  ·rw [List.drop_zero,p2,← List.map_drop,eQ,iE hx];simp
theorem Pos.downL (hv:Vt s H top al ps0) {fr:List (Nd×Nat)} {nd e0:Nd} {c k:Nat} {f0 a0:bT} (q:Pos s H top fr nd (c+1) f0 a0) (hk:nd.kids[c]? = some k) (hn:cD s k=some e0):Pos s H top ((nd,c)::fr) e0 (aT e0) f0 a0:=by
 obtain ⟨h,L,R,qs,c0,pq,hc,rfl,rfl⟩:=q;obtain ⟨_,_,v,_⟩:=c0.all hv
 cases h with
 | zero=>obtain ⟨rfl,_⟩:=v;simp at hk
 | succ h =>
  obtain ⟨ls,kd,rfl⟩:=pq;rw [kd.kids,List.getElem?_map] at hk;obtain ⟨x,hx,rfl⟩:=Option.map_eq_some_iff.1 hk;obtain ⟨g0,g1,g2,g3⟩:=kd.sub x (List.mem_of_getElem? hx);rw [hn] at g1;cases g1;obtain ⟨qs,p1,p2,p3⟩:=g3.parts;refine ⟨h,_,_,qs,⟨L,R,ls,x,c0,kd,hx,hn,rfl,rfl⟩,p1,oM,?_,?_⟩
  ·rw [← p3,List.take_length,p2,← List.map_take,eQ,dZ hx];simp
  ·rw [← p3,List.drop_length,← List.map_drop,eQ];simp
theorem Pos.leaf (hv:Vt s H top al ps0) {fr:List (Nd×Nat)} {nd:Nd} {c:Nat} {e0 a0:bT} (q:Pos s H top fr nd c e0 a0) (hl:bN nd=true) {x:Bs×Bs} (hx:nd.items[c]? = some x):∃ post',a0=x::post'∧Pos s H top fr nd (c+1) (e0++[x]) post':=by
 obtain ⟨h,L,R,qs,c0,pq,hc,rfl,rfl⟩:=q;obtain ⟨_,_,v,_⟩:=c0.all hv
 cases h with
 | succ h =>
  obtain ⟨ls,kd,rfl⟩:=pq;have h1:=bL.1 hl;have h2:=kd.len;rw [kd.kids,List.map_eq_nil_iff] at h1;rw [h1] at h2;cases h2
 | zero =>
  cases pq;have hq:(nd.items.map λ x=>[x])[c]? = some [x]:=by rw [List.getElem?_map,hx];rfl
  have hi:=(List.getElem?_eq_some_iff.1 hq).1;refine ⟨((nd.items.map λ x=>[x]).drop (c+1)).flatten++R,?_,⟨0,L,R,_,c0,rfl,hi,?_,rfl⟩⟩
  ·rw [iE hq];rfl
  ·rw [dZ hq];simp
theorem Pos.back (hv:Vt s H top al ps0) {fr:List (Nd×Nat)} {nd:Nd} {c:Nat} {e0 a0:bT} (q:Pos s H top fr nd (c+1) e0 a0) (hl:bN nd=true) {x:Bs×Bs} (hx:nd.items[c]? = some x):∃ pre',e0=pre'++[x]∧Pos s H top fr nd c pre' (x::a0):=by
 obtain ⟨h,L,R,qs,c0,pq,hc,rfl,rfl⟩:=q;obtain ⟨_,_,v,_⟩:=c0.all hv
 cases h with
 | succ h =>
  obtain ⟨ls,kd,rfl⟩:=pq;have h1:=bL.1 hl;have h2:=kd.len;rw [kd.kids,List.map_eq_nil_iff] at h1;rw [h1] at h2;cases h2
 | zero =>
  cases pq;have hq:(nd.items.map λ x=>[x])[c]? = some [x]:=by rw [List.getElem?_map,hx];rfl
  have hi:=(List.getElem?_eq_some_iff.1 hq).1;refine ⟨L++((nd.items.map λ x=>[x]).take c).flatten,?_,⟨0,L,R,_,c0,rfl,oM,rfl,?_⟩⟩
  ·rw [dZ hq];simp
  ·rw [iE hq];rfl
theorem Pos.node (hv:Vt s H top al ps0) (hs:PgOk s) {n:Nat} (hn:cD s n=some top) {fr:List (Nd×Nat)} {nd:Nd} {c:Nat} {h0 f0:bT} (q:Pos s H top fr nd c h0 f0):bF nd=true∧(bN nd=true→aT nd=nd.items.length)∧(bN nd=false→aT nd=nd.kids.length) ∧
  ∀ (i k:Nat),nd.kids[i]? = some k→∃ e0,cD s k=some e0∧4≤aT e0∧k∈ps0∧k<s.count:=by
 obtain ⟨h,L,R,qs,c0,pq,hc,rfl,rfl⟩:=q;obtain ⟨l,ps,v,e,h4,hh,g0⟩:=c0.all hv
 have a0:∃ k,cD s k=some nd:=by
  cases fr with
  | nil=>obtain ⟨rfl,rfl,_⟩:=c0;exact ⟨n,hn⟩
  | cons f fr=>obtain ⟨L0,R0,ls,x,c1,k,hx,hn,rfl,rfl⟩:=c0;exact ⟨_,hn⟩
 obtain ⟨k0,i0⟩:=a0;refine ⟨fB i0,λ hl=>by have:=bL.1 hl;simp [aT,this],λ hl=>?_,λ i k hk=>?_⟩
 ·cases h with
  | zero=>obtain ⟨rfl,_⟩:=v;simp [bN] at hl
  | succ h=>obtain ⟨ls,e1,_⟩:=v;simp [aT,e1]
 ·cases h with
  | zero=>obtain ⟨rfl,_⟩:=v;simp at hk
  | succ h =>
   obtain ⟨ls,e1,e2,e3,e4,e5,e6,e7,e8⟩:=v;rw [e2,List.getElem?_map] at hk;obtain ⟨x,hx,rfl⟩:=Option.map_eq_some_iff.1 hk;obtain ⟨e0,g1,g2,g3⟩:=e8 x (List.mem_of_getElem? hx);exact ⟨e0,g1,g2,g0 _ (by rw [e7];exact List.mem_flatMap.2 ⟨x,List.mem_of_getElem? hx,sM⟩),dV (dL g1)⟩
def Sk (s:Pg) (H:Nat) (top:Nd) (key:Bs) (fr:List (Nd×Nat)) (nd:Nd):Prop:=∃ h L R,Ctx s H top fr h nd L R∧(∀ x∈L,fQ x.1 key)∧∀ x∈R,¬ fQ x.1 key
theorem Sk.start (key:Bs):Sk s H top key [] top:=⟨H,[],[],⟨rfl,rfl,rfl,rfl⟩,sM,sM⟩
theorem Sk.down (hv:Vt s H top al ps0) {key:Bs} {fr:List (Nd×Nat)} {nd:Nd} (q:Sk s H top key fr nd) (hl:bN nd=false):∃ k a0,nd.kids[fW nd.keys key]? = some k∧cD s k=some a0∧k∈ps0∧Sk s H top key ((nd,fW nd.keys key)::fr) a0:=by
 obtain ⟨h,L,R,c0,q1,q2⟩:=q;obtain ⟨l,ps,v,e,h4,hh,f0⟩:=c0.all hv
 cases h with
 | zero=>obtain ⟨rfl,_⟩:=v;simp [bN] at hl
 | succ h =>
  obtain ⟨ls,kd,e0⟩:=v.kd;have g0:=(v.same kd.vt).2;obtain ⟨la,x,lb,ka,kb,e1,e2,e3,e4,e5,e6,e7,e8⟩:=kid_split kd.len kd.tok key;have hx:ls[fW nd.keys key]? = some x:=by rw [e1,← e3];simp
  obtain ⟨a0,g1,g2,g3⟩:=kd.sub x (List.mem_of_getElem? hx);have ht:ls.take (fW nd.keys key)=la:=by rw [e1,← e3];simp
  have hd:ls.drop (fW nd.keys key+1)=lb:=by rw [e1,← e3];simp
  refine ⟨x.page,a0,by rw [kd.kids,List.getElem?_map,hx];rfl,g1,f0 _ (by rw [g0];exact List.mem_flatMap.2 ⟨x,List.mem_of_getElem? hx,sM⟩),h,_,_,⟨L,R,ls,x,c0,kd,hx,g1,rfl,rfl⟩,?_,?_⟩
  ·rw [ht];intro y hy;rcases List.mem_append.1 hy with hy|hy
   ·exact q1 y hy
   ·exact TK_its e4.symm e6 y hy
  ·rw [hd];intro y hy;rcases List.mem_append.1 hy with hy|hy
   ·exact klt_asymm (KT_its e5 e7 y hy)
   ·exact q2 y hy
theorem Sk.found (hv:Vt s H top al ps0) {key:Bs} {fr:List (Nd×Nat)} {nd:Nd} (q:Sk s H top key fr nd) (hl:bN nd=true):∃ pre post,Pos s H top fr nd (dP nd.items key) pre post∧(∀ x∈pre,fQ x.1 key)∧∀ x∈post,¬ fQ x.1 key:=by
 obtain ⟨h,L,R,c0,q1,q2⟩:=q;obtain ⟨l,ps,v,e,h4,hh,a0⟩:=c0.all hv
 cases h with
 | succ h =>
  obtain ⟨ls,kd,e0⟩:=v.kd;have h1:=bL.1 hl;have h2:=kd.len;rw [kd.kids,List.map_eq_nil_iff] at h1;rw [h1] at h2;cases h2
 | zero =>
  obtain ⟨rfl,_,v3,_⟩:=v;have f0:dP l key≤l.length:=dX _ _;refine ⟨_,_,⟨0,L,R,_,c0,rfl,by simpa using f0,rfl,rfl⟩,?_,?_⟩
  ·intro x hx;rw [← List.map_take,hZ] at hx;rcases List.mem_append.1 hx with hx|hx
   ·exact q1 x hx
   ·obtain ⟨j,hj,rfl⟩:=List.mem_take_iff_getElem.1 hx;have:=gB (λ x:Bs×Bs=>decide (bY x.1 key<0)) l j _ (show j<dP l key by simp only at hj;omega) (List.getElem?_eq_getElem (by simp only at hj;omega));simpa [fQ] using this
  ·intro x hx;rw [← List.map_drop,hZ] at hx;rcases List.mem_append.1 hx with hx|hx
   ·obtain ⟨j,hj,rfl⟩:=List.mem_drop_iff_getElem.1 hx;simp only at hj;have hlt:dP l key<l.length:=by omega
    have h1:¬ fQ (l[dP l key]'hlt).1 key:=by
     have:=jI (λ x:Bs×Bs=>decide (bY x.1 key<0)) l (l[dP l key]'hlt) (by rw [show (l.takeWhile λ x:Bs×Bs=>decide (bY x.1 key<0)).length=dP l key from rfl];exact List.getElem?_eq_getElem hlt);simpa [fQ] using this
    cases j with
    | zero=>simpa using h1
    | succ j =>
     have:=(List.pairwise_iff_getElem.1 v3) (dP l key) (dP l key+(j+1)) hlt oM oM;intro g;exact h1 (eJ this g)
   ·exact q2 x hx
end
theorem findN_split {key:Bs}:∀ {e0 a0:bT},(∀ x∈e0,fQ x.1 key)→(∀ x∈a0,¬ fQ x.1 key)→dP (e0++a0) key=e0.length
 | [],[],_,_=>rfl
 | [],y::r,_,h=>by
  rw [List.nil_append,jY,if_neg (h y sM)];rfl
 | x::e0,a0,h,g=>by
  rw [List.cons_append,jY,if_pos (h x sM),findN_split (λ y hy=>h y (List.mem_cons_of_mem _ hy)) g];rfl
def kD (n j:Nat):Option Nat:=if j<n then some j else none
def ixB:Nat→Option Nat
 | 0=>none
 | c+1=>some c
def kT (to:Bs) (x:Bs×Bs):Bool:=to.isEmpty || decide (bY x.1 to<0)
def nM (fr:Bs) (x:Bs×Bs):Bool:=decide (0≤bY x.1 fr)
def kW (all:bT) (to:Bs):Option Nat→bT
 | none=>[]
 | some j=>(all.drop j).takeWhile (kT to)
def restB (all:bT) (fr:Bs):Option Nat→bT
 | none=>[]
 | some j=>(all.take (j+1)).reverse.takeWhile (nM fr)
def inR (fr to:Bs) (x:Bs×Bs):Bool:=nM fr x&&kT to x
def lW (all:bT) (fr to:Bs) (back:Bool):bT:=(if back then all.reverse else all).filter (inR fr to)
theorem geFr_iff {k:Bs} {x:Bs×Bs}:nM k x=true↔¬ fQ x.1 k:=by simp [nM,fQ]
theorem inTo_iff {k:Bs} {x:Bs×Bs}:kT k x=true↔k=[]∨fQ x.1 k:=by simp [kT,fQ]
theorem tw_filter {α : Type} {R : α→α→Prop} {P : α→Bool} (hd:∀ x y,R x y→P y=true→P x=true):∀ {l:List α},l.Pairwise R→l.takeWhile P=l.filter P
 | [],_=>rfl
 | x::l,h=>by
  obtain ⟨h1,h2⟩:=List.pairwise_cons.1 h;rw [List.takeWhile_cons,List.filter_cons]
  cases hx:P x with
  | true=>simp only [if_true];rw [tw_filter hd h2]
  | false =>
   simp only [Bool.false_eq_true,if_false];symm
   rw [List.filter_eq_nil_iff];intro y hy hp;rw [hd x y (h1 y hy) hp] at hx;cases hx
theorem dw_filter {α : Type} {R : α→α→Prop} {P : α→Bool} (hd:∀ x y,R x y→P y=true→P x=true):∀ {l:List α},l.Pairwise R→l.drop (l.takeWhile P).length=l.filter λ x=>!P x
 | [],_=>rfl
 | x::l,h=>by
  obtain ⟨h1,h2⟩:=List.pairwise_cons.1 h;rw [List.takeWhile_cons,List.filter_cons]
  cases hx:P x with
  | true =>
   simp only [if_true,List.length_cons,List.drop_succ_cons,Bool.not_true,Bool.false_eq_true,if_false];exact dw_filter hd h2
  | false =>
   simp only [Bool.false_eq_true,if_false,List.length_nil,List.drop_zero,Bool.not_false,if_true];congr 1
   symm
   rw [List.filter_eq_self];intro y hy
   cases hp:P y with
   | false=>rfl
   | true=>rw [hd x y (h1 y hy) hp] at hx;cases hx
theorem take_tw {α : Type} (P : α→Bool):∀ l:List α,l.take (l.takeWhile P).length=l.takeWhile P
 | []=>rfl
 | x::l=>by
  rw [List.takeWhile_cons]
  cases P x with
  | true=>simp [take_tw P l]
  | false=>simp
theorem rev_pw {α : Type} {R : α→α→Prop} {l:List α} (h:l.Pairwise R):l.reverse.Pairwise λ x y=>R y x:=List.pairwise_reverse.2 h
theorem down_to (to:Bs):∀ x y:Bs×Bs,fQ x.1 y.1→kT to y=true→kT to x=true:=λ x y h g=>by
 rw [inTo_iff] at *;exact g.imp id λ g=>eJ h g
theorem down_lt (k:Bs):∀ x y:Bs×Bs,fQ x.1 y.1→(decide (bY y.1 k<0))=true→(decide (bY x.1 k<0))=true:=λ x y h g=>by
 simp only [decide_eq_true_eq] at *;exact eJ h g
theorem up_fr (k:Bs):∀ x y:Bs×Bs,fQ y.1 x.1→nM k y=true→nM k x=true:=λ x y h g=>by
 rw [geFr_iff] at *;exact λ e=>g (eJ h e)
theorem restF_ix (all:bT) (to:Bs) (j:Nat):kW all to (kD all.length j)=(all.drop j).takeWhile (kT to):=by
 unfold kD;split
 ·rfl
 ·rw [List.drop_eq_nil_of_le oM];rfl
theorem restB_ix (all:bT) (fr:Bs) (c:Nat):restB all fr (ixB c)=(all.take c).reverse.takeWhile (nM fr):=by
 cases c with
 | zero=>rfl
 | succ c=>rfl
theorem restF_find {all:bT} (hs:Srt all) (key to:Bs):kW all to (kD all.length (dP all key))=all.filter λ x=>nM key x&&kT to x:=by
 rw [restF_ix];have e:all.drop (dP all key)=all.filter λ x=>!decide (bY x.1 key<0):=dw_filter (down_lt key) hs;rw [e,tw_filter (down_to to) (List.Pairwise.filter _ hs),List.filter_filter];congr 1
 funext x
 rw [Bool.and_comm];congr 1
 simp only [nM];rw [← decide_not];congr 1
 simp only [Int.not_lt]
theorem restB_to {all:bT} (hs:Srt all) (P:Bs×Bs→Bool) (hp:∀ x y:Bs×Bs,fQ x.1 y.1→P y=true→P x=true) (fr:Bs):restB all fr (ixB (all.takeWhile P).length)=all.reverse.filter λ x=>nM fr x&&P x:=by
 rw [restB_ix,take_tw,tw_filter hp hs,← List.filter_reverse,tw_filter (R:=λ x y=>fQ y.1 x.1) (up_fr fr) (List.Pairwise.filter _ (rev_pw (R:=λ x y:Bs×Bs=>fQ x.1 y.1) hs)),List.filter_filter]
theorem range_F {all:bT} (hs:Srt all) (fr to:Bs):kW all to (kD all.length (dP all fr))=lW all fr to false:=restF_find hs fr to
theorem range_B {all:bT} (hs:Srt all) (fr to:Bs):restB all fr (ixB (all.takeWhile (kT to)).length)=lW all fr to true:=restB_to hs _ (down_to to) fr
end Go.Proofs.YtfpadnmdafiddaaGreatDoor
namespace Go.Proofs.YtfpadnmdafiddaaGreatDoor
open Go Go.RowKit Go.V
theorem fA (F G:Nat→Prop) (a:Option Addr) (n c:Nat) (b:Option Addr) (m d:Nat) (x y:Bs) (w:World) (hx:Sl F w 1 a n c (bB x)) (hy:Sl G w 1 b m d (bB y)) :
  Calls Tryz.prog 140 #[.slice a n c,.slice b m d] w (Ret λ v w'=>v=.int .i64 (bY x y)∧Grow w w'):=by
 refine V.calls (args:=[_,_]) Tryz.func140 rfl Tryz.ntmps140 rfl rfl ?_;have hn:=hx.le;have hm:=hy.le;have ln:=gW hx;have lm:=gW hy;repeat refine aF ?_
 refine aX (S:=Nat) (λ i=>[(5,.int .i64 (i:Int)),(0,.slice a n c),(1,.slice b m d)]) (λ i w'=>Grow w w'∧i≤min n m∧bY x y=bY (x.drop i) (y.drop i)) (λ i=>min n m-i) 0 ⟨rfl,rfl,rfl,trivial⟩ ⟨Grow.refl w,oM,rfl⟩ ?_;rintro i w1 ⟨e0,hi,hc⟩;by_cases s0:i<min n m
 ·obtain ⟨p,hp⟩:∃ p,x[i]? = some p:=⟨_,List.getElem?_eq_getElem oM⟩
  obtain ⟨q,hq⟩:∃ q,y[i]? = some q:=⟨_,List.getElem?_eq_getElem oM⟩
  have q0:w1.cell? (at' a i)=some (.int .u8 (p:Int)):=(hx.grow e0).row.cell (bys_at hp);have o0:w1.cell? (at' b i)=some (.int .u8 (q:Int)):=(hy.grow e0).row.cell (bys_at hq);have f0:=cmpB_step hp hq;have i0:i<n:=by omega
  have l0:i<m:=by omega
  repeat refine aF ?_
  apply T.any 8 [is _,is _,is _,is _,is _,is _,is _,is _];(· kernel_rfl);(· ((repeat' (first|exact aN|refine aK ?_ ?_));(iterate 8 (· (refine yQ λ wq _ _ m0=>?_;(repeat (first|refine aF ?_|(refine aI ?_;first|refine aC rfl rfl rfl i0 (Nat.mul_one _) ⟨F,_,hx.grow (e0.trans (by assumption))⟩ rfl ?_|refine aC rfl rfl rfl l0 (Nat.mul_one _) ⟨G,_,hy.grow (e0.trans (by assumption))⟩ rfl ?_)));exact aD rfl yG rfl)))));(rintro _ _ _ j0 _ _;(refine yT ?_))
  rename_i w2 _ _ _ _;by_cases h1:p<q
  ·rw [if_pos h1] at f0;repeat refine aF ?_
   exact bA rfl ⟨_,rfl,congrArg (Value.int .i64) oM,yG⟩
  ·rw [if_neg h1] at f0;have g0:Grow w w2:=e0.trans j0;have p0:w2.cell? (at' a i)=some (.int .u8 (p:Int)):=(hx.grow g0).row.cell (bys_at hp);have n0:w2.cell? (at' b i)=some (.int .u8 (q:Int)):=(hy.grow g0).row.cell (bys_at hq);clear j0 q0 o0 e0;repeat refine aF ?_
   apply T.any 8 [is _,is _,is _,is _,is _,is _,is _,is _];(· kernel_rfl);(· ((repeat' (first|exact aN|refine aK ?_ ?_));(iterate 8 (· (refine yQ λ wq _ _ m0=>?_;(repeat (first|refine aF ?_|(refine aI ?_;first|refine aC rfl rfl rfl i0 (Nat.mul_one _) ⟨F,_,hx.grow (g0.trans (by assumption))⟩ rfl ?_|refine aC rfl rfl rfl l0 (Nat.mul_one _) ⟨G,_,hy.grow (g0.trans (by assumption))⟩ rfl ?_)));exact aD rfl yG rfl)))));(rintro _ _ _ j0 _ _;(refine yT ?_))
   by_cases h2:q<p
   ·rw [if_pos h2] at f0;repeat refine aF ?_
    exact bA rfl ⟨_,rfl,congrArg (Value.int .i64) oM,yG⟩
   ·rw [if_neg h2] at f0;repeat refine aF ?_
    exact aE (i+1) ⟨rfl,rfl,rfl,trivial⟩ ⟨yG,oM,oM⟩ oM
 ·have he:=cmpB_end (x:=x) (y:=y) (i:=i) oM;have a0:bY x y=cmpN n m:=by rw [hc,he,ln,lm]
  unfold cmpN at a0;by_cases i0:i<n
  ·have h0:m<n:=by omega
   rw [if_neg oM,if_pos h0] at a0;repeat refine aF ?_
   exact bA rfl ⟨_,rfl,congrArg (Value.int .i64) a0.symm,yG⟩
  ·by_cases k0:n<m
   ·rw [if_pos k0] at a0;repeat refine aF ?_
    exact bA rfl ⟨_,rfl,congrArg (Value.int .i64) a0.symm,yG⟩
   ·have h0:¬ m<n:=by omega
    rw [if_neg k0,if_neg h0] at a0;repeat refine aF ?_
    exact bA rfl ⟨_,rfl,congrArg (Value.int .i64) a0.symm,yG⟩
theorem rkey_c (a:Option Addr) (n c:Nat) (k:Bs) (b:Bool) (w:World) (hk:dW k=b) (hl:n=k.length) :
  Calls Tryz.prog 105 #[.slice a n c] w (Ret λ v w'=>v=.bool b∧w=w'):=by
 refine V.calls (args:=[_]) Tryz.func105 rfl Tryz.ntmps105 rfl rfl ?_;subst hk hl;by_cases h1:1≤k.length
 ·by_cases h2:k.length≤16
  ·repeat refine aF ?_
   exact bA rfl ⟨_,rfl,by simp [dW,h1,h2],rfl⟩
  ·repeat refine aF ?_
   exact bA rfl ⟨_,rfl,by simp [dW,h1,h2],rfl⟩
 ·repeat refine aF ?_
  exact bA rfl ⟨_,rfl,by simp [dW,h1],rfl⟩
theorem rvalue_c (a:Option Addr) (n c:Nat) (k:Bs) (b:Bool) (w:World) (hk:eR k=b) (hl:n=k.length) :
  Calls Tryz.prog 118 #[.slice a n c] w (Ret λ v w'=>v=.bool b∧w=w'):=by
 refine V.calls (args:=[_]) Tryz.func118 rfl Tryz.ntmps118 rfl rfl ?_;subst hk hl;by_cases h2:k.length≤32
 ·repeat refine aF ?_
  exact bA rfl ⟨_,rfl,by simp [eR,h2],rfl⟩
 ·repeat refine aF ?_
  exact bA rfl ⟨_,rfl,by simp [eR,h2],rfl⟩
theorem rleaf_c (x:NV) (b:Bool) (w:World) (h:decide (x.n2=0)=b) :
  Calls Tryz.prog 114 #[x.val] w (Ret λ v w'=>v=.bool b∧Grow w w'):=by
 refine V.calls (args:=[_]) Tryz.func114 rfl Tryz.ntmps114 rfl rfl ?_;subst h;by_cases h2:x.n2=0
 ·repeat (first|refine aF ?_|refine yI λ bk w' hg f0 e0 a0=>?_)
  exact bA rfl ⟨_,rfl,by simp [h2],yG⟩
 ·repeat (first|refine aF ?_|refine yI λ bk w' hg f0 e0 a0=>?_)
  exact bA rfl ⟨_,rfl,by simp [h2],yG⟩
theorem rleaf_nd {F:Nat→Prop} {w0:World} {x:NV} {nd:Nd} (h:NdAt F w0 x nd) {b:Bool} (hb:bN nd=b) (w:World) :
  Calls Tryz.prog 114 #[x.val] w (Ret λ v w'=>v=.bool b∧Grow w w'):=by
 refine rleaf_c x b w ?_;have h2:=bR h.kids
 cases b with
 | true=>rw [bL] at hb;rw [h2,hb];rfl
 | false =>
  cases hd:decide (x.n2=0) with
  | false=>rfl
  | true =>
   rw [decide_eq_true_eq,h2] at hd;rw [bL.2 (List.eq_nil_of_length_eq_zero hd)] at hb;cases hb
structure NdOk (nd:Nd):Prop where
 n1:nd.items.length≤8
 n2:nd.kids.length≤8
 ne1:nd.kids.length≠1
 no:0<nd.kids.length→nd.items.length=0
 n3:nd.keys.length=nd.kids.length-1
 it:∀ (i:Nat) (y:Bs×Bs),nd.items[i]? = some y→dW y.1=true∧eR y.2=true
 it2:∀ (i:Nat) (y z:Bs×Bs),nd.items[i+1]? = some y→nd.items[i]? = some z→bY z.1 y.1<0
 ky:∀ (i:Nat) (y:Bs),nd.keys[i]? = some y→dW y=true
 ky2:∀ (i:Nat) (y z:Bs),nd.keys[i+1]? = some y→nd.keys[i]? = some z→bY z y<0
 kd:∀ (i p:Nat),nd.kids[i]? = some p→p<2147483648
 kd2:∀ (i j p q:Nat),nd.kids[i]? = some p→j<i→nd.kids[j]? = some q→q≠p
theorem ndOk {nd:Nd} (h:bF nd=true):NdOk nd:=by
 unfold bF at h;split at h
 ·rename_i hl;obtain ⟨h1,h2,h3⟩:=dG h;have h4:=bL.1 hl;have a0:∀ i y,nd.items[i]? = some y→gL nd.items i=true:=λ i y hy=>jP h3 (List.getElem?_eq_some_iff.1 hy).1;refine ⟨h2,by rw [h4];simp,by rw [h4];simp,by rw [h4];simp,by rw [h1,h4];rfl,λ i y hy=>mN h3 (List.mem_of_getElem? hy),λ i y z hy hz=>?_,by rw [h1];simp,by rw [h1];simp,by rw [h4];simp,by rw [h4];simp⟩;have:=a0 (i+1) y hy;simp only [gL,hy,hz,Bool.and_eq_true,decide_eq_true_eq] at this;exact this.2
 ·obtain ⟨h1,h2,h3,h4,h5,h6⟩:=cO h;have a0:∀ i y,nd.keys[i]? = some y→jF nd.keys i=true:=λ i y hy=>jP h6 (List.getElem?_eq_some_iff.1 hy).1;have e0:∀ i y,nd.kids[i]? = some y→jW nd.kids i=true:=λ i y hy=>jP h5 (List.getElem?_eq_some_iff.1 hy).1;refine ⟨by rw [h1];simp,h3,oM,by rw [h1];simp,oM,by rw [h1];simp,by rw [h1];simp,λ i y hy=>key_ok' h6 (List.mem_of_getElem? hy),λ i y z hy hz=>?_,λ i p hp=>kid_ok h5 (List.mem_of_getElem? hp),λ i j p q hp hj hq e=>?_⟩
  ·have:=a0 (i+1) y hy;simp only [jF,hy,hz,Bool.and_eq_true,decide_eq_true_eq] at this;exact this.2
  ·have:=e0 i p hp;simp only [jW,hp,Bool.and_eq_true,Bool.not_eq_true',decide_eq_true_eq] at this
   have h7:p∈nd.kids.take i:=by
    subst e;exact List.mem_take_iff_getElem.2 ⟨j,by have:=(List.getElem?_eq_some_iff.1 hq).1;omega,(List.getElem?_eq_some_iff.1 hq).2⟩
   rw [List.contains_iff_mem.2 h7] at this;cases this.2
theorem rcheck_c (F:Nat→Prop) (x:NV) (nd:Nd) (w:World) (h:NdAt F w x nd) (v0:bF nd=true) :
  Calls Tryz.prog 164 #[x.val] w (Ret λ v w'=>v=.int .i64 0∧Grow w w'):=by
 have ok:=ndOk v0;have z0:=h.its.len;have y0:=bR h.kids;have x0:=h.kys.len;obtain ⟨cs,hs,h0⟩:=h.its.at';obtain ⟨ds,i0,f0⟩:=h.kys.at';have j0:=h.kids;obtain ⟨a1,n1,c1,a2,n2,c2,a3,n3,c3⟩:=x;simp only at *;show Calls Tryz.prog 164 #[.agg #[.slice a1 n1 c1,.slice a2 n2 c2,.slice a3 n3 c3]] w (Ret λ v w'=>v=.int .i64 0∧Grow w w');have o1:=ok.n1;have o2:=ok.n2;have o3:=ok.ne1;have o4:=ok.no;have o5:=ok.n3;rw [← z0] at o1 o4;rw [← y0] at o2 o3 o4 o5;rw [← x0] at o5;refine V.calls (args:=[_]) Tryz.func164 rfl Tryz.ntmps164 rfl rfl ?_;have kA:∀ {Q:Prop},Q→Q:=λ h=>h;refine dU 2 (λ e w1=>∃ b,Sub [(1,.pointer (some ⟨b,0,none⟩))] e∧Blk w1 b 79 [.slice a1 n1 c1,.slice a2 n2 c2,.slice a3 n3 c3]∧Grow w w1) ?_ ?_;rotate_left
 ·by_cases h2:0<n2
  ·have x1:=o4 h2;repeat (first|(refine eU ?_;refine lK (r:=(n3:Int)) rfl rfl (by split<;>omega) rfl ?_)|refine yC ?_|refine yI λ bk w' hg a0 u0 p0=>?_)
   exact ⟨bk,⟨rfl,trivial⟩,yB,yG⟩
  ·have u1:n2=0:=by omega
   repeat (first|(refine eU ?_;refine lK (r:=(n3:Int)) rfl rfl (by split<;>omega) rfl ?_)|(refine iQ ?_;refine TL.subI rfl rfl oM oM rfl ?_)|refine yC ?_|refine yI λ bk w' hg a0 u0 p0=>?_)
   exact ⟨bk,⟨rfl,trivial⟩,yB,yG⟩
 rintro e w1 ⟨bk,e0,a0,g0⟩;refine bD (e':=[(1,_)]) ?_ e0;clear e0;refine dU 1 (λ e w2=>Sub [(1,.pointer (some ⟨bk,0,none⟩))] e∧Blk w2 bk 79 [.slice a1 n1 c1,.slice a2 n2 c2,.slice a3 n3 c3]∧Grow w w2) ?_ ?_;rotate_left
 ·repeat refine aF ?_
  refine aX (S:=Nat) (λ i=>[(3,.int .i64 (i:Int)),(1,.pointer (some ⟨bk,0,none⟩))]) (λ i w2=>i≤n1∧Blk w2 bk 79 [.slice a1 n1 c1,.slice a2 n2 c2,.slice a3 n3 c3]∧Grow w w2) (λ i=>n1-i) 0 ⟨rfl,rfl,trivial⟩ ⟨oM,a0,g0⟩ ?_;clear a0 g0;rintro i w2 ⟨hi,a0,k0⟩;have l0:=a0.lt;by_cases m0:i<n1;rotate_left
  ·repeat refine aF ?_
   exact ⟨⟨rfl,trivial⟩,yB,yG⟩
  obtain ⟨y,hy⟩:∃ y,nd.items[i]? = some y:=⟨_,List.getElem?_eq_getElem oM⟩
  obtain ⟨ka,kc,va,vc,g1,g2,s1,s2⟩:=h0 i y hy;obtain ⟨k1,k2⟩:=ok.it i y hy
  cases i with
  | zero =>
   repeat refine aF ?_
   apply T.any 38 [is _,is _,is _,is _,is _,is _,is _,is _,is _,is _,is _,is _,is _,is _,is _,is _,is _,is _,is _,is _,is _,is _,is _,is _,is _,is _,is _,is _,is _,is _,is _,is _,is _,is _,is _,is _,is _,is _];(· kernel_rfl);(· ((repeat' (first|exact aN|refine aK ?_ ?_));(iterate 38 (· (refine yQ λ wq _ _ o0=>?_;(repeat (first|refine aF ?_|(refine aI ?_;refine aC (j:=0) rfl rfl oM oM rfl ⟨F,_,hs.grow yG⟩ rfl ?_)|(refine bM ?_;refine bJ rfl (hs.grow yG) g1 rfl ?_)|(refine aQ ?_;first|refine aS rfl ((hs.grow yG).row.cell g1) rfl ?_|refine aS rfl ((hs.grow yG).row.cell g2) rfl ?_)|(refine aB 105 ?_;refine aA rfl (rkey_c ka _ kc y.1 true _ k1 rfl) rfl ?_;rintro _ _ ⟨rfl,rfl⟩)|(refine aB 118 ?_;refine aA rfl (rvalue_c va _ vc y.2 true _ k2 rfl) rfl ?_;rintro _ _ ⟨rfl,rfl⟩)));exact aD rfl yG rfl)))));(rintro _ _ _ n0 _ _;(refine yT ?_))
   repeat refine aF ?_
   exact aE 1 ⟨rfl,rfl,trivial⟩ ⟨oM,yB,yG⟩ oM
  | succ j =>
   obtain ⟨z,hz⟩:∃ z,nd.items[j]? = some z:=⟨_,List.getElem?_eq_getElem oM⟩
   obtain ⟨t0,s0,h1,f1,q1,q2,r1,r2⟩:=h0 j z hz;have hc:=ok.it2 j y z hy hz;repeat refine aF ?_
   apply T.any 38 [is _,is _,is _,is _,is _,is _,is _,is _,is _,is _,is _,is _,is _,is _,is _,is _,is _,is _,is _,is _,is _,is _,is _,is _,is _,is _,is _,is _,is _,is _,is _,is _,is _,is _,is _,is _,is _,is _];(· kernel_rfl);(· ((repeat' (first|exact aN|refine aK ?_ ?_));(iterate 38 (· (refine yQ λ wq _ _ o0=>?_;(repeat (first|refine aF ?_|(refine aI ?_;first|refine aC (j:=j) rfl rfl oM oM rfl ⟨F,_,hs.grow yG⟩ rfl ?_|refine aC (j:=j+1) rfl rfl oM oM rfl ⟨F,_,hs.grow yG⟩ rfl ?_)|(refine bM ?_;first|refine bJ rfl (hs.grow yG) q1 rfl ?_|refine bJ rfl (hs.grow yG) g1 rfl ?_)|(refine aQ ?_;first|refine aS rfl ((hs.grow yG).row.cell q1) rfl ?_|refine aS rfl ((hs.grow yG).row.cell g1) rfl ?_|refine aS rfl ((hs.grow yG).row.cell g2) rfl ?_)|(refine aB 105 ?_;refine aA rfl (rkey_c ka _ kc y.1 true _ k1 rfl) rfl ?_;rintro _ _ ⟨rfl,rfl⟩)|(refine aB 118 ?_;refine aA rfl (rvalue_c va _ vc y.2 true _ k2 rfl) rfl ?_;rintro _ _ ⟨rfl,rfl⟩)|(refine aB 140 ?_;refine aA rfl (fA _ _ _ _ _ _ _ _ _ _ _ (r1.grow yG) (s1.grow yG)) rfl ?_;rintro _ _ ⟨rfl,e1⟩)));exact aD rfl yG rfl)))));(rintro _ _ _ n0 _ _;(refine yT ?_))
   repeat refine aF ?_
   exact aE (j+1+1) ⟨rfl,rfl,trivial⟩ ⟨oM,yB,yG⟩ oM
 clear a0 g0;rintro e w1 ⟨e0,a0,g0⟩;refine bD (e':=[(1,_)]) ?_ e0;clear e0;refine dU 1 (λ e w2=>Sub [(1,.pointer (some ⟨bk,0,none⟩))] e∧Blk w2 bk 79 [.slice a1 n1 c1,.slice a2 n2 c2,.slice a3 n3 c3]∧Grow w w2) ?_ ?_;rotate_left
 ·repeat refine aF ?_
  refine aX (S:=Nat) (λ i=>[(4,.int .i64 (i:Int)),(1,.pointer (some ⟨bk,0,none⟩))]) (λ i w2=>i≤n3∧Blk w2 bk 79 [.slice a1 n1 c1,.slice a2 n2 c2,.slice a3 n3 c3]∧Grow w w2) (λ i=>n3-i) 0 ⟨rfl,rfl,trivial⟩ ⟨oM,a0,g0⟩ ?_;clear a0 g0;rintro i w2 ⟨hi,a0,k0⟩;have l0:=a0.lt;by_cases m0:i<n3;rotate_left
  ·repeat refine aF ?_
   exact ⟨⟨rfl,trivial⟩,yB,yG⟩
  obtain ⟨y,hy⟩:∃ y,nd.keys[i]? = some y:=⟨_,List.getElem?_eq_getElem oM⟩
  obtain ⟨ka,kc,g1,s1⟩:=f0 i y hy;have k1:=ok.ky i y hy
  cases i with
  | zero =>
   repeat refine aF ?_
   apply T.any 25 [is _,is _,is _,is _,is _,is _,is _,is _,is _,is _,is _,is _,is _,is _,is _,is _,is _,is _,is _,is _,is _,is _,is _,is _,is _];(· kernel_rfl);(· ((repeat' (first|exact aN|refine aK ?_ ?_));(iterate 25 (· (refine yQ λ wq _ _ o0=>?_;(repeat (first|refine aF ?_|(refine aI ?_;refine aC (j:=0) rfl rfl oM oM (Nat.mul_one _) ⟨F,_,i0.grow yG⟩ rfl ?_)|(refine aQ ?_;refine aS rfl ((i0.grow yG).row.cell g1) rfl ?_)|(refine aB 105 ?_;refine aA rfl (rkey_c ka _ kc y true _ k1 rfl) rfl ?_;rintro _ _ ⟨rfl,rfl⟩)));exact aD rfl yG rfl)))));(rintro _ _ _ n0 _ _;(refine yT ?_))
   repeat refine aF ?_
   exact aE 1 ⟨rfl,rfl,trivial⟩ ⟨oM,yB,yG⟩ oM
  | succ j =>
   obtain ⟨z,hz⟩:∃ z,nd.keys[j]? = some z:=⟨_,List.getElem?_eq_getElem oM⟩
   obtain ⟨t0,s0,q1,r1⟩:=f0 j z hz;have hc:=ok.ky2 j y z hy hz;repeat refine aF ?_
   apply T.any 25 [is _,is _,is _,is _,is _,is _,is _,is _,is _,is _,is _,is _,is _,is _,is _,is _,is _,is _,is _,is _,is _,is _,is _,is _,is _];(· kernel_rfl);(· ((repeat' (first|exact aN|refine aK ?_ ?_));(iterate 25 (· (refine yQ λ wq _ _ o0=>?_;(repeat (first|refine aF ?_|(refine aI ?_;first|refine aC (j:=j) rfl rfl oM oM (Nat.mul_one _) ⟨F,_,i0.grow yG⟩ rfl ?_|refine aC (j:=j+1) rfl rfl oM oM (Nat.mul_one _) ⟨F,_,i0.grow yG⟩ rfl ?_)|(refine aQ ?_;first|refine aS rfl ((i0.grow yG).row.cell q1) rfl ?_|refine aS rfl ((i0.grow yG).row.cell g1) rfl ?_)|(refine aB 105 ?_;refine aA rfl (rkey_c ka _ kc y true _ k1 rfl) rfl ?_;rintro _ _ ⟨rfl,rfl⟩)|(refine aB 140 ?_;refine aA rfl (fA _ _ _ _ _ _ _ _ _ _ _ (r1.grow yG) (s1.grow yG)) rfl ?_;rintro _ _ ⟨rfl,e1⟩)));exact aD rfl yG rfl)))));(rintro _ _ _ n0 _ _;(refine yT ?_))
   repeat refine aF ?_
   exact aE (j+1+1) ⟨rfl,rfl,trivial⟩ ⟨oM,yB,yG⟩ oM
 clear a0 g0;rintro e w1 ⟨e0,a0,g0⟩;refine bD (e':=[(1,_)]) ?_ e0;clear e0;repeat refine aF ?_
 refine aX (S:=Nat) (λ i=>[(5,.int .i64 (i:Int)),(1,.pointer (some ⟨bk,0,none⟩))]) (λ i w2=>i≤n2∧Blk w2 bk 79 [.slice a1 n1 c1,.slice a2 n2 c2,.slice a3 n3 c3]∧Grow w w2) (λ i=>n2-i) 0 ⟨rfl,rfl,trivial⟩ ⟨oM,a0,g0⟩ ?_;clear a0 g0;rintro i w2 ⟨hi,a0,k0⟩;have l0:=a0.lt;by_cases m0:i<n2;rotate_left
 ·repeat refine aF ?_
  exact bA rfl ⟨_,rfl,rfl,yG⟩
 obtain ⟨p,hp⟩:∃ p,nd.kids[i]? = some p:=⟨_,List.getElem?_eq_getElem oM⟩
 have j1:=ok.kd i p hp;have g1:=jM hp;repeat (first|(refine aI ?_;refine aC (j:=i) rfl rfl rfl m0 (Nat.mul_one _) ⟨F,_,j0.grow yG⟩ rfl ?_)|(refine aQ ?_;refine aS rfl ((j0.grow yG).row.cell g1) rfl ?_)|refine yC ?_)
 refine aX (S:=Nat) (λ k=>[(6,.int .i64 (k:Int)),(5,.int .i64 (i:Int)),(1,.pointer (some ⟨bk,0,none⟩))]) (λ k w3=>k≤i∧Blk w3 bk 79 [.slice a1 n1 c1,.slice a2 n2 c2,.slice a3 n3 c3]∧Grow w w3) (λ k=>i-k) 0 ⟨rfl,rfl,rfl,trivial⟩ ⟨oM,a0,k0⟩ ?_;clear a0 k0;rintro k w3 ⟨hk,a0,k0⟩;by_cases q0:k<i;rotate_left
 ·obtain rfl:k=i:=by omega
  repeat refine aF ?_
  exact aE (k+1) ⟨rfl,rfl,trivial⟩ ⟨oM,yB,yG⟩ oM
 obtain ⟨q,hq⟩:∃ q,nd.kids[k]? = some q:=⟨_,List.getElem?_eq_getElem oM⟩
 have m1:=ok.kd2 i k p q hp q0 hq;have g2:=jM hq;repeat refine aF ?_
 apply T.any 10 [is _,is _,is _,is _,is _,is _,is _,is _,is _,is _];(· kernel_rfl);(· ((repeat' (first|exact aN|refine aK ?_ ?_));(iterate 10 (· (refine yQ λ wq _ _ o0=>?_;(repeat (first|refine aF ?_|(refine aI ?_;first|refine aC (j:=k) rfl rfl rfl oM (Nat.mul_one _) ⟨F,_,j0.grow yG⟩ rfl ?_|refine aC (j:=i) rfl rfl rfl m0 (Nat.mul_one _) ⟨F,_,j0.grow yG⟩ rfl ?_)|(refine aQ ?_;first|refine aS rfl ((j0.grow yG).row.cell g1) rfl ?_|refine aS rfl ((j0.grow yG).row.cell g2) rfl ?_)));exact aD rfl yG rfl)))));(rintro _ _ _ n0 _ _;(refine yT ?_))
 repeat refine aF ?_
 exact aE (k+1) ⟨rfl,rfl,rfl,trivial⟩ ⟨oM,yB,yG⟩ oM
set_option maxRecDepth 20000
theorem rrot_c (x:BitVec 64) (n:Nat) (hn:n≤64) (w:World) :
  Calls Tryz.prog 272 #[wB x,.int .i64 (n:Int)] w (Ret λ v w'=>v=wB (rotl x (64-n))∧w'=w):=by
 refine V.calls (args:=[_,_]) Tryz.func272 rfl Tryz.ntmps272 rfl rfl ?_;unfold rotl;have h1:IntKind.u64.wrap (n:Int)=(n:Int):=eT (M:=18446744073709551616) rfl oM;have h2:IntKind.u64.wrap ((64-n:Nat):Int)=((64-n:Nat):Int):=eT (M:=18446744073709551616) rfl oM;have h3:64-(64-n)=n:=by omega
 rw [h3];repeat (first|(refine eA ?_;first|refine TL.convZ6 rfl h1 rfl ?_|refine TL.convZ6 rfl h2 rfl ?_)|(refine jR ?_;refine TL.shlB6 rfl rfl oM rfl ?_)|(refine eS ?_;refine TL.shrB6 rfl rfl oM rfl ?_)|refine TL.orB6 rfl rfl rfl ?_|refine yC ?_)
 exact bA rfl ⟨_,rfl,by rw [BitVec.or_comm],rfl⟩
theorem K_r (w:World):Calls Tryz.prog 271 #[] w (Ret λ v w'=>v=.agg (Kw.map wB).toArray∧Grow w w'):=by
 refine V.calls (args:=[]) Tryz.func271 rfl Tryz.ntmps271 rfl rfl ?_;refine T.seq ?_;refine nU ?_;refine TL.alloc rfl rfl ?_;intro bk w1 f0 h0 i0 e0;refine TL.nil ?_;refine eP ?_;refine T.seq ?_;refine nU ?_;refine mU (cs:=Kw.map wB) rfl kR rfl ?_;(refine eG rfl rfl h0 rfl rfl rfl ?_;intro w2 a0 g0 j0)
 refine TL.nil ?_;refine eP ?_;refine T.ret ?_;exact retC rfl (aW g0 rfl) ⟨_,rfl,rfl,aH a0 oM f0⟩
def wAt (bs:List Nat) (t:Nat):List (BitVec 64):=lR (t-16) (part bs (min (8*t) 128))
theorem wAt_len (bs:List Nat) (t:Nat):(wAt bs t).length=80:=by rw [wAt,sched_len,jL]
theorem wAt_low (bs:List Nat) {t:Nat} (h:t≤16):wAt bs t=part bs (8*t):=by
 rw [wAt,show t-16=0 by omega,Nat.min_eq_left oM];rfl
theorem wAt_high (bs:List Nat) {t:Nat} (h:16≤t):wAt bs (t+1)=(wAt bs t).set t (nextW (wAt bs t) t):=by
 rw [wAt,wAt,show t+1-16=(t-16)+1 by omega,Nat.min_eq_right oM,Nat.min_eq_right oM];show (lR (t-16) _).set (t-16+16) (nextW _ (t-16+16))=_;rw [show t-16+16=t by omega]
theorem wAt_end (bs:List Nat):wAt bs 80=lR 64 (part bs 128):=rfl
attribute [irreducible] wAt
theorem rA1:kP (-1)=64-1:=by decide
theorem rA8:kP (-8)=64-8:=by decide
theorem rA19:kP (-19)=64-19:=by decide
theorem rA61:kP (-61)=64-61:=by decide
theorem rA14:kP (-14)=64-14:=by decide
theorem rA18:kP (-18)=64-18:=by decide
theorem rA41:kP (-41)=64-41:=by decide
theorem rA28:kP (-28)=64-28:=by decide
theorem rA34:kP (-34)=64-34:=by decide
theorem rA39:kP (-39)=64-39:=by decide
theorem addL_comm (s t:St):addL s.l t.l 8=addL t.l s.l 8:=by
 obtain ⟨a,b,c,d,e,f,g,h⟩:=s;obtain ⟨a',b',c',d',e',f',g',h'⟩:=t;simp [addL,St.l,BitVec.add_comm]
theorem rpiece_c (F:Nat→Prop) (s:St) (bs:List Nat) (hl:bs.length=128) (hb:∀ b∈bs,b<256) (a:Option Addr) (c:Nat) (w:World) (hs:Sl F w 1 a 128 c (pbs bs)):Calls Tryz.prog 254 #[.agg (s.l.map wB).toArray,.slice a 128 c] w
  (Ret λ v w'=>v=.agg ((pieceB s bs).map wB).toArray∧Grow w w'):=by
 refine V.calls (args:=[_,_]) Tryz.func254 rfl Tryz.ntmps254 rfl rfl ?_;replace hs:=hs.tight;obtain ⟨ks,n0⟩:∃ ks,ks=Kw:=⟨_,rfl⟩
 have o2:ks.length=80:=by rw [n0];rfl
 have o1:∀ w,Calls Tryz.prog 271 #[] w (Ret λ v w'=>v=.agg (ks.map wB).toArray∧Grow w w'):=by rw [n0];exact K_r
 have j1:pieceB s bs=addL (rnK ks (wAt bs 80) s 80).l s.l 8:=by rw [wAt_end,n0];exact addL_comm _ _
 have m1:(ks.map wB).all Value.oneCell'=true:=by simp [Value.oneCell']
 have g1:part bs 0=List.replicate 80 0#64:=part_zero bs;repeat (first|(refine aB 271 ?_;refine aA rfl (o1 _) rfl ?_;rintro _ _ ⟨rfl,z0⟩)|(refine bZ ?_;refine eG rfl rfl yB (by rw [List.length_map,o2];rfl) rfl m1 ?_;intro w' hu e0 j0)|refine yC ?_|refine yI λ bk w' hg e0 j0 h0=>?_)
 rename_i b2 w2 u2 f3 x1 s0 b4 w4 s2 r1 w1 q0 w5 b5 w6 q1 d3 u1 p0 w7 z2 s1;have v0:=z0.2;have h2:Blk w' b2 295 (s.l.map wB):=by exact yB
 have h4:Blk w' b4 295 (List.replicate 8 (wB 0#64)):=(((r1.grow z0).grow q1).upd hu oM).grow hg;have h5:Blk w' b5 340 (ks.map wB):=by exact yB
 have h6:Blk w' bk 340 ((wAt bs 0).map wB):=by rw [wAt_low bs oM,Nat.mul_zero,g1];exact e0
 have i3:w.heap.size≤b2∧w.heap.size≤b4∧b2≠b4∧b2<b5∧b4<b5∧b5<bk∧bk<w'.heap.size:=by omega
 have hG:Grow w w':=by exact yG
 replace hs:=hs.grow hG;clear u2 f3 x1 s0 s2 r1 w1 q0 z0 q1 d3 u1 p0 hu z2 s1 hg e0 j0 h0 v0 n0 o1 m1 g1
 refine aX (S:=Nat) (λ t=>[(7,.int .i64 (t:Int)),(6,.pointer (some ⟨bk,0,none⟩)),(5,.pointer (some ⟨b5,0,none⟩)),(4,.pointer (some ⟨b4,0,none⟩)),(2,.pointer (some ⟨b2,0,none⟩)),(1,.slice a 128 c)])
  (λ t w7=>t≤80∧Blk w7 bk 340 ((wAt bs t).map wB)∧Blk w7 b2 295 (s.l.map wB)∧Blk w7 b4 295 (List.replicate 8 (wB 0#64))∧Blk w7 b5 340 (ks.map wB)∧Sl (λ k=>F k∧k<w.heap.size) w7 1 a 128 c (pbs bs)∧Grow w w7) (λ t=>80-t) 0 ⟨rfl,rfl,rfl,rfl,rfl,rfl,trivial⟩ ⟨Nat.zero_le _,h6,h2,h4,h5,hs,hG⟩ ?_
 clear h2 h4 h5 h6 hs hG;rintro t w7 ⟨ht,h6,h2,h4,h5,hs,hG⟩;by_cases i0:t<80
 ·have m0:(decide ((t:Int)<80))=true:=decide_eq_true oM;have l0:=wAt_len bs t;by_cases d2:t<16
  ·have z1:(decide ((t:Int)<16))=true:=decide_eq_true oM;repeat refine aF ?_
   rw [wAt_low bs (show t≤16 by omega)] at h6 l0
   refine aX (S:=Nat) (λ i=>[(8,.int .i64 (i:Int)),(7,.int .i64 (t:Int)),(6,.pointer (some ⟨bk,0,none⟩)),(5,.pointer (some ⟨b5,0,none⟩)),(4,.pointer (some ⟨b4,0,none⟩)),(2,.pointer (some ⟨b2,0,none⟩)),(1,.slice a 128 c)])
    (λ i w8=>i≤8∧Blk w8 bk 340 ((part bs (8*t+i)).map wB)∧Blk w8 b2 295 (s.l.map wB)∧Blk w8 b4 295 (List.replicate 8 (wB 0#64))∧Blk w8 b5 340 (ks.map wB)∧Sl (λ k=>F k∧k<w.heap.size) w8 1 a 128 c (pbs bs)∧Grow w w8) (λ i=>8-i) 0 ⟨rfl,rfl,rfl,rfl,rfl,rfl,rfl,trivial⟩ ⟨Nat.zero_le _,h6,h2,h4,h5,hs,hG⟩ ?_
   clear h2 h4 h5 h6 hs hG l0;rintro i w8 ⟨hi,h6,h2,h4,h5,hs,hG⟩;have g2:=jL bs (8*t+i);by_cases r2:i<8
   ·have q2:(decide ((i:Int)<8))=true:=decide_eq_true oM;have y0:=part_step (bs:=bs) (i:=8*t+i) oM hl;rw [show (8*t+i) / 8=t by omega] at y0;have y2:bs.getD (8*t+i) 0<256:=by rw [List.getD_eq_getElem?_getD,List.getElem?_eq_getElem oM];exact hb _ (List.getElem_mem _)
    repeat refine aF ?_
    apply T.any 14 [is _,is _,is _,is _,is _,is _,is _,is _,is _,is _,is _,is _,is _,is _];(· kernel_rfl);(· ((repeat' (first|exact aN|refine aK ?_ ?_));(iterate 14 (· (refine yQ λ wq _ _ g0=>?_;(repeat (first|(refine aQ ?_;first|refine aS rfl (Blk.cell (b:=bk) yB (jU oM)) rfl ?_|refine aS rfl ((hs.grow g0).row.cell (pbs_at oM)) rfl ?_)|refine TL.convW8 rfl y2 rfl ?_|refine TL.orB6 rfl rfl rfl ?_|(refine jR ?_;refine TL.shlB6 rfl rfl dM rfl ?_)|refine yC ?_|(refine aI ?_;refine aC (j:=8*t+i) rfl rfl rfl oM (Nat.mul_one _) ⟨_,_,hs.grow g0⟩ rfl ?_)));exact aD rfl yG rfl)))));(rintro _ _ _ a0 _ _;(refine yT ?_))
    replace h2:=h2.grow a0;replace h4:=h4.grow a0;replace h5:=h5.grow a0;replace h6:=h6.grow a0;replace hs:=hs.grow a0;replace hG:=hG.trans a0;clear a0;repeat (first|(refine bZ ?_;refine dR rfl rfl h6 rfl (by rw [List.length_map,g2];exact Nat.ble_eq_true_of_le oM) (map_set _ _ _) ?_;intro w9 hu f0 o0)|refine yC ?_)
    rw [y0] at f0;replace h2:=h2.upd hu oM;replace h4:=h4.upd hu oM;replace h5:=h5.upd hu oM;replace hs:=hs.upd hu (by intro k hk;omega);replace hG:=aH hu oM hG;clear hu h6 y0;exact aE (i+1) ⟨rfl,rfl,rfl,rfl,rfl,rfl,rfl,trivial⟩ ⟨r2,f0,h2,h4,h5,hs,hG⟩ oM
   ·obtain rfl:i=8:=by omega
    have q2:(decide (((8:Nat):Int)<8))=false:=by decide
    repeat refine aF ?_
    exact aE (t+1) ⟨rfl,rfl,rfl,rfl,rfl,rfl,trivial⟩ ⟨i0,by rw [wAt_low bs (show t+1≤16 by omega),show 8*(t+1)=8*t+8 by omega];exact h6,h2,h4,h5,hs,hG⟩ oM
  ·have z1:(decide ((t:Int)<16))=false:=decide_eq_false oM;repeat refine aF ?_
   apply T.any 10 [is _,is _,is _,is _,is _,is _,is _,is _,is _,is _];(· kernel_rfl);(· ((repeat' (first|exact aN|refine aK ?_ ?_));(iterate 10 (· (refine yQ λ wq _ _ g0=>?_;(repeat (first|refine aF ?_|(refine aQ ?_;refine aS rfl (Blk.cell (b:=bk) yB (jU oM)) rfl ?_)));exact aD rfl yG rfl)))));(rintro _ _ _ a0 _ _;(refine yT ?_))
   replace h2:=h2.grow a0;replace h4:=h4.grow a0;replace h5:=h5.grow a0;replace h6:=h6.grow a0;replace hs:=hs.grow a0;replace hG:=hG.trans a0;clear a0;repeat refine aF ?_
   apply T.any 28 [is _,is _,is _,is _,is _,is _,is _,is _,is _,is _,is _,is _,is _,is _,is _,is _,is _,is _,is _,is _,is _,is _,is _,is _,is _,is _,is _,is _];(· kernel_rfl);(· ((repeat' (first|exact aN|refine aK ?_ ?_));(iterate 28 (· (refine yQ λ wq _ _ g0=>?_;(repeat (first|(refine aQ ?_;refine aS rfl (Blk.cell (b:=bk) yB (jU oM)) rfl ?_)|refine jQ rfl rfl rfl ?_|refine jS rfl rfl rfl ?_|(refine eS ?_;refine TL.shrB6 rfl rfl dM rfl ?_)|refine yC ?_|(refine aB 272 ?_;refine aA rfl (rrot_c _ _ dM _) rfl ?_;rintro _ _ ⟨rfl,rfl⟩)));exact aD rfl yG rfl)))));(rintro _ _ _ a0 _ _;(refine yT ?_))
   replace h2:=h2.grow a0;replace h4:=h4.grow a0;replace h5:=h5.grow a0;replace h6:=h6.grow a0;replace hs:=hs.grow a0;replace hG:=hG.trans a0;clear a0;repeat (first|(refine bZ ?_;refine dR rfl rfl h6 rfl (by rw [List.length_map,l0];exact Nat.ble_eq_true_of_le oM) (map_set _ _ _) ?_;intro w9 hu f0 o0)|refine yC ?_)
   replace h2:=h2.upd hu oM;replace h4:=h4.upd hu oM;replace h5:=h5.upd hu oM;replace hs:=hs.upd hu (by intro k hk;omega);replace hG:=aH hu oM hG;clear hu h6;refine aE (t+1) ⟨rfl,rfl,rfl,rfl,rfl,rfl,trivial⟩ ⟨i0,?_,h2,h4,h5,hs,hG⟩ oM;rw [wAt_high bs oM];simp only [nextW,sg0,sg1,rA1,rA8,rA19,rA61];exact f0
 ·obtain rfl:t=80:=by omega
  have m0:(decide (((80:Nat):Int)<80))=false:=by decide
  obtain ⟨ws,u0⟩:∃ ws,ws=wAt bs 80:=⟨_,rfl⟩
  rw [← u0] at h6 j1;have l0:ws.length=80:=by rw [u0,wAt_len]
  clear u0;repeat (first|refine aF ?_|refine yI λ bk w' hg e0 j0 h0=>?_|refine yJ λ w' hu e0 j0=>?_)
  rename_i b6 w0 g3 f1 t0;have j2:w.heap.size≤bk∧b2<bk∧b4<bk∧b5<bk∧b6<bk:=by have:=hG.2;have:=h2.lt;have:=h4.lt;have:=h5.lt;have:=h6.lt;omega
  replace h2:=(h2.grow hg).upd hu (by have:=h2.lt;omega);replace h4:=(h4.grow hg).upd hu (by have:=h4.lt;omega);replace h5:=(h5.grow hg).upd hu (by have:=h5.lt;omega);replace h6:=(h6.grow hg).upd hu (by have:=h6.lt;omega);replace hG:=aH hu oM (hG.trans hg);clear hg hu f1 t0 h0 j0 hs
  refine aX (S:=Nat×St) (λ q=>[(12,.int .i64 (q.1:Int)),(11,.pointer (some ⟨bk,0,none⟩)),(6,.pointer (some ⟨b6,0,none⟩)),(5,.pointer (some ⟨b5,0,none⟩)),(4,.pointer (some ⟨b4,0,none⟩)),(2,.pointer (some ⟨b2,0,none⟩))])
   (λ q w7=>q.1≤80∧q.2=rnK ks ws s q.1∧Blk w7 bk 295 (q.2.l.map wB)∧Blk w7 b6 340 (ws.map wB)∧Blk w7 b5 340 (ks.map wB)∧Blk w7 b2 295 (s.l.map wB)∧Blk w7 b4 295 (List.replicate 8 (wB 0#64))∧Grow w w7) (λ q=>80-q.1) (0,s) ⟨rfl,rfl,rfl,rfl,rfl,rfl,trivial⟩ ⟨Nat.zero_le _,rfl,e0,h6,h5,h2,h4,hG⟩ ?_
  clear h2 h4 h5 h6 hG e0 ht i0 m0;rintro ⟨t,s'⟩ w7 ⟨ht,x0,e0,h6,h5,h2,h4,hG⟩;simp only at ht x0 e0;by_cases i0:t<80
  ·have m0:(decide ((t:Int)<80))=true:=decide_eq_true oM;have x2:s'.l.map wB=[wB s'.a,wB s'.b,wB s'.c,wB s'.d,wB s'.e,wB s'.f,wB s'.g,wB s'.h]:=rfl;rw [x2] at e0;repeat refine aF ?_
   apply T.any 6 [is _,is _,is _,is _,is _,is _];(· kernel_rfl);(· ((repeat' (first|exact aN|refine aK ?_ ?_));(iterate 6 (· (refine yQ λ wq _ _ g0=>?_;(repeat refine aF ?_);exact aD rfl yG rfl)))));(rintro _ _ _ a0 _ _;(refine yT ?_))
   replace h2:=h2.grow a0;replace h4:=h4.grow a0;replace h5:=h5.grow a0;replace h6:=h6.grow a0;replace e0:=e0.grow a0;replace hG:=hG.trans a0;clear a0;repeat refine aF ?_
   apply T.any 30 [is _,is _,is _,is _,is _,is _,is _,is _,is _,is _,is _,is _,is _,is _,is _,is _,is _,is _,is _,is _,is _,is _,is _,is _,is _,is _,is _,is _,is _,is _];(· kernel_rfl);(· ((repeat' (first|exact aN|refine aK ?_ ?_));(iterate 30 (· (refine yQ λ wq _ _ g0=>?_;(repeat (first|(refine aQ ?_;first|refine aS rfl (Blk.cell (b:=bk) yB rfl) rfl ?_|refine aS rfl (Blk.cell (b:=b6) yB (jU oM)) rfl ?_|refine aS rfl (Blk.cell (b:=b5) yB (jU oM)) rfl ?_)|refine jQ rfl rfl rfl ?_|refine jS rfl rfl rfl ?_|refine TL.andB6 rfl rfl rfl ?_|refine TL.notB6 rfl rfl ?_|refine yC ?_|(refine aB 272 ?_;refine aA rfl (rrot_c _ _ dM _) rfl ?_;rintro _ _ ⟨rfl,rfl⟩)));exact aD rfl yG rfl)))));(rintro _ _ _ a0 _ _;(refine yT ?_))
   replace h2:=h2.grow a0;replace h4:=h4.grow a0;replace h5:=h5.grow a0;replace h6:=h6.grow a0;replace e0:=e0.grow a0;replace hG:=hG.trans a0;clear a0;repeat refine aF ?_
   apply T.any 24 [is _,is _,is _,is _,is _,is _,is _,is _,is _,is _,is _,is _,is _,is _,is _,is _,is _,is _,is _,is _,is _,is _,is _,is _];(· kernel_rfl);(· ((repeat' (first|exact aN|refine aK ?_ ?_));(iterate 24 (· (refine yQ λ wq _ _ g0=>?_;(repeat (first|(refine aQ ?_;refine aS rfl (Blk.cell (b:=bk) yB rfl) rfl ?_)|refine jQ rfl rfl rfl ?_|refine jS rfl rfl rfl ?_|refine TL.andB6 rfl rfl rfl ?_|refine yC ?_|(refine aB 272 ?_;refine aA rfl (rrot_c _ _ dM _) rfl ?_;rintro _ _ ⟨rfl,rfl⟩)));exact aD rfl yG rfl)))));(rintro _ _ _ a0 _ _;(refine yT ?_))
   replace h2:=h2.grow a0;replace h4:=h4.grow a0;replace h5:=h5.grow a0;replace h6:=h6.grow a0;replace e0:=e0.grow a0;replace hG:=hG.trans a0;clear a0;repeat (first|refine jS rfl rfl rfl ?_|(refine bZ ?_;refine eG rfl rfl e0 rfl rfl rfl ?_;intro w9 hu f0 o0)|refine yC ?_)
   have e1:Blk w9 bk 295 ((rnd s' (ks.getD t 0#64) (ws.getD t 0#64)).l.map wB):=by
    simp only [rnd,tOne,tTwo,bs0,bs1,rA14,rA18,rA41,rA28,rA34,rA39,St.l,List.map];exact f0
   replace h2:=h2.upd hu oM;replace h4:=h4.upd hu oM;replace h5:=h5.upd hu oM;replace h6:=h6.upd hu oM;replace hG:=aH hu oM hG;clear hu e0 f0;exact aE (t+1,rnd s' (ks.getD t 0#64) (ws.getD t 0#64)) ⟨rfl,rfl,rfl,rfl,rfl,rfl,trivial⟩ ⟨i0,by rw [x0];rfl,e1,h6,h5,h2,h4,hG⟩ (by simp only;omega)
  ·obtain rfl:t=80:=by omega
   have m0:(decide (((80:Nat):Int)<80))=false:=by decide
   repeat refine aF ?_
   refine aX (S:=Nat) (λ q=>[(17,.int .i64 (q:Int)),(11,.pointer (some ⟨bk,0,none⟩)),(4,.pointer (some ⟨b4,0,none⟩)),(2,.pointer (some ⟨b2,0,none⟩))])
    (λ q w8=>q≤8∧Blk w8 bk 295 ((addL s'.l s.l q).map wB)∧Blk w8 b2 295 (s.l.map wB)∧Blk w8 b4 295 (List.replicate 8 (wB 0#64))∧Grow w w8) (λ q=>8-q) 0 ⟨rfl,rfl,rfl,rfl,trivial⟩ ⟨Nat.zero_le _,e0,h2,h4,hG⟩ ?_
   clear h2 h4 h5 h6 e0 hG;rintro q w8 ⟨hq,e0,h2,h4,hG⟩;have k0:(addL s'.l s.l q).length=8:=by rw [addL_len];rfl
   by_cases e2:q<8
   ·have f2:(decide ((q:Int)<8))=true:=decide_eq_true oM;repeat refine aF ?_
    apply T.any 8 [is _,is _,is _,is _,is _,is _,is _,is _];(· kernel_rfl);(· ((repeat' (first|exact aN|refine aK ?_ ?_));(iterate 8 (· (refine yQ λ wq _ _ g0=>?_;(repeat (first|(refine aQ ?_;first|refine aS rfl (Blk.cell (b:=bk) yB (jU oM)) rfl ?_|refine aS rfl (Blk.cell (b:=b2) yB (jU (by show q<8;omega))) rfl ?_)|refine jS rfl rfl rfl ?_|refine yC ?_));exact aD rfl yG rfl)))));(rintro _ _ _ a0 _ _;(refine yT ?_))
    replace h2:=h2.grow a0;replace h4:=h4.grow a0;replace e0:=e0.grow a0;replace hG:=hG.trans a0;clear a0;repeat (first|(refine bZ ?_;refine dR rfl rfl e0 rfl (by rw [List.length_map,k0];exact Nat.ble_eq_true_of_le oM) (map_set _ _ _) ?_;intro w9 hu f0 o0)|refine yC ?_)
    replace h2:=h2.upd hu oM;replace h4:=h4.upd hu oM;replace hG:=aH hu oM hG;clear hu e0;exact aE (q+1) ⟨rfl,rfl,rfl,rfl,trivial⟩ ⟨e2,f0,h2,h4,hG⟩ oM
   ·obtain rfl:q=8:=by omega
    have f2:(decide (((8:Nat):Int)<8))=false:=by decide
    obtain ⟨rl,h1⟩:∃ rl,rl=addL s'.l s.l 8:=⟨_,rfl⟩
    rw [← h1] at e0 k0;repeat (first|(refine aQ ?_;refine iP rfl e0 (by rw [List.length_map,k0];rfl) rfl ?_)|(refine bZ ?_;refine eG rfl rfl h4 (by rw [List.length_map,k0];rfl) rfl (by simp [Value.oneCell']) ?_;intro w9 y1 f0 h3)|refine yC ?_)
    exact retC rfl (aW f0 (by rw [List.length_map,k0];rfl)) ⟨_,rfl,by rw [j1,h1,x0],aH y1 oM hG⟩
theorem rbytes_c (s:St) (w:World):Calls Tryz.prog 216 #[.agg (s.l.map wB).toArray] w (Ret λ v w'=>v=.agg (bB (sumS s)).toArray∧Grow w w'):=by
 refine V.calls (args:=[_]) Tryz.func216 rfl Tryz.ntmps216 rfl rfl ?_;repeat (first|(refine fI ?_;refine eO 64 zero_64 rfl ?_;intro bk w' hg e0 k0 f0)|refine yC ?_|refine yI λ bk w' hg e0 k0 f0=>?_)
 rename_i b1 w1 u0 i0 q1 p0 b2 w2 t0 g0 q2 o0;have h0:Blk w' b1 295 (s.l.map wB):=by exact yB
 have a0:Blk w' b2 238 (bB (zs 64)):=by exact yB
 have n0:Grow w w':=by exact yG
 have hn:b1≠bk∧b2≠bk∧w.heap.size≤bk∧w.heap.size≤b2:=by omega
 clear u0 i0 q1 p0 t0 g0 q2 o0 hg k0 f0;refine aX (S:=Nat) (λ i=>[(4,.int .i64 (i:Int)),(3,.pointer (some ⟨bk,0,none⟩)),(2,.pointer (some ⟨b2,0,none⟩)),(1,.pointer (some ⟨b1,0,none⟩))]) (λ i w3=>i≤64∧Blk w3 bk 238 (bB (sumL s i))∧Blk w3 b1 295 (s.l.map wB)∧Blk w3 b2 238 (bB (zs 64))∧Grow w w3) (λ i=>64-i) 0 ⟨rfl,rfl,rfl,rfl,trivial⟩ ⟨oM,e0,h0,a0,n0⟩ ?_;clear e0 h0 a0 n0;rintro i w3 ⟨hi,e0,i0,g0,hg⟩;have m0:=sumL_len s i;by_cases s0:i<64
 ·have x0:s.l.length=8:=rfl;repeat (first|(refine aQ ?_;refine aS rfl (Blk.cell i0 (jU oM)) rfl ?_)|(refine aI ?_;refine TL.indexA1 (j:=i / 8) rfl rfl oM rfl ?_)|(refine eM ?_;refine TL.mulN (a:=8) rfl rfl oM rfl ?_)|(refine iQ ?_;refine TL.subN (a:=56) (b:=8*(i%8)) rfl rfl oM oM rfl ?_)|(refine eS ?_;refine TL.shrS rfl rfl (by show 56-8*(i%8)≤64;omega) rfl ?_)|(refine eA ?_;refine iC rfl (M:=256) rfl rfl ?_)|refine yC ?_)
  have l0:(s.l.getD (i / 8) 0#64).toNat / 2^(56-8*(i%8))%256=sumB s i:=rfl;rw [l0];refine dR rfl rfl e0 rfl (by rw [bE,m0];exact Nat.ble_eq_true_of_le oM) (bys_set _ _ _) ?_;intro w7 j0 v0 y0;repeat refine aF ?_
  exact aE (i+1) ⟨rfl,rfl,rfl,rfl,trivial⟩ ⟨s0,v0,i0.upd j0 hn.1,g0.upd j0 hn.2.1,aH j0 hn.2.2.1 hg⟩ oM
 obtain rfl:i=64:=by omega
 rw [sumL_end] at e0;have hl:=kH s;generalize sumS s=l at *;clear m0;obtain ⟨z,hz⟩:∃ z,z=zs 64:=⟨_,rfl⟩
 have q0:z.length=64:=by rw [hz];exact cN _
 rw [← hz] at g0;clear hz;repeat (first|refine nS rfl e0 hl rfl ?_|(refine bZ ?_;refine fH rfl rfl g0 q0 hl ?_;intro w' hu a0 k0)|refine yC ?_)
 exact retC rfl (aW a0 (by rw [bE,hl];rfl)) ⟨_,rfl,rfl,aH hu hn.2.2.2 hg⟩
theorem rstart_c (w:World):Calls Tryz.prog 255 #[] w (Ret λ v w'=>v=.agg (startL.map wB).toArray∧Grow w w'):=by
 refine V.calls (args:=[]) Tryz.func255 rfl Tryz.ntmps255 rfl rfl ?_;repeat (first|refine dD ?_|refine yI λ bk w' hg f0 e0 a0=>?_|refine yJ λ w' hu f0 e0=>?_)
 exact retC rfl (aW (by assumption) rfl) ⟨_,rfl,rfl,yG⟩
theorem rjoin_c (F:Nat→Prop) (a:Option Addr) (n c:Nat) (e0:List Bs) (w:World) (h:KysAt F w a n c e0) (hn:e0.flatten.length≤100000) :
  Calls Tryz.prog 219 #[.slice a n c] w (Ret λ v w'=>w'.ownsRow w.heap.size 5 1 v e0.flatten.length (bB e0.flatten)∧Grow w w'):=by
 have m0:=h.len;obtain ⟨cs,hs,h0⟩:=h.at';have k0:=hs.le;refine V.calls (args:=[_]) Tryz.func219 rfl Tryz.ntmps219 rfl rfl ?_;repeat refine aF ?_
 refine aX (S:=Value×Nat) (λ s=>[(4,.int .i64 (s.2:Int)),(3,s.1),(0,.slice a n c)]) (λ s w3=>s.2≤n∧w3.ownsRow w.heap.size 5 1 s.1 (e0.take s.2).flatten.length (bB (e0.take s.2).flatten)∧Grow w w3) (λ s=>n-s.2) (.slice none 0 0,0) ⟨rfl,rfl,rfl,trivial⟩ ⟨sM,by simpa [bB] using lF,Grow.refl _⟩ ?_;rintro ⟨v,j⟩ w3 ⟨hj,a0,g0⟩;simp only at hj a0;have o0:=g0.size;have j0:=hs.grow g0;have p0:=flat_le e0 j;by_cases l0:j<n
 ·obtain ⟨p,hp⟩:∃ p,e0[j]? = some p:=⟨_,List.getElem?_eq_getElem oM⟩
  obtain ⟨ka,kc,g1,s1⟩:=h0 j p hp;have q0:w3.cell? (at' a j)=some (.slice ka p.length kc):=j0.row.cell g1;have i0:=flat_le e0 (j+1);rw [lN hp,List.length_append] at i0;repeat (first|(refine aI ?_;refine aC rfl rfl rfl l0 (Nat.mul_one _) ⟨F,_,j0⟩ rfl ?_)|refine yC ?_)
  refine TL.append rfl rfl a0 (s1.grow g0) (bO p) (by unfold maxLen;omega) oM oM rfl ?_;intro v' w4 f0 n0 _;repeat refine aF ?_
  refine aE (v',j+1) ⟨rfl,rfl,rfl,trivial⟩ ⟨by simp only;omega,?_,Grow.mk (aL n0 oM (λ k hk=>(aR a0 hk).1) g0.1)⟩ (by simp only;omega);simp only;rw [lN hp,dH,List.length_append];exact f0
 obtain rfl:j=n:=by omega
 rw [List.take_of_length_le oM] at a0;repeat refine aF ?_
 exact bA rfl ⟨_,rfl,a0,g0⟩
theorem be8_zero:be8 0=zs 8:=by decide
theorem rpad_c (F:Nat→Prop) (a:Option Addr) (c:Nat) (l:Bs) (w:World) (hs:Sl F w 1 a l.length c (bB l)) (hn:l.length≤100000) :
  Calls Tryz.prog 253 #[.slice a l.length c] w (Ret λ v w'=>w'.ownsRow w.heap.size 5 1 v (mG l).length (bB (mG l))∧Grow w w'):=by
 refine V.calls (args:=[_]) Tryz.func253 rfl Tryz.ntmps253 rfl rfl ?_;repeat (first|refine aF ?_|refine yI λ bk w' hg r1 s0 z0=>?_)
 refine TL.append rfl rfl (eI r1 (Nat.le_of_eq s0)) (hs.grow hg) (bO l) (by unfold maxLen;omega) oM oM rfl ?_;intro v1 w1 g0 v0 _;rw [Nat.zero_add,List.nil_append] at g0;have l0:Grow w w1:=Grow.mk (aL v0 oM (λ k hk=>by simp only [Value.ownBlock,Option.some.injEq] at hk;omega) hg.1);refine TL.buildSlice rfl rfl rfl rfl rfl ?_;intro b' wa f0 q0 f1 e1 n0;have m0:Sl (λ _=>True) wa 1 (some ⟨b',0,none⟩) 1 1 (bB [128]):=(aU (sz:=1) (m:=1) q0 n0 dM).mono (λ _ _=>trivial);have k0:=f0.size;have s1:=l0.size;refine TL.append rfl rfl (aO g0 f0) m0 (bO [128]) (by unfold maxLen;omega) oM oM rfl ?_;intro v' wb e0 p0 _;have o0:Grow w wb:=Grow.mk (aL p0 oM (λ k hk=>(aR (aO g0 f0) hk).1) (l0.trans f0).1);repeat refine aF ?_
 clear g0 hg p0 v0 f0 k0 m0 q0 f1 e1 n0 l0 s1 r1 s0 z0;obtain ⟨L,hL⟩:∃ L,L=l.length:=⟨_,rfl⟩
 rw [← hL] at e0 hn;refine aX (S:=Value×Nat) (λ s=>[(3,s.1),(0,.slice a l.length c)]) (λ s w3=>s.2≤jT L∧w3.ownsRow w.heap.size 5 1 s.1 (L+1+s.2) (bB (l++[128]++zs s.2))∧Grow w w3) (λ s=>jT L-s.2) (v',0) ⟨rfl,rfl,trivial⟩ ⟨by simp only;omega,by simp only [zs,List.replicate_zero,List.append_nil];rw [dH];exact e0,o0⟩ ?_;clear e0 o0;rintro ⟨v,z⟩ w3 ⟨hz,a0,j0⟩;simp only at hz a0;have s0:=j0.size;have d2:jT L=(239-L%128)%128:=rfl;have x1:jT L<128:=by unfold jT;omega
 obtain ⟨va,vc,rfl,j1⟩:=aM a0;by_cases e2:z<jT L
 ·have o1:(L+1+z)%128≠112:=by omega
  repeat refine aF ?_
  refine TL.buildSlice rfl rfl rfl rfl rfl ?_;intro b' wa f0 q0 f1 e1 n0;have m0:Sl (λ _=>True) wa 1 (some ⟨b',0,none⟩) 1 1 (bB [0]):=(aU (sz:=1) (m:=1) q0 n0 dM).mono (λ _ _=>trivial);have k0:=f0.size;refine TL.append rfl rfl (aO a0 f0) m0 (bO [0]) (by unfold maxLen;omega) oM oM rfl ?_;intro v' wb e0 p0 _;have o0:Grow w wb:=Grow.mk (aL p0 oM (λ k hk=>(aR (aO a0 f0) hk).1) (j0.trans f0).1);repeat refine aF ?_
  refine aE (v',z+1) ⟨rfl,rfl,trivial⟩ ⟨by simp only;omega,?_,o0⟩ (by simp only;omega);simp only;rw [show zs (z+1)=zs z++[0] by simp [zs,List.replicate_succ'],← List.append_assoc,dH];exact e0
 obtain rfl:z=jT L:=by omega
 have o1:(L+1+jT L)%128=112:=by omega
 obtain ⟨N,hN⟩:∃ N,N=L+1+jT L:=⟨_,rfl⟩
 rw [← hN] at a0 j1 o1;rw [← hN];have f2:N≤200000:=by omega
 repeat refine aF ?_
 refine eU ?_;refine TL.appendZ (zc:=.int .u8 0) (c:=8) rfl rfl rfl rfl a0 oM oM oM oM rfl ?_;intro v4 w4 i0 u0;have q1:Grow w w4:=Grow.mk (aL u0 oM (λ k hk=>(aR a0 hk).1) j0.1)
 have h0:w4.ownsRow w.heap.size 5 1 v4 (N+8) (bB (l++[128]++zs (jT L)++be8 0)):=by
  rw [be8_zero,dH];exact i0
 obtain ⟨x0,t0⟩:∃ x0,x0=l++[128]++zs (jT L)++be8 0:=⟨_,rfl⟩
 rw [← t0] at h0;clear a0 j1 i0 u0 j0 s0;repeat (refine yC ?_)
 have y0:=q1.size;refine aX (S:=Value×Nat) (λ s=>[(5,.int .i64 (7-(s.2:Int))),(4,.int .u64 ((8*L:Nat):Int)),(3,s.1)]) (λ s w5=>s.2≤8∧w5.ownsRow w.heap.size 5 1 s.1 (N+8+s.2) (bB (x0++(be8 (8*L)).take s.2))∧Grow w w5) (λ s=>8-s.2) (v4,0) ⟨rfl,by rw [hL,Nat.mul_comm];rfl,rfl,trivial⟩ ⟨by simp only;omega,by simpa using aO h0 yG,yG⟩ ?_;clear h0 q1 y0;rintro ⟨v,i⟩ w5 ⟨hi,a0,j0⟩;simp only at hi a0;have s0:=j0.size;obtain ⟨x,hx⟩:∃ x,x=8*L:=⟨_,rfl⟩
 rw [← hx] at a0;rw [← hx];have z1:x<18446744073709551616:=by omega
 by_cases g1:i<8
 ·have m1:(7-(i:Int))=((7-i:Nat):Int):=by omega
  rw [m1];repeat (first|(refine eM ?_;refine TL.mulN (a:=8) rfl rfl oM rfl ?_)|(refine eS ?_;refine TL.shrS rfl rfl (by show 8*(7-i)≤64;omega) rfl ?_)|(refine eA ?_;refine iC rfl (M:=256) rfl rfl ?_)|refine yC ?_)
  rw [show 8*(7-i)=56-8*i by omega];refine TL.buildSlice rfl rfl rfl rfl rfl ?_;intro b' wa f0 q0 f1 e1 n0;have m0:Sl (λ _=>True) wa 1 (some ⟨b',0,none⟩) 1 1 (bB [x / 2^(56-8*i)%256]):=(aU (sz:=1) (m:=1) q0 n0 dM).mono (λ _ _=>trivial);have k0:=f0.size;refine TL.append rfl rfl (aO a0 f0) m0 (bO [x / 2^(56-8*i)%256]) (by unfold maxLen;omega) oM oM rfl ?_;intro v' wb e0 p0 _;have o0:Grow w wb:=Grow.mk (aL p0 oM (λ k hk=>(aR (aO a0 f0) hk).1) (j0.trans f0).1);rw [← m1];repeat refine aF ?_
  refine aE (v',i+1) ⟨?_,by rw [hx];rfl,rfl,trivial⟩ ⟨by simp only;omega,?_,o0⟩ (by simp only;omega)
  ·show some (Value.int .i64 _)=some (Value.int .i64 _);congr 2
   simp only;omega
  ·simp only
   have u1:(be8 x).take (i+1)=(be8 x).take i++[x / 2^(56-8*i)%256]:=by
    rw [List.take_add_one];have:(be8 x)[i]? = some (x / 2^(56-8*i)%256):=by simp [be8,g1]
    rw [this];rfl
   rw [u1,← List.append_assoc,dH];exact e0
 obtain rfl:i=8:=by omega
 repeat refine aF ?_
 have h1:x0++(be8 x).take 8=mG l:=by
  rw [List.take_of_length_le (by rw [lX];omega),t0,hx];unfold mG;rw [hL]
 rw [h1] at a0;have y1:(mG l).length=N+8+8:=by rw [kJ,← hL];omega
 exact bA rfl ⟨_,rfl,by rw [y1];exact a0,j0⟩
theorem rrun_c (F:Nat→Prop) (s:St) (a:Option Addr) (c:Nat) (l:Bs) (w:World) (hs:Sl F w 1 a l.length c (bB l)) (hn:l.length≤100000) (hb:∀ b∈l,b<256) :
  Calls Tryz.prog 217 #[.agg (s.l.map wB).toArray,.slice a l.length c] w (Ret λ v w'=>v=.agg ((kN s l).l.map wB).toArray∧Grow w w'):=by
 refine V.calls (args:=[_,_]) Tryz.func217 rfl Tryz.ntmps217 rfl rfl ?_;repeat (first|refine aF ?_|refine yI λ bk w' hg a0 n0 v0=>?_)
 rename_i b0 w0 g0 k0 s0 e1;have l0:Grow w w':=by exact yG
 have t0:Blk w' b0 295 (s.l.map wB):=Blk.grow hg k0;have u0:=l0.size;have m0:Blk w' bk 295 ((List.replicate 8 0#64).map wB):=a0;have j1:bk≠b0:=by omega
 have z0:=a0.lt;clear a0;refine aB 253 ?_;refine aA rfl (rpad_c F a c l _ (hs.grow l0) hn) rfl ?_;rintro v w2 ⟨e0,i0⟩;have hm:=padS_mod l;have y0:=padS_lt hb;have m1:=kJ l;have hz:jT l.length<128:=by unfold jT;omega
 unfold kN;generalize (mG l).length / 128=m at *;generalize mG l=bs at *;rw [hm] at e0;obtain ⟨va,vc,rfl,x0⟩:=aM e0;obtain ⟨G,hG,o0⟩:∃ G:Nat→Prop,(∀ k,G k→w'.heap.size≤k∧k<w2.heap.size)∧Sl G w2 1 va (128*m) vc (bB bs):=⟨_,λ k hk=>⟨hk.1.1,hk.2⟩,x0.tight⟩
 have h3:=i0.size;have u1:=t0.lt;have q0:=o0.cap;repeat refine aF ?_
 refine aX (S:=Nat) (λ k=>[(6,.int .i64 ((128*k:Nat):Int)),(5,.slice va (128*m) vc),(4,.pointer (some ⟨bk,0,none⟩)),(2,.pointer (some ⟨b0,0,none⟩))]) (λ k w3=>k≤m∧Blk w3 b0 295 ((lP s bs k).l.map wB)∧Blk w3 bk 295 ((List.replicate 8 0#64).map wB)∧Sl G w3 1 va (128*m) vc (bB bs)∧Grow w w3) (λ k=>m-k) 0 ⟨rfl,rfl,rfl,rfl,trivial⟩ ⟨Nat.zero_le _,t0.grow i0,m0.grow i0,o0,l0.trans i0⟩ ?_;rintro k w3 ⟨hk,q1,q2,q3,q4⟩;have h1:=q4.size;by_cases o1:k<m
 ·repeat refine aF ?_
  apply T.any 7 [is (.agg ((lP s bs k).l.map wB).toArray),is (.slice va (128*m) vc),is (.int .i64 ((128*k:Nat):Int)),is (.int .i64 ((128*k:Nat):Int)),is (.int .i64 ((128*k+128:Nat):Int)),slF G 1 128 (vc-128*k) (bB ((bs.drop (128*k)).take 128)),is (.agg ((pieceB (lP s bs k) ((bs.drop (128*k)).take 128)).map wB).toArray)]
  ·rfl
  ·repeat' (first|exact aN|refine aK ?_ ?_)
   iterate 5
    ·refine yQ λ wq _ _ p0=>?_;repeat refine aF ?_
     exact aD rfl yG rfl
   ·refine yQ λ wq _ _ p0=>?_;refine TL.slice (l:=128*k) (h:=128*k+128) (mm:=vc) rfl (q3.grow yG) (bI rfl rfl) (bI rfl rfl) (aP _) (by intro h;rfl) oM oM oM oM rfl ?_;intro a' j0 _;repeat refine aF ?_
    rw [show 128*k+128-128*k=128 by omega] at *;refine aD rfl yG ⟨a',rfl,?_⟩;simpa [bB,List.map_take,List.map_drop] using j0
   ·(((refine bW rfl rfl rfl ?_);( intro wq _ _ p0;(repeat (refine aJ rfl rfl ?_;intro vq f0;try (obtain rfl:=f0)));(refine aZ ?_))))
    obtain ⟨a',rfl,j0⟩:=f0;refine aB 254 ?_;refine aA rfl (rpiece_c G (lP s bs k) ((bs.drop (128*k)).take 128) ?_ ?_ a' _ _ j0) rfl ?_
    ·rw [List.length_take,List.length_drop];omega
    ·exact λ b hb=>y0 b (List.mem_of_mem_drop (List.mem_of_mem_take hb))
    rintro _ w8 ⟨rfl,s1⟩;repeat refine aF ?_
    exact aD rfl yG rfl
  ·intro w7 g1 r1 h0 _ _;((((repeat (refine aJ rfl rfl ?_;intro vq f0;try (obtain rfl:=f0)));(refine aZ ?_))))
   have f1:=q1.grow h0;rw [← wordsB_l];repeat (first|refine aF ?_|refine yJ λ w' hu a0 n0=>?_)
   refine aE (k+1) ⟨by show some (Value.int .i64 _)=some (Value.int .i64 _);congr 2,rfl,rfl,rfl,trivial⟩ ⟨oM,a0,(q2.grow h0).upd hu oM,(q3.grow h0).upd hu (λ k hk=>by have:=hG k hk;omega),aH hu oM (q4.trans h0)⟩ oM
 ·obtain rfl:k=m:=by omega
  repeat (first|refine aF ?_|refine yJ λ w' hu a0 n0=>?_)
  exact retC rfl (aW a0 rfl) ⟨_,rfl,rfl,aH hu oM q4⟩
theorem rshort_c (w:World):Calls Tryz.prog 218 #[] w (Ret λ v w'=>v=.agg (shortS.l.map wB).toArray∧Grow w w'):=by
 refine V.calls (args:=[]) Tryz.func218 rfl Tryz.ntmps218 rfl rfl ?_;repeat (first|refine aF ?_|refine yI λ bk w' hg a0 f0 e0=>?_)
 refine aB 255 ?_;refine aA (vs:=[]) rfl (rstart_c _) rfl ?_;rintro _ w2 ⟨rfl,j0⟩;have i0:Blk w2 bk 295 ((List.replicate 8 0#64).map wB):=Blk.grow j0 a0;have j1:Grow w w2:=hg.trans j0;have x0:=j0.size;have v0:w.heap.size=bk:=f0;have s0:=e0;clear hg a0 f0 e0 j0;repeat (first|refine aF ?_|refine yI λ bk w' hg a0 f0 e0=>?_|refine yJ λ w' hu a0 f0=>?_)
 rename_i b0 wa wb o1 l0;have h0:Blk w' b0 295 ((List.replicate 8 0#64).map wB):=by exact yB
 have g0:Grow w w':=by exact yG
 have e1:b0≠bk:=by omega
 have m0:w.heap.size≤b0:=by omega
 have h1:w.heap.size≤bk:=by omega
 clear i0 j1 x0 v0 s0 hu f0 hg e0 o1 l0;refine aX (S:=Nat) (λ i=>[(2,.int .i64 (i:Int)),(1,.pointer (some ⟨bk,0,none⟩)),(0,.pointer (some ⟨b0,0,none⟩))]) (λ i w3=>i≤8∧Blk w3 bk 295 ((xorL i).map wB)∧Blk w3 b0 295 ((List.replicate 8 0#64).map wB)∧Grow w w3) (λ i=>8-i) 0 ⟨rfl,rfl,rfl,trivial⟩ ⟨oM,a0,h0,g0⟩ ?_;clear a0 h0 g0;rintro i w3 ⟨hi,a0,i0,hg⟩;have u0:=xorL_len i;by_cases f1:i<8
 ·repeat (first|(refine aQ ?_;refine aS rfl (Blk.cell a0 (jU oM)) rfl ?_)|refine jQ (b:=xorK) rfl rfl rfl ?_|refine yC ?_)
  refine dR rfl rfl a0 rfl (by rw [List.length_map,u0];exact Nat.ble_eq_true_of_le oM) (map_set _ _ _) ?_;intro w7 t0 s1 z1;repeat refine aF ?_
  exact aE (i+1) ⟨rfl,rfl,rfl,trivial⟩ ⟨f1,s1,i0.upd t0 e1,aH t0 h1 hg⟩ oM
 obtain rfl:i=8:=by omega
 repeat (first|(refine aQ ?_;refine iP rfl a0 (by rw [List.length_map,u0];rfl) rfl ?_)|refine yC ?_)
 refine TL.buildSlice rfl rfl rfl rfl rfl ?_;intro b1 w4 o0 u1 q1 q2 q3;have q0:Blk w4 b1 5 (bB mH):=u1;refine gU rfl q0 rfl (Nat.le_refl _) dM rfl ?_;intro w5 k0 z0;have s0:=hg.size;have r1:=i0.lt;have g1:w.heap.size≤b0:=m0;have y1:=o0.size;have x1:=k0.size;refine aB 217 ?_;have y0:(St.of (xorL 8)).l=xorL 8:=St.of_l (xorL_len 8);rw [← y0];refine aA rfl (rrun_c _ (St.of (xorL 8)) (some ⟨b1,0,none⟩) 11 mH _ z0 dM dM) rfl ?_;rintro _ w7 ⟨rfl,n0⟩;rw [show kN (St.of (xorL 8)) mH=shortS from rfl];have w1:=n0.size;have p0:Blk w7 b0 295 ((List.replicate 8 0#64).map wB):=(((i0.grow o0).upd k0 oM).grow n0)
 have m1:Grow w w7:=((aH k0 oM (hg.trans o0)).trans n0)
 repeat (first|(refine bZ ?_;refine eG rfl rfl p0 rfl rfl (by simp [Value.oneCell']) ?_;intro w' hu a0 f0)|refine yC ?_)
 exact retC rfl (aW a0 rfl) ⟨_,rfl,rfl,aH hu oM m1⟩
theorem rsum_c (F:Nat→Prop) (a:Option Addr) (n c:Nat) (e0:List Bs) (w:World) (h:KysAt F w a n c e0) (hn:e0.flatten.length≤100000) (hb:∀ b∈e0.flatten,b<256) :
  Calls Tryz.prog 172 #[.slice a n c] w (Ret λ v w'=>v=.agg (bB (shaB e0.flatten)).toArray∧Grow w w'):=by
 refine V.calls (args:=[_]) Tryz.func172 rfl Tryz.ntmps172 rfl rfl ?_;repeat (first|(refine fI ?_;refine eO 32 zero_dig rfl ?_;intro bk w' hg z0 u0 l0)|refine yC ?_)
 refine aB 218 ?_;refine aA (vs:=[]) rfl (rshort_c _) rfl ?_;rintro _ w2 ⟨rfl,k0⟩;repeat refine aF ?_
 refine aB 219 ?_;refine aA rfl (rjoin_c F a n c e0 _ (h.go (Carry.grow (hg.trans k0))) hn) rfl ?_;rintro vj w3 ⟨hj,p0⟩;obtain ⟨ja,jc,rfl,x0⟩:=aM hj;refine aB 217 ?_;refine aA rfl (rrun_c _ shortS ja jc e0.flatten _ x0 hn hb) rfl ?_;rintro _ w4 ⟨rfl,o0⟩;refine aB 216 ?_;refine aA rfl (rbytes_c _ _) rfl ?_;rintro _ w5 ⟨rfl,n0⟩;unfold shaB;have hl:=kH (kN shortS e0.flatten);generalize sumS (kN shortS e0.flatten)=l at *;have e1:Blk w5 bk 243 (bB (zs 32)):=((((z0.grow k0).grow p0).grow o0).grow n0)
 have h1:Grow w w5:=(((hg.trans k0).trans p0).trans o0).trans n0;have g1:w.heap.size≤bk:=by omega
 have x1:=e1.lt;clear hg z0 u0 l0 k0 p0 o0 n0 hj x0;repeat ((refine fI ?_;refine eO 64 zero_64 rfl ?_;intro b2 w6 y0 o1 q1 q2))
 refine bZ ?_;refine fH rfl rfl o1 (cN _) hl ?_;intro w7 t0 m1 q3;repeat (first|(refine fI ?_;refine eO 32 zero_dig rfl ?_;intro b3 w8 m0 j1 q4 q5)|refine yC ?_)
 apply T.any 2 [is (.slice (some ⟨b3,0,none⟩) 32 32),is (.slice (some ⟨b2,0,none⟩) 32 64)]
 ·rfl
 ·repeat' (first|exact aN|refine aK ?_ ?_)
  iterate 2
   ·refine yQ λ wq _ _ w1=>?_;repeat refine aF ?_
    exact aD rfl yG rfl
 intro w9 s1 u1 h0 _ _;((refine yT ?_))
 have v0:=jJ (o:=0) (m:=32) (c:=64) ((m1.grow m0).grow h0) oM oM dM;rw [List.drop_zero] at v0;refine TL.copyB (b:=b3) (o:=0) (m:=32) (c:=32) rfl rfl (j1.grow h0) v0 (bO _) (by rw [bE,cN];omega) rfl ?_;intro s0 f0 j0 f1;have a0:(l.take 32).length=32:=by rw [List.length_take];omega
 have r1:iJ (bB (zs 32)) 0 ((bB (l.take 32)).take (min 32 32))=bB (l.take 32):=by
  rw [List.take_of_length_le (by rw [bE];omega),putAt_eq _ _ _ (by rw [bE,bE,cN];omega),bE,a0];simp [bB,zs]
 rw [r1] at j0;have z9:=h0.size;have g0:Grow w s0:=aH f0 oM ((aH t0 oM (h1.trans y0)).trans (m0.trans h0));have i0:Blk s0 bk 243 (bB (zs 32)):=((((e1.grow y0).upd t0 oM).grow m0).grow h0).upd f0 oM;repeat (first|refine nS rfl j0 a0 rfl ?_|(refine bZ ?_;refine fH rfl rfl i0 (cN _) a0 ?_;intro w' hu q0 u0)|refine yC ?_)
 exact retC rfl (aW q0 (by rw [bE,a0];rfl)) ⟨_,rfl,rfl,aH hu g1 g0⟩
theorem encL_small:∀ n:Fin 128,encL n.val=[n.val]:=by decide +kernel
theorem blkB_small {p:Bs} (h:p.length<128):bS p=p.length::p:=by
 unfold bS;rw [encL_small ⟨p.length,h⟩];rfl
theorem rroom_c (n:Nat) (hn:n<128) (w:World) :
  Calls Tryz.prog 265 #[.int .u64 (n:Int)] w (Ret λ v w'=>v=.int .i64 1∧w=w'):=by
 have h0:n / 2^7=0:=Nat.div_eq_of_lt oM;refine V.calls (args:=[_]) Tryz.func265 rfl Tryz.ntmps265 rfl rfl ?_;repeat refine aF ?_
 refine aX (S:=Nat) (λ _=>[(3,.int .i64 1),(0,.int .u64 (n:Int))]) (λ i w'=>i=0∧w=w') (λ i=>i) 0 ⟨rfl,rfl,trivial⟩ ⟨rfl,rfl⟩ ?_;rintro _ _ ⟨rfl,rfl⟩;repeat (first|(refine eS ?_;refine TL.shrS (s:=7) rfl rfl (by show 7≤64;omega) rfl ?_;rw [h0])|refine yC ?_)
 exact bA rfl ⟨_,rfl,rfl,rfl⟩
theorem own_copy {F:Nat→Prop} {w0 w w1:World} {v:Value} {l:Bs} (hg:Grow w0 w) (a0:w1.ownsRow w0.heap.size 5 1 v (0+l.length) ([]++bB l)) {b:Nat} (hb:w0.heap.size≤b) (e0:w.grownBy w1 (Value.slice (some ⟨b,0,none⟩) 0 0).ownBlock):w1.ownsRow w0.heap.size 5 1 v l.length (bB l)∧Grow w0 w1:=by
 rw [Nat.zero_add,List.nil_append] at a0;have:=hg.size;exact ⟨a0,Grow.mk (aL e0 oM (λ k hk=>by simp only [Value.ownBlock,Option.some.injEq] at hk;omega) hg.1)⟩
theorem rnum_c (F:Nat→Prop) (a:Option Addr) (c n:Nat) (l:Bs) (w:World) (hs:Sl F w 1 a l.length c (bB l)) (hl:l.length≤100000) (hn:n<128) :
  Calls Tryz.prog 247 #[.slice a l.length c,.int .u64 (n:Int)] w (Ret λ v w'=>w'.ownsRow w.heap.size 5 1 v (l.length+1) (bB (l++[n]))∧Grow w w'):=by
 refine V.calls (args:=[_,_]) Tryz.func247 rfl Tryz.ntmps247 rfl rfl ?_;repeat (first|refine aF ?_|refine yI λ bk w' hg k0 i0 l0=>?_)
 refine TL.append rfl rfl (eI k0 (Nat.le_of_eq i0)) (hs.grow hg) (bO l) (by unfold maxLen;omega) oM oM rfl ?_;intro v1 w1 a0 g0 _;obtain ⟨f0,j0⟩:=own_copy (F:=F) hg a0 (Nat.le_of_eq i0) g0;clear a0 g0 k0 hg i0;repeat (first|(refine aB 265 ?_;refine aA rfl (rroom_c n hn _) rfl ?_;rintro _ _ ⟨rfl,rfl⟩)|(refine eS ?_;refine TL.shrS (s:=0) rfl rfl (by show 0≤64;omega) rfl ?_;rw [show n / 2^0=n by simp])|refine yC ?_)
 rw [show 256-1*2^(9-1)+n=n by simp];refine TL.buildSlice rfl rfl rfl rfl rfl ?_;intro b' wa h0 s0 u0 t0 n0;have m0:Sl (λ _=>True) wa 1 (some ⟨b',0,none⟩) 1 1 (bB [n]):=(aU (sz:=1) (m:=1) s0 n0 dM).mono (λ _ _=>trivial);have q0:=h0.size;have z1:=j0.size;refine TL.append rfl rfl (aO f0 h0) m0 (bO [n]) (by unfold maxLen;omega) oM oM rfl ?_;intro v' wb e0 p0 _;have o0:Grow w wb:=Grow.mk (aL p0 oM (λ k hk=>(aR (aO f0 h0) hk).1) (j0.trans h0).1);repeat refine aF ?_
 refine aX (S:=Nat) (λ _=>[(7,.int .i64 (-1)),(5,v')]) (λ i w'=>i=0∧wb=w') (λ i=>i) 0 ⟨rfl,rfl,trivial⟩ ⟨rfl,rfl⟩ ?_;rintro _ _ ⟨rfl,rfl⟩;repeat refine aF ?_
 exact bA rfl ⟨_,rfl,by rw [dH];exact e0,o0⟩
theorem rblock_c (F G:Nat→Prop) (a b:Option Addr) (c d:Nat) (l p:Bs) (w:World) (hs:Sl F w 1 a l.length c (bB l)) (hp:Sl G w 1 b p.length d (bB p)) (hl:l.length≤100000) (hn:p.length<128) :
  Calls Tryz.prog 203 #[.slice a l.length c,.slice b p.length d] w (Ret λ v w'=>w'.ownsRow w.heap.size 5 1 v (l++bS p).length (bB (l++bS p))∧Grow w w'):=by
 refine V.calls (args:=[_,_]) Tryz.func203 rfl Tryz.ntmps203 rfl rfl ?_;repeat refine aF ?_
 refine aB 247 ?_;refine aA rfl (rnum_c F a c p.length l _ hs hl hn) rfl ?_;rintro v w1 ⟨e0,f0⟩;have z1:=f0.size;repeat refine aF ?_
 refine TL.append rfl rfl e0 (hp.grow f0) (bO p) (by unfold maxLen;omega) oM oM rfl ?_;intro v' wb a0 h0 _;have g0:Grow w wb:=Grow.mk (aL h0 oM (λ k hk=>(aR e0 hk).1) f0.1);have e:l++bS p=l++[p.length]++p:=by rw [blkB_small hn];simp
 have e2:(l++bS p).length=l.length+1+p.length:=by rw [e];simp;omega
 repeat refine aF ?_
 exact bA rfl ⟨_,rfl,by rw [e2,e,dH];exact a0,g0⟩
theorem wordL_eq (n:Nat):(List.range 4).map (λ j=>n / 2^(8*j)%256)=bP n:=by
 simp [List.range_succ,bP]
theorem rword_c (F:Nat→Prop) (a:Option Addr) (c n:Nat) (l:Bs) (w:World) (hs:Sl F w 1 a l.length c (bB l)) (hl:l.length≤100000) (hn:n<18446744073709551616) :
  Calls Tryz.prog 173 #[.slice a l.length c,.int .u64 (n:Int),.int .i64 4] w (Ret λ v w'=>w'.ownsRow w.heap.size 5 1 v (l.length+4) (bB (l++bP n))∧Grow w w'):=by
 refine V.calls (args:=[_,_,_]) Tryz.func173 rfl Tryz.ntmps173 rfl rfl ?_;repeat (first|refine aF ?_|refine yI λ bk w' hg l0 i0 m0=>?_)
 refine TL.append rfl rfl (eI l0 (Nat.le_of_eq i0)) (hs.grow hg) (bO l) (by unfold maxLen;omega) oM oM rfl ?_;intro v1 w1 e0 g0 _;obtain ⟨a0,k0⟩:=own_copy (F:=F) hg e0 (Nat.le_of_eq i0) g0;clear e0 g0 l0 hg i0;repeat refine aF ?_
 refine aX (S:=Value×Nat) (λ s=>[(8,.int .i64 (s.2:Int)),(7,s.1),(2,.int .i64 4),(1,.int .u64 (n:Int))]) (λ s w3=>s.2≤4∧w3.ownsRow w.heap.size 5 1 s.1 (l.length+s.2) (bB (l++(List.range s.2).map (λ j=>n / 2^(8*j)%256)))∧Grow w w3) (λ s=>4-s.2) (v1,0) ⟨rfl,rfl,rfl,rfl,trivial⟩ ⟨by simp only;omega,by simpa using a0,k0⟩ ?_;clear a0 k0;rintro ⟨v,i⟩ w3 ⟨hi,a0,j0⟩;simp only at hi a0;have z3:=j0.size;by_cases x0:i<4
 ·repeat (first|(refine eU ?_;first|refine lK (r:=4) rfl rfl dM rfl ?_|refine TL.minV (r:=4) rfl rfl dM rfl ?_)|(refine eM ?_;refine TL.mulN (a:=8) rfl rfl oM rfl ?_)|(refine eS ?_;refine TL.shrS rfl rfl (by show 8*i≤64;omega) rfl ?_)|(refine eA ?_;refine iC rfl (M:=256) rfl rfl ?_)|refine yC ?_)
  refine TL.buildSlice rfl rfl rfl rfl rfl ?_;intro b' wa h0 t0 v0 u0 o0;have n0:Sl (λ _=>True) wa 1 (some ⟨b',0,none⟩) 1 1 (bB [n / 2^(8*i)%256]):=(aU (sz:=1) (m:=1) t0 o0 dM).mono (λ _ _=>trivial);have s0:=h0.size;refine TL.append rfl rfl (aO a0 h0) n0 (bO [n / 2^(8*i)%256]) (by unfold maxLen;omega) oM oM rfl ?_;intro v' wb f0 q0 _;have p0:Grow w wb:=Grow.mk (aL q0 oM (λ k hk=>(aR (aO a0 h0) hk).1) (j0.trans h0).1);repeat refine aF ?_
  refine aE (v',i+1) ⟨rfl,rfl,rfl,rfl,trivial⟩ ⟨by simp only;omega,?_,p0⟩ (by simp only;omega);simp only;rw [List.range_succ,List.map_append,← List.append_assoc,dH];exact f0
 ·obtain rfl:i=4:=by omega
  rw [wordL_eq] at a0;repeat (first|(refine eU ?_;first|refine lK (r:=4) rfl rfl dM rfl ?_|refine TL.minV (r:=4) rfl rfl dM rfl ?_)|refine yC ?_)
  exact bA rfl ⟨_,rfl,a0,j0⟩
def RdR (B b:Nat) (r:Bs) (w:World):Prop:=∃ a c,Blk w b 289 [.slice a r.length c,.int .i64 0]∧Sl (λ k=>B≤k∧k<b) w 1 a r.length c (bB r)
theorem RdR.lt {B b:Nat} {r:Bs} {w:World} (h:RdR B b r w):b<w.heap.size:=by
 obtain ⟨a,c,h1,_⟩:=h;exact h1.lt
theorem RdR.grow {B b:Nat} {r:Bs} {w w':World} (h:RdR B b r w) (g:Grow w w'):RdR B b r w':=by
 obtain ⟨a,c,h1,h2⟩:=h;exact ⟨a,c,h1.grow g,h2.grow g⟩
theorem rread_c (F:Nat→Prop) (a:Option Addr) (c:Nat) (l:Bs) (w:World) (hs:Sl F w 1 a l.length c (bB l)) (hl:l.length≤100000) :
  Calls Tryz.prog 205 #[.slice a l.length c] w (Ret λ v w'=>∃ b,v=.pointer (some ⟨b,0,none⟩)∧w.heap.size≤b∧RdR w.heap.size b l w'∧Grow w w'):=by
 refine V.calls (args:=[_]) Tryz.func205 rfl Tryz.ntmps205 rfl rfl ?_;repeat (first|refine aF ?_|refine yI λ bk w' hg g0 f0 h0=>?_)
 refine TL.append rfl rfl (eI g0 (Nat.le_of_eq f0)) (hs.grow hg) (bO l) (by unfold maxLen;omega) oM oM rfl ?_;intro v1 w1 a0 e0 _;obtain ⟨i0,j0⟩:=own_copy (F:=F) hg a0 (Nat.le_of_eq f0) e0;clear a0 e0 g0 hg f0;obtain ⟨a1,c1,rfl,k0⟩:=aM i0;have z1:=j0.size;repeat (first|refine aF ?_|refine yI λ bk w' hg g0 f0 h0=>?_)
 exact bA rfl ⟨_,rfl,bk,rfl,oM,⟨a1,c1,g0,(k0.tight.grow hg).mono (λ k hk=>⟨hk.1.1,by have:=hk.2;omega⟩)⟩,j0.trans hg⟩
end Go.Proofs.YtfpadnmdafiddaaGreatDoor
