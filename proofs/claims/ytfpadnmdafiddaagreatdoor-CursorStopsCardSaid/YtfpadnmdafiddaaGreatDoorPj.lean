import Derived.Test.YtfpadnmdafiddaaGreatDoorP0
import Derived.Test.YtfpadnmdafiddaaGreatDoorPi
set_option linter.all false
set_option maxHeartbeats 16000000
set_option maxRecDepth 100000
namespace Go.V
open Go Go.RowKit
theorem Carry.own {F:Nat→Prop} {w w':World} {v:Value} {B:Nat} (a0:w.grownBy w' v.ownBlock) (hB:∀ k,v.ownBlock=some k→B≤k) (hF:∀ k,F k→k<B):Carry F w F w' :=
 ⟨a0.size,λ k hk hl=>⟨hk,a0.block k hl (λ e=>by have:=hB k e.symm;have:=hF k hk;omega)⟩⟩
end Go.V
namespace Go.Proofs.YtfpadnmdafiddaaGreatDoor
open Go Go.RowKit Go.V
theorem ButS.own {S:Nat→Prop} {w0 w w':World} {v:Value} {B:Nat} (h:ButS S w0 w) (a0:w.grownBy w' v.ownBlock) (hB:∀ k,v.ownBlock=some k→B≤k) (h0:w0.heap.size≤B):ButS S w0 w' :=
 ⟨a0.os.trans h.os,a0.tape.trans h.tape,a0.output.trans h.output,Nat.le_trans h.size a0.size,λ k hk hs=>(a0.block k (Nat.lt_of_lt_of_le hk h.size) (λ e=>by have:=hB k e.symm;omega)).trans (h.block k hk hs)⟩
theorem cJ {w w':World} {b:Nat} {t:TypeId} {cs:List Value} (h:Blk w b t cs) (e:w'.heap[b]? = w.heap[b]?):Blk w' b t cs:=by unfold Blk at *;rw [e];exact h
theorem PgAt.keep {w w':World} {L:PL} {g:Pg} (h:PgAt w L g) (hk:∀ b,b=L.p∨b=L.d∨b=L.u∨b=L.m→w'.heap[b]? = w.heap[b]?):PgAt w' L g:=by
 obtain ⟨f,h1,h2⟩:=h.f;exact ⟨cJ h.blk (hk _ (.inl rfl)),cJ h.used (hk _ (.inr (.inr (.inl rfl)))),h.ok,h.cnt,⟨f,h1.keep (hk _ (.inr (.inl rfl))) (hk _ (.inr (.inr (.inr rfl)))),h2⟩,h.lt,h.bl,h.ne⟩
theorem gJ {s:Pg} {nd:Nd} {r:Nat×Pg} (h:gV s nd=some r):bF nd=true∧newP s (dC nd)=some r:=by
 unfold gV at h;split at h
 ·exact ⟨by assumption,h⟩
 ·cases h
theorem kC {s s2:Pg} {x:Nd} {r:List Nd} {ks:List Nat} (h:eY s (x::r)=some (ks,s2)):∃ p s1 l,gV s x=some (p,s1)∧eY s1 r=some (l,s2)∧ks=p::l:=by
 unfold eY at h;split at h
 ·cases h
 ·rename_i p s1 e1;split at h
  ·cases h
  ·rename_i l a0 e2;simp only [Option.some.injEq,Prod.mk.injEq] at h;obtain ⟨rfl,rfl⟩:=h;exact ⟨p,s1,l,e1,e2,rfl⟩
theorem storeP_parts {s s':Pg} {n up:Nd} (h:storeP s n=some (up,s')):∃ nds ks,eY s nds=some (up.kids,s')∧up=⟨[],up.kids,ks⟩∧((aT n≤8∧nds=[n]∧ks=[])∨(8<aT n∧nds=[(bV n).1,(bV n).2.1]∧ks=[(bV n).2.2])):=by
 unfold storeP at h;split at h
 ·rename_i h8;split at h
  ·cases h
  ·rename_i p s1 e1;split at h
   ·cases h
   ·rename_i q s2 e2;simp only [Option.some.injEq,Prod.mk.injEq] at h;obtain ⟨rfl,rfl⟩:=h;exact ⟨_,_,by simp [eY,e1,e2],rfl,.inr ⟨h8,rfl,rfl⟩⟩
 ·rename_i h8;split at h
  ·cases h
  ·rename_i p s1 e1;simp only [Option.some.injEq,Prod.mk.injEq] at h;obtain ⟨rfl,rfl⟩:=h;exact ⟨_,_,by simp [eY,e1],rfl,.inl ⟨oM,rfl,rfl⟩⟩
def NdsAt (F:Nat→Prop) (w:World):List Value→List Nd→Prop
 | [],[]=>True
 | v1::v2::v3::cs,nd::l=>(∃ x:NV,v1=x.v1∧v2=x.v2∧v3=x.v3∧NdAt F w x nd)∧NdsAt F w cs l
 | _,_=>False
theorem NdsAt.at' {F:Nat→Prop} {w:World}:∀ {l:List Nd} {cs:List Value} {i:Nat} {nd:Nd},NdsAt F w cs l→l[i]? = some nd→∃ x:NV,(∀ j u,[x.v1,x.v2,x.v3][j]? = some u→cs[i*3+j]? = some u)∧NdAt F w x nd
 | [],_,i,nd,_,hx=>by simp at hx
 | _::_,[],_,_,h,_=>h.elim
 | _::_,[_],_,_,h,_=>h.elim
 | _::_,[_,_],_,_,h,_=>h.elim
 | y::l,v1::v2::v3::cs,0,nd,⟨⟨x,h1,h2,h3,h4⟩,_⟩,hx=>by
  simp only [List.getElem?_cons_zero,Option.some.injEq] at hx;subst hx;refine ⟨x,λ j u hj=>?_,h4⟩;subst h1 h2 h3
  match j,hj with
  | 0,hj=>simpa using hj
  | 1,hj=>simpa using hj
  | 2,hj=>simpa using hj
 | y::l,v1::v2::v3::cs,i+1,nd,⟨_,h⟩,hx=>by
  obtain ⟨x,h1,h2⟩:=NdsAt.at' h (by simpa using hx);refine ⟨x,λ j u hj=>?_,h2⟩;rw [show (i+1)*3+j=(i*3+j)+1+1+1 by omega];simpa using h1 j u hj
theorem store_c {w:World} {L:PL} {g g':Pg} (h:PgAt w L g) (ht:TabAt w) (h0:¬ L.S 0) (F:Nat→Prop) (t5:∀ k,F k→¬ L.S k) (u1:∀ k,w.heap.size≤k→F k) (x:NV) (nd up:Nd) (q2:NdAt F w x nd) (hb:NdB nd) (h9:aT nd≤1000) (d5:bN nd=false→nd.items=[]∧nd.keys.length+1=nd.kids.length) (a5:storeP g nd=some (up,g')) :
  Calls Tryz.prog 100 #[.pointer (some ⟨L.p,0,none⟩),x.val] w (Ret λ v w'=>(∃ y:NV,v=.tuple #[y.val,.int .i64 0]∧NdAt F w' y up)∧PgAt w' L g'∧ButS L.S w w'):=by
 obtain ⟨k0,ks,hw,v4,o2⟩:=storeP_parts a5;have d6:=q2.its.len;have c6:=bR q2.kids;have g0:nd.items.length≤1000∧nd.kids.length≤1000:=by unfold aT at h9;omega
 have g3:∀ k,w.heap.size≤k→¬ L.S k:=λ k hk=>by have:=h.lts;unfold PL.S;omega
 have q5:∀ nd∈k0,NdB nd:=by
  obtain ⟨s1,s2,s3⟩:=splitN_by hb;rcases o2 with ⟨_,rfl,_⟩|⟨_,rfl,_⟩
  ·intro n hn;simp only [List.mem_singleton] at hn;subst hn;exact hb
  ·intro n hn;simp only [List.mem_cons,List.not_mem_nil,or_false] at hn;rcases hn with rfl|rfl
   ·exact s1
   ·exact s2
 refine V.calls (args:=[_,_]) Tryz.func100 rfl Tryz.ntmps100 rfl rfl ?_
 refine dU 4 (λ e wC=>∃ (a:Option Addr) (c b4 b6:Nat) (cells:List Value) (a3:Option Addr) (n3 c3:Nat) (G:Nat→Prop),Sub [(7,.slice a k0.length c),(6,.pointer (some ⟨b6,0,none⟩)),(4,.pointer (some ⟨b4,0,none⟩)),(0,.pointer (some ⟨L.p,0,none⟩))] e ∧
  (∀ k,G k→F k∧k≠b6∧k≠b4)∧Sl G wC 3 a k0.length c cells∧NdsAt G wC cells k0∧Blk wC b6 79 [.slice none 0 0,.slice none 0 0,.slice a3 n3 c3]∧KysAt G wC a3 n3 c3 ks∧Blk wC b4 79 nil3∧Grow w wC∧w.heap.size≤b6∧w.heap.size≤b4∧b4≠b6) ?_ ?_
 rotate_left
 ·repeat (first|refine aF ?_|refine yI λ bk w' hg a0 g0 l0=>?_)
  rename_i b3 w1 g1 k1 p1 m4 b4 w2 g2 k2 p2 i4;obtain ⟨b6,rfl⟩:=yE bk;have zg:=g1.size;refine TL.buildSlice rfl rfl rfl rfl rfl ?_;intro b' wa j0 h2 u3 t3 r3;have k4:Blk wa b4 79 nil3:=(k2.grow hg).grow j0;have k6:Blk wa b6 79 nil3:=a0.grow j0;have k3:Blk wa b3 79 x.cs:=((k1.grow g2).grow hg).grow j0;have e2:Grow w wa:=g1.trans (g2.trans (hg.trans j0));have q:w.heap.size≤b4∧w.heap.size≤b6∧b4≠b6∧b'≠b4∧b'≠b6∧w.heap.size≤b'∧b4<wa.heap.size∧b6<wa.heap.size:=by omega
  have hx:NdAt (λ k=>F k∧k≠b6∧k≠b4) wa x nd:=(q2.go (Carry.mono (λ k hk hl=>⟨hk,oM,oM⟩))).go (Carry.grow e2);have q1:Blk wa b' 79 x.cs:=h2;clear a0 hg j0 k1 k2 g1 g2 h2 g0 l0 p1 m4 p2 i4 u3 t3 zg;rcases o2 with ⟨h8,rfl,rfl⟩|⟨h8,rfl,rfl⟩
  ·have u5:¬ 8<x.n1+x.n2:=by unfold aT at h8;omega
   repeat (first|refine aF ?_|(refine aB 83 ?_;refine aA rfl (size_nd x _ oM oM) rfl ?_;rintro _ _ ⟨rfl,f0⟩))
   refine ⟨some ⟨b',0,none⟩,1,b4,b6,x.cs,none,0,0,(λ k=>F k∧k≠b6∧k≠b4),⟨rfl,rfl,rfl,rfl,trivial⟩,λ k hk=>hk,?_,⟨⟨x,rfl,rfl,rfl,hx.go (Carry.grow f0)⟩,trivial⟩,k6.grow f0,jG,k4.grow f0,e2.trans f0,q.2.1,q.1,q.2.2.1⟩;exact (aU (sz:=3) (m:=1) (q1.grow f0) rfl dM).mono (λ k hk=>by subst hk;exact ⟨u1 _ q.2.2.2.2.2.1,q.2.2.2.2.1,q.2.2.2.1⟩)
  ·have u5:8<x.n1+x.n2:=by unfold aT at h8;omega
   repeat (first|refine aF ?_|(refine aB 83 ?_;refine aA rfl (size_nd x _ oM oM) rfl ?_;rintro _ _ ⟨rfl,f0⟩))
   rename_i w4;have z4:=f0.size;refine aB 162 ?_;refine aA rfl (split_c (λ k=>F k∧k≠b6∧k≠b4) w4 (λ k hk=>⟨u1 k (by have:=e2.size;omega),oM,oM⟩) x nd (hx.go (Carry.grow f0)) h9 ?_ ?_) rfl ?_
   ·intro hl;rw [bL] at hl;unfold aT at h8;rw [hl] at h8;simp at h8;omega
   ·intro hl;obtain ⟨i1,i2⟩:=d5 hl;unfold aT at h8;rw [i1] at h8;simp at h8;omega
   rintro _ w5 ⟨⟨y,z,kv,rfl,hy,hz,a4⟩,h1⟩;obtain ⟨ka,kc,rfl,v0⟩:=a4.sl;have z5:=h1.size;have z0:=(e2.trans f0).trans h1;have x5:=z0.size;have kk:Carry (λ k=>F k∧k≠b6∧k≠b4) w5 (λ k=>(F k∧k≠b6∧k≠b4)∧k<w5.heap.size) w5:=Carry.mono (λ k hk hl=>⟨hk,hl⟩);replace hy:=hy.go kk;replace hz:=hz.go kk;have v0:=v0.go kk;have j4:=(k4.grow f0).grow h1;have j6:=(k6.grow f0).grow h1;clear f0 h1 k4 k6 k3 q1 hx kk a4;obtain ⟨q0,rfl⟩:=yE w5;repeat (first|refine aF ?_|refine yI λ bk w' hg a0 g0 l0=>?_|refine yJ λ w' hu a0 g0=>?_)
   rename_i b8 w8 g8 k8 p8 h4 w9 k9 p9 y5 u8 v5 f4;refine TL.buildSlice rfl rfl rfl rfl rfl ?_;intro bp wb f1 c4 q3 p3 o3;have e8:b8=q0.heap.size∧bk=q0.heap.size+1:=by omega
   have uu:Carry (λ k=>(F k∧k≠b6∧k≠b4)∧k<q0.heap.size) q0 (λ k=>(F k∧k≠b6∧k≠b4)∧k<q0.heap.size) wb :=
    (Carry.grow (g8.trans hg)).trans ((Carry.upd u8 (λ k hk _=>by omega)).trans ((Carry.upd hu (λ k hk _=>by omega)).trans (Carry.grow f1)))
   replace hy:=hy.go uu;replace hz:=hz.go uu;replace v0:=v0.go uu;have y0:Grow w wb:=(aH hu oM (aH u8 oM (z0.trans (g8.trans hg)))).trans f1;have j3:Blk wb b4 79 nil3:=((((j4.grow (g8.trans hg)).upd u8 oM).upd hu oM).grow f1)
   have i3:Blk wb b6 79 nil3:=((((j6.grow (g8.trans hg)).upd u8 oM).upd hu oM).grow f1)
   have o1:Blk wb bp 79 (y.cs++z.cs):=c4;have y1:bp≠b4∧bp≠b6∧w.heap.size≤bp:=by have:=hu.size;have:=u8.size;omega
   clear c4 q3 p3 o3 a0 hu f4 v5 u8 p9 p8 h4 k9 k8 g8 hg f1 uu j4 j6;repeat refine aF ?_
   refine TL.buildSlice rfl rfl rfl rfl rfl ?_;intro bq wq e1 r5 q3 p3 o3;have y2:Blk wq bq 30 [.slice ka (bV nd).2.2.length kc]:=r5;have r2:=y0.trans e1;have l4:=j3.lt;have l6:=i3.lt;have lq:=o1.lt;have j4:=j3.grow e1;have j6:=i3.grow e1;have jp:=o1.grow e1;repeat (first|refine aF ?_|refine yJ λ w' hu a0 g0=>?_)
   have o0:Carry (λ k=>(F k∧k≠b6∧k≠b4)∧k<q0.heap.size) wb (λ k=>F k∧k≠b6∧k≠b4) w' :=
    (Carry.grow e1).trans ((Carry.upd hu (λ k hk _=>hk.1.2.1)).trans (Carry.mono λ k hk _=>hk.1))
   have x1:w.heap.size≤bq∧bq≠b4∧bq≠b6:=by have:=y0.size;omega
   refine ⟨some ⟨bp,0,none⟩,2,b4,b6,y.cs++z.cs,some ⟨bq,0,none⟩,1,1,(λ k=>F k∧k≠b6∧k≠b4),⟨rfl,rfl,rfl,rfl,trivial⟩,λ k hk=>hk,?_,⟨⟨y,rfl,rfl,rfl,hy.go o0⟩,⟨z,rfl,rfl,rfl,hz.go o0⟩,trivial⟩,a0,⟨[.slice ka (bV nd).2.2.length kc],?_,⟨_,_,_,rfl,v0.go o0⟩,trivial⟩,j4.upd hu oM,aH hu q.2.1 r2,q.2.1,q.1,q.2.2.1⟩
   ·exact (aU (sz:=3) (m:=2) (jp.upd hu y1.2.1) rfl dM).mono (λ k hk=>by subst hk;exact ⟨u1 _ y1.2.2,y1.2.1,y1.1⟩)
   ·exact (aU (sz:=1) (m:=1) (y2.upd hu x1.2.2) rfl dM).mono (λ k hk=>by subst hk;exact ⟨u1 _ x1.1,x1.2.2,x1.2.1⟩)
 rintro e wC ⟨a,c,b4,b6,cells,a3,n3,c3,G,t0,hG,hs,h5,d4,n5,e4,f2,q6,q4,g4⟩;refine bD (e':=[(7,_),(6,_),(4,_),(0,_)]) ?_ t0;clear t0;have zC:=f2.size;have j5:k0.length≤2:=by rcases o2 with ⟨_,rfl,_⟩|⟨_,rfl,_⟩<;>simp
 obtain ⟨m,hm⟩:∃ m,m=k0.length:=⟨_,rfl⟩
 rw [← hm] at hs j5 ⊢;have l4:=e4.lt;have l6:=d4.lt;repeat refine aF ?_
 refine aX (S:=Nat×Pg×List Nat×List Nat×Value) (λ s=>[(34,.int .i64 (s.1:Int)),(33,.int .i64 (m:Int)),(32,.slice a m c),(6,.pointer (some ⟨b6,0,none⟩)),(4,.pointer (some ⟨b4,0,none⟩)),(0,.pointer (some ⟨L.p,0,none⟩))])
  (λ s w1=>s.1≤m∧eY s.2.1 (k0.drop s.1)=some (s.2.2.2.1,g')∧s.2.2.1++s.2.2.2.1=up.kids∧PgAt w1 L s.2.1∧TabAt w1∧w1.ownsRow wC.heap.size 3 1 s.2.2.2.2 s.1 (bC s.2.2.1)∧Blk w1 b6 79 [.slice none 0 0,s.2.2.2.2,.slice a3 n3 c3] ∧
   Blk w1 b4 79 nil3∧Carry G wC (λ k=>G k∧k<wC.heap.size) w1∧ButS L.S w w1) (λ s=>m-s.1) (0,g,[],up.kids,.slice none 0 0) ⟨rfl,rfl,rfl,rfl,rfl,rfl,trivial⟩
  ⟨by simp only;omega,hw,rfl,h.grow f2,ht.grow f2,World.ownsRow_nil _ _ _ _,d4,e4,Carry.mono (λ k hk hl=>⟨hk,hl⟩),ButS.grow f2⟩ ?_
 rintro ⟨i,gi,ki,ri,u⟩ w1 ⟨hi,s0,d2,j2,m3,e0,r1,f3,j1,m1⟩;simp only at hi s0 d2 j2 e0 r1;have z1:=j1.size;obtain ⟨ua,uc,rfl,u4⟩:=aM e0;by_cases l5:i<m;rotate_left
 ·obtain rfl:i=m:=by omega
  rw [List.drop_eq_nil_of_le oM] at s0;simp only [eY,Option.some.injEq,Prod.mk.injEq] at s0;obtain ⟨rfl,rfl⟩:=s0;rw [List.append_nil] at d2;subst d2;repeat (first|refine aF ?_|refine yJ λ w' hu a0 g0=>?_)
  refine fL rfl (aW a0 rfl) rfl ⟨_,rfl,⟨⟨none,0,0,ua,i,uc,a3,n3,c3⟩,rfl,?_⟩,j2.upd hu ?_,m1.upd hu q4⟩
  ·rw [v4];have hk:=n5.go j1;refine ⟨jZ,?_,?_⟩
   ·refine (u4.mono ?_).go (Carry.upd (F:=λ k=>F k∧wC.heap.size≤k) hu (λ k hk _=>by omega)) |>.mono (λ k hk=>hk.1);exact λ k hk=>⟨u1 k oM,hk.1⟩
   ·exact (hk.go (Carry.upd hu (λ k hk _=>(hG k hk.1).2.2))).go (Carry.mono λ k hk _=>(hG k hk.1).1)
  ·have:=h.lts;omega
 ·obtain ⟨nd0,n0⟩:∃ y,k0[i]? = some y:=⟨_,List.getElem?_eq_getElem oM⟩
  rw [List.drop_eq_getElem_cons oM,show k0[i]'(by omega)=nd0 from (List.getElem?_eq_some_iff.1 n0).2] at s0;obtain ⟨pg,s1,l1,t4,s4,rfl⟩:=kC s0;obtain ⟨y3,g5⟩:=gJ t4;obtain ⟨x0,o4,r4⟩:=h5.at' n0;have x3:=hs.go j1;have p4:=NdAt.go r4 j1;repeat (first|refine aC rfl rfl rfl l5 rfl ⟨_,_,x3⟩ rfl ?_|refine dJ rfl x3 o4 rfl rfl ?_|refine yC ?_|refine yI λ bk w' hg a0 g0 l0=>?_|refine yJ λ w' hu a0 g0=>?_)
  have i0:Grow w1 w':=aH hu oM hg;have n6:=g3 b6 q6;have n4:=g3 b4 q4;refine aB 84 ?_;refine aA rfl (write_c (j2.grow i0) (m3.grow i0) _ x0 nd0 (p4.go (Carry.grow i0)) y3 (λ b hb=>lO y3 (q5 nd0 (List.mem_of_getElem? n0)) b hb) pg g5) rfl ?_;rintro _ w3 ⟨rfl,f5,p0⟩;have z3:=p0.size;have zg:=i0.size;have z2:=bX (r1.grow i0) p0 n6;have d3:=bX (f3.grow i0) p0 n4;have u0:w3.ownsRow wC.heap.size 3 1 _ i (bC ki):=cB (aO e0 i0) (λ k hk hv=>p0.block k (Nat.lt_of_lt_of_le (aR e0 hv).2 zg) (g3 k oM));have p5:∀ k,G k→k<wC.heap.size→w3.heap[k]? = wC.heap[k]?:=λ k hk hl=>(p0.block k oM (t5 k (hG k hk).1)).trans ((i0.block k oM).trans (j1.blk k hk hl).2);have x2:=(m1.trans (ButS.grow i0)).trans p0;have x4:TabAt w3:=(m3.grow i0).buts p0 h0;clear a0 hu hg g0 l0;repeat refine aF ?_
  refine TL.buildSlice rfl rfl rfl rfl rfl ?_;intro b' wa j0 h2 u3 t3 r3;have c5:Sl (λ _=>True) wa 1 (some ⟨b',0,none⟩) 1 1 (bC [pg]):=(aU (sz:=1) (m:=1) h2 r3 dM).mono (λ _ _=>trivial);have o5:=j0.size;refine TL.append rfl rfl (aO u0 j0) c5 (gC [pg]) (by unfold maxLen;omega) oM oM rfl ?_;intro v' wb m0 u2 _;have zb:=u2.size;have h3:∀ k,k<wC.heap.size→wb.heap[k]? = w3.heap[k]?:=λ k hk=>(u2.block k oM (λ e=>by have:=(aR e0 e.symm).1;omega)).trans (j0.block k oM);have s5:=cJ z2 (h3 b6 l6);obtain ⟨va,vc,rfl,a6⟩:=aM m0;repeat (first|refine aF ?_|refine yJ λ w' hu a0 g0=>?_)
  have kp:∀ k,k<wC.heap.size→k≠b6→w'.heap[k]? = w3.heap[k]?:=λ k hk m5=>(hu.block k m5).trans (h3 k hk);have k5:=h.lts;have y4:=ht.1;refine aE (i+1,s1,ki++[pg],l1,.slice va (i+1) vc) ⟨rfl,rfl,rfl,rfl,rfl,rfl,trivial⟩ ⟨by simp only;omega,s4,by simpa using d2,f5.keep (λ b hb=>kp b oM oM),x4.keep (kp 0 oM oM) oM,?_,a0,cJ d3 (kp b4 l4 g4),⟨oM,λ k hk hl=>⟨⟨hk,hl⟩,(kp k hl (hG k hk).2.1).trans (p5 k hk hl)⟩⟩,?_⟩ (by simp only;omega)
  ·have:=fZ m0 hu l6;simpa [bC] using this
  ·exact ((x2.trans (ButS.grow j0)).own u2 (λ k hk=>(aR e0 hk).1) oM).upd hu q6
def FrCells (F:Nat→Prop) (w:World):List Value→List (Nd×Nat)→Prop
 | [],[]=>True
 | v1::v2::v3::v4::cs,f::l=>(∃ x:NV,v1=x.v1∧v2=x.v2∧v3=x.v3∧v4=.int .i64 (f.2:Int)∧NdAt F w x f.1)∧FrCells F w cs l
 | _,_=>False
theorem FrCells.go {F F':Nat→Prop} {w w':World} (g:Carry F w F' w'):∀ {cs:List Value} {l:List (Nd×Nat)},FrCells F w cs l→FrCells F' w' cs l
 | [],[],_=>trivial
 | [],_::_,h=>h.elim
 | [_],[],h=>h.elim
 | [_,_],[],h=>h.elim
 | [_,_,_],[],h=>h.elim
 | _::_::_::_::_,[],h=>h.elim
 | [_],_::_,h=>h.elim
 | [_,_],_::_,h=>h.elim
 | [_,_,_],_::_,h=>h.elim
 | _::_::_::_::_,_::_,⟨⟨x,h1,h2,h3,h4,h5⟩,h6⟩=>⟨⟨x,h1,h2,h3,h4,h5.go g⟩,FrCells.go g h6⟩
theorem FrCells.snoc {F:Nat→Prop} {w:World} {x:NV} {f:Nd×Nat} (hx:NdAt F w x f.1):∀ {cs:List Value} {l:List (Nd×Nat)},FrCells F w cs l→FrCells F w (cs++[x.v1,x.v2,x.v3,.int .i64 (f.2:Int)]) (l++[f])
 | [],[],_=>⟨⟨x,rfl,rfl,rfl,rfl,hx⟩,trivial⟩
 | [],_::_,h=>h.elim
 | [_],[],h=>h.elim
 | [_,_],[],h=>h.elim
 | [_,_,_],[],h=>h.elim
 | _::_::_::_::_,[],h=>h.elim
 | [_],_::_,h=>h.elim
 | [_,_],_::_,h=>h.elim
 | [_,_,_],_::_,h=>h.elim
 | _::_::_::_::_,_::_,⟨h5,h6⟩=>⟨h5,FrCells.snoc hx h6⟩
theorem FrCells.len {F:Nat→Prop} {w:World}:∀ {cs:List Value} {l:List (Nd×Nat)},FrCells F w cs l→cs.length=l.length*4
 | [],[],_=>rfl
 | [],_::_,h=>h.elim
 | [_],[],h=>h.elim
 | [_,_],[],h=>h.elim
 | [_,_,_],[],h=>h.elim
 | _::_::_::_::_,[],h=>h.elim
 | [_],_::_,h=>h.elim
 | [_,_],_::_,h=>h.elim
 | [_,_,_],_::_,h=>h.elim
 | _::_::_::_::_,_::_,⟨h5,h6⟩=>by have:=FrCells.len h6;simp only [List.length_cons];omega
theorem FrCells.at' {F:Nat→Prop} {w:World}:∀ {l:List (Nd×Nat)} {cs:List Value} {i:Nat} {f:Nd×Nat},FrCells F w cs l→l[i]? = some f→∃ x:NV,(cs.drop (i*4)).take 4=[x.v1,x.v2,x.v3,.int .i64 (f.2:Int)]∧NdAt F w x f.1
 | [],_,i,nd,_,hx=>by simp at hx
 | _::_,[],_,_,h,_=>h.elim
 | _::_,[_],_,_,h,_=>h.elim
 | _::_,[_,_],_,_,h,_=>h.elim
 | _::_,[_,_,_],_,_,h,_=>h.elim
 | y::l,v1::v2::v3::v4::cs,0,f,⟨⟨x,h1,h2,h3,h4,h5⟩,_⟩,hx=>by
  simp only [List.getElem?_cons_zero,Option.some.injEq] at hx;subst hx;subst h1 h2 h3 h4;exact ⟨x,rfl,h5⟩
 | y::l,v1::v2::v3::v4::cs,i+1,f,⟨_,h⟩,hx=>by
  obtain ⟨x,h1,h2⟩:=FrCells.at' h (by simpa using hx);refine ⟨x,?_,h2⟩;rw [show (i+1)*4=i*4+1+1+1+1 by omega];simpa using h1
theorem ret3 {P:Program} {e:dI} {w:World} {s t u:Nat} {v x y:Value} {R:Ending→World→Prop} (h:find e s=some v) (h':find e t=some x) (h2:find e u=some y) (hR:R (.returned (.tuple #[v,x,y])) w):retQ P [.tmp s,.tmp t,.tmp u] R .ret e w :=
 eF (vs:=[v,x,y]) ⟨v,[x,y],rfl,h,x,[y],rfl,h',y,[],rfl,h2,rfl⟩ rfl hR
theorem eV {s:Pg} {key:Bs} {f n:Nat} {fr:List (Nd×Nat)} {th:Bool} (h:jK s key f n=some (fr,th)):∃ f' nd,f=f'+1∧cD s n=some nd ∧
  ((bN nd=true∧fr=[(nd,dP nd.items key)]∧th=fP nd.items key)∨(bN nd=false∧∃ k r,nd.kids[fW nd.keys key]? = some k∧jK s key f' k=some (r,th)∧fr=(nd,fW nd.keys key)::r)):=by
 cases f with
 | zero=>cases h
 | succ f =>
  unfold jK at h;split at h
  ·cases h
  ·rename_i nd a0;refine ⟨f,nd,rfl,a0,?_⟩;split at h
   ·rename_i hl;simp only [Option.some.injEq,Prod.mk.injEq] at h;exact .inl ⟨hl,h.1.symm,h.2.symm⟩
   ·rename_i hl;split at h
    ·cases h
    ·rename_i k hk;split at h
     ·cases h
     ·rename_i r e0 hr;simp only [Option.some.injEq,Prod.mk.injEq] at h;obtain ⟨rfl,rfl⟩:=h;exact .inr ⟨by simpa using hl,k,r,hk,hr,rfl⟩
theorem path_c {w:World} {L:PL} {g:Pg} (h:PgAt w L g) (K:Nat→Prop) (a:Option Addr) (m c n:Nat) (key:Bs) (fr:List (Nd×Nat)) (th:Bool) (hk:Sl K w 1 a m c (bB key)) (hp:jK g key 16 n=some (fr,th)) :
  Calls Tryz.prog 78 #[.pointer (some ⟨L.p,0,none⟩),.int .i64 (n:Int),.slice a m c] w (Ret λ v w'=>(∃ (b:Option Addr) (d:Nat) (cs:List Value),v=.tuple #[.slice b fr.length d,.bool th,.int .i64 0]∧Sl (λ k=>w.heap.size≤k) w' 4 b fr.length d cs∧FrCells (λ k=>w.heap.size≤k) w' cs fr)∧Grow w w'):=by
 refine V.calls (args:=[_,_,_]) Tryz.func78 rfl Tryz.ntmps78 rfl rfl ?_;repeat refine aF ?_
 refine aX (S:=Nat×Nat×Value×List Value×List (Nd×Nat)×List (Nd×Nat)) (λ s=>[(10,.int .i64 (s.2.1:Int)),(9,s.2.2.1),(2,.slice a m c),(0,.pointer (some ⟨L.p,0,none⟩))])
  (λ s w1=>s.1≤16∧jK g key (16-s.1) s.2.1=some (s.2.2.2.2.2,th)∧s.2.2.2.2.1++s.2.2.2.2.2=fr∧s.2.2.2.2.1.length=s.1∧w1.ownsRow w.heap.size 143 4 s.2.2.1 s.1 s.2.2.2.1∧FrCells (λ k=>w.heap.size≤k∧s.2.2.1.ownBlock≠some k) w1 s.2.2.2.1 s.2.2.2.2.1∧Grow w w1)
  (λ s=>16-s.1) (0,n,.slice none 0 0,[],[],fr) ⟨rfl,rfl,rfl,rfl,trivial⟩ ⟨by simp only;omega,hp,rfl,rfl,World.ownsRow_nil _ _ _ _,trivial,Grow.refl _⟩ ?_
 rintro ⟨i,n,u,cs,dn,rs⟩ w1 ⟨hi,g2,s1,x1,m0,u1,r1⟩;simp only at hi g2 s1 x1 m0 u1;obtain ⟨f',nd,hf,t0,u2⟩:=eV g2;have x2:i<16:=by omega
 have hu:=dL t0;have d3:=dV hu;have j3:=h.cnt;have h2:=fB t0;have r2:fX (g.body n)=some nd:=by unfold cD at t0;rw [if_pos hu] at t0;exact t0
 obtain ⟨ua,uc,rfl,z2⟩:=aM m0;have z1:=r1.size;repeat refine aF ?_
 refine aB 127 ?_;refine aA rfl (node_c (h.grow r1) n oM hu) rfl ?_;rintro _ w3 ⟨hv,h1⟩;rw [r2] at hv;obtain ⟨x,rfl,f1⟩:=hv;have g3:=f1.its.len;have f3:=bR f1.kids;have z3:=h1.size;have z0:=u1.go (Carry.grow h1);have f0:=aO m0 h1;have u0:NdAt (λ k=>w.heap.size≤k∧(Value.slice ua i uc).ownBlock≠some k) w3 x nd:=f1.go (Carry.mono λ k hk _=>⟨oM,λ e=>by have:=(aR m0 e).2;omega⟩);have kk:Carry (λ k=>w.heap.size≤k∧(Value.slice ua i uc).ownBlock≠some k) w3 (λ k=>(w.heap.size≤k∧(Value.slice ua i uc).ownBlock≠some k)∧k<w3.heap.size) w3:=Carry.mono λ k hk hl=>⟨hk,hl⟩
 have y0:=z0.go kk;have a0:=u0.go kk;have x0:=r1.trans h1;clear z0 u0 f1 kk u1;obtain ⟨j0,rfl⟩:=yE w3;rcases u2 with ⟨hl,rfl,rfl⟩|⟨hl,k,r,v0,s2,rfl⟩
 ·repeat (first|refine aF ?_|refine yI λ bk w' hg e1 m1 j1=>?_|refine yJ λ w' hu e1 m1=>?_|(refine aB 80 ?_;refine aA rfl (eX a0 hl _) rfl ?_;rintro _ _ ⟨rfl,n0⟩))
  rename_i w4;have cc:Carry (λ k=>(w.heap.size≤k∧(Value.slice ua i uc).ownBlock≠some k)∧k<j0.heap.size) j0 (λ k=>(w.heap.size≤k∧(Value.slice ua i uc).ownBlock≠some k)∧k<j0.heap.size) w4:=(Carry.grow hg).trans ((Carry.upd hu (λ k hk _=>by omega)).trans (Carry.grow n0));have g0:Grow w w4:=(aH hu oM (x0.trans hg)).trans n0;have k0:=aO (cB (w':=w') (aO f0 hg) (λ k hk hv=>hu.block k (by have:=(aR f0 hv).2;omega))) n0;refine aB 149 ?_;refine aA rfl (find_c _ _ x nd a m c key _ (a0.go cc) (hk.grow g0) h2 hl) rfl ?_;rintro _ w5 ⟨rfl,i0⟩;have q0:Blk w5 bk 79 x.cs:=(Blk.grow n0 e1).grow i0;repeat refine aF ?_
  refine TL.buildSlice rfl rfl rfl rfl rfl ?_;intro b' wa l0 d2 q2 o2 j2;have s0:Blk wa b' 143 [x.v1,x.v2,x.v3,.int .i64 (dP nd.items key:Int)]:=d2;have o1:Sl (λ _=>True) wa 4 (some ⟨b',0,none⟩) 1 1 [x.v1,x.v2,x.v3,.int .i64 (dP nd.items key:Int)]:=(aU (sz:=4) (m:=1) s0 rfl dM).mono (λ _ _=>trivial);have z4:=g0.size;have z5:=i0.size;have za:=l0.size;have e0:=aO (aO k0 i0) l0;refine dO (bytes:=80) rfl rfl e0 o1 (by intro u hu;simp only [List.mem_cons,List.not_mem_nil,or_false] at hu;rcases hu with rfl|rfl|rfl|rfl<;>rfl) (by unfold maxLen;omega) oM oM rfl ?_;intro v' wb h0 g1 y1;have o0:Grow w wb:=Grow.mk (aL g1 oM (λ k hk=>(aR e0 hk).1) ((g0.trans i0).trans l0).1)
  have cb:Carry (λ k=>(w.heap.size≤k∧(Value.slice ua i uc).ownBlock≠some k)∧k<j0.heap.size) j0 (λ k=>w.heap.size≤k∧v'.ownBlock≠some k) wb :=
   (cc.trans (Carry.grow (i0.trans l0))).trans ((Carry.mono (λ k hk _=>⟨⟨hk.1.1,hk.2⟩,hk.1.2⟩)).trans ((y1 (λ k=>w.heap.size≤k∧k<j0.heap.size)).trans (Carry.mono λ k hk _=>⟨hk.1.1,hk.2⟩)))
  have p0:=FrCells.snoc (f:=(nd,dP nd.items key)) (a0.go cb) (y0.go cb);have q1:=a0.go (cc.trans (Carry.grow i0));obtain ⟨va,vc,rfl,e2⟩:=aM h0;repeat refine aF ?_
  subst s1;have w2:(dn++[(nd,dP nd.items key)]).length=i+1:=by rw [List.length_append,x1];rfl
  rw [w2];exact ret3 rfl rfl rfl ⟨_,rfl,⟨va,vc,_,rfl,e2.mono (λ k hk=>hk.1),p0.go (Carry.mono λ k hk _=>hk.1)⟩,o0⟩
 ·have h3:=(List.getElem?_eq_some_iff.1 v0).1;repeat (first|refine aF ?_|refine yI λ bk w' hg e1 m1 j1=>?_|refine yJ λ w' hu e1 m1=>?_|(refine aB 80 ?_;refine aA rfl (eX a0 hl _) rfl ?_;rintro _ _ ⟨rfl,n0⟩))
  rename_i w4;have cc:Carry (λ k=>(w.heap.size≤k∧(Value.slice ua i uc).ownBlock≠some k)∧k<j0.heap.size) j0 (λ k=>(w.heap.size≤k∧(Value.slice ua i uc).ownBlock≠some k)∧k<j0.heap.size) w4:=(Carry.grow hg).trans ((Carry.upd hu (λ k hk _=>by omega)).trans (Carry.grow n0));have g0:Grow w w4:=(aH hu oM (x0.trans hg)).trans n0;have k0:=aO (cB (w':=w') (aO f0 hg) (λ k hk hv=>hu.block k (by have:=(aR f0 hv).2;omega))) n0;refine aB 150 ?_;refine aA rfl (kid_c _ _ x nd a m c key _ (a0.go cc) (hk.grow g0) h2 hl) rfl ?_;rintro _ w5 ⟨rfl,i0⟩;have q0:Blk w5 bk 79 x.cs:=(Blk.grow n0 e1).grow i0;repeat refine aF ?_
  refine TL.buildSlice rfl rfl rfl rfl rfl ?_;intro b' wa l0 d2 q2 o2 j2;have s0:Blk wa b' 143 [x.v1,x.v2,x.v3,.int .i64 (fW nd.keys key:Int)]:=d2;have o1:Sl (λ _=>True) wa 4 (some ⟨b',0,none⟩) 1 1 [x.v1,x.v2,x.v3,.int .i64 (fW nd.keys key:Int)]:=(aU (sz:=4) (m:=1) s0 rfl dM).mono (λ _ _=>trivial);have z4:=g0.size;have z5:=i0.size;have za:=l0.size;have e0:=aO (aO k0 i0) l0;refine dO (bytes:=80) rfl rfl e0 o1 (by intro u hu;simp only [List.mem_cons,List.not_mem_nil,or_false] at hu;rcases hu with rfl|rfl|rfl|rfl<;>rfl) (by unfold maxLen;omega) oM oM rfl ?_;intro v' wb h0 g1 y1;have o0:Grow w wb:=Grow.mk (aL g1 oM (λ k hk=>(aR e0 hk).1) ((g0.trans i0).trans l0).1)
  have cb:Carry (λ k=>(w.heap.size≤k∧(Value.slice ua i uc).ownBlock≠some k)∧k<j0.heap.size) j0 (λ k=>w.heap.size≤k∧v'.ownBlock≠some k) wb :=
   (cc.trans (Carry.grow (i0.trans l0))).trans ((Carry.mono (λ k hk _=>⟨⟨hk.1.1,hk.2⟩,hk.1.2⟩)).trans ((y1 (λ k=>w.heap.size≤k∧k<j0.heap.size)).trans (Carry.mono λ k hk _=>⟨hk.1.1,hk.2⟩)))
  have p0:=FrCells.snoc (f:=(nd,fW nd.keys key)) (a0.go cb) (y0.go cb);have q1:=a0.go (cc.trans (Carry.grow i0));obtain ⟨va,vc,rfl,e2⟩:=aM h0;have y2:=cJ (q0.grow l0) (g1.block bk (by have:=(q0.grow l0).lt;omega) (λ e=>by have:=(aR f0 e.symm).2;omega));have f2:=(a0.go cb).kids;have i3:wb.cell? (at' x.a2 (fW nd.keys key))=some (.int .i64 (k:Int)):=f2.row.cell (by rw [show bC nd.kids=nd.kids.map λ (k:Nat)=>(.int .i64 (k:Int):Value) from rfl,List.getElem?_map,v0];rfl);repeat (first|(refine aI ?_;refine aC (j:=fW nd.keys key) rfl rfl rfl oM (Nat.mul_one _) ⟨_,_,f2⟩ rfl ?_)|refine yC ?_)
  refine aE (i+1,k,.slice va (i+1) vc,_,dn++[(nd,fW nd.keys key)],r) ⟨rfl,rfl,rfl,rfl,trivial⟩ ⟨by simp only;omega,?_,by simpa using s1,by simp [x1],h0,p0,o0⟩ (by simp only;omega);rw [show 16-(i+1)=f' by omega];exact s2
theorem retCC {P:Program} {e:dI} {w:World} {s t s2 t2:Nat} {p p2:Addr} {v v2:Value} {R:Ending→World→Prop} (h:find e s=some (.pointer (some p))) (hl:(loadVar t p).run P w=.ok v w) (h':find e s2=some (.pointer (some p2))) (a0:(loadVar t2 p2).run P w=.ok v2 w) (hR:R (.returned (.tuple #[v,v2])) w):retQ P [.cell s t,.cell s2 t2] R .ret e w :=
 eF (vs:=[v,v2]) ⟨v,[v2],rfl,⟨p,h,hl⟩,v2,[],rfl,⟨p2,h',a0⟩,rfl⟩ rfl hR
theorem kG {P:Program} {t bt:TypeId} {w:World} {b:Nat} {v:Value} [ht:One P t] (hb:Blk w b bt [v]):(loadVar t ⟨b,0,none⟩).run P w=.ok v w:=run_loadVar_one ht (hb.cell rfl)
def dS:Option Nat→Int
 | none=>-1
 | some n=>n
theorem putP_some {s s':Pg} {n r:Nat} {key v:Bs} (h:putP s (some n) key v=some (r,s')):∃ fr th up s1,jK s key 16 n=some (fr,th)∧mI (key,v) th fr s=some (up,s1)∧((up.kids=[r]∧s1=s')∨(up.kids.length≠1∧gV s1 up=some (r,s'))):=by
 unfold putP at h;simp only at h;split at h
 ·cases h
 ·rename_i fr th e1;split at h
  ·cases h
  ·rename_i up s1 e2;refine ⟨fr,th,up,s1,e1,e2,?_⟩;split at h
   ·rename_i k hk;simp only [Option.some.injEq,Prod.mk.injEq] at h;exact .inl ⟨by rw [hk,h.1],h.2⟩
   ·rename_i hk;refine .inr ⟨λ hl=>?_,h⟩
    match hkk:up.kids,hl with
    | [k],_=>exact hk k hkk
theorem putUp_cons {item:Bs×Bs} {th:Bool} {f:Nd×Nat} {r:List (Nd×Nat)} {s s2:Pg} {a0:Nd} (h:mI item th (f::r) s=some (a0,s2)):∃ up s1,mI item th r s=some (up,s1)∧storeP s1 (cP f.1 f.2 up item th)=some (a0,s2):=by
 unfold mI at h;split at h
 ·cases h
 ·rename_i up s1 e;exact ⟨up,s1,e,h⟩
structure UpOk (up:Nd):Prop where
 items:up.items=[]
 len:up.kids=[]∨up.kids.length=up.keys.length+1
 two:up.kids.length≤2
 ks:up.keys.length≤2
 by':NdB up
theorem writeAll_len {s s2:Pg}:∀ {l:List Nd} {s:Pg} {ks:List Nat},eY s l=some (ks,s2)→ks.length=l.length
 | [],s,ks,h=>by simp only [eY,Option.some.injEq,Prod.mk.injEq] at h;rw [← h.1];rfl
 | x::l,s,ks,h=>by
  obtain ⟨p,s1,l1,h1,h2,rfl⟩:=kC h;simp [writeAll_len (s:=s) h2]
theorem storeP_up {s s':Pg} {n up:Nd} (h:storeP s n=some (up,s')) (hb:NdB n):UpOk up∧up.kids.length=up.keys.length+1:=by
 obtain ⟨a0,ks,h1,h2,h3⟩:=storeP_parts h;have hl:=writeAll_len (s:=s) h1;have hk:up.keys=ks:=by rw [h2]
 obtain ⟨_,_,b3⟩:=splitN_by hb;have hi:up.items=[]:=by rw [h2]
 rcases h3 with ⟨_,rfl,rfl⟩|⟨_,rfl,rfl⟩
 ·refine ⟨⟨hi,.inr (by rw [hl,hk];rfl),by rw [hl];simp,by rw [hk];simp,⟨by rw [hi];simp,by rw [hk];simp⟩⟩,by rw [hl,hk];rfl⟩
 ·refine ⟨⟨hi,.inr (by rw [hl,hk];rfl),by rw [hl];simp,by rw [hk];simp,⟨by rw [hi];simp,by rw [hk];intro k hk;simp only [List.mem_singleton] at hk;subst hk;exact b3⟩⟩,by rw [hl,hk];rfl⟩
structure FrOk (g:Pg) (th:Bool) (f:Nd×Nat):Prop where
 ok:bF f.1=true
 by':NdB f.1
 leaf:bN f.1=true→f.2≤f.1.items.length∧(th=true→f.2<f.1.items.length)
 kid:bN f.1=false→f.2<f.1.kids.length
theorem findN_le (l:bT) (key:Bs):dP l key≤l.length:=dX _ l
theorem pathP_frames {s:Pg} (hs:PgB s) {key:Bs} {th:Bool}:∀ {f n:Nat} {fr:List (Nd×Nat)},jK s key f n=some (fr,th)→∀ x∈fr,FrOk s th x
 | f,n,fr,h,x,hx=>by
  obtain ⟨f',nd,rfl,hn,hor⟩:=eV h;rcases hor with ⟨hl,rfl,rfl⟩|⟨hl,k,r,hk,hr,rfl⟩
  ·simp only [List.mem_singleton] at hx;subst hx;refine ⟨fB hn,nodeP_by hs hn,λ _=>⟨findN_le _ _,λ ht=>?_⟩,λ h=>by rw [hl] at h;cases h⟩;unfold fP at ht;simp only
   cases e:nd.items[dP nd.items key]? with
   | none=>rw [e] at ht;cases ht
   | some y=>exact (List.getElem?_eq_some_iff.1 e).1
  ·rcases List.mem_cons.1 hx with rfl|hx
   ·exact ⟨fB hn,nodeP_by hs hn,λ h=>(by rw [hl] at h;cases h),λ _=>(List.getElem?_eq_some_iff.1 hk).1⟩
   ·exact pathP_frames hs hr x hx
theorem pathP_len {s:Pg} {key:Bs} {th:Bool}:∀ {f n:Nat} {fr:List (Nd×Nat)},jK s key f n=some (fr,th)→fr.length≤f
 | f,n,fr,h=>by
  obtain ⟨f',nd,rfl,hn,hor⟩:=eV h;rcases hor with ⟨hl,rfl,rfl⟩|⟨hl,k,r,hk,hr,rfl⟩
  ·simp
  ·have:=pathP_len hr;simp only [List.length_cons];omega
theorem pathP_last {s:Pg} {key:Bs} {th:Bool}:∀ {f n:Nat} {fr:List (Nd×Nat)},jK s key f n=some (fr,th)→∀ i x,fr[i]? = some x→bN x.1=false→i+1<fr.length
 | f,n,fr,h,i,x,hi,hx=>by
  obtain ⟨f',nd,rfl,hn,hor⟩:=eV h;rcases hor with ⟨hl,rfl,rfl⟩|⟨hl,k,r,hk,hr,rfl⟩
  ·cases i with
   | zero=>simp only [List.getElem?_cons_zero,Option.some.injEq] at hi;subst hi;rw [hl] at hx;cases hx
   | succ i=>simp at hi
  ·cases i with
   | zero =>
    have:r≠[]:=by
     obtain ⟨_,_,_,_,a0⟩:=eV hr;rcases a0 with ⟨_,rfl,_⟩|⟨_,_,_,_,_,rfl⟩<;>simp
    cases r with
    | nil=>exact absurd rfl this
    | cons a b=>simp
   | succ i =>
    have:=pathP_last hr i x (by simpa using hi) hx;simp only [List.length_cons];omega
theorem putUp_suffix {item:Bs×Bs} {th:Bool} {s:Pg}:∀ {l:List (Nd×Nat)} {up:Nd} {s1:Pg},mI item th l s=some (up,s1)→∀ k,∃ up' s',mI item th (l.drop k) s=some (up',s')
 | [],up,s1,h,k=>by rw [List.drop_nil];exact ⟨up,s1,h⟩
 | f::r,up,s1,h,0=>⟨up,s1,h⟩
 | f::r,up,s1,h,k+1=>by
  obtain ⟨u,s2,h2,_⟩:=putUp_cons h;exact putUp_suffix h2 k
theorem putNode_shape {g:Pg} {th:Bool} {f:Nd×Nat} {up:Nd} {item:Bs×Bs} (hf:FrOk g th f) (hu:UpOk up) (hb:bN f.1=false→up.kids.length=up.keys.length+1) :
  aT (cP f.1 f.2 up item th)≤1000∧(bN (cP f.1 f.2 up item th)=false→(cP f.1 f.2 up item th).items=[]∧(cP f.1 f.2 up item th).keys.length+1=(cP f.1 f.2 up item th).kids.length):=by
 have e0:=hf.ok;unfold bF at e0;have h2:=hu.two;unfold cP;split at e0
 ·rename_i hl;obtain ⟨h1,h8,_⟩:=dG e0;have a0:=bL.1 hl;obtain ⟨h0,g0⟩:=hf.leaf hl;rw [if_pos hl]
  cases th with
  | true =>
   have:=g0 rfl;refine ⟨?_,λ h=>?_⟩
   ·simp only [if_true,aT,a0,List.length_nil,Nat.add_zero];rw [mL (by rw [kK oM oM];omega),kK oM oM];simp;omega
   ·simp [bN,a0] at h
  | false =>
   refine ⟨?_,λ h=>?_⟩
   ·simp only [Bool.false_eq_true,if_false,aT,a0,List.length_nil,Nat.add_zero];rw [mL h0];simp;omega
   ·simp [bN,a0] at h
 ·rename_i hl;have f0:bN f.1=false:=by simpa using hl
  obtain ⟨h1,j0,h8,h4,_,_⟩:=cO e0;have hk:=hf.kid f0;have i0:=hb f0;rw [if_neg hl]
  have e1:(hY (dT f.1.kids f.2 (f.2+1)) f.2 up.kids).length=f.1.kids.length-(f.2+1-f.2)+up.kids.length:=by
   rw [mL (by rw [kK oM oM];omega),kK oM oM]
  have e2:(hY f.1.keys f.2 up.keys).length=f.1.keys.length+up.keys.length:=mL oM;refine ⟨?_,λ _=>⟨h1,?_⟩⟩
  ·simp only [aT,e1,h1,List.length_nil];omega
  ·simp only [e1,e2];omega
theorem put_c {w:World} {L:PL} {g g':Pg} (h:PgAt w L g) (ht:TabAt w) (h0:¬ L.S 0) (s0:Option Nat) (a a':Option Addr) (m c m' c':Nat) (key v:Bs) (hk:Sl (λ k=>¬ L.S k) w 1 a m c (bB key)) (hv:Sl (λ k=>¬ L.S k) w 1 a' m' c' (bB v)) (ac:dW key=true) (e9:eR v=true) (u7:fK key) (l7:fK v) (h9:32≤cC g) (n':Nat) (f3:putP g s0 key v=some (n',g')) :
  Calls Tryz.prog 25 #[.pointer (some ⟨L.p,0,none⟩),.int .i64 (dS s0),.slice a m c,.slice a' m' c'] w (Ret λ u w'=>u=.tuple #[.int .i64 (n':Int),.int .i64 0]∧PgAt w' L g'∧ButS L.S w w'):=by
 have x1:∀ k,w.heap.size≤k→¬ L.S k:=λ k hk=>by have:=h.lts;unfold PL.S;omega
 have n7 : -1≤dS s0∧dS s0≤9223372036854775807:=by
  cases s0 with
  | none=>show (-1:Int)≤-1∧(-1:Int)≤_;omega
  | some n =>
   obtain ⟨fr,th,up,s1,hp,_⟩:=putP_some f3;obtain ⟨_,_,_,hn,_⟩:=eV hp;have:=dV (dL hn);have:=h.cnt;show (-1:Int)≤(n:Int)∧(n:Int)≤_;omega
 refine V.calls (args:=[_,_,_,_]) Tryz.func25 rfl Tryz.ntmps25 rfl rfl ?_;repeat (first|refine aF ?_|refine yI λ bk w' hg e0 f0 g0=>?_)
 rename_i b4 w1 g1 k1 p1 s8 b8 w2 g2 k2 p2 p8;obtain ⟨b9,rfl⟩:=yE bk;refine aB 77 ?_;have q4:Grow w w':=g1.trans (g2.trans hg);refine aA rfl (tready_c (h.grow q4) _ n7.1 n7.2 _ _ a a' m c m' c' key v (hk.grow q4) (hv.grow q4) ac e9 h9) rfl ?_;rintro _ w4 ⟨rfl,p4⟩;have k4:=(k1.grow (g2.trans hg)).grow p4;have k8:=(k2.grow hg).grow p4;have k9:=e0.grow p4;have p6:=q4.trans p4;have q:b4=w.heap.size∧b8=b4+1∧b9=b8+1∧b9<w4.heap.size:=by have:=k9.lt;omega
 clear e0 hg q4 p4 k1 k2 g1 g2 f0 g0 p1 s8 p2 p8
 cases s0 with
 | none =>
  obtain ⟨u0,z5⟩:=gJ (show gV g ⟨[(key,v)],[],[]⟩=some (n',g') from f3);repeat (first|refine aF ?_|refine yI λ bk w' hg e0 f0 g0=>?_|refine yJ λ w' hu e0 f0=>?_)
  refine TL.buildSlice rfl rfl rfl rfl rfl ?_;intro b' wa n0 m3 v5 u5 t5;have v0:Blk wa b' 58 [.slice a m c,.slice a' m' c']:=m3;have j0:Grow w w':=aH hu oM (p6.trans hg);have j1:=j0.trans n0;have zw:=j0.size;have i4:=((k4.grow hg).upd hu oM).grow n0;have i8:=((k8.grow hg).upd hu oM).grow n0;have i9:=((k9.grow hg).upd hu oM).grow n0;clear e0 m3 n0 hu hg j0 k4 k8 k9;repeat refine aF ?_
  have t9:NdAt (λ k=>¬ L.S k) wa ⟨some ⟨b',0,none⟩,1,1,none,0,0,none,0,0⟩ ⟨[(key,v)],[],[]⟩ :=
   ⟨⟨_,(aU (sz:=2) (m:=1) v0 rfl dM).mono (λ k hk=>by subst hk;exact x1 _ oM),⟨_,_,_,rfl,hk.grow j1⟩,⟨_,_,_,rfl,hv.grow j1⟩,trivial⟩,iX,jG⟩
  refine aB 84 ?_;refine aA rfl (write_c (h.grow j1) (ht.grow j1) _ ⟨some ⟨b',0,none⟩,1,1,none,0,0,none,0,0⟩ _ t9 u0 (lO u0 ⟨by intro x hx;simp only [List.mem_singleton] at hx;subst hx;exact ⟨u7,l7⟩,sM⟩) n' z5) rfl ?_;rintro _ w6 ⟨rfl,y5,j2⟩;have j8:=bX i8 j2 (x1 _ oM);have j9:=bX i9 j2 (x1 _ oM);clear i4 i8 i9;repeat (first|refine aF ?_|refine yJ λ w' hu e0 f0=>?_)
  rename_i w7 u1 r4 z7;have k6:=h.lts;refine retCC rfl (kG (r4.upd hu oM)) rfl (kG e0) ⟨_,rfl,rfl,?_,(((ButS.grow j1).trans j2).upd u1 oM).upd hu oM⟩;exact (y5.upd u1 oM).upd hu oM
 | some n =>
  obtain ⟨fr,th,up,s1,hp,o7,r6⟩:=putP_some f3;have q6:=pathP_frames (λ n=>h.lt n) hp;repeat (first|refine aF ?_|refine yI λ bk w' hg e0 f0 g0=>?_|refine yJ λ w' hu e0 f0=>?_)
  obtain ⟨k5,rfl⟩:=yE bk;have o1:Blk w' k5 58 [.slice a m c,.slice a' m' c']:=e0;have j0:Grow w w':=aH hu oM (p6.trans hg);have i4:=(k4.grow hg).upd hu oM;have i8:=(k8.grow hg).upd hu oM;have i9:=(k9.grow hg).upd hu oM;have bb:k5=w4.heap.size∧k5<w'.heap.size:=by have:=o1.lt;omega
  clear e0 hg hu f0 g0 k4 k8 k9 p6;obtain ⟨w5,rfl⟩:=yE w';refine aB 78 ?_;refine aA rfl (path_c (h.grow j0) _ a m c n key fr th (hk.grow j0) hp) rfl ?_;rintro _ w6 ⟨⟨fb,fd,t6,rfl,j3,k3⟩,i3⟩;have n4:=j0.trans i3;have z6:=i3.size;have zw:=j0.size;replace i4:=i4.grow i3;replace i8:=i8.grow i3;replace i9:=i9.grow i3;replace o1:=o1.grow i3;clear j0 i3;repeat (first|refine T.seqR ?_|refine yC ?_|refine yI λ bk w' hg e0 f0 g0=>?_|refine yJ λ w' hu e0 f0=>?_)
  rename_i j5 ax p3 x8 r8 m5 y1 aw o3 v8 q8 l5 au u2 g7 l8 ar f7 h8;obtain ⟨b15,rfl⟩:=yE bk;have x7:=pathP_len hp;have y7:Grow w w':=(aH hu oM (aH u2 oM (n4.trans (p3.trans o3)))).trans hg;have j4:=(((i4.grow (p3.trans o3)).upd u2 oM).upd hu oM).grow hg;have j8:=(((i8.grow (p3.trans o3)).upd u2 oM).upd hu oM).grow hg;have j9:=(((i9.grow (p3.trans o3)).upd u2 oM).upd hu oM).grow hg;have d4:=(((o1.grow (p3.trans o3)).upd u2 oM).upd hu oM).grow hg;have a4:Blk w' j5 4 [.bool th]:=(Blk.upd hu oM g7).grow hg;have y3:Blk w' y1 37 [.int .i64 0]:=Blk.grow hg f7;have q3:Blk w' b15 79 nil3:=e0
  have cW:Carry (λ k=>w5.heap.size≤k) w6 (λ k=>w5.heap.size≤k∧k<w6.heap.size) w' :=
   (Carry.mono (λ k hk hl=>⟨hk,hl⟩)).trans ((Carry.grow (p3.trans o3)).trans ((Carry.upd u2 (λ k hk _=>by omega)).trans ((Carry.upd hu (λ k hk _=>by omega)).trans (Carry.grow hg))))
  replace j3:=j3.go cW;replace k3:=k3.go cW;have qs:w6.heap.size=j5∧y1=j5+1∧b15=y1+1∧w'.heap.size=b15+1:=by omega
  clear cW e0 hu hg u2 g7 f7 x8 v8 p3 o3 f0 g0 i4 i8 i9 o1 r8 m5 q8 l5 l8 h8 n4;refine aB 79 ?_;refine aA rfl (back_c fb fr.length fd _) rfl ?_;rintro _ w9 ⟨b1,rfl,ag,u3,z0⟩;repeat refine aF ?_
  refine iI (T2.range (ps:=[52,53]) (lb:=[_]) rfl (Nat.zero_le _) rfl ?_);intro rc W l6 m9 y0 s7 s6;obtain ⟨D,hD⟩:∃ D,D=w9.heap.size:=⟨_,rfl⟩
  rw [← hD] at s7 s6 m9 ⊢;have ah:=u3.lt;have z9:=z0.size;replace j4:=(j4.grow z0).grow y0;replace j8:=(j8.grow z0).grow y0;replace j9:=(j9.grow z0).grow y0;replace d4:=(d4.grow z0).grow y0;replace a4:=(a4.grow z0).grow y0;replace y3:=(y3.grow z0).grow y0;replace q3:=(q3.grow z0).grow y0;replace u3:=u3.grow y0;obtain ⟨Gu,q1⟩:∃ G:Nat→Prop,∀ k,G k↔¬ L.S k∧k≠b15∧k≠y1∧k≠D+1:=⟨_,λ k=>Iff.rfl⟩
  have o2:∀ k,w.heap.size≤k→k≠b15→k≠y1→k≠D+1→Gu k:=λ k hk h1 h2 h3=>(q1 k).2 ⟨x1 k hk,h1,h2,h3⟩;replace j3:Sl Gu W 4 fb fr.length fd t6:=(j3.grow (z0.trans y0)).mono (λ k hk=>o2 k oM oM oM oM);replace k3:FrCells Gu W t6 fr:=k3.go ((Carry.grow (z0.trans y0)).trans (Carry.mono λ k hk _=>o2 k oM oM oM oM));have m1:Grow w W:=y7.trans (z0.trans y0);have m6:Sl Gu W 1 a m c (bB key):=(hk.go (Carry.mono (λ k hk hl=>(q1 k).2 ⟨hk,oM,oM,oM⟩))).grow m1;have o5:Sl Gu W 1 a' m' c' (bB v):=(hv.go (Carry.mono (λ k hk hl=>(q1 k).2 ⟨hk,oM,oM,oM⟩))).grow m1;have k6:=h.lts;have g9:=ht.1;have o9:=h.grow m1;have bh:=ht.grow m1;clear y0 z0 y7
  refine Calls.mono (backs_c Gu (D+1) b1 fr.length fb fd t6 (λ k w1=>∃ k0 g1,∃ y:NV,mI (key,v) th (fr.drop k) g=some (k0,g1)∧UpOk k0∧(k<fr.length→k0.kids.length=k0.keys.length+1)∧Blk w1 b15 79 y.cs∧Blk w1 y1 37 [.int .i64 0] ∧
   w1.heap[D+1]? = some (.loop (rc .ready none))∧Carry Gu W (λ k=>Gu k∧k<W.heap.size) w1∧NdAt Gu w1 y k0∧PgAt w1 L g1∧ButS L.S w w1) (λ _=>False) oM ?_ ?_ W ?_) ?_
  ·rintro k w1 ⟨k0,g1,y,e1,e2,e3,x3,u4,el,ec,en,ep,eb⟩;exact ⟨cJ u3 (ec.blk b1 (o2 _ oM oM oM oM) oM).2,(j3.go ec).mono (λ k hk=>hk.1)⟩
  ·rintro k w1 hkl ⟨k0,g1,y,e1,e2,e3,x3,u4,el,ec,en,ep,eb⟩;obtain ⟨f,hf⟩:∃ f,fr[k]? = some f:=⟨_,List.getElem?_eq_getElem hkl⟩
   obtain ⟨x,x0,hx⟩:=k3.at' hf;rw [x0];have fo:=q6 f (List.mem_of_getElem? hf);have z1:=ec.size;have k7:NdAt Gu w1 x f.1:=(hx.go ec).go (Carry.mono λ k hk _=>hk.1);refine yld_of l6 el rfl rfl λ I=>?_;repeat (first|refine aF ?_|refine yI λ bk w' hg e0 f0 g0=>?_|refine yJ λ w' hu e0 f0=>?_)
   refine ⟨?_,λ w2 t0 t7=>?_⟩
   ·rw [hu.block (D+1) oM,hg.block (D+1) oM];exact el
   obtain ⟨bf,rfl⟩:=yE bk;have z2:=t0.size;have i0:∀ k,k<w1.heap.size→k≠D+1→w2.heap[k]? = w1.heap[k]?:=λ k h1 h2=>(t0.block k h2).trans ((hu.block k oM).trans (hg.block k h1));have gk:∀ k,w.heap.size≤k→k≠b15→k≠y1→k≠D+1→k<W.heap.size→w2.heap[k]? = W.heap[k]?:=λ k h1 h2 h3 h4 h5=>(i0 k oM h4).trans (ec.blk k (o2 k h1 h2 h3 h4) h5).2;have ak:∀ k,Gu k→k<W.heap.size→w2.heap[k]? = W.heap[k]?:=λ k hk hl=>(i0 k oM ((q1 k).1 hk).2.2.2).trans (ec.blk k hk hl).2;have gf:Blk w2 bf 143 [x.v1,x.v2,x.v3,.int .i64 (f.2:Int)]:=Blk.upd t0 oM e0;have r2:=cJ x3 (i0 b15 oM oM);have v6:=cJ u4 (i0 y1 oM oM);have f4:=cJ j4 (gk b4 oM oM oM oM oM);have f5:=cJ d4 (gk k5 oM oM oM oM oM);have d5:=cJ a4 (gk j5 oM oM oM oM oM);have cc:Carry Gu w1 Gu w2:=⟨oM,λ k hk hl=>⟨hk,i0 k hl ((q1 k).1 hk).2.2.2⟩⟩
   have r3:=k7.go cc;have g5:=en.go cc;have ao:=ep.keep (λ b hb=>i0 b oM oM);have g8:ButS L.S w w2:=((eb.trans (ButS.grow hg)).upd hu oM).upd t0 oM;have z4:Sl Gu w2 1 a m c (bB key):=((m6.go ec).mono (λ k hk=>hk.1)).go cc;have y4:Sl Gu w2 1 a' m' c' (bB v):=((o5.go ec).mono (λ k hk=>hk.1)).go cc;have qf:w1.heap.size=bf∧w2.heap.size=bf+1:=by omega
   rw [List.drop_eq_getElem_cons hkl,show fr[k]'hkl=f from (List.getElem?_eq_some_iff.1 hf).2];clear e0 hg hu t0 f0 g0 cc x3 u4 el ec en ep eb hx k7 l6 j4 j8 j9 d4 a4 y3 q3 u3 j3 k3 m6 o5 i0;refine T.block ?_;refine dU 2 (λ e w3=>∃ (bn:Nat) (z:NV),Sub [(18,.pointer (some ⟨bn,0,none⟩)),(15,.pointer (some ⟨b15,0,none⟩)),(14,.pointer (some ⟨y1,0,none⟩)),(4,.pointer (some ⟨b4,0,none⟩))] e∧w2.heap.size≤bn∧bn<w3.heap.size∧Blk w3 bn 79 z.cs∧NdAt Gu w3 z (cP f.1 f.2 k0 (key,v) th)∧Grow w2 w3) ?_ ?_;rotate_left
   ·cases hlf:bN f.1 with
    | false =>
     repeat (first|refine aF ?_|refine yI λ bk w' hg e0 f0 g0=>?_|refine yJ λ w' hu e0 f0=>?_|(refine aB 80 ?_;refine aA rfl (eX r3 hlf _) rfl ?_;rintro _ _ ⟨rfl,f2⟩))
     rename_i w3;obtain ⟨bn,rfl⟩:=yE bk;have gn:Blk w3 bn 79 x.cs:=Blk.grow f2 e0;have a0:Grow w2 w3:=(aH hu oM hg).trans f2;have zc:=f2.size;have m8:=a0.size;obtain ⟨Gq,f1⟩:∃ G:Nat→Prop,∀ k,G k↔Gu k∧k≠bn:=⟨_,λ k=>Iff.rfl⟩
     have cq:Carry Gu w2 Gq w3:=(Carry.mono (λ k hk hl=>(f1 k).2 ⟨hk,oM⟩)).trans (Carry.grow a0);have o0:=r3.go cq;have s2:=g5.go cq;have v4:=r2.grow a0;have y8:=d5.grow a0;have a9:=f5.grow a0;have c5:=gf.grow a0;have n6:=z4.go cq;have p5:=y4.go cq;have qn:w2.heap.size=bn∧bn<w3.heap.size:=by omega
     have q2:∀ wq:World,w3.heap.size≤wq.heap.size→∀ k,wq.heap.size≤k→Gq k:=λ wq hq k hk=>(f1 k).2 ⟨o2 k oM oM oM oM,oM⟩;have u0:=fo.ok;unfold bF at u0;have j6:=o0.its.len;have i6:=bR o0.kids;have f6:=o0.kys.len;have g6:=bR s2.kids;have d6:=s2.kys.len;have d3:=e2.two;have q5:=e2.ks;clear e0 hg f2 hu f0 g0 cq gf r2 d5 f5 r3 g5 z4 y4;rw [if_neg (by rw [hlf];simp)] at u0;obtain ⟨r9,bj,s9,bi,_,_⟩:=cO u0;have ad:=fo.kid hlf
     apply T.any 13 [is (.pointer (some ⟨bn,1,none⟩)),is (.slice x.a2 x.n2 x.c2),is (.pointer (some ⟨bf,3,none⟩)),is (.int .i64 (f.2:Int)),is (.pointer (some ⟨bf,3,none⟩)),is (.int .i64 (f.2:Int)),is (.int .i64 ((f.2+1:Nat):Int)),
      kidF Gq (x.n2-(f.2+1-f.2)) (dT f.1.kids f.2 (f.2+1)),is (.pointer (some ⟨bf,3,none⟩)),is (.int .i64 (f.2:Int)),is (.pointer (some ⟨b15,1,none⟩)),is (.slice y.a2 y.n2 y.c2),kidF Gq (x.n2-(f.2+1-f.2)+y.n2) (hY (dT f.1.kids f.2 (f.2+1)) f.2 k0.kids)]
     ·rfl
     ·repeat' (first|exact aN|refine aK ?_ ?_)
      iterate 7
       ·refine yQ λ wq _ _ m0=>?_;repeat refine aF ?_
        exact aD rfl yG rfl
      ·refine yQ λ wq _ _ m0=>?_;refine aB 97 ?_;refine aA rfl (cutN_c (F:=Gq) (q2 _ (by have:=m0.size;omega)) x.a2 x.n2 x.c2 f.2 (f.2+1) f.1.kids (o0.kids.grow yG) oM oM oM) rfl ?_;rintro v' wr ⟨⟨a7,c7,rfl,hi⟩,p0⟩;repeat refine aF ?_
       exact aD rfl yG ⟨a7,c7,rfl,hi⟩
      iterate 4
       ·refine yQ λ wq _ _ m0=>?_;repeat refine aF ?_
        exact aD rfl yG rfl
      ·refine bW rfl rfl rfl ?_;intro wq _ _ m0;refine aJ rfl rfl ?_;intro v9 q9;obtain rfl:=q9;refine aJ rfl rfl ?_;intro o8 x2;obtain rfl:=x2;refine aJ rfl rfl ?_;intro v7 q7;refine aZ ?_;obtain ⟨a7,c7,rfl,h7⟩:=q7;refine aB 96 ?_;refine aA rfl (insN_c (F:=Gq) (q2 _ (by have:=m0.size;omega)) a7 y.a2 _ c7 y.n2 y.c2 f.2 _ k0.kids h7 (s2.kids.grow m0) oM oM) rfl ?_;rintro v' wr ⟨⟨a7,c7,rfl,hi⟩,p0⟩;repeat refine aF ?_
       exact aD rfl yG ⟨a7,c7,rfl,hi⟩
     ·intro wt t8 m4 q0 _ _;iterate 12 (refine aJ rfl rfl ?_;intro vq x4;try (obtain rfl:=x4))
      refine aJ rfl rfl ?_;rintro vt ⟨d7,b7,rfl,r5⟩;refine aZ ?_;have zt:=q0.size;have jf:=c5.grow q0;have q3:=v4.grow q0;have jn:=gn.grow q0;have d2:=a0.trans q0;have x0:=o0.go (Carry.grow q0);have d8:=s2.go (Carry.grow q0);clear c5 v4 gn o0 s2 q0;repeat (first|refine aF ?_|refine yJ λ w' hu e0 f0=>?_)
      have cu:Carry Gq wt Gq w':=Carry.upd hu (λ k hk _=>((f1 k).1 hk).2);refine aB 98 ?_;refine aA rfl (insK_c (F:=Gq) (q2 _ oM) x.a3 y.a3 x.n3 x.c3 y.n3 y.c3 f.2 f.1.keys k0.keys (x0.kys.go cu) (d8.kys.go cu) oM oM) rfl ?_;rintro _ wr ⟨⟨a8,c8,rfl,o6⟩,p0⟩;have kn:=e0.grow p0;have o4:Grow w2 w':=aH hu oM d2;have y6:Carry Gq wt Gq wr:=cu.trans (Carry.grow p0);have aj:=x0.its.go y6;have ai:=r5.go y6;have g3:=o4.trans p0;have zr:=p0.size;clear e0 hu cu y6 p0 x0 d8 o4 d2 jn;repeat (first|refine aF ?_|refine yJ λ w' hu e0 f0=>?_)
      have r1:Carry Gq wr Gu w':=(Carry.upd hu (λ k hk _=>((f1 k).1 hk).2)).trans (Carry.mono λ k hk _=>((f1 k).1 hk).1);refine ⟨bn,⟨x.a1,x.n1,x.c1,d7,x.n2-(f.2+1-f.2)+y.n2,b7,a8,x.n3+y.n3,c8⟩,⟨rfl,rfl,rfl,rfl,trivial⟩,oM,oM,e0,?_,aH hu oM g3⟩
      have l4:cP f.1 f.2 k0 (key,v) th=⟨f.1.items,hY (dT f.1.kids f.2 (f.2+1)) f.2 k0.kids,hY f.1.keys f.2 k0.keys⟩:=by
       simp only [cP,hlf];rfl
      rw [l4];exact ⟨aj.go r1,ai.go r1,o6.go r1⟩
    | true =>
     repeat (first|refine aF ?_|refine yI λ bk w' hg e0 f0 g0=>?_|refine yJ λ w' hu e0 f0=>?_|(refine aB 80 ?_;refine aA rfl (eX r3 hlf _) rfl ?_;rintro _ _ ⟨rfl,f2⟩))
     rename_i w3;obtain ⟨bn,rfl⟩:=yE bk;have gn:Blk w3 bn 79 x.cs:=Blk.grow f2 e0;have a0:Grow w2 w3:=(aH hu oM hg).trans f2;have zc:=f2.size;have m8:=a0.size;obtain ⟨Gq,f1⟩:∃ G:Nat→Prop,∀ k,G k↔Gu k∧k≠bn:=⟨_,λ k=>Iff.rfl⟩
     have cq:Carry Gu w2 Gq w3:=(Carry.mono (λ k hk hl=>(f1 k).2 ⟨hk,oM⟩)).trans (Carry.grow a0);have o0:=r3.go cq;have s2:=g5.go cq;have v4:=r2.grow a0;have y8:=d5.grow a0;have a9:=f5.grow a0;have c5:=gf.grow a0;have n6:=z4.go cq;have p5:=y4.go cq;have qn:w2.heap.size=bn∧bn<w3.heap.size:=by omega
     have q2:∀ wq:World,w3.heap.size≤wq.heap.size→∀ k,wq.heap.size≤k→Gq k:=λ wq hq k hk=>(f1 k).2 ⟨o2 k oM oM oM oM,oM⟩;have u0:=fo.ok;unfold bF at u0;have j6:=o0.its.len;have i6:=bR o0.kids;have f6:=o0.kys.len;have g6:=bR s2.kids;have d6:=s2.kys.len;have d3:=e2.two;have q5:=e2.ks;clear e0 hg f2 hu f0 g0 cq gf r2 d5 f5 r3 g5 z4 y4;rw [if_pos hlf] at u0;obtain ⟨r9,s9,_⟩:=dG u0;obtain ⟨bm,y9⟩:=fo.leaf hlf
     cases th with
     | false =>
      repeat refine aF ?_
      refine TL.buildSlice rfl rfl rfl rfl rfl ?_;intro b' wa n0 m3 v5 u5 t5;have v0:Blk wa b' 58 [.slice a m c,.slice a' m' c']:=m3;have m4:ItsAt Gq wa (some ⟨b',0,none⟩) 1 1 [(key,v)]:=⟨_,(aU (sz:=2) (m:=1) v0 rfl dM).mono (λ k hk=>by subst hk;exact q2 w3 (Nat.le_refl _) _ oM),⟨_,_,_,rfl,n6.grow n0⟩,⟨_,_,_,rfl,p5.grow n0⟩,trivial⟩
      have za:=n0.size;have kn:=gn.grow n0;have x0:=o0.go (Carry.grow n0);have o4:=a0.trans n0;clear m3 v0 v5 u5 t5 gn n0 a0 o0;repeat refine aF ?_
      refine aB 99 ?_;refine aA rfl (insI_c (F:=Gq) (q2 _ oM) x.a1 (some ⟨b',0,none⟩) x.n1 x.c1 1 1 f.2 f.1.items [(key,v)] x0.its m4 oM oM) rfl ?_;rintro _ wr ⟨⟨a8,c8,rfl,o6⟩,p0⟩;have bc:=kn.grow p0;have j7:=x0.go (Carry.grow p0);have g3:=o4.trans p0;have zr:=p0.size;clear kn p0 x0 o4;repeat (first|refine aF ?_|refine yJ λ w' hu e0 f0=>?_)
      have r1:Carry Gq wr Gu w':=(Carry.upd hu (λ k hk _=>((f1 k).1 hk).2)).trans (Carry.mono λ k hk _=>((f1 k).1 hk).1);refine ⟨bn,⟨a8,x.n1+1,c8,x.a2,x.n2,x.c2,x.a3,x.n3,x.c3⟩,⟨rfl,rfl,rfl,rfl,trivial⟩,oM,oM,e0,?_,aH hu oM g3⟩
      have l4:cP f.1 f.2 k0 (key,v) false=⟨hY f.1.items f.2 [(key,v)],f.1.kids,f.1.keys⟩:=by
       simp only [cP,hlf];rfl
      rw [l4];exact ⟨o6.go r1,j7.kids.go r1,j7.kys.go r1⟩
     | true =>
      have x9:=y9 rfl;repeat refine aF ?_
      apply T.any 13 [is (.pointer (some ⟨bn,0,none⟩)),is (.slice x.a1 x.n1 x.c1),is (.pointer (some ⟨bf,3,none⟩)),is (.int .i64 (f.2:Int)),is (.pointer (some ⟨bf,3,none⟩)),is (.int .i64 (f.2:Int)),is (.int .i64 ((f.2+1:Nat):Int)),
       itsF Gq (x.n1-(f.2+1-f.2)) (dT f.1.items f.2 (f.2+1)),is (.pointer (some ⟨bf,3,none⟩)),is (.int .i64 (f.2:Int)),is (.agg #[.slice a m c,.slice a' m' c']),itsF Gq 1 [(key,v)],itsF Gq (x.n1-(f.2+1-f.2)+1) (hY (dT f.1.items f.2 (f.2+1)) f.2 [(key,v)])]
      ·rfl
      ·repeat' (first|exact aN|refine aK ?_ ?_)
       iterate 7
        ·refine yQ λ wq _ _ m0=>?_;repeat refine aF ?_
         exact aD rfl yG rfl
       ·refine yQ λ wq _ _ m0=>?_;refine aB 81 ?_;refine aA rfl (cutI_c (F:=Gq) (q2 _ (by have:=m0.size;omega)) x.a1 x.n1 x.c1 f.2 (f.2+1) f.1.items (o0.its.go (Carry.grow yG)) oM oM oM) rfl ?_;rintro v' wr ⟨⟨a7,c7,rfl,hi⟩,p0⟩;repeat refine aF ?_
        exact aD rfl yG ⟨a7,c7,rfl,hi⟩
       iterate 3
        ·refine yQ λ wq _ _ m0=>?_;repeat refine aF ?_
         exact aD rfl yG rfl
       ·refine yQ λ wq _ _ m0=>?_;have zq:=m0.size;refine TL.buildSlice rfl rfl rfl rfl rfl ?_;intro b' wa n0 m3 v5 u5 t5;have v0:Blk wa b' 58 [.slice a m c,.slice a' m' c']:=m3;have m4:ItsAt Gq wa (some ⟨b',0,none⟩) 1 1 [(key,v)]:=⟨_,(aU (sz:=2) (m:=1) v0 rfl dM).mono (λ k hk=>by subst hk;exact q2 w3 (Nat.le_refl _) _ oM),⟨_,_,_,rfl,(n6.grow m0).grow n0⟩,⟨_,_,_,rfl,(p5.grow m0).grow n0⟩,trivial⟩
        repeat refine aF ?_
        exact aD rfl yG ⟨_,_,rfl,m4⟩
       ·refine bW rfl rfl rfl ?_;intro wq _ _ m0;refine aJ rfl rfl ?_;intro v9 q9;obtain rfl:=q9;refine aJ rfl rfl ?_;intro o8 x2;obtain ⟨a6,c6,rfl,h6⟩:=x2;refine aJ rfl rfl ?_;intro v7 q7;refine aZ ?_;obtain ⟨a7,c7,rfl,h7⟩:=q7;refine aB 99 ?_;refine aA rfl (insI_c (F:=Gq) (q2 _ (by have:=m0.size;omega)) a7 a6 _ c7 1 c6 f.2 _ [(key,v)] h7 h6 oM oM) rfl ?_;rintro v' wr ⟨⟨a7,c7,rfl,hi⟩,p0⟩;repeat refine aF ?_
        exact aD rfl yG ⟨a7,c7,rfl,hi⟩
      ·intro wt t8 m4 q0 _ _;iterate 12 (refine aJ rfl rfl ?_;intro vq x4;try (obtain rfl:=x4))
       refine aJ rfl rfl ?_;rintro vt ⟨d7,b7,rfl,r5⟩;refine aZ ?_;have zt:=q0.size;have jn:=gn.grow q0;have d2:=a0.trans q0;have x0:=o0.go (Carry.grow q0);clear c5 v4 gn o0 s2 q0 x4;repeat (first|refine aF ?_|refine yJ λ w' hu e0 f0=>?_)
       have r1:Carry Gq wt Gu w':=(Carry.upd hu (λ k hk _=>((f1 k).1 hk).2)).trans (Carry.mono λ k hk _=>((f1 k).1 hk).1);refine ⟨bn,⟨d7,x.n1-(f.2+1-f.2)+1,b7,x.a2,x.n2,x.c2,x.a3,x.n3,x.c3⟩,⟨rfl,rfl,rfl,rfl,trivial⟩,oM,oM,e0,?_,aH hu oM d2⟩
       have l4:cP f.1 f.2 k0 (key,v) true=⟨hY (dT f.1.items f.2 (f.2+1)) f.2 [(key,v)],f.1.kids,f.1.keys⟩:=by
        simp only [cP,hlf];rfl
       rw [l4];exact ⟨r5.go r1,x0.kids.go r1,x0.kys.go r1⟩
   rintro e w3 ⟨bn,z,g4,ba,az,ae,hz,a0⟩;refine bD (e':=[(18,_),(15,_),(14,_),(4,_)]) ?_ g4;clear g4;obtain ⟨e7,g2,x5⟩:=putUp_suffix o7 k;rw [List.drop_eq_getElem_cons hkl,show fr[k]'hkl=f from (List.getElem?_eq_some_iff.1 hf).2] at x5;obtain ⟨ay,bp,x6,m7⟩:=putUp_cons x5;rw [e1] at x6;simp only [Option.some.injEq,Prod.mk.injEq] at x6;obtain ⟨rfl,rfl⟩:=x6;obtain ⟨n9,l9⟩:=putNode_shape (item:=(key,v)) fo e2 (λ hl=>e3 (pathP_last hp k f hf hl));have p7:=putNode_by (i:=f.2) (item:=(key,v)) (th:=th) fo.by' e2.by' u7 l7;have z3:=a0.size;have s4:=r2.grow a0;have t4:=v6.grow a0;have an:=f4.grow a0;have ab:w3.heap[D+1]? = some (.loop (rc .busy none)):=(a0.block _ oM).trans t7;clear r2 v6 f4 t7;repeat refine aF ?_
   refine aB 100 ?_;refine aA rfl (store_c (ao.grow a0) ((ht.buts g8 h0).grow a0) h0 Gu (λ k hk=>((q1 k).1 hk).1) (λ k hk=>o2 k oM oM oM oM) z _ e7 hz p7 n9 l9 m7) rfl ?_;rintro _ w8 ⟨⟨y2,rfl,n5⟩,p9,t3⟩;obtain ⟨d3,e4⟩:=storeP_up m7 p7;have z8:=t3.size;have r2:=bX s4 t3 (x1 _ oM);have v6:=bX t4 t3 (x1 _ oM);have aa:w8.heap[D+1]? = some (.loop (rc .busy none)):=(t3.block _ oM (x1 _ oM)).trans ab;clear s4 t4 an ae;repeat (first|refine aF ?_|refine yJ λ w' hu e0 f0=>?_)
   rename_i av s3 af aq;refine ⟨?_,λ wz l0 u9=>.inl ⟨rfl,e7,g2,y2,x5,d3,λ _=>e4,?_,e0.upd l0 oM,u9,?_,?_,?_,?_⟩⟩
   ·rw [hu.block _ oM,s3.block _ oM];exact aa
   ·exact (af.upd hu oM).upd l0 oM
   ·refine ⟨by have:=s3.size;have:=hu.size;have:=l0.size;omega,λ k hk hl=>⟨⟨hk,hl⟩,?_⟩⟩;obtain ⟨c1,c2,c3,c4⟩:=(q1 k).1 hk;rw [l0.block k c4,hu.block k c3,s3.block k c2,t3.block k oM c1,a0.block k oM];exact ak k hk hl
   ·exact ((n5.go (Carry.upd s3 (λ k hk _=>((q1 k).1 hk).2.1))).go (Carry.upd hu (λ k hk _=>((q1 k).1 hk).2.2.1))).go (Carry.upd (F:=Gu) l0 (λ k hk _=>((q1 k).1 hk).2.2.2))
   ·exact ((p9.upd s3 oM).upd hu oM).upd l0 oM
   ·exact ((((g8.trans (ButS.grow a0)).trans t3).upd s3 oM).upd hu oM).upd l0 oM
  ·refine ⟨nd0,g,⟨none,0,0,none,0,0,none,0,0⟩,by rw [List.drop_length];rfl,⟨rfl,.inl rfl,dM,dM,⟨by simp [nd0],by simp [nd0]⟩⟩,λ hh=>by omega,q3,y3,s7,Carry.mono (λ k hk hl=>⟨hk,hl⟩),⟨jZ,iX,jG⟩,o9,ButS.grow m1⟩
  ·rintro _ w1 ⟨u,rfl,⟨k0,g1,y,e1,e2,e3,x3,u4,el,ec,en,ep,eb⟩|hf⟩;rotate_left
   ·exact hf.elim
   rw [List.drop_zero,o7] at e1;simp only [Option.some.injEq,Prod.mk.injEq] at e1;obtain ⟨rfl,rfl⟩:=e1;refine ⟨u,rfl,?_,.inl ⟨el,λ I w2 t0=>?_⟩⟩
   ·rw [(ec.blk D (o2 _ oM oM oM oM) oM).2];exact s6
   ·have bg:=t0.size;have ap:=ec.size;have gu:∀ k,w.heap.size≤k→k≠b15→k≠y1→k≠D+1→k<W.heap.size→w2.heap[k]? = W.heap[k]?:=λ k h1 h2 h3 h4 h5=>(t0.block k h4).trans (ec.blk k (o2 k h1 h2 h3 h4) h5).2;have r2:=x3.upd t0 oM;have f8:=cJ j8 (gu b8 oM oM oM oM oM);have f9:=cJ j9 (gu b9 oM oM oM oM oM);have f4:=cJ j4 (gu b4 oM oM oM oM oM);have fD:w2.heap[D]? = some (.deferred (some [])):=(gu D oM oM oM oM oM).trans s6;have fn:=en.go (Carry.upd (F:=Gu) t0 (λ k hk _=>((q1 k).1 hk).2.2.2));have fp:=ep.upd t0 oM;have u6:ButS L.S w w2:=eb.upd t0 oM;have r7:=bR fn.kids;clear x3 u4 el ec en ep eb t0 e0 f0 l6 j4 j8 j9 d4 a4 y3 q3 u3 j3 k3 m6 o5;rcases r6 with ⟨a5,rfl⟩|⟨a5,c9⟩
    ·have n5:y.n2=1:=by rw [r7,a5];rfl
     have s5:=fn.kids;rw [a5] at s5;have bo:w2.cell? (at' y.a2 0)=some (.int .i64 (n':Int)):=s5.row.cell rfl;repeat (first|(refine aI ?_;refine aC (j:=0) rfl rfl rfl oM rfl ⟨_,_,s5⟩ rfl ?_)|refine yC ?_|refine yJ λ w' hu e0 f0=>?_)
     rename_i w7 u1 r4 z7;refine ⟨?_,λ wz l0=>?_⟩
     ·rw [hu.block D oM,u1.block D oM];exact fD
     ·refine retCC rfl (kG ((r4.upd hu oM).upd l0 oM)) rfl (kG (e0.upd l0 oM)) ⟨_,rfl,rfl,?_,((u6.upd u1 oM).upd hu oM).upd l0 oM⟩;exact ((fp.upd u1 oM).upd hu oM).upd l0 oM
    ·have n5:y.n2≠1:=by rw [r7];exact a5
     obtain ⟨u0,z5⟩:=gJ c9;repeat refine aF ?_
     refine aB 84 ?_;refine aA rfl (write_c fp (ht.buts u6 h0) _ y up fn u0 (lO u0 e2.by') n' z5) rfl ?_;rintro _ n8 ⟨rfl,y5,j2⟩;have br:=bX f8 j2 (x1 _ oM);have bq:=bX f9 j2 (x1 _ oM);have am:n8.heap[D]? = some (.deferred (some [])):=(j2.block D oM (x1 _ oM)).trans fD;have zz:=j2.size;clear f8 f9 r2 f4;repeat (first|refine aF ?_|refine yJ λ w' hu e0 f0=>?_)
     rename_i w7 u1 r4 z7;refine ⟨?_,λ wz l0=>?_⟩
     ·rw [hu.block D oM,u1.block D oM];exact am
     ·refine retCC rfl (kG ((r4.upd hu oM).upd l0 oM)) rfl (kG (e0.upd l0 oM)) ⟨_,rfl,rfl,?_,(((u6.trans j2).upd u1 oM).upd hu oM).upd l0 oM⟩;exact ((y5.upd u1 oM).upd hu oM).upd l0 oM
end Go.Proofs.YtfpadnmdafiddaaGreatDoor
namespace Go.V
open Go Go.RowKit
def DetA [Rn] (P:Program) (n:Nat) (l:List Oper) (e:dI) (I:Bool→World→Prop) (vs:List Value) (A i:Nat):Prop :=
 match l[i]? with
 | none=>True
 | some o=>∀ b w,(i=A→b=false)→I b w→TL P n l.toArray [o] (iY l vs (lC (bH o)) e) w (detQ o.dst (vs.getD i undef) (I (b || Nat.beq i A)))
def AllDetA [Rn] (P:Program) (n:Nat) (l:List Oper) (e:dI) (I:Bool→World→Prop) (vs:List Value) (A:Nat):Nat→Nat→Prop
 | _,0=>True
 | i,k+1=>DetA P n l e I vs A i∧AllDetA P n l e I vs A (i+1) k
section
variable [Rn]
variable {P:Program} {n:Nat} {l:List Oper} {e:dI} {I:Bool→World→Prop} {vs:List Value} {A N:Nat} {Q:dA}
theorem allDetA_at:∀ {k i:Nat},AllDetA P n l e I vs A i k→∀ j,i≤j→j<i+k→DetA P n l e I vs A j
 | 0,_,_,j,h1,h2=>by omega
 | k+1,i,h,j,h1,h2=>by
  by_cases hj:j=i
  ·subst hj;exact h.1
  ·exact allDetA_at h.2 j oM oM
theorem gH {i:Nat}:AllDetA P n l e I vs A i 0:=trivial
theorem fU {i k:Nat} (h:DetA P n l e I vs A i) (hs:AllDetA P n l e I vs A (i+1) k):AllDetA P n l e I vs A i (k+1):=⟨h,hs⟩
theorem aV {i:Nat} {d:Option Nat} {op:Op} {ty:TypeId} {pos:String} {aft:Array Edge} {v:Value} {e':dI} (ho:l[i]? = some ⟨d,op,ty,pos,aft,none⟩) (hv:vs.getD i undef=v) (he:iY l vs (lC (bH ⟨d,op,ty,pos,aft,none⟩)) e=e')
  (h:∀ b w,(i=A→b=false)→I b w→TL P n #[] [⟨d,op,ty,pos,aft,none⟩] e' w (detQ d v (I (b || Nat.beq i A)))):DetA P n l e I vs A i:=by
 unfold DetA;rw [ho];simp only;intro b w hb hw;subst he;rw [hv];exact TL.lone (h b w hb hw)
structure MidZ (n:Nat) (l:List Oper) (e:dI) (I:Bool→World→Prop) (vs:List Value) (A N:Nat) (listed:Array Bool) (a:Act) (w:World):Prop where
 size:listed.size=l.length
 inv:I (listed.getD A false) w
 defers:a.defers=Rn.ds
 tmps:a.tmps.size=n
 get:∀ t v,find e t=some v→a.tmps.getD t undef=v
 did:∀ i,i<N→listed.getD i false=true→∀ d,mB l i=some d→a.tmps.getD d undef=vs.getD i undef
 rest:∀ i,N≤i→listed.getD i false=false
 closed:∀ j o,l[j]? = some o→listed.getD j false=true→∀ x∈bH o,listed.getD x false=true
theorem detA_runs (hN:N≤l.length) (hh:∀ i,i<N→DHead l e n i) (z0:∀ o,l[N]? = some o→∀ i,i<N→i∈bH o)
  (ht:∀ j,N≤j→j<l.length→∃ o,l[j]? = some o∧(∀ x∈bH o,x<j)∧(j=N∨j-1∈bH o)) (d3:∀ i,i<N→DetA P n l e I vs A i)
  (hA:A<N) (v0:∀ w,I true w→TL P n l.toArray (l.drop N) (iY l vs (mY 0 N) e) w Q) :
  ∀ (m:Nat) (a0:Array Bool) (a:Act) (w:World) (f:Nat),MidZ n l e I vs A N a0 a w →
   ((List.range N).filter λ i=>!(a0.getD i false)).length=m→f=m+(l.length-N)→wpAnyIn (FR Rn.ro) 0 P .any l.toArray (iG n Q) f a0 a w:=by
 intro m
 induction m with
 | zero =>
  intro a0 a w f f0 hm hf
  have q0:∀ i,i<N→a0.getD i false=true:=by
   intro i hi;have:=List.eq_nil_of_length_eq_zero hm;have h2:=List.eq_nil_iff_forall_not_mem.1 this i;simp only [List.mem_filter,List.mem_range,not_and,Bool.not_eq_true',Bool.not_eq_false] at h2;exact h2 hi
  refine nB ht f N a0 a w oM (Nat.le_refl _) f0.size q0 (λ x hx u0=>?_) ?_
  ·have:=f0.rest x hx;rw [Array.getD_eq_getD_getElem?] at this ⊢
   cases hy:a0[x]? with
   | none=>rw [Array.getElem?_eq_none_iff] at hy;have:=f0.size;omega
   | some b=>simpa [hy] using this
  ·refine (v0 w (by have:=f0.inv;rw [q0 A hA] at this;exact this)).out ⟨f0.defers,f0.tmps,λ t v hv=>?_⟩;rcases kL hv with ⟨j,hj,h1,rfl⟩|h3
   ·have z1:=(fC.1 hj).2;exact f0.did j oM (q0 j oM) t h1
   ·exact f0.get t v h3
 | succ m ih =>
  intro a0 a w f f0 hm hf
  have k0:∃ i,i<N∧a0.getD i false=false:=by
   have w1:((List.range N).filter λ i=>!(a0.getD i false))≠[]:=by intro h0;rw [h0] at hm;simp at hm
   obtain ⟨i,hi⟩:=List.exists_mem_of_ne_nil _ w1;simp only [List.mem_filter,List.mem_range,Bool.not_eq_true'] at hi;exact ⟨i,hi.1,hi.2⟩
  obtain ⟨f',rfl⟩:∃ f',f=f'+1:=⟨f-1,oM⟩
  have m0:∀ j,j∈Region.ready .any l.toArray a0→j<N∧a0.getD j false=false:=by
   intro j hj;obtain ⟨h3,o,h4,h5⟩:=cT.1 hj;have y2:j<l.length:=(List.getElem?_eq_some_iff.1 h4).1
   have z2:a0.getD j false=false:=by
    rw [Array.getD_eq_getD_getElem?] at h3 ⊢
    cases hx:a0[j]? with
    | none=>simp
    | some b=>simpa [hx] using h3
   refine ⟨?_,z2⟩;rcases Nat.lt_or_ge j N with h|h
   ·exact h
   ·exfalso;obtain ⟨o2,h6,_,h7⟩:=ht j h y2;rw [h4] at h6;cases h6;obtain ⟨i,hi,f2⟩:=k0;by_cases z1:j=N
    ·subst z1;have:=h5 i (z0 o h4 i hi);rw [f2] at this;cases this
    ·have h8:=h5 (j-1) (h7.resolve_left z1);rw [f0.rest (j-1) oM] at h8;cases h8
  have y0:Region.ready .any l.toArray a0≠[]:=by
   have key:∀ k i,i≤k→i<N→a0.getD i false=false→∃ j,j∈Region.ready .any l.toArray a0:=by
    intro k
    induction k with
    | zero =>
     intro i hi n0 hl;obtain ⟨o,ho,_,g0⟩:=(hh i n0).ex;refine ⟨i,cT.2 ⟨?_,o,ho,λ x hx=>?_⟩⟩
     ·rw [Array.getD_eq_getD_getElem?] at hl ⊢
      cases hx:a0[i]? with
      | none=>rw [Array.getElem?_eq_none_iff] at hx;have:=f0.size;omega
      | some b=>simpa [hx] using hl
     ·have:=g0 x hx;omega
    | succ k ihk =>
     intro i hi n0 hl;obtain ⟨o,ho,_,g0⟩:=(hh i n0).ex;by_cases hx:∃ x∈bH o,a0.getD x false=false
     ·obtain ⟨x,u1,u0⟩:=hx;have:=g0 x u1;exact ihk x oM oM u0
     ·refine ⟨i,cT.2 ⟨?_,o,ho,λ x u1=>?_⟩⟩
      ·rw [Array.getD_eq_getD_getElem?] at hl ⊢
       cases hx:a0[i]? with
       | none=>rw [Array.getElem?_eq_none_iff] at hx;have:=f0.size;omega
       | some b=>simpa [hx] using hl
      ·cases hv:a0.getD x false with
       | true=>rfl
       | false=>exact absurd ⟨x,u1,hv⟩ hx
   obtain ⟨i,hi,f2⟩:=k0;obtain ⟨j,hj⟩:=key i i (Nat.le_refl _) hi f2;intro h0;rw [h0] at hj;cases hj
  refine ⟨λ h0=>absurd h0 y0,λ i s2=>?_⟩;obtain ⟨n0,u2⟩:=m0 i s2;obtain ⟨_,o,ho,w2⟩:=cT.1 s2;obtain ⟨o',q2,hd,g0⟩:=(hh i n0).ex;rw [ho] at q2;cases q2;have r1:mB l i=o.dst:=by simp [mB,ho]
  have o0:=d3 i n0;unfold DetA at o0;simp only [ho] at o0
  have g2:Fits n (iY l vs (lC (bH o)) e) a:=⟨f0.defers,f0.tmps,λ t v hv=>by
   rcases kL hv with ⟨j,hj,h1,rfl⟩|h3
   ·have r2:=fE.1 hj;exact f0.did j (by have:=g0 j r2;omega) (w2 j r2) t h1
   ·exact f0.get t v h3⟩
  have i0:=(o0 (a0.getD A false) w (λ e=>by rw [← e];exact u2) f0.inv).out g2;unfold wpOpIn;rw [show l.toArray[i]? = some o by simpa using ho];simp only
  have l0:∀ a' w',iG n (detQ o.dst (vs.getD i undef) (I (a0.getD A false || Nat.beq i A))) .normal a' w'→(∃ v,a'.tmps=(a.put o.dst v).tmps)→wpAnyIn (FR Rn.ro) 0 P .any l.toArray (iG n Q) f' (a0.setIfInBounds i true) a' w':=by
   rintro a' w' ⟨e',j2,hv,s1⟩ ⟨u,hu⟩
   have j0:∀ t,o.dst≠some t→a'.tmps.getD t undef=a.tmps.getD t undef:=λ t x2=>by
    rw [hu]
    cases j1:o.dst with
    | none=>rfl
    | some d =>
     rw [jN (by rw [f0.tmps];exact (hd d j1).1),if_neg (λ h=>x2 (by rw [j1,h]))]
   have g3:I ((a0.setIfInBounds i true).getD A false) w':=by
    have x0:i<a0.size:=by rw [f0.size];exact (List.getElem?_eq_some_iff.1 ho).1
    by_cases d2:A=i
    ·subst d2;have e1:(a0.setIfInBounds A true).getD A false=true:=by simp [Array.getD_eq_getD_getElem?,x0]
     rw [e1];rw [Nat.beq_refl,Bool.or_true] at s1;exact s1
    ·rw [eE d2]
     have e2:Nat.beq i A=false:=by
      cases hb:Nat.beq i A with
      | false=>rfl
      | true=>exact absurd (Nat.eq_of_beq_eq_true hb).symm d2
     rw [e2,Bool.or_false] at s1;exact s1
   refine ih (a0.setIfInBounds i true) a' w' f' ⟨by simp [f0.size],g3,j2.defers,j2.size,λ t v hv=>?_,λ j hj o1 d t0=>?_,λ j hj=>?_,λ j oj g1 o1 x hx=>?_⟩ ?_ oM
   ·rw [j0 t (λ h=>by rw [(hd t h).2.1] at hv;cases hv)];exact f0.get t v hv
   ·by_cases q1:j=i
    ·subst q1;rw [r1] at t0;exact j2.get d _ (hv d t0)
    ·rw [eE q1] at o1
     have w1:o.dst≠some d:=by
      intro j1;rcases Nat.lt_or_ge j i with h|h
      ·exact (hd d j1).2.2 j h t0
      ·obtain ⟨oj,g1,f3,_⟩:=(hh j hj).ex;have:mB l j=oj.dst:=by simp [mB,g1]
       rw [this] at t0;exact (f3 d t0).2.2 i oM (by rw [r1];exact j1)
     rw [j0 d w1];exact f0.did j hj o1 d t0
   ·rw [eE oM];exact f0.rest j hj
   ·by_cases s0:x=i
    ·subst s0;have x0:x<a0.size:=by rw [f0.size];exact (List.getElem?_eq_some_iff.1 ho).1
     simp [Array.getD_eq_getD_getElem?,x0]
    ·rw [eE s0];by_cases q1:j=i
     ·subst q1;rw [ho] at g1;cases g1;exact w2 x hx
     ·rw [eE q1] at o1;exact f0.closed j oj g1 o1 x hx
   ·have p0:∀ (L:List Nat),L.Nodup→i∈L→(L.filter λ j=>!((a0.setIfInBounds i true).getD j false)).length+1=(L.filter λ j=>!(a0.getD j false)).length:=by
     intro L
     induction L with
     | nil=>intro _ h;cases h
     | cons x xs ihx =>
      intro x1 y1;rw [List.nodup_cons] at x1;have x0:i<a0.size:=by rw [f0.size];exact (List.getElem?_eq_some_iff.1 ho).1
      by_cases s0:x=i
      ·subst s0
       have f1:(xs.filter λ j=>!((a0.setIfInBounds x true).getD j false))=xs.filter λ j=>!(a0.getD j false):=by
        apply List.filter_congr;intro y hy;rw [eE (λ (h:y=x)=>x1.1 (by rw [← h];exact hy))]
       have h1:(a0.setIfInBounds x true).getD x false=true:=by simp [Array.getD_eq_getD_getElem?,x0]
       rw [List.filter_cons_of_neg (by simp [h1]),f1,List.filter_cons_of_pos (by simp [u2])];simp
      ·have m1:i∈xs:=by
        rcases List.mem_cons.1 y1 with h|h
        ·exact absurd h.symm s0
        ·exact h
       have:=ihx x1.2 m1;have u0:(a0.setIfInBounds i true).getD x false=a0.getD x false:=eE s0
       cases hc:a0.getD x false with
       | true=>rw [List.filter_cons_of_neg (by simp [u0,hc]),List.filter_cons_of_neg (by simp [hc])];exact this
       | false=>rw [List.filter_cons_of_pos (by simp [u0,hc]),List.filter_cons_of_pos (by simp [hc])];simp only [List.length_cons];omega
    have:=p0 (List.range N) List.nodup_range (List.mem_range.2 n0);omega
  unfold wpListIn at i0;split
  ·rename_i hw;rw [if_pos hw] at i0
   exact (Oper.wpIn_mono (λ a' w' hh=>l0 a' w' hh.1 hh.2) (wp_swap (wp_frame i0) (λ x a w hx hq=>by
     refine (lift_no hq λ e0 w0 hq=>?_).elim
     cases x<;>first|exact absurd rfl hx|exact hq)))
  ·rename_i hw;rw [if_neg hw] at i0;exact ⟨i0.1,l0 _ _ i0.2 ⟨undef,by cases o.dst<;>rfl⟩⟩
theorem T.detA {g0:Nat} {w0:World} (N A:Nat) (vs:List Value) (I:Bool→World→Prop) [hm:Mixed P] (hc:(headDet l e n 0 N&&mV l N N (l.length-N)&&Nat.ble N l.length&&sinkDet l N&&Nat.blt A N)=true) (h0:∀ w,Grow w0 w→I false w)
  (i0:AllDetA P n l e I vs A 0 N) (a0:∀ w,I true w→TL P n l.toArray (l.drop N) (iY l vs (mY 0 N) e) w Q):T P n (.region g0 l.toArray true) e w0 Q:=by
 simp only [Bool.and_eq_true] at hc;obtain ⟨⟨⟨⟨l0,k0⟩,f0⟩,e0⟩,j0⟩:=hc;refine T.mk λ a ha=>wpIn_region_any hm.h ?_
 refine detA_runs (N:=N) (Nat.le_of_ble_eq_true f0) (λ i hi=>headDet_at l0 i (Nat.zero_le _) oM) (λ o ho i hi=>?_) (λ j h1 h2=>lM k0 j h1 oM) (λ i hi=>allDetA_at i0 i (Nat.zero_le _) oM) (Nat.le_of_ble_eq_true j0) a0
  N (Array.replicate l.toArray.size false) a _ _ ⟨sM,(by
   have e1:(Array.replicate l.toArray.size false).getD A false=false:=by
    rw [Array.getD_eq_getD_getElem?];rcases Nat.lt_or_ge A l.length with hi|hi
    ·simp [hi]
    ·simp [hi]
   rw [e1];exact h0 _ (Grow.drew _)),ha.defers,ha.size,ha.get,λ i _ h=>?_,λ i _=>?_,λ j o _ h x _=>?_⟩ ?_ ?_
 ·unfold sinkDet at e0;rw [ho] at e0;exact any_beq.1 (List.all_eq_true.1 e0 i (fC.2 ⟨Nat.zero_le _,oM⟩))
 ·exfalso;rw [Array.getD_eq_getD_getElem?] at h;rcases Nat.lt_or_ge i l.length with hi|hi
  ·simp [hi] at h
  ·simp [hi] at h
 ·rw [Array.getD_eq_getD_getElem?];rcases Nat.lt_or_ge i l.length with hi|hi
  ·simp [hi]
  ·simp [hi]
 ·exfalso;rw [Array.getD_eq_getD_getElem?] at h;rcases Nat.lt_or_ge j l.length with hi|hi
  ·simp [hi] at h
  ·simp [hi] at h
 ·have:((List.range N).filter λ i=>!((Array.replicate l.toArray.size false).getD i false))=List.range N:=by
   rw [List.filter_eq_self];intro i hi;rw [Array.getD_eq_getD_getElem?];rcases Nat.lt_or_ge i l.length with hi|hi
   ·simp [hi]
   ·simp [hi]
  rw [this];simp
 ·have:=Nat.le_of_ble_eq_true f0;simp;omega
end
end Go.V
namespace Go.Proofs.YtfpadnmdafiddaaGreatDoor
open Go Go.RowKit Go.V
structure Two (G:Nat→Prop) (w0:World) (b3 b5 b6 b8:Nat) (w:World) (X Y:NV) (NA NB:Nd) (ka:Option Addr) (kn kc:Nat) (key:Bs):Prop where
 e3:Blk w b3 79 X.cs
 e5:Blk w b5 79 Y.cs
 e6:Blk w b6 79 nil3
 e8:Blk w b8 79 nil3
 hx:NdAt G w X NA
 hy:NdAt G w Y NB
 hk:Sl G w 1 ka kn kc (bB key)
 hg:Grow w0 w
 out:∀ k,G k→k≠b3∧k≠b5∧k≠b6∧k≠b8
 ne:b3≠b5∧b3≠b6∧b3≠b8∧b5≠b6∧b5≠b8∧b6≠b8
 le:w0.heap.size≤b3∧w0.heap.size≤b5∧w0.heap.size≤b6∧w0.heap.size≤b8
section
variable {G:Nat→Prop} {w0 w w':World} {b3 b5 b6 b8:Nat} {X Y Z:NV} {NA NB NC:Nd} {ka:Option Addr} {kn kc:Nat} {key:Bs}
theorem Two.grow (S:Two G w0 b3 b5 b6 b8 w X Y NA NB ka kn kc key) (g:Grow w w'):Two G w0 b3 b5 b6 b8 w' X Y NA NB ka kn kc key :=
 ⟨S.e3.grow g,S.e5.grow g,S.e6.grow g,S.e8.grow g,S.hx.go (Carry.grow g),S.hy.go (Carry.grow g),S.hk.grow g,S.hg.trans g,S.out,S.ne,S.le⟩
theorem NdAt.nums {F:Nat→Prop} {w:World} {x:NV} {nd:Nd} (h:NdAt F w x nd):x.n1=nd.items.length∧x.n2=nd.kids.length∧x.n3=nd.keys.length:=⟨h.its.len,bR h.kids,h.kys.len⟩
end
end Go.Proofs.YtfpadnmdafiddaaGreatDoor
