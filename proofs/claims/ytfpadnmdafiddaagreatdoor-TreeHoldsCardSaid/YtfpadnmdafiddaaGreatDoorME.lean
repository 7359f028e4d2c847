import Derived.Test.YtfpadnmdafiddaaGreatDoorMC
import Derived.Test.YtfpadnmdafiddaaGreatDoorMD
set_option linter.all false
set_option maxHeartbeats 16000000
set_option maxRecDepth 100000
namespace Go.Proofs.YtfpadnmdafiddaaGreatDoor
open Go Go.RowKit Go.V
structure Two (G:Nat→Prop) (w0:World) (b3 b5 b6 b8:Nat) (w:World) (X Y:NV) (NA NB:Nd) (ka:Option Addr) (kn kc:Nat) (key:Bs):Prop where
 e3:Blk w b3 79 X.cs
 e5:Blk w b5 79 Y.cs
 e6:Blk w b6 79 nil3
 e8:Blk w b8 79 nil3
 hx:NdAt G w X NA
 hy:NdAt G w Y NB
 hk:Sl G w 1 ka kn kc (cX key)
 hg:Grow w0 w
 out:∀ k,G k→k≠b3∧k≠b5∧k≠b6∧k≠b8
 ne:b3≠b5∧b3≠b6∧b3≠b8∧b5≠b6∧b5≠b8∧b6≠b8
 le:w0.heap.size≤b3∧w0.heap.size≤b5∧w0.heap.size≤b6∧w0.heap.size≤b8
section
variable {G:Nat→Prop} {w0 w w':World} {b3 b5 b6 b8:Nat} {X Y Z:NV} {NA NB NC:Nd} {ka:Option Addr} {kn kc:Nat} {key:Bs}
theorem Two.grow (S:Two G w0 b3 b5 b6 b8 w X Y NA NB ka kn kc key) (g:Grow w w'):Two G w0 b3 b5 b6 b8 w' X Y NA NB ka kn kc key :=
 ⟨S.e3.grow g,S.e5.grow g,S.e6.grow g,S.e8.grow g,S.hx.go (Carry.grow g),S.hy.go (Carry.grow g),S.hk.grow g,S.hg.trans g,S.out,S.ne,S.le⟩
theorem Two.setA (S:Two G w0 b3 b5 b6 b8 w X Y NA NB ka kn kc key) (u:Upd b3 w w') (hb:Blk w' b3 79 Z.cs) (hz:NdAt G w Z NC):Two G w0 b3 b5 b6 b8 w' Z Y NC NB ka kn kc key:=by
 have c:Carry G w G w':=Carry.upd u λ k hk _=>(S.out k hk).1
 obtain ⟨n1,n2,n3,n4,n5,n6⟩:=S.ne
 exact ⟨hb,S.e5.upd u (Ne.symm n1),S.e6.upd u (Ne.symm n2),S.e8.upd u (Ne.symm n3),hz.go c,S.hy.go c,S.hk.go c,aX u S.le.1 S.hg,S.out,S.ne,S.le⟩
theorem Two.setB (S:Two G w0 b3 b5 b6 b8 w X Y NA NB ka kn kc key) (u:Upd b5 w w') (hb:Blk w' b5 79 Z.cs) (hz:NdAt G w Z NC):Two G w0 b3 b5 b6 b8 w' X Z NA NC ka kn kc key:=by
 have c:Carry G w G w':=Carry.upd u λ k hk _=>(S.out k hk).2.1
 obtain ⟨n1,n2,n3,n4,n5,n6⟩:=S.ne
 exact ⟨S.e3.upd u n1,hb,S.e6.upd u (Ne.symm n4),S.e8.upd u (Ne.symm n5),S.hx.go c,hz.go c,S.hk.go c,aX u S.le.2.1 S.hg,S.out,S.ne,S.le⟩
theorem NdAt.nums {F:Nat→Prop} {w:World} {x:NV} {nd:Nd} (h:NdAt F w x nd):x.n1=nd.items.length∧x.n2=nd.kids.length∧x.n3=nd.keys.length:=⟨h.its.len,eI h.kids,h.kys.len⟩
theorem retCTC {P:Program} {e:dQ} {w:World} {s t s2 t2 u:Nat} {p p2:Addr} {v v2 x:Value} {R:Ending→World→Prop} (h:find e s=some (.pointer (some p))) (hl:(loadVar t p).run P w=.ok v w) (h2:find e u=some x) (h':find e s2=some (.pointer (some p2))) (hl':(loadVar t2 p2).run P w=.ok v2 w) (hR:R (.returned (.tuple #[v,x,v2])) w):retQ P [.cell s t,.tmp u,.cell s2 t2] R .ret e w :=
 jI (vs:=[v,x,v2]) ⟨v,[x,v2],rfl,⟨p,h,hl⟩,x,[v2],rfl,h2,v2,[],rfl,⟨p2,h',hl'⟩,rfl⟩ rfl hR
end
theorem tforth_c (F:Nat→Prop) (w:World) (hF:∀ k,w.heap.size≤k→F k) (x y:NV) (na nb:Nd) (ka:Option Addr) (kn kc:Nat) (key:Bs) (hx:NdAt F w x na) (hy:NdAt F w y nb) (hk:Sl F w 1 ka kn kc (cX key)) (hsx:na.items.length≤1000∧na.kids.length≤1000∧na.keys.length≤1000) (hsy:nb.items.length≤1000∧nb.kids.length≤1000∧nb.keys.length≤1000)
  (hl:cK na=true→1≤na.items.length) (hb:cK na=false→2≤na.kids.length∧na.keys.length+1=na.kids.length) :
  Calls Tryz.prog 192 #[x.val,.slice ka kn kc,y.val] w (Ret λ v w'=>(∃ (x' y':NV) (kv:Value),v=.tuple #[x'.val,kv,y'.val]∧NdAt F w' x' (gC na key nb).1∧NdAt F w' y' (gC na key nb).2.2∧BsAt F w' kv (gC na key nb).2.1)∧Grow w w'):=by
 obtain ⟨nx1,nx2,nx3⟩:=hx.nums
 obtain ⟨ny1,ny2,ny3⟩:=hy.nums
 refine V.calls (args:=[_,_,_]) Tryz.func192 rfl Tryz.ntmps192 rfl rfl ?_
 repeat (first|(refine aD ?_;refine TL.pure rfl rfl ?_)|(refine aY ?_;refine bK rfl yB (by exact rfl) rfl ?_)|refine TL.nil ?_|refine aA ?_|refine aJ ?_|refine aC ?_|(refine cD ?_;(refine dP rfl rfl ?_;intro bk w' hg hbk hsz hsz'))|(refine bF ?_;(refine TL.alloc rfl rfl ?_;intro bk w' hg hbk hsz hsz')))
 rename_i b3 w1 g1 k1 p1 p1' b5 w2 g2 k2 p2 p2' b6 w3 g3 k3 p3 p3'
 obtain ⟨b8,rfl⟩:∃ z,z=bk:=⟨bk,rfl⟩
 obtain ⟨G,hG⟩:∃ G:Nat→Prop,∀ k,G k↔F k∧k≠b3∧k≠b5∧k≠b6∧k≠b8:=⟨_,λ _=>Iff.rfl⟩
 have hgr0:Grow w w':=g1.trans (g2.trans (g3.trans hg))
 have cg:Carry F w G w':=(Carry.mono (λ k hk hl=>(hG k).2 ⟨hk,by omega,by omega,by omega,by omega⟩)).trans (Carry.grow hgr0)
 have S:Two G w b3 b5 b6 b8 w' x y na nb ka kn kc key:=⟨k1.grow (g2.trans (g3.trans hg)),k2.grow (g3.trans hg),k3.grow hg,hbk,hx.go cg,hy.go cg,hk.go cg,hgr0,λ k hk=>((hG k).1 hk).2,by omega,by omega⟩
 have zw:=hgr0.size
 obtain ⟨Z0,hZ0⟩:∃ n,n=w'.heap.size:=⟨_,rfl⟩
 have hGF:∀ wq:World,Z0≤wq.heap.size→∀ k,wq.heap.size≤k→G k:=λ wq hq k hk=>(hG k).2 ⟨hF k (by omega),by omega,by omega,by omega,by omega⟩
 have qb:b3<Z0∧b5<Z0∧b6<Z0∧b8<Z0:=by omega
 have qw:w.heap.size≤Z0:=by omega
 have hGout:∀ wq:World,Carry G wq F wq:=λ wq=>Carry.mono λ k hk _=>((hG k).1 hk).1
 clear hbk hg g1 g2 g3 k1 k2 k3 cg hgr0 p1 p1' p2 p2' p3 p3' hsz hsz'
 have hwZ:Z0≤w'.heap.size:=by omega
 have e3:=S.e3
 have e5:=S.e5
 cases hlf:cK na with
 | true =>
  have hl1:=hl hlf
  rw [show gC na key nb=(⟨cO na.items (na.items.length-1) (na.items.length-1+1),na.kids,na.keys⟩,((dH nb.items 0 [na.items.getD (na.items.length-1) ([],[])]).getD 0 ([],[])).1,⟨dH nb.items 0 [na.items.getD (na.items.length-1) ([],[])],nb.kids,nb.keys⟩) by simp only [gC,hlf,if_true]]
  repeat (first|(refine aD ?_;refine TL.pure rfl rfl ?_)|refine aK rfl yM rfl ?_|refine aF rfl rfl ?_|(refine cN ?_;refine dN rfl rfl (by omega) (by omega) rfl ?_)|refine TL.nil ?_|refine aA ?_|refine aJ ?_|refine aC ?_|refine aO rfl rfl ?_|refine aM rfl ?_|(refine aL 80 ?_;refine aI rfl (fC S.hx hlf _) rfl ?_;rintro _ _ ⟨rfl,hgc⟩))
  rename_i wA
  replace S:=S.grow hgc
  have zA:=hgc.size
  clear e3 e5 hgc
  have e3:=S.e3
  have e5:=S.e5
  have hrow:=S.hx.its
  obtain ⟨el,hel⟩:∃ q,na.items[(x.n1-1)]? = some q:=⟨_,List.getElem?_eq_getElem (by omega)⟩
  obtain ⟨ecs,hes,hec⟩:=hrow.ex
  obtain ⟨ekv,evv,f0,f1,hek,hev⟩:=hec.at' hel
  obtain ⟨eka,ekc,rfl,heks⟩:=hek.sl
  obtain ⟨eva,evc,rfl,hevs⟩:=hev.sl
  rw [Nat.mul_comm] at f0 f1
  have eel:na.items.getD (x.n1-1) ([],[])=el:=by rw [List.getD_eq_getElem?_getD,hel];rfl
  apply T.any 9 [is (.pointer (some ⟨b5,0,none⟩)),is (.slice y.a1 y.n1 y.c1),is (.pointer (some ⟨b3,0,none⟩)),is (.slice x.a1 x.n1 x.c1),is (.int .i64 ((((x.n1-1):Nat)):Int)),is (.pointer (some (at' x.a1 ((x.n1-1)*2)))),is (.agg #[.slice eka el.1.length ekc,.slice eva el.2.length evc]),itsF G 1 [el],itsF G (y.n1+1) (dH nb.items 0 [el])]
  ·rfl
  ·repeat' (first|exact bW|refine bU ?_ ?_)
   iterate 5
    ·(refine aR rfl rfl rfl ?_);( intro wq _ _ hgq;(repeat (refine aG rfl rfl ?_;intro vq hvq;try (obtain rfl:=hvq)));(refine aN ?_))
     repeat (first|(refine aB ?_;refine TL.pure rfl rfl ?_)|refine aK rfl yM rfl ?_|refine aF rfl rfl ?_|refine TL.nil ?_)
     exact aT rfl yG rfl
   ·(refine aR rfl rfl rfl ?_);( intro wq _ _ hgq;(repeat (refine aG rfl rfl ?_;intro vq hvq;try (obtain rfl:=hvq)));(refine aN ?_))
    repeat (first|(refine bC ?_;refine aV (j:=(x.n1-1)) rfl rfl rfl (by omega) rfl ⟨_,_,hes.grow hgq⟩ rfl ?_)|refine TL.nil ?_)
    exact aT rfl yG rfl
   ·(refine aR rfl rfl rfl ?_);( intro wq _ _ hgq;(repeat (refine aG rfl rfl ?_;intro vq hvq;try (obtain rfl:=hvq)));(refine aN ?_))
    repeat (first|(refine aY ?_;refine eL (o:=(x.n1-1)*2) rfl (hes.grow hgq) (two_at f0 f1) rfl rfl ?_)|refine TL.nil ?_)
    exact aT rfl yG rfl
   ·(refine aR rfl rfl rfl ?_);( intro wq _ _ hgq;(repeat (refine aG rfl rfl ?_;intro vq hvq;try (obtain rfl:=hvq)));(refine aN ?_))
    have zq:=hgq.size
    refine TL.buildSlice rfl rfl rfl rfl rfl ?_
    intro b' wa hga hba hsa hsb hsc
    have hit:ItsAt G wa (some ⟨b',0,none⟩) 1 1 [el]:=⟨_,(bR (sz:=2) (m:=1) (show Blk wa b' 58 [.slice eka el.1.length ekc,.slice eva el.2.length evc] from hba) rfl (by decide)).mono (λ k hk=>by subst hk;exact (hG _).2 ⟨hF _ (by omega),by omega,by omega,by omega,by omega⟩),⟨_,_,_,rfl,(heks.grow hgq).grow hga⟩,⟨_,_,_,rfl,(hevs.grow hgq).grow hga⟩,trivial⟩
    repeat (refine TL.nil ?_)
    exact aT rfl yG ⟨_,_,rfl,hit⟩
   ·refine aR rfl rfl rfl ?_
    intro wq _ _ hgq
    refine aG rfl rfl ?_
    intro v1 q1
    obtain rfl:=q1
    refine aG rfl rfl ?_
    rintro vl ⟨al,cl,rfl,hl1⟩
    refine aN ?_
    refine aL 99 ?_
    refine aI rfl (insI_c (F:=G) (hGF _ (by have:=hgq.size;omega)) y.a1 al y.n1 y.c1 1 cl 0 nb.items [el] (S.hy.its.go (Carry.grow hgq)) hl1 (by omega) (by omega)) rfl ?_
    rintro v' wr ⟨⟨a7,c7,rfl,hi⟩,hgr⟩
    repeat (refine TL.nil ?_)
    exact aT rfl yG ⟨a7,c7,rfl,hi⟩
  ·intro wt lot hit' hgt _ _
   iterate 8 (refine aG rfl rfl ?_;intro vq hvq;try (obtain rfl:=hvq))
   refine aG rfl rfl ?_
   rintro vt ⟨av,cv,rfl,hnew⟩
   refine aN ?_
   clear hvq
   have zt:=hgt.size
   replace S:=S.grow hgt
   clear e3 e5 hgt hes heks hevs hec hek hev hrow
   have e3:Blk _ b3 79 [.slice x.a1 x.n1 x.c1,.slice x.a2 x.n2 x.c2,.slice x.a3 x.n3 x.c3]:=S.e3
   have e5:Blk _ b5 79 [.slice y.a1 y.n1 y.c1,.slice y.a2 y.n2 y.c2,.slice y.a3 y.n3 y.c3]:=S.e5
   repeat (first|refine aF rfl rfl ?_|refine TL.nil ?_|refine aA ?_|refine aJ ?_|refine aC ?_|(refine aP ?_;(refine bQ rfl rfl yB (by exact rfl) (by exact rfl) (by exact rfl) ?_;intro w' hu hbk hsz)))
   obtain ⟨av1,rfl⟩:∃ q,q=av:=⟨_,rfl⟩
   obtain ⟨cv1,rfl⟩:∃ q,q=cv:=⟨_,rfl⟩
   have S':=S.setB (Z:=⟨av1,(y.n1+1),cv1,y.a2,y.n2,y.c2,y.a3,y.n3,y.c3⟩) (NC:=⟨dH nb.items 0 [el],nb.kids,nb.keys⟩) hu hbk ⟨hnew,S.hy.kids,S.hy.kys⟩
   have zu:=hu.size
   have ln1:=fF (l:=nb.items) (x:=[el]) (i:=0) (by omega)
   try simp only [List.length_cons,List.length_nil] at ln1
   obtain ⟨nb1,he1,S2⟩:∃ (N:Nd),N=⟨dH nb.items 0 [el],nb.kids,nb.keys⟩∧Two G w b3 b5 b6 b8 w' ⟨x.a1,x.n1,x.c1,x.a2,x.n2,x.c2,x.a3,x.n3,x.c3⟩ ⟨av1,(y.n1+1),cv1,y.a2,y.n2,y.c2,y.a3,y.n3,y.c3⟩ na N ka kn kc key:=⟨_,rfl,S'⟩
   obtain ⟨m11,m12,m13⟩:=S2.hy.nums
   rw [he1] at m11 m12 m13
   simp only at m11 m12 m13
   obtain ⟨t11,t12,t13⟩:nb1.items.length=(dH nb.items 0 [el]).length∧nb1.kids.length=(nb.kids).length∧nb1.keys.length=(nb.keys).length:=by rw [he1];exact ⟨rfl,rfl,rfl⟩
   have hwZ1:Z0≤w'.heap.size:=by omega
   clear hu hbk hnew S S' hsz e3 e5
   obtain ⟨w10,rfl⟩:∃ z,z=w':=⟨w',rfl⟩
   have S:=S2
   clear S2
   have e3:Blk _ b3 79 [.slice x.a1 x.n1 x.c1,.slice x.a2 x.n2 x.c2,.slice x.a3 x.n3 x.c3]:=S.e3
   have e5:Blk _ b5 79 [.slice av1 (y.n1+1) cv1,.slice y.a2 y.n2 y.c2,.slice y.a3 y.n3 y.c3]:=S.e5
   repeat (first|(refine aB ?_;refine TL.pure rfl rfl ?_)|refine aK rfl yM rfl ?_|(refine bL ?_;refine bT rfl rfl (by omega) rfl ?_))
   refine aL 81 ?_
   refine aI rfl (cutI_c (F:=G) (hGF _ (by omega)) x.a1 x.n1 x.c1 (x.n1-1) (x.n1-1+1) na.items S.hx.its (by omega) (by omega) (by omega)) rfl ?_
   rintro _ wr ⟨⟨av,cv,rfl,hnew⟩,hgr⟩
   replace S:=S.grow hgr
   have zr:=hgr.size
   clear e3 e5 hgr
   have e3:Blk _ b3 79 [.slice x.a1 x.n1 x.c1,.slice x.a2 x.n2 x.c2,.slice x.a3 x.n3 x.c3]:=S.e3
   have e5:Blk _ b5 79 [.slice av1 (y.n1+1) cv1,.slice y.a2 y.n2 y.c2,.slice y.a3 y.n3 y.c3]:=S.e5
   repeat (first|refine aF rfl rfl ?_|refine TL.nil ?_|refine aA ?_|refine aJ ?_|(refine aP ?_;(refine bQ rfl rfl yB (by exact rfl) (by exact rfl) (by exact rfl) ?_;intro w' hu hbk hsz)))
   obtain ⟨av2,rfl⟩:∃ q,q=av:=⟨_,rfl⟩
   obtain ⟨cv2,rfl⟩:∃ q,q=cv:=⟨_,rfl⟩
   have S':=S.setA (Z:=⟨av2,(x.n1-((x.n1-1+1)-(x.n1-1))),cv2,x.a2,x.n2,x.c2,x.a3,x.n3,x.c3⟩) (NC:=⟨cO na.items (x.n1-1) (x.n1-1+1),na.kids,na.keys⟩) hu hbk ⟨hnew,S.hx.kids,S.hx.kys⟩
   have zu:=hu.size
   have ln2:=eG (l:=na.items) (i:=(x.n1-1)) (j:=(x.n1-1+1)) (by omega) (by omega)
   try simp only [List.length_cons,List.length_nil] at ln2
   obtain ⟨na2,he2,S2⟩:∃ (N:Nd),N=⟨cO na.items (x.n1-1) (x.n1-1+1),na.kids,na.keys⟩∧Two G w b3 b5 b6 b8 w' ⟨av2,(x.n1-((x.n1-1+1)-(x.n1-1))),cv2,x.a2,x.n2,x.c2,x.a3,x.n3,x.c3⟩ ⟨av1,(y.n1+1),cv1,y.a2,y.n2,y.c2,y.a3,y.n3,y.c3⟩ N nb1 ka kn kc key:=⟨_,rfl,S'⟩
   obtain ⟨m21,m22,m23⟩:=S2.hx.nums
   rw [he2] at m21 m22 m23
   simp only at m21 m22 m23
   obtain ⟨t21,t22,t23⟩:na2.items.length=(cO na.items (x.n1-1) (x.n1-1+1)).length∧na2.kids.length=(na.kids).length∧na2.keys.length=(na.keys).length:=by rw [he2];exact ⟨rfl,rfl,rfl⟩
   have hwZ2:Z0≤w'.heap.size:=by omega
   clear hu hbk hnew S S' hsz e3 e5
   obtain ⟨w20,rfl⟩:∃ z,z=w':=⟨w',rfl⟩
   have S:=S2
   clear S2
   have e3:Blk _ b3 79 [.slice av2 (x.n1-((x.n1-1+1)-(x.n1-1))) cv2,.slice x.a2 x.n2 x.c2,.slice x.a3 x.n3 x.c3]:=S.e3
   have e5:Blk _ b5 79 [.slice av1 (y.n1+1) cv1,.slice y.a2 y.n2 y.c2,.slice y.a3 y.n3 y.c3]:=S.e5
   obtain ⟨q0,hq0⟩:∃ q,nb1.items[0]? = some q:=⟨_,List.getElem?_eq_getElem (by rw [he1];simp only;omega)⟩
   obtain ⟨qcs,hqs,hqc⟩:=S.hy.its.ex
   obtain ⟨kv,vv,f0',f1',hkb,_⟩:=hqc.at' hq0
   have hone:=hkb.one
   have hgS:=S.hg
   have o3:=S.out
   have o4:=S.ne
   have o5:=S.le
   refine dD (e':=[(3,_),(5,_),(6,_),(8,_)]) ?_ ⟨rfl,rfl,rfl,rfl,trivial⟩
   apply T.detA 9 7 [(.agg #[.slice av2 (x.n1-((x.n1-1+1)-(x.n1-1))) cv2,.slice x.a2 x.n2 x.c2,.slice x.a3 x.n3 x.c3]),(.pointer (some ⟨b5,0,none⟩)),(.slice av1 (y.n1+1) cv1),(.pointer (some (at' av1 0))),(.pointer (some (at' av1 0))),kv,(.agg #[.slice av1 (y.n1+1) cv1,.slice y.a2 y.n2 y.c2,.slice y.a3 y.n3 y.c3]),undef,kv]
    (λ b w1=>Blk w1 b3 79 [.slice av2 (x.n1-((x.n1-1+1)-(x.n1-1))) cv2,.slice x.a2 x.n2 x.c2,.slice x.a3 x.n3 x.c3]∧Blk w1 b5 79 [.slice av1 (y.n1+1) cv1,.slice y.a2 y.n2 y.c2,.slice y.a3 y.n3 y.c3]∧Blk w1 b6 79 (if b then [.slice av2 (x.n1-((x.n1-1+1)-(x.n1-1))) cv2,.slice x.a2 x.n2 x.c2,.slice x.a3 x.n3 x.c3] else nil3)∧Blk w1 b8 79 nil3∧Carry G w20 G w1∧Grow w w1)
   ·rfl
   ·exact λ w1 h1=>⟨S.e3.grow h1,S.e5.grow h1,S.e6.grow h1,S.e8.grow h1,Carry.grow h1,S.hg.trans h1⟩
   ·clear e3 e5
    repeat' (first|exact iE|refine gY ?_ ?_)
    ·refine cF rfl rfl rfl ?_
     rintro b wq _ ⟨i3,i5,i6,i8,ic,ig⟩
     have qe:=ig.size
     repeat (first|(refine aY ?_;refine bK rfl yB (by exact rfl) rfl ?_)|refine TL.nil ?_)
     refine bD rfl ?_
     rw [show (b || Nat.beq 0 7)=b from Bool.or_false b]
     exact ⟨i3,i5,i6,i8,ic,ig⟩
    ·refine cF rfl rfl rfl ?_
     rintro b wq _ ⟨i3,i5,i6,i8,ic,ig⟩
     have qe:=ig.size
     repeat (first|refine aF rfl rfl ?_|refine TL.nil ?_)
     refine bD rfl ?_
     rw [show (b || Nat.beq 1 7)=b from Bool.or_false b]
     exact ⟨i3,i5,i6,i8,ic,ig⟩
    ·refine cF rfl rfl rfl ?_
     rintro b wq _ ⟨i3,i5,i6,i8,ic,ig⟩
     have qe:=ig.size
     repeat (first|refine aK rfl yM rfl ?_|refine TL.nil ?_)
     refine bD rfl ?_
     rw [show (b || Nat.beq 2 7)=b from Bool.or_false b]
     exact ⟨i3,i5,i6,i8,ic,ig⟩
    ·refine cF rfl rfl rfl ?_
     rintro b wq _ ⟨i3,i5,i6,i8,ic,ig⟩
     have qe:=ig.size
     repeat (first|(refine bC ?_;refine aV (j:=0) rfl rfl rfl (by omega) rfl ⟨G,_,hqs.go ic⟩ rfl ?_)|refine TL.nil ?_)
     refine bD rfl ?_
     rw [show (b || Nat.beq 3 7)=b from Bool.or_false b]
     exact ⟨i3,i5,i6,i8,ic,ig⟩
    ·refine cF rfl rfl rfl ?_
     rintro b wq _ ⟨i3,i5,i6,i8,ic,ig⟩
     have qe:=ig.size
     repeat (first|(refine dU ?_;refine dV (o:=0) rfl (hqs.go ic) f0' rfl ?_)|refine TL.nil ?_)
     refine bD rfl ?_
     rw [show (b || Nat.beq 4 7)=b from Bool.or_false b]
     exact ⟨i3,i5,i6,i8,ic,ig⟩
    ·refine cF rfl rfl rfl ?_
     rintro b wq _ ⟨i3,i5,i6,i8,ic,ig⟩
     have qe:=ig.size
     have hcx:wq.cell? (at' av1 0)=some kv:=(hqs.go ic).row.cell f0'
     repeat (first|refine aK rfl yM rfl ?_|refine TL.nil ?_)
     refine bD rfl ?_
     rw [show (b || Nat.beq 5 7)=b from Bool.or_false b]
     exact ⟨i3,i5,i6,i8,ic,ig⟩
    ·refine cF rfl rfl rfl ?_
     rintro b wq _ ⟨i3,i5,i6,i8,ic,ig⟩
     have qe:=ig.size
     repeat (first|(refine aY ?_;refine bK rfl yB (by exact rfl) rfl ?_)|refine TL.nil ?_)
     refine bD rfl ?_
     rw [show (b || Nat.beq 6 7)=b from Bool.or_false b]
     exact ⟨i3,i5,i6,i8,ic,ig⟩
    ·refine cF rfl rfl rfl ?_
     rintro b wq hb ⟨i3,i5,i6,i8,ic,ig⟩
     obtain rfl:=hb rfl
     have qe:=ig.size
     have i6':Blk wq b6 79 nil3:=i6
     repeat (first|refine TL.nil ?_|(refine aP ?_;(refine bA rfl rfl yB (by exact rfl) (by exact rfl) (by exact rfl) ?_;intro w' hu hbk hsz)))
     refine iC ⟨i3.upd hu (by omega),i5.upd hu (by omega),hbk,i8.upd hu (by omega),ic.trans (Carry.upd hu (λ k hk _=>(o3 k hk).2.2.1)),aX hu (by omega) ig⟩
    ·refine cF rfl rfl rfl ?_
     rintro b wq _ ⟨i3,i5,i6,i8,ic,ig⟩
     have qe:=ig.size
     repeat (first|(refine aD ?_;refine TL.pure rfl rfl ?_)|refine TL.nil ?_)
     refine bD rfl ?_
     rw [show (b || Nat.beq 8 7)=b from Bool.or_false b]
     exact ⟨i3,i5,i6,i8,ic,ig⟩
   ·rintro w9 ⟨i3,i5,i6,i8,ic,ig⟩
    have i6':Blk w9 b6 79 [.slice av2 (x.n1-((x.n1-1+1)-(x.n1-1))) cv2,.slice x.a2 x.n2 x.c2,.slice x.a3 x.n3 x.c3]:=i6
    clear i6
    repeat (first|refine TL.nil ?_|refine aA ?_|(refine aP ?_;(refine bA rfl rfl yB (by exact rfl) (by exact rfl) (by exact rfl) ?_;intro w' hu hbk hsz))|refine bE ?_|refine bI ?_)
    have cf:Carry G w9 F w':=(Carry.upd hu (λ k hk _=>(o3 k hk).2.2.2)).trans (hGout _)
    refine retCTC rfl (bV (i6'.upd hu (by omega)) rfl) rfl rfl (bV hbk rfl) ⟨_,rfl,⟨⟨av2,(x.n1-((x.n1-1+1)-(x.n1-1))),cv2,x.a2,x.n2,x.c2,x.a3,x.n3,x.c3⟩,⟨av1,(y.n1+1),cv1,y.a2,y.n2,y.c2,y.a3,y.n3,y.c3⟩,kv,rfl,?_,?_,?_⟩,aX hu (by omega) ig⟩
    ·have:=(S.hx.go ic).go cf
     subst he2 he1
     try rw [← nx1]
     try rw [← nx2]
     try rw [← nx3]
     try rw [eel]
     exact this
    ·have:=(S.hy.go ic).go cf
     subst he2 he1
     try rw [← nx1]
     try rw [← nx2]
     try rw [← nx3]
     try rw [eel]
     exact this
    ·have:=(hkb.go ic).go cf
     have e0:q0=nb1.items.getD 0 ([],[]):=by rw [List.getD_eq_getElem?_getD,hq0];rfl
     rw [e0] at this
     subst he2 he1
     try rw [← nx1]
     try rw [eel]
     exact this
 | false =>
  obtain ⟨hb2,hb1⟩:=hb hlf
  rw [show gC na key nb=(⟨na.items,cO na.kids (na.kids.length-1) (na.kids.length-1+1),cO na.keys (na.kids.length-1-1) (na.kids.length-1)⟩,na.keys.getD (na.kids.length-1-1) [],⟨nb.items,dH nb.kids 0 [na.kids.getD (na.kids.length-1) 0],dH nb.keys 0 [key]⟩) by simp only [gC,hlf,Bool.false_eq_true,if_false]]
  repeat (first|(refine aD ?_;refine TL.pure rfl rfl ?_)|refine aK rfl yM rfl ?_|refine aF rfl rfl ?_|(refine cN ?_;refine dN rfl rfl (by omega) (by omega) rfl ?_)|refine TL.nil ?_|refine aA ?_|refine aJ ?_|refine aC ?_|refine aO rfl rfl ?_|refine aE rfl ?_|refine aW ?_|(refine aL 80 ?_;refine aI rfl (fC S.hx hlf _) rfl ?_;rintro _ _ ⟨rfl,hgc⟩))
  rename_i wA
  replace S:=S.grow hgc
  have zA:=hgc.size
  clear e3 e5 hgc
  have e3:=S.e3
  have e5:=S.e5
  have hrow:=S.hx.kids
  obtain ⟨el,hel⟩:∃ q,na.kids[(x.n2-1)]? = some q:=⟨_,List.getElem?_eq_getElem (by omega)⟩
  have hes:=hrow
  have f0:(cM na.kids)[(x.n2-1)]? = some (.int .i64 (el:Int)):=by rw [show cM na.kids=na.kids.map λ (k:Nat)=>(.int .i64 (k:Int):Value) from rfl,List.getElem?_map,hel];rfl
  have eel:na.kids.getD (x.n2-1) 0=el:=by rw [List.getD_eq_getElem?_getD,hel];rfl
  apply T.any 9 [is (.pointer (some ⟨b5,1,none⟩)),is (.slice y.a2 y.n2 y.c2),is (.pointer (some ⟨b3,1,none⟩)),is (.slice x.a2 x.n2 x.c2),is (.int .i64 ((((x.n2-1):Nat)):Int)),is (.pointer (some (at' x.a2 ((x.n2-1)*1)))),is (.int .i64 (el:Int)),kidF G 1 [el],kidF G (y.n2+1) (dH nb.kids 0 [el])]
  ·rfl
  ·repeat' (first|exact bW|refine bU ?_ ?_)
   iterate 5
    ·(refine aR rfl rfl rfl ?_);( intro wq _ _ hgq;(repeat (refine aG rfl rfl ?_;intro vq hvq;try (obtain rfl:=hvq)));(refine aN ?_))
     repeat (first|(refine aB ?_;refine TL.pure rfl rfl ?_)|refine aK rfl yM rfl ?_|refine aF rfl rfl ?_|refine TL.nil ?_)
     exact aT rfl yG rfl
   ·(refine aR rfl rfl rfl ?_);( intro wq _ _ hgq;(repeat (refine aG rfl rfl ?_;intro vq hvq;try (obtain rfl:=hvq)));(refine aN ?_))
    repeat (first|(refine bC ?_;refine aV (j:=(x.n2-1)) rfl rfl rfl (by omega) rfl ⟨_,_,hes.grow hgq⟩ rfl ?_)|refine TL.nil ?_)
    exact aT rfl yG rfl
   ·(refine aR rfl rfl rfl ?_);( intro wq _ _ hgq;(repeat (refine aG rfl rfl ?_;intro vq hvq;try (obtain rfl:=hvq)));(refine aN ?_))
    have hcx:wq.cell? (at' x.a2 ((x.n2-1)*1))=some (.int .i64 (el:Int)):=(hes.grow hgq).row.cell (by rw [Nat.mul_one];exact f0)
    repeat (first|refine aK rfl yM rfl ?_|refine TL.nil ?_)
    exact aT rfl yG rfl
   ·(refine aR rfl rfl rfl ?_);( intro wq _ _ hgq;(repeat (refine aG rfl rfl ?_;intro vq hvq;try (obtain rfl:=hvq)));(refine aN ?_))
    have zq:=hgq.size
    refine TL.buildSlice rfl rfl rfl rfl rfl ?_
    intro b' wa hga hba hsa hsb hsc
    have hit:Sl G wa 1 (some ⟨b',0,none⟩) 1 1 (cM [el]):=(bR (sz:=1) (m:=1) (show Blk wa b' 3 [.int .i64 (el:Int)] from hba) rfl (by decide)).mono (λ k hk=>by subst hk;exact (hG _).2 ⟨hF _ (by omega),by omega,by omega,by omega,by omega⟩)
    repeat (refine TL.nil ?_)
    exact aT rfl yG ⟨_,_,rfl,hit⟩
   ·refine aR rfl rfl rfl ?_
    intro wq _ _ hgq
    refine aG rfl rfl ?_
    intro v1 q1
    obtain rfl:=q1
    refine aG rfl rfl ?_
    rintro vl ⟨al,cl,rfl,hl1⟩
    refine aN ?_
    refine aL 96 ?_
    refine aI rfl (insN_c (F:=G) (hGF _ (by have:=hgq.size;omega)) y.a2 al y.n2 y.c2 1 cl 0 nb.kids [el] (S.hy.kids.grow hgq) hl1 (by omega) (by omega)) rfl ?_
    rintro v' wr ⟨⟨a7,c7,rfl,hi⟩,hgr⟩
    repeat (refine TL.nil ?_)
    exact aT rfl yG ⟨a7,c7,rfl,hi⟩
  ·intro wt lot hit' hgt _ _
   iterate 8 (refine aG rfl rfl ?_;intro vq hvq;try (obtain rfl:=hvq))
   refine aG rfl rfl ?_
   rintro vt ⟨av,cv,rfl,hnew⟩
   refine aN ?_
   clear hvq
   have zt:=hgt.size
   replace S:=S.grow hgt
   clear e3 e5 hgt hes hrow
   have e3:Blk _ b3 79 [.slice x.a1 x.n1 x.c1,.slice x.a2 x.n2 x.c2,.slice x.a3 x.n3 x.c3]:=S.e3
   have e5:Blk _ b5 79 [.slice y.a1 y.n1 y.c1,.slice y.a2 y.n2 y.c2,.slice y.a3 y.n3 y.c3]:=S.e5
   repeat (first|(refine aB ?_;refine TL.pure rfl rfl ?_)|refine aK rfl yM rfl ?_|refine aF rfl rfl ?_|refine TL.nil ?_|refine aA ?_|refine aJ ?_|refine aC ?_|(refine aP ?_;(refine bQ rfl rfl yB (by exact rfl) (by exact rfl) (by exact rfl) ?_;intro w' hu hbk hsz)))
   obtain ⟨av1,rfl⟩:∃ q,q=av:=⟨_,rfl⟩
   obtain ⟨cv1,rfl⟩:∃ q,q=cv:=⟨_,rfl⟩
   have S':=S.setB (Z:=⟨y.a1,y.n1,y.c1,av1,(y.n2+1),cv1,y.a3,y.n3,y.c3⟩) (NC:=⟨nb.items,dH nb.kids 0 [el],nb.keys⟩) hu hbk ⟨S.hy.its,hnew,S.hy.kys⟩
   have zu:=hu.size
   have ln1:=fF (l:=nb.kids) (x:=[el]) (i:=0) (by omega)
   try simp only [List.length_cons,List.length_nil] at ln1
   obtain ⟨nb1,he1,S2⟩:∃ (N:Nd),N=⟨nb.items,dH nb.kids 0 [el],nb.keys⟩∧Two G w b3 b5 b6 b8 w' ⟨x.a1,x.n1,x.c1,x.a2,x.n2,x.c2,x.a3,x.n3,x.c3⟩ ⟨y.a1,y.n1,y.c1,av1,(y.n2+1),cv1,y.a3,y.n3,y.c3⟩ na N ka kn kc key:=⟨_,rfl,S'⟩
   obtain ⟨m11,m12,m13⟩:=S2.hy.nums
   rw [he1] at m11 m12 m13
   simp only at m11 m12 m13
   obtain ⟨t11,t12,t13⟩:nb1.items.length=(nb.items).length∧nb1.kids.length=(dH nb.kids 0 [el]).length∧nb1.keys.length=(nb.keys).length:=by rw [he1];exact ⟨rfl,rfl,rfl⟩
   have hwZ1:Z0≤w'.heap.size:=by omega
   clear hu hbk hnew S S' hsz e3 e5
   obtain ⟨w10,rfl⟩:∃ z,z=w':=⟨w',rfl⟩
   have S:=S2
   clear S2
   have e3:Blk _ b3 79 [.slice x.a1 x.n1 x.c1,.slice x.a2 x.n2 x.c2,.slice x.a3 x.n3 x.c3]:=S.e3
   have e5:Blk _ b5 79 [.slice y.a1 y.n1 y.c1,.slice av1 (y.n2+1) cv1,.slice y.a3 y.n3 y.c3]:=S.e5
   repeat (refine aJ ?_)
   refine TL.buildSlice rfl rfl rfl rfl rfl ?_
   intro b' wa hga hba hsa hsb hsc
   have hba':Blk wa b' 30 [.slice ka kn kc]:=hba
   have hkl:=iD S.hk
   replace S:=S.grow hga
   have za:=hga.size
   have hit:KysAt G wa (some ⟨b',0,none⟩) 1 1 [key]:=⟨_,(bR (sz:=1) (m:=1) hba' rfl (by decide)).mono (λ k hk=>by subst hk;exact (hG _).2 ⟨hF _ (by omega),by omega,by omega,by omega,by omega⟩),⟨_,_,_,rfl,S.hk⟩,trivial⟩
   clear hba hba' hga hsa hsb hsc e3 e5
   have e3:Blk _ b3 79 [.slice x.a1 x.n1 x.c1,.slice x.a2 x.n2 x.c2,.slice x.a3 x.n3 x.c3]:=S.e3
   have e5:Blk _ b5 79 [.slice y.a1 y.n1 y.c1,.slice av1 (y.n2+1) cv1,.slice y.a3 y.n3 y.c3]:=S.e5
   repeat (refine aJ ?_)
   refine aL 98 ?_
   refine aI rfl (insK_c (F:=G) (hGF _ (by omega)) y.a3 (some ⟨b',0,none⟩) y.n3 y.c3 1 1 0 nb1.keys [key] S.hy.kys hit (by omega) (by omega)) rfl ?_
   rintro _ wr ⟨⟨av,cv,rfl,hnew⟩,hgr⟩
   replace S:=S.grow hgr
   have zr:=hgr.size
   clear e3 e5 hgr
   have e3:Blk _ b3 79 [.slice x.a1 x.n1 x.c1,.slice x.a2 x.n2 x.c2,.slice x.a3 x.n3 x.c3]:=S.e3
   have e5:Blk _ b5 79 [.slice y.a1 y.n1 y.c1,.slice av1 (y.n2+1) cv1,.slice y.a3 y.n3 y.c3]:=S.e5
   repeat (first|refine aF rfl rfl ?_|refine TL.nil ?_|refine aA ?_|refine aJ ?_|refine aC ?_|(refine aP ?_;(refine bQ rfl rfl yB (by exact rfl) (by exact rfl) (by exact rfl) ?_;intro w' hu hbk hsz)))
   obtain ⟨av2,rfl⟩:∃ q,q=av:=⟨_,rfl⟩
   obtain ⟨cv2,rfl⟩:∃ q,q=cv:=⟨_,rfl⟩
   have S':=S.setB (Z:=⟨y.a1,y.n1,y.c1,av1,(y.n2+1),cv1,av2,(y.n3+1),cv2⟩) (NC:=⟨nb1.items,nb1.kids,dH nb1.keys 0 [key]⟩) hu hbk ⟨S.hy.its,S.hy.kids,hnew⟩
   have zu:=hu.size
   have ln2:=fF (l:=nb1.keys) (x:=[key]) (i:=0) (by omega)
   try simp only [List.length_cons,List.length_nil] at ln2
   obtain ⟨nb2,he2,S2⟩:∃ (N:Nd),N=⟨nb1.items,nb1.kids,dH nb1.keys 0 [key]⟩∧Two G w b3 b5 b6 b8 w' ⟨x.a1,x.n1,x.c1,x.a2,x.n2,x.c2,x.a3,x.n3,x.c3⟩ ⟨y.a1,y.n1,y.c1,av1,(y.n2+1),cv1,av2,(y.n3+1),cv2⟩ na N ka kn kc key:=⟨_,rfl,S'⟩
   obtain ⟨m21,m22,m23⟩:=S2.hy.nums
   rw [he2] at m21 m22 m23
   simp only at m21 m22 m23
   obtain ⟨t21,t22,t23⟩:nb2.items.length=(nb1.items).length∧nb2.kids.length=(nb1.kids).length∧nb2.keys.length=(dH nb1.keys 0 [key]).length:=by rw [he2];exact ⟨rfl,rfl,rfl⟩
   have hwZ2:Z0≤w'.heap.size:=by omega
   clear hu hbk hnew S S' hsz e3 e5
   obtain ⟨w20,rfl⟩:∃ z,z=w':=⟨w',rfl⟩
   have S:=S2
   clear S2
   have e3:Blk _ b3 79 [.slice x.a1 x.n1 x.c1,.slice x.a2 x.n2 x.c2,.slice x.a3 x.n3 x.c3]:=S.e3
   have e5:Blk _ b5 79 [.slice y.a1 y.n1 y.c1,.slice av1 (y.n2+1) cv1,.slice av2 (y.n3+1) cv2]:=S.e5
   obtain ⟨kel,hkel⟩:∃ q,na.keys[(x.n2-1-1)]? = some q:=⟨_,List.getElem?_eq_getElem (by omega)⟩
   obtain ⟨kcs,hks0,hkc⟩:=hx.kys.ex
   obtain ⟨kv,kf0,hkf⟩:=hkc.at' hkel
   have hone:=hkf.one
   have hks:=hks0.grow S.hg
   have ekl:na.keys.getD (x.n2-1-1) []=kel:=by rw [List.getD_eq_getElem?_getD,hkel];rfl
   have hcx:w20.cell? (at' x.a3 ((x.n2-1-1)*1))=some kv:=hks.row.cell (by rw [Nat.mul_one];exact kf0)
   repeat (first|(refine bC ?_;refine aV (j:=(x.n2-1-1)) rfl rfl rfl (by omega) rfl ⟨_,_,hks⟩ rfl ?_)|(refine aB ?_;refine TL.pure rfl rfl ?_)|(refine aD ?_;refine TL.pure rfl rfl ?_)|refine aK rfl yM rfl ?_|refine aF rfl rfl ?_|(refine bL ?_;refine bT rfl rfl (by omega) rfl ?_)|(refine cN ?_;refine dN rfl rfl (by omega) (by omega) rfl ?_)|refine TL.nil ?_|refine aA ?_|refine aJ ?_|refine aC ?_)
   clear hcx hks hks0 hkc
   repeat (refine aJ ?_)
   refine aL 97 ?_
   refine aI rfl (cutN_c (F:=G) (hGF _ (by omega)) x.a2 x.n2 x.c2 (x.n2-1) (x.n2-1+1) na.kids S.hx.kids (by omega) (by omega) (by omega)) rfl ?_
   rintro _ wr ⟨⟨av,cv,rfl,hnew⟩,hgr⟩
   replace S:=S.grow hgr
   have zr:=hgr.size
   clear e3 e5 hgr
   have e3:Blk _ b3 79 [.slice x.a1 x.n1 x.c1,.slice x.a2 x.n2 x.c2,.slice x.a3 x.n3 x.c3]:=S.e3
   have e5:Blk _ b5 79 [.slice y.a1 y.n1 y.c1,.slice av1 (y.n2+1) cv1,.slice av2 (y.n3+1) cv2]:=S.e5
   repeat (first|(refine aB ?_;refine TL.pure rfl rfl ?_)|refine aK rfl yM rfl ?_|refine aF rfl rfl ?_|(refine cN ?_;refine dN rfl rfl (by omega) (by omega) rfl ?_)|refine TL.nil ?_|refine aA ?_|refine aJ ?_|refine aC ?_|(refine aP ?_;(refine bQ rfl rfl yB (by exact rfl) (by exact rfl) (by exact rfl) ?_;intro w' hu hbk hsz)))
   obtain ⟨av3,rfl⟩:∃ q,q=av:=⟨_,rfl⟩
   obtain ⟨cv3,rfl⟩:∃ q,q=cv:=⟨_,rfl⟩
   have S':=S.setA (Z:=⟨x.a1,x.n1,x.c1,av3,(x.n2-((x.n2-1+1)-(x.n2-1))),cv3,x.a3,x.n3,x.c3⟩) (NC:=⟨na.items,cO na.kids (x.n2-1) (x.n2-1+1),na.keys⟩) hu hbk ⟨S.hx.its,hnew,S.hx.kys⟩
   have zu:=hu.size
   have ln3:=eG (l:=na.kids) (i:=(x.n2-1)) (j:=(x.n2-1+1)) (by omega) (by omega)
   try simp only [List.length_cons,List.length_nil] at ln3
   obtain ⟨na3,he3,S2⟩:∃ (N:Nd),N=⟨na.items,cO na.kids (x.n2-1) (x.n2-1+1),na.keys⟩∧Two G w b3 b5 b6 b8 w' ⟨x.a1,x.n1,x.c1,av3,(x.n2-((x.n2-1+1)-(x.n2-1))),cv3,x.a3,x.n3,x.c3⟩ ⟨y.a1,y.n1,y.c1,av1,(y.n2+1),cv1,av2,(y.n3+1),cv2⟩ N nb2 ka kn kc key:=⟨_,rfl,S'⟩
   obtain ⟨m31,m32,m33⟩:=S2.hx.nums
   rw [he3] at m31 m32 m33
   simp only at m31 m32 m33
   obtain ⟨t31,t32,t33⟩:na3.items.length=(na.items).length∧na3.kids.length=(cO na.kids (x.n2-1) (x.n2-1+1)).length∧na3.keys.length=(na.keys).length:=by rw [he3];exact ⟨rfl,rfl,rfl⟩
   have hwZ3:Z0≤w'.heap.size:=by omega
   clear hu hbk hnew S S' hsz e3 e5
   obtain ⟨w30,rfl⟩:∃ z,z=w':=⟨w',rfl⟩
   have S:=S2
   clear S2
   have e3:Blk _ b3 79 [.slice x.a1 x.n1 x.c1,.slice av3 (x.n2-((x.n2-1+1)-(x.n2-1))) cv3,.slice x.a3 x.n3 x.c3]:=S.e3
   have e5:Blk _ b5 79 [.slice y.a1 y.n1 y.c1,.slice av1 (y.n2+1) cv1,.slice av2 (y.n3+1) cv2]:=S.e5
   repeat (refine aJ ?_)
   refine aL 194 ?_
   refine aI rfl (cutK_c (F:=G) (hGF _ (by omega)) x.a3 x.n3 x.c3 (x.n2-1-1) (x.n2-1) na3.keys S.hx.kys (by omega) (by omega) (by omega)) rfl ?_
   rintro _ wr ⟨⟨av,cv,rfl,hnew⟩,hgr⟩
   replace S:=S.grow hgr
   have zr:=hgr.size
   clear e3 e5 hgr
   have e3:Blk _ b3 79 [.slice x.a1 x.n1 x.c1,.slice av3 (x.n2-((x.n2-1+1)-(x.n2-1))) cv3,.slice x.a3 x.n3 x.c3]:=S.e3
   have e5:Blk _ b5 79 [.slice y.a1 y.n1 y.c1,.slice av1 (y.n2+1) cv1,.slice av2 (y.n3+1) cv2]:=S.e5
   repeat (first|refine aF rfl rfl ?_|refine TL.nil ?_|refine aA ?_|refine aJ ?_|(refine aP ?_;(refine bQ rfl rfl yB (by exact rfl) (by exact rfl) (by exact rfl) ?_;intro w' hu hbk hsz)))
   obtain ⟨av4,rfl⟩:∃ q,q=av:=⟨_,rfl⟩
   obtain ⟨cv4,rfl⟩:∃ q,q=cv:=⟨_,rfl⟩
   have S':=S.setA (Z:=⟨x.a1,x.n1,x.c1,av3,(x.n2-((x.n2-1+1)-(x.n2-1))),cv3,av4,(x.n3-((x.n2-1)-(x.n2-1-1))),cv4⟩) (NC:=⟨na3.items,na3.kids,cO na3.keys (x.n2-1-1) (x.n2-1)⟩) hu hbk ⟨S.hx.its,S.hx.kids,hnew⟩
   have zu:=hu.size
   have ln4:=eG (l:=na3.keys) (i:=(x.n2-1-1)) (j:=(x.n2-1)) (by omega) (by omega)
   try simp only [List.length_cons,List.length_nil] at ln4
   obtain ⟨na4,he4,S2⟩:∃ (N:Nd),N=⟨na3.items,na3.kids,cO na3.keys (x.n2-1-1) (x.n2-1)⟩∧Two G w b3 b5 b6 b8 w' ⟨x.a1,x.n1,x.c1,av3,(x.n2-((x.n2-1+1)-(x.n2-1))),cv3,av4,(x.n3-((x.n2-1)-(x.n2-1-1))),cv4⟩ ⟨y.a1,y.n1,y.c1,av1,(y.n2+1),cv1,av2,(y.n3+1),cv2⟩ N nb2 ka kn kc key:=⟨_,rfl,S'⟩
   obtain ⟨m41,m42,m43⟩:=S2.hx.nums
   rw [he4] at m41 m42 m43
   simp only at m41 m42 m43
   obtain ⟨t41,t42,t43⟩:na4.items.length=(na3.items).length∧na4.kids.length=(na3.kids).length∧na4.keys.length=(cO na3.keys (x.n2-1-1) (x.n2-1)).length:=by rw [he4];exact ⟨rfl,rfl,rfl⟩
   have hwZ4:Z0≤w'.heap.size:=by omega
   clear hu hbk hnew S S' hsz e3 e5
   obtain ⟨w40,rfl⟩:∃ z,z=w':=⟨w',rfl⟩
   have S:=S2
   clear S2
   have e3:Blk _ b3 79 [.slice x.a1 x.n1 x.c1,.slice av3 (x.n2-((x.n2-1+1)-(x.n2-1))) cv3,.slice av4 (x.n3-((x.n2-1)-(x.n2-1-1))) cv4]:=S.e3
   have e5:Blk _ b5 79 [.slice y.a1 y.n1 y.c1,.slice av1 (y.n2+1) cv1,.slice av2 (y.n3+1) cv2]:=S.e5
   have hgS:=S.hg
   have o3:=S.out
   have o4:=S.ne
   have o5:=S.le
   refine dD (e':=[(3,_),(5,_),(6,_),(8,_),(1,kv)]) ?_ ⟨rfl,rfl,rfl,rfl,rfl,trivial⟩
   apply T.detA 5 3 [(.agg #[.slice x.a1 x.n1 x.c1,.slice av3 (x.n2-((x.n2-1+1)-(x.n2-1))) cv3,.slice av4 (x.n3-((x.n2-1)-(x.n2-1-1))) cv4]),kv,(.agg #[.slice y.a1 y.n1 y.c1,.slice av1 (y.n2+1) cv1,.slice av2 (y.n3+1) cv2]),undef,kv]
    (λ b w1=>Blk w1 b3 79 [.slice x.a1 x.n1 x.c1,.slice av3 (x.n2-((x.n2-1+1)-(x.n2-1))) cv3,.slice av4 (x.n3-((x.n2-1)-(x.n2-1-1))) cv4]∧Blk w1 b5 79 [.slice y.a1 y.n1 y.c1,.slice av1 (y.n2+1) cv1,.slice av2 (y.n3+1) cv2]∧Blk w1 b6 79 (if b then [.slice x.a1 x.n1 x.c1,.slice av3 (x.n2-((x.n2-1+1)-(x.n2-1))) cv3,.slice av4 (x.n3-((x.n2-1)-(x.n2-1-1))) cv4] else nil3)∧Blk w1 b8 79 nil3∧Carry G w40 G w1∧Grow w w1)
   ·rfl
   ·exact λ w1 h1=>⟨S.e3.grow h1,S.e5.grow h1,S.e6.grow h1,S.e8.grow h1,Carry.grow h1,S.hg.trans h1⟩
   ·clear e3 e5
    repeat' (first|exact iE|refine gY ?_ ?_)
    ·refine cF rfl rfl rfl ?_
     rintro b wq _ ⟨i3,i5,i6,i8,ic,ig⟩
     have qe:=ig.size
     repeat (first|(refine aY ?_;refine bK rfl yB (by exact rfl) rfl ?_)|refine TL.nil ?_)
     refine bD rfl ?_
     rw [show (b || Nat.beq 0 3)=b from Bool.or_false b]
     exact ⟨i3,i5,i6,i8,ic,ig⟩
    ·refine cF rfl rfl rfl ?_
     rintro b wq _ ⟨i3,i5,i6,i8,ic,ig⟩
     have qe:=ig.size
     repeat (first|(refine aB ?_;refine TL.pure rfl rfl ?_)|refine TL.nil ?_)
     refine bD rfl ?_
     rw [show (b || Nat.beq 1 3)=b from Bool.or_false b]
     exact ⟨i3,i5,i6,i8,ic,ig⟩
    ·refine cF rfl rfl rfl ?_
     rintro b wq _ ⟨i3,i5,i6,i8,ic,ig⟩
     have qe:=ig.size
     repeat (first|(refine aY ?_;refine bK rfl yB (by exact rfl) rfl ?_)|refine TL.nil ?_)
     refine bD rfl ?_
     rw [show (b || Nat.beq 2 3)=b from Bool.or_false b]
     exact ⟨i3,i5,i6,i8,ic,ig⟩
    ·refine cF rfl rfl rfl ?_
     rintro b wq hb ⟨i3,i5,i6,i8,ic,ig⟩
     obtain rfl:=hb rfl
     have qe:=ig.size
     have i6':Blk wq b6 79 nil3:=i6
     repeat (first|refine TL.nil ?_|(refine aP ?_;(refine bA rfl rfl yB (by exact rfl) (by exact rfl) (by exact rfl) ?_;intro w' hu hbk hsz)))
     refine iC ⟨i3.upd hu (by omega),i5.upd hu (by omega),hbk,i8.upd hu (by omega),ic.trans (Carry.upd hu (λ k hk _=>(o3 k hk).2.2.1)),aX hu (by omega) ig⟩
    ·refine cF rfl rfl rfl ?_
     rintro b wq _ ⟨i3,i5,i6,i8,ic,ig⟩
     have qe:=ig.size
     repeat (first|(refine aD ?_;refine TL.pure rfl rfl ?_)|refine TL.nil ?_)
     refine bD rfl ?_
     rw [show (b || Nat.beq 4 3)=b from Bool.or_false b]
     exact ⟨i3,i5,i6,i8,ic,ig⟩
   ·rintro w9 ⟨i3,i5,i6,i8,ic,ig⟩
    have i6':Blk w9 b6 79 [.slice x.a1 x.n1 x.c1,.slice av3 (x.n2-((x.n2-1+1)-(x.n2-1))) cv3,.slice av4 (x.n3-((x.n2-1)-(x.n2-1-1))) cv4]:=i6
    clear i6
    repeat (first|refine TL.nil ?_|refine aA ?_|(refine aP ?_;(refine bA rfl rfl yB (by exact rfl) (by exact rfl) (by exact rfl) ?_;intro w' hu hbk hsz))|refine bE ?_)
    have cf:Carry G w9 F w':=(Carry.upd hu (λ k hk _=>(o3 k hk).2.2.2)).trans (hGout _)
    refine retCTC rfl (bV (i6'.upd hu (by omega)) rfl) rfl rfl (bV hbk rfl) ⟨_,rfl,⟨⟨x.a1,x.n1,x.c1,av3,(x.n2-((x.n2-1+1)-(x.n2-1))),cv3,av4,(x.n3-((x.n2-1)-(x.n2-1-1))),cv4⟩,⟨y.a1,y.n1,y.c1,av1,(y.n2+1),cv1,av2,(y.n3+1),cv2⟩,kv,rfl,?_,?_,?_⟩,aX hu (by omega) ig⟩
    ·have:=(S.hx.go ic).go cf
     subst he4 he3 he2 he1
     try rw [← nx1]
     try rw [← nx2]
     try rw [← nx3]
     try rw [eel]
     exact this
    ·have:=(S.hy.go ic).go cf
     subst he4 he3 he2 he1
     try rw [← nx1]
     try rw [← nx2]
     try rw [← nx3]
     try rw [eel]
     exact this
    ·have:=hkf.go (Carry.grow (aX hu (by omega) ig))
     try rw [← nx2]
     rw [← ekl] at this
     exact this
end Go.Proofs.YtfpadnmdafiddaaGreatDoor
namespace Go.Proofs.YtfpadnmdafiddaaGreatDoor
open Go Go.RowKit Go.V
theorem tback_c (F:Nat→Prop) (w:World) (hF:∀ k,w.heap.size≤k→F k) (x y:NV) (na nb:Nd) (ka:Option Addr) (kn kc:Nat) (key:Bs) (hx:NdAt F w x na) (hy:NdAt F w y nb) (hk:Sl F w 1 ka kn kc (cX key)) (hsx:na.items.length≤1000∧na.kids.length≤1000∧na.keys.length≤1000) (hsy:nb.items.length≤1000∧nb.kids.length≤1000∧nb.keys.length≤1000)
  (hl:cK na=true→2≤nb.items.length) (hb:cK na=false→2≤nb.kids.length∧nb.keys.length+1=nb.kids.length) :
  Calls Tryz.prog 193 #[x.val,.slice ka kn kc,y.val] w (Ret λ v w'=>(∃ (x' y':NV) (kv:Value),v=.tuple #[x'.val,kv,y'.val]∧NdAt F w' x' (iR na key nb).1∧NdAt F w' y' (iR na key nb).2.2∧BsAt F w' kv (iR na key nb).2.1)∧Grow w w'):=by
 obtain ⟨nx1,nx2,nx3⟩:=hx.nums
 obtain ⟨ny1,ny2,ny3⟩:=hy.nums
 refine V.calls (args:=[_,_,_]) Tryz.func193 rfl Tryz.ntmps193 rfl rfl ?_
 repeat (first|(refine aD ?_;refine TL.pure rfl rfl ?_)|(refine aY ?_;refine bK rfl yB (by exact rfl) rfl ?_)|refine TL.nil ?_|refine aA ?_|refine aJ ?_|refine aC ?_|(refine cD ?_;(refine dP rfl rfl ?_;intro bk w' hg hbk hsz hsz'))|(refine bF ?_;(refine TL.alloc rfl rfl ?_;intro bk w' hg hbk hsz hsz')))
 rename_i b3 w1 g1 k1 p1 p1' b5 w2 g2 k2 p2 p2' b6 w3 g3 k3 p3 p3'
 obtain ⟨b8,rfl⟩:∃ z,z=bk:=⟨bk,rfl⟩
 obtain ⟨G,hG⟩:∃ G:Nat→Prop,∀ k,G k↔F k∧k≠b3∧k≠b5∧k≠b6∧k≠b8:=⟨_,λ _=>Iff.rfl⟩
 have hgr0:Grow w w':=g1.trans (g2.trans (g3.trans hg))
 have cg:Carry F w G w':=(Carry.mono (λ k hk hl=>(hG k).2 ⟨hk,by omega,by omega,by omega,by omega⟩)).trans (Carry.grow hgr0)
 have S:Two G w b3 b5 b6 b8 w' x y na nb ka kn kc key:=⟨k1.grow (g2.trans (g3.trans hg)),k2.grow (g3.trans hg),k3.grow hg,hbk,hx.go cg,hy.go cg,hk.go cg,hgr0,λ k hk=>((hG k).1 hk).2,by omega,by omega⟩
 have zw:=hgr0.size
 obtain ⟨Z0,hZ0⟩:∃ n,n=w'.heap.size:=⟨_,rfl⟩
 have hGF:∀ wq:World,Z0≤wq.heap.size→∀ k,wq.heap.size≤k→G k:=λ wq hq k hk=>(hG k).2 ⟨hF k (by omega),by omega,by omega,by omega,by omega⟩
 have qb:b3<Z0∧b5<Z0∧b6<Z0∧b8<Z0:=by omega
 have qw:w.heap.size≤Z0:=by omega
 have hGout:∀ wq:World,Carry G wq F wq:=λ wq=>Carry.mono λ k hk _=>((hG k).1 hk).1
 clear hbk hg g1 g2 g3 k1 k2 k3 cg hgr0 p1 p1' p2 p2' p3 p3' hsz hsz'
 have hwZ:Z0≤w'.heap.size:=by omega
 have e3:=S.e3
 have e5:=S.e5
 cases hlf:cK na with
 | true =>
  have hl1:=hl hlf
  rw [show iR na key nb=(⟨dH na.items na.items.length [nb.items.getD 0 ([],[])],na.kids,na.keys⟩,((cO nb.items 0 1).getD 0 ([],[])).1,⟨cO nb.items 0 1,nb.kids,nb.keys⟩) by simp only [iR,hlf,if_true]]
  repeat (first|refine TL.nil ?_|refine aA ?_|refine aJ ?_|refine aM rfl ?_|(refine aL 80 ?_;refine aI rfl (fC S.hx hlf _) rfl ?_;rintro _ _ ⟨rfl,hgc⟩))
  rename_i wA
  replace S:=S.grow hgc
  have zA:=hgc.size
  clear e3 e5 hgc
  have e3:=S.e3
  have e5:=S.e5
  have hrow:=S.hy.its
  obtain ⟨el,hel⟩:∃ q,nb.items[0]? = some q:=⟨_,List.getElem?_eq_getElem (by omega)⟩
  obtain ⟨ecs,hes,hec⟩:=hrow.ex
  obtain ⟨ekv,evv,f0,f1,hek,hev⟩:=hec.at' hel
  obtain ⟨eka,ekc,rfl,heks⟩:=hek.sl
  obtain ⟨eva,evc,rfl,hevs⟩:=hev.sl
  rw [Nat.mul_comm] at f0 f1
  have eel:nb.items.getD 0 ([],[])=el:=by rw [List.getD_eq_getElem?_getD,hel];rfl
  apply T.any 11 [is (.pointer (some ⟨b3,0,none⟩)),is (.slice x.a1 x.n1 x.c1),is (.pointer (some ⟨b3,0,none⟩)),is (.slice x.a1 x.n1 x.c1),is (.int .i64 (x.n1:Int)),is (.pointer (some ⟨b5,0,none⟩)),is (.slice y.a1 y.n1 y.c1),is (.pointer (some (at' y.a1 (0*2)))),is (.agg #[.slice eka el.1.length ekc,.slice eva el.2.length evc]),itsF G 1 [el],itsF G (x.n1+1) (dH na.items x.n1 [el])]
  ·rfl
  ·repeat' (first|exact bW|refine bU ?_ ?_)
   iterate 7
    ·(refine aR rfl rfl rfl ?_);( intro wq _ _ hgq;(repeat (refine aG rfl rfl ?_;intro vq hvq;try (obtain rfl:=hvq)));(refine aN ?_))
     repeat (first|refine aK rfl yM rfl ?_|refine aF rfl rfl ?_|refine TL.nil ?_|refine aO rfl rfl ?_)
     exact aT rfl yG rfl
   ·(refine aR rfl rfl rfl ?_);( intro wq _ _ hgq;(repeat (refine aG rfl rfl ?_;intro vq hvq;try (obtain rfl:=hvq)));(refine aN ?_))
    repeat (first|(refine bC ?_;refine aV (j:=0) rfl rfl rfl (by omega) rfl ⟨_,_,hes.grow hgq⟩ rfl ?_)|refine TL.nil ?_)
    exact aT rfl yG rfl
   ·(refine aR rfl rfl rfl ?_);( intro wq _ _ hgq;(repeat (refine aG rfl rfl ?_;intro vq hvq;try (obtain rfl:=hvq)));(refine aN ?_))
    repeat (first|(refine aY ?_;refine eL (o:=0*2) rfl (hes.grow hgq) (two_at f0 f1) rfl rfl ?_)|refine TL.nil ?_)
    exact aT rfl yG rfl
   ·(refine aR rfl rfl rfl ?_);( intro wq _ _ hgq;(repeat (refine aG rfl rfl ?_;intro vq hvq;try (obtain rfl:=hvq)));(refine aN ?_))
    have zq:=hgq.size
    refine TL.buildSlice rfl rfl rfl rfl rfl ?_
    intro b' wa hga hba hsa hsb hsc
    have hit:ItsAt G wa (some ⟨b',0,none⟩) 1 1 [el]:=⟨_,(bR (sz:=2) (m:=1) (show Blk wa b' 58 [.slice eka el.1.length ekc,.slice eva el.2.length evc] from hba) rfl (by decide)).mono (λ k hk=>by subst hk;exact (hG _).2 ⟨hF _ (by omega),by omega,by omega,by omega,by omega⟩),⟨_,_,_,rfl,(heks.grow hgq).grow hga⟩,⟨_,_,_,rfl,(hevs.grow hgq).grow hga⟩,trivial⟩
    repeat (refine TL.nil ?_)
    exact aT rfl yG ⟨_,_,rfl,hit⟩
   ·refine aR rfl rfl rfl ?_
    intro wq _ _ hgq
    refine aG rfl rfl ?_
    intro v1 q1
    obtain rfl:=q1
    refine aG rfl rfl ?_
    intro v4 q4
    obtain rfl:=q4
    refine aG rfl rfl ?_
    rintro vl ⟨al,cl,rfl,hl1⟩
    refine aN ?_
    refine aL 99 ?_
    refine aI rfl (insI_c (F:=G) (hGF _ (by have:=hgq.size;omega)) x.a1 al x.n1 x.c1 1 cl x.n1 na.items [el] (S.hx.its.go (Carry.grow hgq)) hl1 (by omega) (by omega)) rfl ?_
    rintro v' wr ⟨⟨a7,c7,rfl,hi⟩,hgr⟩
    repeat (refine TL.nil ?_)
    exact aT rfl yG ⟨a7,c7,rfl,hi⟩
  ·intro wt lot hit' hgt _ _
   iterate 10 (refine aG rfl rfl ?_;intro vq hvq;try (obtain rfl:=hvq))
   refine aG rfl rfl ?_
   rintro vt ⟨av,cv,rfl,hnew⟩
   refine aN ?_
   clear hvq
   have zt:=hgt.size
   replace S:=S.grow hgt
   clear e3 e5 hgt hes heks hevs hec hek hev hrow
   have e3:Blk _ b3 79 [.slice x.a1 x.n1 x.c1,.slice x.a2 x.n2 x.c2,.slice x.a3 x.n3 x.c3]:=S.e3
   have e5:Blk _ b5 79 [.slice y.a1 y.n1 y.c1,.slice y.a2 y.n2 y.c2,.slice y.a3 y.n3 y.c3]:=S.e5
   repeat (first|refine aF rfl rfl ?_|refine TL.nil ?_|refine aA ?_|refine aJ ?_|refine aC ?_|(refine aP ?_;(refine bQ rfl rfl yB (by exact rfl) (by exact rfl) (by exact rfl) ?_;intro w' hu hbk hsz)))
   obtain ⟨av1,rfl⟩:∃ q,q=av:=⟨_,rfl⟩
   obtain ⟨cv1,rfl⟩:∃ q,q=cv:=⟨_,rfl⟩
   have S':=S.setA (Z:=⟨av1,(x.n1+1),cv1,x.a2,x.n2,x.c2,x.a3,x.n3,x.c3⟩) (NC:=⟨dH na.items x.n1 [el],na.kids,na.keys⟩) hu hbk ⟨hnew,S.hx.kids,S.hx.kys⟩
   have zu:=hu.size
   have ln1:=fF (l:=na.items) (x:=[el]) (i:=x.n1) (by omega)
   try simp only [List.length_cons,List.length_nil] at ln1
   obtain ⟨na1,he1,S2⟩:∃ (N:Nd),N=⟨dH na.items x.n1 [el],na.kids,na.keys⟩∧Two G w b3 b5 b6 b8 w' ⟨av1,(x.n1+1),cv1,x.a2,x.n2,x.c2,x.a3,x.n3,x.c3⟩ ⟨y.a1,y.n1,y.c1,y.a2,y.n2,y.c2,y.a3,y.n3,y.c3⟩ N nb ka kn kc key:=⟨_,rfl,S'⟩
   obtain ⟨m11,m12,m13⟩:=S2.hx.nums
   rw [he1] at m11 m12 m13
   simp only at m11 m12 m13
   obtain ⟨t11,t12,t13⟩:na1.items.length=(dH na.items x.n1 [el]).length∧na1.kids.length=(na.kids).length∧na1.keys.length=(na.keys).length:=by rw [he1];exact ⟨rfl,rfl,rfl⟩
   have hwZ1:Z0≤w'.heap.size:=by omega
   clear hu hbk hnew S S' hsz e3 e5
   obtain ⟨w10,rfl⟩:∃ z,z=w':=⟨w',rfl⟩
   have S:=S2
   clear S2
   have e3:Blk _ b3 79 [.slice av1 (x.n1+1) cv1,.slice x.a2 x.n2 x.c2,.slice x.a3 x.n3 x.c3]:=S.e3
   have e5:Blk _ b5 79 [.slice y.a1 y.n1 y.c1,.slice y.a2 y.n2 y.c2,.slice y.a3 y.n3 y.c3]:=S.e5
   repeat (refine aK rfl yM rfl ?_)
   refine aL 81 ?_
   refine aI rfl (cutI_c (F:=G) (hGF _ (by omega)) y.a1 y.n1 y.c1 0 1 nb.items S.hy.its (by omega) (by omega) (by omega)) rfl ?_
   rintro _ wr ⟨⟨av,cv,rfl,hnew⟩,hgr⟩
   replace S:=S.grow hgr
   have zr:=hgr.size
   clear e3 e5 hgr
   have e3:Blk _ b3 79 [.slice av1 (x.n1+1) cv1,.slice x.a2 x.n2 x.c2,.slice x.a3 x.n3 x.c3]:=S.e3
   have e5:Blk _ b5 79 [.slice y.a1 y.n1 y.c1,.slice y.a2 y.n2 y.c2,.slice y.a3 y.n3 y.c3]:=S.e5
   repeat (first|refine aF rfl rfl ?_|refine TL.nil ?_|refine aA ?_|refine aJ ?_|(refine aP ?_;(refine bQ rfl rfl yB (by exact rfl) (by exact rfl) (by exact rfl) ?_;intro w' hu hbk hsz)))
   obtain ⟨av2,rfl⟩:∃ q,q=av:=⟨_,rfl⟩
   obtain ⟨cv2,rfl⟩:∃ q,q=cv:=⟨_,rfl⟩
   have S':=S.setB (Z:=⟨av2,(y.n1-(1-0)),cv2,y.a2,y.n2,y.c2,y.a3,y.n3,y.c3⟩) (NC:=⟨cO nb.items 0 1,nb.kids,nb.keys⟩) hu hbk ⟨hnew,S.hy.kids,S.hy.kys⟩
   have zu:=hu.size
   have ln2:=eG (l:=nb.items) (i:=0) (j:=1) (by omega) (by omega)
   try simp only [List.length_cons,List.length_nil] at ln2
   obtain ⟨nb2,he2,S2⟩:∃ (N:Nd),N=⟨cO nb.items 0 1,nb.kids,nb.keys⟩∧Two G w b3 b5 b6 b8 w' ⟨av1,(x.n1+1),cv1,x.a2,x.n2,x.c2,x.a3,x.n3,x.c3⟩ ⟨av2,(y.n1-(1-0)),cv2,y.a2,y.n2,y.c2,y.a3,y.n3,y.c3⟩ na1 N ka kn kc key:=⟨_,rfl,S'⟩
   obtain ⟨m21,m22,m23⟩:=S2.hy.nums
   rw [he2] at m21 m22 m23
   simp only at m21 m22 m23
   obtain ⟨t21,t22,t23⟩:nb2.items.length=(cO nb.items 0 1).length∧nb2.kids.length=(nb.kids).length∧nb2.keys.length=(nb.keys).length:=by rw [he2];exact ⟨rfl,rfl,rfl⟩
   have hwZ2:Z0≤w'.heap.size:=by omega
   clear hu hbk hnew S S' hsz e3 e5
   obtain ⟨w20,rfl⟩:∃ z,z=w':=⟨w',rfl⟩
   have S:=S2
   clear S2
   have e3:Blk _ b3 79 [.slice av1 (x.n1+1) cv1,.slice x.a2 x.n2 x.c2,.slice x.a3 x.n3 x.c3]:=S.e3
   have e5:Blk _ b5 79 [.slice av2 (y.n1-(1-0)) cv2,.slice y.a2 y.n2 y.c2,.slice y.a3 y.n3 y.c3]:=S.e5
   obtain ⟨q0,hq0⟩:∃ q,nb2.items[0]? = some q:=⟨_,List.getElem?_eq_getElem (by rw [he2];simp only;omega)⟩
   obtain ⟨qcs,hqs,hqc⟩:=S.hy.its.ex
   obtain ⟨kv,vv,f0',f1',hkb,_⟩:=hqc.at' hq0
   have hone:=hkb.one
   have hgS:=S.hg
   have o3:=S.out
   have o4:=S.ne
   have o5:=S.le
   refine dD (e':=[(3,_),(5,_),(6,_),(8,_)]) ?_ ⟨rfl,rfl,rfl,rfl,trivial⟩
   apply T.detA 9 7 [(.agg #[.slice av1 (x.n1+1) cv1,.slice x.a2 x.n2 x.c2,.slice x.a3 x.n3 x.c3]),(.pointer (some ⟨b5,0,none⟩)),(.slice av2 (y.n1-(1-0)) cv2),(.pointer (some (at' av2 0))),(.pointer (some (at' av2 0))),kv,(.agg #[.slice av2 (y.n1-(1-0)) cv2,.slice y.a2 y.n2 y.c2,.slice y.a3 y.n3 y.c3]),undef,kv]
    (λ b w1=>Blk w1 b3 79 [.slice av1 (x.n1+1) cv1,.slice x.a2 x.n2 x.c2,.slice x.a3 x.n3 x.c3]∧Blk w1 b5 79 [.slice av2 (y.n1-(1-0)) cv2,.slice y.a2 y.n2 y.c2,.slice y.a3 y.n3 y.c3]∧Blk w1 b6 79 (if b then [.slice av1 (x.n1+1) cv1,.slice x.a2 x.n2 x.c2,.slice x.a3 x.n3 x.c3] else nil3)∧Blk w1 b8 79 nil3∧Carry G w20 G w1∧Grow w w1)
   ·rfl
   ·exact λ w1 h1=>⟨S.e3.grow h1,S.e5.grow h1,S.e6.grow h1,S.e8.grow h1,Carry.grow h1,S.hg.trans h1⟩
   ·clear e3 e5
    repeat' (first|exact iE|refine gY ?_ ?_)
    ·refine cF rfl rfl rfl ?_
     rintro b wq _ ⟨i3,i5,i6,i8,ic,ig⟩
     have qe:=ig.size
     repeat (first|(refine aY ?_;refine bK rfl yB (by exact rfl) rfl ?_)|refine TL.nil ?_)
     refine bD rfl ?_
     rw [show (b || Nat.beq 0 7)=b from Bool.or_false b]
     exact ⟨i3,i5,i6,i8,ic,ig⟩
    ·refine cF rfl rfl rfl ?_
     rintro b wq _ ⟨i3,i5,i6,i8,ic,ig⟩
     have qe:=ig.size
     repeat (first|refine aF rfl rfl ?_|refine TL.nil ?_)
     refine bD rfl ?_
     rw [show (b || Nat.beq 1 7)=b from Bool.or_false b]
     exact ⟨i3,i5,i6,i8,ic,ig⟩
    ·refine cF rfl rfl rfl ?_
     rintro b wq _ ⟨i3,i5,i6,i8,ic,ig⟩
     have qe:=ig.size
     repeat (first|refine aK rfl yM rfl ?_|refine TL.nil ?_)
     refine bD rfl ?_
     rw [show (b || Nat.beq 2 7)=b from Bool.or_false b]
     exact ⟨i3,i5,i6,i8,ic,ig⟩
    ·refine cF rfl rfl rfl ?_
     rintro b wq _ ⟨i3,i5,i6,i8,ic,ig⟩
     have qe:=ig.size
     repeat (first|(refine bC ?_;refine aV (j:=0) rfl rfl rfl (by omega) rfl ⟨G,_,hqs.go ic⟩ rfl ?_)|refine TL.nil ?_)
     refine bD rfl ?_
     rw [show (b || Nat.beq 3 7)=b from Bool.or_false b]
     exact ⟨i3,i5,i6,i8,ic,ig⟩
    ·refine cF rfl rfl rfl ?_
     rintro b wq _ ⟨i3,i5,i6,i8,ic,ig⟩
     have qe:=ig.size
     repeat (first|(refine dU ?_;refine dV (o:=0) rfl (hqs.go ic) f0' rfl ?_)|refine TL.nil ?_)
     refine bD rfl ?_
     rw [show (b || Nat.beq 4 7)=b from Bool.or_false b]
     exact ⟨i3,i5,i6,i8,ic,ig⟩
    ·refine cF rfl rfl rfl ?_
     rintro b wq _ ⟨i3,i5,i6,i8,ic,ig⟩
     have qe:=ig.size
     have hcx:wq.cell? (at' av2 0)=some kv:=(hqs.go ic).row.cell f0'
     repeat (first|refine aK rfl yM rfl ?_|refine TL.nil ?_)
     refine bD rfl ?_
     rw [show (b || Nat.beq 5 7)=b from Bool.or_false b]
     exact ⟨i3,i5,i6,i8,ic,ig⟩
    ·refine cF rfl rfl rfl ?_
     rintro b wq _ ⟨i3,i5,i6,i8,ic,ig⟩
     have qe:=ig.size
     repeat (first|(refine aY ?_;refine bK rfl yB (by exact rfl) rfl ?_)|refine TL.nil ?_)
     refine bD rfl ?_
     rw [show (b || Nat.beq 6 7)=b from Bool.or_false b]
     exact ⟨i3,i5,i6,i8,ic,ig⟩
    ·refine cF rfl rfl rfl ?_
     rintro b wq hb ⟨i3,i5,i6,i8,ic,ig⟩
     obtain rfl:=hb rfl
     have qe:=ig.size
     have i6':Blk wq b6 79 nil3:=i6
     repeat (first|refine TL.nil ?_|(refine aP ?_;(refine bA rfl rfl yB (by exact rfl) (by exact rfl) (by exact rfl) ?_;intro w' hu hbk hsz)))
     refine iC ⟨i3.upd hu (by omega),i5.upd hu (by omega),hbk,i8.upd hu (by omega),ic.trans (Carry.upd hu (λ k hk _=>(o3 k hk).2.2.1)),aX hu (by omega) ig⟩
    ·refine cF rfl rfl rfl ?_
     rintro b wq _ ⟨i3,i5,i6,i8,ic,ig⟩
     have qe:=ig.size
     repeat (first|(refine aD ?_;refine TL.pure rfl rfl ?_)|refine TL.nil ?_)
     refine bD rfl ?_
     rw [show (b || Nat.beq 8 7)=b from Bool.or_false b]
     exact ⟨i3,i5,i6,i8,ic,ig⟩
   ·rintro w9 ⟨i3,i5,i6,i8,ic,ig⟩
    have i6':Blk w9 b6 79 [.slice av1 (x.n1+1) cv1,.slice x.a2 x.n2 x.c2,.slice x.a3 x.n3 x.c3]:=i6
    clear i6
    repeat (first|refine TL.nil ?_|refine aA ?_|(refine aP ?_;(refine bA rfl rfl yB (by exact rfl) (by exact rfl) (by exact rfl) ?_;intro w' hu hbk hsz))|refine bE ?_|refine bI ?_)
    have cf:Carry G w9 F w':=(Carry.upd hu (λ k hk _=>(o3 k hk).2.2.2)).trans (hGout _)
    refine retCTC rfl (bV (i6'.upd hu (by omega)) rfl) rfl rfl (bV hbk rfl) ⟨_,rfl,⟨⟨av1,(x.n1+1),cv1,x.a2,x.n2,x.c2,x.a3,x.n3,x.c3⟩,⟨av2,(y.n1-(1-0)),cv2,y.a2,y.n2,y.c2,y.a3,y.n3,y.c3⟩,kv,rfl,?_,?_,?_⟩,aX hu (by omega) ig⟩
    ·have:=(S.hx.go ic).go cf
     subst he2 he1
     try rw [← nx1]
     try rw [← nx2]
     try rw [← nx3]
     try rw [eel]
     exact this
    ·have:=(S.hy.go ic).go cf
     subst he2 he1
     try rw [← nx1]
     try rw [← nx2]
     try rw [← nx3]
     try rw [eel]
     exact this
    ·have:=(hkb.go ic).go cf
     have e0:q0=nb2.items.getD 0 ([],[]):=by rw [List.getD_eq_getElem?_getD,hq0];rfl
     rw [e0] at this
     subst he2 he1
     try rw [← nx1]
     try rw [eel]
     exact this
 | false =>
  obtain ⟨hb2,hb1⟩:=hb hlf
  rw [show iR na key nb=(⟨na.items,dH na.kids na.kids.length [nb.kids.getD 0 0],dH na.keys na.keys.length [key]⟩,nb.keys.getD 0 [],⟨nb.items,cO nb.kids 0 1,cO nb.keys 0 1⟩) by simp only [iR,hlf,Bool.false_eq_true,if_false]]
  repeat (first|refine TL.nil ?_|refine aA ?_|refine aJ ?_|refine aE rfl ?_|refine aW ?_|(refine aL 80 ?_;refine aI rfl (fC S.hx hlf _) rfl ?_;rintro _ _ ⟨rfl,hgc⟩))
  rename_i wA
  replace S:=S.grow hgc
  have zA:=hgc.size
  clear e3 e5 hgc
  have e3:=S.e3
  have e5:=S.e5
  have hrow:=S.hy.kids
  obtain ⟨el,hel⟩:∃ q,nb.kids[0]? = some q:=⟨_,List.getElem?_eq_getElem (by omega)⟩
  have hes:=hrow
  have f0:(cM nb.kids)[0]? = some (.int .i64 (el:Int)):=by rw [show cM nb.kids=nb.kids.map λ (k:Nat)=>(.int .i64 (k:Int):Value) from rfl,List.getElem?_map,hel];rfl
  have eel:nb.kids.getD 0 0=el:=by rw [List.getD_eq_getElem?_getD,hel];rfl
  apply T.any 11 [is (.pointer (some ⟨b3,1,none⟩)),is (.slice x.a2 x.n2 x.c2),is (.pointer (some ⟨b3,1,none⟩)),is (.slice x.a2 x.n2 x.c2),is (.int .i64 (x.n2:Int)),is (.pointer (some ⟨b5,1,none⟩)),is (.slice y.a2 y.n2 y.c2),is (.pointer (some (at' y.a2 (0*1)))),is (.int .i64 (el:Int)),kidF G 1 [el],kidF G (x.n2+1) (dH na.kids x.n2 [el])]
  ·rfl
  ·repeat' (first|exact bW|refine bU ?_ ?_)
   iterate 7
    ·(refine aR rfl rfl rfl ?_);( intro wq _ _ hgq;(repeat (refine aG rfl rfl ?_;intro vq hvq;try (obtain rfl:=hvq)));(refine aN ?_))
     repeat (first|refine aK rfl yM rfl ?_|refine aF rfl rfl ?_|refine TL.nil ?_|refine aO rfl rfl ?_)
     exact aT rfl yG rfl
   ·(refine aR rfl rfl rfl ?_);( intro wq _ _ hgq;(repeat (refine aG rfl rfl ?_;intro vq hvq;try (obtain rfl:=hvq)));(refine aN ?_))
    repeat (first|(refine bC ?_;refine aV (j:=0) rfl rfl rfl (by omega) rfl ⟨_,_,hes.grow hgq⟩ rfl ?_)|refine TL.nil ?_)
    exact aT rfl yG rfl
   ·(refine aR rfl rfl rfl ?_);( intro wq _ _ hgq;(repeat (refine aG rfl rfl ?_;intro vq hvq;try (obtain rfl:=hvq)));(refine aN ?_))
    have hcx:wq.cell? (at' y.a2 (0*1))=some (.int .i64 (el:Int)):=(hes.grow hgq).row.cell (by rw [Nat.mul_one];exact f0)
    repeat (first|refine aK rfl yM rfl ?_|refine TL.nil ?_)
    exact aT rfl yG rfl
   ·(refine aR rfl rfl rfl ?_);( intro wq _ _ hgq;(repeat (refine aG rfl rfl ?_;intro vq hvq;try (obtain rfl:=hvq)));(refine aN ?_))
    have zq:=hgq.size
    refine TL.buildSlice rfl rfl rfl rfl rfl ?_
    intro b' wa hga hba hsa hsb hsc
    have hit:Sl G wa 1 (some ⟨b',0,none⟩) 1 1 (cM [el]):=(bR (sz:=1) (m:=1) (show Blk wa b' 3 [.int .i64 (el:Int)] from hba) rfl (by decide)).mono (λ k hk=>by subst hk;exact (hG _).2 ⟨hF _ (by omega),by omega,by omega,by omega,by omega⟩)
    repeat (refine TL.nil ?_)
    exact aT rfl yG ⟨_,_,rfl,hit⟩
   ·refine aR rfl rfl rfl ?_
    intro wq _ _ hgq
    refine aG rfl rfl ?_
    intro v1 q1
    obtain rfl:=q1
    refine aG rfl rfl ?_
    intro v4 q4
    obtain rfl:=q4
    refine aG rfl rfl ?_
    rintro vl ⟨al,cl,rfl,hl1⟩
    refine aN ?_
    refine aL 96 ?_
    refine aI rfl (insN_c (F:=G) (hGF _ (by have:=hgq.size;omega)) x.a2 al x.n2 x.c2 1 cl x.n2 na.kids [el] (S.hx.kids.grow hgq) hl1 (by omega) (by omega)) rfl ?_
    rintro v' wr ⟨⟨a7,c7,rfl,hi⟩,hgr⟩
    repeat (refine TL.nil ?_)
    exact aT rfl yG ⟨a7,c7,rfl,hi⟩
  ·intro wt lot hit' hgt _ _
   iterate 10 (refine aG rfl rfl ?_;intro vq hvq;try (obtain rfl:=hvq))
   refine aG rfl rfl ?_
   rintro vt ⟨av,cv,rfl,hnew⟩
   refine aN ?_
   clear hvq
   have zt:=hgt.size
   replace S:=S.grow hgt
   clear e3 e5 hgt hes hrow
   have e3:Blk _ b3 79 [.slice x.a1 x.n1 x.c1,.slice x.a2 x.n2 x.c2,.slice x.a3 x.n3 x.c3]:=S.e3
   have e5:Blk _ b5 79 [.slice y.a1 y.n1 y.c1,.slice y.a2 y.n2 y.c2,.slice y.a3 y.n3 y.c3]:=S.e5
   repeat (first|(refine aB ?_;refine TL.pure rfl rfl ?_)|refine aK rfl yM rfl ?_|refine aF rfl rfl ?_|refine TL.nil ?_|refine aA ?_|refine aJ ?_|refine aC ?_|(refine aP ?_;(refine bQ rfl rfl yB (by exact rfl) (by exact rfl) (by exact rfl) ?_;intro w' hu hbk hsz))|refine aO rfl rfl ?_)
   obtain ⟨av1,rfl⟩:∃ q,q=av:=⟨_,rfl⟩
   obtain ⟨cv1,rfl⟩:∃ q,q=cv:=⟨_,rfl⟩
   have S':=S.setA (Z:=⟨x.a1,x.n1,x.c1,av1,(x.n2+1),cv1,x.a3,x.n3,x.c3⟩) (NC:=⟨na.items,dH na.kids x.n2 [el],na.keys⟩) hu hbk ⟨S.hx.its,hnew,S.hx.kys⟩
   have zu:=hu.size
   have ln1:=fF (l:=na.kids) (x:=[el]) (i:=x.n2) (by omega)
   try simp only [List.length_cons,List.length_nil] at ln1
   obtain ⟨na1,he1,S2⟩:∃ (N:Nd),N=⟨na.items,dH na.kids x.n2 [el],na.keys⟩∧Two G w b3 b5 b6 b8 w' ⟨x.a1,x.n1,x.c1,av1,(x.n2+1),cv1,x.a3,x.n3,x.c3⟩ ⟨y.a1,y.n1,y.c1,y.a2,y.n2,y.c2,y.a3,y.n3,y.c3⟩ N nb ka kn kc key:=⟨_,rfl,S'⟩
   obtain ⟨m11,m12,m13⟩:=S2.hx.nums
   rw [he1] at m11 m12 m13
   simp only at m11 m12 m13
   obtain ⟨t11,t12,t13⟩:na1.items.length=(na.items).length∧na1.kids.length=(dH na.kids x.n2 [el]).length∧na1.keys.length=(na.keys).length:=by rw [he1];exact ⟨rfl,rfl,rfl⟩
   have hwZ1:Z0≤w'.heap.size:=by omega
   clear hu hbk hnew S S' hsz e3 e5
   obtain ⟨w10,rfl⟩:∃ z,z=w':=⟨w',rfl⟩
   have S:=S2
   clear S2
   have e3:Blk _ b3 79 [.slice x.a1 x.n1 x.c1,.slice av1 (x.n2+1) cv1,.slice x.a3 x.n3 x.c3]:=S.e3
   have e5:Blk _ b5 79 [.slice y.a1 y.n1 y.c1,.slice y.a2 y.n2 y.c2,.slice y.a3 y.n3 y.c3]:=S.e5
   repeat (refine aJ ?_)
   refine TL.buildSlice rfl rfl rfl rfl rfl ?_
   intro b' wa hga hba hsa hsb hsc
   have hba':Blk wa b' 30 [.slice ka kn kc]:=hba
   have hkl:=iD S.hk
   replace S:=S.grow hga
   have za:=hga.size
   have hit:KysAt G wa (some ⟨b',0,none⟩) 1 1 [key]:=⟨_,(bR (sz:=1) (m:=1) hba' rfl (by decide)).mono (λ k hk=>by subst hk;exact (hG _).2 ⟨hF _ (by omega),by omega,by omega,by omega,by omega⟩),⟨_,_,_,rfl,S.hk⟩,trivial⟩
   clear hba hba' hga hsa hsb hsc e3 e5
   have e3:Blk _ b3 79 [.slice x.a1 x.n1 x.c1,.slice av1 (x.n2+1) cv1,.slice x.a3 x.n3 x.c3]:=S.e3
   have e5:Blk _ b5 79 [.slice y.a1 y.n1 y.c1,.slice y.a2 y.n2 y.c2,.slice y.a3 y.n3 y.c3]:=S.e5
   repeat (refine aJ ?_)
   refine aL 98 ?_
   refine aI rfl (insK_c (F:=G) (hGF _ (by omega)) x.a3 (some ⟨b',0,none⟩) x.n3 x.c3 1 1 x.n3 na1.keys [key] S.hx.kys hit (by omega) (by omega)) rfl ?_
   rintro _ wr ⟨⟨av,cv,rfl,hnew⟩,hgr⟩
   replace S:=S.grow hgr
   have zr:=hgr.size
   clear e3 e5 hgr
   have e3:Blk _ b3 79 [.slice x.a1 x.n1 x.c1,.slice av1 (x.n2+1) cv1,.slice x.a3 x.n3 x.c3]:=S.e3
   have e5:Blk _ b5 79 [.slice y.a1 y.n1 y.c1,.slice y.a2 y.n2 y.c2,.slice y.a3 y.n3 y.c3]:=S.e5
   repeat (first|refine aF rfl rfl ?_|refine TL.nil ?_|refine aA ?_|refine aJ ?_|refine aC ?_|(refine aP ?_;(refine bQ rfl rfl yB (by exact rfl) (by exact rfl) (by exact rfl) ?_;intro w' hu hbk hsz)))
   obtain ⟨av2,rfl⟩:∃ q,q=av:=⟨_,rfl⟩
   obtain ⟨cv2,rfl⟩:∃ q,q=cv:=⟨_,rfl⟩
   have S':=S.setA (Z:=⟨x.a1,x.n1,x.c1,av1,(x.n2+1),cv1,av2,(x.n3+1),cv2⟩) (NC:=⟨na1.items,na1.kids,dH na1.keys x.n3 [key]⟩) hu hbk ⟨S.hx.its,S.hx.kids,hnew⟩
   have zu:=hu.size
   have ln2:=fF (l:=na1.keys) (x:=[key]) (i:=x.n3) (by omega)
   try simp only [List.length_cons,List.length_nil] at ln2
   obtain ⟨na2,he2,S2⟩:∃ (N:Nd),N=⟨na1.items,na1.kids,dH na1.keys x.n3 [key]⟩∧Two G w b3 b5 b6 b8 w' ⟨x.a1,x.n1,x.c1,av1,(x.n2+1),cv1,av2,(x.n3+1),cv2⟩ ⟨y.a1,y.n1,y.c1,y.a2,y.n2,y.c2,y.a3,y.n3,y.c3⟩ N nb ka kn kc key:=⟨_,rfl,S'⟩
   obtain ⟨m21,m22,m23⟩:=S2.hx.nums
   rw [he2] at m21 m22 m23
   simp only at m21 m22 m23
   obtain ⟨t21,t22,t23⟩:na2.items.length=(na1.items).length∧na2.kids.length=(na1.kids).length∧na2.keys.length=(dH na1.keys x.n3 [key]).length:=by rw [he2];exact ⟨rfl,rfl,rfl⟩
   have hwZ2:Z0≤w'.heap.size:=by omega
   clear hu hbk hnew S S' hsz e3 e5
   obtain ⟨w20,rfl⟩:∃ z,z=w':=⟨w',rfl⟩
   have S:=S2
   clear S2
   have e3:Blk _ b3 79 [.slice x.a1 x.n1 x.c1,.slice av1 (x.n2+1) cv1,.slice av2 (x.n3+1) cv2]:=S.e3
   have e5:Blk _ b5 79 [.slice y.a1 y.n1 y.c1,.slice y.a2 y.n2 y.c2,.slice y.a3 y.n3 y.c3]:=S.e5
   obtain ⟨kel,hkel⟩:∃ q,nb.keys[0]? = some q:=⟨_,List.getElem?_eq_getElem (by omega)⟩
   obtain ⟨kcs,hks0,hkc⟩:=hy.kys.ex
   obtain ⟨kv,kf0,hkf⟩:=hkc.at' hkel
   have hone:=hkf.one
   have hks:=hks0.grow S.hg
   have ekl:nb.keys.getD 0 []=kel:=by rw [List.getD_eq_getElem?_getD,hkel];rfl
   have hcx:w20.cell? (at' y.a3 (0*1))=some kv:=hks.row.cell (by rw [Nat.mul_one];exact kf0)
   repeat (first|(refine bC ?_;refine aV (j:=0) rfl rfl rfl (by omega) rfl ⟨_,_,hks⟩ rfl ?_)|(refine aD ?_;refine TL.pure rfl rfl ?_)|refine aK rfl yM rfl ?_|refine aF rfl rfl ?_|refine TL.nil ?_|refine aA ?_|refine aJ ?_|refine aC ?_)
   clear hcx hks hks0 hkc
   repeat (refine aJ ?_)
   refine aL 97 ?_
   refine aI rfl (cutN_c (F:=G) (hGF _ (by omega)) y.a2 y.n2 y.c2 0 1 nb.kids S.hy.kids (by omega) (by omega) (by omega)) rfl ?_
   rintro _ wr ⟨⟨av,cv,rfl,hnew⟩,hgr⟩
   replace S:=S.grow hgr
   have zr:=hgr.size
   clear e3 e5 hgr
   have e3:Blk _ b3 79 [.slice x.a1 x.n1 x.c1,.slice av1 (x.n2+1) cv1,.slice av2 (x.n3+1) cv2]:=S.e3
   have e5:Blk _ b5 79 [.slice y.a1 y.n1 y.c1,.slice y.a2 y.n2 y.c2,.slice y.a3 y.n3 y.c3]:=S.e5
   repeat (first|refine aK rfl yM rfl ?_|refine aF rfl rfl ?_|refine TL.nil ?_|refine aA ?_|refine aJ ?_|refine aC ?_|(refine aP ?_;(refine bQ rfl rfl yB (by exact rfl) (by exact rfl) (by exact rfl) ?_;intro w' hu hbk hsz)))
   obtain ⟨av3,rfl⟩:∃ q,q=av:=⟨_,rfl⟩
   obtain ⟨cv3,rfl⟩:∃ q,q=cv:=⟨_,rfl⟩
   have S':=S.setB (Z:=⟨y.a1,y.n1,y.c1,av3,(y.n2-(1-0)),cv3,y.a3,y.n3,y.c3⟩) (NC:=⟨nb.items,cO nb.kids 0 1,nb.keys⟩) hu hbk ⟨S.hy.its,hnew,S.hy.kys⟩
   have zu:=hu.size
   have ln3:=eG (l:=nb.kids) (i:=0) (j:=1) (by omega) (by omega)
   try simp only [List.length_cons,List.length_nil] at ln3
   obtain ⟨nb3,he3,S2⟩:∃ (N:Nd),N=⟨nb.items,cO nb.kids 0 1,nb.keys⟩∧Two G w b3 b5 b6 b8 w' ⟨x.a1,x.n1,x.c1,av1,(x.n2+1),cv1,av2,(x.n3+1),cv2⟩ ⟨y.a1,y.n1,y.c1,av3,(y.n2-(1-0)),cv3,y.a3,y.n3,y.c3⟩ na2 N ka kn kc key:=⟨_,rfl,S'⟩
   obtain ⟨m31,m32,m33⟩:=S2.hy.nums
   rw [he3] at m31 m32 m33
   simp only at m31 m32 m33
   obtain ⟨t31,t32,t33⟩:nb3.items.length=(nb.items).length∧nb3.kids.length=(cO nb.kids 0 1).length∧nb3.keys.length=(nb.keys).length:=by rw [he3];exact ⟨rfl,rfl,rfl⟩
   have hwZ3:Z0≤w'.heap.size:=by omega
   clear hu hbk hnew S S' hsz e3 e5
   obtain ⟨w30,rfl⟩:∃ z,z=w':=⟨w',rfl⟩
   have S:=S2
   clear S2
   have e3:Blk _ b3 79 [.slice x.a1 x.n1 x.c1,.slice av1 (x.n2+1) cv1,.slice av2 (x.n3+1) cv2]:=S.e3
   have e5:Blk _ b5 79 [.slice y.a1 y.n1 y.c1,.slice av3 (y.n2-(1-0)) cv3,.slice y.a3 y.n3 y.c3]:=S.e5
   repeat (refine aJ ?_)
   refine aL 194 ?_
   refine aI rfl (cutK_c (F:=G) (hGF _ (by omega)) y.a3 y.n3 y.c3 0 1 nb3.keys S.hy.kys (by omega) (by omega) (by omega)) rfl ?_
   rintro _ wr ⟨⟨av,cv,rfl,hnew⟩,hgr⟩
   replace S:=S.grow hgr
   have zr:=hgr.size
   clear e3 e5 hgr
   have e3:Blk _ b3 79 [.slice x.a1 x.n1 x.c1,.slice av1 (x.n2+1) cv1,.slice av2 (x.n3+1) cv2]:=S.e3
   have e5:Blk _ b5 79 [.slice y.a1 y.n1 y.c1,.slice av3 (y.n2-(1-0)) cv3,.slice y.a3 y.n3 y.c3]:=S.e5
   repeat (first|refine aF rfl rfl ?_|refine TL.nil ?_|refine aA ?_|refine aJ ?_|(refine aP ?_;(refine bQ rfl rfl yB (by exact rfl) (by exact rfl) (by exact rfl) ?_;intro w' hu hbk hsz)))
   obtain ⟨av4,rfl⟩:∃ q,q=av:=⟨_,rfl⟩
   obtain ⟨cv4,rfl⟩:∃ q,q=cv:=⟨_,rfl⟩
   have S':=S.setB (Z:=⟨y.a1,y.n1,y.c1,av3,(y.n2-(1-0)),cv3,av4,(y.n3-(1-0)),cv4⟩) (NC:=⟨nb3.items,nb3.kids,cO nb3.keys 0 1⟩) hu hbk ⟨S.hy.its,S.hy.kids,hnew⟩
   have zu:=hu.size
   have ln4:=eG (l:=nb3.keys) (i:=0) (j:=1) (by omega) (by omega)
   try simp only [List.length_cons,List.length_nil] at ln4
   obtain ⟨nb4,he4,S2⟩:∃ (N:Nd),N=⟨nb3.items,nb3.kids,cO nb3.keys 0 1⟩∧Two G w b3 b5 b6 b8 w' ⟨x.a1,x.n1,x.c1,av1,(x.n2+1),cv1,av2,(x.n3+1),cv2⟩ ⟨y.a1,y.n1,y.c1,av3,(y.n2-(1-0)),cv3,av4,(y.n3-(1-0)),cv4⟩ na2 N ka kn kc key:=⟨_,rfl,S'⟩
   obtain ⟨m41,m42,m43⟩:=S2.hy.nums
   rw [he4] at m41 m42 m43
   simp only at m41 m42 m43
   obtain ⟨t41,t42,t43⟩:nb4.items.length=(nb3.items).length∧nb4.kids.length=(nb3.kids).length∧nb4.keys.length=(cO nb3.keys 0 1).length:=by rw [he4];exact ⟨rfl,rfl,rfl⟩
   have hwZ4:Z0≤w'.heap.size:=by omega
   clear hu hbk hnew S S' hsz e3 e5
   obtain ⟨w40,rfl⟩:∃ z,z=w':=⟨w',rfl⟩
   have S:=S2
   clear S2
   have e3:Blk _ b3 79 [.slice x.a1 x.n1 x.c1,.slice av1 (x.n2+1) cv1,.slice av2 (x.n3+1) cv2]:=S.e3
   have e5:Blk _ b5 79 [.slice y.a1 y.n1 y.c1,.slice av3 (y.n2-(1-0)) cv3,.slice av4 (y.n3-(1-0)) cv4]:=S.e5
   have hgS:=S.hg
   have o3:=S.out
   have o4:=S.ne
   have o5:=S.le
   refine dD (e':=[(3,_),(5,_),(6,_),(8,_),(1,kv)]) ?_ ⟨rfl,rfl,rfl,rfl,rfl,trivial⟩
   apply T.detA 5 3 [(.agg #[.slice x.a1 x.n1 x.c1,.slice av1 (x.n2+1) cv1,.slice av2 (x.n3+1) cv2]),kv,(.agg #[.slice y.a1 y.n1 y.c1,.slice av3 (y.n2-(1-0)) cv3,.slice av4 (y.n3-(1-0)) cv4]),undef,kv]
    (λ b w1=>Blk w1 b3 79 [.slice x.a1 x.n1 x.c1,.slice av1 (x.n2+1) cv1,.slice av2 (x.n3+1) cv2]∧Blk w1 b5 79 [.slice y.a1 y.n1 y.c1,.slice av3 (y.n2-(1-0)) cv3,.slice av4 (y.n3-(1-0)) cv4]∧Blk w1 b6 79 (if b then [.slice x.a1 x.n1 x.c1,.slice av1 (x.n2+1) cv1,.slice av2 (x.n3+1) cv2] else nil3)∧Blk w1 b8 79 nil3∧Carry G w40 G w1∧Grow w w1)
   ·rfl
   ·exact λ w1 h1=>⟨S.e3.grow h1,S.e5.grow h1,S.e6.grow h1,S.e8.grow h1,Carry.grow h1,S.hg.trans h1⟩
   ·clear e3 e5
    repeat' (first|exact iE|refine gY ?_ ?_)
    ·refine cF rfl rfl rfl ?_
     rintro b wq _ ⟨i3,i5,i6,i8,ic,ig⟩
     have qe:=ig.size
     repeat (first|(refine aY ?_;refine bK rfl yB (by exact rfl) rfl ?_)|refine TL.nil ?_)
     refine bD rfl ?_
     rw [show (b || Nat.beq 0 3)=b from Bool.or_false b]
     exact ⟨i3,i5,i6,i8,ic,ig⟩
    ·refine cF rfl rfl rfl ?_
     rintro b wq _ ⟨i3,i5,i6,i8,ic,ig⟩
     have qe:=ig.size
     repeat (first|(refine aB ?_;refine TL.pure rfl rfl ?_)|refine TL.nil ?_)
     refine bD rfl ?_
     rw [show (b || Nat.beq 1 3)=b from Bool.or_false b]
     exact ⟨i3,i5,i6,i8,ic,ig⟩
    ·refine cF rfl rfl rfl ?_
     rintro b wq _ ⟨i3,i5,i6,i8,ic,ig⟩
     have qe:=ig.size
     repeat (first|(refine aY ?_;refine bK rfl yB (by exact rfl) rfl ?_)|refine TL.nil ?_)
     refine bD rfl ?_
     rw [show (b || Nat.beq 2 3)=b from Bool.or_false b]
     exact ⟨i3,i5,i6,i8,ic,ig⟩
    ·refine cF rfl rfl rfl ?_
     rintro b wq hb ⟨i3,i5,i6,i8,ic,ig⟩
     obtain rfl:=hb rfl
     have qe:=ig.size
     have i6':Blk wq b6 79 nil3:=i6
     repeat (first|refine TL.nil ?_|(refine aP ?_;(refine bA rfl rfl yB (by exact rfl) (by exact rfl) (by exact rfl) ?_;intro w' hu hbk hsz)))
     refine iC ⟨i3.upd hu (by omega),i5.upd hu (by omega),hbk,i8.upd hu (by omega),ic.trans (Carry.upd hu (λ k hk _=>(o3 k hk).2.2.1)),aX hu (by omega) ig⟩
    ·refine cF rfl rfl rfl ?_
     rintro b wq _ ⟨i3,i5,i6,i8,ic,ig⟩
     have qe:=ig.size
     repeat (first|(refine aD ?_;refine TL.pure rfl rfl ?_)|refine TL.nil ?_)
     refine bD rfl ?_
     rw [show (b || Nat.beq 4 3)=b from Bool.or_false b]
     exact ⟨i3,i5,i6,i8,ic,ig⟩
   ·rintro w9 ⟨i3,i5,i6,i8,ic,ig⟩
    have i6':Blk w9 b6 79 [.slice x.a1 x.n1 x.c1,.slice av1 (x.n2+1) cv1,.slice av2 (x.n3+1) cv2]:=i6
    clear i6
    repeat (first|refine TL.nil ?_|refine aA ?_|(refine aP ?_;(refine bA rfl rfl yB (by exact rfl) (by exact rfl) (by exact rfl) ?_;intro w' hu hbk hsz))|refine bE ?_)
    have cf:Carry G w9 F w':=(Carry.upd hu (λ k hk _=>(o3 k hk).2.2.2)).trans (hGout _)
    refine retCTC rfl (bV (i6'.upd hu (by omega)) rfl) rfl rfl (bV hbk rfl) ⟨_,rfl,⟨⟨x.a1,x.n1,x.c1,av1,(x.n2+1),cv1,av2,(x.n3+1),cv2⟩,⟨y.a1,y.n1,y.c1,av3,(y.n2-(1-0)),cv3,av4,(y.n3-(1-0)),cv4⟩,kv,rfl,?_,?_,?_⟩,aX hu (by omega) ig⟩
    ·have:=(S.hx.go ic).go cf
     subst he4 he3 he2 he1
     try rw [← nx1]
     try rw [← nx2]
     try rw [← nx3]
     try rw [eel]
     exact this
    ·have:=(S.hy.go ic).go cf
     subst he4 he3 he2 he1
     try rw [← nx1]
     try rw [← nx2]
     try rw [← nx3]
     try rw [eel]
     exact this
    ·have:=hkf.go (Carry.grow (aX hu (by omega) ig))
     try rw [← nx2]
     rw [← ekl] at this
     exact this
end Go.Proofs.YtfpadnmdafiddaaGreatDoor
namespace Go.Proofs.YtfpadnmdafiddaaGreatDoor
open Go Go.RowKit Go.V
theorem upN2 {sz:Nat} {p q:List Value}:jH sz [p,q] 2=p.length / sz+q.length / sz:=by simp [jH]
theorem upN3 {sz:Nat} {p q r:List Value}:jH sz [p,q,r] 3=p.length / sz+(q.length / sz+r.length / sz):=by simp [jH]
theorem merge_c (F:Nat→Prop) (w:World) (hF:∀ k,w.heap.size≤k→F k) (x y:NV) (na nb:Nd) (ka:Option Addr) (kn kc:Nat) (key:Bs) (hx:NdAt F w x na) (hy:NdAt F w y nb) (hk:Sl F w 1 ka kn kc (cX key)) (hsx:na.items.length≤1000∧na.kids.length≤1000∧na.keys.length≤1000) (hsy:nb.items.length≤1000∧nb.kids.length≤1000∧nb.keys.length≤1000) :
  Calls Tryz.prog 191 #[x.val,.slice ka kn kc,y.val] w (Ret λ v w'=>(∃ z:NV,v=z.val∧NdAt F w' z (lG na key nb))∧Grow w w'):=by
 obtain ⟨nx1,nx2,nx3⟩:=hx.nums
 obtain ⟨ny1,ny2,ny3⟩:=hy.nums
 refine V.calls (args:=[_,_,_]) Tryz.func191 rfl Tryz.ntmps191 rfl rfl ?_
 repeat (first|(refine aY ?_;refine bK rfl yB (by exact rfl) rfl ?_)|refine TL.nil ?_|refine aA ?_|refine aJ ?_|refine aC ?_|(refine cD ?_;(refine dP rfl rfl ?_;intro bk w' hg hbk hsz hsz'))|(refine bF ?_;(refine TL.alloc rfl rfl ?_;intro bk w' hg hbk hsz hsz')))
 rename_i b3 w1 g1 k1 p1 p1' b5 w2 g2 k2 p2 p2'
 obtain ⟨b6,rfl⟩:∃ z,z=bk:=⟨bk,rfl⟩
 obtain ⟨G,hG⟩:∃ G:Nat→Prop,∀ k,G k↔F k∧k≠b6:=⟨_,λ _=>Iff.rfl⟩
 have hgr0:Grow w w':=g1.trans (g2.trans hg)
 have cg:Carry F w G w':=(Carry.mono (λ k hk hl=>(hG k).2 ⟨hk,by omega⟩)).trans (Carry.grow hgr0)
 have e3:Blk w' b3 79 x.cs:=k1.grow (g2.trans hg)
 have e5:Blk w' b5 79 y.cs:=k2.grow hg
 have e6:Blk w' b6 79 nil3:=hbk
 have hxg:=hx.go cg
 have hyg:=hy.go cg
 have hkg:=hk.go cg
 have hGF:∀ wq:World,w'.heap.size≤wq.heap.size→∀ k,wq.heap.size≤k→G k:=λ wq hq k hk=>(hG k).2 ⟨hF k (by have:=hgr0.size;omega),by omega⟩
 have q6:w.heap.size≤b6∧b6<w'.heap.size:=by omega
 have zw:=hgr0.size
 clear hbk hg g1 g2 k1 k2 cg p1 p1' p2 p2' hsz hsz'
 cases hlf:cK na with
 | true =>
  rw [show lG na key nb=⟨na.items++nb.items,[],[]⟩ by simp only [lG,hlf,if_true]]
  repeat (first|refine aK rfl yM rfl ?_|refine aF rfl rfl ?_|refine TL.nil ?_|refine aA ?_|refine aJ ?_|refine aC ?_|refine aM rfl ?_|(refine aL 80 ?_;refine aI rfl (fC hxg hlf _) rfl ?_;rintro _ _ ⟨rfl,hgc⟩))
  rename_i wA
  obtain ⟨cs1,hs1,hc1⟩:=hxg.its.ex
  obtain ⟨cs2,hs2,hc2⟩:=hyg.its.ex
  have l1:=hs1.len
  have l2:=hs2.len
  refine TL.buildSlice rfl rfl rfl rfl rfl ?_
  intro b' wa hga hba hsa hsb hsc
  have hga':=hgc.trans hga
  have e6':=e6.grow hga'
  have za:=hga'.size
  have hgw:=hgr0.trans hga'
  clear e3 e5 e6 hgc
  repeat (refine aJ ?_)
  refine aL 152 ?_
  refine aI rfl (join_t (λ _=>True) (some ⟨b',0,none⟩) 2 2 [.slice x.a1 x.n1 x.c1,.slice y.a1 y.n1 y.c1] [cs1,cs2] _ ((bR (sz:=1) (m:=2) hba hsc (by decide)).mono (λ _ _=>trivial)) ⟨⟨_,_,_,rfl,(hs1.grow hga').mono (λ _ _=>trivial)⟩,⟨_,_,_,rfl,(hs2.grow hga').mono (λ _ _=>trivial)⟩,trivial⟩ (by
   intro p hp u hu
   simp only [List.mem_cons,List.not_mem_nil,or_false] at hp
   rcases hp with rfl|rfl
   ·exact hc1.one u hu
   ·exact hc2.one u hu) (by show jH 2 [cs1,cs2] 2≤_;rw [upN2];omega)) rfl ?_
  rintro v wr ⟨hown,hgr⟩
  obtain ⟨av,cv,rfl,hnew⟩:=its_of_own (F:=G) (l:=na.items++nb.items) hown (hGF _ (by omega)) (by
   rw [show ([cs1,cs2]:List (List Value)).flatten=cs1++cs2 by simp]
   exact ItCells.go (Carry.grow (hga'.trans hgr)) (hc1.append hc2))
  have e6'':=e6'.grow hgr
  have hgwr:=hgw.trans hgr
  have zr:=hgr.size
  clear e6' hgr hga hba hown
  repeat (first|refine TL.nil ?_|refine aA ?_|(refine aP ?_;(refine bA rfl rfl yB (by exact rfl) (by exact rfl) (by exact rfl) ?_;intro w' hu hbk hsz))|refine TL.build rfl rfl rfl ?_|refine bE ?_|refine bI ?_)
  have cf:Carry G wr F w':=(Carry.upd hu (λ k hk _=>((hG k).1 hk).2)).trans (Carry.mono λ k hk _=>((hG k).1 hk).1)
  exact retC rfl (bV hbk rfl) ⟨_,rfl,⟨⟨av,_,cv,none,0,0,none,0,0⟩,rfl,hnew.go cf,jR,jF⟩,aX hu (by omega) hgwr⟩
 | false =>
  rw [show lG na key nb=⟨[],na.kids++nb.kids,na.keys++[key]++nb.keys⟩ by simp only [lG,hlf,Bool.false_eq_true,if_false]]
  repeat (first|refine TL.nil ?_|refine aA ?_|refine aJ ?_|refine aE rfl ?_|refine aW ?_|(refine aL 80 ?_;refine aI rfl (fC hxg hlf _) rfl ?_;rintro _ _ ⟨rfl,hgc⟩))
  rename_i wA
  replace e3:=e3.grow hgc
  replace e5:=e5.grow hgc
  replace e6:=e6.grow hgc
  replace hxg:=hxg.go (Carry.grow hgc)
  replace hyg:=hyg.go (Carry.grow hgc)
  replace hkg:=hkg.grow hgc
  have zA:=hgc.size
  have hgw:=hgr0.trans hgc
  obtain ⟨k1,hs1,hc1⟩:=hxg.kys.ex
  obtain ⟨k3,hs3,hc3⟩:=hyg.kys.ex
  have l1:=hs1.len
  have l3:=hs3.len
  have hq1:=hxg.kids
  have hq2:=hyg.kids
  have hck:KyCells G wA [.slice ka kn kc] [key]:=⟨⟨_,_,_,rfl,hkg⟩,trivial⟩
  clear hgc hgr0
  apply T.any 14 [is (.pointer (some ⟨b3,1,none⟩)),is (.slice x.a2 x.n2 x.c2),is (.pointer (some ⟨b5,1,none⟩)),is (.slice y.a2 y.n2 y.c2),slsF 1 2 [cM na.kids,cM nb.kids],kidF G (jH 1 [cM na.kids,cM nb.kids] 2) (na.kids++nb.kids),
   is (.pointer (some ⟨b3,2,none⟩)),is (.slice x.a3 x.n3 x.c3),is (.slice ka kn kc),slF (λ _=>True) 1 1 1 [.slice ka kn kc],is (.pointer (some ⟨b5,2,none⟩)),is (.slice y.a3 y.n3 y.c3),slsF 1 3 [k1,[.slice ka kn kc],k3],kysF G (jH 1 [k1,[.slice ka kn kc],k3] 3) (na.keys++[key]++nb.keys)]
  ·rfl
  ·repeat' (first|exact bW|refine bU ?_ ?_)
   iterate 4
    ·(refine aR rfl rfl rfl ?_);( intro wq _ _ hgq;(repeat (refine aG rfl rfl ?_;intro vq hvq;try (obtain rfl:=hvq)));(refine aN ?_))
     repeat (first|refine aK rfl yM rfl ?_|refine aF rfl rfl ?_|refine TL.nil ?_)
     exact aT rfl yG rfl
   ·(refine aR rfl rfl rfl ?_);( intro wq _ _ hgq;(repeat (refine aG rfl rfl ?_;intro vq hvq;try (obtain rfl:=hvq)));(refine aN ?_))
    refine TL.buildSlice rfl rfl rfl rfl rfl ?_
    intro b' wa hga hba hsa hsb hsc
    repeat (refine TL.nil ?_)
    refine aT rfl yG ⟨_,_,_,rfl,(bR (sz:=1) (m:=2) hba hsc (by decide)).mono (λ _ _=>trivial),⟨_,_,_,rfl,((hq1.grow hgq).grow hga).mono (λ _ _=>trivial)⟩,⟨_,_,_,rfl,((hq2.grow hgq).grow hga).mono (λ _ _=>trivial)⟩,trivial⟩
   ·(refine aR rfl rfl rfl ?_);( intro wq _ _ hgq;(repeat (refine aG rfl rfl ?_;intro vq hvq;try (obtain rfl:=hvq)));(refine aN ?_))
    obtain ⟨a6,c6,vs6,rfl,hs6,hp6⟩:=hvq
    refine aL 160 ?_
    refine aI rfl (join_i _ a6 2 c6 vs6 [cM na.kids,cM nb.kids] _ hs6 hp6 (by
     intro p hp u hu
     simp only [List.mem_cons,List.not_mem_nil,or_false] at hp
     rcases hp with rfl|rfl
     ·exact jZ _ u hu
     ·exact jZ _ u hu) (by show jH 1 [cM na.kids,cM nb.kids] 2≤_;rw [upN2,kS,kS];omega)) rfl ?_
    rintro v wr ⟨hown,hgr⟩
    rw [show ([cM na.kids,cM nb.kids]:List (List Value)).flatten=cM (na.kids++nb.kids) by simp [cM]] at hown
    obtain ⟨av,cv,rfl,hsv⟩:=bX hown
    repeat (refine TL.nil ?_)
    exact aT rfl yG ⟨_,_,rfl,hsv.mono (λ k hk=>hGF wq (by have:=hgq.size;omega) k hk.1)⟩
   iterate 3
    ·(refine aR rfl rfl rfl ?_);( intro wq _ _ hgq;(repeat (refine aG rfl rfl ?_;intro vq hvq;try (obtain rfl:=hvq)));(refine aN ?_))
     repeat (first|(refine aB ?_;refine TL.pure rfl rfl ?_)|refine aK rfl yM rfl ?_|refine aF rfl rfl ?_|refine TL.nil ?_)
     exact aT rfl yG rfl
   ·(refine aR rfl rfl rfl ?_);( intro wq _ _ hgq;(repeat (refine aG rfl rfl ?_;intro vq hvq;try (obtain rfl:=hvq)));(refine aN ?_))
    refine TL.buildSlice rfl rfl rfl rfl rfl ?_
    intro b' wa hga hba hsa hsb hsc
    repeat (refine TL.nil ?_)
    exact aT rfl yG ⟨_,rfl,(bR (sz:=1) (m:=1) hba hsc (by decide)).mono (λ _ _=>trivial)⟩
   iterate 2
    ·(refine aR rfl rfl rfl ?_);( intro wq _ _ hgq;(repeat (refine aG rfl rfl ?_;intro vq hvq;try (obtain rfl:=hvq)));(refine aN ?_))
     repeat (first|refine aK rfl yM rfl ?_|refine aF rfl rfl ?_|refine TL.nil ?_)
     exact aT rfl yG rfl
   ·refine aR rfl rfl rfl ?_
    intro wq _ _ hgq
    refine aG rfl rfl ?_
    intro v7 q7
    obtain rfl:=q7
    refine aG rfl rfl ?_
    rintro v9 ⟨a9,rfl,s9⟩
    refine aG rfl rfl ?_
    intro v11 q11
    obtain rfl:=q11
    refine aN ?_
    refine TL.buildSlice rfl rfl rfl rfl rfl ?_
    intro b' wa hga hba hsa hsb hsc
    repeat (refine TL.nil ?_)
    refine aT rfl yG ⟨_,_,_,rfl,(bR (sz:=1) (m:=3) hba hsc (by decide)).mono (λ _ _=>trivial),⟨_,_,_,rfl,((hs1.grow hgq).grow hga).mono (λ _ _=>trivial)⟩,⟨_,_,_,rfl,s9.grow hga⟩,⟨_,_,_,rfl,((hs3.grow hgq).grow hga).mono (λ _ _=>trivial)⟩,trivial⟩
   ·refine aR rfl rfl rfl ?_
    intro wq _ _ hgq
    refine aG rfl rfl ?_
    rintro v12 ⟨a6,c6,vs6,rfl,hs6,hp6⟩
    refine aG rfl rfl ?_
    rintro v5 ⟨a5,c5,rfl,_⟩
    refine aN ?_
    refine aL 161 ?_
    refine aI rfl (join_k _ a6 3 c6 vs6 [k1,[.slice ka kn kc],k3] _ hs6 hp6 (by
     intro p hp u hu
     simp only [List.mem_cons,List.not_mem_nil,or_false] at hp
     rcases hp with rfl|rfl|rfl
     ·exact hc1.one u hu
     ·simp only [List.mem_singleton] at hu;subst hu;rfl
     ·exact hc3.one u hu) (by show jH 1 [k1,[.slice ka kn kc],k3] 3≤_;rw [upN3];simp only [List.length_cons,List.length_nil];omega)) rfl ?_
    rintro v wr ⟨hown,hgr⟩
    obtain ⟨av,cv,rfl,hnew⟩:=kys_of_own (F:=G) (l:=na.keys++[key]++nb.keys) hown (hGF wq (by have:=hgq.size;omega)) (by
     rw [show ([k1,[.slice ka kn kc],k3]:List (List Value)).flatten=k1++[.slice ka kn kc]++k3 by simp]
     exact KyCells.go (Carry.grow (hgq.trans hgr)) ((hc1.append hck).append hc3))
    repeat (refine TL.nil ?_)
    exact aT rfl yG ⟨_,_,rfl,hnew⟩
  ·intro wt lot hit hgt _ _
   iterate 5 (refine aG rfl rfl ?_;intro vq hvq;try (obtain rfl:=hvq))
   refine aG rfl rfl ?_
   rintro v5 ⟨a5,c5,rfl,h5⟩
   iterate 7 (refine aG rfl rfl ?_;intro vq hvq;try (obtain rfl:=hvq))
   refine aG rfl rfl ?_
   rintro v13 ⟨a13,c13,rfl,h13⟩
   refine aN ?_
   have e6':=e6.grow hgt
   have hgwt:=hgw.trans hgt
   have zt:=hgt.size
   clear e6 hgt e3 e5
   repeat (first|refine TL.nil ?_|refine aA ?_|(refine aP ?_;(refine bA rfl rfl yB (by exact rfl) (by exact rfl) (by exact rfl) ?_;intro w' hu hbk hsz))|refine TL.build rfl rfl rfl ?_|refine bE ?_)
   have cf:Carry G wt F w':=(Carry.upd hu (λ k hk _=>((hG k).1 hk).2)).trans (Carry.mono λ k hk _=>((hG k).1 hk).1)
   exact retC rfl (bV hbk rfl) ⟨_,rfl,⟨⟨none,0,0,a5,_,c5,a13,_,c13⟩,rfl,jS,h5.go cf,h13.go cf⟩,aX hu (by omega) hgwt⟩
end Go.Proofs.YtfpadnmdafiddaaGreatDoor
