import Derived.Test.YtfpadnmdafiddaaGreatDoorKd
set_option linter.all false
set_option maxHeartbeats 16000000
set_option maxRecDepth 100000
namespace Go.Proofs.YtfpadnmdafiddaaGreatDoor
open Go Go.RowKit Go.V
theorem eX {F:Nat→Prop} {x:NV} {nd:Nd} {w0:World} (h:NdAt F w0 x nd) {b:Bool} (hb:cK nd=b) (w:World) :
  Calls Tryz.prog 80 #[x.val] w (Ret λ v w'=>v=.bool b∧Grow w w'):=by
 have:=leaf_c x w
 rwa [show decide (x.n2=0)=b by
  rw [← hb,dX h.kids,Bool.eq_iff_iff,dK]
  simp] at this
def Gap (F:Nat→Prop) (S B:Nat) (k:Nat):Prop:=F k∧(k<S∨B≤k)
theorem nd_gap {F:Nat→Prop} {w w':World} {x:NV} {nd:Nd} {B:Nat} (h:NdAt F w x nd) (hg:Grow w w'):NdAt (Gap F w.heap.size B) w' x nd :=
 (h.go (Carry.mono (λ k hk hl=>⟨hk,.inl hl⟩))).go (Carry.grow hg)
theorem Gap.up {F:Nat→Prop} {S B b:Nat} {w w':World} (u:Upd b w w') (h1:S≤b) (h2:b<B):Carry (Gap F S B) w (Gap F S B) w' :=
 Carry.upd u (λ k hk _=>by have:=hk.2;omega)
theorem Gap.out {F:Nat→Prop} {S B:Nat} {w:World}:Carry (Gap F S B) w F w:=Carry.mono (λ k hk _=>hk.1)
theorem jU {F:Nat→Prop} {w:World}:ItsAt F w none 0 0 []:=⟨[],⟨by simp,Nat.le_refl _,Nat.zero_le _,λ _=>rfl,by simp [Row]⟩,trivial⟩
theorem jF {F:Nat→Prop} {w:World}:KysAt F w none 0 0 []:=⟨[],⟨by simp,Nat.le_refl _,Nat.zero_le _,λ _=>rfl,by simp [Row]⟩,trivial⟩
theorem jT {F:Nat→Prop} {w:World}:Sl F w 1 none 0 0 (cB []):=⟨by simp [cB],Nat.le_refl _,Nat.zero_le _,λ _=>rfl,by simp [Row,cB]⟩
theorem retCCT {P:Program} {e:dN} {w:World} {s t s2 t2 u:Nat} {p p2:Addr} {v v2 x:Value} {R:Ending→World→Prop} (h:find e s=some (.pointer (some p))) (hl:(loadVar t p).run P w=.ok v w) (h':find e s2=some (.pointer (some p2))) (hl':(loadVar t2 p2).run P w=.ok v2 w) (h2:find e u=some x) (hR:R (.returned (.tuple #[v,v2,x])) w):retQ P [.cell s t,.cell s2 t2,.tmp u] R .ret e w :=
 jH (vs:=[v,v2,x]) ⟨v,[v2,x],rfl,⟨p,h,hl⟩,v2,[x],rfl,⟨p2,h',hl'⟩,x,[],rfl,h2,rfl⟩ rfl hR
theorem split_c (F:Nat→Prop) (w:World) (hF:∀ k,w.heap.size≤k→F k) (x:NV) (nd:Nd) (h:NdAt F w x nd) (h9:bK nd≤1000) (hl:cK nd=true→5≤nd.items.length) (hk:cK nd=false→4≤nd.kids.length∧4≤nd.keys.length∧nd.keys.length≤1000) :
  Calls Tryz.prog 162 #[x.val] w (Ret λ v w'=>(∃ (y z:NV) (k:Value),v=.tuple #[y.val,z.val,k]∧NdAt F w' y (dM nd).1∧NdAt F w' z (dM nd).2.1∧BsAt F w' k (dM nd).2.2)∧Grow w w'):=by
 have hn1:=h.its.len
 have hn2:=dX h.kids
 have hn3:=h.kys.len
 have hsz:nd.items.length≤1000∧nd.kids.length≤1000:=by unfold bK at h9;omega
 refine V.calls (args:=[_]) Tryz.func162 rfl Tryz.ntmps162 rfl rfl ?_
 repeat (first|(refine aD ?_;refine TL.pure rfl rfl ?_)|(refine aU ?_;refine bE rfl yB (by exact rfl) rfl ?_)|refine TL.nil ?_|refine aA ?_|refine aJ ?_|refine aC ?_|(refine bW ?_;(refine TL.box rfl rfl rfl ?_;intro bk w' hg hbk hsz hsz'))|(refine bD ?_;(refine TL.alloc rfl rfl ?_;intro bk w' hg hbk hsz hsz')))
 rename_i b1 w1 g1 k1 p1 p1' b2 w2 g2 k2 p2 p2'
 cases hlf:cK nd with
 | true =>
  have hl4:=hl hlf
  have hA:(dM nd).1=⟨cL nd.items 4 nd.items.length,[],[]⟩:=by simp [dM,hlf]
  have hB:(dM nd).2.1=⟨cL nd.items 0 4,[],[]⟩:=by simp [dM,hlf]
  have hkey:(dM nd).2.2=((cL nd.items 0 4).getD 0 ([],[])).1:=by simp [dM,hlf]
  rw [hA,hB,hkey]
  repeat (first|refine TL.nil ?_|refine aA ?_|refine aJ ?_|refine aN rfl ?_|(refine aL 80 ?_;refine aI rfl (eX h hlf _) rfl ?_;rintro _ _ ⟨rfl,hgc⟩))
  rename_i w3
  have e1:Blk w3 b1 79 x.cs:=(k1.grow (g2.trans hg)).grow hgc
  have e2:Blk w3 b2 79 nil3:=(k2.grow hg).grow hgc
  have e3:Blk w3 bk 79 nil3:=hbk.grow hgc
  have hg3:Grow w w3:=g1.trans (g2.trans (hg.trans hgc))
  have z3:=hg3.size
  have zc:=hgc.size
  have q1:w.heap.size≤b1∧b1<b2∧b2<bk∧bk<w3.heap.size:=by have:=g1.size;omega
  obtain ⟨G,hG⟩:∃ G,G=Gap F w.heap.size w3.heap.size:=⟨_,rfl⟩
  have hN:NdAt G w3 x nd:=by rw [hG];exact nd_gap h hg3
  have hGF:∀ wq:World,w3.heap.size≤wq.heap.size→∀ k,wq.heap.size≤k→G k:=λ wq hq k hk=>by rw [hG];exact ⟨hF k (by omega),.inr (by omega)⟩
  clear hbk hg hgc k1 k2 g1 g2 hsz' p1' p2' p1 p2
  apply T.any 10 [is (.pointer (some ⟨b1,0,none⟩)),is (.slice x.a1 x.n1 x.c1),is (.pointer (some ⟨b1,0,none⟩)),is (.slice x.a1 x.n1 x.c1),is (.int .i64 (x.n1:Int)),itsF G (x.n1-(x.n1-4)) (cL nd.items 4 x.n1),is (.pointer (some ⟨b1,0,none⟩)),is (.slice x.a1 x.n1 x.c1),itsF G (x.n1-(4-0)) (cL nd.items 0 4),is (.pointer (some ⟨b2,0,none⟩))]
  ·rfl
  ·repeat' (first|exact bX|refine bU ?_ ?_)
   iterate 5
    ·(refine aQ rfl rfl rfl ?_);( intro wq _ _ hgq;(repeat (refine aG rfl rfl ?_;intro vq hvq;try (obtain rfl:=hvq)));(refine aM ?_))
     repeat (first|refine aK rfl yM rfl ?_|refine aF rfl rfl ?_|refine TL.nil ?_|refine aO rfl rfl ?_)
     exact aS rfl yG rfl
   ·(refine aQ rfl rfl rfl ?_);( intro wq _ _ hgq;(repeat (refine aG rfl rfl ?_;intro vq hvq;try (obtain rfl:=hvq)));(refine aM ?_))
    refine aL 81 ?_
    refine aI rfl (cutI_c (F:=G) (hGF _ (by have:=hgq.size;omega)) x.a1 x.n1 x.c1 4 x.n1 nd.items (hN.its.go (Carry.grow yG)) (by omega) (by omega) (by omega)) rfl ?_
    rintro v wr ⟨⟨a',c',rfl,hi⟩,hgr⟩
    repeat (refine TL.nil ?_)
    exact aS rfl yG ⟨a',c',rfl,hi⟩
   iterate 2
    ·(refine aQ rfl rfl rfl ?_);( intro wq _ _ hgq;(repeat (refine aG rfl rfl ?_;intro vq hvq;try (obtain rfl:=hvq)));(refine aM ?_))
     repeat (first|refine aK rfl yM rfl ?_|refine aF rfl rfl ?_|refine TL.nil ?_)
     exact aS rfl yG rfl
   ·(refine aQ rfl rfl rfl ?_);( intro wq _ _ hgq;(repeat (refine aG rfl rfl ?_;intro vq hvq;try (obtain rfl:=hvq)));(refine aM ?_))
    refine aL 81 ?_
    refine aI rfl (cutI_c (F:=G) (hGF _ (by have:=hgq.size;omega)) x.a1 x.n1 x.c1 0 4 nd.items (hN.its.go (Carry.grow yG)) (by omega) (by omega) (by omega)) rfl ?_
    rintro v wr ⟨⟨a',c',rfl,hi⟩,hgr⟩
    repeat (refine TL.nil ?_)
    exact aS rfl yG ⟨a',c',rfl,hi⟩
   iterate 1
    ·(refine aQ rfl rfl rfl ?_);( intro wq _ _ hgq;(repeat (refine aG rfl rfl ?_;intro vq hvq;try (obtain rfl:=hvq)));(refine aM ?_))
     repeat (first|refine aF rfl rfl ?_|refine TL.nil ?_)
     exact aS rfl yG rfl
  ·intro w2 lo2 hi2 hg2 _ _
   iterate 5 (refine aG rfl rfl ?_;intro vq hvq;try (obtain rfl:=hvq))
   refine aG rfl rfl ?_
   rintro v5 ⟨a52,c52,rfl,h52⟩
   iterate 2 (refine aG rfl rfl ?_;intro vq hvq;try (obtain rfl:=hvq))
   refine aG rfl rfl ?_
   rintro v8 ⟨a82,c82,rfl,h82⟩
   iterate 1 (refine aG rfl rfl ?_;intro vq hvq;try (obtain rfl:=hvq))
   refine aM ?_
   repeat (first|refine aF rfl rfl ?_|refine TL.nil ?_|refine aA ?_|refine aJ ?_|(refine aP ?_;(refine bP rfl rfl yB (by exact rfl) (by exact rfl) (by exact rfl) ?_;intro w' hu hbk hsz)))
   rename_i w4 hu4 hb4 z4
   have z2:=hg2.size
   have hN5:NdAt G w' ⟨a52,x.n1-(x.n1-4),c52,none,0,0,none,0,0⟩ ⟨cL nd.items 4 nd.items.length,[],[]⟩:=by
    rw [hG] at h52 ⊢
    rw [← hn1]
    exact ⟨(h52.go (Gap.up hu4 (by omega) (by omega))).go (Gap.up hu (by omega) (by omega)),jT,jF⟩
   have hN8:NdAt G w' ⟨a82,x.n1-(4-0),c82,none,0,0,none,0,0⟩ ⟨cL nd.items 0 4,[],[]⟩:=by
    rw [hG] at h82 ⊢
    exact ⟨(h82.go (Gap.up hu4 (by omega) (by omega))).go (Gap.up hu (by omega) (by omega)),jT,jF⟩
   have hy2:Blk w' b2 79 [.slice a52 (x.n1-(x.n1-4)) c52,.slice none 0 0,.slice none 0 0]:=hb4.upd hu (by omega)
   have hz2:Blk w' bk 79 [.slice a82 (x.n1-(4-0)) c82,.slice none 0 0,.slice none 0 0]:=hbk
   have hgr2:Grow w w':=aZ hu (by omega) (aZ hu4 (by omega) (hg3.trans hg2))
   obtain ⟨y0,hy0⟩:∃ y,(cL nd.items 0 4)[0]? = some y:=⟨_,List.getElem?_eq_getElem (by rw [eD (by omega) (by omega)];omega)⟩
   obtain ⟨cs8,hs8,hc8⟩:=hN8.its.ex
   obtain ⟨kv,vv,f0,f1,hbk0,hbv0⟩:=hc8.at' hy0
   have hkk:BsAt G w' kv ((cL nd.items 0 4).getD 0 ([],[])).1:=by
    rw [List.getD_eq_getElem?_getD,hy0]
    exact hbk0
   clear hbk hb4 h52 h82
   apply T.det 9 [.agg #[.slice a52 (x.n1-(x.n1-4)) c52,.slice none 0 0,.slice none 0 0],.agg #[.slice a82 (x.n1-(4-0)) c82,.slice none 0 0,.slice none 0 0],.pointer (some ⟨bk,0,none⟩),.slice a82 (x.n1-(4-0)) c82,.pointer (some (at' a82 0)),.pointer (some (at' a82 0)),kv,undef,undef]
    (λ w1=>Blk w1 b2 79 [.slice a52 (x.n1-(x.n1-4)) c52,.slice none 0 0,.slice none 0 0]∧Blk w1 bk 79 [.slice a82 (x.n1-(4-0)) c82,.slice none 0 0,.slice none 0 0]∧Carry G w' G w1∧Grow w w1)
   ·rfl
   ·exact λ w1 h1=>⟨hy2.grow h1,hz2.grow h1,Carry.grow h1,hgr2.trans h1⟩
   ·repeat' (first|exact gP|refine fS ?_ ?_)
    iterate 4
     ·refine iC rfl rfl rfl ?_
      rintro wq ⟨i1,i2,i3,i4⟩
      repeat (first|(refine aU ?_;first|refine aK rfl yM rfl ?_|refine bE rfl yB (by exact rfl) rfl ?_)|refine aF rfl rfl ?_|refine TL.nil ?_)
      exact bB rfl ⟨i1,i2,i3,i4⟩
    ·refine iC rfl rfl rfl ?_
     rintro wq ⟨i1,i2,i3,i4⟩
     repeat (first|(refine bF ?_;refine aW (j:=0) rfl rfl rfl (by omega) rfl ⟨G,_,hs8.go i3⟩ rfl ?_)|refine TL.nil ?_)
     exact bB rfl ⟨i1,i2,i3,i4⟩
    ·refine iC rfl rfl rfl ?_
     rintro wq ⟨i1,i2,i3,i4⟩
     repeat (first|(refine gR ?_;refine gS (o:=0) rfl (hs8.go i3) f0 rfl ?_)|refine TL.nil ?_)
     exact bB rfl ⟨i1,i2,i3,i4⟩
    ·refine iC rfl rfl rfl ?_
     rintro wq ⟨i1,i2,i3,i4⟩
     have hcx:wq.cell? (at' a82 0)=some kv:=(hs8.go i3).row.cell f0
     have hone:=hkk.one
     repeat (first|refine aK rfl yM rfl ?_|refine TL.nil ?_)
     exact bB rfl ⟨i1,i2,i3,i4⟩
    ·refine iC rfl rfl rfl ?_
     rintro wq ⟨i1,i2,i3,i4⟩
     repeat (first|refine TL.nil ?_|(refine aP ?_;(refine aY rfl rfl yB (by exact rfl) (by exact rfl) (by exact rfl) ?_;intro w' hu hbk hsz)))
     refine iD ⟨hbk,i2.upd hu (by omega),?_,aZ hu (by omega) i4⟩
     rw [hG] at i3 ⊢
     exact i3.trans (Gap.up hu (by omega) (by omega))
    ·refine iC rfl rfl rfl ?_
     rintro wq ⟨i1,i2,i3,i4⟩
     repeat (first|refine TL.nil ?_|(refine aP ?_;(refine aY rfl rfl yB (by exact rfl) (by exact rfl) (by exact rfl) ?_;intro w' hu hbk hsz)))
     refine iD ⟨i1.upd hu (by omega),hbk,?_,aZ hu (by omega) i4⟩
     rw [hG] at i3 ⊢
     exact i3.trans (Gap.up hu (by omega) (by omega))
   ·rintro w9 ⟨i1,i2,i3,i4⟩
    repeat (first|(refine aD ?_;refine TL.pure rfl rfl ?_)|refine TL.nil ?_|refine aA ?_|refine bC ?_|refine bI ?_)
    refine retCCT rfl (bY i1 rfl) rfl (bY i2 rfl) rfl ⟨_,rfl,⟨⟨a52,x.n1-(x.n1-4),c52,none,0,0,none,0,0⟩,⟨a82,x.n1-(4-0),c82,none,0,0,none,0,0⟩,kv,rfl,(hN5.go i3).go ?_,(hN8.go i3).go ?_,(hkk.go i3).go ?_⟩,i4⟩<;>(rw [hG];exact Gap.out)
 | false =>
  obtain ⟨hk4,hy4,hy1⟩:=hk hlf
  have hA:(dM nd).1=⟨[],cL nd.kids 4 nd.kids.length,cL nd.keys 3 nd.keys.length⟩:=by simp [dM,hlf]
  have hB:(dM nd).2.1=⟨[],cL nd.kids 0 4,cL nd.keys 0 4⟩:=by simp [dM,hlf]
  have hkey:(dM nd).2.2=nd.keys.getD 3 []:=by simp [dM,hlf]
  rw [hA,hB,hkey]
  repeat (first|refine TL.nil ?_|refine aA ?_|refine aJ ?_|refine aE rfl ?_|refine aV ?_|(refine aL 80 ?_;refine aI rfl (eX h hlf _) rfl ?_;rintro _ _ ⟨rfl,hgc⟩))
  rename_i w3
  have e1:Blk w3 b1 79 x.cs:=(k1.grow (g2.trans hg)).grow hgc
  have e2:Blk w3 b2 79 nil3:=(k2.grow hg).grow hgc
  have e3:Blk w3 bk 79 nil3:=hbk.grow hgc
  have hg3:Grow w w3:=g1.trans (g2.trans (hg.trans hgc))
  have z3:=hg3.size
  have zc:=hgc.size
  have q1:w.heap.size≤b1∧b1<b2∧b2<bk∧bk<w3.heap.size:=by have:=g1.size;omega
  obtain ⟨G,hG⟩:∃ G,G=Gap F w.heap.size w3.heap.size:=⟨_,rfl⟩
  have hN:NdAt G w3 x nd:=by rw [hG];exact nd_gap h hg3
  have hGF:∀ wq:World,w3.heap.size≤wq.heap.size→∀ k,wq.heap.size≤k→G k:=λ wq hq k hk=>by rw [hG];exact ⟨hF k (by omega),.inr (by omega)⟩
  clear hbk hg hgc k1 k2 g1 g2 hsz' p1' p2' p1 p2
  apply T.any 10 [is (.pointer (some ⟨b1,1,none⟩)),is (.slice x.a2 x.n2 x.c2),is (.pointer (some ⟨b1,1,none⟩)),is (.slice x.a2 x.n2 x.c2),is (.int .i64 (x.n2:Int)),kidF G (x.n2-(x.n2-4)) (cL nd.kids 4 x.n2),is (.pointer (some ⟨b1,1,none⟩)),is (.slice x.a2 x.n2 x.c2),kidF G (x.n2-(4-0)) (cL nd.kids 0 4),is (.pointer (some ⟨b2,1,none⟩))]
  ·rfl
  ·repeat' (first|exact bX|refine bU ?_ ?_)
   iterate 5
    ·(refine aQ rfl rfl rfl ?_);( intro wq _ _ hgq;(repeat (refine aG rfl rfl ?_;intro vq hvq;try (obtain rfl:=hvq)));(refine aM ?_))
     repeat (first|refine aK rfl yM rfl ?_|refine aF rfl rfl ?_|refine TL.nil ?_|refine aO rfl rfl ?_)
     exact aS rfl yG rfl
   ·(refine aQ rfl rfl rfl ?_);( intro wq _ _ hgq;(repeat (refine aG rfl rfl ?_;intro vq hvq;try (obtain rfl:=hvq)));(refine aM ?_))
    refine aL 97 ?_
    refine aI rfl (cutN_c (F:=G) (hGF _ (by have:=hgq.size;omega)) x.a2 x.n2 x.c2 4 x.n2 nd.kids (hN.kids.grow yG) (by omega) (by omega) (by omega)) rfl ?_
    rintro v wr ⟨⟨a',c',rfl,hi⟩,hgr⟩
    repeat (refine TL.nil ?_)
    exact aS rfl yG ⟨a',c',rfl,hi⟩
   iterate 2
    ·(refine aQ rfl rfl rfl ?_);( intro wq _ _ hgq;(repeat (refine aG rfl rfl ?_;intro vq hvq;try (obtain rfl:=hvq)));(refine aM ?_))
     repeat (first|refine aK rfl yM rfl ?_|refine aF rfl rfl ?_|refine TL.nil ?_)
     exact aS rfl yG rfl
   ·(refine aQ rfl rfl rfl ?_);( intro wq _ _ hgq;(repeat (refine aG rfl rfl ?_;intro vq hvq;try (obtain rfl:=hvq)));(refine aM ?_))
    refine aL 97 ?_
    refine aI rfl (cutN_c (F:=G) (hGF _ (by have:=hgq.size;omega)) x.a2 x.n2 x.c2 0 4 nd.kids (hN.kids.grow yG) (by omega) (by omega) (by omega)) rfl ?_
    rintro v wr ⟨⟨a',c',rfl,hi⟩,hgr⟩
    repeat (refine TL.nil ?_)
    exact aS rfl yG ⟨a',c',rfl,hi⟩
   iterate 1
    ·(refine aQ rfl rfl rfl ?_);( intro wq _ _ hgq;(repeat (refine aG rfl rfl ?_;intro vq hvq;try (obtain rfl:=hvq)));(refine aM ?_))
     repeat (first|refine aF rfl rfl ?_|refine TL.nil ?_)
     exact aS rfl yG rfl
  ·intro w4 lo4 hi4 hg4 _ _
   iterate 5 (refine aG rfl rfl ?_;intro vq hvq;try (obtain rfl:=hvq))
   refine aG rfl rfl ?_
   rintro v5 ⟨a54,c54,rfl,h54⟩
   iterate 2 (refine aG rfl rfl ?_;intro vq hvq;try (obtain rfl:=hvq))
   refine aG rfl rfl ?_
   rintro v8 ⟨a84,c84,rfl,h84⟩
   iterate 1 (refine aG rfl rfl ?_;intro vq hvq;try (obtain rfl:=hvq))
   refine aM ?_
   repeat (first|refine aF rfl rfl ?_|refine TL.nil ?_|refine aA ?_|refine aJ ?_|(refine aP ?_;(refine bP rfl rfl yB (by exact rfl) (by exact rfl) (by exact rfl) ?_;intro w' hu hbk hsz)))
   rename_i w4 hu4 hb4 z4
   have z2:=hg4.size
   have u4:Carry G w3 G w':=by
    rw [hG]
    exact (Carry.grow hg4).trans ((Gap.up hu4 (by omega) (by omega)).trans (Gap.up hu (by omega) (by omega)))
   have u5:Carry G w3 G w3:=Carry.mono λ k hk _=>hk
   replace hN:=hN.go u4
   have h54:Sl G w' 1 a54 (x.n2-(x.n2-4)) c54 (cB (cL nd.kids 4 x.n2)):=by
    rw [hG] at h54 ⊢
    exact h54.go ((Gap.up hu4 (by omega) (by omega)).trans (Gap.up hu (by omega) (by omega)))
   have h84:Sl G w' 1 a84 (x.n2-(4-0)) c84 (cB (cL nd.kids 0 4)):=by
    rw [hG] at h84 ⊢
    exact h84.go ((Gap.up hu4 (by omega) (by omega)).trans (Gap.up hu (by omega) (by omega)))
   have hy2:Blk w' b2 79 [.slice none 0 0,.slice a54 (x.n2-(x.n2-4)) c54,.slice none 0 0]:=hb4.upd hu (by omega)
   have hz2:Blk w' bk 79 [.slice none 0 0,.slice a84 (x.n2-(4-0)) c84,.slice none 0 0]:=hbk
   have e1':Blk w' b1 79 x.cs:=((e1.grow hg4).upd hu4 (by omega)).upd hu (by omega)
   have hgr2:Grow w w':=aZ hu (by omega) (aZ hu4 (by omega) (hg3.trans hg4))
   have z6:w3.heap.size≤w'.heap.size:=by omega
   clear hbk hb4 hu4 hu e1 e2 e3 u4 u5 hsz
   obtain ⟨w6,rfl⟩:∃ y,y=w':=⟨w',rfl⟩
   clear hg4
   apply T.any 10 [is (.pointer (some ⟨b1,2,none⟩)),is (.slice x.a3 x.n3 x.c3),is (.pointer (some ⟨b1,2,none⟩)),is (.slice x.a3 x.n3 x.c3),is (.int .i64 (x.n3:Int)),kysF G (x.n3-(x.n3-3)) (cL nd.keys 3 x.n3),is (.pointer (some ⟨b1,2,none⟩)),is (.slice x.a3 x.n3 x.c3),kysF G (x.n3-(4-0)) (cL nd.keys 0 4),is (.pointer (some ⟨b2,2,none⟩))]
   ·rfl
   ·repeat' (first|exact bX|refine bU ?_ ?_)
    iterate 5
     ·(refine aQ rfl rfl rfl ?_);( intro wq _ _ hgq;(repeat (refine aG rfl rfl ?_;intro vq hvq;try (obtain rfl:=hvq)));(refine aM ?_))
      repeat (first|refine aK rfl yM rfl ?_|refine aF rfl rfl ?_|refine TL.nil ?_|refine aO rfl rfl ?_)
      exact aS rfl yG rfl
    ·(refine aQ rfl rfl rfl ?_);( intro wq _ _ hgq;(repeat (refine aG rfl rfl ?_;intro vq hvq;try (obtain rfl:=hvq)));(refine aM ?_))
     refine aL 194 ?_
     refine aI rfl (cutK_c (F:=G) (hGF _ (by have:=hgq.size;omega)) x.a3 x.n3 x.c3 3 x.n3 nd.keys (hN.kys.go (Carry.grow yG)) (by omega) (by omega) (by omega)) rfl ?_
     rintro v wr ⟨⟨a',c',rfl,hi⟩,hgr⟩
     repeat (refine TL.nil ?_)
     exact aS rfl yG ⟨a',c',rfl,hi⟩
    iterate 2
     ·(refine aQ rfl rfl rfl ?_);( intro wq _ _ hgq;(repeat (refine aG rfl rfl ?_;intro vq hvq;try (obtain rfl:=hvq)));(refine aM ?_))
      repeat (first|refine aK rfl yM rfl ?_|refine aF rfl rfl ?_|refine TL.nil ?_)
      exact aS rfl yG rfl
    ·(refine aQ rfl rfl rfl ?_);( intro wq _ _ hgq;(repeat (refine aG rfl rfl ?_;intro vq hvq;try (obtain rfl:=hvq)));(refine aM ?_))
     refine aL 194 ?_
     refine aI rfl (cutK_c (F:=G) (hGF _ (by have:=hgq.size;omega)) x.a3 x.n3 x.c3 0 4 nd.keys (hN.kys.go (Carry.grow yG)) (by omega) (by omega) (by omega)) rfl ?_
     rintro v wr ⟨⟨a',c',rfl,hi⟩,hgr⟩
     repeat (refine TL.nil ?_)
     exact aS rfl yG ⟨a',c',rfl,hi⟩
    iterate 1
     ·(refine aQ rfl rfl rfl ?_);( intro wq _ _ hgq;(repeat (refine aG rfl rfl ?_;intro vq hvq;try (obtain rfl:=hvq)));(refine aM ?_))
      repeat (first|refine aF rfl rfl ?_|refine TL.nil ?_)
      exact aS rfl yG rfl
   ·intro w5 lo5 hi5 hg5 _ _
    iterate 5 (refine aG rfl rfl ?_;intro vq hvq;try (obtain rfl:=hvq))
    refine aG rfl rfl ?_
    rintro v5 ⟨a55,c55,rfl,h55⟩
    iterate 2 (refine aG rfl rfl ?_;intro vq hvq;try (obtain rfl:=hvq))
    refine aG rfl rfl ?_
    rintro v8 ⟨a85,c85,rfl,h85⟩
    iterate 1 (refine aG rfl rfl ?_;intro vq hvq;try (obtain rfl:=hvq))
    refine aM ?_
    repeat (first|refine aF rfl rfl ?_|refine TL.nil ?_|refine aA ?_|refine aJ ?_|(refine aP ?_;(refine bP rfl rfl yB (by exact rfl) (by exact rfl) (by exact rfl) ?_;intro w' hu hbk hsz)))
    rename_i w4' hu4 hb4 z4'
    have z5:=hg5.size
    have u4:Carry G w6 G w':=by
     rw [hG]
     exact (Carry.grow hg5).trans ((Gap.up hu4 (by omega) (by omega)).trans (Gap.up hu (by omega) (by omega)))
    have h55:KysAt G w' a55 (x.n3-(x.n3-3)) c55 (cL nd.keys 3 x.n3):=by
     rw [hG] at h55 ⊢
     exact h55.go ((Gap.up hu4 (by omega) (by omega)).trans (Gap.up hu (by omega) (by omega)))
    have h85:KysAt G w' a85 (x.n3-(4-0)) c85 (cL nd.keys 0 4):=by
     rw [hG] at h85 ⊢
     exact h85.go ((Gap.up hu4 (by omega) (by omega)).trans (Gap.up hu (by omega) (by omega)))
    have hy3:Blk w' b2 79 [.slice none 0 0,.slice a54 (x.n2-(x.n2-4)) c54,.slice a55 (x.n3-(x.n3-3)) c55]:=hb4.upd hu (by omega)
    have hz3:Blk w' bk 79 [.slice none 0 0,.slice a84 (x.n2-(4-0)) c84,.slice a85 (x.n3-(4-0)) c85]:=hbk
    have hN5:NdAt G w' ⟨none,0,0,a54,x.n2-(x.n2-4),c54,a55,x.n3-(x.n3-3),c55⟩ ⟨[],cL nd.kids 4 nd.kids.length,cL nd.keys 3 nd.keys.length⟩:=by
     rw [← hn2,← hn3]
     exact ⟨jU,h54.go u4,h55⟩
    have hN8:NdAt G w' ⟨none,0,0,a84,x.n2-(4-0),c84,a85,x.n3-(4-0),c85⟩ ⟨[],cL nd.kids 0 4,cL nd.keys 0 4⟩:=⟨jU,h84.go u4,h85⟩
    have e1'':Blk w' b1 79 x.cs:=((e1'.grow hg5).upd hu4 (by omega)).upd hu (by omega)
    have hgr5:Grow w w':=aZ hu (by omega) (aZ hu4 (by omega) (hgr2.trans hg5))
    obtain ⟨y0,hy0⟩:∃ y,nd.keys[3]? = some y:=⟨_,List.getElem?_eq_getElem (by omega)⟩
    obtain ⟨cs8,hs8,hc8⟩:=(hN.kys.go u4).ex
    obtain ⟨kv,f0,hbk0⟩:=hc8.at' hy0
    have hkk:BsAt G w' kv (nd.keys.getD 3 []):=by
     rw [List.getD_eq_getElem?_getD,hy0]
     exact hbk0
    clear hbk hb4 e1' hy2 hz2
    apply T.det 8 [.agg #[.slice none 0 0,.slice a54 (x.n2-(x.n2-4)) c54,.slice a55 (x.n3-(x.n3-3)) c55],.agg #[.slice none 0 0,.slice a84 (x.n2-(4-0)) c84,.slice a85 (x.n3-(4-0)) c85],.pointer (some ⟨b1,2,none⟩),.slice x.a3 x.n3 x.c3,.pointer (some (at' x.a3 3)),kv,undef,undef]
     (λ w1=>Blk w1 b2 79 [.slice none 0 0,.slice a54 (x.n2-(x.n2-4)) c54,.slice a55 (x.n3-(x.n3-3)) c55]∧Blk w1 bk 79 [.slice none 0 0,.slice a84 (x.n2-(4-0)) c84,.slice a85 (x.n3-(4-0)) c85]∧Blk w1 b1 79 x.cs∧Carry G w' G w1∧Grow w w1)
    ·rfl
    ·exact λ w1 h1=>⟨hy3.grow h1,hz3.grow h1,e1''.grow h1,Carry.grow h1,hgr5.trans h1⟩
    ·repeat' (first|exact gP|refine fS ?_ ?_)
     iterate 4
      ·refine iC rfl rfl rfl ?_
       rintro wq ⟨i1,i2,i0,i3,i4⟩
       repeat (first|(refine aU ?_;first|refine aK rfl yM rfl ?_|refine bE rfl yB (by exact rfl) rfl ?_)|refine aF rfl rfl ?_|refine TL.nil ?_)
       exact bB rfl ⟨i1,i2,i0,i3,i4⟩
     ·refine iC rfl rfl rfl ?_
      rintro wq ⟨i1,i2,i0,i3,i4⟩
      repeat (first|(refine bF ?_;refine aW (j:=3) rfl rfl rfl (by omega) rfl ⟨G,_,hs8.go i3⟩ rfl ?_)|refine TL.nil ?_)
      exact bB rfl ⟨i1,i2,i0,i3,i4⟩
     ·refine iC rfl rfl rfl ?_
      rintro wq ⟨i1,i2,i0,i3,i4⟩
      have hcx:wq.cell? (at' x.a3 3)=some kv:=(hs8.go i3).row.cell f0
      have hone:=hkk.one
      repeat (first|refine aK rfl yM rfl ?_|refine TL.nil ?_)
      exact bB rfl ⟨i1,i2,i0,i3,i4⟩
     ·refine iC rfl rfl rfl ?_
      rintro wq ⟨i1,i2,i0,i3,i4⟩
      repeat (first|refine TL.nil ?_|(refine aP ?_;(refine aY rfl rfl yB (by exact rfl) (by exact rfl) (by exact rfl) ?_;intro w' hu hbk hsz)))
      refine iD ⟨hbk,i2.upd hu (by omega),i0.upd hu (by omega),?_,aZ hu (by omega) i4⟩
      rw [hG] at i3 ⊢
      exact i3.trans (Gap.up hu (by omega) (by omega))
     ·refine iC rfl rfl rfl ?_
      rintro wq ⟨i1,i2,i0,i3,i4⟩
      repeat (first|refine TL.nil ?_|(refine aP ?_;(refine aY rfl rfl yB (by exact rfl) (by exact rfl) (by exact rfl) ?_;intro w' hu hbk hsz)))
      refine iD ⟨i1.upd hu (by omega),hbk,i0.upd hu (by omega),?_,aZ hu (by omega) i4⟩
      rw [hG] at i3 ⊢
      exact i3.trans (Gap.up hu (by omega) (by omega))
    ·rintro w9 ⟨i1,i2,i0,i3,i4⟩
     repeat (first|(refine aD ?_;refine TL.pure rfl rfl ?_)|refine TL.nil ?_|refine aA ?_|refine bC ?_)
     refine retCCT rfl (bY i1 rfl) rfl (bY i2 rfl) rfl ⟨_,rfl,⟨⟨none,0,0,a54,x.n2-(x.n2-4),c54,a55,x.n3-(x.n3-3),c55⟩,⟨none,0,0,a84,x.n2-(4-0),c84,a85,x.n3-(4-0),c85⟩,kv,rfl,(hN5.go i3).go ?_,(hN8.go i3).go ?_,(hkk.go i3).go ?_⟩,i4⟩<;>(rw [hG];exact Gap.out)
end Go.Proofs.YtfpadnmdafiddaaGreatDoor
namespace Go.V
open Go Go.RowKit
theorem Carry.own {F:Nat→Prop} {w w':World} {v:Value} {B:Nat} (hgb:w.grownBy w' v.ownBlock) (hB:∀ k,v.ownBlock=some k→B≤k) (hF:∀ k,F k→k<B):Carry F w F w' :=
 ⟨hgb.size,λ k hk hl=>⟨hk,hgb.block k hl (λ e=>by have:=hB k e.symm;have:=hF k hk;omega)⟩⟩
end Go.V
namespace Go.Proofs.YtfpadnmdafiddaaGreatDoor
open Go Go.RowKit Go.V
theorem ButS.own {S:Nat→Prop} {w0 w w':World} {v:Value} {B:Nat} (h:ButS S w0 w) (hgb:w.grownBy w' v.ownBlock) (hB:∀ k,v.ownBlock=some k→B≤k) (h0:w0.heap.size≤B):ButS S w0 w' :=
 ⟨hgb.os.trans h.os,hgb.tape.trans h.tape,hgb.output.trans h.output,Nat.le_trans h.size hgb.size,λ k hk hs=>(hgb.block k (Nat.lt_of_lt_of_le hk h.size) (λ e=>by have:=hB k e.symm;omega)).trans (h.block k hk hs)⟩
theorem eL {w w':World} {b:Nat} {t:TypeId} {cs:List Value} (h:Blk w b t cs) (e:w'.heap[b]? = w.heap[b]?):Blk w' b t cs:=by unfold Blk at *;rw [e];exact h
theorem PgAt.keep {w w':World} {L:PL} {g:Pg} (h:PgAt w L g) (hk:∀ b,b=L.p∨b=L.d∨b=L.u∨b=L.m→w'.heap[b]? = w.heap[b]?):PgAt w' L g:=by
 obtain ⟨f,h1,h2⟩:=h.f
 exact ⟨eL h.blk (hk _ (.inl rfl)),eL h.used (hk _ (.inr (.inr (.inl rfl)))),h.ok,h.cnt,⟨f,h1.keep (hk _ (.inr (.inl rfl))) (hk _ (.inr (.inr (.inr rfl)))),h2⟩,h.lt,h.bl,h.ne⟩
theorem iI {s:Pg} {nd:Nd} {r:Nat×Pg} (h:fU s nd=some r):cH nd=true∧newP s (fI nd)=some r:=by
 unfold fU at h
 split at h
 ·exact ⟨by assumption,h⟩
 ·cases h
theorem mP {s s2:Pg} {x:Nd} {r:List Nd} {ks:List Nat} (h:eI s (x::r)=some (ks,s2)):∃ p s1 l,fU s x=some (p,s1)∧eI s1 r=some (l,s2)∧ks=p::l:=by
 unfold eI at h
 split at h
 ·cases h
 ·rename_i p s1 e1
  split at h
  ·cases h
  ·rename_i l s2' e2
   simp only [Option.some.injEq,Prod.mk.injEq] at h
   obtain ⟨rfl,rfl⟩:=h
   exact ⟨p,s1,l,e1,e2,rfl⟩
theorem storeP_parts {s s':Pg} {n up:Nd} (h:storeP s n=some (up,s')):∃ nds ks,eI s nds=some (up.kids,s')∧up=⟨[],up.kids,ks⟩∧((bK n≤8∧nds=[n]∧ks=[])∨(8<bK n∧nds=[(dM n).1,(dM n).2.1]∧ks=[(dM n).2.2])):=by
 unfold storeP at h
 split at h
 ·rename_i h8
  split at h
  ·cases h
  ·rename_i p s1 e1
   split at h
   ·cases h
   ·rename_i q s2 e2
    simp only [Option.some.injEq,Prod.mk.injEq] at h
    obtain ⟨rfl,rfl⟩:=h
    exact ⟨_,_,by simp [eI,e1,e2],rfl,.inr ⟨h8,rfl,rfl⟩⟩
 ·rename_i h8
  split at h
  ·cases h
  ·rename_i p s1 e1
   simp only [Option.some.injEq,Prod.mk.injEq] at h
   obtain ⟨rfl,rfl⟩:=h
   exact ⟨_,_,by simp [eI,e1],rfl,.inl ⟨by omega,rfl,rfl⟩⟩
def NdsAt (F:Nat→Prop) (w:World):List Value→List Nd→Prop
 | [],[]=>True
 | v1::v2::v3::cs,nd::l=>(∃ x:NV,v1=x.v1∧v2=x.v2∧v3=x.v3∧NdAt F w x nd)∧NdsAt F w cs l
 | _,_=>False
theorem NdsAt.at' {F:Nat→Prop} {w:World}:∀ {l:List Nd} {cs:List Value} {i:Nat} {nd:Nd},NdsAt F w cs l→l[i]? = some nd→∃ x:NV,(∀ j u,[x.v1,x.v2,x.v3][j]? = some u→cs[i*3+j]? = some u)∧NdAt F w x nd
 | [],_,i,nd,_,hx=>by simp at hx
 | _::_,[],_,_,h,_=>h.elim
 | _::_,[_],_,_,h,_=>h.elim
 | _::_,[_,_],_,_,h,_=>h.elim
 | y::l,v1::v2::v3::cs,0,nd,⟨⟨x,h1,h2,h3,h4⟩,_⟩,hx=>by
  simp only [List.getElem?_cons_zero,Option.some.injEq] at hx
  subst hx
  refine ⟨x,λ j u hj=>?_,h4⟩
  subst h1 h2 h3
  match j,hj with
  | 0,hj=>simpa using hj
  | 1,hj=>simpa using hj
  | 2,hj=>simpa using hj
 | y::l,v1::v2::v3::cs,i+1,nd,⟨_,h⟩,hx=>by
  obtain ⟨x,h1,h2⟩:=NdsAt.at' h (by simpa using hx)
  refine ⟨x,λ j u hj=>?_,h2⟩
  rw [show (i+1)*3+j=(i*3+j)+1+1+1 by omega]
  simpa using h1 j u hj
theorem store_c {w:World} {L:PL} {g g':Pg} (h:PgAt w L g) (ht:TabAt w) (h0:¬ L.S 0) (F:Nat→Prop) (hFS:∀ k,F k→¬ L.S k) (hFw:∀ k,w.heap.size≤k→F k) (x:NV) (nd up:Nd) (hnd:NdAt F w x nd) (hb:NdB nd) (h9:bK nd≤1000) (hsh:cK nd=false→nd.items=[]∧nd.keys.length+1=nd.kids.length) (hst:storeP g nd=some (up,g')) :
  Calls Tryz.prog 100 #[.pointer (some ⟨L.p,0,none⟩),x.val] w (Ret λ v w'=>(∃ y:NV,v=.tuple #[y.val,.int .i64 0]∧NdAt F w' y up)∧PgAt w' L g'∧ButS L.S w w'):=by
 obtain ⟨nds,ks,hw,hup,hor⟩:=storeP_parts hst
 have hn1:=hnd.its.len
 have hn2:=dX hnd.kids
 have hsz:nd.items.length≤1000∧nd.kids.length≤1000:=by unfold bK at h9;omega
 have hSl:∀ k,w.heap.size≤k→¬ L.S k:=λ k hk=>by have:=h.lts;unfold PL.S;omega
 have hbs:∀ nd∈nds,NdB nd:=by
  obtain ⟨s1,s2,s3⟩:=splitN_by hb
  rcases hor with ⟨_,rfl,_⟩|⟨_,rfl,_⟩
  ·intro n hn;simp only [List.mem_singleton] at hn;subst hn;exact hb
  ·intro n hn;simp only [List.mem_cons,List.not_mem_nil,or_false] at hn;rcases hn with rfl|rfl
   ·exact s1
   ·exact s2
 refine V.calls (args:=[_,_]) Tryz.func100 rfl Tryz.ntmps100 rfl rfl ?_
 refine fJ 4 (λ e wC=>∃ (a:Option Addr) (c b4 b6:Nat) (cells:List Value) (a3:Option Addr) (n3 c3:Nat) (G:Nat→Prop),Sub [(7,.slice a nds.length c),(6,.pointer (some ⟨b6,0,none⟩)),(4,.pointer (some ⟨b4,0,none⟩)),(0,.pointer (some ⟨L.p,0,none⟩))] e ∧
  (∀ k,G k→F k∧k≠b6∧k≠b4)∧Sl G wC 3 a nds.length c cells∧NdsAt G wC cells nds∧Blk wC b6 79 [.slice none 0 0,.slice none 0 0,.slice a3 n3 c3]∧KysAt G wC a3 n3 c3 ks∧Blk wC b4 79 nil3∧Grow w wC∧w.heap.size≤b6∧w.heap.size≤b4∧b4≠b6) ?_ ?_
 rotate_left
 ·repeat (first|(refine aD ?_;refine TL.pure rfl rfl ?_)|(refine aU ?_;refine bE rfl yB (by exact rfl) rfl ?_)|refine TL.nil ?_|refine aC ?_|(refine bW ?_;(refine dJ rfl rfl ?_;intro bk w' hg hbk hsz hsz'))|(refine bD ?_;(refine TL.alloc rfl rfl ?_;intro bk w' hg hbk hsz hsz'))|refine bH ?_|refine cQ ?_)
  rename_i b3 w1 g1 k1 p1 p1' b4 w2 g2 k2 p2 p2'
  obtain ⟨b6,rfl⟩:∃ y,y=bk:=⟨bk,rfl⟩
  have zg:=g1.size
  refine TL.buildSlice rfl rfl rfl rfl rfl ?_
  intro b' wa hga hba hsa hsb hsc
  have k4:Blk wa b4 79 nil3:=(k2.grow hg).grow hga
  have k6:Blk wa b6 79 nil3:=hbk.grow hga
  have k3:Blk wa b3 79 x.cs:=((k1.grow g2).grow hg).grow hga
  have hgw:Grow w wa:=g1.trans (g2.trans (hg.trans hga))
  have q:w.heap.size≤b4∧w.heap.size≤b6∧b4≠b6∧b'≠b4∧b'≠b6∧w.heap.size≤b'∧b4<wa.heap.size∧b6<wa.heap.size:=by omega
  have hx:NdAt (λ k=>F k∧k≠b6∧k≠b4) wa x nd:=(hnd.go (Carry.mono (λ k hk hl=>⟨hk,by omega,by omega⟩))).go (Carry.grow hgw)
  have hba':Blk wa b' 79 x.cs:=hba
  clear hbk hg hga k1 k2 g1 g2 hba hsz hsz' p1 p1' p2 p2' hsa hsb zg
  rcases hor with ⟨h8,rfl,rfl⟩|⟨h8,rfl,rfl⟩
  ·have h8':¬ 8<x.n1+x.n2:=by unfold bK at h8;omega
   repeat (first|(refine aD ?_;refine TL.pure rfl rfl ?_)|(refine aU ?_;refine bE rfl yB (by exact rfl) rfl ?_)|refine TL.nil ?_|refine aA ?_|refine aJ ?_|refine aC ?_|(refine aH ?_;refine aR rfl yD rfl ?_)|refine aE rfl ?_|refine aV ?_|refine bH ?_|refine cQ ?_|refine cR ?_|(refine aL 83 ?_;refine aI rfl (iJ x _ (by omega) (by omega)) rfl ?_;rintro _ _ ⟨rfl,hgc⟩))
   refine ⟨some ⟨b',0,none⟩,1,b4,b6,x.cs,none,0,0,(λ k=>F k∧k≠b6∧k≠b4),⟨rfl,rfl,rfl,rfl,trivial⟩,λ k hk=>hk,?_,⟨⟨x,rfl,rfl,rfl,hx.go (Carry.grow hgc)⟩,trivial⟩,k6.grow hgc,jF,k4.grow hgc,hgw.trans hgc,q.2.1,q.1,q.2.2.1⟩
   exact (bR (sz:=3) (m:=1) (hba'.grow hgc) rfl (by decide)).mono (λ k hk=>by subst hk;exact ⟨hFw _ q.2.2.2.2.2.1,q.2.2.2.2.1,q.2.2.2.1⟩)
  ·have h8':8<x.n1+x.n2:=by unfold bK at h8;omega
   repeat (first|(refine aD ?_;refine TL.pure rfl rfl ?_)|(refine aU ?_;refine bE rfl yB (by exact rfl) rfl ?_)|refine TL.nil ?_|refine aA ?_|refine aJ ?_|refine aC ?_|(refine aH ?_;refine bA rfl yD rfl ?_)|refine aN rfl ?_|refine bH ?_|refine cQ ?_|(refine aL 83 ?_;refine aI rfl (iJ x _ (by omega) (by omega)) rfl ?_;rintro _ _ ⟨rfl,hgc⟩))
   rename_i w4
   have z4:=hgc.size
   refine aL 162 ?_
   refine aI rfl (split_c (λ k=>F k∧k≠b6∧k≠b4) w4 (λ k hk=>⟨hFw k (by have:=hgw.size;omega),by omega,by omega⟩) x nd (hx.go (Carry.grow hgc)) h9 ?_ ?_) rfl ?_
   ·intro hl
    rw [dK] at hl
    unfold bK at h8
    rw [hl] at h8
    simp at h8
    omega
   ·intro hl
    obtain ⟨i1,i2⟩:=hsh hl
    unfold bK at h8
    rw [i1] at h8
    simp at h8
    omega
   rintro _ w5 ⟨⟨y,z,kv,rfl,hy,hz,hkv⟩,hg5⟩
   obtain ⟨ka,kc,rfl,hks⟩:=hkv.sl
   have z5:=hg5.size
   have hgw5:=(hgw.trans hgc).trans hg5
   have zw5:=hgw5.size
   have kk:Carry (λ k=>F k∧k≠b6∧k≠b4) w5 (λ k=>(F k∧k≠b6∧k≠b4)∧k<w5.heap.size) w5:=Carry.mono (λ k hk hl=>⟨hk,hl⟩)
   replace hy:=hy.go kk
   replace hz:=hz.go kk
   have hks:=hks.go kk
   have j4:=(k4.grow hgc).grow hg5
   have j6:=(k6.grow hgc).grow hg5
   clear hgc hg5 k4 k6 k3 hba' hx kk hkv
   obtain ⟨w5',rfl⟩:∃ y,y=w5:=⟨w5,rfl⟩
   repeat (first|(refine aB ?_;refine TL.pure rfl rfl ?_)|(refine aD ?_;refine TL.pure rfl rfl ?_)|(refine aU ?_;refine bE rfl yB (by exact rfl) rfl ?_)|refine TL.nil ?_|refine aA ?_|refine aJ ?_|refine aC ?_|(refine aP ?_;(refine aY rfl rfl yB (by exact rfl) (by exact rfl) (by exact rfl) ?_;intro w' hu hbk hsz))|(refine bD ?_;(refine TL.alloc rfl rfl ?_;intro bk w' hg hbk hsz hsz'))|refine TL.pure rfl rfl ?_)
   rename_i b8 w8 g8 k8 p8 p8' w9 k9 p9 w10 u8 b10 z10
   refine TL.buildSlice rfl rfl rfl rfl rfl ?_
   intro bp wb hgp hbp hsp hsq hsr
   have e8:b8=w5'.heap.size∧bk=w5'.heap.size+1:=by omega
   have uu:Carry (λ k=>(F k∧k≠b6∧k≠b4)∧k<w5'.heap.size) w5' (λ k=>(F k∧k≠b6∧k≠b4)∧k<w5'.heap.size) wb :=
    (Carry.grow (g8.trans hg)).trans ((Carry.upd u8 (λ k hk _=>by omega)).trans ((Carry.upd hu (λ k hk _=>by omega)).trans (Carry.grow hgp)))
   replace hy:=hy.go uu
   replace hz:=hz.go uu
   replace hks:=hks.go uu
   have hgwb:Grow w wb:=(aZ hu (by omega) (aZ u8 (by omega) (hgw5.trans (g8.trans hg)))).trans hgp
   have j4':Blk wb b4 79 nil3:=((((j4.grow (g8.trans hg)).upd u8 (by omega)).upd hu (by omega)).grow hgp)
   have j6':Blk wb b6 79 nil3:=((((j6.grow (g8.trans hg)).upd u8 (by omega)).upd hu (by omega)).grow hgp)
   have hbp':Blk wb bp 79 (y.cs++z.cs):=hbp
   have hpn:bp≠b4∧bp≠b6∧w.heap.size≤bp:=by have:=hu.size;have:=u8.size;omega
   clear hbp hsp hsq hsr hbk hu z10 b10 u8 p9 p8 p8' k9 k8 g8 hg hgp uu j4 j6
   repeat (first|(refine aB ?_;refine TL.pure rfl rfl ?_)|(refine aD ?_;refine TL.pure rfl rfl ?_)|refine TL.nil ?_|refine aA ?_|refine aC ?_)
   refine TL.buildSlice rfl rfl rfl rfl rfl ?_
   intro bq wq hgq hbq hsp hsq hsr
   have hbq':Blk wq bq 30 [.slice ka (dM nd).2.2.length kc]:=hbq
   have hgwq:=hgwb.trans hgq
   have l4:=j4'.lt
   have l6:=j6'.lt
   have lq:=hbp'.lt
   have j4:=j4'.grow hgq
   have j6:=j6'.grow hgq
   have jp:=hbp'.grow hgq
   repeat (first|refine aF rfl rfl ?_|refine TL.nil ?_|(refine aP ?_;(refine bP rfl rfl yB (by exact rfl) (by exact rfl) (by exact rfl) ?_;intro w' hu hbk hsz))|refine bH ?_|refine cR ?_)
   have hcar:Carry (λ k=>(F k∧k≠b6∧k≠b4)∧k<w5'.heap.size) wb (λ k=>F k∧k≠b6∧k≠b4) w' :=
    (Carry.grow hgq).trans ((Carry.upd hu (λ k hk _=>hk.1.2.1)).trans (Carry.mono λ k hk _=>hk.1))
   have hqs:w.heap.size≤bq∧bq≠b4∧bq≠b6:=by have:=hgwb.size;omega
   refine ⟨some ⟨bp,0,none⟩,2,b4,b6,y.cs++z.cs,some ⟨bq,0,none⟩,1,1,(λ k=>F k∧k≠b6∧k≠b4),⟨rfl,rfl,rfl,rfl,trivial⟩,λ k hk=>hk,?_,⟨⟨y,rfl,rfl,rfl,hy.go hcar⟩,⟨z,rfl,rfl,rfl,hz.go hcar⟩,trivial⟩,hbk,⟨[.slice ka (dM nd).2.2.length kc],?_,⟨_,_,_,rfl,hks.go hcar⟩,trivial⟩,j4.upd hu (by omega),aZ hu q.2.1 hgwq,q.2.1,q.1,q.2.2.1⟩
   ·exact (bR (sz:=3) (m:=2) (jp.upd hu hpn.2.1) rfl (by decide)).mono (λ k hk=>by subst hk;exact ⟨hFw _ hpn.2.2,hpn.2.1,hpn.1⟩)
   ·exact (bR (sz:=1) (m:=1) (hbq'.upd hu hqs.2.2) rfl (by decide)).mono (λ k hk=>by subst hk;exact ⟨hFw _ hqs.1,hqs.2.2,hqs.2.1⟩)
 rintro e wC ⟨a,c,b4,b6,cells,a3,n3,c3,G,hsub,hG,hs,hns,hb6,hk3,hb4,hgC,q6,q4,q46⟩
 refine cT (e':=[(7,_),(6,_),(4,_),(0,_)]) ?_ hsub
 clear hsub
 have zC:=hgC.size
 have hm2:nds.length≤2:=by rcases hor with ⟨_,rfl,_⟩|⟨_,rfl,_⟩<;>simp
 obtain ⟨m,hm⟩:∃ m,m=nds.length:=⟨_,rfl⟩
 rw [← hm] at hs hm2 ⊢
 have l4:=hb4.lt
 have l6:=hb6.lt
 repeat (first|(refine aB ?_;refine TL.pure rfl rfl ?_)|refine TL.nil ?_|refine aA ?_|refine aJ ?_|refine aC ?_|refine T.block ?_|refine aO rfl rfl ?_)
 refine cM (S:=Nat×Pg×List Nat×List Nat×Value) (λ s=>[(34,.int .i64 (s.1:Int)),(33,.int .i64 (m:Int)),(32,.slice a m c),(6,.pointer (some ⟨b6,0,none⟩)),(4,.pointer (some ⟨b4,0,none⟩)),(0,.pointer (some ⟨L.p,0,none⟩))])
  (λ s w1=>s.1≤m∧eI s.2.1 (nds.drop s.1)=some (s.2.2.2.1,g')∧s.2.2.1++s.2.2.2.1=up.kids∧PgAt w1 L s.2.1∧TabAt w1∧w1.ownsRow wC.heap.size 3 1 s.2.2.2.2 s.1 (cB s.2.2.1)∧Blk w1 b6 79 [.slice none 0 0,s.2.2.2.2,.slice a3 n3 c3] ∧
   Blk w1 b4 79 nil3∧Carry G wC (λ k=>G k∧k<wC.heap.size) w1∧ButS L.S w w1) (λ s=>m-s.1) (0,g,[],up.kids,.slice none 0 0) ⟨rfl,rfl,rfl,rfl,rfl,rfl,trivial⟩
  ⟨by simp only;omega,hw,rfl,h.grow hgC,ht.grow hgC,World.ownsRow_nil _ _ _ _,hb6,hb4,Carry.mono (λ k hk hl=>⟨hk,hl⟩),ButS.grow hgC⟩ ?_
 rintro ⟨i,gi,ki,ri,u⟩ w1 ⟨hi,hwi,hkr,hp1,ht1,hown,hb61,hb41,hc1,hbs1⟩
 simp only at hi hwi hkr hp1 hown hb61
 have z1:=hc1.size
 obtain ⟨ua,uc,rfl,hus⟩:=cE hown
 by_cases hlt:i<m
 rotate_left
 ·obtain rfl:i=m:=by omega
  rw [List.drop_eq_nil_of_le (by omega)] at hwi
  simp only [eI,Option.some.injEq,Prod.mk.injEq] at hwi
  obtain ⟨rfl,rfl⟩:=hwi
  rw [List.append_nil] at hkr
  subst hkr
  repeat (first|(refine aD ?_;refine TL.pure rfl rfl ?_)|(refine aU ?_;refine bE rfl yB (by exact rfl) rfl ?_)|refine TL.nil ?_|refine aA ?_|refine aJ ?_|refine aC ?_|(refine aH ?_;refine aR rfl yD rfl ?_)|(refine aP ?_;(refine aY rfl rfl yB (by exact rfl) (by exact rfl) (by exact rfl) ?_;intro w' hu hbk hsz))|refine aE rfl ?_|refine bC ?_|refine cN ?_|refine bM ?_|refine bO ?_|refine bN ?_)
  refine jC rfl (bY hbk rfl) rfl ⟨_,rfl,⟨⟨none,0,0,ua,i,uc,a3,n3,c3⟩,rfl,?_⟩,hp1.upd hu ?_,hbs1.upd hu q4⟩
  ·rw [hup]
   have hk:=hk3.go hc1
   refine ⟨jU,?_,?_⟩
   ·refine (hus.mono ?_).go (Carry.upd (F:=λ k=>F k∧wC.heap.size≤k) hu (λ k hk _=>by omega)) |>.mono (λ k hk=>hk.1)
    exact λ k hk=>⟨hFw k (by omega),hk.1⟩
   ·exact (hk.go (Carry.upd hu (λ k hk _=>(hG k hk.1).2.2))).go (Carry.mono λ k hk _=>(hG k hk.1).1)
  ·have:=h.lts;omega
 ·obtain ⟨nd0,hnd0⟩:∃ y,nds[i]? = some y:=⟨_,List.getElem?_eq_getElem (by omega)⟩
  rw [List.drop_eq_getElem_cons (by omega),show nds[i]'(by omega)=nd0 from (List.getElem?_eq_some_iff.1 hnd0).2] at hwi
  obtain ⟨pg,s1,l1,hwp,hwr,rfl⟩:=mP hwi
  obtain ⟨hok,hnw⟩:=iI hwp
  obtain ⟨x0,hx3,hx0⟩:=hns.at' hnd0
  have hs1:=hs.go hc1
  have hx1:=NdAt.go hx0 hc1
  repeat (first|refine aW rfl rfl rfl hlt rfl ⟨_,_,hs1⟩ rfl ?_|refine eP rfl hs1 hx3 rfl rfl ?_|(refine aB ?_;refine TL.pure rfl rfl ?_)|(refine aU ?_;refine bE rfl yB (by exact rfl) rfl ?_)|refine TL.nil ?_|refine aA ?_|refine aJ ?_|refine aC ?_|refine T.block ?_|(refine aH ?_;refine bA rfl yD rfl ?_)|(refine aP ?_;(refine aY rfl rfl yB (by exact rfl) (by exact rfl) (by exact rfl) ?_;intro w' hu hbk hsz))|(refine bD ?_;(refine TL.alloc rfl rfl ?_;intro bk w' hg hbk hsz hsz'))|refine aN rfl ?_|refine aV ?_)
  have hgg:Grow w1 w':=aZ hu (by omega) hg
  have n6:=hSl b6 q6
  have n4:=hSl b4 q4
  refine aL 84 ?_
  refine aI rfl (write_c (hp1.grow hgg) (ht1.grow hgg) _ x0 nd0 (hx1.go (Carry.grow hgg)) hok (λ b hb=>lF hok (hbs nd0 (List.mem_of_getElem? hnd0)) b hb) pg hnw) rfl ?_
  rintro _ w3 ⟨rfl,hp3,hb3⟩
  have z3:=hb3.size
  have zg:=hgg.size
  have hb63:=dC (hb61.grow hgg) hb3 n6
  have hb43:=dC (hb41.grow hgg) hb3 n4
  have hown3:w3.ownsRow wC.heap.size 3 1 _ i (cB ki):=lL (cO hown hgg) (λ k hk hv=>hb3.block k (Nat.lt_of_lt_of_le (cY hown hv).2 zg) (hSl k (by omega)))
  have hc3:∀ k,G k→k<wC.heap.size→w3.heap[k]? = wC.heap[k]?:=λ k hk hl=>(hb3.block k (by omega) (hFS k (hG k hk).1)).trans ((hgg.block k (by omega)).trans (hc1.blk k hk hl).2)
  have hbs3:=(hbs1.trans (ButS.grow hgg)).trans hb3
  have ht3:TabAt w3:=(ht1.grow hgg).buts hb3 h0
  clear hbk hu hg hsz hsz'
  repeat (first|(refine aB ?_;refine TL.pure rfl rfl ?_)|(refine aD ?_;refine TL.pure rfl rfl ?_)|refine aK rfl yM rfl ?_|refine aF rfl rfl ?_|refine TL.nil ?_|refine aA ?_|refine aJ ?_|refine aC ?_|(refine aH ?_;refine aR rfl yD rfl ?_)|refine aE rfl ?_|refine aV ?_|refine TL.pure rfl rfl ?_)
  refine TL.buildSlice rfl rfl rfl rfl rfl ?_
  intro b' wa hga hba hsa hsb hsc
  have hsl:Sl (λ _=>True) wa 1 (some ⟨b',0,none⟩) 1 1 (cB [pg]):=(bR (sz:=1) (m:=1) hba hsc (by decide)).mono (λ _ _=>trivial)
  have hga':=hga.size
  refine TL.append rfl rfl (cO hown3 hga) hsl (ints_one [pg]) (by unfold maxLen;omega) (by omega) (by omega) rfl ?_
  intro v' wb hownb hgb _
  have zb:=hgb.size
  have kpb:∀ k,k<wC.heap.size→wb.heap[k]? = w3.heap[k]?:=λ k hk=>(hgb.block k (by omega) (λ e=>by have:=(cY hown e.symm).1;omega)).trans (hga.block k (by omega))
  have hb6b:=eL hb63 (kpb b6 l6)
  obtain ⟨va,vc,rfl,hvs⟩:=cE hownb
  repeat (first|(refine aB ?_;refine TL.pure rfl rfl ?_)|refine aF rfl rfl ?_|(refine bJ ?_;refine bT rfl rfl (by omega) rfl ?_)|refine TL.nil ?_|refine aA ?_|refine aC ?_|refine aT ?_|(refine aP ?_;(refine bP rfl rfl yB (by exact rfl) (by exact rfl) (by exact rfl) ?_;intro w' hu hbk hsz)))
  have kp:∀ k,k<wC.heap.size→k≠b6→w'.heap[k]? = w3.heap[k]?:=λ k hk hk6=>(hu.block k hk6).trans (kpb k hk)
  have hlts:=h.lts
  have ht00:=ht.1
  refine bG (i+1,s1,ki++[pg],l1,.slice va (i+1) vc) ⟨rfl,rfl,rfl,rfl,rfl,rfl,trivial⟩ ⟨by simp only;omega,hwr,by simpa using hkr,hp3.keep (λ b hb=>kp b (by omega) (by omega)),ht3.keep (kp 0 (by omega) (by omega)) (by omega),?_,hbk,eL hb43 (kp b4 l4 q46),⟨by omega,λ k hk hl=>⟨⟨hk,hl⟩,(kp k hl (hG k hk).2.1).trans (hc3 k hk hl)⟩⟩,?_⟩ (by simp only;omega)
  ·have:=own_upd hownb hu l6
   simpa [cB] using this
  ·exact ((hbs3.trans (ButS.grow hga)).own hgb (λ k hk=>(cY hown hk).1) (by omega)).upd hu q6
end Go.Proofs.YtfpadnmdafiddaaGreatDoor
namespace Go.Proofs.YtfpadnmdafiddaaGreatDoor
open Go Go.RowKit Go.V
def FrCells (F:Nat→Prop) (w:World):List Value→List (Nd×Nat)→Prop
 | [],[]=>True
 | v1::v2::v3::v4::cs,f::l=>(∃ x:NV,v1=x.v1∧v2=x.v2∧v3=x.v3∧v4=.int .i64 (f.2:Int)∧NdAt F w x f.1)∧FrCells F w cs l
 | _,_=>False
theorem FrCells.go {F F':Nat→Prop} {w w':World} (g:Carry F w F' w'):∀ {cs:List Value} {l:List (Nd×Nat)},FrCells F w cs l→FrCells F' w' cs l
 | [],[],_=>trivial
 | [],_::_,h=>h.elim
 | [_],[],h=>h.elim
 | [_,_],[],h=>h.elim
 | [_,_,_],[],h=>h.elim
 | _::_::_::_::_,[],h=>h.elim
 | [_],_::_,h=>h.elim
 | [_,_],_::_,h=>h.elim
 | [_,_,_],_::_,h=>h.elim
 | _::_::_::_::_,_::_,⟨⟨x,h1,h2,h3,h4,h5⟩,h6⟩=>⟨⟨x,h1,h2,h3,h4,h5.go g⟩,FrCells.go g h6⟩
theorem FrCells.snoc {F:Nat→Prop} {w:World} {x:NV} {f:Nd×Nat} (hx:NdAt F w x f.1):∀ {cs:List Value} {l:List (Nd×Nat)},FrCells F w cs l→FrCells F w (cs++[x.v1,x.v2,x.v3,.int .i64 (f.2:Int)]) (l++[f])
 | [],[],_=>⟨⟨x,rfl,rfl,rfl,rfl,hx⟩,trivial⟩
 | [],_::_,h=>h.elim
 | [_],[],h=>h.elim
 | [_,_],[],h=>h.elim
 | [_,_,_],[],h=>h.elim
 | _::_::_::_::_,[],h=>h.elim
 | [_],_::_,h=>h.elim
 | [_,_],_::_,h=>h.elim
 | [_,_,_],_::_,h=>h.elim
 | _::_::_::_::_,_::_,⟨h5,h6⟩=>⟨h5,FrCells.snoc hx h6⟩
theorem FrCells.len {F:Nat→Prop} {w:World}:∀ {cs:List Value} {l:List (Nd×Nat)},FrCells F w cs l→cs.length=l.length*4
 | [],[],_=>rfl
 | [],_::_,h=>h.elim
 | [_],[],h=>h.elim
 | [_,_],[],h=>h.elim
 | [_,_,_],[],h=>h.elim
 | _::_::_::_::_,[],h=>h.elim
 | [_],_::_,h=>h.elim
 | [_,_],_::_,h=>h.elim
 | [_,_,_],_::_,h=>h.elim
 | _::_::_::_::_,_::_,⟨h5,h6⟩=>by have:=FrCells.len h6;simp only [List.length_cons];omega
theorem FrCells.at' {F:Nat→Prop} {w:World}:∀ {l:List (Nd×Nat)} {cs:List Value} {i:Nat} {f:Nd×Nat},FrCells F w cs l→l[i]? = some f→∃ x:NV,(cs.drop (i*4)).take 4=[x.v1,x.v2,x.v3,.int .i64 (f.2:Int)]∧NdAt F w x f.1
 | [],_,i,nd,_,hx=>by simp at hx
 | _::_,[],_,_,h,_=>h.elim
 | _::_,[_],_,_,h,_=>h.elim
 | _::_,[_,_],_,_,h,_=>h.elim
 | _::_,[_,_,_],_,_,h,_=>h.elim
 | y::l,v1::v2::v3::v4::cs,0,f,⟨⟨x,h1,h2,h3,h4,h5⟩,_⟩,hx=>by
  simp only [List.getElem?_cons_zero,Option.some.injEq] at hx
  subst hx
  subst h1 h2 h3 h4
  exact ⟨x,rfl,h5⟩
 | y::l,v1::v2::v3::v4::cs,i+1,f,⟨_,h⟩,hx=>by
  obtain ⟨x,h1,h2⟩:=FrCells.at' h (by simpa using hx)
  refine ⟨x,?_,h2⟩
  rw [show (i+1)*4=i*4+1+1+1+1 by omega]
  simpa using h1
theorem ret3 {P:Program} {e:dN} {w:World} {s t u:Nat} {v x y:Value} {R:Ending→World→Prop} (h:find e s=some v) (h':find e t=some x) (h2:find e u=some y) (hR:R (.returned (.tuple #[v,x,y])) w):retQ P [.tmp s,.tmp t,.tmp u] R .ret e w :=
 jH (vs:=[v,x,y]) ⟨v,[x,y],rfl,h,x,[y],rfl,h',y,[],rfl,h2,rfl⟩ rfl hR
theorem hX {s:Pg} {key:Bs} {f n:Nat} {fr:List (Nd×Nat)} {th:Bool} (h:hZ s key f n=some (fr,th)):∃ f' nd,f=f'+1∧dQ s n=some nd ∧
  ((cK nd=true∧fr=[(nd,fX nd.items key)]∧th=gA nd.items key)∨(cK nd=false∧∃ k r,nd.kids[iR nd.keys key]? = some k∧hZ s key f' k=some (r,th)∧fr=(nd,iR nd.keys key)::r)):=by
 cases f with
 | zero=>cases h
 | succ f =>
  unfold hZ at h
  split at h
  ·cases h
  ·rename_i nd hnd
   refine ⟨f,nd,rfl,hnd,?_⟩
   split at h
   ·rename_i hl
    simp only [Option.some.injEq,Prod.mk.injEq] at h
    exact .inl ⟨hl,h.1.symm,h.2.symm⟩
   ·rename_i hl
    split at h
    ·cases h
    ·rename_i k hk
     split at h
     ·cases h
     ·rename_i r th' hr
      simp only [Option.some.injEq,Prod.mk.injEq] at h
      obtain ⟨rfl,rfl⟩:=h
      exact .inr ⟨by simpa using hl,k,r,hk,hr,rfl⟩
theorem path_c {w:World} {L:PL} {g:Pg} (h:PgAt w L g) (K:Nat→Prop) (a:Option Addr) (m c n:Nat) (key:Bs) (fr:List (Nd×Nat)) (th:Bool) (hk:Sl K w 1 a m c (cX key)) (hp:hZ g key 16 n=some (fr,th)) :
  Calls Tryz.prog 78 #[.pointer (some ⟨L.p,0,none⟩),.int .i64 (n:Int),.slice a m c] w (Ret λ v w'=>(∃ (b:Option Addr) (d:Nat) (cs:List Value),v=.tuple #[.slice b fr.length d,.bool th,.int .i64 0]∧Sl (λ k=>w.heap.size≤k) w' 4 b fr.length d cs∧FrCells (λ k=>w.heap.size≤k) w' cs fr)∧Grow w w'):=by
 refine V.calls (args:=[_,_,_]) Tryz.func78 rfl Tryz.ntmps78 rfl rfl ?_
 repeat (first|(refine aB ?_;refine TL.pure rfl rfl ?_)|(refine aD ?_;refine TL.pure rfl rfl ?_)|refine TL.nil ?_|refine aA ?_|refine aJ ?_|refine aC ?_|refine T.block ?_)
 refine cM (S:=Nat×Nat×Value×List Value×List (Nd×Nat)×List (Nd×Nat)) (λ s=>[(10,.int .i64 (s.2.1:Int)),(9,s.2.2.1),(2,.slice a m c),(0,.pointer (some ⟨L.p,0,none⟩))])
  (λ s w1=>s.1≤16∧hZ g key (16-s.1) s.2.1=some (s.2.2.2.2.2,th)∧s.2.2.2.2.1++s.2.2.2.2.2=fr∧s.2.2.2.2.1.length=s.1∧w1.ownsRow w.heap.size 143 4 s.2.2.1 s.1 s.2.2.2.1∧FrCells (λ k=>w.heap.size≤k∧s.2.2.1.ownBlock≠some k) w1 s.2.2.2.1 s.2.2.2.2.1∧Grow w w1)
  (λ s=>16-s.1) (0,n,.slice none 0 0,[],[],fr) ⟨rfl,rfl,rfl,rfl,trivial⟩ ⟨by simp only;omega,hp,rfl,rfl,World.ownsRow_nil _ _ _ _,trivial,Grow.refl _⟩ ?_
 rintro ⟨i,n,u,cs,dn,rs⟩ w1 ⟨hi,hpi,hfr,hdl,hown,hfc,hg1⟩
 simp only at hi hpi hfr hdl hown hfc
 obtain ⟨f',nd,hf,hnp,hor⟩:=hX hpi
 have hi16:i<16:=by omega
 have hu:=eQ hnp
 have hnl:=eF hu
 have hcn:=h.cnt
 have hok:=iO hnp
 have hrd:gB (g.body n)=some nd:=by unfold dQ at hnp;rw [if_pos hu] at hnp;exact hnp
 obtain ⟨ua,uc,rfl,hus⟩:=cE hown
 have z1:=hg1.size
 repeat (first|(refine aB ?_;refine TL.pure rfl rfl ?_)|refine TL.nil ?_|refine aA ?_|refine aJ ?_|refine aC ?_|refine T.block ?_|(refine aH ?_;refine bA rfl yD rfl ?_)|refine aO rfl rfl ?_|refine aN rfl ?_|refine aV ?_)
 refine aL 127 ?_
 refine aI rfl (node_c (h.grow hg1) n (by omega) hu) rfl ?_
 rintro _ w3 ⟨hv,hg3⟩
 rw [hrd] at hv
 obtain ⟨x,rfl,hnd⟩:=hv
 have hn1:=hnd.its.len
 have hn2:=dX hnd.kids
 have z3:=hg3.size
 have hfc3:=hfc.go (Carry.grow hg3)
 have hown3:=cO hown hg3
 have hnd':NdAt (λ k=>w.heap.size≤k∧(Value.slice ua i uc).ownBlock≠some k) w3 x nd:=hnd.go (Carry.mono λ k hk _=>⟨by omega,λ e=>by have:=(cY hown e).2;omega⟩)
 have kk:Carry (λ k=>w.heap.size≤k∧(Value.slice ua i uc).ownBlock≠some k) w3 (λ k=>(w.heap.size≤k∧(Value.slice ua i uc).ownBlock≠some k)∧k<w3.heap.size) w3:=Carry.mono λ k hk hl=>⟨hk,hl⟩
 have hfc4:=hfc3.go kk
 have hnd4:=hnd'.go kk
 have hgw3:=hg1.trans hg3
 clear hfc3 hnd' hnd kk hfc
 obtain ⟨w3',rfl⟩:∃ y,y=w3:=⟨w3,rfl⟩
 rcases hor with ⟨hl,rfl,rfl⟩|⟨hl,k,r,hkid,hpr,rfl⟩
 ·repeat (first|(refine aB ?_;refine TL.pure rfl rfl ?_)|(refine aD ?_;refine TL.pure rfl rfl ?_)|(refine aU ?_;refine bE rfl yB (by exact rfl) rfl ?_)|refine TL.nil ?_|refine aA ?_|refine aJ ?_|refine aC ?_|(refine aH ?_;refine aR rfl yD rfl ?_)|(refine aP ?_;(refine aY rfl rfl yB (by exact rfl) (by exact rfl) (by exact rfl) ?_;intro w' hu hbk hsz))|(refine bD ?_;(refine TL.alloc rfl rfl ?_;intro bk w' hg hbk hsz hsz'))|refine aN rfl ?_|refine aE rfl ?_|refine aV ?_|refine TL.pure rfl rfl ?_|(refine aL 80 ?_;refine aI rfl (eX hnd4 hl _) rfl ?_;rintro _ _ ⟨rfl,hgc⟩))
  rename_i w4
  have cc:Carry (λ k=>(w.heap.size≤k∧(Value.slice ua i uc).ownBlock≠some k)∧k<w3'.heap.size) w3' (λ k=>(w.heap.size≤k∧(Value.slice ua i uc).ownBlock≠some k)∧k<w3'.heap.size) w4:=(Carry.grow hg).trans ((Carry.upd hu (λ k hk _=>by omega)).trans (Carry.grow hgc))
  have hgw4:Grow w w4:=(aZ hu (by omega) (hgw3.trans hg)).trans hgc
  have hown4:=cO (lL (w':=w') (cO hown3 hg) (λ k hk hv=>hu.block k (by have:=(cY hown3 hv).2;omega))) hgc
  refine aL 149 ?_
  refine aI rfl (find_c _ _ x nd a m c key _ (hnd4.go cc) (hk.grow hgw4) hok hl) rfl ?_
  rintro _ w5 ⟨rfl,hg5⟩
  have hbk5:Blk w5 bk 79 x.cs:=(Blk.grow hgc hbk).grow hg5
  repeat (first|(refine aB ?_;refine TL.pure rfl rfl ?_)|(refine aD ?_;refine TL.pure rfl rfl ?_)|(refine aU ?_;refine bE rfl yB (by exact rfl) rfl ?_)|refine TL.nil ?_|refine aA ?_|refine aJ ?_|refine aC ?_|refine TL.build rfl rfl rfl ?_|refine TL.pure rfl rfl ?_)
  refine TL.buildSlice rfl rfl rfl rfl rfl ?_
  intro b' wa hga hba hsa hsb hsc
  have hba':Blk wa b' 143 [x.v1,x.v2,x.v3,.int .i64 (fX nd.items key:Int)]:=hba
  have hsl:Sl (λ _=>True) wa 4 (some ⟨b',0,none⟩) 1 1 [x.v1,x.v2,x.v3,.int .i64 (fX nd.items key:Int)]:=(bR (sz:=4) (m:=1) hba' rfl (by decide)).mono (λ _ _=>trivial)
  have z4:=hgw4.size
  have z5:=hg5.size
  have za:=hga.size
  have hownA:=cO (cO hown4 hg5) hga
  refine jV (bytes:=80) rfl rfl hownA hsl (by intro u hu;simp only [List.mem_cons,List.not_mem_nil,or_false] at hu;rcases hu with rfl|rfl|rfl|rfl<;>rfl) (by unfold maxLen;omega) (by omega) (by omega) rfl ?_
  intro v' wb hownb hgb hcb
  have hgwb:Grow w wb:=Grow.mk (cA hgb (by omega) (λ k hk=>(cY hownA hk).1) ((hgw4.trans hg5).trans hga).1)
  have cb:Carry (λ k=>(w.heap.size≤k∧(Value.slice ua i uc).ownBlock≠some k)∧k<w3'.heap.size) w3' (λ k=>w.heap.size≤k∧v'.ownBlock≠some k) wb :=
   (cc.trans (Carry.grow (hg5.trans hga))).trans ((Carry.mono (λ k hk _=>⟨⟨hk.1.1,hk.2⟩,hk.1.2⟩)).trans ((hcb (λ k=>w.heap.size≤k∧k<w3'.heap.size)).trans (Carry.mono λ k hk _=>⟨hk.1.1,hk.2⟩)))
  have hfcb:=FrCells.snoc (f:=(nd,fX nd.items key)) (hnd4.go cb) (hfc4.go cb)
  have hndb:=hnd4.go (cc.trans (Carry.grow hg5))
  obtain ⟨va,vc,rfl,hvs⟩:=cE hownb
  repeat (first|(refine aB ?_;refine TL.pure rfl rfl ?_)|(refine aD ?_;refine TL.pure rfl rfl ?_)|refine TL.nil ?_|refine aA ?_|refine bC ?_|refine bI ?_|refine dB ?_|refine dW ?_)
  subst hfr
  have hll:(dn++[(nd,fX nd.items key)]).length=i+1:=by rw [List.length_append,hdl];rfl
  rw [hll]
  exact ret3 rfl rfl rfl ⟨_,rfl,⟨va,vc,_,rfl,hvs.mono (λ k hk=>hk.1),hfcb.go (Carry.mono λ k hk _=>hk.1)⟩,hgwb⟩
 ·have hkl:=(List.getElem?_eq_some_iff.1 hkid).1
  repeat (first|(refine aB ?_;refine TL.pure rfl rfl ?_)|(refine aD ?_;refine TL.pure rfl rfl ?_)|(refine aU ?_;refine bE rfl yB (by exact rfl) rfl ?_)|refine TL.nil ?_|refine aA ?_|refine aJ ?_|refine aC ?_|(refine aH ?_;refine aR rfl yD rfl ?_)|(refine aP ?_;(refine aY rfl rfl yB (by exact rfl) (by exact rfl) (by exact rfl) ?_;intro w' hu hbk hsz))|(refine bD ?_;(refine TL.alloc rfl rfl ?_;intro bk w' hg hbk hsz hsz'))|refine aE rfl ?_|refine aV ?_|refine TL.pure rfl rfl ?_|(refine aL 80 ?_;refine aI rfl (eX hnd4 hl _) rfl ?_;rintro _ _ ⟨rfl,hgc⟩))
  rename_i w4
  have cc:Carry (λ k=>(w.heap.size≤k∧(Value.slice ua i uc).ownBlock≠some k)∧k<w3'.heap.size) w3' (λ k=>(w.heap.size≤k∧(Value.slice ua i uc).ownBlock≠some k)∧k<w3'.heap.size) w4:=(Carry.grow hg).trans ((Carry.upd hu (λ k hk _=>by omega)).trans (Carry.grow hgc))
  have hgw4:Grow w w4:=(aZ hu (by omega) (hgw3.trans hg)).trans hgc
  have hown4:=cO (lL (w':=w') (cO hown3 hg) (λ k hk hv=>hu.block k (by have:=(cY hown3 hv).2;omega))) hgc
  refine aL 150 ?_
  refine aI rfl (kid_c _ _ x nd a m c key _ (hnd4.go cc) (hk.grow hgw4) hok hl) rfl ?_
  rintro _ w5 ⟨rfl,hg5⟩
  have hbk5:Blk w5 bk 79 x.cs:=(Blk.grow hgc hbk).grow hg5
  repeat (first|(refine aB ?_;refine TL.pure rfl rfl ?_)|(refine aD ?_;refine TL.pure rfl rfl ?_)|(refine aU ?_;refine bE rfl yB (by exact rfl) rfl ?_)|refine TL.nil ?_|refine aA ?_|refine aJ ?_|refine aC ?_|refine TL.build rfl rfl rfl ?_)
  refine TL.buildSlice rfl rfl rfl rfl rfl ?_
  intro b' wa hga hba hsa hsb hsc
  have hba':Blk wa b' 143 [x.v1,x.v2,x.v3,.int .i64 (iR nd.keys key:Int)]:=hba
  have hsl:Sl (λ _=>True) wa 4 (some ⟨b',0,none⟩) 1 1 [x.v1,x.v2,x.v3,.int .i64 (iR nd.keys key:Int)]:=(bR (sz:=4) (m:=1) hba' rfl (by decide)).mono (λ _ _=>trivial)
  have z4:=hgw4.size
  have z5:=hg5.size
  have za:=hga.size
  have hownA:=cO (cO hown4 hg5) hga
  refine jV (bytes:=80) rfl rfl hownA hsl (by intro u hu;simp only [List.mem_cons,List.not_mem_nil,or_false] at hu;rcases hu with rfl|rfl|rfl|rfl<;>rfl) (by unfold maxLen;omega) (by omega) (by omega) rfl ?_
  intro v' wb hownb hgb hcb
  have hgwb:Grow w wb:=Grow.mk (cA hgb (by omega) (λ k hk=>(cY hownA hk).1) ((hgw4.trans hg5).trans hga).1)
  have cb:Carry (λ k=>(w.heap.size≤k∧(Value.slice ua i uc).ownBlock≠some k)∧k<w3'.heap.size) w3' (λ k=>w.heap.size≤k∧v'.ownBlock≠some k) wb :=
   (cc.trans (Carry.grow (hg5.trans hga))).trans ((Carry.mono (λ k hk _=>⟨⟨hk.1.1,hk.2⟩,hk.1.2⟩)).trans ((hcb (λ k=>w.heap.size≤k∧k<w3'.heap.size)).trans (Carry.mono λ k hk _=>⟨hk.1.1,hk.2⟩)))
  have hfcb:=FrCells.snoc (f:=(nd,iR nd.keys key)) (hnd4.go cb) (hfc4.go cb)
  have hndb:=hnd4.go (cc.trans (Carry.grow hg5))
  obtain ⟨va,vc,rfl,hvs⟩:=cE hownb
  have hbkb:=eL (hbk5.grow hga) (hgb.block bk (by have:=(hbk5.grow hga).lt;omega) (λ e=>by have:=(cY hown3 e.symm).2;omega))
  have hsk:=(hnd4.go cb).kids
  have hcx:wb.cell? (at' x.a2 (iR nd.keys key))=some (.int .i64 (k:Int)):=hsk.row.cell (by rw [show cB nd.kids=nd.kids.map λ (k:Nat)=>(.int .i64 (k:Int):Value) from rfl,List.getElem?_map,hkid];rfl)
  repeat (first|(refine bF ?_;refine aW (j:=iR nd.keys key) rfl rfl rfl (by omega) (Nat.mul_one _) ⟨_,_,hsk⟩ rfl ?_)|(refine aB ?_;refine TL.pure rfl rfl ?_)|(refine aD ?_;refine TL.pure rfl rfl ?_)|refine aK rfl yM rfl ?_|refine aF rfl rfl ?_|refine TL.nil ?_|refine aA ?_|refine aC ?_|refine aT ?_)
  refine bG (i+1,k,.slice va (i+1) vc,_,dn++[(nd,iR nd.keys key)],r) ⟨rfl,rfl,rfl,rfl,trivial⟩ ⟨by simp only;omega,?_,by simpa using hfr,by simp [hdl],hownb,hfcb,hgwb⟩ (by simp only;omega)
  rw [show 16-(i+1)=f' by omega]
  exact hpr
end Go.Proofs.YtfpadnmdafiddaaGreatDoor
namespace Go.Proofs.YtfpadnmdafiddaaGreatDoor
open Go Go.RowKit Go.V
theorem retCC {P:Program} {e:dN} {w:World} {s t s2 t2:Nat} {p p2:Addr} {v v2:Value} {R:Ending→World→Prop} (h:find e s=some (.pointer (some p))) (hl:(loadVar t p).run P w=.ok v w) (h':find e s2=some (.pointer (some p2))) (hl':(loadVar t2 p2).run P w=.ok v2 w) (hR:R (.returned (.tuple #[v,v2])) w):retQ P [.cell s t,.cell s2 t2] R .ret e w :=
 jH (vs:=[v,v2]) ⟨v,[v2],rfl,⟨p,h,hl⟩,v2,[],rfl,⟨p2,h',hl'⟩,rfl⟩ rfl hR
theorem dP {P:Program} {t bt:TypeId} {w:World} {b:Nat} {v:Value} [ht:One P t] (hb:Blk w b bt [v]):(loadVar t ⟨b,0,none⟩).run P w=.ok v w:=run_loadVar_one ht (hb.cell rfl)
def dD:Option Nat→Int
 | none=>-1
 | some n=>n
theorem putP_some {s s':Pg} {n r:Nat} {key v:Bs} (h:putP s (some n) key v=some (r,s')):∃ fr th up s1,hZ s key 16 n=some (fr,th)∧putUp (key,v) th fr s=some (up,s1)∧((up.kids=[r]∧s1=s')∨(up.kids.length≠1∧fU s1 up=some (r,s'))):=by
 unfold putP at h
 simp only at h
 split at h
 ·cases h
 ·rename_i fr th e1
  split at h
  ·cases h
  ·rename_i up s1 e2
   refine ⟨fr,th,up,s1,e1,e2,?_⟩
   split at h
   ·rename_i k hk
    simp only [Option.some.injEq,Prod.mk.injEq] at h
    exact .inl ⟨by rw [hk,h.1],h.2⟩
   ·rename_i hk
    refine .inr ⟨λ hl=>?_,h⟩
    match hkk:up.kids,hl with
    | [k],_=>exact hk k hkk
theorem putUp_cons {item:Bs×Bs} {th:Bool} {f:Nd×Nat} {r:List (Nd×Nat)} {s s2:Pg} {up2:Nd} (h:putUp item th (f::r) s=some (up2,s2)):∃ up s1,putUp item th r s=some (up,s1)∧storeP s1 (eH f.1 f.2 up item th)=some (up2,s2):=by
 unfold putUp at h
 split at h
 ·cases h
 ·rename_i up s1 e
  exact ⟨up,s1,e,h⟩
structure UpOk (up:Nd):Prop where
 items:up.items=[]
 len:up.kids=[]∨up.kids.length=up.keys.length+1
 two:up.kids.length≤2
 ks:up.keys.length≤2
 by':NdB up
theorem kP {s s2:Pg}:∀ {l:List Nd} {s:Pg} {ks:List Nat},eI s l=some (ks,s2)→ks.length=l.length
 | [],s,ks,h=>by simp only [eI,Option.some.injEq,Prod.mk.injEq] at h;rw [← h.1];rfl
 | x::l,s,ks,h=>by
  obtain ⟨p,s1,l1,h1,h2,rfl⟩:=mP h
  simp [kP (s:=s) h2]
theorem storeP_up {s s':Pg} {n up:Nd} (h:storeP s n=some (up,s')) (hb:NdB n):UpOk up∧up.kids.length=up.keys.length+1:=by
 obtain ⟨nds,ks,h1,h2,h3⟩:=storeP_parts h
 have hl:=kP (s:=s) h1
 have hk:up.keys=ks:=by rw [h2]
 obtain ⟨_,_,b3⟩:=splitN_by hb
 have hi:up.items=[]:=by rw [h2]
 rcases h3 with ⟨_,rfl,rfl⟩|⟨_,rfl,rfl⟩
 ·refine ⟨⟨hi,.inr (by rw [hl,hk];rfl),by rw [hl];simp,by rw [hk];simp,⟨by rw [hi];simp,by rw [hk];simp⟩⟩,by rw [hl,hk];rfl⟩
 ·refine ⟨⟨hi,.inr (by rw [hl,hk];rfl),by rw [hl];simp,by rw [hk];simp,⟨by rw [hi];simp,by rw [hk];intro k hk;simp only [List.mem_singleton] at hk;subst hk;exact b3⟩⟩,by rw [hl,hk];rfl⟩
structure FrOk (g:Pg) (th:Bool) (f:Nd×Nat):Prop where
 ok:cH f.1=true
 by':NdB f.1
 leaf:cK f.1=true→f.2≤f.1.items.length∧(th=true→f.2<f.1.items.length)
 kid:cK f.1=false→f.2<f.1.kids.length
theorem findN_le (l:dS) (key:Bs):fX l key≤l.length:=fZ _ l
theorem pathP_frames {s:Pg} (hs:PgB s) {key:Bs} {th:Bool}:∀ {f n:Nat} {fr:List (Nd×Nat)},hZ s key f n=some (fr,th)→∀ x∈fr,FrOk s th x
 | f,n,fr,h,x,hx=>by
  obtain ⟨f',nd,rfl,hn,hor⟩:=hX h
  rcases hor with ⟨hl,rfl,rfl⟩|⟨hl,k,r,hk,hr,rfl⟩
  ·simp only [List.mem_singleton] at hx
   subst hx
   refine ⟨iO hn,nodeP_by hs hn,λ _=>⟨findN_le _ _,λ ht=>?_⟩,λ h=>by rw [hl] at h;cases h⟩
   unfold gA at ht
   simp only
   cases e:nd.items[fX nd.items key]? with
   | none=>rw [e] at ht;cases ht
   | some y=>exact (List.getElem?_eq_some_iff.1 e).1
  ·rcases List.mem_cons.1 hx with rfl|hx
   ·exact ⟨iO hn,nodeP_by hs hn,λ h=>(by rw [hl] at h;cases h),λ _=>(List.getElem?_eq_some_iff.1 hk).1⟩
   ·exact pathP_frames hs hr x hx
theorem pathP_len {s:Pg} {key:Bs} {th:Bool}:∀ {f n:Nat} {fr:List (Nd×Nat)},hZ s key f n=some (fr,th)→fr.length≤f
 | f,n,fr,h=>by
  obtain ⟨f',nd,rfl,hn,hor⟩:=hX h
  rcases hor with ⟨hl,rfl,rfl⟩|⟨hl,k,r,hk,hr,rfl⟩
  ·simp
  ·have:=pathP_len hr
   simp only [List.length_cons];omega
theorem pathP_last {s:Pg} {key:Bs} {th:Bool}:∀ {f n:Nat} {fr:List (Nd×Nat)},hZ s key f n=some (fr,th)→∀ i x,fr[i]? = some x→cK x.1=false→i+1<fr.length
 | f,n,fr,h,i,x,hi,hx=>by
  obtain ⟨f',nd,rfl,hn,hor⟩:=hX h
  rcases hor with ⟨hl,rfl,rfl⟩|⟨hl,k,r,hk,hr,rfl⟩
  ·cases i with
   | zero=>simp only [List.getElem?_cons_zero,Option.some.injEq] at hi;subst hi;rw [hl] at hx;cases hx
   | succ i=>simp at hi
  ·cases i with
   | zero =>
    have:r≠[]:=by
     obtain ⟨_,_,_,_,hor2⟩:=hX hr
     rcases hor2 with ⟨_,rfl,_⟩|⟨_,_,_,_,_,rfl⟩<;>simp
    cases r with
    | nil=>exact absurd rfl this
    | cons a b=>simp
   | succ i =>
    have:=pathP_last hr i x (by simpa using hi) hx
    simp only [List.length_cons];omega
theorem putUp_suffix {item:Bs×Bs} {th:Bool} {s:Pg}:∀ {l:List (Nd×Nat)} {up:Nd} {s1:Pg},putUp item th l s=some (up,s1)→∀ k,∃ up' s',putUp item th (l.drop k) s=some (up',s')
 | [],up,s1,h,k=>by rw [List.drop_nil];exact ⟨up,s1,h⟩
 | f::r,up,s1,h,0=>⟨up,s1,h⟩
 | f::r,up,s1,h,k+1=>by
  obtain ⟨u,s2,h2,_⟩:=putUp_cons h
  exact putUp_suffix h2 k
theorem putNode_shape {g:Pg} {th:Bool} {f:Nd×Nat} {up:Nd} {item:Bs×Bs} (hf:FrOk g th f) (hu:UpOk up) (hb:cK f.1=false→up.kids.length=up.keys.length+1) :
  bK (eH f.1 f.2 up item th)≤1000∧(cK (eH f.1 f.2 up item th)=false→(eH f.1 f.2 up item th).items=[]∧(eH f.1 f.2 up item th).keys.length+1=(eH f.1 f.2 up item th).kids.length):=by
 have hok:=hf.ok
 unfold cH at hok
 have h2:=hu.two
 unfold eH
 split at hok
 ·rename_i hl
  obtain ⟨h1,h8,_⟩:=dL hok
  have hkids:=dK.1 hl
  obtain ⟨hle,hlt⟩:=hf.leaf hl
  rw [if_pos hl]
  cases th with
  | true =>
   have:=hlt rfl
   refine ⟨?_,λ h=>?_⟩
   ·simp only [if_true,bK,hkids,List.length_nil,Nat.add_zero]
    rw [eZ (by rw [eD (by omega) (by omega)];omega),eD (by omega) (by omega)]
    simp;omega
   ·simp [cK,hkids] at h
  | false =>
   refine ⟨?_,λ h=>?_⟩
   ·simp only [Bool.false_eq_true,if_false,bK,hkids,List.length_nil,Nat.add_zero]
    rw [eZ hle]
    simp;omega
   ·simp [cK,hkids] at h
 ·rename_i hl
  have hl':cK f.1=false:=by simpa using hl
  obtain ⟨h1,h2',h8,h4,_,_⟩:=cU hok
  have hk:=hf.kid hl'
  have hub:=hb hl'
  rw [if_neg hl]
  have e1:(dE (cL f.1.kids f.2 (f.2+1)) f.2 up.kids).length=f.1.kids.length-(f.2+1-f.2)+up.kids.length:=by
   rw [eZ (by rw [eD (by omega) (by omega)];omega),eD (by omega) (by omega)]
  have e2:(dE f.1.keys f.2 up.keys).length=f.1.keys.length+up.keys.length:=eZ (by omega)
  refine ⟨?_,λ _=>⟨h1,?_⟩⟩
  ·simp only [bK,e1,h1,List.length_nil];omega
  ·simp only [e1,e2];omega
theorem put_c {w:World} {L:PL} {g g':Pg} (h:PgAt w L g) (ht:TabAt w) (h0:¬ L.S 0) (root:Option Nat) (a a':Option Addr) (m c m' c':Nat) (key v:Bs) (hk:Sl (λ k=>¬ L.S k) w 1 a m c (cX key)) (hv:Sl (λ k=>¬ L.S k) w 1 a' m' c' (cX v)) (hko:dR key=true) (hvo:gH v=true) (hkb:kW key) (hvb:kW v) (hsp:32≤cP g) (n':Nat) (hput:putP g root key v=some (n',g')) :
  Calls Tryz.prog 25 #[.pointer (some ⟨L.p,0,none⟩),.int .i64 (dD root),.slice a m c,.slice a' m' c'] w (Ret λ u w'=>u=.tuple #[.int .i64 (n':Int),.int .i64 0]∧PgAt w' L g'∧ButS L.S w w'):=by
 have hSl:∀ k,w.heap.size≤k→¬ L.S k:=λ k hk=>by have:=h.lts;unfold PL.S;omega
 have hrr : -1≤dD root∧dD root≤9223372036854775807:=by
  cases root with
  | none=>show (-1:Int)≤-1∧(-1:Int)≤_;omega
  | some n =>
   obtain ⟨fr,th,up,s1,hp,_⟩:=putP_some hput
   obtain ⟨_,_,_,hn,_⟩:=hX hp
   have:=eF (eQ hn)
   have:=h.cnt
   show (-1:Int)≤(n:Int)∧(n:Int)≤_
   omega
 refine V.calls (args:=[_,_,_,_]) Tryz.func25 rfl Tryz.ntmps25 rfl rfl ?_
 repeat (first|(refine aB ?_;refine TL.pure rfl rfl ?_)|refine aK rfl yM rfl ?_|refine TL.nil ?_|refine aA ?_|refine aJ ?_|refine aC ?_|(refine bW ?_;(refine TL.box rfl rfl rfl ?_;intro bk w' hg hbk hsz hsz'))|(refine bD ?_;(refine TL.alloc rfl rfl ?_;intro bk w' hg hbk hsz hsz')))
 rename_i b4 w1 g1 k1 p1 p1' b8 w2 g2 k2 p2 p2'
 obtain ⟨b9,rfl⟩:∃ y,y=bk:=⟨bk,rfl⟩
 refine aL 77 ?_
 have hg3:Grow w w':=g1.trans (g2.trans hg)
 refine aI rfl (tready_c (h.grow hg3) _ hrr.1 hrr.2 _ _ a a' m c m' c' key v (hk.grow hg3) (hv.grow hg3) hko hvo hsp) rfl ?_
 rintro _ w4 ⟨rfl,hg4⟩
 have k4:=(k1.grow (g2.trans hg)).grow hg4
 have k8:=(k2.grow hg).grow hg4
 have k9:=hbk.grow hg4
 have hgw:=hg3.trans hg4
 have q:b4=w.heap.size∧b8=b4+1∧b9=b8+1∧b9<w4.heap.size:=by have:=k9.lt;omega
 clear hbk hg hg3 hg4 k1 k2 g1 g2 hsz hsz' p1 p1' p2 p2'
 cases root with
 | none =>
  obtain ⟨hok,hnw⟩:=iI (show fU g ⟨[(key,v)],[],[]⟩=some (n',g') from hput)
  repeat (first|(refine aB ?_;refine TL.pure rfl rfl ?_)|(refine aD ?_;refine TL.pure rfl rfl ?_)|(refine aU ?_;first|refine aK rfl yM rfl ?_|refine bE rfl yB (by exact rfl) rfl ?_)|refine TL.nil ?_|refine aA ?_|refine aJ ?_|refine aC ?_|(refine aH ?_;first|refine aR rfl yD rfl ?_|refine TL.pure rfl rfl ?_)|(refine aP ?_;(refine aY rfl rfl yB (by exact rfl) (by exact rfl) (by exact rfl) ?_;intro w' hu hbk hsz))|(refine bD ?_;(refine TL.alloc rfl rfl ?_;intro bk w' hg hbk hsz hsz'))|refine TL.build rfl rfl rfl ?_|refine aN rfl ?_|refine aE rfl ?_|refine aV ?_)
  refine TL.buildSlice rfl rfl rfl rfl rfl ?_
  intro b' wa hga hba hsa hsb hsc
  have hba':Blk wa b' 58 [.slice a m c,.slice a' m' c']:=hba
  have hgw5:Grow w w':=aZ hu (by omega) (hgw.trans hg)
  have hgwa:=hgw5.trans hga
  have zw:=hgw5.size
  have i4:=((k4.grow hg).upd hu (by omega)).grow hga
  have i8:=((k8.grow hg).upd hu (by omega)).grow hga
  have i9:=((k9.grow hg).upd hu (by omega)).grow hga
  clear hbk hba hga hu hg hgw5 k4 k8 k9
  repeat (refine TL.build rfl rfl rfl ?_)
  have hnd:NdAt (λ k=>¬ L.S k) wa ⟨some ⟨b',0,none⟩,1,1,none,0,0,none,0,0⟩ ⟨[(key,v)],[],[]⟩ :=
   ⟨⟨_,(bR (sz:=2) (m:=1) hba' rfl (by decide)).mono (λ k hk=>by subst hk;exact hSl _ (by omega)),⟨_,_,_,rfl,hk.grow hgwa⟩,⟨_,_,_,rfl,hv.grow hgwa⟩,trivial⟩,jT,jF⟩
  refine aL 84 ?_
  refine aI rfl (write_c (h.grow hgwa) (ht.grow hgwa) _ ⟨some ⟨b',0,none⟩,1,1,none,0,0,none,0,0⟩ _ hnd hok (lF hok ⟨by intro x hx;simp only [List.mem_singleton] at hx;subst hx;exact ⟨hkb,hvb⟩,by simp⟩) n' hnw) rfl ?_
  rintro _ w6 ⟨rfl,hp6,hb6⟩
  have j8:=dC i8 hb6 (hSl _ (by omega))
  have j9:=dC i9 hb6 (hSl _ (by omega))
  clear i4 i8 i9
  repeat (first|refine TL.nil ?_|refine aA ?_|(refine aP ?_;(refine bP rfl rfl yB (by exact rfl) (by exact rfl) (by exact rfl) ?_;intro w' hu hbk hsz))|refine bC ?_|refine bI ?_|refine TL.pure rfl rfl ?_)
  rename_i w7 hu7 hb7 z7
  have hlts:=h.lts
  refine retCC rfl (dP (hb7.upd hu (by omega))) rfl (dP hbk) ⟨_,rfl,rfl,?_,(((ButS.grow hgwa).trans hb6).upd hu7 (by omega)).upd hu (by omega)⟩
  exact (hp6.upd hu7 (by omega)).upd hu (by omega)
 | some n =>
  obtain ⟨fr,th,up,s1,hp,hpu,hend⟩:=putP_some hput
  have hfok:=pathP_frames (λ n=>h.lt n) hp
  repeat (first|(refine aB ?_;refine TL.pure rfl rfl ?_)|(refine aD ?_;refine TL.pure rfl rfl ?_)|refine aK rfl yM rfl ?_|refine TL.nil ?_|refine aA ?_|refine aJ ?_|refine aC ?_|(refine aH ?_;first|refine aR rfl yD rfl ?_|refine TL.pure rfl rfl ?_)|(refine aP ?_;(refine aY rfl rfl yB (by exact rfl) (by exact rfl) (by exact rfl) ?_;intro w' hu hbk hsz))|(refine bD ?_;(refine TL.alloc rfl rfl ?_;intro bk w' hg hbk hsz hsz'))|refine TL.build rfl rfl rfl ?_|refine aE rfl ?_|refine aV ?_)
  obtain ⟨b11,rfl⟩:∃ y,y=bk:=⟨bk,rfl⟩
  have hb11:Blk w' b11 58 [.slice a m c,.slice a' m' c']:=hbk
  have hgw5:Grow w w':=aZ hu (by omega) (hgw.trans hg)
  have i4:=(k4.grow hg).upd hu (by omega)
  have i8:=(k8.grow hg).upd hu (by omega)
  have i9:=(k9.grow hg).upd hu (by omega)
  have q11:b11=w4.heap.size∧b11<w'.heap.size:=by have:=hb11.lt;omega
  clear hbk hg hu hsz hsz' k4 k8 k9 hgw
  obtain ⟨w5,rfl⟩:∃ y,y=w':=⟨w',rfl⟩
  refine aL 78 ?_
  refine aI rfl (path_c (h.grow hgw5) _ a m c n key fr th (hk.grow hgw5) hp) rfl ?_
  rintro _ w6 ⟨⟨fb,fd,fcs,rfl,hfs,hfc⟩,hg6⟩
  have hgw6:=hgw5.trans hg6
  have z6:=hg6.size
  have zw:=hgw5.size
  replace i4:=i4.grow hg6
  replace i8:=i8.grow hg6
  replace i9:=i9.grow hg6
  replace hb11:=hb11.grow hg6
  clear hgw5 hg6
  repeat (first|refine T.seqR ?_|(refine aB ?_;refine TL.pure rfl rfl ?_)|(refine aD ?_;refine TL.pure rfl rfl ?_)|refine aK rfl yM rfl ?_|refine TL.nil ?_|refine aA ?_|refine aJ ?_|refine aC ?_|(refine aH ?_;refine aR rfl yD rfl ?_)|(refine aP ?_;(refine bP rfl rfl yB (by exact rfl) (by exact rfl) (by exact rfl) ?_;intro w' hu hbk hsz))|(refine bD ?_;(refine TL.alloc rfl rfl ?_;intro bk w' hg hbk hsz hsz'))|refine aE rfl ?_|refine aV ?_|refine TL.pure rfl rfl ?_)
  rename_i b13 w13 g13 k13 p13 p13' b14 w14 g14 k14 p14 p14' ws1 us1 ks1 zs1 ws2 ks2 zs2
  obtain ⟨b15,rfl⟩:∃ y,y=bk:=⟨bk,rfl⟩
  have hflen:=pathP_len hp
  have hW0:Grow w w':=(aZ hu (by omega) (aZ us1 (by omega) (hgw6.trans (g13.trans g14)))).trans hg
  have j4:=(((i4.grow (g13.trans g14)).upd us1 (by omega)).upd hu (by omega)).grow hg
  have j8:=(((i8.grow (g13.trans g14)).upd us1 (by omega)).upd hu (by omega)).grow hg
  have j9:=(((i9.grow (g13.trans g14)).upd us1 (by omega)).upd hu (by omega)).grow hg
  have j11:=(((hb11.grow (g13.trans g14)).upd us1 (by omega)).upd hu (by omega)).grow hg
  have j13:Blk w' b13 4 [.bool th]:=(Blk.upd hu (by omega) ks1).grow hg
  have j14:Blk w' b14 37 [.int .i64 0]:=Blk.grow hg ks2
  have j15:Blk w' b15 79 nil3:=hbk
  have cW:Carry (λ k=>w5.heap.size≤k) w6 (λ k=>w5.heap.size≤k∧k<w6.heap.size) w' :=
   (Carry.mono (λ k hk hl=>⟨hk,hl⟩)).trans ((Carry.grow (g13.trans g14)).trans ((Carry.upd us1 (λ k hk _=>by omega)).trans ((Carry.upd hu (λ k hk _=>by omega)).trans (Carry.grow hg))))
  replace hfs:=hfs.go cW
  replace hfc:=hfc.go cW
  have qs:w6.heap.size=b13∧b14=b13+1∧b15=b14+1∧w'.heap.size=b15+1:=by omega
  clear cW hbk hu hg us1 ks1 ks2 k13 k14 g13 g14 hsz hsz' i4 i8 i9 hb11 p13 p13' p14 p14' zs1 zs2 hgw6
  refine aL 79 ?_
  refine aI rfl (back_c fb fr.length fd _) rfl ?_
  rintro _ w9 ⟨b1,rfl,hb1s,hb1,hg9⟩
  repeat (refine TL.nil ?_)
  refine mQ (T2.range (ps:=[52,53]) (lb:=[_]) rfl (Nat.zero_le _) rfl ?_)
  intro rc W hli hsW hgW hlW hDW
  obtain ⟨D,hD⟩:∃ D,D=w9.heap.size:=⟨_,rfl⟩
  rw [← hD] at hlW hDW hsW ⊢
  have hb1l:=hb1.lt
  have z9:=hg9.size
  replace j4:=(j4.grow hg9).grow hgW
  replace j8:=(j8.grow hg9).grow hgW
  replace j9:=(j9.grow hg9).grow hgW
  replace j11:=(j11.grow hg9).grow hgW
  replace j13:=(j13.grow hg9).grow hgW
  replace j14:=(j14.grow hg9).grow hgW
  replace j15:=(j15.grow hg9).grow hgW
  replace hb1:=hb1.grow hgW
  obtain ⟨Gu,hGu⟩:∃ G:Nat→Prop,∀ k,G k↔¬ L.S k∧k≠b15∧k≠b14∧k≠D+1:=⟨_,λ k=>Iff.rfl⟩
  have hGn:∀ k,w.heap.size≤k→k≠b15→k≠b14→k≠D+1→Gu k:=λ k hk h1 h2 h3=>(hGu k).2 ⟨hSl k hk,h1,h2,h3⟩
  replace hfs:Sl Gu W 4 fb fr.length fd fcs:=(hfs.grow (hg9.trans hgW)).mono (λ k hk=>hGn k (by omega) (by omega) (by omega) (by omega))
  replace hfc:FrCells Gu W fcs fr:=hfc.go ((Carry.grow (hg9.trans hgW)).trans (Carry.mono λ k hk _=>hGn k (by omega) (by omega) (by omega) (by omega)))
  have hgrW:Grow w W:=hW0.trans (hg9.trans hgW)
  have hkW:Sl Gu W 1 a m c (cX key):=(hk.go (Carry.mono (λ k hk hl=>(hGu k).2 ⟨hk,by omega,by omega,by omega⟩))).grow hgrW
  have hvW:Sl Gu W 1 a' m' c' (cX v):=(hv.go (Carry.mono (λ k hk hl=>(hGu k).2 ⟨hk,by omega,by omega,by omega⟩))).grow hgrW
  have hlts:=h.lts
  have ht00:=ht.1
  have hpW:=h.grow hgrW
  have htW:=ht.grow hgrW
  clear hgW hg9 hW0
  refine Calls.mono (backs_c Gu (D+1) b1 fr.length fb fd fcs (λ k w1=>∃ up1 g1,∃ y:NV,putUp (key,v) th (fr.drop k) g=some (up1,g1)∧UpOk up1∧(k<fr.length→up1.kids.length=up1.keys.length+1)∧Blk w1 b15 79 y.cs∧Blk w1 b14 37 [.int .i64 0] ∧
   w1.heap[D+1]? = some (.loop (rc .ready none))∧Carry Gu W (λ k=>Gu k∧k<W.heap.size) w1∧NdAt Gu w1 y up1∧PgAt w1 L g1∧ButS L.S w w1) (λ _=>False) (by omega) ?_ ?_ W ?_) ?_
  ·rintro k w1 ⟨up1,g1,y,e1,e2,e3,e15,e14,el,ec,en,ep,eb⟩
   exact ⟨eL hb1 (ec.blk b1 (hGn _ (by omega) (by omega) (by omega) (by omega)) (by omega)).2,(hfs.go ec).mono (λ k hk=>hk.1)⟩
  ·rintro k w1 hkl ⟨up1,g1,y,e1,e2,e3,e15,e14,el,ec,en,ep,eb⟩
   obtain ⟨f,hf⟩:∃ f,fr[k]? = some f:=⟨_,List.getElem?_eq_getElem hkl⟩
   obtain ⟨x,hx4,hx⟩:=hfc.at' hf
   rw [hx4]
   have fo:=hfok f (List.mem_of_getElem? hf)
   have z1:=ec.size
   have hx1:NdAt Gu w1 x f.1:=(hx.go ec).go (Carry.mono λ k hk _=>hk.1)
   refine yld_of hli el rfl rfl λ I=>?_
   repeat (first|refine TL.nil ?_|refine aC ?_|(refine aP ?_;(refine aY rfl rfl yB (by exact rfl) (by exact rfl) (by exact rfl) ?_;intro w' hu hbk hsz))|(refine bD ?_;(refine TL.alloc rfl rfl ?_;intro bk w' hg hbk hsz hsz')))
   refine ⟨?_,λ w2 hu2 hl2=>?_⟩
   ·rw [hu.block (D+1) (by omega),hg.block (D+1) (by omega)];exact el
   obtain ⟨bf,rfl⟩:∃ z,z=bk:=⟨bk,rfl⟩
   have z2:=hu2.size
   have keepb:∀ k,k<w1.heap.size→k≠D+1→w2.heap[k]? = w1.heap[k]?:=λ k h1 h2=>(hu2.block k h2).trans ((hu.block k (by omega)).trans (hg.block k h1))
   have gk:∀ k,w.heap.size≤k→k≠b15→k≠b14→k≠D+1→k<W.heap.size→w2.heap[k]? = W.heap[k]?:=λ k h1 h2 h3 h4 h5=>(keepb k (by omega) h4).trans (ec.blk k (hGn k h1 h2 h3 h4) h5).2
   have gkU:∀ k,Gu k→k<W.heap.size→w2.heap[k]? = W.heap[k]?:=λ k hk hl=>(keepb k (by omega) ((hGu k).1 hk).2.2.2).trans (ec.blk k hk hl).2
   have gf:Blk w2 bf 143 [x.v1,x.v2,x.v3,.int .i64 (f.2:Int)]:=Blk.upd hu2 (by omega) hbk
   have f15:=eL e15 (keepb b15 (by omega) (by omega))
   have f14:=eL e14 (keepb b14 (by omega) (by omega))
   have f4:=eL j4 (gk b4 (by omega) (by omega) (by omega) (by omega) (by omega))
   have f11:=eL j11 (gk b11 (by omega) (by omega) (by omega) (by omega) (by omega))
   have f13:=eL j13 (gk b13 (by omega) (by omega) (by omega) (by omega) (by omega))
   have cc:Carry Gu w1 Gu w2:=⟨by omega,λ k hk hl=>⟨hk,keepb k hl ((hGu k).1 hk).2.2.2⟩⟩
   have hx2:=hx1.go cc
   have en2:=en.go cc
   have ep2:=ep.keep (λ b hb=>keepb b (by omega) (by omega))
   have eb2:ButS L.S w w2:=((eb.trans (ButS.grow hg)).upd hu (by omega)).upd hu2 (by omega)
   have hk2:Sl Gu w2 1 a m c (cX key):=((hkW.go ec).mono (λ k hk=>hk.1)).go cc
   have hv2:Sl Gu w2 1 a' m' c' (cX v):=((hvW.go ec).mono (λ k hk=>hk.1)).go cc
   have qf:w1.heap.size=bf∧w2.heap.size=bf+1:=by omega
   rw [List.drop_eq_getElem_cons hkl,show fr[k]'hkl=f from (List.getElem?_eq_some_iff.1 hf).2]
   clear hbk hg hu hu2 hsz hsz' cc e15 e14 el ec en ep eb hx hx1 hli j4 j8 j9 j11 j13 j14 j15 hb1 hfs hfc hkW hvW keepb
   refine T.block ?_
   refine fJ 2 (λ e w3=>∃ (bn:Nat) (z:NV),Sub [(18,.pointer (some ⟨bn,0,none⟩)),(15,.pointer (some ⟨b15,0,none⟩)),(14,.pointer (some ⟨b14,0,none⟩)),(4,.pointer (some ⟨b4,0,none⟩))] e∧w2.heap.size≤bn∧bn<w3.heap.size∧Blk w3 bn 79 z.cs∧NdAt Gu w3 z (eH f.1 f.2 up1 (key,v) th)∧Grow w2 w3) ?_ ?_
   rotate_left
   ·cases hlf:cK f.1 with
    | false =>
     repeat (first|(refine aD ?_;refine TL.pure rfl rfl ?_)|(refine aU ?_;first|refine bE rfl yB (by exact rfl) rfl ?_|refine lY rfl yB (by exact rfl) (by exact rfl) rfl ?_)|refine aF rfl rfl ?_|refine TL.nil ?_|refine aA ?_|refine aJ ?_|refine aC ?_|refine T.block ?_|(refine aP ?_;(refine aY rfl rfl yB (by exact rfl) (by exact rfl) (by exact rfl) ?_;intro w' hu hbk hsz))|(refine bD ?_;(refine TL.alloc rfl rfl ?_;intro bk w' hg hbk hsz hsz'))|refine aN rfl ?_|refine TL.pure rfl rfl ?_|refine bH ?_|refine cQ ?_|(refine aL 80 ?_;refine aI rfl (eX hx2 hlf _) rfl ?_;rintro _ _ ⟨rfl,hgc⟩))
     rename_i w3
     obtain ⟨bn,rfl⟩:∃ z,z=bk:=⟨bk,rfl⟩
     have gn:Blk w3 bn 79 x.cs:=Blk.grow hgc hbk
     have hg23:Grow w2 w3:=(aZ hu (by omega) hg).trans hgc
     have zc:=hgc.size
     have z23:=hg23.size
     obtain ⟨Gq,hGq⟩:∃ G:Nat→Prop,∀ k,G k↔Gu k∧k≠bn:=⟨_,λ k=>Iff.rfl⟩
     have cq:Carry Gu w2 Gq w3:=(Carry.mono (λ k hk hl=>(hGq k).2 ⟨hk,by omega⟩)).trans (Carry.grow hg23)
     have hx3:=hx2.go cq
     have en3:=en2.go cq
     have i15:=f15.grow hg23
     have i13:=f13.grow hg23
     have i11:=f11.grow hg23
     have gf3:=gf.grow hg23
     have hk3:=hk2.go cq
     have hv3:=hv2.go cq
     have qn:w2.heap.size=bn∧bn<w3.heap.size:=by omega
     have hGF:∀ wq:World,w3.heap.size≤wq.heap.size→∀ k,wq.heap.size≤k→Gq k:=λ wq hq k hk=>(hGq k).2 ⟨hGn k (by omega) (by omega) (by omega) (by omega),by omega⟩
     have hok:=fo.ok
     unfold cH at hok
     have hn1x:=hx3.its.len
     have hn2x:=dX hx3.kids
     have hn3x:=hx3.kys.len
     have hn2y:=dX en3.kids
     have hn3y:=en3.kys.len
     have hup2:=e2.two
     have hupl:=e2.ks
     clear hbk hg hgc hu hsz hsz' cq gf f15 f13 f11 hx2 en2 hk2 hv2
     rw [if_neg (by rw [hlf];simp)] at hok
     obtain ⟨hoi,ho2,ho8,hol,_,_⟩:=cU hok
     have hkid:=fo.kid hlf
     apply T.any 13 [is (.pointer (some ⟨bn,1,none⟩)),is (.slice x.a2 x.n2 x.c2),is (.pointer (some ⟨bf,3,none⟩)),is (.int .i64 (f.2:Int)),is (.pointer (some ⟨bf,3,none⟩)),is (.int .i64 (f.2:Int)),is (.int .i64 ((f.2+1:Nat):Int)),
      kidF Gq (x.n2-(f.2+1-f.2)) (cL f.1.kids f.2 (f.2+1)),is (.pointer (some ⟨bf,3,none⟩)),is (.int .i64 (f.2:Int)),is (.pointer (some ⟨b15,1,none⟩)),is (.slice y.a2 y.n2 y.c2),kidF Gq (x.n2-(f.2+1-f.2)+y.n2) (dE (cL f.1.kids f.2 (f.2+1)) f.2 up1.kids)]
     ·rfl
     ·repeat' (first|exact bX|refine bU ?_ ?_)
      iterate 7
       ·(refine aQ rfl rfl rfl ?_);( intro wq _ _ hgq;(repeat (refine aG rfl rfl ?_;intro vq hvq;try (obtain rfl:=hvq)));(refine aM ?_))
        repeat (first|refine aK rfl yM rfl ?_|refine aF rfl rfl ?_|(refine bJ ?_;refine bT rfl rfl (by omega) rfl ?_)|refine TL.nil ?_)
        exact aS rfl yG rfl
      ·(refine aQ rfl rfl rfl ?_);( intro wq _ _ hgq;(repeat (refine aG rfl rfl ?_;intro vq hvq;try (obtain rfl:=hvq)));(refine aM ?_))
       refine aL 97 ?_
       refine aI rfl (cutN_c (F:=Gq) (hGF _ (by have:=hgq.size;omega)) x.a2 x.n2 x.c2 f.2 (f.2+1) f.1.kids (hx3.kids.grow yG) (by omega) (by omega) (by omega)) rfl ?_
       rintro v' wr ⟨⟨a7,c7,rfl,hi⟩,hgr⟩
       repeat (refine TL.nil ?_)
       exact aS rfl yG ⟨a7,c7,rfl,hi⟩
      iterate 4
       ·(refine aQ rfl rfl rfl ?_);( intro wq _ _ hgq;(repeat (refine aG rfl rfl ?_;intro vq hvq;try (obtain rfl:=hvq)));(refine aM ?_))
        repeat (first|refine aK rfl yM rfl ?_|refine aF rfl rfl ?_|refine TL.nil ?_)
        exact aS rfl yG rfl
      ·refine aQ rfl rfl rfl ?_
       intro wq _ _ hgq
       refine aG rfl rfl ?_
       intro v9 q9
       obtain rfl:=q9
       refine aG rfl rfl ?_
       intro v11 q11'
       obtain rfl:=q11'
       refine aG rfl rfl ?_
       intro v7 q7
       refine aM ?_
       obtain ⟨a7,c7,rfl,h7⟩:=q7
       refine aL 96 ?_
       refine aI rfl (insN_c (F:=Gq) (hGF _ (by have:=hgq.size;omega)) a7 y.a2 _ c7 y.n2 y.c2 f.2 _ up1.kids h7 (en3.kids.grow hgq) (by omega) (by omega)) rfl ?_
       rintro v' wr ⟨⟨a7,c7,rfl,hi⟩,hgr⟩
       repeat (refine TL.nil ?_)
       exact aS rfl yG ⟨a7,c7,rfl,hi⟩
     ·intro wt lot hit hgt _ _
      iterate 12 (refine aG rfl rfl ?_;intro vq hvq;try (obtain rfl:=hvq))
      refine aG rfl rfl ?_
      rintro vt ⟨at7,ct7,rfl,ht7⟩
      refine aM ?_
      have zt:=hgt.size
      have jf:=gf3.grow hgt
      have j15:=i15.grow hgt
      have jn:=gn.grow hgt
      have hgt2:=hg23.trans hgt
      have hx4:=hx3.go (Carry.grow hgt)
      have en4:=en3.go (Carry.grow hgt)
      clear gf3 i15 gn hx3 en3 hgt
      repeat (first|refine aK rfl yM rfl ?_|refine aF rfl rfl ?_|refine TL.nil ?_|refine aA ?_|refine aC ?_|(refine aP ?_;(refine bP rfl rfl yB (by exact rfl) (by exact rfl) (by exact rfl) ?_;intro w' hu hbk hsz)))
      have cu:Carry Gq wt Gq w':=Carry.upd hu (λ k hk _=>((hGq k).1 hk).2)
      refine aL 98 ?_
      refine aI rfl (insK_c (F:=Gq) (hGF _ (by omega)) x.a3 y.a3 x.n3 x.c3 y.n3 y.c3 f.2 f.1.keys up1.keys (hx4.kys.go cu) (en4.kys.go cu) (by omega) (by omega)) rfl ?_
      rintro _ wr ⟨⟨a8,c8,rfl,hi8⟩,hgr⟩
      have kn:=hbk.grow hgr
      have hgu:Grow w2 w':=aZ hu (by omega) hgt2
      have cu2:Carry Gq wt Gq wr:=cu.trans (Carry.grow hgr)
      have hN1:=hx4.its.go cu2
      have hN2:=ht7.go cu2
      have hgu2:=hgu.trans hgr
      have zr:=hgr.size
      clear hbk hu cu cu2 hgr hx4 en4 hgu hgt2 jn
      repeat (first|refine aF rfl rfl ?_|refine TL.nil ?_|refine aT ?_|(refine aP ?_;(refine bP rfl rfl yB (by exact rfl) (by exact rfl) (by exact rfl) ?_;intro w' hu hbk hsz))|refine bH ?_|refine cR ?_)
      have cu3:Carry Gq wr Gu w':=(Carry.upd hu (λ k hk _=>((hGq k).1 hk).2)).trans (Carry.mono λ k hk _=>((hGq k).1 hk).1)
      refine ⟨bn,⟨x.a1,x.n1,x.c1,at7,x.n2-(f.2+1-f.2)+y.n2,ct7,a8,x.n3+y.n3,c8⟩,⟨rfl,rfl,rfl,rfl,trivial⟩,by omega,by omega,hbk,?_,aZ hu (by omega) hgu2⟩
      have hpn:eH f.1 f.2 up1 (key,v) th=⟨f.1.items,dE (cL f.1.kids f.2 (f.2+1)) f.2 up1.kids,dE f.1.keys f.2 up1.keys⟩:=by
       simp only [eH,hlf];rfl
      rw [hpn]
      exact ⟨hN1.go cu3,hN2.go cu3,hi8.go cu3⟩
    | true =>
     repeat (first|(refine aD ?_;refine TL.pure rfl rfl ?_)|(refine aU ?_;first|refine aK rfl yM rfl ?_|refine bE rfl yB (by exact rfl) rfl ?_|refine lY rfl yB (by exact rfl) (by exact rfl) rfl ?_)|refine aF rfl rfl ?_|refine TL.nil ?_|refine aA ?_|refine aJ ?_|refine aC ?_|refine T.block ?_|(refine aP ?_;(refine aY rfl rfl yB (by exact rfl) (by exact rfl) (by exact rfl) ?_;intro w' hu hbk hsz))|(refine bD ?_;(refine TL.alloc rfl rfl ?_;intro bk w' hg hbk hsz hsz'))|refine aE rfl ?_|refine TL.pure rfl rfl ?_|refine bH ?_|refine cQ ?_|(refine aL 80 ?_;refine aI rfl (eX hx2 hlf _) rfl ?_;rintro _ _ ⟨rfl,hgc⟩))
     rename_i w3
     obtain ⟨bn,rfl⟩:∃ z,z=bk:=⟨bk,rfl⟩
     have gn:Blk w3 bn 79 x.cs:=Blk.grow hgc hbk
     have hg23:Grow w2 w3:=(aZ hu (by omega) hg).trans hgc
     have zc:=hgc.size
     have z23:=hg23.size
     obtain ⟨Gq,hGq⟩:∃ G:Nat→Prop,∀ k,G k↔Gu k∧k≠bn:=⟨_,λ k=>Iff.rfl⟩
     have cq:Carry Gu w2 Gq w3:=(Carry.mono (λ k hk hl=>(hGq k).2 ⟨hk,by omega⟩)).trans (Carry.grow hg23)
     have hx3:=hx2.go cq
     have en3:=en2.go cq
     have i15:=f15.grow hg23
     have i13:=f13.grow hg23
     have i11:=f11.grow hg23
     have gf3:=gf.grow hg23
     have hk3:=hk2.go cq
     have hv3:=hv2.go cq
     have qn:w2.heap.size=bn∧bn<w3.heap.size:=by omega
     have hGF:∀ wq:World,w3.heap.size≤wq.heap.size→∀ k,wq.heap.size≤k→Gq k:=λ wq hq k hk=>(hGq k).2 ⟨hGn k (by omega) (by omega) (by omega) (by omega),by omega⟩
     have hok:=fo.ok
     unfold cH at hok
     have hn1x:=hx3.its.len
     have hn2x:=dX hx3.kids
     have hn3x:=hx3.kys.len
     have hn2y:=dX en3.kids
     have hn3y:=en3.kys.len
     have hup2:=e2.two
     have hupl:=e2.ks
     clear hbk hg hgc hu hsz hsz' cq gf f15 f13 f11 hx2 en2 hk2 hv2
     rw [if_pos hlf] at hok
     obtain ⟨hoi,ho8,_⟩:=dL hok
     obtain ⟨hle,hlt⟩:=fo.leaf hlf
     cases th with
     | false =>
      repeat (first|(refine aU ?_;first|refine aK rfl yM rfl ?_|refine bE rfl yB (by exact rfl) rfl ?_)|refine aF rfl rfl ?_|refine aC ?_|refine aE rfl ?_)
      refine TL.buildSlice rfl rfl rfl rfl rfl ?_
      intro b' wa hga hba hsa hsb hsc
      have hba':Blk wa b' 58 [.slice a m c,.slice a' m' c']:=hba
      have hit:ItsAt Gq wa (some ⟨b',0,none⟩) 1 1 [(key,v)]:=⟨_,(bR (sz:=2) (m:=1) hba' rfl (by decide)).mono (λ k hk=>by subst hk;exact hGF w3 (Nat.le_refl _) _ (by omega)),⟨_,_,_,rfl,hk3.grow hga⟩,⟨_,_,_,rfl,hv3.grow hga⟩,trivial⟩
      have za:=hga.size
      have kn:=gn.grow hga
      have hx4:=hx3.go (Carry.grow hga)
      have hgu:=hg23.trans hga
      clear hba hba' hsa hsb hsc gn hga hg23 hx3
      repeat (refine aJ ?_)
      refine aL 99 ?_
      refine aI rfl (insI_c (F:=Gq) (hGF _ (by omega)) x.a1 (some ⟨b',0,none⟩) x.n1 x.c1 1 1 f.2 f.1.items [(key,v)] hx4.its hit (by omega) (by omega)) rfl ?_
      rintro _ wr ⟨⟨a8,c8,rfl,hi8⟩,hgr⟩
      have kn2:=kn.grow hgr
      have hx5:=hx4.go (Carry.grow hgr)
      have hgu2:=hgu.trans hgr
      have zr:=hgr.size
      clear kn hgr hx4 hgu
      repeat (first|refine aF rfl rfl ?_|refine TL.nil ?_|refine aT ?_|(refine aP ?_;(refine bP rfl rfl yB (by exact rfl) (by exact rfl) (by exact rfl) ?_;intro w' hu hbk hsz))|refine bH ?_|refine cR ?_)
      have cu3:Carry Gq wr Gu w':=(Carry.upd hu (λ k hk _=>((hGq k).1 hk).2)).trans (Carry.mono λ k hk _=>((hGq k).1 hk).1)
      refine ⟨bn,⟨a8,x.n1+1,c8,x.a2,x.n2,x.c2,x.a3,x.n3,x.c3⟩,⟨rfl,rfl,rfl,rfl,trivial⟩,by omega,by omega,hbk,?_,aZ hu (by omega) hgu2⟩
      have hpn:eH f.1 f.2 up1 (key,v) false=⟨dE f.1.items f.2 [(key,v)],f.1.kids,f.1.keys⟩:=by
       simp only [eH,hlf];rfl
      rw [hpn]
      exact ⟨hi8.go cu3,hx5.kids.go cu3,hx5.kys.go cu3⟩
     | true =>
      have hlt':=hlt rfl
      repeat (refine aN rfl ?_)
      apply T.any 13 [is (.pointer (some ⟨bn,0,none⟩)),is (.slice x.a1 x.n1 x.c1),is (.pointer (some ⟨bf,3,none⟩)),is (.int .i64 (f.2:Int)),is (.pointer (some ⟨bf,3,none⟩)),is (.int .i64 (f.2:Int)),is (.int .i64 ((f.2+1:Nat):Int)),
       itsF Gq (x.n1-(f.2+1-f.2)) (cL f.1.items f.2 (f.2+1)),is (.pointer (some ⟨bf,3,none⟩)),is (.int .i64 (f.2:Int)),is (.agg #[.slice a m c,.slice a' m' c']),itsF Gq 1 [(key,v)],itsF Gq (x.n1-(f.2+1-f.2)+1) (dE (cL f.1.items f.2 (f.2+1)) f.2 [(key,v)])]
      ·rfl
      ·repeat' (first|exact bX|refine bU ?_ ?_)
       iterate 7
        ·(refine aQ rfl rfl rfl ?_);( intro wq _ _ hgq;(repeat (refine aG rfl rfl ?_;intro vq hvq;try (obtain rfl:=hvq)));(refine aM ?_))
         repeat (first|refine aK rfl yM rfl ?_|refine aF rfl rfl ?_|(refine bJ ?_;refine bT rfl rfl (by omega) rfl ?_)|refine TL.nil ?_)
         exact aS rfl yG rfl
       ·(refine aQ rfl rfl rfl ?_);( intro wq _ _ hgq;(repeat (refine aG rfl rfl ?_;intro vq hvq;try (obtain rfl:=hvq)));(refine aM ?_))
        refine aL 81 ?_
        refine aI rfl (cutI_c (F:=Gq) (hGF _ (by have:=hgq.size;omega)) x.a1 x.n1 x.c1 f.2 (f.2+1) f.1.items (hx3.its.go (Carry.grow yG)) (by omega) (by omega) (by omega)) rfl ?_
        rintro v' wr ⟨⟨a7,c7,rfl,hi⟩,hgr⟩
        repeat (refine TL.nil ?_)
        exact aS rfl yG ⟨a7,c7,rfl,hi⟩
       iterate 3
        ·(refine aQ rfl rfl rfl ?_);( intro wq _ _ hgq;(repeat (refine aG rfl rfl ?_;intro vq hvq;try (obtain rfl:=hvq)));(refine aM ?_))
         repeat (first|(refine aU ?_;first|refine aK rfl yM rfl ?_|refine bE rfl yB (by exact rfl) rfl ?_)|refine aF rfl rfl ?_|refine TL.nil ?_)
         exact aS rfl yG rfl
       ·(refine aQ rfl rfl rfl ?_);( intro wq _ _ hgq;(repeat (refine aG rfl rfl ?_;intro vq hvq;try (obtain rfl:=hvq)));(refine aM ?_))
        have zq:=hgq.size
        refine TL.buildSlice rfl rfl rfl rfl rfl ?_
        intro b' wa hga hba hsa hsb hsc
        have hba':Blk wa b' 58 [.slice a m c,.slice a' m' c']:=hba
        have hit:ItsAt Gq wa (some ⟨b',0,none⟩) 1 1 [(key,v)]:=⟨_,(bR (sz:=2) (m:=1) hba' rfl (by decide)).mono (λ k hk=>by subst hk;exact hGF w3 (Nat.le_refl _) _ (by omega)),⟨_,_,_,rfl,(hk3.grow hgq).grow hga⟩,⟨_,_,_,rfl,(hv3.grow hgq).grow hga⟩,trivial⟩
        repeat (refine TL.nil ?_)
        exact aS rfl yG ⟨_,_,rfl,hit⟩
       ·refine aQ rfl rfl rfl ?_
        intro wq _ _ hgq
        refine aG rfl rfl ?_
        intro v9 q9
        obtain rfl:=q9
        refine aG rfl rfl ?_
        intro v11 q11'
        obtain ⟨a6,c6,rfl,h6⟩:=q11'
        refine aG rfl rfl ?_
        intro v7 q7
        refine aM ?_
        obtain ⟨a7,c7,rfl,h7⟩:=q7
        refine aL 99 ?_
        refine aI rfl (insI_c (F:=Gq) (hGF _ (by have:=hgq.size;omega)) a7 a6 _ c7 1 c6 f.2 _ [(key,v)] h7 h6 (by omega) (by omega)) rfl ?_
        rintro v' wr ⟨⟨a7,c7,rfl,hi⟩,hgr⟩
        repeat (refine TL.nil ?_)
        exact aS rfl yG ⟨a7,c7,rfl,hi⟩
      ·intro wt lot hit hgt _ _
       iterate 12 (refine aG rfl rfl ?_;intro vq hvq;try (obtain rfl:=hvq))
       refine aG rfl rfl ?_
       rintro vt ⟨at7,ct7,rfl,ht7⟩
       refine aM ?_
       have zt:=hgt.size
       have jn:=gn.grow hgt
       have hgt2:=hg23.trans hgt
       have hx4:=hx3.go (Carry.grow hgt)
       clear gf3 i15 gn hx3 en3 hgt hvq
       repeat (first|refine aF rfl rfl ?_|refine TL.nil ?_|refine aT ?_|(refine aP ?_;(refine bP rfl rfl yB (by exact rfl) (by exact rfl) (by exact rfl) ?_;intro w' hu hbk hsz))|refine bH ?_|refine cR ?_)
       have cu3:Carry Gq wt Gu w':=(Carry.upd hu (λ k hk _=>((hGq k).1 hk).2)).trans (Carry.mono λ k hk _=>((hGq k).1 hk).1)
       refine ⟨bn,⟨at7,x.n1-(f.2+1-f.2)+1,ct7,x.a2,x.n2,x.c2,x.a3,x.n3,x.c3⟩,⟨rfl,rfl,rfl,rfl,trivial⟩,by omega,by omega,hbk,?_,aZ hu (by omega) hgt2⟩
       have hpn:eH f.1 f.2 up1 (key,v) true=⟨dE (cL f.1.items f.2 (f.2+1)) f.2 [(key,v)],f.1.kids,f.1.keys⟩:=by
        simp only [eH,hlf];rfl
       rw [hpn]
       exact ⟨ht7.go cu3,hx4.kids.go cu3,hx4.kys.go cu3⟩
   rintro e w3 ⟨bn,z,hsub,qb1,qb2,hbn,hz,hg23⟩
   refine cT (e':=[(18,_),(15,_),(14,_),(4,_)]) ?_ hsub
   clear hsub
   obtain ⟨up2,g2,hpk⟩:=putUp_suffix hpu k
   rw [List.drop_eq_getElem_cons hkl,show fr[k]'hkl=f from (List.getElem?_eq_some_iff.1 hf).2] at hpk
   obtain ⟨up',g1',e1',hst⟩:=putUp_cons hpk
   rw [e1] at e1'
   simp only [Option.some.injEq,Prod.mk.injEq] at e1'
   obtain ⟨rfl,rfl⟩:=e1'
   obtain ⟨hs9,hsh⟩:=putNode_shape (item:=(key,v)) fo e2 (λ hl=>e3 (pathP_last hp k f hf hl))
   have hnb:=putNode_by (i:=f.2) (item:=(key,v)) (th:=th) fo.by' e2.by' hkb hvb
   have z3:=hg23.size
   have f15':=f15.grow hg23
   have f14':=f14.grow hg23
   have f4':=f4.grow hg23
   have hl3:w3.heap[D+1]? = some (.loop (rc .busy none)):=(hg23.block _ (by omega)).trans hl2
   clear f15 f14 f4 hl2
   repeat (first|(refine aU ?_;first|refine aK rfl yM rfl ?_|refine bE rfl yB (by exact rfl) rfl ?_)|refine aJ ?_|refine aC ?_)
   refine aL 100 ?_
   refine aI rfl (store_c (ep2.grow hg23) ((ht.buts eb2 h0).grow hg23) h0 Gu (λ k hk=>((hGu k).1 hk).1) (λ k hk=>hGn k (by omega) (by omega) (by omega) (by omega)) z _ up2 hz hnb hs9 hsh hst) rfl ?_
   rintro _ w8 ⟨⟨y2,rfl,hy2⟩,hp8,hb8⟩
   obtain ⟨hup2,hup2l⟩:=storeP_up hst hnb
   have z8:=hb8.size
   have f15:=dC f15' hb8 (hSl _ (by omega))
   have f14:=dC f14' hb8 (hSl _ (by omega))
   have hl8:w8.heap[D+1]? = some (.loop (rc .busy none)):=(hb8.block _ (by omega) (hSl _ (by omega))).trans hl3
   clear f15' f14' f4' hbn
   repeat (first|(refine aB ?_;refine TL.pure rfl rfl ?_)|refine aK rfl yM rfl ?_|refine TL.nil ?_|refine aA ?_|refine aJ ?_|refine aC ?_|refine aT ?_|(refine aH ?_;refine aR rfl yD rfl ?_)|(refine aP ?_;first|(refine bP rfl rfl yB (by exact rfl) (by exact rfl) (by exact rfl) ?_;intro w' hu hbk hsz)|(refine aY rfl rfl yB (by exact rfl) (by exact rfl) (by exact rfl) ?_;intro w' hu hbk hsz))|refine aE rfl ?_|refine aV ?_|refine TL.pure rfl rfl ?_)
   rename_i w9' hu9 hb9 z9'
   refine ⟨?_,λ wz huz hlz=>.inl ⟨rfl,up2,g2,y2,hpk,hup2,λ _=>hup2l,?_,hbk.upd huz (by omega),hlz,?_,?_,?_,?_⟩⟩
   ·rw [hu.block _ (by omega),hu9.block _ (by omega)];exact hl8
   ·exact (hb9.upd hu (by omega)).upd huz (by omega)
   ·refine ⟨by have:=hu9.size;have:=hu.size;have:=huz.size;omega,λ k hk hl=>⟨⟨hk,hl⟩,?_⟩⟩
    obtain ⟨c1,c2,c3,c4⟩:=(hGu k).1 hk
    rw [huz.block k c4,hu.block k c3,hu9.block k c2,hb8.block k (by omega) c1,hg23.block k (by omega)]
    exact gkU k hk hl
   ·exact ((hy2.go (Carry.upd hu9 (λ k hk _=>((hGu k).1 hk).2.1))).go (Carry.upd hu (λ k hk _=>((hGu k).1 hk).2.2.1))).go (Carry.upd (F:=Gu) huz (λ k hk _=>((hGu k).1 hk).2.2.2))
   ·exact ((hp8.upd hu9 (by omega)).upd hu (by omega)).upd huz (by omega)
   ·exact ((((eb2.trans (ButS.grow hg23)).trans hb8).upd hu9 (by omega)).upd hu (by omega)).upd huz (by omega)
  ·refine ⟨nd0,g,⟨none,0,0,none,0,0,none,0,0⟩,by rw [List.drop_length];rfl,⟨rfl,.inl rfl,by decide,by decide,⟨by simp [nd0],by simp [nd0]⟩⟩,λ hh=>by omega,j15,j14,hlW,Carry.mono (λ k hk hl=>⟨hk,hl⟩),⟨jU,jT,jF⟩,hpW,ButS.grow hgrW⟩
  ·rintro _ w1 ⟨u,rfl,⟨up1,g1,y,e1,e2,e3,e15,e14,el,ec,en,ep,eb⟩|hf⟩
   rotate_left
   ·exact hf.elim
   rw [List.drop_zero,hpu] at e1
   simp only [Option.some.injEq,Prod.mk.injEq] at e1
   obtain ⟨rfl,rfl⟩:=e1
   refine ⟨u,rfl,?_,.inl ⟨el,λ I w2 hu2=>?_⟩⟩
   ·rw [(ec.blk D (hGn _ (by omega) (by omega) (by omega) (by omega)) (by omega)).2];exact hDW
   ·have hul:=hu2.size
    have zec:=ec.size
    have gu:∀ k,w.heap.size≤k→k≠b15→k≠b14→k≠D+1→k<W.heap.size→w2.heap[k]? = W.heap[k]?:=λ k h1 h2 h3 h4 h5=>(hu2.block k h4).trans (ec.blk k (hGn k h1 h2 h3 h4) h5).2
    have f15:=e15.upd hu2 (by omega)
    have f8:=eL j8 (gu b8 (by omega) (by omega) (by omega) (by omega) (by omega))
    have f9:=eL j9 (gu b9 (by omega) (by omega) (by omega) (by omega) (by omega))
    have f4:=eL j4 (gu b4 (by omega) (by omega) (by omega) (by omega) (by omega))
    have fD:w2.heap[D]? = some (.deferred (some [])):=(gu D (by omega) (by omega) (by omega) (by omega) (by omega)).trans hDW
    have fn:=en.go (Carry.upd (F:=Gu) hu2 (λ k hk _=>((hGu k).1 hk).2.2.2))
    have fp:=ep.upd hu2 (by omega)
    have fb2:ButS L.S w w2:=eb.upd hu2 (by omega)
    have hn2:=dX fn.kids
    clear e15 e14 el ec en ep eb hu2 hbk hsz hli j4 j8 j9 j11 j13 j14 j15 hb1 hfs hfc hkW hvW
    rcases hend with ⟨hk1,rfl⟩|⟨hk1,hwp⟩
    ·have hy2:y.n2=1:=by rw [hn2,hk1];rfl
     have hsk:=fn.kids
     rw [hk1] at hsk
     have hcx:w2.cell? (at' y.a2 0)=some (.int .i64 (n':Int)):=hsk.row.cell rfl
     repeat (first|(refine bF ?_;refine aW (j:=0) rfl rfl rfl (by omega) rfl ⟨_,_,hsk⟩ rfl ?_)|refine aK rfl yM rfl ?_|refine aF rfl rfl ?_|refine TL.nil ?_|refine aA ?_|refine aJ ?_|refine aC ?_|(refine aH ?_;refine bA rfl yD rfl ?_)|(refine aP ?_;(refine bP rfl rfl yB (by exact rfl) (by exact rfl) (by exact rfl) ?_;intro w' hu hbk hsz))|refine aO rfl rfl ?_|refine aN rfl ?_|refine bC ?_|refine bI ?_)
     rename_i w7 hu7 hb7 z7
     refine ⟨?_,λ wz huz=>?_⟩
     ·rw [hu.block D (by omega),hu7.block D (by omega)];exact fD
     ·refine retCC rfl (dP ((hb7.upd hu (by omega)).upd huz (by omega))) rfl (dP (hbk.upd huz (by omega))) ⟨_,rfl,rfl,?_,((fb2.upd hu7 (by omega)).upd hu (by omega)).upd huz (by omega)⟩
      exact ((fp.upd hu7 (by omega)).upd hu (by omega)).upd huz (by omega)
    ·have hy2:y.n2≠1:=by rw [hn2];exact hk1
     obtain ⟨hok,hnw⟩:=iI hwp
     repeat (first|(refine aU ?_;first|refine aK rfl yM rfl ?_|refine bE rfl yB (by exact rfl) rfl ?_)|refine aF rfl rfl ?_|refine TL.nil ?_|refine aA ?_|refine aJ ?_|refine aC ?_|(refine aH ?_;refine aR rfl yD rfl ?_)|refine aO rfl rfl ?_|refine aE rfl ?_|refine aV ?_)
     refine aL 84 ?_
     refine aI rfl (write_c fp (ht.buts fb2 h0) _ y up fn hok (lF hok e2.by') n' hnw) rfl ?_
     rintro _ w6' ⟨rfl,hp6,hb6⟩
     have f8':=dC f8 hb6 (hSl _ (by omega))
     have f9':=dC f9 hb6 (hSl _ (by omega))
     have fD':w6'.heap[D]? = some (.deferred (some [])):=(hb6.block D (by omega) (hSl _ (by omega))).trans fD
     have zz:=hb6.size
     clear f8 f9 f15 f4
     repeat (first|refine TL.nil ?_|refine aA ?_|(refine aP ?_;(refine bP rfl rfl yB (by exact rfl) (by exact rfl) (by exact rfl) ?_;intro w' hu hbk hsz))|refine bC ?_|refine TL.pure rfl rfl ?_)
     rename_i w7 hu7 hb7 z7
     refine ⟨?_,λ wz huz=>?_⟩
     ·rw [hu.block D (by omega),hu7.block D (by omega)];exact fD'
     ·refine retCC rfl (dP ((hb7.upd hu (by omega)).upd huz (by omega))) rfl (dP (hbk.upd huz (by omega))) ⟨_,rfl,rfl,?_,(((fb2.trans hb6).upd hu7 (by omega)).upd hu (by omega)).upd huz (by omega)⟩
      exact ((hp6.upd hu7 (by omega)).upd hu (by omega)).upd huz (by omega)
end Go.Proofs.YtfpadnmdafiddaaGreatDoor
namespace Go.V
open Go Go.RowKit
def DetA [Rn] (P:Program) (n:Nat) (l:List Oper) (e:dN) (I:Bool→World→Prop) (vs:List Value) (A i:Nat):Prop :=
 match l[i]? with
 | none=>True
 | some o=>∀ b w,(i=A→b=false)→I b w→TL P n l.toArray [o] (iX l vs (kQ (cD o)) e) w (detQ o.dst (vs.getD i undef) (I (b || Nat.beq i A)))
def AllDetA [Rn] (P:Program) (n:Nat) (l:List Oper) (e:dN) (I:Bool→World→Prop) (vs:List Value) (A:Nat):Nat→Nat→Prop
 | _,0=>True
 | i,k+1=>DetA P n l e I vs A i∧AllDetA P n l e I vs A (i+1) k
section
variable [Rn]
variable {P:Program} {n:Nat} {l:List Oper} {e:dN} {I:Bool→World→Prop} {vs:List Value} {A N:Nat} {Q:dO}
theorem allDetA_at:∀ {k i:Nat},AllDetA P n l e I vs A i k→∀ j,i≤j→j<i+k→DetA P n l e I vs A j
 | 0,_,_,j,h1,h2=>by omega
 | k+1,i,h,j,h1,h2=>by
  by_cases hj:j=i
  ·subst hj;exact h.1
  ·exact allDetA_at h.2 j (by omega) (by omega)
theorem iF {i:Nat}:AllDetA P n l e I vs A i 0:=trivial
theorem gQ {i k:Nat} (h:DetA P n l e I vs A i) (hs:AllDetA P n l e I vs A (i+1) k):AllDetA P n l e I vs A i (k+1):=⟨h,hs⟩
theorem cI {i:Nat} {d:Option Nat} {op:Op} {ty:TypeId} {pos:String} {aft:Array Edge} {v:Value} {e':dN} (ho:l[i]? = some ⟨d,op,ty,pos,aft,none⟩) (hv:vs.getD i undef=v) (he:iX l vs (kQ (cD ⟨d,op,ty,pos,aft,none⟩)) e=e')
  (h:∀ b w,(i=A→b=false)→I b w→TL P n #[] [⟨d,op,ty,pos,aft,none⟩] e' w (detQ d v (I (b || Nat.beq i A)))):DetA P n l e I vs A i:=by
 unfold DetA
 rw [ho]
 simp only
 intro b w hb hw
 subst he
 rw [hv]
 exact TL.lone (h b w hb hw)
structure MidZ (n:Nat) (l:List Oper) (e:dN) (I:Bool→World→Prop) (vs:List Value) (A N:Nat) (listed:Array Bool) (a:Act) (w:World):Prop where
 size:listed.size=l.length
 inv:I (listed.getD A false) w
 defers:a.defers=Rn.ds
 tmps:a.tmps.size=n
 get:∀ t v,find e t=some v→a.tmps.getD t undef=v
 did:∀ i,i<N→listed.getD i false=true→∀ d,lT l i=some d→a.tmps.getD d undef=vs.getD i undef
 rest:∀ i,N≤i→listed.getD i false=false
 closed:∀ j o,l[j]? = some o→listed.getD j false=true→∀ x∈cD o,listed.getD x false=true
theorem detA_runs (hN:N≤l.length) (hh:∀ i,i<N→DHead l e n i) (hsink:∀ o,l[N]? = some o→∀ i,i<N→i∈cD o)
  (ht:∀ j,N≤j→j<l.length→∃ o,l[j]? = some o∧(∀ x∈cD o,x<j)∧(j=N∨j-1∈cD o)) (hdo:∀ i,i<N→DetA P n l e I vs A i)
  (hA:A<N) (htail:∀ w,I true w→TL P n l.toArray (l.drop N) (iX l vs (mT 0 N) e) w Q) :
  ∀ (m:Nat) (listed:Array Bool) (a:Act) (w:World) (f:Nat),MidZ n l e I vs A N listed a w →
   ((List.range N).filter λ i=>!(listed.getD i false)).length=m→f=m+(l.length-N)→wpAnyIn (FR Rn.ro) 0 P .any l.toArray (iQ n Q) f listed a w:=by
 intro m
 induction m with
 | zero =>
  intro listed a w f mid hm hf
  have hall:∀ i,i<N→listed.getD i false=true:=by
   intro i hi
   have:=List.eq_nil_of_length_eq_zero hm
   have h2:=List.eq_nil_iff_forall_not_mem.1 this i
   simp only [List.mem_filter,List.mem_range,not_and,Bool.not_eq_true',Bool.not_eq_false] at h2
   exact h2 hi
  refine mW ht f N listed a w (by omega) (Nat.le_refl _) mid.size hall (λ x hx hx2=>?_) ?_
  ·have:=mid.rest x hx
   rw [Array.getD_eq_getD_getElem?] at this ⊢
   cases hy:listed[x]? with
   | none=>rw [Array.getElem?_eq_none_iff] at hy;have:=mid.size;omega
   | some b=>simpa [hy] using this
  ·refine (htail w (by have:=mid.inv;rw [hall A hA] at this;exact this)).out ⟨mid.defers,mid.tmps,λ t v hv=>?_⟩
   rcases kG hv with ⟨j,hj,h1,rfl⟩|h3
   ·have hjN:=(fE.1 hj).2
    exact mid.did j (by omega) (hall j (by omega)) t h1
   ·exact mid.get t v h3
 | succ m ih =>
  intro listed a w f mid hm hf
  have hopen:∃ i,i<N∧listed.getD i false=false:=by
   have hne:((List.range N).filter λ i=>!(listed.getD i false))≠[]:=by intro h0;rw [h0] at hm;simp at hm
   obtain ⟨i,hi⟩:=List.exists_mem_of_ne_nil _ hne
   simp only [List.mem_filter,List.mem_range,Bool.not_eq_true'] at hi
   exact ⟨i,hi.1,hi.2⟩
  obtain ⟨f',rfl⟩:∃ f',f=f'+1:=⟨f-1,by omega⟩
  have hready:∀ j,j∈Region.ready .any l.toArray listed→j<N∧listed.getD j false=false:=by
   intro j hj
   obtain ⟨h3,o,h4,h5⟩:=dH.1 hj
   have hlt:j<l.length:=(List.getElem?_eq_some_iff.1 h4).1
   have hf2:listed.getD j false=false:=by
    rw [Array.getD_eq_getD_getElem?] at h3 ⊢
    cases hx:listed[j]? with
    | none=>simp
    | some b=>simpa [hx] using h3
   refine ⟨?_,hf2⟩
   rcases Nat.lt_or_ge j N with h|h
   ·exact h
   ·exfalso
    obtain ⟨o2,h6,_,h7⟩:=ht j h hlt
    rw [h4] at h6
    cases h6
    obtain ⟨i,hi,hi0⟩:=hopen
    by_cases hjN:j=N
    ·subst hjN
     have:=h5 i (hsink o h4 i hi)
     rw [hi0] at this
     cases this
    ·have h8:=h5 (j-1) (h7.resolve_left hjN)
     rw [mid.rest (j-1) (by omega)] at h8
     cases h8
  have hsome:Region.ready .any l.toArray listed≠[]:=by
   have key:∀ k i,i≤k→i<N→listed.getD i false=false→∃ j,j∈Region.ready .any l.toArray listed:=by
    intro k
    induction k with
    | zero =>
     intro i hi hiN hl
     obtain ⟨o,ho,_,hdeps⟩:=(hh i hiN).ex
     refine ⟨i,dH.2 ⟨?_,o,ho,λ x hx=>?_⟩⟩
     ·rw [Array.getD_eq_getD_getElem?] at hl ⊢
      cases hx:listed[i]? with
      | none=>rw [Array.getElem?_eq_none_iff] at hx;have:=mid.size;omega
      | some b=>simpa [hx] using hl
     ·have:=hdeps x hx;omega
    | succ k ihk =>
     intro i hi hiN hl
     obtain ⟨o,ho,_,hdeps⟩:=(hh i hiN).ex
     by_cases hx:∃ x∈cD o,listed.getD x false=false
     ·obtain ⟨x,hx1,hx2⟩:=hx
      have:=hdeps x hx1
      exact ihk x (by omega) (by omega) hx2
     ·refine ⟨i,dH.2 ⟨?_,o,ho,λ x hx1=>?_⟩⟩
      ·rw [Array.getD_eq_getD_getElem?] at hl ⊢
       cases hx:listed[i]? with
       | none=>rw [Array.getElem?_eq_none_iff] at hx;have:=mid.size;omega
       | some b=>simpa [hx] using hl
      ·cases hv:listed.getD x false with
       | true=>rfl
       | false=>exact absurd ⟨x,hx1,hv⟩ hx
   obtain ⟨i,hi,hi0⟩:=hopen
   obtain ⟨j,hj⟩:=key i i (Nat.le_refl _) hi hi0
   intro h0
   rw [h0] at hj
   cases hj
  refine ⟨λ h0=>absurd h0 hsome,λ i hir=>?_⟩
  obtain ⟨hiN,hil⟩:=hready i hir
  obtain ⟨_,o,ho,hdl⟩:=dH.1 hir
  obtain ⟨o',ho',hd,hdeps⟩:=(hh i hiN).ex
  rw [ho] at ho'
  cases ho'
  have hdst:lT l i=o.dst:=by simp [lT,ho]
  have hdo':=hdo i hiN
  unfold DetA at hdo'
  simp only [ho] at hdo'
  have hfit:Fits n (iX l vs (kQ (cD o)) e) a:=⟨mid.defers,mid.tmps,λ t v hv=>by
   rcases kG hv with ⟨j,hj,h1,rfl⟩|h3
   ·have hj':=fF.1 hj
    exact mid.did j (by have:=hdeps j hj';omega) (hdl j hj') t h1
   ·exact mid.get t v h3⟩
  have hrun:=(hdo' (listed.getD A false) w (λ e=>by rw [← e];exact hil) mid.inv).out hfit
  unfold wpOpIn
  rw [show l.toArray[i]? = some o by simpa using ho]
  simp only
  have hnext:∀ a' w',iQ n (detQ o.dst (vs.getD i undef) (I (listed.getD A false || Nat.beq i A))) .normal a' w'→(∃ v,a'.tmps=(a.put o.dst v).tmps)→wpAnyIn (FR Rn.ro) 0 P .any l.toArray (iQ n Q) f' (listed.setIfInBounds i true) a' w':=by
   rintro a' w' ⟨e',he',hv,hI'⟩ ⟨u,hu⟩
   have hother:∀ t,o.dst≠some t→a'.tmps.getD t undef=a.tmps.getD t undef:=λ t htd=>by
    rw [hu]
    cases hod:o.dst with
    | none=>rfl
    | some d =>
     rw [jK (by rw [mid.tmps];exact (hd d hod).1),if_neg (λ h=>htd (by rw [hod,h]))]
   have hIn:I ((listed.setIfInBounds i true).getD A false) w':=by
    have hsz:i<listed.size:=by rw [mid.size];exact (List.getElem?_eq_some_iff.1 ho).1
    by_cases hiA:A=i
    ·subst hiA
     have e1:(listed.setIfInBounds A true).getD A false=true:=by simp [Array.getD_eq_getD_getElem?,hsz]
     rw [e1]
     rw [Nat.beq_refl,Bool.or_true] at hI'
     exact hI'
    ·rw [dV hiA]
     have e2:Nat.beq i A=false:=by
      cases hb:Nat.beq i A with
      | false=>rfl
      | true=>exact absurd (Nat.eq_of_beq_eq_true hb).symm hiA
     rw [e2,Bool.or_false] at hI'
     exact hI'
   refine ih (listed.setIfInBounds i true) a' w' f' ⟨by simp [mid.size],hIn,he'.defers,he'.size,λ t v hv=>?_,λ j hj hjl d hjd=>?_,λ j hj=>?_,λ j oj hoj hjl x hx=>?_⟩ ?_ (by omega)
   ·rw [hother t (λ h=>by rw [(hd t h).2.1] at hv;cases hv)]
    exact mid.get t v hv
   ·by_cases hji:j=i
    ·subst hji
     rw [hdst] at hjd
     exact he'.get d _ (hv d hjd)
    ·rw [dV hji] at hjl
     have hne:o.dst≠some d:=by
      intro hod
      rcases Nat.lt_or_ge j i with h|h
      ·exact (hd d hod).2.2 j h hjd
      ·obtain ⟨oj,hoj,hdj,_⟩:=(hh j hj).ex
       have:lT l j=oj.dst:=by simp [lT,hoj]
       rw [this] at hjd
       exact (hdj d hjd).2.2 i (by omega) (by rw [hdst];exact hod)
     rw [hother d hne]
     exact mid.did j hj hjl d hjd
   ·rw [dV (by omega)]
    exact mid.rest j hj
   ·by_cases hxi:x=i
    ·subst hxi
     have hsz:x<listed.size:=by rw [mid.size];exact (List.getElem?_eq_some_iff.1 ho).1
     simp [Array.getD_eq_getD_getElem?,hsz]
    ·rw [dV hxi]
     by_cases hji:j=i
     ·subst hji
      rw [ho] at hoj
      cases hoj
      exact hdl x hx
     ·rw [dV hji] at hjl
      exact mid.closed j oj hoj hjl x hx
   ·have hcount:∀ (L:List Nat),L.Nodup→i∈L→(L.filter λ j=>!((listed.setIfInBounds i true).getD j false)).length+1=(L.filter λ j=>!(listed.getD j false)).length:=by
     intro L
     induction L with
     | nil=>intro _ h;cases h
     | cons x xs ihx =>
      intro hnd hmem
      rw [List.nodup_cons] at hnd
      have hsz:i<listed.size:=by rw [mid.size];exact (List.getElem?_eq_some_iff.1 ho).1
      by_cases hxi:x=i
      ·subst hxi
       have hsame:(xs.filter λ j=>!((listed.setIfInBounds x true).getD j false))=xs.filter λ j=>!(listed.getD j false):=by
        apply List.filter_congr
        intro y hy
        rw [dV (λ (h:y=x)=>hnd.1 (by rw [← h];exact hy))]
       have h1:(listed.setIfInBounds x true).getD x false=true:=by simp [Array.getD_eq_getD_getElem?,hsz]
       rw [List.filter_cons_of_neg (by simp [h1]),hsame,List.filter_cons_of_pos (by simp [hil])]
       simp
      ·have hmem':i∈xs:=by
        rcases List.mem_cons.1 hmem with h|h
        ·exact absurd h.symm hxi
        ·exact h
       have:=ihx hnd.2 hmem'
       have hx2:(listed.setIfInBounds i true).getD x false=listed.getD x false:=dV hxi
       cases hc:listed.getD x false with
       | true=>rw [List.filter_cons_of_neg (by simp [hx2,hc]),List.filter_cons_of_neg (by simp [hc])];exact this
       | false=>rw [List.filter_cons_of_pos (by simp [hx2,hc]),List.filter_cons_of_pos (by simp [hc])];simp only [List.length_cons];omega
    have:=hcount (List.range N) List.nodup_range (List.mem_range.2 hiN)
    omega
  unfold wpListIn at hrun
  split
  ·rename_i hw
   rw [if_pos hw] at hrun
   exact (Oper.wpIn_mono (λ a' w' hh=>hnext a' w' hh.1 hh.2) (wp_swap (wp_frame hrun) (λ x a w hx hq=>by
     refine (lift_no hq λ e0 w0 hq=>?_).elim
     cases x<;>first|exact absurd rfl hx|exact hq)))
  ·rename_i hw
   rw [if_neg hw] at hrun
   exact ⟨hrun.1,hnext _ _ hrun.2 ⟨undef,by cases o.dst<;>rfl⟩⟩
theorem T.detA {rid:Nat} {w0:World} (N A:Nat) (vs:List Value) (I:Bool→World→Prop) [hm:Mixed P] (hc:(headDet l e n 0 N&&mR l N N (l.length-N)&&Nat.ble N l.length&&sinkDet l N&&Nat.blt A N)=true) (h0:∀ w,Grow w0 w→I false w)
  (hdo:AllDetA P n l e I vs A 0 N) (htail:∀ w,I true w→TL P n l.toArray (l.drop N) (iX l vs (mT 0 N) e) w Q):T P n (.region rid l.toArray true) e w0 Q:=by
 simp only [Bool.and_eq_true] at hc
 obtain ⟨⟨⟨⟨hc1,hc2⟩,hc3⟩,hc4⟩,hc5⟩:=hc
 refine T.mk λ a ha=>wpIn_region_any hm.h ?_
 refine detA_runs (N:=N) (Nat.le_of_ble_eq_true hc3) (λ i hi=>headDet_at hc1 i (Nat.zero_le _) (by omega)) (λ o ho i hi=>?_) (λ j h1 h2=>lC hc2 j h1 (by omega)) (λ i hi=>allDetA_at hdo i (Nat.zero_le _) (by omega)) (Nat.le_of_ble_eq_true hc5) htail
  N (Array.replicate l.toArray.size false) a _ _ ⟨by simp,(by
   have e1:(Array.replicate l.toArray.size false).getD A false=false:=by
    rw [Array.getD_eq_getD_getElem?]
    rcases Nat.lt_or_ge A l.length with hi|hi
    ·simp [hi]
    ·simp [hi]
   rw [e1];exact h0 _ (Grow.drew _)),ha.defers,ha.size,ha.get,λ i _ h=>?_,λ i _=>?_,λ j o _ h x _=>?_⟩ ?_ ?_
 ·unfold sinkDet at hc4
  rw [ho] at hc4
  exact any_beq.1 (List.all_eq_true.1 hc4 i (fE.2 ⟨Nat.zero_le _,by omega⟩))
 ·exfalso
  rw [Array.getD_eq_getD_getElem?] at h
  rcases Nat.lt_or_ge i l.length with hi|hi
  ·simp [hi] at h
  ·simp [hi] at h
 ·rw [Array.getD_eq_getD_getElem?]
  rcases Nat.lt_or_ge i l.length with hi|hi
  ·simp [hi]
  ·simp [hi]
 ·exfalso
  rw [Array.getD_eq_getD_getElem?] at h
  rcases Nat.lt_or_ge j l.length with hi|hi
  ·simp [hi] at h
  ·simp [hi] at h
 ·have:((List.range N).filter λ i=>!((Array.replicate l.toArray.size false).getD i false))=List.range N:=by
   rw [List.filter_eq_self]
   intro i hi
   rw [Array.getD_eq_getD_getElem?]
   rcases Nat.lt_or_ge i l.length with hi|hi
   ·simp [hi]
   ·simp [hi]
  rw [this]
  simp
 ·have:=Nat.le_of_ble_eq_true hc3
  simp
  omega
end
end Go.V
namespace Go.Proofs.YtfpadnmdafiddaaGreatDoor
open Go Go.RowKit Go.V
structure Two (G:Nat→Prop) (w0:World) (b3 b5 b6 b8:Nat) (w:World) (X Y:NV) (NA NB:Nd) (ka:Option Addr) (kn kc:Nat) (key:Bs):Prop where
 e3:Blk w b3 79 X.cs
 e5:Blk w b5 79 Y.cs
 e6:Blk w b6 79 nil3
 e8:Blk w b8 79 nil3
 hx:NdAt G w X NA
 hy:NdAt G w Y NB
 hk:Sl G w 1 ka kn kc (cX key)
 hg:Grow w0 w
 out:∀ k,G k→k≠b3∧k≠b5∧k≠b6∧k≠b8
 ne:b3≠b5∧b3≠b6∧b3≠b8∧b5≠b6∧b5≠b8∧b6≠b8
 le:w0.heap.size≤b3∧w0.heap.size≤b5∧w0.heap.size≤b6∧w0.heap.size≤b8
section
variable {G:Nat→Prop} {w0 w w':World} {b3 b5 b6 b8:Nat} {X Y Z:NV} {NA NB NC:Nd} {ka:Option Addr} {kn kc:Nat} {key:Bs}
theorem Two.grow (S:Two G w0 b3 b5 b6 b8 w X Y NA NB ka kn kc key) (g:Grow w w'):Two G w0 b3 b5 b6 b8 w' X Y NA NB ka kn kc key :=
 ⟨S.e3.grow g,S.e5.grow g,S.e6.grow g,S.e8.grow g,S.hx.go (Carry.grow g),S.hy.go (Carry.grow g),S.hk.grow g,S.hg.trans g,S.out,S.ne,S.le⟩
theorem Two.setA (S:Two G w0 b3 b5 b6 b8 w X Y NA NB ka kn kc key) (u:Upd b3 w w') (hb:Blk w' b3 79 Z.cs) (hz:NdAt G w Z NC):Two G w0 b3 b5 b6 b8 w' Z Y NC NB ka kn kc key:=by
 have c:Carry G w G w':=Carry.upd u λ k hk _=>(S.out k hk).1
 obtain ⟨n1,n2,n3,n4,n5,n6⟩:=S.ne
 exact ⟨hb,S.e5.upd u (Ne.symm n1),S.e6.upd u (Ne.symm n2),S.e8.upd u (Ne.symm n3),hz.go c,S.hy.go c,S.hk.go c,aZ u S.le.1 S.hg,S.out,S.ne,S.le⟩
theorem Two.setB (S:Two G w0 b3 b5 b6 b8 w X Y NA NB ka kn kc key) (u:Upd b5 w w') (hb:Blk w' b5 79 Z.cs) (hz:NdAt G w Z NC):Two G w0 b3 b5 b6 b8 w' X Z NA NC ka kn kc key:=by
 have c:Carry G w G w':=Carry.upd u λ k hk _=>(S.out k hk).2.1
 obtain ⟨n1,n2,n3,n4,n5,n6⟩:=S.ne
 exact ⟨S.e3.upd u n1,hb,S.e6.upd u (Ne.symm n4),S.e8.upd u (Ne.symm n5),S.hx.go c,hz.go c,S.hk.go c,aZ u S.le.2.1 S.hg,S.out,S.ne,S.le⟩
theorem NdAt.nums {F:Nat→Prop} {w:World} {x:NV} {nd:Nd} (h:NdAt F w x nd):x.n1=nd.items.length∧x.n2=nd.kids.length∧x.n3=nd.keys.length:=⟨h.its.len,dX h.kids,h.kys.len⟩
theorem retCTC {P:Program} {e:dN} {w:World} {s t s2 t2 u:Nat} {p p2:Addr} {v v2 x:Value} {R:Ending→World→Prop} (h:find e s=some (.pointer (some p))) (hl:(loadVar t p).run P w=.ok v w) (h2:find e u=some x) (h':find e s2=some (.pointer (some p2))) (hl':(loadVar t2 p2).run P w=.ok v2 w) (hR:R (.returned (.tuple #[v,x,v2])) w):retQ P [.cell s t,.tmp u,.cell s2 t2] R .ret e w :=
 jH (vs:=[v,x,v2]) ⟨v,[x,v2],rfl,⟨p,h,hl⟩,x,[v2],rfl,h2,v2,[],rfl,⟨p2,h',hl'⟩,rfl⟩ rfl hR
end
theorem tforth_c (F:Nat→Prop) (w:World) (hF:∀ k,w.heap.size≤k→F k) (x y:NV) (na nb:Nd) (ka:Option Addr) (kn kc:Nat) (key:Bs) (hx:NdAt F w x na) (hy:NdAt F w y nb) (hk:Sl F w 1 ka kn kc (cX key)) (hsx:na.items.length≤1000∧na.kids.length≤1000∧na.keys.length≤1000) (hsy:nb.items.length≤1000∧nb.kids.length≤1000∧nb.keys.length≤1000)
  (hl:cK na=true→1≤na.items.length) (hb:cK na=false→2≤na.kids.length∧na.keys.length+1=na.kids.length) :
  Calls Tryz.prog 192 #[x.val,.slice ka kn kc,y.val] w (Ret λ v w'=>(∃ (x' y':NV) (kv:Value),v=.tuple #[x'.val,kv,y'.val]∧NdAt F w' x' (fW na key nb).1∧NdAt F w' y' (fW na key nb).2.2∧BsAt F w' kv (fW na key nb).2.1)∧Grow w w'):=by
 obtain ⟨nx1,nx2,nx3⟩:=hx.nums
 obtain ⟨ny1,ny2,ny3⟩:=hy.nums
 refine V.calls (args:=[_,_,_]) Tryz.func192 rfl Tryz.ntmps192 rfl rfl ?_
 repeat (first|(refine aD ?_;refine TL.pure rfl rfl ?_)|(refine aU ?_;refine bE rfl yB (by exact rfl) rfl ?_)|refine TL.nil ?_|refine aA ?_|refine aJ ?_|refine aC ?_|(refine bW ?_;(refine dJ rfl rfl ?_;intro bk w' hg hbk hsz hsz'))|(refine bD ?_;(refine TL.alloc rfl rfl ?_;intro bk w' hg hbk hsz hsz')))
 rename_i b3 w1 g1 k1 p1 p1' b5 w2 g2 k2 p2 p2' b6 w3 g3 k3 p3 p3'
 obtain ⟨b8,rfl⟩:∃ z,z=bk:=⟨bk,rfl⟩
 obtain ⟨G,hG⟩:∃ G:Nat→Prop,∀ k,G k↔F k∧k≠b3∧k≠b5∧k≠b6∧k≠b8:=⟨_,λ _=>Iff.rfl⟩
 have hgr0:Grow w w':=g1.trans (g2.trans (g3.trans hg))
 have cg:Carry F w G w':=(Carry.mono (λ k hk hl=>(hG k).2 ⟨hk,by omega,by omega,by omega,by omega⟩)).trans (Carry.grow hgr0)
 have S:Two G w b3 b5 b6 b8 w' x y na nb ka kn kc key:=⟨k1.grow (g2.trans (g3.trans hg)),k2.grow (g3.trans hg),k3.grow hg,hbk,hx.go cg,hy.go cg,hk.go cg,hgr0,λ k hk=>((hG k).1 hk).2,by omega,by omega⟩
 have zw:=hgr0.size
 obtain ⟨Z0,hZ0⟩:∃ n,n=w'.heap.size:=⟨_,rfl⟩
 have hGF:∀ wq:World,Z0≤wq.heap.size→∀ k,wq.heap.size≤k→G k:=λ wq hq k hk=>(hG k).2 ⟨hF k (by omega),by omega,by omega,by omega,by omega⟩
 have qb:b3<Z0∧b5<Z0∧b6<Z0∧b8<Z0:=by omega
 have qw:w.heap.size≤Z0:=by omega
 have hGout:∀ wq:World,Carry G wq F wq:=λ wq=>Carry.mono λ k hk _=>((hG k).1 hk).1
 clear hbk hg g1 g2 g3 k1 k2 k3 cg hgr0 p1 p1' p2 p2' p3 p3' hsz hsz'
 have hwZ:Z0≤w'.heap.size:=by omega
 have e3:=S.e3
 have e5:=S.e5
 cases hlf:cK na with
 | true =>
  have hl1:=hl hlf
  rw [show fW na key nb=(⟨cL na.items (na.items.length-1) (na.items.length-1+1),na.kids,na.keys⟩,((dE nb.items 0 [na.items.getD (na.items.length-1) ([],[])]).getD 0 ([],[])).1,⟨dE nb.items 0 [na.items.getD (na.items.length-1) ([],[])],nb.kids,nb.keys⟩) by simp only [fW,hlf,if_true]]
  repeat (first|(refine aD ?_;refine TL.pure rfl rfl ?_)|refine aK rfl yM rfl ?_|refine aF rfl rfl ?_|(refine cJ ?_;refine dI rfl rfl (by omega) (by omega) rfl ?_)|refine TL.nil ?_|refine aA ?_|refine aJ ?_|refine aC ?_|refine aO rfl rfl ?_|refine aN rfl ?_|(refine aL 80 ?_;refine aI rfl (eX S.hx hlf _) rfl ?_;rintro _ _ ⟨rfl,hgc⟩))
  rename_i wA
  replace S:=S.grow hgc
  have zA:=hgc.size
  clear e3 e5 hgc
  have e3:=S.e3
  have e5:=S.e5
  have hrow:=S.hx.its
  obtain ⟨el,hel⟩:∃ q,na.items[(x.n1-1)]? = some q:=⟨_,List.getElem?_eq_getElem (by omega)⟩
  obtain ⟨ecs,hes,hec⟩:=hrow.ex
  obtain ⟨ekv,evv,f0,f1,hek,hev⟩:=hec.at' hel
  obtain ⟨eka,ekc,rfl,heks⟩:=hek.sl
  obtain ⟨eva,evc,rfl,hevs⟩:=hev.sl
  rw [Nat.mul_comm] at f0 f1
  have eel:na.items.getD (x.n1-1) ([],[])=el:=by rw [List.getD_eq_getElem?_getD,hel];rfl
  apply T.any 9 [is (.pointer (some ⟨b5,0,none⟩)),is (.slice y.a1 y.n1 y.c1),is (.pointer (some ⟨b3,0,none⟩)),is (.slice x.a1 x.n1 x.c1),is (.int .i64 ((((x.n1-1):Nat)):Int)),is (.pointer (some (at' x.a1 ((x.n1-1)*2)))),is (.agg #[.slice eka el.1.length ekc,.slice eva el.2.length evc]),itsF G 1 [el],itsF G (y.n1+1) (dE nb.items 0 [el])]
  ·rfl
  ·repeat' (first|exact bX|refine bU ?_ ?_)
   iterate 5
    ·(refine aQ rfl rfl rfl ?_);( intro wq _ _ hgq;(repeat (refine aG rfl rfl ?_;intro vq hvq;try (obtain rfl:=hvq)));(refine aM ?_))
     repeat (first|(refine aB ?_;refine TL.pure rfl rfl ?_)|refine aK rfl yM rfl ?_|refine aF rfl rfl ?_|refine TL.nil ?_)
     exact aS rfl yG rfl
   ·(refine aQ rfl rfl rfl ?_);( intro wq _ _ hgq;(repeat (refine aG rfl rfl ?_;intro vq hvq;try (obtain rfl:=hvq)));(refine aM ?_))
    repeat (first|(refine bF ?_;refine aW (j:=(x.n1-1)) rfl rfl rfl (by omega) rfl ⟨_,_,hes.grow hgq⟩ rfl ?_)|refine TL.nil ?_)
    exact aS rfl yG rfl
   ·(refine aQ rfl rfl rfl ?_);( intro wq _ _ hgq;(repeat (refine aG rfl rfl ?_;intro vq hvq;try (obtain rfl:=hvq)));(refine aM ?_))
    repeat (first|(refine aU ?_;refine eP (o:=(x.n1-1)*2) rfl (hes.grow hgq) (two_at f0 f1) rfl rfl ?_)|refine TL.nil ?_)
    exact aS rfl yG rfl
   ·(refine aQ rfl rfl rfl ?_);( intro wq _ _ hgq;(repeat (refine aG rfl rfl ?_;intro vq hvq;try (obtain rfl:=hvq)));(refine aM ?_))
    have zq:=hgq.size
    refine TL.buildSlice rfl rfl rfl rfl rfl ?_
    intro b' wa hga hba hsa hsb hsc
    have hit:ItsAt G wa (some ⟨b',0,none⟩) 1 1 [el]:=⟨_,(bR (sz:=2) (m:=1) (show Blk wa b' 58 [.slice eka el.1.length ekc,.slice eva el.2.length evc] from hba) rfl (by decide)).mono (λ k hk=>by subst hk;exact (hG _).2 ⟨hF _ (by omega),by omega,by omega,by omega,by omega⟩),⟨_,_,_,rfl,(heks.grow hgq).grow hga⟩,⟨_,_,_,rfl,(hevs.grow hgq).grow hga⟩,trivial⟩
    repeat (refine TL.nil ?_)
    exact aS rfl yG ⟨_,_,rfl,hit⟩
   ·refine aQ rfl rfl rfl ?_
    intro wq _ _ hgq
    refine aG rfl rfl ?_
    intro v1 q1
    obtain rfl:=q1
    refine aG rfl rfl ?_
    rintro vl ⟨al,cl,rfl,hl1⟩
    refine aM ?_
    refine aL 99 ?_
    refine aI rfl (insI_c (F:=G) (hGF _ (by have:=hgq.size;omega)) y.a1 al y.n1 y.c1 1 cl 0 nb.items [el] (S.hy.its.go (Carry.grow hgq)) hl1 (by omega) (by omega)) rfl ?_
    rintro v' wr ⟨⟨a7,c7,rfl,hi⟩,hgr⟩
    repeat (refine TL.nil ?_)
    exact aS rfl yG ⟨a7,c7,rfl,hi⟩
  ·intro wt lot hit' hgt _ _
   iterate 8 (refine aG rfl rfl ?_;intro vq hvq;try (obtain rfl:=hvq))
   refine aG rfl rfl ?_
   rintro vt ⟨av,cv,rfl,hnew⟩
   refine aM ?_
   clear hvq
   have zt:=hgt.size
   replace S:=S.grow hgt
   clear e3 e5 hgt hes heks hevs hec hek hev hrow
   have e3:Blk _ b3 79 [.slice x.a1 x.n1 x.c1,.slice x.a2 x.n2 x.c2,.slice x.a3 x.n3 x.c3]:=S.e3
   have e5:Blk _ b5 79 [.slice y.a1 y.n1 y.c1,.slice y.a2 y.n2 y.c2,.slice y.a3 y.n3 y.c3]:=S.e5
   repeat (first|refine aF rfl rfl ?_|refine TL.nil ?_|refine aA ?_|refine aJ ?_|refine aC ?_|(refine aP ?_;(refine bP rfl rfl yB (by exact rfl) (by exact rfl) (by exact rfl) ?_;intro w' hu hbk hsz)))
   obtain ⟨av1,rfl⟩:∃ q,q=av:=⟨_,rfl⟩
   obtain ⟨cv1,rfl⟩:∃ q,q=cv:=⟨_,rfl⟩
   have S':=S.setB (Z:=⟨av1,(y.n1+1),cv1,y.a2,y.n2,y.c2,y.a3,y.n3,y.c3⟩) (NC:=⟨dE nb.items 0 [el],nb.kids,nb.keys⟩) hu hbk ⟨hnew,S.hy.kids,S.hy.kys⟩
   have zu:=hu.size
   have ln1:=eZ (l:=nb.items) (x:=[el]) (i:=0) (by omega)
   try simp only [List.length_cons,List.length_nil] at ln1
   obtain ⟨nb1,he1,S2⟩:∃ (N:Nd),N=⟨dE nb.items 0 [el],nb.kids,nb.keys⟩∧Two G w b3 b5 b6 b8 w' ⟨x.a1,x.n1,x.c1,x.a2,x.n2,x.c2,x.a3,x.n3,x.c3⟩ ⟨av1,(y.n1+1),cv1,y.a2,y.n2,y.c2,y.a3,y.n3,y.c3⟩ na N ka kn kc key:=⟨_,rfl,S'⟩
   obtain ⟨m11,m12,m13⟩:=S2.hy.nums
   rw [he1] at m11 m12 m13
   simp only at m11 m12 m13
   obtain ⟨t11,t12,t13⟩:nb1.items.length=(dE nb.items 0 [el]).length∧nb1.kids.length=(nb.kids).length∧nb1.keys.length=(nb.keys).length:=by rw [he1];exact ⟨rfl,rfl,rfl⟩
   have hwZ1:Z0≤w'.heap.size:=by omega
   clear hu hbk hnew S S' hsz e3 e5
   obtain ⟨w10,rfl⟩:∃ z,z=w':=⟨w',rfl⟩
   have S:=S2
   clear S2
   have e3:Blk _ b3 79 [.slice x.a1 x.n1 x.c1,.slice x.a2 x.n2 x.c2,.slice x.a3 x.n3 x.c3]:=S.e3
   have e5:Blk _ b5 79 [.slice av1 (y.n1+1) cv1,.slice y.a2 y.n2 y.c2,.slice y.a3 y.n3 y.c3]:=S.e5
   repeat (first|(refine aB ?_;refine TL.pure rfl rfl ?_)|refine aK rfl yM rfl ?_|(refine bJ ?_;refine bT rfl rfl (by omega) rfl ?_))
   refine aL 81 ?_
   refine aI rfl (cutI_c (F:=G) (hGF _ (by omega)) x.a1 x.n1 x.c1 (x.n1-1) (x.n1-1+1) na.items S.hx.its (by omega) (by omega) (by omega)) rfl ?_
   rintro _ wr ⟨⟨av,cv,rfl,hnew⟩,hgr⟩
   replace S:=S.grow hgr
   have zr:=hgr.size
   clear e3 e5 hgr
   have e3:Blk _ b3 79 [.slice x.a1 x.n1 x.c1,.slice x.a2 x.n2 x.c2,.slice x.a3 x.n3 x.c3]:=S.e3
   have e5:Blk _ b5 79 [.slice av1 (y.n1+1) cv1,.slice y.a2 y.n2 y.c2,.slice y.a3 y.n3 y.c3]:=S.e5
   repeat (first|refine aF rfl rfl ?_|refine TL.nil ?_|refine aA ?_|refine aJ ?_|(refine aP ?_;(refine bP rfl rfl yB (by exact rfl) (by exact rfl) (by exact rfl) ?_;intro w' hu hbk hsz)))
   obtain ⟨av2,rfl⟩:∃ q,q=av:=⟨_,rfl⟩
   obtain ⟨cv2,rfl⟩:∃ q,q=cv:=⟨_,rfl⟩
   have S':=S.setA (Z:=⟨av2,(x.n1-((x.n1-1+1)-(x.n1-1))),cv2,x.a2,x.n2,x.c2,x.a3,x.n3,x.c3⟩) (NC:=⟨cL na.items (x.n1-1) (x.n1-1+1),na.kids,na.keys⟩) hu hbk ⟨hnew,S.hx.kids,S.hx.kys⟩
   have zu:=hu.size
   have ln2:=eD (l:=na.items) (i:=(x.n1-1)) (j:=(x.n1-1+1)) (by omega) (by omega)
   try simp only [List.length_cons,List.length_nil] at ln2
   obtain ⟨na2,he2,S2⟩:∃ (N:Nd),N=⟨cL na.items (x.n1-1) (x.n1-1+1),na.kids,na.keys⟩∧Two G w b3 b5 b6 b8 w' ⟨av2,(x.n1-((x.n1-1+1)-(x.n1-1))),cv2,x.a2,x.n2,x.c2,x.a3,x.n3,x.c3⟩ ⟨av1,(y.n1+1),cv1,y.a2,y.n2,y.c2,y.a3,y.n3,y.c3⟩ N nb1 ka kn kc key:=⟨_,rfl,S'⟩
   obtain ⟨m21,m22,m23⟩:=S2.hx.nums
   rw [he2] at m21 m22 m23
   simp only at m21 m22 m23
   obtain ⟨t21,t22,t23⟩:na2.items.length=(cL na.items (x.n1-1) (x.n1-1+1)).length∧na2.kids.length=(na.kids).length∧na2.keys.length=(na.keys).length:=by rw [he2];exact ⟨rfl,rfl,rfl⟩
   have hwZ2:Z0≤w'.heap.size:=by omega
   clear hu hbk hnew S S' hsz e3 e5
   obtain ⟨w20,rfl⟩:∃ z,z=w':=⟨w',rfl⟩
   have S:=S2
   clear S2
   have e3:Blk _ b3 79 [.slice av2 (x.n1-((x.n1-1+1)-(x.n1-1))) cv2,.slice x.a2 x.n2 x.c2,.slice x.a3 x.n3 x.c3]:=S.e3
   have e5:Blk _ b5 79 [.slice av1 (y.n1+1) cv1,.slice y.a2 y.n2 y.c2,.slice y.a3 y.n3 y.c3]:=S.e5
   obtain ⟨q0,hq0⟩:∃ q,nb1.items[0]? = some q:=⟨_,List.getElem?_eq_getElem (by rw [he1];simp only;omega)⟩
   obtain ⟨qcs,hqs,hqc⟩:=S.hy.its.ex
   obtain ⟨kv,vv,f0',f1',hkb,_⟩:=hqc.at' hq0
   have hone:=hkb.one
   have hgS:=S.hg
   have o3:=S.out
   have o4:=S.ne
   have o5:=S.le
   refine cT (e':=[(3,_),(5,_),(6,_),(8,_)]) ?_ ⟨rfl,rfl,rfl,rfl,trivial⟩
   apply T.detA 9 7 [(.agg #[.slice av2 (x.n1-((x.n1-1+1)-(x.n1-1))) cv2,.slice x.a2 x.n2 x.c2,.slice x.a3 x.n3 x.c3]),(.pointer (some ⟨b5,0,none⟩)),(.slice av1 (y.n1+1) cv1),(.pointer (some (at' av1 0))),(.pointer (some (at' av1 0))),kv,(.agg #[.slice av1 (y.n1+1) cv1,.slice y.a2 y.n2 y.c2,.slice y.a3 y.n3 y.c3]),undef,kv]
    (λ b w1=>Blk w1 b3 79 [.slice av2 (x.n1-((x.n1-1+1)-(x.n1-1))) cv2,.slice x.a2 x.n2 x.c2,.slice x.a3 x.n3 x.c3]∧Blk w1 b5 79 [.slice av1 (y.n1+1) cv1,.slice y.a2 y.n2 y.c2,.slice y.a3 y.n3 y.c3]∧Blk w1 b6 79 (if b then [.slice av2 (x.n1-((x.n1-1+1)-(x.n1-1))) cv2,.slice x.a2 x.n2 x.c2,.slice x.a3 x.n3 x.c3] else nil3)∧Blk w1 b8 79 nil3∧Carry G w20 G w1∧Grow w w1)
   ·rfl
   ·exact λ w1 h1=>⟨S.e3.grow h1,S.e5.grow h1,S.e6.grow h1,S.e8.grow h1,Carry.grow h1,S.hg.trans h1⟩
   ·clear e3 e5
    repeat' (first|exact iF|refine gQ ?_ ?_)
    ·refine cI rfl rfl rfl ?_
     rintro b wq _ ⟨i3,i5,i6,i8,ic,ig⟩
     have qe:=ig.size
     repeat (first|(refine aU ?_;refine bE rfl yB (by exact rfl) rfl ?_)|refine TL.nil ?_)
     refine bB rfl ?_
     rw [show (b || Nat.beq 0 7)=b from Bool.or_false b]
     exact ⟨i3,i5,i6,i8,ic,ig⟩
    ·refine cI rfl rfl rfl ?_
     rintro b wq _ ⟨i3,i5,i6,i8,ic,ig⟩
     have qe:=ig.size
     repeat (first|refine aF rfl rfl ?_|refine TL.nil ?_)
     refine bB rfl ?_
     rw [show (b || Nat.beq 1 7)=b from Bool.or_false b]
     exact ⟨i3,i5,i6,i8,ic,ig⟩
    ·refine cI rfl rfl rfl ?_
     rintro b wq _ ⟨i3,i5,i6,i8,ic,ig⟩
     have qe:=ig.size
     repeat (first|refine aK rfl yM rfl ?_|refine TL.nil ?_)
     refine bB rfl ?_
     rw [show (b || Nat.beq 2 7)=b from Bool.or_false b]
     exact ⟨i3,i5,i6,i8,ic,ig⟩
    ·refine cI rfl rfl rfl ?_
     rintro b wq _ ⟨i3,i5,i6,i8,ic,ig⟩
     have qe:=ig.size
     repeat (first|(refine bF ?_;refine aW (j:=0) rfl rfl rfl (by omega) rfl ⟨G,_,hqs.go ic⟩ rfl ?_)|refine TL.nil ?_)
     refine bB rfl ?_
     rw [show (b || Nat.beq 3 7)=b from Bool.or_false b]
     exact ⟨i3,i5,i6,i8,ic,ig⟩
    ·refine cI rfl rfl rfl ?_
     rintro b wq _ ⟨i3,i5,i6,i8,ic,ig⟩
     have qe:=ig.size
     repeat (first|(refine gR ?_;refine gS (o:=0) rfl (hqs.go ic) f0' rfl ?_)|refine TL.nil ?_)
     refine bB rfl ?_
     rw [show (b || Nat.beq 4 7)=b from Bool.or_false b]
     exact ⟨i3,i5,i6,i8,ic,ig⟩
    ·refine cI rfl rfl rfl ?_
     rintro b wq _ ⟨i3,i5,i6,i8,ic,ig⟩
     have qe:=ig.size
     have hcx:wq.cell? (at' av1 0)=some kv:=(hqs.go ic).row.cell f0'
     repeat (first|refine aK rfl yM rfl ?_|refine TL.nil ?_)
     refine bB rfl ?_
     rw [show (b || Nat.beq 5 7)=b from Bool.or_false b]
     exact ⟨i3,i5,i6,i8,ic,ig⟩
    ·refine cI rfl rfl rfl ?_
     rintro b wq _ ⟨i3,i5,i6,i8,ic,ig⟩
     have qe:=ig.size
     repeat (first|(refine aU ?_;refine bE rfl yB (by exact rfl) rfl ?_)|refine TL.nil ?_)
     refine bB rfl ?_
     rw [show (b || Nat.beq 6 7)=b from Bool.or_false b]
     exact ⟨i3,i5,i6,i8,ic,ig⟩
    ·refine cI rfl rfl rfl ?_
     rintro b wq hb ⟨i3,i5,i6,i8,ic,ig⟩
     obtain rfl:=hb rfl
     have qe:=ig.size
     have i6':Blk wq b6 79 nil3:=i6
     repeat (first|refine TL.nil ?_|(refine aP ?_;(refine aY rfl rfl yB (by exact rfl) (by exact rfl) (by exact rfl) ?_;intro w' hu hbk hsz)))
     refine iD ⟨i3.upd hu (by omega),i5.upd hu (by omega),hbk,i8.upd hu (by omega),ic.trans (Carry.upd hu (λ k hk _=>(o3 k hk).2.2.1)),aZ hu (by omega) ig⟩
    ·refine cI rfl rfl rfl ?_
     rintro b wq _ ⟨i3,i5,i6,i8,ic,ig⟩
     have qe:=ig.size
     repeat (first|(refine aD ?_;refine TL.pure rfl rfl ?_)|refine TL.nil ?_)
     refine bB rfl ?_
     rw [show (b || Nat.beq 8 7)=b from Bool.or_false b]
     exact ⟨i3,i5,i6,i8,ic,ig⟩
   ·rintro w9 ⟨i3,i5,i6,i8,ic,ig⟩
    have i6':Blk w9 b6 79 [.slice av2 (x.n1-((x.n1-1+1)-(x.n1-1))) cv2,.slice x.a2 x.n2 x.c2,.slice x.a3 x.n3 x.c3]:=i6
    clear i6
    repeat (first|refine TL.nil ?_|refine aA ?_|(refine aP ?_;(refine aY rfl rfl yB (by exact rfl) (by exact rfl) (by exact rfl) ?_;intro w' hu hbk hsz))|refine bC ?_|refine bI ?_)
    have cf:Carry G w9 F w':=(Carry.upd hu (λ k hk _=>(o3 k hk).2.2.2)).trans (hGout _)
    refine retCTC rfl (bY (i6'.upd hu (by omega)) rfl) rfl rfl (bY hbk rfl) ⟨_,rfl,⟨⟨av2,(x.n1-((x.n1-1+1)-(x.n1-1))),cv2,x.a2,x.n2,x.c2,x.a3,x.n3,x.c3⟩,⟨av1,(y.n1+1),cv1,y.a2,y.n2,y.c2,y.a3,y.n3,y.c3⟩,kv,rfl,?_,?_,?_⟩,aZ hu (by omega) ig⟩
    ·have:=(S.hx.go ic).go cf
     subst he2 he1
     try rw [← nx1]
     try rw [← nx2]
     try rw [← nx3]
     try rw [eel]
     exact this
    ·have:=(S.hy.go ic).go cf
     subst he2 he1
     try rw [← nx1]
     try rw [← nx2]
     try rw [← nx3]
     try rw [eel]
     exact this
    ·have:=(hkb.go ic).go cf
     have e0:q0=nb1.items.getD 0 ([],[]):=by rw [List.getD_eq_getElem?_getD,hq0];rfl
     rw [e0] at this
     subst he2 he1
     try rw [← nx1]
     try rw [eel]
     exact this
 | false =>
  obtain ⟨hb2,hb1⟩:=hb hlf
  rw [show fW na key nb=(⟨na.items,cL na.kids (na.kids.length-1) (na.kids.length-1+1),cL na.keys (na.kids.length-1-1) (na.kids.length-1)⟩,na.keys.getD (na.kids.length-1-1) [],⟨nb.items,dE nb.kids 0 [na.kids.getD (na.kids.length-1) 0],dE nb.keys 0 [key]⟩) by simp only [fW,hlf,Bool.false_eq_true,if_false]]
  repeat (first|(refine aD ?_;refine TL.pure rfl rfl ?_)|refine aK rfl yM rfl ?_|refine aF rfl rfl ?_|(refine cJ ?_;refine dI rfl rfl (by omega) (by omega) rfl ?_)|refine TL.nil ?_|refine aA ?_|refine aJ ?_|refine aC ?_|refine aO rfl rfl ?_|refine aE rfl ?_|refine aV ?_|(refine aL 80 ?_;refine aI rfl (eX S.hx hlf _) rfl ?_;rintro _ _ ⟨rfl,hgc⟩))
  rename_i wA
  replace S:=S.grow hgc
  have zA:=hgc.size
  clear e3 e5 hgc
  have e3:=S.e3
  have e5:=S.e5
  have hrow:=S.hx.kids
  obtain ⟨el,hel⟩:∃ q,na.kids[(x.n2-1)]? = some q:=⟨_,List.getElem?_eq_getElem (by omega)⟩
  have hes:=hrow
  have f0:(cB na.kids)[(x.n2-1)]? = some (.int .i64 (el:Int)):=by rw [show cB na.kids=na.kids.map λ (k:Nat)=>(.int .i64 (k:Int):Value) from rfl,List.getElem?_map,hel];rfl
  have eel:na.kids.getD (x.n2-1) 0=el:=by rw [List.getD_eq_getElem?_getD,hel];rfl
  apply T.any 9 [is (.pointer (some ⟨b5,1,none⟩)),is (.slice y.a2 y.n2 y.c2),is (.pointer (some ⟨b3,1,none⟩)),is (.slice x.a2 x.n2 x.c2),is (.int .i64 ((((x.n2-1):Nat)):Int)),is (.pointer (some (at' x.a2 ((x.n2-1)*1)))),is (.int .i64 (el:Int)),kidF G 1 [el],kidF G (y.n2+1) (dE nb.kids 0 [el])]
  ·rfl
  ·repeat' (first|exact bX|refine bU ?_ ?_)
   iterate 5
    ·(refine aQ rfl rfl rfl ?_);( intro wq _ _ hgq;(repeat (refine aG rfl rfl ?_;intro vq hvq;try (obtain rfl:=hvq)));(refine aM ?_))
     repeat (first|(refine aB ?_;refine TL.pure rfl rfl ?_)|refine aK rfl yM rfl ?_|refine aF rfl rfl ?_|refine TL.nil ?_)
     exact aS rfl yG rfl
   ·(refine aQ rfl rfl rfl ?_);( intro wq _ _ hgq;(repeat (refine aG rfl rfl ?_;intro vq hvq;try (obtain rfl:=hvq)));(refine aM ?_))
    repeat (first|(refine bF ?_;refine aW (j:=(x.n2-1)) rfl rfl rfl (by omega) rfl ⟨_,_,hes.grow hgq⟩ rfl ?_)|refine TL.nil ?_)
    exact aS rfl yG rfl
   ·(refine aQ rfl rfl rfl ?_);( intro wq _ _ hgq;(repeat (refine aG rfl rfl ?_;intro vq hvq;try (obtain rfl:=hvq)));(refine aM ?_))
    have hcx:wq.cell? (at' x.a2 ((x.n2-1)*1))=some (.int .i64 (el:Int)):=(hes.grow hgq).row.cell (by rw [Nat.mul_one];exact f0)
    repeat (first|refine aK rfl yM rfl ?_|refine TL.nil ?_)
    exact aS rfl yG rfl
   ·(refine aQ rfl rfl rfl ?_);( intro wq _ _ hgq;(repeat (refine aG rfl rfl ?_;intro vq hvq;try (obtain rfl:=hvq)));(refine aM ?_))
    have zq:=hgq.size
    refine TL.buildSlice rfl rfl rfl rfl rfl ?_
    intro b' wa hga hba hsa hsb hsc
    have hit:Sl G wa 1 (some ⟨b',0,none⟩) 1 1 (cB [el]):=(bR (sz:=1) (m:=1) (show Blk wa b' 3 [.int .i64 (el:Int)] from hba) rfl (by decide)).mono (λ k hk=>by subst hk;exact (hG _).2 ⟨hF _ (by omega),by omega,by omega,by omega,by omega⟩)
    repeat (refine TL.nil ?_)
    exact aS rfl yG ⟨_,_,rfl,hit⟩
   ·refine aQ rfl rfl rfl ?_
    intro wq _ _ hgq
    refine aG rfl rfl ?_
    intro v1 q1
    obtain rfl:=q1
    refine aG rfl rfl ?_
    rintro vl ⟨al,cl,rfl,hl1⟩
    refine aM ?_
    refine aL 96 ?_
    refine aI rfl (insN_c (F:=G) (hGF _ (by have:=hgq.size;omega)) y.a2 al y.n2 y.c2 1 cl 0 nb.kids [el] (S.hy.kids.grow hgq) hl1 (by omega) (by omega)) rfl ?_
    rintro v' wr ⟨⟨a7,c7,rfl,hi⟩,hgr⟩
    repeat (refine TL.nil ?_)
    exact aS rfl yG ⟨a7,c7,rfl,hi⟩
  ·intro wt lot hit' hgt _ _
   iterate 8 (refine aG rfl rfl ?_;intro vq hvq;try (obtain rfl:=hvq))
   refine aG rfl rfl ?_
   rintro vt ⟨av,cv,rfl,hnew⟩
   refine aM ?_
   clear hvq
   have zt:=hgt.size
   replace S:=S.grow hgt
   clear e3 e5 hgt hes hrow
   have e3:Blk _ b3 79 [.slice x.a1 x.n1 x.c1,.slice x.a2 x.n2 x.c2,.slice x.a3 x.n3 x.c3]:=S.e3
   have e5:Blk _ b5 79 [.slice y.a1 y.n1 y.c1,.slice y.a2 y.n2 y.c2,.slice y.a3 y.n3 y.c3]:=S.e5
   repeat (first|(refine aB ?_;refine TL.pure rfl rfl ?_)|refine aK rfl yM rfl ?_|refine aF rfl rfl ?_|refine TL.nil ?_|refine aA ?_|refine aJ ?_|refine aC ?_|(refine aP ?_;(refine bP rfl rfl yB (by exact rfl) (by exact rfl) (by exact rfl) ?_;intro w' hu hbk hsz)))
   obtain ⟨av1,rfl⟩:∃ q,q=av:=⟨_,rfl⟩
   obtain ⟨cv1,rfl⟩:∃ q,q=cv:=⟨_,rfl⟩
   have S':=S.setB (Z:=⟨y.a1,y.n1,y.c1,av1,(y.n2+1),cv1,y.a3,y.n3,y.c3⟩) (NC:=⟨nb.items,dE nb.kids 0 [el],nb.keys⟩) hu hbk ⟨S.hy.its,hnew,S.hy.kys⟩
   have zu:=hu.size
   have ln1:=eZ (l:=nb.kids) (x:=[el]) (i:=0) (by omega)
   try simp only [List.length_cons,List.length_nil] at ln1
   obtain ⟨nb1,he1,S2⟩:∃ (N:Nd),N=⟨nb.items,dE nb.kids 0 [el],nb.keys⟩∧Two G w b3 b5 b6 b8 w' ⟨x.a1,x.n1,x.c1,x.a2,x.n2,x.c2,x.a3,x.n3,x.c3⟩ ⟨y.a1,y.n1,y.c1,av1,(y.n2+1),cv1,y.a3,y.n3,y.c3⟩ na N ka kn kc key:=⟨_,rfl,S'⟩
   obtain ⟨m11,m12,m13⟩:=S2.hy.nums
   rw [he1] at m11 m12 m13
   simp only at m11 m12 m13
   obtain ⟨t11,t12,t13⟩:nb1.items.length=(nb.items).length∧nb1.kids.length=(dE nb.kids 0 [el]).length∧nb1.keys.length=(nb.keys).length:=by rw [he1];exact ⟨rfl,rfl,rfl⟩
   have hwZ1:Z0≤w'.heap.size:=by omega
   clear hu hbk hnew S S' hsz e3 e5
   obtain ⟨w10,rfl⟩:∃ z,z=w':=⟨w',rfl⟩
   have S:=S2
   clear S2
   have e3:Blk _ b3 79 [.slice x.a1 x.n1 x.c1,.slice x.a2 x.n2 x.c2,.slice x.a3 x.n3 x.c3]:=S.e3
   have e5:Blk _ b5 79 [.slice y.a1 y.n1 y.c1,.slice av1 (y.n2+1) cv1,.slice y.a3 y.n3 y.c3]:=S.e5
   repeat (refine aJ ?_)
   refine TL.buildSlice rfl rfl rfl rfl rfl ?_
   intro b' wa hga hba hsa hsb hsc
   have hba':Blk wa b' 30 [.slice ka kn kc]:=hba
   have hkl:=iE S.hk
   replace S:=S.grow hga
   have za:=hga.size
   have hit:KysAt G wa (some ⟨b',0,none⟩) 1 1 [key]:=⟨_,(bR (sz:=1) (m:=1) hba' rfl (by decide)).mono (λ k hk=>by subst hk;exact (hG _).2 ⟨hF _ (by omega),by omega,by omega,by omega,by omega⟩),⟨_,_,_,rfl,S.hk⟩,trivial⟩
   clear hba hba' hga hsa hsb hsc e3 e5
   have e3:Blk _ b3 79 [.slice x.a1 x.n1 x.c1,.slice x.a2 x.n2 x.c2,.slice x.a3 x.n3 x.c3]:=S.e3
   have e5:Blk _ b5 79 [.slice y.a1 y.n1 y.c1,.slice av1 (y.n2+1) cv1,.slice y.a3 y.n3 y.c3]:=S.e5
   repeat (refine aJ ?_)
   refine aL 98 ?_
   refine aI rfl (insK_c (F:=G) (hGF _ (by omega)) y.a3 (some ⟨b',0,none⟩) y.n3 y.c3 1 1 0 nb1.keys [key] S.hy.kys hit (by omega) (by omega)) rfl ?_
   rintro _ wr ⟨⟨av,cv,rfl,hnew⟩,hgr⟩
   replace S:=S.grow hgr
   have zr:=hgr.size
   clear e3 e5 hgr
   have e3:Blk _ b3 79 [.slice x.a1 x.n1 x.c1,.slice x.a2 x.n2 x.c2,.slice x.a3 x.n3 x.c3]:=S.e3
   have e5:Blk _ b5 79 [.slice y.a1 y.n1 y.c1,.slice av1 (y.n2+1) cv1,.slice y.a3 y.n3 y.c3]:=S.e5
   repeat (first|refine aF rfl rfl ?_|refine TL.nil ?_|refine aA ?_|refine aJ ?_|refine aC ?_|(refine aP ?_;(refine bP rfl rfl yB (by exact rfl) (by exact rfl) (by exact rfl) ?_;intro w' hu hbk hsz)))
   obtain ⟨av2,rfl⟩:∃ q,q=av:=⟨_,rfl⟩
   obtain ⟨cv2,rfl⟩:∃ q,q=cv:=⟨_,rfl⟩
   have S':=S.setB (Z:=⟨y.a1,y.n1,y.c1,av1,(y.n2+1),cv1,av2,(y.n3+1),cv2⟩) (NC:=⟨nb1.items,nb1.kids,dE nb1.keys 0 [key]⟩) hu hbk ⟨S.hy.its,S.hy.kids,hnew⟩
   have zu:=hu.size
   have ln2:=eZ (l:=nb1.keys) (x:=[key]) (i:=0) (by omega)
   try simp only [List.length_cons,List.length_nil] at ln2
   obtain ⟨nb2,he2,S2⟩:∃ (N:Nd),N=⟨nb1.items,nb1.kids,dE nb1.keys 0 [key]⟩∧Two G w b3 b5 b6 b8 w' ⟨x.a1,x.n1,x.c1,x.a2,x.n2,x.c2,x.a3,x.n3,x.c3⟩ ⟨y.a1,y.n1,y.c1,av1,(y.n2+1),cv1,av2,(y.n3+1),cv2⟩ na N ka kn kc key:=⟨_,rfl,S'⟩
   obtain ⟨m21,m22,m23⟩:=S2.hy.nums
   rw [he2] at m21 m22 m23
   simp only at m21 m22 m23
   obtain ⟨t21,t22,t23⟩:nb2.items.length=(nb1.items).length∧nb2.kids.length=(nb1.kids).length∧nb2.keys.length=(dE nb1.keys 0 [key]).length:=by rw [he2];exact ⟨rfl,rfl,rfl⟩
   have hwZ2:Z0≤w'.heap.size:=by omega
   clear hu hbk hnew S S' hsz e3 e5
   obtain ⟨w20,rfl⟩:∃ z,z=w':=⟨w',rfl⟩
   have S:=S2
   clear S2
   have e3:Blk _ b3 79 [.slice x.a1 x.n1 x.c1,.slice x.a2 x.n2 x.c2,.slice x.a3 x.n3 x.c3]:=S.e3
   have e5:Blk _ b5 79 [.slice y.a1 y.n1 y.c1,.slice av1 (y.n2+1) cv1,.slice av2 (y.n3+1) cv2]:=S.e5
   obtain ⟨kel,hkel⟩:∃ q,na.keys[(x.n2-1-1)]? = some q:=⟨_,List.getElem?_eq_getElem (by omega)⟩
   obtain ⟨kcs,hks0,hkc⟩:=hx.kys.ex
   obtain ⟨kv,kf0,hkf⟩:=hkc.at' hkel
   have hone:=hkf.one
   have hks:=hks0.grow S.hg
   have ekl:na.keys.getD (x.n2-1-1) []=kel:=by rw [List.getD_eq_getElem?_getD,hkel];rfl
   have hcx:w20.cell? (at' x.a3 ((x.n2-1-1)*1))=some kv:=hks.row.cell (by rw [Nat.mul_one];exact kf0)
   repeat (first|(refine bF ?_;refine aW (j:=(x.n2-1-1)) rfl rfl rfl (by omega) rfl ⟨_,_,hks⟩ rfl ?_)|(refine aB ?_;refine TL.pure rfl rfl ?_)|(refine aD ?_;refine TL.pure rfl rfl ?_)|refine aK rfl yM rfl ?_|refine aF rfl rfl ?_|(refine bJ ?_;refine bT rfl rfl (by omega) rfl ?_)|(refine cJ ?_;refine dI rfl rfl (by omega) (by omega) rfl ?_)|refine TL.nil ?_|refine aA ?_|refine aJ ?_|refine aC ?_)
   clear hcx hks hks0 hkc
   repeat (refine aJ ?_)
   refine aL 97 ?_
   refine aI rfl (cutN_c (F:=G) (hGF _ (by omega)) x.a2 x.n2 x.c2 (x.n2-1) (x.n2-1+1) na.kids S.hx.kids (by omega) (by omega) (by omega)) rfl ?_
   rintro _ wr ⟨⟨av,cv,rfl,hnew⟩,hgr⟩
   replace S:=S.grow hgr
   have zr:=hgr.size
   clear e3 e5 hgr
   have e3:Blk _ b3 79 [.slice x.a1 x.n1 x.c1,.slice x.a2 x.n2 x.c2,.slice x.a3 x.n3 x.c3]:=S.e3
   have e5:Blk _ b5 79 [.slice y.a1 y.n1 y.c1,.slice av1 (y.n2+1) cv1,.slice av2 (y.n3+1) cv2]:=S.e5
   repeat (first|(refine aB ?_;refine TL.pure rfl rfl ?_)|refine aK rfl yM rfl ?_|refine aF rfl rfl ?_|(refine cJ ?_;refine dI rfl rfl (by omega) (by omega) rfl ?_)|refine TL.nil ?_|refine aA ?_|refine aJ ?_|refine aC ?_|(refine aP ?_;(refine bP rfl rfl yB (by exact rfl) (by exact rfl) (by exact rfl) ?_;intro w' hu hbk hsz)))
   obtain ⟨av3,rfl⟩:∃ q,q=av:=⟨_,rfl⟩
   obtain ⟨cv3,rfl⟩:∃ q,q=cv:=⟨_,rfl⟩
   have S':=S.setA (Z:=⟨x.a1,x.n1,x.c1,av3,(x.n2-((x.n2-1+1)-(x.n2-1))),cv3,x.a3,x.n3,x.c3⟩) (NC:=⟨na.items,cL na.kids (x.n2-1) (x.n2-1+1),na.keys⟩) hu hbk ⟨S.hx.its,hnew,S.hx.kys⟩
   have zu:=hu.size
   have ln3:=eD (l:=na.kids) (i:=(x.n2-1)) (j:=(x.n2-1+1)) (by omega) (by omega)
   try simp only [List.length_cons,List.length_nil] at ln3
   obtain ⟨na3,he3,S2⟩:∃ (N:Nd),N=⟨na.items,cL na.kids (x.n2-1) (x.n2-1+1),na.keys⟩∧Two G w b3 b5 b6 b8 w' ⟨x.a1,x.n1,x.c1,av3,(x.n2-((x.n2-1+1)-(x.n2-1))),cv3,x.a3,x.n3,x.c3⟩ ⟨y.a1,y.n1,y.c1,av1,(y.n2+1),cv1,av2,(y.n3+1),cv2⟩ N nb2 ka kn kc key:=⟨_,rfl,S'⟩
   obtain ⟨m31,m32,m33⟩:=S2.hx.nums
   rw [he3] at m31 m32 m33
   simp only at m31 m32 m33
   obtain ⟨t31,t32,t33⟩:na3.items.length=(na.items).length∧na3.kids.length=(cL na.kids (x.n2-1) (x.n2-1+1)).length∧na3.keys.length=(na.keys).length:=by rw [he3];exact ⟨rfl,rfl,rfl⟩
   have hwZ3:Z0≤w'.heap.size:=by omega
   clear hu hbk hnew S S' hsz e3 e5
   obtain ⟨w30,rfl⟩:∃ z,z=w':=⟨w',rfl⟩
   have S:=S2
   clear S2
   have e3:Blk _ b3 79 [.slice x.a1 x.n1 x.c1,.slice av3 (x.n2-((x.n2-1+1)-(x.n2-1))) cv3,.slice x.a3 x.n3 x.c3]:=S.e3
   have e5:Blk _ b5 79 [.slice y.a1 y.n1 y.c1,.slice av1 (y.n2+1) cv1,.slice av2 (y.n3+1) cv2]:=S.e5
   repeat (refine aJ ?_)
   refine aL 194 ?_
   refine aI rfl (cutK_c (F:=G) (hGF _ (by omega)) x.a3 x.n3 x.c3 (x.n2-1-1) (x.n2-1) na3.keys S.hx.kys (by omega) (by omega) (by omega)) rfl ?_
   rintro _ wr ⟨⟨av,cv,rfl,hnew⟩,hgr⟩
   replace S:=S.grow hgr
   have zr:=hgr.size
   clear e3 e5 hgr
   have e3:Blk _ b3 79 [.slice x.a1 x.n1 x.c1,.slice av3 (x.n2-((x.n2-1+1)-(x.n2-1))) cv3,.slice x.a3 x.n3 x.c3]:=S.e3
   have e5:Blk _ b5 79 [.slice y.a1 y.n1 y.c1,.slice av1 (y.n2+1) cv1,.slice av2 (y.n3+1) cv2]:=S.e5
   repeat (first|refine aF rfl rfl ?_|refine TL.nil ?_|refine aA ?_|refine aJ ?_|(refine aP ?_;(refine bP rfl rfl yB (by exact rfl) (by exact rfl) (by exact rfl) ?_;intro w' hu hbk hsz)))
   obtain ⟨av4,rfl⟩:∃ q,q=av:=⟨_,rfl⟩
   obtain ⟨cv4,rfl⟩:∃ q,q=cv:=⟨_,rfl⟩
   have S':=S.setA (Z:=⟨x.a1,x.n1,x.c1,av3,(x.n2-((x.n2-1+1)-(x.n2-1))),cv3,av4,(x.n3-((x.n2-1)-(x.n2-1-1))),cv4⟩) (NC:=⟨na3.items,na3.kids,cL na3.keys (x.n2-1-1) (x.n2-1)⟩) hu hbk ⟨S.hx.its,S.hx.kids,hnew⟩
   have zu:=hu.size
   have ln4:=eD (l:=na3.keys) (i:=(x.n2-1-1)) (j:=(x.n2-1)) (by omega) (by omega)
   try simp only [List.length_cons,List.length_nil] at ln4
   obtain ⟨na4,he4,S2⟩:∃ (N:Nd),N=⟨na3.items,na3.kids,cL na3.keys (x.n2-1-1) (x.n2-1)⟩∧Two G w b3 b5 b6 b8 w' ⟨x.a1,x.n1,x.c1,av3,(x.n2-((x.n2-1+1)-(x.n2-1))),cv3,av4,(x.n3-((x.n2-1)-(x.n2-1-1))),cv4⟩ ⟨y.a1,y.n1,y.c1,av1,(y.n2+1),cv1,av2,(y.n3+1),cv2⟩ N nb2 ka kn kc key:=⟨_,rfl,S'⟩
   obtain ⟨m41,m42,m43⟩:=S2.hx.nums
   rw [he4] at m41 m42 m43
   simp only at m41 m42 m43
   obtain ⟨t41,t42,t43⟩:na4.items.length=(na3.items).length∧na4.kids.length=(na3.kids).length∧na4.keys.length=(cL na3.keys (x.n2-1-1) (x.n2-1)).length:=by rw [he4];exact ⟨rfl,rfl,rfl⟩
   have hwZ4:Z0≤w'.heap.size:=by omega
   clear hu hbk hnew S S' hsz e3 e5
   obtain ⟨w40,rfl⟩:∃ z,z=w':=⟨w',rfl⟩
   have S:=S2
   clear S2
   have e3:Blk _ b3 79 [.slice x.a1 x.n1 x.c1,.slice av3 (x.n2-((x.n2-1+1)-(x.n2-1))) cv3,.slice av4 (x.n3-((x.n2-1)-(x.n2-1-1))) cv4]:=S.e3
   have e5:Blk _ b5 79 [.slice y.a1 y.n1 y.c1,.slice av1 (y.n2+1) cv1,.slice av2 (y.n3+1) cv2]:=S.e5
   have hgS:=S.hg
   have o3:=S.out
   have o4:=S.ne
   have o5:=S.le
   refine cT (e':=[(3,_),(5,_),(6,_),(8,_),(1,kv)]) ?_ ⟨rfl,rfl,rfl,rfl,rfl,trivial⟩
   apply T.detA 5 3 [(.agg #[.slice x.a1 x.n1 x.c1,.slice av3 (x.n2-((x.n2-1+1)-(x.n2-1))) cv3,.slice av4 (x.n3-((x.n2-1)-(x.n2-1-1))) cv4]),kv,(.agg #[.slice y.a1 y.n1 y.c1,.slice av1 (y.n2+1) cv1,.slice av2 (y.n3+1) cv2]),undef,kv]
    (λ b w1=>Blk w1 b3 79 [.slice x.a1 x.n1 x.c1,.slice av3 (x.n2-((x.n2-1+1)-(x.n2-1))) cv3,.slice av4 (x.n3-((x.n2-1)-(x.n2-1-1))) cv4]∧Blk w1 b5 79 [.slice y.a1 y.n1 y.c1,.slice av1 (y.n2+1) cv1,.slice av2 (y.n3+1) cv2]∧Blk w1 b6 79 (if b then [.slice x.a1 x.n1 x.c1,.slice av3 (x.n2-((x.n2-1+1)-(x.n2-1))) cv3,.slice av4 (x.n3-((x.n2-1)-(x.n2-1-1))) cv4] else nil3)∧Blk w1 b8 79 nil3∧Carry G w40 G w1∧Grow w w1)
   ·rfl
   ·exact λ w1 h1=>⟨S.e3.grow h1,S.e5.grow h1,S.e6.grow h1,S.e8.grow h1,Carry.grow h1,S.hg.trans h1⟩
   ·clear e3 e5
    repeat' (first|exact iF|refine gQ ?_ ?_)
    ·refine cI rfl rfl rfl ?_
     rintro b wq _ ⟨i3,i5,i6,i8,ic,ig⟩
     have qe:=ig.size
     repeat (first|(refine aU ?_;refine bE rfl yB (by exact rfl) rfl ?_)|refine TL.nil ?_)
     refine bB rfl ?_
     rw [show (b || Nat.beq 0 3)=b from Bool.or_false b]
     exact ⟨i3,i5,i6,i8,ic,ig⟩
    ·refine cI rfl rfl rfl ?_
     rintro b wq _ ⟨i3,i5,i6,i8,ic,ig⟩
     have qe:=ig.size
     repeat (first|(refine aB ?_;refine TL.pure rfl rfl ?_)|refine TL.nil ?_)
     refine bB rfl ?_
     rw [show (b || Nat.beq 1 3)=b from Bool.or_false b]
     exact ⟨i3,i5,i6,i8,ic,ig⟩
    ·refine cI rfl rfl rfl ?_
     rintro b wq _ ⟨i3,i5,i6,i8,ic,ig⟩
     have qe:=ig.size
     repeat (first|(refine aU ?_;refine bE rfl yB (by exact rfl) rfl ?_)|refine TL.nil ?_)
     refine bB rfl ?_
     rw [show (b || Nat.beq 2 3)=b from Bool.or_false b]
     exact ⟨i3,i5,i6,i8,ic,ig⟩
    ·refine cI rfl rfl rfl ?_
     rintro b wq hb ⟨i3,i5,i6,i8,ic,ig⟩
     obtain rfl:=hb rfl
     have qe:=ig.size
     have i6':Blk wq b6 79 nil3:=i6
     repeat (first|refine TL.nil ?_|(refine aP ?_;(refine aY rfl rfl yB (by exact rfl) (by exact rfl) (by exact rfl) ?_;intro w' hu hbk hsz)))
     refine iD ⟨i3.upd hu (by omega),i5.upd hu (by omega),hbk,i8.upd hu (by omega),ic.trans (Carry.upd hu (λ k hk _=>(o3 k hk).2.2.1)),aZ hu (by omega) ig⟩
    ·refine cI rfl rfl rfl ?_
     rintro b wq _ ⟨i3,i5,i6,i8,ic,ig⟩
     have qe:=ig.size
     repeat (first|(refine aD ?_;refine TL.pure rfl rfl ?_)|refine TL.nil ?_)
     refine bB rfl ?_
     rw [show (b || Nat.beq 4 3)=b from Bool.or_false b]
     exact ⟨i3,i5,i6,i8,ic,ig⟩
   ·rintro w9 ⟨i3,i5,i6,i8,ic,ig⟩
    have i6':Blk w9 b6 79 [.slice x.a1 x.n1 x.c1,.slice av3 (x.n2-((x.n2-1+1)-(x.n2-1))) cv3,.slice av4 (x.n3-((x.n2-1)-(x.n2-1-1))) cv4]:=i6
    clear i6
    repeat (first|refine TL.nil ?_|refine aA ?_|(refine aP ?_;(refine aY rfl rfl yB (by exact rfl) (by exact rfl) (by exact rfl) ?_;intro w' hu hbk hsz))|refine bC ?_)
    have cf:Carry G w9 F w':=(Carry.upd hu (λ k hk _=>(o3 k hk).2.2.2)).trans (hGout _)
    refine retCTC rfl (bY (i6'.upd hu (by omega)) rfl) rfl rfl (bY hbk rfl) ⟨_,rfl,⟨⟨x.a1,x.n1,x.c1,av3,(x.n2-((x.n2-1+1)-(x.n2-1))),cv3,av4,(x.n3-((x.n2-1)-(x.n2-1-1))),cv4⟩,⟨y.a1,y.n1,y.c1,av1,(y.n2+1),cv1,av2,(y.n3+1),cv2⟩,kv,rfl,?_,?_,?_⟩,aZ hu (by omega) ig⟩
    ·have:=(S.hx.go ic).go cf
     subst he4 he3 he2 he1
     try rw [← nx1]
     try rw [← nx2]
     try rw [← nx3]
     try rw [eel]
     exact this
    ·have:=(S.hy.go ic).go cf
     subst he4 he3 he2 he1
     try rw [← nx1]
     try rw [← nx2]
     try rw [← nx3]
     try rw [eel]
     exact this
    ·have:=hkf.go (Carry.grow (aZ hu (by omega) ig))
     try rw [← nx2]
     rw [← ekl] at this
     exact this
end Go.Proofs.YtfpadnmdafiddaaGreatDoor
namespace Go.Proofs.YtfpadnmdafiddaaGreatDoor
open Go Go.RowKit Go.V
theorem tback_c (F:Nat→Prop) (w:World) (hF:∀ k,w.heap.size≤k→F k) (x y:NV) (na nb:Nd) (ka:Option Addr) (kn kc:Nat) (key:Bs) (hx:NdAt F w x na) (hy:NdAt F w y nb) (hk:Sl F w 1 ka kn kc (cX key)) (hsx:na.items.length≤1000∧na.kids.length≤1000∧na.keys.length≤1000) (hsy:nb.items.length≤1000∧nb.kids.length≤1000∧nb.keys.length≤1000)
  (hl:cK na=true→2≤nb.items.length) (hb:cK na=false→2≤nb.kids.length∧nb.keys.length+1=nb.kids.length) :
  Calls Tryz.prog 193 #[x.val,.slice ka kn kc,y.val] w (Ret λ v w'=>(∃ (x' y':NV) (kv:Value),v=.tuple #[x'.val,kv,y'.val]∧NdAt F w' x' (iS na key nb).1∧NdAt F w' y' (iS na key nb).2.2∧BsAt F w' kv (iS na key nb).2.1)∧Grow w w'):=by
 obtain ⟨nx1,nx2,nx3⟩:=hx.nums
 obtain ⟨ny1,ny2,ny3⟩:=hy.nums
 refine V.calls (args:=[_,_,_]) Tryz.func193 rfl Tryz.ntmps193 rfl rfl ?_
 repeat (first|(refine aD ?_;refine TL.pure rfl rfl ?_)|(refine aU ?_;refine bE rfl yB (by exact rfl) rfl ?_)|refine TL.nil ?_|refine aA ?_|refine aJ ?_|refine aC ?_|(refine bW ?_;(refine dJ rfl rfl ?_;intro bk w' hg hbk hsz hsz'))|(refine bD ?_;(refine TL.alloc rfl rfl ?_;intro bk w' hg hbk hsz hsz')))
 rename_i b3 w1 g1 k1 p1 p1' b5 w2 g2 k2 p2 p2' b6 w3 g3 k3 p3 p3'
 obtain ⟨b8,rfl⟩:∃ z,z=bk:=⟨bk,rfl⟩
 obtain ⟨G,hG⟩:∃ G:Nat→Prop,∀ k,G k↔F k∧k≠b3∧k≠b5∧k≠b6∧k≠b8:=⟨_,λ _=>Iff.rfl⟩
 have hgr0:Grow w w':=g1.trans (g2.trans (g3.trans hg))
 have cg:Carry F w G w':=(Carry.mono (λ k hk hl=>(hG k).2 ⟨hk,by omega,by omega,by omega,by omega⟩)).trans (Carry.grow hgr0)
 have S:Two G w b3 b5 b6 b8 w' x y na nb ka kn kc key:=⟨k1.grow (g2.trans (g3.trans hg)),k2.grow (g3.trans hg),k3.grow hg,hbk,hx.go cg,hy.go cg,hk.go cg,hgr0,λ k hk=>((hG k).1 hk).2,by omega,by omega⟩
 have zw:=hgr0.size
 obtain ⟨Z0,hZ0⟩:∃ n,n=w'.heap.size:=⟨_,rfl⟩
 have hGF:∀ wq:World,Z0≤wq.heap.size→∀ k,wq.heap.size≤k→G k:=λ wq hq k hk=>(hG k).2 ⟨hF k (by omega),by omega,by omega,by omega,by omega⟩
 have qb:b3<Z0∧b5<Z0∧b6<Z0∧b8<Z0:=by omega
 have qw:w.heap.size≤Z0:=by omega
 have hGout:∀ wq:World,Carry G wq F wq:=λ wq=>Carry.mono λ k hk _=>((hG k).1 hk).1
 clear hbk hg g1 g2 g3 k1 k2 k3 cg hgr0 p1 p1' p2 p2' p3 p3' hsz hsz'
 have hwZ:Z0≤w'.heap.size:=by omega
 have e3:=S.e3
 have e5:=S.e5
 cases hlf:cK na with
 | true =>
  have hl1:=hl hlf
  rw [show iS na key nb=(⟨dE na.items na.items.length [nb.items.getD 0 ([],[])],na.kids,na.keys⟩,((cL nb.items 0 1).getD 0 ([],[])).1,⟨cL nb.items 0 1,nb.kids,nb.keys⟩) by simp only [iS,hlf,if_true]]
  repeat (first|refine TL.nil ?_|refine aA ?_|refine aJ ?_|refine aN rfl ?_|(refine aL 80 ?_;refine aI rfl (eX S.hx hlf _) rfl ?_;rintro _ _ ⟨rfl,hgc⟩))
  rename_i wA
  replace S:=S.grow hgc
  have zA:=hgc.size
  clear e3 e5 hgc
  have e3:=S.e3
  have e5:=S.e5
  have hrow:=S.hy.its
  obtain ⟨el,hel⟩:∃ q,nb.items[0]? = some q:=⟨_,List.getElem?_eq_getElem (by omega)⟩
  obtain ⟨ecs,hes,hec⟩:=hrow.ex
  obtain ⟨ekv,evv,f0,f1,hek,hev⟩:=hec.at' hel
  obtain ⟨eka,ekc,rfl,heks⟩:=hek.sl
  obtain ⟨eva,evc,rfl,hevs⟩:=hev.sl
  rw [Nat.mul_comm] at f0 f1
  have eel:nb.items.getD 0 ([],[])=el:=by rw [List.getD_eq_getElem?_getD,hel];rfl
  apply T.any 11 [is (.pointer (some ⟨b3,0,none⟩)),is (.slice x.a1 x.n1 x.c1),is (.pointer (some ⟨b3,0,none⟩)),is (.slice x.a1 x.n1 x.c1),is (.int .i64 (x.n1:Int)),is (.pointer (some ⟨b5,0,none⟩)),is (.slice y.a1 y.n1 y.c1),is (.pointer (some (at' y.a1 (0*2)))),is (.agg #[.slice eka el.1.length ekc,.slice eva el.2.length evc]),itsF G 1 [el],itsF G (x.n1+1) (dE na.items x.n1 [el])]
  ·rfl
  ·repeat' (first|exact bX|refine bU ?_ ?_)
   iterate 7
    ·(refine aQ rfl rfl rfl ?_);( intro wq _ _ hgq;(repeat (refine aG rfl rfl ?_;intro vq hvq;try (obtain rfl:=hvq)));(refine aM ?_))
     repeat (first|refine aK rfl yM rfl ?_|refine aF rfl rfl ?_|refine TL.nil ?_|refine aO rfl rfl ?_)
     exact aS rfl yG rfl
   ·(refine aQ rfl rfl rfl ?_);( intro wq _ _ hgq;(repeat (refine aG rfl rfl ?_;intro vq hvq;try (obtain rfl:=hvq)));(refine aM ?_))
    repeat (first|(refine bF ?_;refine aW (j:=0) rfl rfl rfl (by omega) rfl ⟨_,_,hes.grow hgq⟩ rfl ?_)|refine TL.nil ?_)
    exact aS rfl yG rfl
   ·(refine aQ rfl rfl rfl ?_);( intro wq _ _ hgq;(repeat (refine aG rfl rfl ?_;intro vq hvq;try (obtain rfl:=hvq)));(refine aM ?_))
    repeat (first|(refine aU ?_;refine eP (o:=0*2) rfl (hes.grow hgq) (two_at f0 f1) rfl rfl ?_)|refine TL.nil ?_)
    exact aS rfl yG rfl
   ·(refine aQ rfl rfl rfl ?_);( intro wq _ _ hgq;(repeat (refine aG rfl rfl ?_;intro vq hvq;try (obtain rfl:=hvq)));(refine aM ?_))
    have zq:=hgq.size
    refine TL.buildSlice rfl rfl rfl rfl rfl ?_
    intro b' wa hga hba hsa hsb hsc
    have hit:ItsAt G wa (some ⟨b',0,none⟩) 1 1 [el]:=⟨_,(bR (sz:=2) (m:=1) (show Blk wa b' 58 [.slice eka el.1.length ekc,.slice eva el.2.length evc] from hba) rfl (by decide)).mono (λ k hk=>by subst hk;exact (hG _).2 ⟨hF _ (by omega),by omega,by omega,by omega,by omega⟩),⟨_,_,_,rfl,(heks.grow hgq).grow hga⟩,⟨_,_,_,rfl,(hevs.grow hgq).grow hga⟩,trivial⟩
    repeat (refine TL.nil ?_)
    exact aS rfl yG ⟨_,_,rfl,hit⟩
   ·refine aQ rfl rfl rfl ?_
    intro wq _ _ hgq
    refine aG rfl rfl ?_
    intro v1 q1
    obtain rfl:=q1
    refine aG rfl rfl ?_
    intro v4 q4
    obtain rfl:=q4
    refine aG rfl rfl ?_
    rintro vl ⟨al,cl,rfl,hl1⟩
    refine aM ?_
    refine aL 99 ?_
    refine aI rfl (insI_c (F:=G) (hGF _ (by have:=hgq.size;omega)) x.a1 al x.n1 x.c1 1 cl x.n1 na.items [el] (S.hx.its.go (Carry.grow hgq)) hl1 (by omega) (by omega)) rfl ?_
    rintro v' wr ⟨⟨a7,c7,rfl,hi⟩,hgr⟩
    repeat (refine TL.nil ?_)
    exact aS rfl yG ⟨a7,c7,rfl,hi⟩
  ·intro wt lot hit' hgt _ _
   iterate 10 (refine aG rfl rfl ?_;intro vq hvq;try (obtain rfl:=hvq))
   refine aG rfl rfl ?_
   rintro vt ⟨av,cv,rfl,hnew⟩
   refine aM ?_
   clear hvq
   have zt:=hgt.size
   replace S:=S.grow hgt
   clear e3 e5 hgt hes heks hevs hec hek hev hrow
   have e3:Blk _ b3 79 [.slice x.a1 x.n1 x.c1,.slice x.a2 x.n2 x.c2,.slice x.a3 x.n3 x.c3]:=S.e3
   have e5:Blk _ b5 79 [.slice y.a1 y.n1 y.c1,.slice y.a2 y.n2 y.c2,.slice y.a3 y.n3 y.c3]:=S.e5
   repeat (first|refine aF rfl rfl ?_|refine TL.nil ?_|refine aA ?_|refine aJ ?_|refine aC ?_|(refine aP ?_;(refine bP rfl rfl yB (by exact rfl) (by exact rfl) (by exact rfl) ?_;intro w' hu hbk hsz)))
   obtain ⟨av1,rfl⟩:∃ q,q=av:=⟨_,rfl⟩
   obtain ⟨cv1,rfl⟩:∃ q,q=cv:=⟨_,rfl⟩
   have S':=S.setA (Z:=⟨av1,(x.n1+1),cv1,x.a2,x.n2,x.c2,x.a3,x.n3,x.c3⟩) (NC:=⟨dE na.items x.n1 [el],na.kids,na.keys⟩) hu hbk ⟨hnew,S.hx.kids,S.hx.kys⟩
   have zu:=hu.size
   have ln1:=eZ (l:=na.items) (x:=[el]) (i:=x.n1) (by omega)
   try simp only [List.length_cons,List.length_nil] at ln1
   obtain ⟨na1,he1,S2⟩:∃ (N:Nd),N=⟨dE na.items x.n1 [el],na.kids,na.keys⟩∧Two G w b3 b5 b6 b8 w' ⟨av1,(x.n1+1),cv1,x.a2,x.n2,x.c2,x.a3,x.n3,x.c3⟩ ⟨y.a1,y.n1,y.c1,y.a2,y.n2,y.c2,y.a3,y.n3,y.c3⟩ N nb ka kn kc key:=⟨_,rfl,S'⟩
   obtain ⟨m11,m12,m13⟩:=S2.hx.nums
   rw [he1] at m11 m12 m13
   simp only at m11 m12 m13
   obtain ⟨t11,t12,t13⟩:na1.items.length=(dE na.items x.n1 [el]).length∧na1.kids.length=(na.kids).length∧na1.keys.length=(na.keys).length:=by rw [he1];exact ⟨rfl,rfl,rfl⟩
   have hwZ1:Z0≤w'.heap.size:=by omega
   clear hu hbk hnew S S' hsz e3 e5
   obtain ⟨w10,rfl⟩:∃ z,z=w':=⟨w',rfl⟩
   have S:=S2
   clear S2
   have e3:Blk _ b3 79 [.slice av1 (x.n1+1) cv1,.slice x.a2 x.n2 x.c2,.slice x.a3 x.n3 x.c3]:=S.e3
   have e5:Blk _ b5 79 [.slice y.a1 y.n1 y.c1,.slice y.a2 y.n2 y.c2,.slice y.a3 y.n3 y.c3]:=S.e5
   repeat (refine aK rfl yM rfl ?_)
   refine aL 81 ?_
   refine aI rfl (cutI_c (F:=G) (hGF _ (by omega)) y.a1 y.n1 y.c1 0 1 nb.items S.hy.its (by omega) (by omega) (by omega)) rfl ?_
   rintro _ wr ⟨⟨av,cv,rfl,hnew⟩,hgr⟩
   replace S:=S.grow hgr
   have zr:=hgr.size
   clear e3 e5 hgr
   have e3:Blk _ b3 79 [.slice av1 (x.n1+1) cv1,.slice x.a2 x.n2 x.c2,.slice x.a3 x.n3 x.c3]:=S.e3
   have e5:Blk _ b5 79 [.slice y.a1 y.n1 y.c1,.slice y.a2 y.n2 y.c2,.slice y.a3 y.n3 y.c3]:=S.e5
   repeat (first|refine aF rfl rfl ?_|refine TL.nil ?_|refine aA ?_|refine aJ ?_|(refine aP ?_;(refine bP rfl rfl yB (by exact rfl) (by exact rfl) (by exact rfl) ?_;intro w' hu hbk hsz)))
   obtain ⟨av2,rfl⟩:∃ q,q=av:=⟨_,rfl⟩
   obtain ⟨cv2,rfl⟩:∃ q,q=cv:=⟨_,rfl⟩
   have S':=S.setB (Z:=⟨av2,(y.n1-(1-0)),cv2,y.a2,y.n2,y.c2,y.a3,y.n3,y.c3⟩) (NC:=⟨cL nb.items 0 1,nb.kids,nb.keys⟩) hu hbk ⟨hnew,S.hy.kids,S.hy.kys⟩
   have zu:=hu.size
   have ln2:=eD (l:=nb.items) (i:=0) (j:=1) (by omega) (by omega)
   try simp only [List.length_cons,List.length_nil] at ln2
   obtain ⟨nb2,he2,S2⟩:∃ (N:Nd),N=⟨cL nb.items 0 1,nb.kids,nb.keys⟩∧Two G w b3 b5 b6 b8 w' ⟨av1,(x.n1+1),cv1,x.a2,x.n2,x.c2,x.a3,x.n3,x.c3⟩ ⟨av2,(y.n1-(1-0)),cv2,y.a2,y.n2,y.c2,y.a3,y.n3,y.c3⟩ na1 N ka kn kc key:=⟨_,rfl,S'⟩
   obtain ⟨m21,m22,m23⟩:=S2.hy.nums
   rw [he2] at m21 m22 m23
   simp only at m21 m22 m23
   obtain ⟨t21,t22,t23⟩:nb2.items.length=(cL nb.items 0 1).length∧nb2.kids.length=(nb.kids).length∧nb2.keys.length=(nb.keys).length:=by rw [he2];exact ⟨rfl,rfl,rfl⟩
   have hwZ2:Z0≤w'.heap.size:=by omega
   clear hu hbk hnew S S' hsz e3 e5
   obtain ⟨w20,rfl⟩:∃ z,z=w':=⟨w',rfl⟩
   have S:=S2
   clear S2
   have e3:Blk _ b3 79 [.slice av1 (x.n1+1) cv1,.slice x.a2 x.n2 x.c2,.slice x.a3 x.n3 x.c3]:=S.e3
   have e5:Blk _ b5 79 [.slice av2 (y.n1-(1-0)) cv2,.slice y.a2 y.n2 y.c2,.slice y.a3 y.n3 y.c3]:=S.e5
   obtain ⟨q0,hq0⟩:∃ q,nb2.items[0]? = some q:=⟨_,List.getElem?_eq_getElem (by rw [he2];simp only;omega)⟩
   obtain ⟨qcs,hqs,hqc⟩:=S.hy.its.ex
   obtain ⟨kv,vv,f0',f1',hkb,_⟩:=hqc.at' hq0
   have hone:=hkb.one
   have hgS:=S.hg
   have o3:=S.out
   have o4:=S.ne
   have o5:=S.le
   refine cT (e':=[(3,_),(5,_),(6,_),(8,_)]) ?_ ⟨rfl,rfl,rfl,rfl,trivial⟩
   apply T.detA 9 7 [(.agg #[.slice av1 (x.n1+1) cv1,.slice x.a2 x.n2 x.c2,.slice x.a3 x.n3 x.c3]),(.pointer (some ⟨b5,0,none⟩)),(.slice av2 (y.n1-(1-0)) cv2),(.pointer (some (at' av2 0))),(.pointer (some (at' av2 0))),kv,(.agg #[.slice av2 (y.n1-(1-0)) cv2,.slice y.a2 y.n2 y.c2,.slice y.a3 y.n3 y.c3]),undef,kv]
    (λ b w1=>Blk w1 b3 79 [.slice av1 (x.n1+1) cv1,.slice x.a2 x.n2 x.c2,.slice x.a3 x.n3 x.c3]∧Blk w1 b5 79 [.slice av2 (y.n1-(1-0)) cv2,.slice y.a2 y.n2 y.c2,.slice y.a3 y.n3 y.c3]∧Blk w1 b6 79 (if b then [.slice av1 (x.n1+1) cv1,.slice x.a2 x.n2 x.c2,.slice x.a3 x.n3 x.c3] else nil3)∧Blk w1 b8 79 nil3∧Carry G w20 G w1∧Grow w w1)
   ·rfl
   ·exact λ w1 h1=>⟨S.e3.grow h1,S.e5.grow h1,S.e6.grow h1,S.e8.grow h1,Carry.grow h1,S.hg.trans h1⟩
   ·clear e3 e5
    repeat' (first|exact iF|refine gQ ?_ ?_)
    ·refine cI rfl rfl rfl ?_
     rintro b wq _ ⟨i3,i5,i6,i8,ic,ig⟩
     have qe:=ig.size
     repeat (first|(refine aU ?_;refine bE rfl yB (by exact rfl) rfl ?_)|refine TL.nil ?_)
     refine bB rfl ?_
     rw [show (b || Nat.beq 0 7)=b from Bool.or_false b]
     exact ⟨i3,i5,i6,i8,ic,ig⟩
    ·refine cI rfl rfl rfl ?_
     rintro b wq _ ⟨i3,i5,i6,i8,ic,ig⟩
     have qe:=ig.size
     repeat (first|refine aF rfl rfl ?_|refine TL.nil ?_)
     refine bB rfl ?_
     rw [show (b || Nat.beq 1 7)=b from Bool.or_false b]
     exact ⟨i3,i5,i6,i8,ic,ig⟩
    ·refine cI rfl rfl rfl ?_
     rintro b wq _ ⟨i3,i5,i6,i8,ic,ig⟩
     have qe:=ig.size
     repeat (first|refine aK rfl yM rfl ?_|refine TL.nil ?_)
     refine bB rfl ?_
     rw [show (b || Nat.beq 2 7)=b from Bool.or_false b]
     exact ⟨i3,i5,i6,i8,ic,ig⟩
    ·refine cI rfl rfl rfl ?_
     rintro b wq _ ⟨i3,i5,i6,i8,ic,ig⟩
     have qe:=ig.size
     repeat (first|(refine bF ?_;refine aW (j:=0) rfl rfl rfl (by omega) rfl ⟨G,_,hqs.go ic⟩ rfl ?_)|refine TL.nil ?_)
     refine bB rfl ?_
     rw [show (b || Nat.beq 3 7)=b from Bool.or_false b]
     exact ⟨i3,i5,i6,i8,ic,ig⟩
    ·refine cI rfl rfl rfl ?_
     rintro b wq _ ⟨i3,i5,i6,i8,ic,ig⟩
     have qe:=ig.size
     repeat (first|(refine gR ?_;refine gS (o:=0) rfl (hqs.go ic) f0' rfl ?_)|refine TL.nil ?_)
     refine bB rfl ?_
     rw [show (b || Nat.beq 4 7)=b from Bool.or_false b]
     exact ⟨i3,i5,i6,i8,ic,ig⟩
    ·refine cI rfl rfl rfl ?_
     rintro b wq _ ⟨i3,i5,i6,i8,ic,ig⟩
     have qe:=ig.size
     have hcx:wq.cell? (at' av2 0)=some kv:=(hqs.go ic).row.cell f0'
     repeat (first|refine aK rfl yM rfl ?_|refine TL.nil ?_)
     refine bB rfl ?_
     rw [show (b || Nat.beq 5 7)=b from Bool.or_false b]
     exact ⟨i3,i5,i6,i8,ic,ig⟩
    ·refine cI rfl rfl rfl ?_
     rintro b wq _ ⟨i3,i5,i6,i8,ic,ig⟩
     have qe:=ig.size
     repeat (first|(refine aU ?_;refine bE rfl yB (by exact rfl) rfl ?_)|refine TL.nil ?_)
     refine bB rfl ?_
     rw [show (b || Nat.beq 6 7)=b from Bool.or_false b]
     exact ⟨i3,i5,i6,i8,ic,ig⟩
    ·refine cI rfl rfl rfl ?_
     rintro b wq hb ⟨i3,i5,i6,i8,ic,ig⟩
     obtain rfl:=hb rfl
     have qe:=ig.size
     have i6':Blk wq b6 79 nil3:=i6
     repeat (first|refine TL.nil ?_|(refine aP ?_;(refine aY rfl rfl yB (by exact rfl) (by exact rfl) (by exact rfl) ?_;intro w' hu hbk hsz)))
     refine iD ⟨i3.upd hu (by omega),i5.upd hu (by omega),hbk,i8.upd hu (by omega),ic.trans (Carry.upd hu (λ k hk _=>(o3 k hk).2.2.1)),aZ hu (by omega) ig⟩
    ·refine cI rfl rfl rfl ?_
     rintro b wq _ ⟨i3,i5,i6,i8,ic,ig⟩
     have qe:=ig.size
     repeat (first|(refine aD ?_;refine TL.pure rfl rfl ?_)|refine TL.nil ?_)
     refine bB rfl ?_
     rw [show (b || Nat.beq 8 7)=b from Bool.or_false b]
     exact ⟨i3,i5,i6,i8,ic,ig⟩
   ·rintro w9 ⟨i3,i5,i6,i8,ic,ig⟩
    have i6':Blk w9 b6 79 [.slice av1 (x.n1+1) cv1,.slice x.a2 x.n2 x.c2,.slice x.a3 x.n3 x.c3]:=i6
    clear i6
    repeat (first|refine TL.nil ?_|refine aA ?_|(refine aP ?_;(refine aY rfl rfl yB (by exact rfl) (by exact rfl) (by exact rfl) ?_;intro w' hu hbk hsz))|refine bC ?_|refine bI ?_)
    have cf:Carry G w9 F w':=(Carry.upd hu (λ k hk _=>(o3 k hk).2.2.2)).trans (hGout _)
    refine retCTC rfl (bY (i6'.upd hu (by omega)) rfl) rfl rfl (bY hbk rfl) ⟨_,rfl,⟨⟨av1,(x.n1+1),cv1,x.a2,x.n2,x.c2,x.a3,x.n3,x.c3⟩,⟨av2,(y.n1-(1-0)),cv2,y.a2,y.n2,y.c2,y.a3,y.n3,y.c3⟩,kv,rfl,?_,?_,?_⟩,aZ hu (by omega) ig⟩
    ·have:=(S.hx.go ic).go cf
     subst he2 he1
     try rw [← nx1]
     try rw [← nx2]
     try rw [← nx3]
     try rw [eel]
     exact this
    ·have:=(S.hy.go ic).go cf
     subst he2 he1
     try rw [← nx1]
     try rw [← nx2]
     try rw [← nx3]
     try rw [eel]
     exact this
    ·have:=(hkb.go ic).go cf
     have e0:q0=nb2.items.getD 0 ([],[]):=by rw [List.getD_eq_getElem?_getD,hq0];rfl
     rw [e0] at this
     subst he2 he1
     try rw [← nx1]
     try rw [eel]
     exact this
 | false =>
  obtain ⟨hb2,hb1⟩:=hb hlf
  rw [show iS na key nb=(⟨na.items,dE na.kids na.kids.length [nb.kids.getD 0 0],dE na.keys na.keys.length [key]⟩,nb.keys.getD 0 [],⟨nb.items,cL nb.kids 0 1,cL nb.keys 0 1⟩) by simp only [iS,hlf,Bool.false_eq_true,if_false]]
  repeat (first|refine TL.nil ?_|refine aA ?_|refine aJ ?_|refine aE rfl ?_|refine aV ?_|(refine aL 80 ?_;refine aI rfl (eX S.hx hlf _) rfl ?_;rintro _ _ ⟨rfl,hgc⟩))
  rename_i wA
  replace S:=S.grow hgc
  have zA:=hgc.size
  clear e3 e5 hgc
  have e3:=S.e3
  have e5:=S.e5
  have hrow:=S.hy.kids
  obtain ⟨el,hel⟩:∃ q,nb.kids[0]? = some q:=⟨_,List.getElem?_eq_getElem (by omega)⟩
  have hes:=hrow
  have f0:(cB nb.kids)[0]? = some (.int .i64 (el:Int)):=by rw [show cB nb.kids=nb.kids.map λ (k:Nat)=>(.int .i64 (k:Int):Value) from rfl,List.getElem?_map,hel];rfl
  have eel:nb.kids.getD 0 0=el:=by rw [List.getD_eq_getElem?_getD,hel];rfl
  apply T.any 11 [is (.pointer (some ⟨b3,1,none⟩)),is (.slice x.a2 x.n2 x.c2),is (.pointer (some ⟨b3,1,none⟩)),is (.slice x.a2 x.n2 x.c2),is (.int .i64 (x.n2:Int)),is (.pointer (some ⟨b5,1,none⟩)),is (.slice y.a2 y.n2 y.c2),is (.pointer (some (at' y.a2 (0*1)))),is (.int .i64 (el:Int)),kidF G 1 [el],kidF G (x.n2+1) (dE na.kids x.n2 [el])]
  ·rfl
  ·repeat' (first|exact bX|refine bU ?_ ?_)
   iterate 7
    ·(refine aQ rfl rfl rfl ?_);( intro wq _ _ hgq;(repeat (refine aG rfl rfl ?_;intro vq hvq;try (obtain rfl:=hvq)));(refine aM ?_))
     repeat (first|refine aK rfl yM rfl ?_|refine aF rfl rfl ?_|refine TL.nil ?_|refine aO rfl rfl ?_)
     exact aS rfl yG rfl
   ·(refine aQ rfl rfl rfl ?_);( intro wq _ _ hgq;(repeat (refine aG rfl rfl ?_;intro vq hvq;try (obtain rfl:=hvq)));(refine aM ?_))
    repeat (first|(refine bF ?_;refine aW (j:=0) rfl rfl rfl (by omega) rfl ⟨_,_,hes.grow hgq⟩ rfl ?_)|refine TL.nil ?_)
    exact aS rfl yG rfl
   ·(refine aQ rfl rfl rfl ?_);( intro wq _ _ hgq;(repeat (refine aG rfl rfl ?_;intro vq hvq;try (obtain rfl:=hvq)));(refine aM ?_))
    have hcx:wq.cell? (at' y.a2 (0*1))=some (.int .i64 (el:Int)):=(hes.grow hgq).row.cell (by rw [Nat.mul_one];exact f0)
    repeat (first|refine aK rfl yM rfl ?_|refine TL.nil ?_)
    exact aS rfl yG rfl
   ·(refine aQ rfl rfl rfl ?_);( intro wq _ _ hgq;(repeat (refine aG rfl rfl ?_;intro vq hvq;try (obtain rfl:=hvq)));(refine aM ?_))
    have zq:=hgq.size
    refine TL.buildSlice rfl rfl rfl rfl rfl ?_
    intro b' wa hga hba hsa hsb hsc
    have hit:Sl G wa 1 (some ⟨b',0,none⟩) 1 1 (cB [el]):=(bR (sz:=1) (m:=1) (show Blk wa b' 3 [.int .i64 (el:Int)] from hba) rfl (by decide)).mono (λ k hk=>by subst hk;exact (hG _).2 ⟨hF _ (by omega),by omega,by omega,by omega,by omega⟩)
    repeat (refine TL.nil ?_)
    exact aS rfl yG ⟨_,_,rfl,hit⟩
   ·refine aQ rfl rfl rfl ?_
    intro wq _ _ hgq
    refine aG rfl rfl ?_
    intro v1 q1
    obtain rfl:=q1
    refine aG rfl rfl ?_
    intro v4 q4
    obtain rfl:=q4
    refine aG rfl rfl ?_
    rintro vl ⟨al,cl,rfl,hl1⟩
    refine aM ?_
    refine aL 96 ?_
    refine aI rfl (insN_c (F:=G) (hGF _ (by have:=hgq.size;omega)) x.a2 al x.n2 x.c2 1 cl x.n2 na.kids [el] (S.hx.kids.grow hgq) hl1 (by omega) (by omega)) rfl ?_
    rintro v' wr ⟨⟨a7,c7,rfl,hi⟩,hgr⟩
    repeat (refine TL.nil ?_)
    exact aS rfl yG ⟨a7,c7,rfl,hi⟩
  ·intro wt lot hit' hgt _ _
   iterate 10 (refine aG rfl rfl ?_;intro vq hvq;try (obtain rfl:=hvq))
   refine aG rfl rfl ?_
   rintro vt ⟨av,cv,rfl,hnew⟩
   refine aM ?_
   clear hvq
   have zt:=hgt.size
   replace S:=S.grow hgt
   clear e3 e5 hgt hes hrow
   have e3:Blk _ b3 79 [.slice x.a1 x.n1 x.c1,.slice x.a2 x.n2 x.c2,.slice x.a3 x.n3 x.c3]:=S.e3
   have e5:Blk _ b5 79 [.slice y.a1 y.n1 y.c1,.slice y.a2 y.n2 y.c2,.slice y.a3 y.n3 y.c3]:=S.e5
   repeat (first|(refine aB ?_;refine TL.pure rfl rfl ?_)|refine aK rfl yM rfl ?_|refine aF rfl rfl ?_|refine TL.nil ?_|refine aA ?_|refine aJ ?_|refine aC ?_|(refine aP ?_;(refine bP rfl rfl yB (by exact rfl) (by exact rfl) (by exact rfl) ?_;intro w' hu hbk hsz))|refine aO rfl rfl ?_)
   obtain ⟨av1,rfl⟩:∃ q,q=av:=⟨_,rfl⟩
   obtain ⟨cv1,rfl⟩:∃ q,q=cv:=⟨_,rfl⟩
   have S':=S.setA (Z:=⟨x.a1,x.n1,x.c1,av1,(x.n2+1),cv1,x.a3,x.n3,x.c3⟩) (NC:=⟨na.items,dE na.kids x.n2 [el],na.keys⟩) hu hbk ⟨S.hx.its,hnew,S.hx.kys⟩
   have zu:=hu.size
   have ln1:=eZ (l:=na.kids) (x:=[el]) (i:=x.n2) (by omega)
   try simp only [List.length_cons,List.length_nil] at ln1
   obtain ⟨na1,he1,S2⟩:∃ (N:Nd),N=⟨na.items,dE na.kids x.n2 [el],na.keys⟩∧Two G w b3 b5 b6 b8 w' ⟨x.a1,x.n1,x.c1,av1,(x.n2+1),cv1,x.a3,x.n3,x.c3⟩ ⟨y.a1,y.n1,y.c1,y.a2,y.n2,y.c2,y.a3,y.n3,y.c3⟩ N nb ka kn kc key:=⟨_,rfl,S'⟩
   obtain ⟨m11,m12,m13⟩:=S2.hx.nums
   rw [he1] at m11 m12 m13
   simp only at m11 m12 m13
   obtain ⟨t11,t12,t13⟩:na1.items.length=(na.items).length∧na1.kids.length=(dE na.kids x.n2 [el]).length∧na1.keys.length=(na.keys).length:=by rw [he1];exact ⟨rfl,rfl,rfl⟩
   have hwZ1:Z0≤w'.heap.size:=by omega
   clear hu hbk hnew S S' hsz e3 e5
   obtain ⟨w10,rfl⟩:∃ z,z=w':=⟨w',rfl⟩
   have S:=S2
   clear S2
   have e3:Blk _ b3 79 [.slice x.a1 x.n1 x.c1,.slice av1 (x.n2+1) cv1,.slice x.a3 x.n3 x.c3]:=S.e3
   have e5:Blk _ b5 79 [.slice y.a1 y.n1 y.c1,.slice y.a2 y.n2 y.c2,.slice y.a3 y.n3 y.c3]:=S.e5
   repeat (refine aJ ?_)
   refine TL.buildSlice rfl rfl rfl rfl rfl ?_
   intro b' wa hga hba hsa hsb hsc
   have hba':Blk wa b' 30 [.slice ka kn kc]:=hba
   have hkl:=iE S.hk
   replace S:=S.grow hga
   have za:=hga.size
   have hit:KysAt G wa (some ⟨b',0,none⟩) 1 1 [key]:=⟨_,(bR (sz:=1) (m:=1) hba' rfl (by decide)).mono (λ k hk=>by subst hk;exact (hG _).2 ⟨hF _ (by omega),by omega,by omega,by omega,by omega⟩),⟨_,_,_,rfl,S.hk⟩,trivial⟩
   clear hba hba' hga hsa hsb hsc e3 e5
   have e3:Blk _ b3 79 [.slice x.a1 x.n1 x.c1,.slice av1 (x.n2+1) cv1,.slice x.a3 x.n3 x.c3]:=S.e3
   have e5:Blk _ b5 79 [.slice y.a1 y.n1 y.c1,.slice y.a2 y.n2 y.c2,.slice y.a3 y.n3 y.c3]:=S.e5
   repeat (refine aJ ?_)
   refine aL 98 ?_
   refine aI rfl (insK_c (F:=G) (hGF _ (by omega)) x.a3 (some ⟨b',0,none⟩) x.n3 x.c3 1 1 x.n3 na1.keys [key] S.hx.kys hit (by omega) (by omega)) rfl ?_
   rintro _ wr ⟨⟨av,cv,rfl,hnew⟩,hgr⟩
   replace S:=S.grow hgr
   have zr:=hgr.size
   clear e3 e5 hgr
   have e3:Blk _ b3 79 [.slice x.a1 x.n1 x.c1,.slice av1 (x.n2+1) cv1,.slice x.a3 x.n3 x.c3]:=S.e3
   have e5:Blk _ b5 79 [.slice y.a1 y.n1 y.c1,.slice y.a2 y.n2 y.c2,.slice y.a3 y.n3 y.c3]:=S.e5
   repeat (first|refine aF rfl rfl ?_|refine TL.nil ?_|refine aA ?_|refine aJ ?_|refine aC ?_|(refine aP ?_;(refine bP rfl rfl yB (by exact rfl) (by exact rfl) (by exact rfl) ?_;intro w' hu hbk hsz)))
   obtain ⟨av2,rfl⟩:∃ q,q=av:=⟨_,rfl⟩
   obtain ⟨cv2,rfl⟩:∃ q,q=cv:=⟨_,rfl⟩
   have S':=S.setA (Z:=⟨x.a1,x.n1,x.c1,av1,(x.n2+1),cv1,av2,(x.n3+1),cv2⟩) (NC:=⟨na1.items,na1.kids,dE na1.keys x.n3 [key]⟩) hu hbk ⟨S.hx.its,S.hx.kids,hnew⟩
   have zu:=hu.size
   have ln2:=eZ (l:=na1.keys) (x:=[key]) (i:=x.n3) (by omega)
   try simp only [List.length_cons,List.length_nil] at ln2
   obtain ⟨na2,he2,S2⟩:∃ (N:Nd),N=⟨na1.items,na1.kids,dE na1.keys x.n3 [key]⟩∧Two G w b3 b5 b6 b8 w' ⟨x.a1,x.n1,x.c1,av1,(x.n2+1),cv1,av2,(x.n3+1),cv2⟩ ⟨y.a1,y.n1,y.c1,y.a2,y.n2,y.c2,y.a3,y.n3,y.c3⟩ N nb ka kn kc key:=⟨_,rfl,S'⟩
   obtain ⟨m21,m22,m23⟩:=S2.hx.nums
   rw [he2] at m21 m22 m23
   simp only at m21 m22 m23
   obtain ⟨t21,t22,t23⟩:na2.items.length=(na1.items).length∧na2.kids.length=(na1.kids).length∧na2.keys.length=(dE na1.keys x.n3 [key]).length:=by rw [he2];exact ⟨rfl,rfl,rfl⟩
   have hwZ2:Z0≤w'.heap.size:=by omega
   clear hu hbk hnew S S' hsz e3 e5
   obtain ⟨w20,rfl⟩:∃ z,z=w':=⟨w',rfl⟩
   have S:=S2
   clear S2
   have e3:Blk _ b3 79 [.slice x.a1 x.n1 x.c1,.slice av1 (x.n2+1) cv1,.slice av2 (x.n3+1) cv2]:=S.e3
   have e5:Blk _ b5 79 [.slice y.a1 y.n1 y.c1,.slice y.a2 y.n2 y.c2,.slice y.a3 y.n3 y.c3]:=S.e5
   obtain ⟨kel,hkel⟩:∃ q,nb.keys[0]? = some q:=⟨_,List.getElem?_eq_getElem (by omega)⟩
   obtain ⟨kcs,hks0,hkc⟩:=hy.kys.ex
   obtain ⟨kv,kf0,hkf⟩:=hkc.at' hkel
   have hone:=hkf.one
   have hks:=hks0.grow S.hg
   have ekl:nb.keys.getD 0 []=kel:=by rw [List.getD_eq_getElem?_getD,hkel];rfl
   have hcx:w20.cell? (at' y.a3 (0*1))=some kv:=hks.row.cell (by rw [Nat.mul_one];exact kf0)
   repeat (first|(refine bF ?_;refine aW (j:=0) rfl rfl rfl (by omega) rfl ⟨_,_,hks⟩ rfl ?_)|(refine aD ?_;refine TL.pure rfl rfl ?_)|refine aK rfl yM rfl ?_|refine aF rfl rfl ?_|refine TL.nil ?_|refine aA ?_|refine aJ ?_|refine aC ?_)
   clear hcx hks hks0 hkc
   repeat (refine aJ ?_)
   refine aL 97 ?_
   refine aI rfl (cutN_c (F:=G) (hGF _ (by omega)) y.a2 y.n2 y.c2 0 1 nb.kids S.hy.kids (by omega) (by omega) (by omega)) rfl ?_
   rintro _ wr ⟨⟨av,cv,rfl,hnew⟩,hgr⟩
   replace S:=S.grow hgr
   have zr:=hgr.size
   clear e3 e5 hgr
   have e3:Blk _ b3 79 [.slice x.a1 x.n1 x.c1,.slice av1 (x.n2+1) cv1,.slice av2 (x.n3+1) cv2]:=S.e3
   have e5:Blk _ b5 79 [.slice y.a1 y.n1 y.c1,.slice y.a2 y.n2 y.c2,.slice y.a3 y.n3 y.c3]:=S.e5
   repeat (first|refine aK rfl yM rfl ?_|refine aF rfl rfl ?_|refine TL.nil ?_|refine aA ?_|refine aJ ?_|refine aC ?_|(refine aP ?_;(refine bP rfl rfl yB (by exact rfl) (by exact rfl) (by exact rfl) ?_;intro w' hu hbk hsz)))
   obtain ⟨av3,rfl⟩:∃ q,q=av:=⟨_,rfl⟩
   obtain ⟨cv3,rfl⟩:∃ q,q=cv:=⟨_,rfl⟩
   have S':=S.setB (Z:=⟨y.a1,y.n1,y.c1,av3,(y.n2-(1-0)),cv3,y.a3,y.n3,y.c3⟩) (NC:=⟨nb.items,cL nb.kids 0 1,nb.keys⟩) hu hbk ⟨S.hy.its,hnew,S.hy.kys⟩
   have zu:=hu.size
   have ln3:=eD (l:=nb.kids) (i:=0) (j:=1) (by omega) (by omega)
   try simp only [List.length_cons,List.length_nil] at ln3
   obtain ⟨nb3,he3,S2⟩:∃ (N:Nd),N=⟨nb.items,cL nb.kids 0 1,nb.keys⟩∧Two G w b3 b5 b6 b8 w' ⟨x.a1,x.n1,x.c1,av1,(x.n2+1),cv1,av2,(x.n3+1),cv2⟩ ⟨y.a1,y.n1,y.c1,av3,(y.n2-(1-0)),cv3,y.a3,y.n3,y.c3⟩ na2 N ka kn kc key:=⟨_,rfl,S'⟩
   obtain ⟨m31,m32,m33⟩:=S2.hy.nums
   rw [he3] at m31 m32 m33
   simp only at m31 m32 m33
   obtain ⟨t31,t32,t33⟩:nb3.items.length=(nb.items).length∧nb3.kids.length=(cL nb.kids 0 1).length∧nb3.keys.length=(nb.keys).length:=by rw [he3];exact ⟨rfl,rfl,rfl⟩
   have hwZ3:Z0≤w'.heap.size:=by omega
   clear hu hbk hnew S S' hsz e3 e5
   obtain ⟨w30,rfl⟩:∃ z,z=w':=⟨w',rfl⟩
   have S:=S2
   clear S2
   have e3:Blk _ b3 79 [.slice x.a1 x.n1 x.c1,.slice av1 (x.n2+1) cv1,.slice av2 (x.n3+1) cv2]:=S.e3
   have e5:Blk _ b5 79 [.slice y.a1 y.n1 y.c1,.slice av3 (y.n2-(1-0)) cv3,.slice y.a3 y.n3 y.c3]:=S.e5
   repeat (refine aJ ?_)
   refine aL 194 ?_
   refine aI rfl (cutK_c (F:=G) (hGF _ (by omega)) y.a3 y.n3 y.c3 0 1 nb3.keys S.hy.kys (by omega) (by omega) (by omega)) rfl ?_
   rintro _ wr ⟨⟨av,cv,rfl,hnew⟩,hgr⟩
   replace S:=S.grow hgr
   have zr:=hgr.size
   clear e3 e5 hgr
   have e3:Blk _ b3 79 [.slice x.a1 x.n1 x.c1,.slice av1 (x.n2+1) cv1,.slice av2 (x.n3+1) cv2]:=S.e3
   have e5:Blk _ b5 79 [.slice y.a1 y.n1 y.c1,.slice av3 (y.n2-(1-0)) cv3,.slice y.a3 y.n3 y.c3]:=S.e5
   repeat (first|refine aF rfl rfl ?_|refine TL.nil ?_|refine aA ?_|refine aJ ?_|(refine aP ?_;(refine bP rfl rfl yB (by exact rfl) (by exact rfl) (by exact rfl) ?_;intro w' hu hbk hsz)))
   obtain ⟨av4,rfl⟩:∃ q,q=av:=⟨_,rfl⟩
   obtain ⟨cv4,rfl⟩:∃ q,q=cv:=⟨_,rfl⟩
   have S':=S.setB (Z:=⟨y.a1,y.n1,y.c1,av3,(y.n2-(1-0)),cv3,av4,(y.n3-(1-0)),cv4⟩) (NC:=⟨nb3.items,nb3.kids,cL nb3.keys 0 1⟩) hu hbk ⟨S.hy.its,S.hy.kids,hnew⟩
   have zu:=hu.size
   have ln4:=eD (l:=nb3.keys) (i:=0) (j:=1) (by omega) (by omega)
   try simp only [List.length_cons,List.length_nil] at ln4
   obtain ⟨nb4,he4,S2⟩:∃ (N:Nd),N=⟨nb3.items,nb3.kids,cL nb3.keys 0 1⟩∧Two G w b3 b5 b6 b8 w' ⟨x.a1,x.n1,x.c1,av1,(x.n2+1),cv1,av2,(x.n3+1),cv2⟩ ⟨y.a1,y.n1,y.c1,av3,(y.n2-(1-0)),cv3,av4,(y.n3-(1-0)),cv4⟩ na2 N ka kn kc key:=⟨_,rfl,S'⟩
   obtain ⟨m41,m42,m43⟩:=S2.hy.nums
   rw [he4] at m41 m42 m43
   simp only at m41 m42 m43
   obtain ⟨t41,t42,t43⟩:nb4.items.length=(nb3.items).length∧nb4.kids.length=(nb3.kids).length∧nb4.keys.length=(cL nb3.keys 0 1).length:=by rw [he4];exact ⟨rfl,rfl,rfl⟩
   have hwZ4:Z0≤w'.heap.size:=by omega
   clear hu hbk hnew S S' hsz e3 e5
   obtain ⟨w40,rfl⟩:∃ z,z=w':=⟨w',rfl⟩
   have S:=S2
   clear S2
   have e3:Blk _ b3 79 [.slice x.a1 x.n1 x.c1,.slice av1 (x.n2+1) cv1,.slice av2 (x.n3+1) cv2]:=S.e3
   have e5:Blk _ b5 79 [.slice y.a1 y.n1 y.c1,.slice av3 (y.n2-(1-0)) cv3,.slice av4 (y.n3-(1-0)) cv4]:=S.e5
   have hgS:=S.hg
   have o3:=S.out
   have o4:=S.ne
   have o5:=S.le
   refine cT (e':=[(3,_),(5,_),(6,_),(8,_),(1,kv)]) ?_ ⟨rfl,rfl,rfl,rfl,rfl,trivial⟩
   apply T.detA 5 3 [(.agg #[.slice x.a1 x.n1 x.c1,.slice av1 (x.n2+1) cv1,.slice av2 (x.n3+1) cv2]),kv,(.agg #[.slice y.a1 y.n1 y.c1,.slice av3 (y.n2-(1-0)) cv3,.slice av4 (y.n3-(1-0)) cv4]),undef,kv]
    (λ b w1=>Blk w1 b3 79 [.slice x.a1 x.n1 x.c1,.slice av1 (x.n2+1) cv1,.slice av2 (x.n3+1) cv2]∧Blk w1 b5 79 [.slice y.a1 y.n1 y.c1,.slice av3 (y.n2-(1-0)) cv3,.slice av4 (y.n3-(1-0)) cv4]∧Blk w1 b6 79 (if b then [.slice x.a1 x.n1 x.c1,.slice av1 (x.n2+1) cv1,.slice av2 (x.n3+1) cv2] else nil3)∧Blk w1 b8 79 nil3∧Carry G w40 G w1∧Grow w w1)
   ·rfl
   ·exact λ w1 h1=>⟨S.e3.grow h1,S.e5.grow h1,S.e6.grow h1,S.e8.grow h1,Carry.grow h1,S.hg.trans h1⟩
   ·clear e3 e5
    repeat' (first|exact iF|refine gQ ?_ ?_)
    ·refine cI rfl rfl rfl ?_
     rintro b wq _ ⟨i3,i5,i6,i8,ic,ig⟩
     have qe:=ig.size
     repeat (first|(refine aU ?_;refine bE rfl yB (by exact rfl) rfl ?_)|refine TL.nil ?_)
     refine bB rfl ?_
     rw [show (b || Nat.beq 0 3)=b from Bool.or_false b]
     exact ⟨i3,i5,i6,i8,ic,ig⟩
    ·refine cI rfl rfl rfl ?_
     rintro b wq _ ⟨i3,i5,i6,i8,ic,ig⟩
     have qe:=ig.size
     repeat (first|(refine aB ?_;refine TL.pure rfl rfl ?_)|refine TL.nil ?_)
     refine bB rfl ?_
     rw [show (b || Nat.beq 1 3)=b from Bool.or_false b]
     exact ⟨i3,i5,i6,i8,ic,ig⟩
    ·refine cI rfl rfl rfl ?_
     rintro b wq _ ⟨i3,i5,i6,i8,ic,ig⟩
     have qe:=ig.size
     repeat (first|(refine aU ?_;refine bE rfl yB (by exact rfl) rfl ?_)|refine TL.nil ?_)
     refine bB rfl ?_
     rw [show (b || Nat.beq 2 3)=b from Bool.or_false b]
     exact ⟨i3,i5,i6,i8,ic,ig⟩
    ·refine cI rfl rfl rfl ?_
     rintro b wq hb ⟨i3,i5,i6,i8,ic,ig⟩
     obtain rfl:=hb rfl
     have qe:=ig.size
     have i6':Blk wq b6 79 nil3:=i6
     repeat (first|refine TL.nil ?_|(refine aP ?_;(refine aY rfl rfl yB (by exact rfl) (by exact rfl) (by exact rfl) ?_;intro w' hu hbk hsz)))
     refine iD ⟨i3.upd hu (by omega),i5.upd hu (by omega),hbk,i8.upd hu (by omega),ic.trans (Carry.upd hu (λ k hk _=>(o3 k hk).2.2.1)),aZ hu (by omega) ig⟩
    ·refine cI rfl rfl rfl ?_
     rintro b wq _ ⟨i3,i5,i6,i8,ic,ig⟩
     have qe:=ig.size
     repeat (first|(refine aD ?_;refine TL.pure rfl rfl ?_)|refine TL.nil ?_)
     refine bB rfl ?_
     rw [show (b || Nat.beq 4 3)=b from Bool.or_false b]
     exact ⟨i3,i5,i6,i8,ic,ig⟩
   ·rintro w9 ⟨i3,i5,i6,i8,ic,ig⟩
    have i6':Blk w9 b6 79 [.slice x.a1 x.n1 x.c1,.slice av1 (x.n2+1) cv1,.slice av2 (x.n3+1) cv2]:=i6
    clear i6
    repeat (first|refine TL.nil ?_|refine aA ?_|(refine aP ?_;(refine aY rfl rfl yB (by exact rfl) (by exact rfl) (by exact rfl) ?_;intro w' hu hbk hsz))|refine bC ?_)
    have cf:Carry G w9 F w':=(Carry.upd hu (λ k hk _=>(o3 k hk).2.2.2)).trans (hGout _)
    refine retCTC rfl (bY (i6'.upd hu (by omega)) rfl) rfl rfl (bY hbk rfl) ⟨_,rfl,⟨⟨x.a1,x.n1,x.c1,av1,(x.n2+1),cv1,av2,(x.n3+1),cv2⟩,⟨y.a1,y.n1,y.c1,av3,(y.n2-(1-0)),cv3,av4,(y.n3-(1-0)),cv4⟩,kv,rfl,?_,?_,?_⟩,aZ hu (by omega) ig⟩
    ·have:=(S.hx.go ic).go cf
     subst he4 he3 he2 he1
     try rw [← nx1]
     try rw [← nx2]
     try rw [← nx3]
     try rw [eel]
     exact this
    ·have:=(S.hy.go ic).go cf
     subst he4 he3 he2 he1
     try rw [← nx1]
     try rw [← nx2]
     try rw [← nx3]
     try rw [eel]
     exact this
    ·have:=hkf.go (Carry.grow (aZ hu (by omega) ig))
     try rw [← nx2]
     rw [← ekl] at this
     exact this
end Go.Proofs.YtfpadnmdafiddaaGreatDoor
namespace Go.Proofs.YtfpadnmdafiddaaGreatDoor
open Go Go.RowKit Go.V
theorem upN2 {sz:Nat} {p q:List Value}:jG sz [p,q] 2=p.length / sz+q.length / sz:=by simp [jG]
theorem upN3 {sz:Nat} {p q r:List Value}:jG sz [p,q,r] 3=p.length / sz+(q.length / sz+r.length / sz):=by simp [jG]
theorem merge_c (F:Nat→Prop) (w:World) (hF:∀ k,w.heap.size≤k→F k) (x y:NV) (na nb:Nd) (ka:Option Addr) (kn kc:Nat) (key:Bs) (hx:NdAt F w x na) (hy:NdAt F w y nb) (hk:Sl F w 1 ka kn kc (cX key)) (hsx:na.items.length≤1000∧na.kids.length≤1000∧na.keys.length≤1000) (hsy:nb.items.length≤1000∧nb.kids.length≤1000∧nb.keys.length≤1000) :
  Calls Tryz.prog 191 #[x.val,.slice ka kn kc,y.val] w (Ret λ v w'=>(∃ z:NV,v=z.val∧NdAt F w' z (lM na key nb))∧Grow w w'):=by
 obtain ⟨nx1,nx2,nx3⟩:=hx.nums
 obtain ⟨ny1,ny2,ny3⟩:=hy.nums
 refine V.calls (args:=[_,_,_]) Tryz.func191 rfl Tryz.ntmps191 rfl rfl ?_
 repeat (first|(refine aU ?_;refine bE rfl yB (by exact rfl) rfl ?_)|refine TL.nil ?_|refine aA ?_|refine aJ ?_|refine aC ?_|(refine bW ?_;(refine dJ rfl rfl ?_;intro bk w' hg hbk hsz hsz'))|(refine bD ?_;(refine TL.alloc rfl rfl ?_;intro bk w' hg hbk hsz hsz')))
 rename_i b3 w1 g1 k1 p1 p1' b5 w2 g2 k2 p2 p2'
 obtain ⟨b6,rfl⟩:∃ z,z=bk:=⟨bk,rfl⟩
 obtain ⟨G,hG⟩:∃ G:Nat→Prop,∀ k,G k↔F k∧k≠b6:=⟨_,λ _=>Iff.rfl⟩
 have hgr0:Grow w w':=g1.trans (g2.trans hg)
 have cg:Carry F w G w':=(Carry.mono (λ k hk hl=>(hG k).2 ⟨hk,by omega⟩)).trans (Carry.grow hgr0)
 have e3:Blk w' b3 79 x.cs:=k1.grow (g2.trans hg)
 have e5:Blk w' b5 79 y.cs:=k2.grow hg
 have e6:Blk w' b6 79 nil3:=hbk
 have hxg:=hx.go cg
 have hyg:=hy.go cg
 have hkg:=hk.go cg
 have hGF:∀ wq:World,w'.heap.size≤wq.heap.size→∀ k,wq.heap.size≤k→G k:=λ wq hq k hk=>(hG k).2 ⟨hF k (by have:=hgr0.size;omega),by omega⟩
 have q6:w.heap.size≤b6∧b6<w'.heap.size:=by omega
 have zw:=hgr0.size
 clear hbk hg g1 g2 k1 k2 cg p1 p1' p2 p2' hsz hsz'
 cases hlf:cK na with
 | true =>
  rw [show lM na key nb=⟨na.items++nb.items,[],[]⟩ by simp only [lM,hlf,if_true]]
  repeat (first|refine aK rfl yM rfl ?_|refine aF rfl rfl ?_|refine TL.nil ?_|refine aA ?_|refine aJ ?_|refine aC ?_|refine aN rfl ?_|(refine aL 80 ?_;refine aI rfl (eX hxg hlf _) rfl ?_;rintro _ _ ⟨rfl,hgc⟩))
  rename_i wA
  obtain ⟨cs1,hs1,hc1⟩:=hxg.its.ex
  obtain ⟨cs2,hs2,hc2⟩:=hyg.its.ex
  have l1:=hs1.len
  have l2:=hs2.len
  refine TL.buildSlice rfl rfl rfl rfl rfl ?_
  intro b' wa hga hba hsa hsb hsc
  have hga':=hgc.trans hga
  have e6':=e6.grow hga'
  have za:=hga'.size
  have hgw:=hgr0.trans hga'
  clear e3 e5 e6 hgc
  repeat (refine aJ ?_)
  refine aL 152 ?_
  refine aI rfl (join_t (λ _=>True) (some ⟨b',0,none⟩) 2 2 [.slice x.a1 x.n1 x.c1,.slice y.a1 y.n1 y.c1] [cs1,cs2] _ ((bR (sz:=1) (m:=2) hba hsc (by decide)).mono (λ _ _=>trivial)) ⟨⟨_,_,_,rfl,(hs1.grow hga').mono (λ _ _=>trivial)⟩,⟨_,_,_,rfl,(hs2.grow hga').mono (λ _ _=>trivial)⟩,trivial⟩ (by
   intro p hp u hu
   simp only [List.mem_cons,List.not_mem_nil,or_false] at hp
   rcases hp with rfl|rfl
   ·exact hc1.one u hu
   ·exact hc2.one u hu) (by show jG 2 [cs1,cs2] 2≤_;rw [upN2];omega)) rfl ?_
  rintro v wr ⟨hown,hgr⟩
  obtain ⟨av,cv,rfl,hnew⟩:=its_of_own (F:=G) (l:=na.items++nb.items) hown (hGF _ (by omega)) (by
   rw [show ([cs1,cs2]:List (List Value)).flatten=cs1++cs2 by simp]
   exact ItCells.go (Carry.grow (hga'.trans hgr)) (hc1.append hc2))
  have e6'':=e6'.grow hgr
  have hgwr:=hgw.trans hgr
  have zr:=hgr.size
  clear e6' hgr hga hba hown
  repeat (first|refine TL.nil ?_|refine aA ?_|(refine aP ?_;(refine aY rfl rfl yB (by exact rfl) (by exact rfl) (by exact rfl) ?_;intro w' hu hbk hsz))|refine TL.build rfl rfl rfl ?_|refine bC ?_|refine bI ?_)
  have cf:Carry G wr F w':=(Carry.upd hu (λ k hk _=>((hG k).1 hk).2)).trans (Carry.mono λ k hk _=>((hG k).1 hk).1)
  exact retC rfl (bY hbk rfl) ⟨_,rfl,⟨⟨av,_,cv,none,0,0,none,0,0⟩,rfl,hnew.go cf,jT,jF⟩,aZ hu (by omega) hgwr⟩
 | false =>
  rw [show lM na key nb=⟨[],na.kids++nb.kids,na.keys++[key]++nb.keys⟩ by simp only [lM,hlf,Bool.false_eq_true,if_false]]
  repeat (first|refine TL.nil ?_|refine aA ?_|refine aJ ?_|refine aE rfl ?_|refine aV ?_|(refine aL 80 ?_;refine aI rfl (eX hxg hlf _) rfl ?_;rintro _ _ ⟨rfl,hgc⟩))
  rename_i wA
  replace e3:=e3.grow hgc
  replace e5:=e5.grow hgc
  replace e6:=e6.grow hgc
  replace hxg:=hxg.go (Carry.grow hgc)
  replace hyg:=hyg.go (Carry.grow hgc)
  replace hkg:=hkg.grow hgc
  have zA:=hgc.size
  have hgw:=hgr0.trans hgc
  obtain ⟨k1,hs1,hc1⟩:=hxg.kys.ex
  obtain ⟨k3,hs3,hc3⟩:=hyg.kys.ex
  have l1:=hs1.len
  have l3:=hs3.len
  have hq1:=hxg.kids
  have hq2:=hyg.kids
  have hck:KyCells G wA [.slice ka kn kc] [key]:=⟨⟨_,_,_,rfl,hkg⟩,trivial⟩
  clear hgc hgr0
  apply T.any 14 [is (.pointer (some ⟨b3,1,none⟩)),is (.slice x.a2 x.n2 x.c2),is (.pointer (some ⟨b5,1,none⟩)),is (.slice y.a2 y.n2 y.c2),slsF 1 2 [cB na.kids,cB nb.kids],kidF G (jG 1 [cB na.kids,cB nb.kids] 2) (na.kids++nb.kids),
   is (.pointer (some ⟨b3,2,none⟩)),is (.slice x.a3 x.n3 x.c3),is (.slice ka kn kc),slF (λ _=>True) 1 1 1 [.slice ka kn kc],is (.pointer (some ⟨b5,2,none⟩)),is (.slice y.a3 y.n3 y.c3),slsF 1 3 [k1,[.slice ka kn kc],k3],kysF G (jG 1 [k1,[.slice ka kn kc],k3] 3) (na.keys++[key]++nb.keys)]
  ·rfl
  ·repeat' (first|exact bX|refine bU ?_ ?_)
   iterate 4
    ·(refine aQ rfl rfl rfl ?_);( intro wq _ _ hgq;(repeat (refine aG rfl rfl ?_;intro vq hvq;try (obtain rfl:=hvq)));(refine aM ?_))
     repeat (first|refine aK rfl yM rfl ?_|refine aF rfl rfl ?_|refine TL.nil ?_)
     exact aS rfl yG rfl
   ·(refine aQ rfl rfl rfl ?_);( intro wq _ _ hgq;(repeat (refine aG rfl rfl ?_;intro vq hvq;try (obtain rfl:=hvq)));(refine aM ?_))
    refine TL.buildSlice rfl rfl rfl rfl rfl ?_
    intro b' wa hga hba hsa hsb hsc
    repeat (refine TL.nil ?_)
    refine aS rfl yG ⟨_,_,_,rfl,(bR (sz:=1) (m:=2) hba hsc (by decide)).mono (λ _ _=>trivial),⟨_,_,_,rfl,((hq1.grow hgq).grow hga).mono (λ _ _=>trivial)⟩,⟨_,_,_,rfl,((hq2.grow hgq).grow hga).mono (λ _ _=>trivial)⟩,trivial⟩
   ·(refine aQ rfl rfl rfl ?_);( intro wq _ _ hgq;(repeat (refine aG rfl rfl ?_;intro vq hvq;try (obtain rfl:=hvq)));(refine aM ?_))
    obtain ⟨a6,c6,vs6,rfl,hs6,hp6⟩:=hvq
    refine aL 160 ?_
    refine aI rfl (join_i _ a6 2 c6 vs6 [cB na.kids,cB nb.kids] _ hs6 hp6 (by
     intro p hp u hu
     simp only [List.mem_cons,List.not_mem_nil,or_false] at hp
     rcases hp with rfl|rfl
     ·exact ints_one _ u hu
     ·exact ints_one _ u hu) (by show jG 1 [cB na.kids,cB nb.kids] 2≤_;rw [upN2,jJ,jJ];omega)) rfl ?_
    rintro v wr ⟨hown,hgr⟩
    rw [show ([cB na.kids,cB nb.kids]:List (List Value)).flatten=cB (na.kids++nb.kids) by simp [cB]] at hown
    obtain ⟨av,cv,rfl,hsv⟩:=cE hown
    repeat (refine TL.nil ?_)
    exact aS rfl yG ⟨_,_,rfl,hsv.mono (λ k hk=>hGF wq (by have:=hgq.size;omega) k hk.1)⟩
   iterate 3
    ·(refine aQ rfl rfl rfl ?_);( intro wq _ _ hgq;(repeat (refine aG rfl rfl ?_;intro vq hvq;try (obtain rfl:=hvq)));(refine aM ?_))
     repeat (first|(refine aB ?_;refine TL.pure rfl rfl ?_)|refine aK rfl yM rfl ?_|refine aF rfl rfl ?_|refine TL.nil ?_)
     exact aS rfl yG rfl
   ·(refine aQ rfl rfl rfl ?_);( intro wq _ _ hgq;(repeat (refine aG rfl rfl ?_;intro vq hvq;try (obtain rfl:=hvq)));(refine aM ?_))
    refine TL.buildSlice rfl rfl rfl rfl rfl ?_
    intro b' wa hga hba hsa hsb hsc
    repeat (refine TL.nil ?_)
    exact aS rfl yG ⟨_,rfl,(bR (sz:=1) (m:=1) hba hsc (by decide)).mono (λ _ _=>trivial)⟩
   iterate 2
    ·(refine aQ rfl rfl rfl ?_);( intro wq _ _ hgq;(repeat (refine aG rfl rfl ?_;intro vq hvq;try (obtain rfl:=hvq)));(refine aM ?_))
     repeat (first|refine aK rfl yM rfl ?_|refine aF rfl rfl ?_|refine TL.nil ?_)
     exact aS rfl yG rfl
   ·refine aQ rfl rfl rfl ?_
    intro wq _ _ hgq
    refine aG rfl rfl ?_
    intro v7 q7
    obtain rfl:=q7
    refine aG rfl rfl ?_
    rintro v9 ⟨a9,rfl,s9⟩
    refine aG rfl rfl ?_
    intro v11 q11
    obtain rfl:=q11
    refine aM ?_
    refine TL.buildSlice rfl rfl rfl rfl rfl ?_
    intro b' wa hga hba hsa hsb hsc
    repeat (refine TL.nil ?_)
    refine aS rfl yG ⟨_,_,_,rfl,(bR (sz:=1) (m:=3) hba hsc (by decide)).mono (λ _ _=>trivial),⟨_,_,_,rfl,((hs1.grow hgq).grow hga).mono (λ _ _=>trivial)⟩,⟨_,_,_,rfl,s9.grow hga⟩,⟨_,_,_,rfl,((hs3.grow hgq).grow hga).mono (λ _ _=>trivial)⟩,trivial⟩
   ·refine aQ rfl rfl rfl ?_
    intro wq _ _ hgq
    refine aG rfl rfl ?_
    rintro v12 ⟨a6,c6,vs6,rfl,hs6,hp6⟩
    refine aG rfl rfl ?_
    rintro v5 ⟨a5,c5,rfl,_⟩
    refine aM ?_
    refine aL 161 ?_
    refine aI rfl (join_k _ a6 3 c6 vs6 [k1,[.slice ka kn kc],k3] _ hs6 hp6 (by
     intro p hp u hu
     simp only [List.mem_cons,List.not_mem_nil,or_false] at hp
     rcases hp with rfl|rfl|rfl
     ·exact hc1.one u hu
     ·simp only [List.mem_singleton] at hu;subst hu;rfl
     ·exact hc3.one u hu) (by show jG 1 [k1,[.slice ka kn kc],k3] 3≤_;rw [upN3];simp only [List.length_cons,List.length_nil];omega)) rfl ?_
    rintro v wr ⟨hown,hgr⟩
    obtain ⟨av,cv,rfl,hnew⟩:=kys_of_own (F:=G) (l:=na.keys++[key]++nb.keys) hown (hGF wq (by have:=hgq.size;omega)) (by
     rw [show ([k1,[.slice ka kn kc],k3]:List (List Value)).flatten=k1++[.slice ka kn kc]++k3 by simp]
     exact KyCells.go (Carry.grow (hgq.trans hgr)) ((hc1.append hck).append hc3))
    repeat (refine TL.nil ?_)
    exact aS rfl yG ⟨_,_,rfl,hnew⟩
  ·intro wt lot hit hgt _ _
   iterate 5 (refine aG rfl rfl ?_;intro vq hvq;try (obtain rfl:=hvq))
   refine aG rfl rfl ?_
   rintro v5 ⟨a5,c5,rfl,h5⟩
   iterate 7 (refine aG rfl rfl ?_;intro vq hvq;try (obtain rfl:=hvq))
   refine aG rfl rfl ?_
   rintro v13 ⟨a13,c13,rfl,h13⟩
   refine aM ?_
   have e6':=e6.grow hgt
   have hgwt:=hgw.trans hgt
   have zt:=hgt.size
   clear e6 hgt e3 e5
   repeat (first|refine TL.nil ?_|refine aA ?_|(refine aP ?_;(refine aY rfl rfl yB (by exact rfl) (by exact rfl) (by exact rfl) ?_;intro w' hu hbk hsz))|refine TL.build rfl rfl rfl ?_|refine bC ?_)
   have cf:Carry G wt F w':=(Carry.upd hu (λ k hk _=>((hG k).1 hk).2)).trans (Carry.mono λ k hk _=>((hG k).1 hk).1)
   exact retC rfl (bY hbk rfl) ⟨_,rfl,⟨⟨none,0,0,a5,_,c5,a13,_,c13⟩,rfl,jU,h5.go cf,h13.go cf⟩,aZ hu (by omega) hgwt⟩
end Go.Proofs.YtfpadnmdafiddaaGreatDoor
namespace Go.V
open Go Go.RowKit
def mH (l:List Oper) (vs:Nat→Value):List Nat→dN→dN
 | [],e=>e
 | j::js,e=>mH l vs js (match lT l j with|some d=>(d,vs j)::e|none=>e)
def upB (dn:Nat→Bool) (i:Nat):Nat→Bool:=λ j=>Nat.beq j i || dn j
def upV (vs:Nat→Value) (i:Nat) (v:Value):Nat→Value:=λ j=>bif Nat.beq j i then v else vs j
def invQ (d:Option Nat) (i:Nat) (dn:Nat→Bool) (vs:Nat→Value) (J:(Nat→Bool)→(Nat→Value)→World→Prop):dO:=λ x e' w'=>match x with
 | .normal=>∃ v,(∀ t,d=some t→find e' t=some v)∧J (upB dn i) (upV vs i v) w'
 | _=>False
theorem kV {d i:Nat} {dn:Nat→Bool} {vs:Nat→Value} {v:Value} {J:(Nat→Bool)→(Nat→Value)→World→Prop} {e':dN} {w':World} (h:find e' d=some v) (hI:J (upB dn i) (upV vs i v) w'):invQ (some d) i dn vs J .normal e' w':=⟨v,λ t ht=>(by cases ht;exact h),hI⟩
theorem inv_end0 {i:Nat} {dn:Nat→Bool} {vs:Nat→Value} {J:(Nat→Bool)→(Nat→Value)→World→Prop} {e':dN} {w':World} (hI:J (upB dn i) (upV vs i undef) w'):invQ none i dn vs J .normal e' w':=⟨undef,λ t ht=>(by cases ht),hI⟩
def InvOp [Rn] (P:Program) (n:Nat) (l:List Oper) (e:dN) (J:(Nat→Bool)→(Nat→Value)→World→Prop) (i:Nat):Prop :=
 match l[i]? with
 | none=>True
 | some o=>∀ dn vs w,J dn vs w→dn i=false→(∀ x∈cD o,dn x=true)→TL P n l.toArray [o] (mH l vs (kQ (cD o)) e) w (invQ o.dst i dn vs J)
def AllInv [Rn] (P:Program) (n:Nat) (l:List Oper) (e:dN) (J:(Nat→Bool)→(Nat→Value)→World→Prop):Nat→Nat→Prop
 | _,0=>True
 | i,k+1=>InvOp P n l e J i∧AllInv P n l e J (i+1) k
theorem depEnvF_find {l:List Oper} {vs:Nat→Value}:∀ {js:List Nat} {e0:dN} {t:Nat} {v:Value},find (mH l vs js e0) t=some v→(∃ j∈js,lT l j=some t∧v=vs j)∨find e0 t=some v
 | [],e0,t,v,h=>.inr h
 | j::js,e0,t,v,h=>by
  unfold mH at h
  rcases depEnvF_find h with ⟨x,hx,h1⟩|h1
  ·exact .inl ⟨x,by simp [hx],h1⟩
  ·cases hd:lT l j with
   | none=>rw [hd] at h1;exact .inr h1
   | some d =>
    rw [hd] at h1
    simp only [fP] at h1
    by_cases ht:d=t
    ·rw [if_pos ht] at h1
     exact .inl ⟨j,by simp,by rw [hd,ht],(Option.some.inj h1).symm⟩
    ·rw [if_neg ht] at h1
     exact .inr h1
section
variable [Rn]
variable {P:Program} {n:Nat} {l:List Oper} {e:dN} {J:(Nat→Bool)→(Nat→Value)→World→Prop} {N:Nat} {Q:dO}
theorem allInv_at:∀ {k i:Nat},AllInv P n l e J i k→∀ j,i≤j→j<i+k→InvOp P n l e J j
 | 0,_,_,j,h1,h2=>by omega
 | k+1,i,h,j,h1,h2=>by
  by_cases hj:j=i
  ·subst hj;exact h.1
  ·exact allInv_at h.2 j (by omega) (by omega)
theorem allInv_end {i:Nat}:AllInv P n l e J i 0:=trivial
theorem allInv_cons {i k:Nat} (h:InvOp P n l e J i) (hs:AllInv P n l e J (i+1) k):AllInv P n l e J i (k+1):=⟨h,hs⟩
theorem lO {i:Nat} {d:Option Nat} {op:Op} {ty:TypeId} {pos:String} {aft:Array Edge} {js:List Nat} (ho:l[i]? = some ⟨d,op,ty,pos,aft,none⟩) (hj:kQ (cD ⟨d,op,ty,pos,aft,none⟩)=js)
  (h:∀ dn vs w,J dn vs w→dn i=false→(∀ x∈js,dn x=true)→TL P n #[] [⟨d,op,ty,pos,aft,none⟩] (mH l vs js e) w (invQ d i dn vs J)):InvOp P n l e J i:=by
 unfold InvOp
 rw [ho]
 simp only
 intro dn vs w hJ h0 h1
 subst hj
 exact TL.lone (h dn vs w hJ h0 (λ x hx=>h1 x (fF.1 hx)))
structure MidI (n:Nat) (l:List Oper) (e:dN) (J:(Nat→Bool)→(Nat→Value)→World→Prop) (N:Nat) (listed:Array Bool) (a:Act) (w:World) (vs:Nat→Value):Prop where
 size:listed.size=l.length
 inv:J (λ i=>listed.getD i false) vs w
 defers:a.defers=Rn.ds
 tmps:a.tmps.size=n
 get:∀ t v,find e t=some v→a.tmps.getD t undef=v
 did:∀ i,i<N→listed.getD i false=true→∀ d,lT l i=some d→a.tmps.getD d undef=vs i
 rest:∀ i,N≤i→listed.getD i false=false
 closed:∀ j o,l[j]? = some o→listed.getD j false=true→∀ x∈cD o,listed.getD x false=true
theorem inv_runs (hN:N≤l.length) (hh:∀ i,i<N→DHead l e n i) (hsink:∀ o,l[N]? = some o→∀ i,i<N→i∈cD o)
  (ht:∀ j,N≤j→j<l.length→∃ o,l[j]? = some o∧(∀ x∈cD o,x<j)∧(j=N∨j-1∈cD o)) (hdo:∀ i,i<N→InvOp P n l e J i)
  (htail:∀ dn vs w,J dn vs w→(∀ i,i<N→dn i=true)→TL P n l.toArray (l.drop N) (mH l vs (mT 0 N) e) w Q) :
  ∀ (m:Nat) (listed:Array Bool) (a:Act) (w:World) (vs:Nat→Value) (f:Nat),MidI n l e J N listed a w vs →
   ((List.range N).filter λ i=>!(listed.getD i false)).length=m→f=m+(l.length-N)→wpAnyIn (FR Rn.ro) 0 P .any l.toArray (iQ n Q) f listed a w:=by
 intro m
 induction m with
 | zero =>
  intro listed a w vs f mid hm hf
  have hall:∀ i,i<N→listed.getD i false=true:=by
   intro i hi
   have:=List.eq_nil_of_length_eq_zero hm
   have h2:=List.eq_nil_iff_forall_not_mem.1 this i
   simp only [List.mem_filter,List.mem_range,not_and,Bool.not_eq_true',Bool.not_eq_false] at h2
   exact h2 hi
  refine mW ht f N listed a w (by omega) (Nat.le_refl _) mid.size hall (λ x hx hx2=>?_) ?_
  ·have:=mid.rest x hx
   rw [Array.getD_eq_getD_getElem?] at this ⊢
   cases hy:listed[x]? with
   | none=>rw [Array.getElem?_eq_none_iff] at hy;have:=mid.size;omega
   | some b=>simpa [hy] using this
  ·refine (htail _ vs w mid.inv hall).out ⟨mid.defers,mid.tmps,λ t v hv=>?_⟩
   rcases depEnvF_find hv with ⟨j,hj,h1,rfl⟩|h3
   ·have hjN:=(fE.1 hj).2
    exact mid.did j (by omega) (hall j (by omega)) t h1
   ·exact mid.get t v h3
 | succ m ih =>
  intro listed a w vs f mid hm hf
  have hopen:∃ i,i<N∧listed.getD i false=false:=by
   have hne:((List.range N).filter λ i=>!(listed.getD i false))≠[]:=by intro h0;rw [h0] at hm;simp at hm
   obtain ⟨i,hi⟩:=List.exists_mem_of_ne_nil _ hne
   simp only [List.mem_filter,List.mem_range,Bool.not_eq_true'] at hi
   exact ⟨i,hi.1,hi.2⟩
  obtain ⟨f',rfl⟩:∃ f',f=f'+1:=⟨f-1,by omega⟩
  have hready:∀ j,j∈Region.ready .any l.toArray listed→j<N∧listed.getD j false=false:=by
   intro j hj
   obtain ⟨h3,o,h4,h5⟩:=dH.1 hj
   have hlt:j<l.length:=(List.getElem?_eq_some_iff.1 h4).1
   have hf2:listed.getD j false=false:=by
    rw [Array.getD_eq_getD_getElem?] at h3 ⊢
    cases hx:listed[j]? with
    | none=>simp
    | some b=>simpa [hx] using h3
   refine ⟨?_,hf2⟩
   rcases Nat.lt_or_ge j N with h|h
   ·exact h
   ·exfalso
    obtain ⟨o2,h6,_,h7⟩:=ht j h hlt
    rw [h4] at h6
    cases h6
    obtain ⟨i,hi,hi0⟩:=hopen
    by_cases hjN:j=N
    ·subst hjN
     have:=h5 i (hsink o h4 i hi)
     rw [hi0] at this
     cases this
    ·have h8:=h5 (j-1) (h7.resolve_left hjN)
     rw [mid.rest (j-1) (by omega)] at h8
     cases h8
  have hsome:Region.ready .any l.toArray listed≠[]:=by
   have key:∀ k i,i≤k→i<N→listed.getD i false=false→∃ j,j∈Region.ready .any l.toArray listed:=by
    intro k
    induction k with
    | zero =>
     intro i hi hiN hl
     obtain ⟨o,ho,_,hdeps⟩:=(hh i hiN).ex
     refine ⟨i,dH.2 ⟨?_,o,ho,λ x hx=>?_⟩⟩
     ·rw [Array.getD_eq_getD_getElem?] at hl ⊢
      cases hx:listed[i]? with
      | none=>rw [Array.getElem?_eq_none_iff] at hx;have:=mid.size;omega
      | some b=>simpa [hx] using hl
     ·have:=hdeps x hx;omega
    | succ k ihk =>
     intro i hi hiN hl
     obtain ⟨o,ho,_,hdeps⟩:=(hh i hiN).ex
     by_cases hx:∃ x∈cD o,listed.getD x false=false
     ·obtain ⟨x,hx1,hx2⟩:=hx
      have:=hdeps x hx1
      exact ihk x (by omega) (by omega) hx2
     ·refine ⟨i,dH.2 ⟨?_,o,ho,λ x hx1=>?_⟩⟩
      ·rw [Array.getD_eq_getD_getElem?] at hl ⊢
       cases hx:listed[i]? with
       | none=>rw [Array.getElem?_eq_none_iff] at hx;have:=mid.size;omega
       | some b=>simpa [hx] using hl
      ·cases hv:listed.getD x false with
       | true=>rfl
       | false=>exact absurd ⟨x,hx1,hv⟩ hx
   obtain ⟨i,hi,hi0⟩:=hopen
   obtain ⟨j,hj⟩:=key i i (Nat.le_refl _) hi hi0
   intro h0
   rw [h0] at hj
   cases hj
  refine ⟨λ h0=>absurd h0 hsome,λ i hir=>?_⟩
  obtain ⟨hiN,hil⟩:=hready i hir
  obtain ⟨_,o,ho,hdl⟩:=dH.1 hir
  obtain ⟨o',ho',hd,hdeps⟩:=(hh i hiN).ex
  rw [ho] at ho'
  cases ho'
  have hdst:lT l i=o.dst:=by simp [lT,ho]
  have hdo':=hdo i hiN
  unfold InvOp at hdo'
  simp only [ho] at hdo'
  have hfit:Fits n (mH l vs (kQ (cD o)) e) a:=⟨mid.defers,mid.tmps,λ t v hv=>by
   rcases depEnvF_find hv with ⟨j,hj,h1,rfl⟩|h3
   ·have hj':=fF.1 hj
    exact mid.did j (by have:=hdeps j hj';omega) (hdl j hj') t h1
   ·exact mid.get t v h3⟩
  have hrun:=(hdo' _ vs w mid.inv hil hdl).out hfit
  unfold wpOpIn
  rw [show l.toArray[i]? = some o by simpa using ho]
  simp only
  have hnext:∀ a' w',iQ n (invQ o.dst i (λ i=>listed.getD i false) vs J) .normal a' w'→(∃ v,a'.tmps=(a.put o.dst v).tmps)→wpAnyIn (FR Rn.ro) 0 P .any l.toArray (iQ n Q) f' (listed.setIfInBounds i true) a' w':=by
   rintro a' w' ⟨e',he',v0,hv,hI'⟩ ⟨u,hu⟩
   have hother:∀ t,o.dst≠some t→a'.tmps.getD t undef=a.tmps.getD t undef:=λ t htd=>by
    rw [hu]
    cases hod:o.dst with
    | none=>rfl
    | some d =>
     rw [jK (by rw [mid.tmps];exact (hd d hod).1),if_neg (λ h=>htd (by rw [hod,h]))]
   have hsz0:i<listed.size:=by rw [mid.size];exact (List.getElem?_eq_some_iff.1 ho).1
   have hIn:J (λ j=>(listed.setIfInBounds i true).getD j false) (upV vs i v0) w':=by
    have e1:(λ j=>(listed.setIfInBounds i true).getD j false)=upB (λ i=>listed.getD i false) i:=by
     funext j
     unfold upB
     by_cases hji:j=i
     ·subst hji
      rw [Nat.beq_refl,Bool.true_or]
      simp [Array.getD_eq_getD_getElem?,hsz0]
     ·rw [dV hji]
      have e2:Nat.beq j i=false:=by
       cases hb:Nat.beq j i with
       | false=>rfl
       | true=>exact absurd (Nat.eq_of_beq_eq_true hb) hji
      rw [e2,Bool.false_or]
    rw [e1]
    exact hI'
   refine ih (listed.setIfInBounds i true) a' w' (upV vs i v0) f' ⟨by simp [mid.size],hIn,he'.defers,he'.size,λ t v hv=>?_,λ j hj hjl d hjd=>?_,λ j hj=>?_,λ j oj hoj hjl x hx=>?_⟩ ?_ (by omega)
   ·rw [hother t (λ h=>by rw [(hd t h).2.1] at hv;cases hv)]
    exact mid.get t v hv
   ·by_cases hji:j=i
    ·subst hji
     rw [hdst] at hjd
     unfold upV
     rw [Nat.beq_refl]
     exact he'.get d _ (hv d hjd)
    ·rw [dV hji] at hjl
     have hne:o.dst≠some d:=by
      intro hod
      rcases Nat.lt_or_ge j i with h|h
      ·exact (hd d hod).2.2 j h hjd
      ·obtain ⟨oj,hoj,hdj,_⟩:=(hh j hj).ex
       have:lT l j=oj.dst:=by simp [lT,hoj]
       rw [this] at hjd
       exact (hdj d hjd).2.2 i (by omega) (by rw [hdst];exact hod)
     rw [hother d hne]
     have e2:Nat.beq j i=false:=by
      cases hb:Nat.beq j i with
      | false=>rfl
      | true=>exact absurd (Nat.eq_of_beq_eq_true hb) hji
     unfold upV
     rw [e2]
     exact mid.did j hj hjl d hjd
   ·rw [dV (by omega)]
    exact mid.rest j hj
   ·by_cases hxi:x=i
    ·subst hxi
     have hsz:x<listed.size:=by rw [mid.size];exact (List.getElem?_eq_some_iff.1 ho).1
     simp [Array.getD_eq_getD_getElem?,hsz]
    ·rw [dV hxi]
     by_cases hji:j=i
     ·subst hji
      rw [ho] at hoj
      cases hoj
      exact hdl x hx
     ·rw [dV hji] at hjl
      exact mid.closed j oj hoj hjl x hx
   ·have hcount:∀ (L:List Nat),L.Nodup→i∈L→(L.filter λ j=>!((listed.setIfInBounds i true).getD j false)).length+1=(L.filter λ j=>!(listed.getD j false)).length:=by
     intro L
     induction L with
     | nil=>intro _ h;cases h
     | cons x xs ihx =>
      intro hnd hmem
      rw [List.nodup_cons] at hnd
      have hsz:i<listed.size:=by rw [mid.size];exact (List.getElem?_eq_some_iff.1 ho).1
      by_cases hxi:x=i
      ·subst hxi
       have hsame:(xs.filter λ j=>!((listed.setIfInBounds x true).getD j false))=xs.filter λ j=>!(listed.getD j false):=by
        apply List.filter_congr
        intro y hy
        rw [dV (λ (h:y=x)=>hnd.1 (by rw [← h];exact hy))]
       have h1:(listed.setIfInBounds x true).getD x false=true:=by simp [Array.getD_eq_getD_getElem?,hsz]
       rw [List.filter_cons_of_neg (by simp [h1]),hsame,List.filter_cons_of_pos (by simp [hil])]
       simp
      ·have hmem':i∈xs:=by
        rcases List.mem_cons.1 hmem with h|h
        ·exact absurd h.symm hxi
        ·exact h
       have:=ihx hnd.2 hmem'
       have hx2:(listed.setIfInBounds i true).getD x false=listed.getD x false:=dV hxi
       cases hc:listed.getD x false with
       | true=>rw [List.filter_cons_of_neg (by simp [hx2,hc]),List.filter_cons_of_neg (by simp [hc])];exact this
       | false=>rw [List.filter_cons_of_pos (by simp [hx2,hc]),List.filter_cons_of_pos (by simp [hc])];simp only [List.length_cons];omega
    have:=hcount (List.range N) List.nodup_range (List.mem_range.2 hiN)
    omega
  unfold wpListIn at hrun
  split
  ·rename_i hw
   rw [if_pos hw] at hrun
   exact (Oper.wpIn_mono (λ a' w' hh=>hnext a' w' hh.1 hh.2) (wp_swap (wp_frame hrun) (λ x a w hx hq=>by
     refine (lift_no hq λ e0 w0 hq=>?_).elim
     cases x<;>first|exact absurd rfl hx|exact hq)))
  ·rename_i hw
   rw [if_neg hw] at hrun
   exact ⟨hrun.1,hnext _ _ hrun.2 ⟨undef,by cases o.dst<;>rfl⟩⟩
theorem T.inv {rid:Nat} {w0:World} (N:Nat) (J:(Nat→Bool)→(Nat→Value)→World→Prop) [hm:Mixed P] (hc:(headDet l e n 0 N&&mR l N N (l.length-N)&&Nat.ble N l.length&&sinkDet l N)=true) (h0:∀ w,Grow w0 w→J (λ _=>false) (λ _=>undef) w)
  (hdo:AllInv P n l e J 0 N) (htail:∀ dn vs w,J dn vs w→(∀ i,i<N→dn i=true)→TL P n l.toArray (l.drop N) (mH l vs (mT 0 N) e) w Q):T P n (.region rid l.toArray true) e w0 Q:=by
 simp only [Bool.and_eq_true] at hc
 obtain ⟨⟨⟨hc1,hc2⟩,hc3⟩,hc4⟩:=hc
 refine T.mk λ a ha=>wpIn_region_any hm.h ?_
 refine inv_runs (N:=N) (Nat.le_of_ble_eq_true hc3) (λ i hi=>headDet_at hc1 i (Nat.zero_le _) (by omega)) (λ o ho i hi=>?_) (λ j h1 h2=>lC hc2 j h1 (by omega)) (λ i hi=>allInv_at hdo i (Nat.zero_le _) (by omega)) htail
  N (Array.replicate l.toArray.size false) a _ (λ _=>undef) _ ⟨by simp,(by
   have e1:(λ i=>(Array.replicate l.toArray.size false).getD i false)=λ _=>false:=by
    funext i
    rw [Array.getD_eq_getD_getElem?]
    rcases Nat.lt_or_ge i l.length with hi|hi
    ·simp [hi]
    ·simp [hi]
   rw [e1];exact h0 _ (Grow.drew _)),ha.defers,ha.size,ha.get,λ i _ h=>?_,λ i _=>?_,λ j o _ h x _=>?_⟩ ?_ ?_
 ·unfold sinkDet at hc4
  rw [ho] at hc4
  exact any_beq.1 (List.all_eq_true.1 hc4 i (fE.2 ⟨Nat.zero_le _,by omega⟩))
 ·exfalso
  rw [Array.getD_eq_getD_getElem?] at h
  rcases Nat.lt_or_ge i l.length with hi|hi
  ·simp [hi] at h
  ·simp [hi] at h
 ·rw [Array.getD_eq_getD_getElem?]
  rcases Nat.lt_or_ge i l.length with hi|hi
  ·simp [hi]
  ·simp [hi]
 ·exfalso
  rw [Array.getD_eq_getD_getElem?] at h
  rcases Nat.lt_or_ge j l.length with hi|hi
  ·simp [hi] at h
  ·simp [hi] at h
 ·have:((List.range N).filter λ i=>!((Array.replicate l.toArray.size false).getD i false))=List.range N:=by
   rw [List.filter_eq_self]
   intro i hi
   rw [Array.getD_eq_getD_getElem?]
   rcases Nat.lt_or_ge i l.length with hi|hi
   ·simp [hi]
   ·simp [hi]
  rw [this]
  simp
 ·have:=Nat.le_of_ble_eq_true hc3
  simp
  omega
end
end Go.V
