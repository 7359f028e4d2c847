import Derived.Test.YtfpadnmdafiddaaGreatDoorMH
import Derived.Test.YtfpadnmdafiddaaGreatDoorMI
set_option linter.all false
set_option maxHeartbeats 16000000
set_option maxRecDepth 100000
namespace Go.V
open Go Go.RowKit
structure AppTo (w:World) (v:Value) (w':World) (v':Value):Prop where
 by_:w.grownBy w' v.ownBlock
 new:∀ j,j<w.heap.size→v.ownBlock≠some j→v'.ownBlock≠some j
theorem AppTo.refl (w:World) (v:Value):AppTo w v w v:=⟨⟨rfl,rfl,rfl,Nat.le_refl _,λ _ _ _=>rfl⟩,λ _ _ h=>h⟩
theorem AppTo.trans {w w1 w2:World} {v v1 v2:Value} (h:AppTo w v w1 v1) (k:AppTo w1 v1 w2 v2):AppTo w v w2 v2 :=
 ⟨⟨k.by_.os.trans h.by_.os,k.by_.tape.trans h.by_.tape,k.by_.output.trans h.by_.output,Nat.le_trans h.by_.size k.by_.size,λ j hj hne=>(k.by_.block j (Nat.lt_of_lt_of_le hj h.by_.size) (λ e=>h.new j hj (λ e2=>hne e2.symm) e.symm)).trans (h.by_.block j hj hne)⟩,
  λ j hj hne=>k.new j (Nat.lt_of_lt_of_le hj h.by_.size) (h.new j hj hne)⟩
theorem AppTo.grow {w w':World} (v:Value) (g:Grow w w'):AppTo w v w' v:=⟨⟨g.1.os,g.1.tape,g.1.output,g.2,λ k hk _=>g.block k hk⟩,λ _ _ h=>h⟩
theorem AppTo.upd {w0 w w':World} {v0 v:Value} {b:Nat} (h:AppTo w0 v0 w v) (u:Upd b w w') (hb:w0.heap.size≤b):AppTo w0 v0 w' v :=
 ⟨⟨u.os.trans h.by_.os,u.tape.trans h.by_.tape,u.output.trans h.by_.output,by rw [u.size];exact h.by_.size,λ k hk hne=>(u.block k (by omega)).trans (h.by_.block k hk hne)⟩,h.new⟩
theorem AppTo.below {w w':World} {v v':Value} {B:Nat} (h:AppTo w v w' v') (hB:B≤w.heap.size) (hv:∀ j,v.ownBlock=some j→B≤j):Below B w w' :=
 ⟨h.by_.os,h.by_.tape,h.by_.output,h.by_.size,λ k hk=>h.by_.block k (by omega) (λ e=>by have:=hv k e.symm;omega)⟩
theorem Carry.below {G:Nat→Prop} {w w':World} {B:Nat} (h:Below B w w') (hG:∀ k,G k→k<B):Carry G w G w':=⟨h.size,λ k hk _=>⟨hk,h.block k (hG k hk)⟩⟩
end Go.V
namespace Go.Proofs.YtfpadnmdafiddaaGreatDoor
open Go Go.RowKit Go.V
theorem sclone_c (F:Nat→Prop) (v:Value) (l:Bs) (w:World) (hbs:BsAt F w v l) (hm:l.length≤100000) :
  Calls Tryz.prog 95 #[v] w (Ret λ u w'=>BsAt (λ k=>w.heap.size≤k) w' u l∧Grow w w'):=by
 obtain ⟨a,c,rfl,hs⟩:=hbs.sl
 refine V.calls (args:=[_]) Tryz.func95 rfl Tryz.ntmps95 rfl rfl ?_
 cases a with
 | none =>
  have hrow:=hs.row
  simp only [Row] at hrow
  have hl0:l=[]:=by simpa [cX] using hrow
  subst hl0
  repeat (first|(refine aB ?_;refine TL.pure rfl rfl ?_)|(refine aD ?_;refine TL.pure rfl rfl ?_)|refine TL.nil ?_|refine aA ?_|refine aJ ?_|refine aC ?_|refine TL.eqNil rfl rfl rfl ?_|refine aM rfl ?_|refine bE ?_|refine bI ?_)
  exact cI rfl ⟨_,rfl,⟨_,_,_,rfl,by simp [cX],Nat.le_refl _,Nat.zero_le _,λ _=>rfl,by simp [Row,cX]⟩,yG⟩
 | some ad =>
  repeat (first|(refine aB ?_;refine TL.pure rfl rfl ?_)|(refine aD ?_;refine TL.pure rfl rfl ?_)|refine TL.nil ?_|refine aA ?_|refine aJ ?_|refine aC ?_|refine TL.eqNil rfl rfl rfl ?_|(refine TL.isBuildS ?_;(refine lR rfl ?_;intro bk w' hg hbk hsz hsz'))|refine aE rfl ?_|refine aW ?_)
  refine kE rfl rfl (own_empty (base:=w.heap.size) hbk (by omega)) (hs.grow yG) (eD l) (by omega) (by omega) rfl ?_
  intro v w2 hown hg2
  repeat (first|(refine aD ?_;refine TL.pure rfl rfl ?_)|refine TL.nil ?_|refine aA ?_|refine bE ?_)
  obtain ⟨a2,c2,rfl,hsl⟩:=bX hown
  exact cI rfl ⟨_,rfl,⟨_,_,_,rfl,hsl.mono (λ k hk=>hk.1)⟩,yG⟩
structure ItsOwn (B:Nat) (w:World) (v:Value) (l:dO):Prop where
 ex:∃ cs,w.ownsRow B 58 2 v l.length cs∧ItCells (λ j=>B≤j∧v.ownBlock≠some j) w cs l
theorem ItsOwn.nil (B:Nat) (w:World):ItsOwn B w (.slice none 0 0) []:=⟨[],World.ownsRow_nil w B _ _,trivial⟩
theorem ItsOwn.at_ {B:Nat} {w:World} {v:Value} {l:dO} (h:ItsOwn B w v l):∃ a c,v=.slice a l.length c∧ItsAt (λ k=>B≤k) w a l.length c l:=by
 obtain ⟨cs,h1,h2⟩:=h.ex
 obtain ⟨a,c,rfl,hs⟩:=bX h1
 exact ⟨a,c,rfl,cs,hs.mono (λ k hk=>hk.1),h2.go (Carry.mono λ k hk _=>hk.1)⟩
theorem ItsOwn.grow {B:Nat} {w w':World} {v:Value} {l:dO} (h:ItsOwn B w v l) (g:Grow w w'):ItsOwn B w' v l:=by
 obtain ⟨cs,h1,h2⟩:=h.ex
 exact ⟨cs,cL h1 g,h2.go (Carry.grow g)⟩
theorem ItsOwn.upd {B b:Nat} {w w':World} {v:Value} {l:dO} (h:ItsOwn B w v l) (u:Upd b w w') (hb:b<B):ItsOwn B w' v l:=by
 obtain ⟨cs,h1,h2⟩:=h.ex
 exact ⟨cs,own_upd h1 u hb,h2.go (Carry.upd u λ k hk _=>by omega)⟩
theorem ItsOwn.lt {B:Nat} {w:World} {v:Value} {l:dO} (h:ItsOwn B w v l):∀ j,v.ownBlock=some j→B≤j∧j<w.heap.size:=by
 obtain ⟨cs,h1,h2⟩:=h.ex
 exact h1.lt
def bsF {B:Nat} (B0:Nat) (l:Bs):SFact B:={ G:=λ v _ _ w=>BsAt (λ k=>B0≤k) w v l,st:=λ v _ _ w w' g h=>h.go (Carry.grow g) }
def itF {B:Nat} (B0:Nat) (x:Bs×Bs):SFact B:={ G:=λ v _ _ w=>∃ kv vv,v=.agg #[kv,vv]∧BsAt (λ k=>B0≤k) w kv x.1∧BsAt (λ k=>B0≤k) w vv x.2,st:=λ v _ _ w w' g h=>by obtain ⟨kv,vv,h0,h1,h2⟩:=h;exact ⟨kv,vv,h0,h1.go (Carry.grow g),h2.go (Carry.grow g)⟩ }
theorem itemsP_at {M:eR} {f n:Nat} {t:Part} (h:gK M n=some t):fT M (f+1) n=t.node.items++t.node.kids.flatMap (fT M f):=by
 rw [fT,h]
def ItemsC (M:eR) (f:Nat):Prop:=∀ (w:World) (B b m p n:Nat) (v:Value) (acc:dO) (G:Nat→Prop),DeepM M f n→n<4294967296→Blk w b 226 [.pointer (some ⟨p,0,none⟩),.map (some m)]→MemAt G w m M→(∀ k,G k→k<B)→b<B→m<B→B≤w.heap.size→ItsOwn B w v acc→(acc++fT M f n).length≤1000000 →
 Calls Tryz.prog 101 #[.pointer (some ⟨b,0,none⟩),.int .i64 (n:Int),v] w (Ret λ u w'=>ItsOwn B w' u (acc++fT M f n)∧AppTo w v w' u)
theorem items_of {M:eR} {f:Nat} (ih:ItemsC M f):ItemsC M (f+1):=by
 intro w B b m p n v acc G hdeep hn hbw hM hGB hbB hmB hBw hv hlen
 obtain ⟨t,htn,hkd⟩:=hdeep
 rw [itemsP_at htn] at hlen ⊢
 have hbl:=hbw.lt
 have hml:=hM.lt
 have hvlt:=hv.lt
 refine V.calls (args:=[_,_,_]) Tryz.func101 rfl Tryz.ntmps101 rfl rfl ?_
 repeat (first|(refine aB ?_;refine TL.pure rfl rfl ?_)|(refine aD ?_;refine TL.pure rfl rfl ?_)|refine TL.nil ?_|refine aA ?_|refine aJ ?_|refine aC ?_)
 refine aL 163 ?_
 refine aI rfl (wnode_c hbw hM hn htn) rfl ?_
 rintro _ w1 ⟨x,rfl,hx,hg1⟩
 have z1:=hg1.size
 repeat (first|(refine aB ?_;refine TL.pure rfl rfl ?_)|refine aK rfl yM rfl ?_|refine aF rfl rfl ?_|refine TL.nil ?_|refine aA ?_|refine aJ ?_|refine aC ?_|refine T.block ?_|(refine aP ?_;(refine bA rfl rfl yB (by exact rfl) (by exact rfl) (by exact rfl) ?_;intro w' hu hbk hsz))|(refine bF ?_;(refine TL.alloc rfl rfl ?_;intro bk w' hg hbk hsz hsz'))|refine aO rfl rfl ?_)
 obtain ⟨b7,rfl⟩:∃ z,z=bk:=⟨bk,rfl⟩
 have hgr0:Grow w w':=hg1.trans (aX hu (by omega) hg)
 have hx0:NdAt G w' x t.node:=hx.go (Carry.grow (aX hu (by omega) hg))
 have e7:Blk w' b7 79 x.cs:=hbk
 have hb0:=hbw.grow hgr0
 have hM0:MemAt G w' m M:=hM.go (Carry.grow hgr0) (hgr0.block m hml)
 have hv0:=hv.grow hgr0
 have z0:=hgr0.size
 have q7:w.heap.size≤b7∧b7<w'.heap.size:=by have:=hu.size;omega
 have n7:v.ownBlock≠some b7:=λ e=>by have:=hvlt b7 e;omega
 clear hbk hu hg hg1 hx
 obtain ⟨w0,rfl⟩:∃ z,z=w':=⟨w',rfl⟩
 obtain ⟨nn1,nn2,nn3⟩:=hx0.nums
 have hok:cE t.node=true:=by
  obtain ⟨fm,hmf,hm0,hm1⟩:=id hM
  obtain ⟨y,lo,hi,_,hpa⟩:=hm1 n t htn
  exact hpa.ok
 have h8:=sizeN_le hok
 have h81:x.n1≤8∧x.n2≤8:=by unfold bJ at h8;omega
 obtain ⟨h811,h812⟩:=h81
 obtain ⟨cs,hcs,hcc⟩:=hx0.its.ex
 have hbel:∀ {w1:World} {v1:Value},AppTo w0 v w1 v1→Below B w0 w1:=λ h=>h.below (by omega) (λ j hj=>(hvlt j hj).1)
 refine cU (S:=Nat×Value) (λ q=>[(18,.int .i64 (q.1:Int)),(17,.int .i64 (x.n1:Int)),(16,.slice x.a1 x.n1 x.c1),(7,.pointer (some ⟨b7,0,none⟩)),(2,q.2),(0,.pointer (some ⟨b,0,none⟩))])
  (λ q w1=>q.1≤x.n1∧ItsOwn B w1 q.2 (acc++t.node.items.take q.1)∧AppTo w0 v w1 q.2∧Blk w1 b7 79 x.cs∧q.2.ownBlock≠some b7) (λ q=>x.n1-q.1) (0,v) ⟨rfl,rfl,rfl,rfl,rfl,rfl,trivial⟩
  ⟨by simp only;omega,by simpa using hv0,AppTo.refl _ _,e7,n7⟩ ?_
 clear hv0 e7
 rintro ⟨i,v1⟩ w1 ⟨hi,hv1,ha1,e7,n71⟩
 simp only at hi hv1 ha1 n71
 have z1:=ha1.by_.size
 have hv1lt:=hv1.lt
 have c1:Carry G w0 G w1:=Carry.below (hbel ha1) hGB
 by_cases hlt:i<x.n1
 ·obtain ⟨el,hel⟩:∃ q,t.node.items[i]? = some q:=⟨_,List.getElem?_eq_getElem (by omega)⟩
  have hcs1:=hcs.go c1
  have hlk:el.1.length≤16∧el.2.length≤32:=by
   have hlf:cK t.node=true:=by
    cases hc:cK t.node with
    | true=>rfl
    | false =>
     unfold cE at hok
     rw [hc] at hok
     simp only [Bool.false_eq_true,if_false] at hok
     rw [(cT hok).1] at hel
     simp at hel
   unfold cE at hok
   rw [if_pos hlf] at hok
   have hik:=mB (dL hok).2.2 (List.mem_of_getElem? hel)
   exact ⟨(gJ hik.1).2,jA hik.2⟩
  obtain ⟨hlk1,hlk2⟩:=hlk
  obtain ⟨kv,vv,f0,f1,hk,hvl⟩:=(hcc.go c1).at' hel
  obtain ⟨ka,kc,rfl,hks⟩:=hk.sl
  obtain ⟨va,vc,rfl,hvs⟩:=hvl.sl
  rw [Nat.mul_comm] at f0 f1
  have htk:t.node.items.take (i+1)=t.node.items.take i++[el]:=by rw [List.take_add_one,hel];rfl
  repeat (first|(refine bC ?_;refine aV (j:=i) rfl rfl rfl hlt rfl ⟨_,_,hcs1⟩ rfl ?_)|(refine aY ?_;refine eL (o:=i*2) rfl (hcs1.grow yG) (two_at f0 f1) rfl rfl ?_)|refine TL.nil ?_|refine aA ?_|refine aJ ?_|refine aC ?_|refine T.block ?_|(refine aH ?_;refine aZ rfl yD rfl ?_)|(refine aP ?_;(refine bA rfl rfl yB (by exact rfl) (by exact rfl) (by exact rfl) ?_;intro w' hu hbk hsz))|(refine bF ?_;(refine TL.alloc rfl rfl ?_;intro bk w' hg hbk hsz hsz'))|refine aM rfl ?_|refine aW ?_)
  obtain ⟨b9,rfl⟩:∃ z,z=bk:=⟨bk,rfl⟩
  have hgr9:Grow w1 w':=aX hu (by omega) hg
  have hbk9:Blk w' b9 58 [.slice ka el.1.length kc,.slice va el.2.length vc]:=hbk
  have hv9:=hv1.grow hgr9
  have e79:=e7.grow hgr9
  have hks9:BsAt G w' (.slice ka el.1.length kc) el.1:=hk.go (Carry.grow hgr9)
  have hvs9:BsAt G w' (.slice va el.2.length vc) el.2:=hvl.go (Carry.grow hgr9)
  have z9:w1.heap.size≤w'.heap.size:=hgr9.2
  have ha9:AppTo w0 v w' v1:=ha1.trans (AppTo.grow v1 hgr9)
  clear hbk hu hg hv1 e7 hcs1 hks hvs hk hvl c1 hsz hsz'
  obtain ⟨w9,rfl⟩:∃ z,z=w':=⟨w',rfl⟩
  apply T.any 9 [is v1,is (.pointer (some ⟨b9,0,none⟩)),is (.slice ka el.1.length kc),bsF w9.heap.size el.1,is (.pointer (some ⟨b9,1,none⟩)),is (.slice va el.2.length vc),bsF w9.heap.size el.2,itF w9.heap.size el,itsF (λ k=>w9.heap.size≤k) 1 [el]]
  ·rfl
  ·repeat' (first|exact bW|refine bU ?_ ?_)
   iterate 3
    ·(refine aR rfl rfl rfl ?_);( intro wq _ _ hgq;(repeat (refine aG rfl rfl ?_;intro vq hvq;try (obtain rfl:=hvq)));(refine aN ?_))
     repeat (first|(refine aB ?_;refine TL.pure rfl rfl ?_)|refine aK rfl yM rfl ?_|refine aF rfl rfl ?_|refine TL.nil ?_)
     exact aT rfl yG rfl
   ·(refine aR rfl rfl rfl ?_);( intro wq _ _ hgq;(repeat (refine aG rfl rfl ?_;intro vq hvq;try (obtain rfl:=hvq)));(refine aN ?_))
    have zq:=hgq.size
    refine aL 95 ?_
    refine aI rfl (sclone_c G _ el.1 _ (hks9.go (Carry.grow hgq)) (by omega)) rfl ?_
    rintro u wr ⟨hu,hgr⟩
    repeat (refine TL.nil ?_)
    exact aT rfl yG (hu.go (Carry.mono λ k hk _=>by omega))
   iterate 2
    ·(refine aR rfl rfl rfl ?_);( intro wq _ _ hgq;(repeat (refine aG rfl rfl ?_;intro vq hvq;try (obtain rfl:=hvq)));(refine aN ?_))
     repeat (first|refine aK rfl yM rfl ?_|refine aF rfl rfl ?_|refine TL.nil ?_)
     exact aT rfl yG rfl
   ·(refine aR rfl rfl rfl ?_);( intro wq _ _ hgq;(repeat (refine aG rfl rfl ?_;intro vq hvq;try (obtain rfl:=hvq)));(refine aN ?_))
    have zq:=hgq.size
    refine aL 95 ?_
    refine aI rfl (sclone_c G _ el.2 _ (hvs9.go (Carry.grow hgq)) (by omega)) rfl ?_
    rintro u wr ⟨hu,hgr⟩
    repeat (refine TL.nil ?_)
    exact aT rfl yG (hu.go (Carry.mono λ k hk _=>by omega))
   ·refine aR rfl rfl rfl ?_
    intro wq _ _ hgq
    refine aG rfl rfl ?_
    intro kv hkv
    refine aG rfl rfl ?_
    intro vv hvv
    refine aN ?_
    obtain ⟨q1,q2,rfl,q3⟩:=BsAt.sl hkv
    obtain ⟨r1,r2,rfl,r3⟩:=BsAt.sl hvv
    repeat (first|refine TL.nil ?_|refine TL.build rfl rfl rfl ?_)
    exact aT rfl yG ⟨_,_,rfl,⟨_,_,_,rfl,q3⟩,⟨_,_,_,rfl,r3⟩⟩
   ·refine aR rfl rfl rfl ?_
    intro wq _ _ hgq
    refine aG rfl rfl ?_
    rintro vq ⟨kv,vv,rfl,hkv,hvv⟩
    refine aN ?_
    have zq:=hgq.size
    obtain ⟨q1,q2,rfl,q3⟩:=BsAt.sl hkv
    obtain ⟨r1,r2,rfl,r3⟩:=BsAt.sl hvv
    refine TL.buildSlice rfl rfl rfl rfl rfl ?_
    intro b' wa hga hba hsa hsb hsc
    have hit:ItsAt (λ k=>w9.heap.size≤k) wa (some ⟨b',0,none⟩) 1 1 [el]:=⟨_,(bR (sz:=2) (m:=1) (show Blk wa b' 58 [.slice q1 el.1.length q2,.slice r1 el.2.length r2] from hba) rfl (by decide)).mono (λ k hk=>by subst hk;omega),⟨_,_,_,rfl,q3.grow hga⟩,⟨_,_,_,rfl,r3.grow hga⟩,trivial⟩
    repeat (refine TL.nil ?_)
    exact aT rfl yG ⟨_,_,rfl,hit⟩
  ·intro wt lot hit' hgt _ _
   refine aG rfl rfl ?_
   intro vq hvq
   obtain rfl:=Eq.symm hvq
   iterate 7 (refine aG rfl rfl ?_;intro vq hvq;try (obtain rfl:=hvq))
   refine aG rfl rfl ?_
   rintro vt ⟨av,cv,rfl,hnew⟩
   refine aN ?_
   have zt:=hgt.size
   obtain ⟨ncs,hns,hnc⟩:=hnew.ex
   obtain ⟨ocs,hown,hoc⟩:=(hv9.grow hgt).ex
   have e7t:=e79.grow hgt
   have hat:AppTo w0 v wt v1:=ha9.trans (AppTo.grow v1 hgt)
   have hll:(acc++t.node.items.take i).length+1≤1000000:=by
    simp only [List.length_append,List.length_take] at hlen ⊢
    omega
   refine iF rfl rfl hown hns (ItCells.one hnc) (by unfold maxLen;omega) (by omega) (by omega) rfl ?_
   intro v' w10 hown' hgb hcar
   have hap:AppTo wt v1 w10 v':=⟨hgb,λ j hj hne=>((hcar (λ _=>True)).blk j ⟨trivial,hne⟩ hj).1.2⟩
   have e710:Blk w10 b7 79 x.cs:=eW e7t (hgb.block b7 (by omega) (λ e=>n71 e.symm))
   have hnc2:ItCells (λ j=>B≤j∧v'.ownBlock≠some j) w10 ncs [el]:=(hnc.go (F':=λ j=>B≤j∧v1.ownBlock≠some j) (Carry.mono λ k hk _=>⟨by omega,λ e=>by have:=hv1lt k e;omega⟩)).go (hcar _)
   have hoc2:=(hoc.go (hcar (λ j=>B≤j))).append hnc2
   have n72:v'.ownBlock≠some b7:=hap.new b7 (by omega) n71
   clear hvq hown hoc hcar e7t e79 hv9
   repeat (first|(refine aB ?_;refine TL.pure rfl rfl ?_)|(refine aD ?_;refine TL.pure rfl rfl ?_)|(refine bL ?_;refine bT rfl rfl (by omega) rfl ?_)|refine TL.nil ?_|refine aA ?_|refine aC ?_|refine aS ?_)
   refine bG (i+1,v') ⟨rfl,rfl,rfl,rfl,rfl,rfl,trivial⟩ ⟨by simp only;omega,?_,hat.trans hap,e710,n72⟩ (by simp only;omega)
   simp only [htk]
   rw [← List.append_assoc]
   exact ⟨_,by simpa only [List.length_append,List.length_cons,List.length_nil] using hown',hoc2⟩
 ·have hi2:i=x.n1:=by omega
  subst hi2
  rw [List.take_of_length_le (by omega)] at hv1
  repeat (first|(refine aB ?_;refine TL.pure rfl rfl ?_)|refine aK rfl yM rfl ?_|refine aF rfl rfl ?_|refine TL.nil ?_|refine aA ?_|refine aJ ?_|refine aC ?_|refine T.block ?_|(refine aH ?_;refine aQ rfl yD rfl ?_)|refine aO rfl rfl ?_|refine aE rfl ?_|refine cV ?_|refine bN ?_|refine bP ?_|refine bO ?_)
  refine cU (S:=Nat×Value) (λ q=>[(36,.int .i64 (q.1:Int)),(35,.int .i64 (x.n2:Int)),(34,.slice x.a2 x.n2 x.c2),(2,q.2),(0,.pointer (some ⟨b,0,none⟩))])
   (λ q w2=>q.1≤x.n2∧ItsOwn B w2 q.2 (acc++(t.node.items++(t.node.kids.take q.1).flatMap (fT M f)))∧AppTo w0 v w2 q.2) (λ q=>x.n2-q.1) (0,v1) ⟨rfl,rfl,rfl,rfl,rfl,trivial⟩
   ⟨by simp only;omega,by simpa using hv1,ha1⟩ ?_
  clear hv1 e7 n71 hv1lt c1 ha1 z1 hi hlt
  rintro ⟨j,v2⟩ w2 ⟨hj,hv2,ha2⟩
  simp only at hj hv2 ha2
  have z2:=ha2.by_.size
  have hb2:=hbel ha2
  have c2:Carry G w0 G w2:=Carry.below hb2 hGB
  have ckid:=hx0.kids.go c2
  by_cases hlj:j<x.n2
  ·obtain ⟨kid,hkid⟩:∃ q,t.node.kids[j]? = some q:=⟨_,List.getElem?_eq_getElem (by omega)⟩
   have hcx:w2.cell? (at' x.a2 j)=some (.int .i64 (kid:Int)):=ckid.row.cell (by rw [show cM t.node.kids=t.node.kids.map λ (k:Nat)=>(.int .i64 (k:Int):Value) from rfl,List.getElem?_map,hkid];rfl)
   have htk:t.node.kids.take (j+1)=t.node.kids.take j++[kid]:=by rw [List.take_add_one,hkid];rfl
   have hk31:kid<4294967296:=by
    unfold cE at hok
    have hnl:cK t.node=false:=by
     cases hc:cK t.node with
     | true=>rw [dK] at hc;rw [hc] at nn2;simp at nn2;omega
     | false=>rfl
    rw [hnl] at hok
    simp only [Bool.false_eq_true,if_false] at hok
    obtain ⟨_,_,_,_,hokd,_⟩:=cT hok
    have:=kid_ok hokd (List.mem_of_getElem? hkid)
    omega
   have hbw2:Blk w2 b 226 [.pointer (some ⟨p,0,none⟩),.map (some m)]:=eW hb0 (hb2.block b hbB)
   have hM2:MemAt G w2 m M:=hM0.go c2 (hb2.block m hmB)
   have hle:((acc++(t.node.items++(t.node.kids.take j).flatMap (fT M f)))++fT M f kid).length≤1000000:=by
    have hsp:(t.node.kids.flatMap (fT M f)).length=((t.node.kids.take (j+1)).flatMap (fT M f)).length+((t.node.kids.drop (j+1)).flatMap (fT M f)).length:=by
     rw [← List.length_append,← List.flatMap_append,List.take_append_drop]
    rw [htk] at hsp
    simp only [List.length_append,List.flatMap_append,List.flatMap_cons,List.flatMap_nil,List.length_nil] at hsp hlen ⊢
    omega
   have hcall:=ih w2 B b m p kid v2 (acc++(t.node.items++(t.node.kids.take j).flatMap (fT M f))) G (hkd kid (List.mem_of_getElem? hkid)) hk31 hbw2 hM2 hGB hbB hmB (by omega) hv2 hle
   repeat (first|(refine bC ?_;refine aV (j:=j) rfl rfl rfl hlj (Nat.mul_one _) ⟨_,_,ckid⟩ rfl ?_)|(refine aB ?_;refine TL.pure rfl rfl ?_)|(refine aD ?_;refine TL.pure rfl rfl ?_)|refine aK rfl yM rfl ?_|refine TL.nil ?_|refine aA ?_|refine aJ ?_|refine aC ?_|refine T.block ?_|(refine aH ?_;refine aZ rfl yD rfl ?_)|refine aM rfl ?_|refine aW ?_)
   refine aL 101 ?_
   refine aI rfl hcall rfl ?_
   rintro v3 w3 ⟨hv3,ha3⟩
   repeat (first|(refine aB ?_;refine TL.pure rfl rfl ?_)|(refine aD ?_;refine TL.pure rfl rfl ?_)|(refine bL ?_;refine bT rfl rfl (by omega) rfl ?_)|refine TL.nil ?_|refine aA ?_|refine aC ?_|refine aS ?_)
   refine bG (j+1,v3) ⟨rfl,rfl,rfl,rfl,rfl,trivial⟩ ⟨by simp only;omega,?_,ha2.trans ha3⟩ (by simp only;omega)
   simp only [htk,List.flatMap_append,List.flatMap_cons,List.flatMap_nil,List.append_nil]
   simpa only [List.append_assoc] using hv3
  ·have hj2:j=x.n2:=by omega
   subst hj2
   rw [List.take_of_length_le (by omega)] at hv2
   repeat (first|(refine aB ?_;refine TL.pure rfl rfl ?_)|(refine aD ?_;refine TL.pure rfl rfl ?_)|refine TL.nil ?_|refine aA ?_|refine aJ ?_|refine aC ?_|(refine aH ?_;refine aQ rfl yD rfl ?_)|refine aE rfl ?_|refine bE ?_|refine cV ?_|refine bN ?_|refine bP ?_|refine bO ?_)
   exact cI rfl ⟨_,rfl,hv2,(AppTo.grow v hgr0).trans ha2⟩
theorem items_c (M:eR):∀ f,ItemsC M f
 | 0=>λ w B b m p n v acc G hd=>hd.elim
 | f+1=>items_of (items_c M f)
theorem all_c {L:PL} {g:Pg} {w:World} {lv:Nat} {M':eR} {root:Option Nat} (h:PgAt w L g) (hr:∀ n,root=some n→n<4294967296) (ht:treeP g root []=some (lv,M')) (l:dO) (hl:l.length≤1000000)
  (hd:∀ n,root=some n→∃ f,DeepM M' f n∧l=fT M' f n) (hn:root=none→l=[]) :
  Calls Tryz.prog 27 #[.pointer (some ⟨L.p,0,none⟩),.int .i64 (dF root)] w (Ret λ v w'=>(∃ a c,v=.tuple #[.slice a l.length c,.int .i64 0]∧ItsAt (λ k=>w.heap.size≤k) w' a l.length c l)∧Grow w w'):=by
 have hlts:=h.lts
 refine V.calls (args:=[_,_]) Tryz.func27 rfl Tryz.ntmps27 rfl rfl ?_
 repeat (first|(refine aB ?_;refine TL.pure rfl rfl ?_)|(refine aD ?_;refine TL.pure rfl rfl ?_)|refine TL.nil ?_|refine aA ?_|refine aJ ?_|refine aC ?_)
 refine aL 87 ?_
 refine aI rfl (walk_new L.p w) rfl ?_
 rintro _ w1 ⟨b,m,rfl,hb,hm,hwk,hg1⟩
 have hbl:=hwk.blk.lt
 have hml:=hwk.map.lt
 repeat (first|(refine aB ?_;refine TL.pure rfl rfl ?_)|(refine aD ?_;refine TL.pure rfl rfl ?_)|refine TL.nil ?_|refine aA ?_|refine aJ ?_|refine aC ?_)
 refine aL 88 ?_
 refine aI rfl (walked_c h hg1 hwk hb hm hr ht) rfl ?_
 rintro _ w2 ⟨rfl,hM,hbw,hg2⟩
 have z2:=hg2.size
 have hbl2:=hbw.lt
 have hml2:=hM.lt
 cases root with
 | none =>
  obtain rfl:=hn rfl
  simp only [dF]
  repeat (first|(refine aB ?_;refine TL.pure rfl rfl ?_)|(refine aD ?_;refine TL.pure rfl rfl ?_)|refine TL.nil ?_|refine aA ?_|refine aJ ?_|refine aC ?_|(refine aH ?_;refine TL.pure rfl rfl ?_)|refine aM rfl ?_|refine aE rfl ?_|refine bE ?_|refine aW ?_|refine bI ?_|refine TL.pure rfl rfl ?_)
  exact jM rfl rfl ⟨_,rfl,⟨none,0,rfl,jS⟩,hg2⟩
 | some n =>
  obtain ⟨f,hdp,rfl⟩:=hd n rfl
  have hn:=hr n rfl
  simp only [dF]
  have hne:(((n:Nat):Int)==-1)=false:=by rw [beq_eq_false_iff_ne];omega
  repeat (first|(refine aB ?_;refine TL.pure rfl rfl ?_)|(refine aD ?_;refine TL.pure rfl rfl ?_)|refine TL.nil ?_|refine aA ?_|refine aJ ?_|refine aC ?_|(refine aH ?_;refine TL.pure rfl rfl ?_)|refine aE rfl ?_|refine aW ?_|refine TL.pure rfl rfl ?_)
  refine aL 101 ?_
  refine aI rfl (items_c M' f w2 w2.heap.size b m L.p n (.slice none 0 0) [] (λ k=>k<w2.heap.size∧k≠m) hdp hn hbw (hM.go (Carry.mono λ k hk hl=>⟨hl,hk⟩) rfl) (λ k hk=>hk.1) hbl2 hml2 (Nat.le_refl _) (ItsOwn.nil _ _) (by simpa using hl)) rfl ?_
  rintro v3 w3 ⟨hv3,ha3⟩
  rw [List.nil_append] at hv3
  obtain ⟨a,c,rfl,hit⟩:=hv3.at_
  have hg3:Grow w2 w3:=⟨ha3.below (Nat.le_refl _) (λ j hj=>by cases hj),ha3.by_.size⟩
  repeat (first|(refine aD ?_;refine TL.pure rfl rfl ?_)|refine TL.nil ?_|refine aA ?_|refine bE ?_)
  exact jM rfl rfl ⟨_,rfl,⟨a,c,rfl,hit.go (Carry.mono λ k hk _=>by omega)⟩,hg2.trans hg3⟩
end Go.Proofs.YtfpadnmdafiddaaGreatDoor
namespace Go.Proofs.YtfpadnmdafiddaaGreatDoor
open Go Go.RowKit Go.V
theorem of_drop_take {cs L:List Value} {o n:Nat} (h:(cs.drop o).take n=L):∀ j v,L[j]? = some v→cs[o+j]? = some v:=by
 intro j v hj
 rw [← h,List.getElem?_take] at hj
 split at hj
 ·rw [List.getElem?_drop] at hj;exact hj
 ·cases hj
theorem get_c {w:World} {L:PL} {g:Pg} (h:PgAt w L g) (K:Nat→Prop) (a:Option Addr) (m c n:Nat) (key v:Bs) (fr:List (Nd×Nat)) (nd:Nd) (i:Nat) (hk:Sl K w 1 a m c (cX key)) (hko:dB key=true) (hn:n<4294967296) (hp:gZ g key 16 n=some (fr,true)) (hf:fr[fr.length-1]? = some (nd,i)) (hi:nd.items[i]? = some (key,v)) (hv:v.length≤100) :
  Calls Tryz.prog 24 #[.pointer (some ⟨L.p,0,none⟩),.int .i64 (n:Int),.slice a m c] w (Ret λ u w'=>(∃ q,u=.tuple #[q,.int .i64 0]∧BsAt (λ k=>w.heap.size≤k) w' q v)∧Grow w w'):=by
 refine V.calls (args:=[_,_,_]) Tryz.func24 rfl Tryz.ntmps24 rfl rfl ?_
 have hne:(((n:Nat):Int)==-1)=false:=by rw [beq_eq_false_iff_ne];omega
 repeat (first|(refine aL 93 ?_;refine aI rfl (kO h (n:Int) (by omega) (by omega)) rfl ?_;rintro _ _ ⟨rfl,rfl⟩)|(refine aL 94 ?_;refine aI rfl (lZ hk hko) rfl ?_;rintro _ _ ⟨rfl,rfl⟩)|(refine aB ?_;refine TL.pure rfl rfl ?_)|(refine aD ?_;refine TL.pure rfl rfl ?_)|refine TL.nil ?_|refine aA ?_|refine aJ ?_|refine aC ?_|(refine aH ?_;refine aQ rfl yD rfl ?_)|refine aE rfl ?_|refine aW ?_|refine TL.pure rfl rfl ?_)
 refine aL 78 ?_
 refine aI rfl (path_c h _ a m c n key fr true hk hp) rfl ?_
 rintro _ w1 ⟨⟨b,d,cs,rfl,hs,hfc⟩,hg1⟩
 have z1:=hg1.size
 obtain ⟨x,hx4,hx⟩:=hfc.at' hf
 have hlen:fr.length≠0:=λ e=>by rw [List.eq_nil_of_length_eq_zero e] at hf;cases hf
 have hfl:=hs.le
 obtain ⟨nn1,nn2,nn3⟩:=hx.nums
 have hil:i<x.n1:=by rw [nn1];exact (List.getElem?_eq_some_iff.1 hi).1
 simp only at hx4 hx nn1 nn2 nn3
 obtain ⟨cs2,hcs2,hcc⟩:=hx.its.ex
 obtain ⟨kv,vv,f0,f1,hkk,hvv⟩:=hcc.at' hi
 simp only at hkk hvv
 rw [Nat.mul_comm] at f0 f1
 repeat (first|(refine bC ?_;refine aV (j:=fr.length-1) rfl rfl rfl (by omega) rfl ⟨_,_,hs⟩ rfl ?_)|(refine aY ?_;refine eL (o:=(fr.length-1)*4) rfl (hs.grow yG) (of_drop_take hx4) rfl rfl ?_)|(refine aB ?_;refine TL.pure rfl rfl ?_)|(refine aD ?_;refine TL.pure rfl rfl ?_)|refine aK rfl yM rfl ?_|refine aF rfl rfl ?_|(refine cN ?_;refine dN rfl rfl (by omega) (by omega) rfl ?_)|refine TL.nil ?_|refine aA ?_|refine aJ ?_|refine aC ?_|(refine aH ?_;refine aQ rfl yD rfl ?_)|(refine aP ?_;(refine bA rfl rfl yB (by exact rfl) (by exact rfl) (by exact rfl) ?_;intro w' hu hbk hsz))|(refine bF ?_;(refine TL.alloc rfl rfl ?_;intro bk w' hg hbk hsz hsz'))|refine aO rfl rfl ?_|refine aE rfl ?_|refine aW ?_|refine TL.pure rfl rfl ?_)
 have hgr:Grow w1 w':=aX hu (by omega) (by assumption)
 have hc1:=hcs2.grow hgr
 have hv1:=hvv.go (Carry.grow hgr)
 have hgw:Grow w w':=hg1.trans hgr
 have hcx:w'.cell? (at' x.a1 (i*2+1))=some vv:=hc1.row.cell f1
 have ho:=hvv.one
 obtain ⟨va,vc,rfl,hvs⟩:=hvv.sl
 clear hg hu
 repeat (first|(refine bC ?_;refine aV (j:=i) rfl rfl rfl hil rfl ⟨_,_,hc1⟩ rfl ?_)|(refine dU ?_;refine dV (o:=i*2) rfl hc1 f0 rfl ?_)|refine aK rfl yM rfl ?_)
 refine aL 95 ?_
 refine aI rfl (sclone_c _ _ v _ hv1 (by omega)) rfl ?_
 rintro u wr ⟨hu,hgr2⟩
 obtain ⟨ua,uc,rfl,hus⟩:=hu.sl
 repeat (first|(refine aD ?_;refine TL.pure rfl rfl ?_)|refine TL.nil ?_|refine aA ?_|refine bE ?_)
 have:=hgw.2
 exact jM rfl rfl ⟨_,rfl,⟨_,rfl,⟨_,_,_,rfl,hus.mono (λ k hk=>by omega)⟩⟩,hgw.trans hgr2⟩
end Go.Proofs.YtfpadnmdafiddaaGreatDoor
