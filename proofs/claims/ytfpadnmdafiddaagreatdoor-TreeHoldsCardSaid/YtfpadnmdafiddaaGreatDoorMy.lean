import Derived.Test.YtfpadnmdafiddaaGreatDoorMo
set_option linter.all false
set_option maxHeartbeats 16000000
set_option maxRecDepth 100000
namespace Go.Proofs.YtfpadnmdafiddaaGreatDoor
open Go Go.RowKit Go.V
theorem RS.wlt {B b m:Nat} {o:Option Bs} {w:World} (h:RS B b o w):(rdW m o).1<2^(8*m):=by
 cases o with
 | none=>exact Nat.two_pow_pos _
 | some r =>
  unfold rdW
  simp only
  split
  ·exact leW_lt (Rd.bytes h) m
  ·exact Nat.two_pow_pos _
theorem RS.keep {B b:Nat} {o:Option Bs} {w w':World} (h:RS B b o w) (hBb:B≤b) (hs:w.heap.size≤w'.heap.size) (hk:∀ k,B≤k→k≤b→w'.heap[k]? = w.heap[k]?):RS B b o w':=by
 have key:∀ {e r},Rd B b r e w→Rd B b r e w':=by
  rintro e r ⟨a,n,c,p,L,h1,h2,h3⟩
  refine ⟨a,n,c,p,L,?_,h2.keep (λ k hk1 _=>hk k hk1.1 (by omega)) hs,h3⟩
  unfold Blk at *
  rw [hk b hBb (Nat.le_refl _)]
  exact h1
 cases o with
 | some r=>exact key h
 | none=>obtain ⟨r,e,he,h⟩:=h;exact ⟨r,e,he,key h⟩
abbrev nil3:List Value:=[.slice none 0 0,.slice none 0 0,.slice none 0 0]
def ReadMid (w:World) (bs:Bs) (e:dQ) (w1:World):Prop :=
 ∃ (B b bk bk2 B0:Nat) (x:NV) (nd:Nd) (o:Option Bs),Sub [(4,.pointer (some ⟨b,0,none⟩)),(7,.pointer (some ⟨bk,0,none⟩)),(2,.pointer (some ⟨bk2,0,none⟩))] e∧w.heap.size≤B∧w.heap.size≤bk2∧w.heap.size≤b∧bk2<b∧b<bk∧bk<B0 ∧
  Blk w1 bk 79 x.cs∧Blk w1 bk2 79 nil3∧RS B b o w1∧NdAt (λ k=>B0≤k) w1 x nd∧Grow w w1∧gG bs=o.bind (finN nd)
theorem read_c (F:Nat→Prop) (a:Option Addr) (n c:Nat) (bs:Bs) (w:World) (hs:Sl F w 1 a n c (cX bs)) (hby:∀ x∈bs,x<256) (hn:n≤1000000) :
  Calls Tryz.prog 174 #[.slice a n c] w (Ret λ v w'=>(match gG bs with
   | some nd=>∃ x:NV,v=.tuple #[x.val,.int .i64 0]∧NdAt (λ k=>w.heap.size≤k) w' x nd
   | none=>v=.tuple #[.agg nil3.toArray,.int .i64 4])∧Grow w w'):=by
 refine V.calls (args:=[_]) Tryz.func174 rfl Tryz.ntmps174 rfl rfl ?_
 refine fQ 5 (ReadMid w bs) ?_ ?_
 rotate_left
 ·repeat (first|(refine aB ?_;refine TL.pure rfl rfl ?_)|(refine aD ?_;refine TL.pure rfl rfl ?_)|refine TL.nil ?_|refine aC ?_|(refine bF ?_;(refine TL.alloc rfl rfl ?_;intro bk w' hg hbk hsz hsz'))|refine bB ?_|refine cQ ?_)
  obtain ⟨bk2,rfl⟩:∃ x,x=bk:=⟨bk,rfl⟩
  obtain ⟨w0,rfl⟩:∃ x,x=w':=⟨w',rfl⟩
  have hbkr:Blk w0 bk2 79 nil3:=hbk
  have hgr0:Grow w w0:=hg
  clear hbk hg
  have hsz0:=hsz'
  clear hsz'
  refine aI rfl (oread_c F a n c bs _ (hs.grow hgr0) (by omega)) rfl ?_
  rintro _ w1 ⟨b,a1,c1,rfl,hb1,hb2,hbr,hsr,hg1⟩
  have hlb:=iD hsr
  have hr0:RS w0.heap.size b (some bs) w1:=⟨a1,n,c1,0,bs,hbr,hsr,by omega,by omega,hby,rfl⟩
  clear hbr hsr
  repeat (first|(refine aB ?_;refine TL.pure rfl rfl ?_)|(refine aD ?_;refine TL.pure rfl rfl ?_)|refine TL.nil ?_|refine aC ?_|refine bB ?_|refine cQ ?_)
  refine aI rfl (rs_word (m:=1) hr0 (by omega) (by omega)) rfl ?_
  rintro _ w2 ⟨rfl,hr1,hm2⟩
  repeat ((refine aB ?_;refine TL.pure rfl rfl ?_))
  refine aI rfl (rs_word (m:=1) hr1 (by omega) (by omega)) rfl ?_
  rintro _ w3 ⟨rfl,hr2,hm3⟩
  have hlt:=hr1.wlt (m:=1)
  have e0:=readN_eq bs
  simp only at e0
  generalize hx:(rdW 1 (rdW 1 (some bs)).2).1=cnt at *
  generalize ho:(rdW 1 (rdW 1 (some bs)).2).2=o2 at *
  generalize hk:(rdW 1 (some bs)).1=knd at *
  have hbk3:Blk w3 bk2 79 nil3:=by
   have h1:=hbkr.grow hg1
   have h2:Blk w2 bk2 79 nil3:=eH (eV hm2) h1 (by omega)
   exact eH (eV hm3) h2 (by omega)
  have hg3:Grow w w3:=by
   have h1:=hgr0.trans hg1
   have h2:=lK (eV hm2) (by omega) h1
   exact lK (eV hm3) (by omega) h2
  have hsz3:=hg3.size
  have hb3:=hr2.lt
  clear hm2 hm3 hr0 hr1 hg1 hbkr hx ho hk hgr0
  have hbl2:bk2<b:=by omega
  have hwl2:w.heap.size≤bk2:=by omega
  have hwB:w.heap.size≤w0.heap.size:=by omega
  clear hsz0 hb2 hsz
  repeat (first|(refine aB ?_;refine TL.pure rfl rfl ?_)|(refine aD ?_;refine TL.pure rfl rfl ?_)|refine TL.nil ?_|refine aJ ?_|refine aC ?_|refine T.block ?_|(refine cR ?_;refine lQ rfl (by omega) rfl ?_)|(refine bF ?_;(refine TL.alloc rfl rfl ?_;intro bk w' hg hbk hsz hsz'))|refine bB ?_|refine cQ ?_)
  obtain ⟨w4,rfl⟩:∃ x,x=w':=⟨w',rfl⟩
  have hb4:Blk w4 bk2 79 nil3:=hbk3.grow hg
  have hbk4:Blk w4 bk 79 nil3:=hbk
  have hg4:Grow w w4:=hg3.trans hg
  have hr4:=hr2.grow hg
  have hbl:b<bk:=by omega
  have hs4:w4.heap.size=bk+1:=by omega
  clear hbk hbk3 hg3 hg hr2 hsz hsz' hb3 hsz3
  refine aI rfl (rs_err hr4) rfl ?_
  rintro _ _ ⟨⟨ev,rfl,hev⟩,rfl⟩
  by_cases ho2:o2=none
  ·have hev0:ev≠0:=λ h=>(hev.1 h) ho2
   have hN:gG bs=none:=by rw [e0,if_pos (.inl ho2)]
   repeat (first|refine bH rfl rfl rfl ?_|(refine aB ?_;refine TL.pure rfl rfl ?_)|(refine aD ?_;refine TL.pure rfl rfl ?_)|refine TL.nil ?_|refine aA ?_|refine aJ ?_|refine aC ?_|(refine aH ?_;refine aZ rfl yD rfl ?_)|(refine aP ?_;(refine bA rfl rfl yB (by exact rfl) (by exact rfl) (by exact rfl) ?_;intro w' hu hbk hsz))|refine TL.build rfl rfl rfl ?_|refine aM rfl ?_|refine bE ?_|refine cZ ?_|refine TL.pure rfl rfl ?_|refine mN ?_)
   exact jW rfl (bV (by assumption) rfl) rfl ⟨_,rfl,by rw [hN];rfl,yG⟩
  have hev0:ev=0:=hev.2 ho2
  subst hev0
  clear hev
  by_cases h8:8<cnt
  ·have hN:gG bs=none:=by rw [e0,if_pos (.inr h8)]
   repeat (first|refine aU rfl rfl rfl ?_|(refine aB ?_;refine TL.pure rfl rfl ?_)|(refine aD ?_;refine TL.pure rfl rfl ?_)|refine TL.nil ?_|refine aA ?_|refine aJ ?_|refine aC ?_|(refine aH ?_;first|refine aZ rfl yD rfl ?_|refine aQ rfl yD rfl ?_)|(refine aP ?_;(refine bA rfl rfl yB (by exact rfl) (by exact rfl) (by exact rfl) ?_;intro w' hu hbk hsz))|refine TL.build rfl rfl rfl ?_|refine aM rfl ?_|refine bE ?_|refine cZ ?_|refine TL.pure rfl rfl ?_|refine mN ?_)
   exact jW rfl (bV (by assumption) rfl) rfl ⟨_,rfl,by rw [hN];rfl,yG⟩
  rw [if_neg (by rintro (h|h);exact ho2 h;exact h8 h)] at e0
  by_cases hk0:knd=0
  ·rw [if_pos hk0] at e0
   subst hk0
   repeat (first|refine aU rfl rfl rfl ?_|(refine aB ?_;refine TL.pure rfl rfl ?_)|(refine aD ?_;refine TL.pure rfl rfl ?_)|refine TL.nil ?_|refine aA ?_|refine aJ ?_|refine aC ?_|refine T.block ?_|(refine aH ?_;first|refine aZ rfl yD rfl ?_|refine aQ rfl yD rfl ?_)|refine aM rfl ?_|refine aE rfl ?_|refine TL.pure rfl rfl ?_)
   refine cU (S:=Value×Nat) (λ s=>[(32,.int .i64 (s.2:Int)),(31,.int .i64 (cnt:Int)),(4,.pointer (some ⟨b,0,none⟩)),(7,.pointer (some ⟨bk,0,none⟩)),(2,.pointer (some ⟨bk2,0,none⟩))])
    (λ s w1=>s.2≤cnt∧∃ (its:dO) (o:Option Bs) (cells:List Value),Blk w1 bk 79 [s.1,.slice none 0 0,.slice none 0 0]∧Blk w1 bk2 79 nil3∧w1.ownsRow (bk+1) 58 2 s.1 s.2 cells∧ItCells (λ k=>bk+1≤k∧s.1.ownBlock≠some k) w1 cells its∧RS w0.heap.size b o w1∧Grow w w1∧kH cnt o2=(its++(kH (cnt-s.2) o).1,(kH (cnt-s.2) o).2))
    (λ s=>cnt-s.2) (.slice none 0 0,0) ⟨rfl,rfl,rfl,rfl,rfl,trivial⟩ ⟨by show 0≤cnt;omega,[],o2,[],hbk4,hb4,kQ,trivial,hr4,hg4,rfl⟩ ?_
   clear hbk4 hb4 hr4 hg4 hs4
   rintro ⟨v,i⟩ w1 ⟨hi,its,o,cells,hbk,hb2,hown,hcells,hrs,hg1,hread⟩
   simp only at hi hbk hown hcells hread
   refine dD (e':=[(32,.int .i64 (i:Int)),(31,.int .i64 (cnt:Int)),(4,.pointer (some ⟨b,0,none⟩)),(7,.pointer (some ⟨bk,0,none⟩)),(2,.pointer (some ⟨bk2,0,none⟩))]) ?_ ⟨rfl,rfl,rfl,rfl,rfl,trivial⟩
   have hl1:=hbk.lt
   by_cases hlt:i<cnt
   rotate_left
   ·obtain rfl:i=cnt:=by omega
    rw [Nat.sub_self] at hread
    simp only [kH,List.append_nil] at hread
    repeat (first|refine TL.nil ?_|refine aA ?_|refine aJ ?_|refine aC ?_|refine aS ?_|(refine aH ?_;refine aQ rfl yD rfl ?_)|refine aE rfl ?_|refine cV ?_|refine bN ?_|refine bP ?_|refine bO ?_|refine bB ?_|refine bY ?_)
    obtain ⟨va,vc,rfl,hsl⟩:=bX hown
    refine ⟨w0.heap.size,b,bk,bk2,bk+1,⟨va,i,vc,none,0,0,none,0,0⟩,⟨its,[],[]⟩,o,⟨rfl,rfl,rfl,trivial⟩,by omega,by omega,by omega,by omega,by omega,by omega,hbk,hb2,hrs,⟨⟨cells,hsl.mono λ k hk=>hk.1,hcells.go (Carry.mono λ k hk _=>hk.1)⟩,Sl.nil_mk _ _ _,⟨[],Sl.nil_mk _ _ _,trivial⟩⟩,hg1,?_⟩
    rw [e0,hread]
   repeat (first|(refine aB ?_;refine TL.pure rfl rfl ?_)|refine TL.nil ?_|refine aA ?_|refine aJ ?_|refine aC ?_|refine T.block ?_|(refine aH ?_;refine aZ rfl yD rfl ?_)|refine aM rfl ?_|refine aW ?_)
   refine aI rfl (rs_block hrs) rfl ?_
   rintro _ w2 ⟨ka,kc,rfl,hks,hrs2,hm2⟩
   have hbu2:=eV hm2
   have hbk2':Blk w2 bk 79 [v,.slice none 0 0,.slice none 0 0]:=eH hbu2 hbk (by omega)
   have hs2:=hm2.size
   repeat (first|(refine aD ?_;refine TL.pure rfl rfl ?_)|refine TL.nil ?_|refine aA ?_)
   apply T.anyA (Mut b) 7 4 (λ w=>RS w0.heap.size b (hZ o).2 w∧But b w2 w) (λ w=>RS w0.heap.size b (hZ (hZ o).2).2 w∧But b w2 w) (λ w=>But b w2 w)
    [isA _,isA _,isA _,isA _,ofA (λ u w=>∃ a c,u=.slice a (hZ (hZ o).2).1.length c∧Sl (λ k=>w2.heap.size≤k) w 1 a (hZ (hZ o).2).1.length c (cX (hZ (hZ o).2).1)) (by rintro u w w' g ⟨a,c,h1,h2⟩;exact ⟨a,c,h1,h2.grow g⟩),
     ofA (λ u w=>∃ a c,u=.agg #[.slice ka (hZ o).1.length kc,.slice a (hZ (hZ o).2).1.length c]∧Sl (λ k=>w2.heap.size≤k) w 1 a (hZ (hZ o).2).1.length c (cX (hZ (hZ o).2).1)) (by rintro u w w' g ⟨a,c,h1,h2⟩;exact ⟨a,c,h1,h2.grow g⟩),
     ofA (λ u w=>∃ bb a c,u=.slice (some ⟨bb,0,none⟩) 1 1∧w2.heap.size≤bb∧Blk w bb 58 [.slice ka (hZ o).1.length kc,.slice a (hZ (hZ o).2).1.length c]∧Sl (λ k=>w2.heap.size≤k) w 1 a (hZ (hZ o).2).1.length c (cX (hZ (hZ o).2).1)) (by rintro u w w' g ⟨bb,a,c,h1,h0,h2,h3⟩;exact ⟨bb,a,c,h1,h0,h2.grow g,h3.grow g⟩)]
   ·kernel_rfl
   ·exact ⟨hrs2,But.refl _ _⟩
   ·exact λ _ h=>h.2
   ·exact λ _ h=>h.2
   ·exact λ _ h=>h.size
   ·exact λ _ _ h g=>⟨h.1.grow g,lO g h.2⟩
   ·exact λ _ _ h g=>⟨h.1.grow g,lO g h.2⟩
   ·exact λ _ _ h=>h.size
   ·repeat' (first|exact allA_end|refine allA_cons ?_ ?_)
    iterate 4
     ·refine fM rfl rfl rfl rfl ?_
      intro wq _ _ hiw
      have hbq:=eH hiw hbk2' (by omega)
      (repeat (refine cY rfl rfl ?_;intro vq hvq;try (obtain rfl:=Eq.symm hvq)));(refine dJ ?_)
      repeat (first|(refine aB ?_;refine TL.pure rfl rfl ?_)|refine aK rfl yM rfl ?_|refine aF rfl rfl ?_|refine TL.nil ?_)
      exact eE rfl (Grow.refl _) rfl
    ·refine doesA_it rfl rfl rfl rfl ?_
     intro wq _ _ hiw
     (repeat (refine cY rfl rfl ?_;intro vq hvq;try (obtain rfl:=Eq.symm hvq)));(refine dJ ?_)
     refine aI rfl (rs_block hiw.1) rfl ?_
     rintro _ w5 ⟨va,vc,rfl,hvs,hrs5,hm5⟩
     repeat (refine TL.nil ?_)
     have:=hiw.2.size
     exact eE rfl ⟨hm5,hrs5,but_but (eV hm5) hiw.2⟩ ⟨va,vc,rfl,hvs.mono λ k hk=>by omega⟩
    ·refine fM rfl rfl rfl rfl ?_
     intro wq _ _ hiw
     (repeat (refine cY rfl rfl ?_;intro vq hvq;try (obtain rfl:=Eq.symm hvq)));(refine dJ ?_)
     obtain ⟨va,vc,rfl,hvs⟩:=hvq
     repeat (first|refine TL.nil ?_|refine TL.build rfl rfl rfl ?_)
     exact eE rfl (Grow.refl _) ⟨va,vc,rfl,hvs⟩
    ·refine fM rfl rfl rfl rfl ?_
     intro wq _ _ hiw
     (repeat (refine cY rfl rfl ?_;intro vq hvq;try (obtain rfl:=Eq.symm hvq)));(refine dJ ?_)
     obtain ⟨va,vc,rfl,hvs⟩:=hvq
     have:=hiw.size
     refine TL.buildSlice rfl rfl rfl rfl rfl ?_
     intro bb w6 hg6 hb6 hs61 hs62 hs63
     repeat (refine TL.nil ?_)
     exact eE rfl hg6 ⟨bb,va,vc,rfl,by omega,hb6,hvs.grow hg6⟩
   ·rintro wT lo hi ⟨hrT,hbT⟩ _ _
    (repeat (refine cY rfl rfl ?_;intro vq hvq;try (obtain rfl:=Eq.symm hvq)));(refine dJ ?_)
    obtain ⟨bb,va,vc,rfl,hbb0,hbb,hvs⟩:=hvq
    have hownT:=own_but (own_but hown hbu2 (by omega)) hbT (by omega)
    have hbkT:=eH hbT hbk2' (by omega)
    have hb2T:Blk wT bk2 79 nil3:=eH hbT (eH hbu2 hb2 (by omega)) (by omega)
    have hsT:=hbT.size
    refine iF rfl rfl hownT (bR (sz:=2) (m:=1) hbb rfl (by decide)) (by simp [Value.oneCell']) (by unfold maxLen;omega) (by omega) (by omega) rfl ?_
    intro v' w7 hown7 hgb7 hcar
    have hbk7:=fG hgb7 (λ e=>by have:=cJ hownT e;omega) hbkT
    have hb27:=fG hgb7 (λ e=>by have:=cJ hownT e;omega) hb2T
    have hr7:RS w0.heap.size b (hZ (hZ o).2).2 w7:=hrT.keep (by omega) hgb7.size (λ k h1 h2=>hgb7.block k (by omega) (λ e=>by have:=cJ hownT e.symm;omega))
    have hg7:Grow w w7:=Grow.mk (cH hgb7 (by omega) (λ k hk=>by have:=cJ hownT hk;omega) (lK hbT (by omega) (lK hbu2 (by omega) hg1)).1)
    have hc1:Carry (λ k=>bk+1≤k∧v.ownBlock≠some k) w2 (λ k=>bk+1≤k∧v'.ownBlock≠some k) w7:=(Carry.but hbT (λ k hk _=>by omega)).trans (hcar (λ k=>bk+1≤k))
    have hc2:Carry (λ k=>bk+1≤k∧v.ownBlock≠some k) wT (λ k=>bk+1≤k∧v'.ownBlock≠some k) w7:=hcar (λ k=>bk+1≤k)
    have hcellsA:=hcells.go ((Carry.but hbu2 (λ k hk _=>by omega)).trans hc1)
    have hkA:=hks.go ((Carry.mono (λ k hk _=>⟨by omega,λ e=>by have:=cJ hown e;omega⟩)).trans hc1)
    have hvA:=hvs.go ((Carry.mono (λ k hk _=>⟨by omega,λ e=>by have:=cJ hown e;omega⟩)).trans hc2)
    obtain ⟨va7,vc7,rfl,hsl7⟩:=bX hown7
    have hs7:=hgb7.size
    clear hcar hc1 hc2 hbk hb2 hbk2' hbkT hb2T hrT hrs hrs2
    repeat (first|(refine aB ?_;refine TL.pure rfl rfl ?_)|refine aF rfl rfl ?_|(refine bL ?_;refine bT rfl rfl (by omega) rfl ?_)|refine TL.nil ?_|refine aA ?_|refine aC ?_|refine aS ?_|(refine aP ?_;(refine bQ rfl rfl yB (by exact rfl) (by exact rfl) (by exact rfl) ?_;intro w' hu hbk hsz)))
    have hcu:Carry (λ k=>bk+1≤k∧(Value.slice va7 (i+1) vc7).ownBlock≠some k) w7 (λ k=>bk+1≤k∧(Value.slice va7 (i+1) vc7).ownBlock≠some k) w':=Carry.upd hu (λ k hk _=>by omega)
    refine bG (.slice va7 (i+1) vc7,i+1) ⟨rfl,rfl,rfl,rfl,rfl,trivial⟩ ⟨hlt,its++[((hZ o).1,(hZ (hZ o).2).1)],(hZ (hZ o).2).2,cells++[.slice ka (hZ o).1.length kc,.slice va (hZ (hZ o).2).1.length vc],hbk,Blk.upd hu (by omega) hb27,own_upd hown7 hu (by omega),(hcellsA.append (show ItCells _ _ [_,_] [((hZ o).1,(hZ (hZ o).2).1)] from ⟨⟨_,_,_,rfl,hkA⟩,⟨_,_,_,rfl,hvA⟩,trivial⟩)).go hcu,hr7.keep (by omega) (by omega) (λ k h1 h2=>hu.block k (by omega)),aX hu (by omega) hg7,?_⟩ (by simp only;omega)
    rw [show cnt-i=cnt-(i+1)+1 by omega] at hread
    simp only [kH] at hread
    rw [hread]
    simp
  rw [if_neg hk0] at e0
  by_cases hk1:knd=1
  rotate_left
  ·have hN:gG bs=none:=by rw [e0,if_neg (λ h=>hk1 h.1)]
   repeat (first|(refine eA ?_;first|refine bH rfl rfl rfl ?_|refine aU rfl rfl rfl ?_)|(refine aB ?_;refine TL.pure rfl rfl ?_)|(refine aD ?_;refine TL.pure rfl rfl ?_)|refine TL.nil ?_|refine aA ?_|refine aJ ?_|refine aC ?_|(refine aH ?_;refine aQ rfl yD rfl ?_)|(refine aP ?_;(refine bA rfl rfl yB (by exact rfl) (by exact rfl) (by exact rfl) ?_;intro w' hu hbk hsz))|refine TL.build rfl rfl rfl ?_|refine aE rfl ?_|refine bE ?_|refine cZ ?_|refine TL.pure rfl rfl ?_|refine mN ?_)
   exact jW rfl (bV (by assumption) rfl) rfl ⟨_,rfl,by rw [hN];rfl,yG⟩
  by_cases hc2:2≤cnt
  rotate_left
  ·have hN:gG bs=none:=by rw [e0,if_neg (λ h=>hc2 h.2)]
   repeat (first|refine aU rfl rfl rfl ?_|(refine aB ?_;refine TL.pure rfl rfl ?_)|(refine aD ?_;refine TL.pure rfl rfl ?_)|refine TL.nil ?_|refine aA ?_|refine aJ ?_|refine aC ?_|(refine aH ?_;first|refine aZ rfl yD rfl ?_|refine aQ rfl yD rfl ?_)|(refine aP ?_;(refine bA rfl rfl yB (by exact rfl) (by exact rfl) (by exact rfl) ?_;intro w' hu hbk hsz))|refine TL.build rfl rfl rfl ?_|refine aE rfl ?_|refine bE ?_|refine cZ ?_|refine TL.pure rfl rfl ?_|refine mN ?_)
   exact jW rfl (bV (by assumption) rfl) rfl ⟨_,rfl,by rw [hN];rfl,yG⟩
  rw [if_pos ⟨hk1,hc2⟩] at e0
  subst hk1
  repeat (first|refine aU rfl rfl rfl ?_|(refine aB ?_;refine TL.pure rfl rfl ?_)|(refine aD ?_;refine TL.pure rfl rfl ?_)|refine TL.nil ?_|refine aA ?_|refine aJ ?_|refine aC ?_|refine T.block ?_|(refine aH ?_;first|refine aZ rfl yD rfl ?_|refine aQ rfl yD rfl ?_)|refine aM rfl ?_|refine aE rfl ?_|refine TL.pure rfl rfl ?_)
  refine cU (S:=Value×Nat) (λ s=>[(54,.int .i64 (s.2:Int)),(53,.int .i64 (cnt:Int)),(6,.int .i64 (cnt:Int)),(4,.pointer (some ⟨b,0,none⟩)),(7,.pointer (some ⟨bk,0,none⟩)),(2,.pointer (some ⟨bk2,0,none⟩))])
   (λ s w1=>s.2≤cnt∧∃ (kds:List Nat) (o:Option Bs),Blk w1 bk 79 [.slice none 0 0,s.1,.slice none 0 0]∧Blk w1 bk2 79 nil3∧w1.ownsRow (bk+1) 3 1 s.1 s.2 (cM kds)∧RS w0.heap.size b o w1∧Grow w w1∧jX cnt o2=(kds++(jX (cnt-s.2) o).1,(jX (cnt-s.2) o).2))
   (λ s=>cnt-s.2) (.slice none 0 0,0) ⟨rfl,rfl,rfl,rfl,rfl,rfl,trivial⟩ ⟨by show 0≤cnt;omega,[],o2,hbk4,hb4,kQ,hr4,hg4,rfl⟩ ?_
  clear hbk4 hb4 hr4 hg4 hs4
  rintro ⟨v,i⟩ w1 ⟨hi,kds,o,hbk,hb2,hown,hrs,hg1,hread⟩
  simp only at hi hbk hown hread
  refine dD (e':=[(54,.int .i64 (i:Int)),(53,.int .i64 (cnt:Int)),(6,.int .i64 (cnt:Int)),(4,.pointer (some ⟨b,0,none⟩)),(7,.pointer (some ⟨bk,0,none⟩)),(2,.pointer (some ⟨bk2,0,none⟩))]) ?_ ⟨rfl,rfl,rfl,rfl,rfl,rfl,trivial⟩
  have hl1:=hbk.lt
  by_cases hlt:i<cnt
  ·have hwl:=hrs.wlt (m:=4)
   repeat (first|refine TL.nil ?_|refine aA ?_|refine aJ ?_|refine aC ?_|refine T.block ?_|(refine aH ?_;refine aZ rfl yD rfl ?_)|refine aM rfl ?_|refine aW ?_)
   apply T.anyA (Mut b) 6 3 (λ w=>RS w0.heap.size b o w∧But b w1 w) (λ w=>RS w0.heap.size b (rdW 4 o).2 w∧But b w1 w) (λ w=>But b w1 w)
    [isA _,isA _,isA _,isA (.int .u64 ((rdW 4 o).1:Int)),isA (.int .i64 ((rdW 4 o).1:Int)),
     ofA (λ u w=>∃ bb,u=.slice (some ⟨bb,0,none⟩) 1 1∧w1.heap.size≤bb∧Blk w bb 3 [.int .i64 ((rdW 4 o).1:Int)]) (by rintro u w w' g ⟨bb,h1,h0,h2⟩;exact ⟨bb,h1,h0,h2.grow g⟩)]
   ·kernel_rfl
   ·exact ⟨hrs,But.refl _ _⟩
   ·exact λ _ h=>h.2
   ·exact λ _ h=>h.2
   ·exact λ _ h=>h.size
   ·exact λ _ _ h g=>⟨h.1.grow g,lO g h.2⟩
   ·exact λ _ _ h g=>⟨h.1.grow g,lO g h.2⟩
   ·exact λ _ _ h=>h.size
   ·repeat' (first|exact allA_end|refine allA_cons ?_ ?_)
    iterate 3
     ·refine fM rfl rfl rfl rfl ?_
      intro wq _ _ hiw
      have hbq:=eH hiw hbk (by omega)
      (repeat (refine cY rfl rfl ?_;intro vq hvq;try (obtain rfl:=Eq.symm hvq)));(refine dJ ?_)
      repeat (first|(refine aB ?_;refine TL.pure rfl rfl ?_)|refine aK rfl yM rfl ?_|refine aF rfl rfl ?_|refine TL.nil ?_)
      exact eE rfl (Grow.refl _) rfl
    ·refine doesA_it rfl rfl rfl rfl ?_
     intro wq _ _ hiw
     (repeat (refine cY rfl rfl ?_;intro vq hvq;try (obtain rfl:=Eq.symm hvq)));(refine dJ ?_)
     refine aI rfl (rs_word (m:=4) hiw.1 (by omega) (by omega)) rfl ?_
     rintro _ w5 ⟨rfl,hrs5,hm5⟩
     repeat (refine TL.nil ?_)
     exact eE rfl ⟨hm5,hrs5,but_but (eV hm5) hiw.2⟩ rfl
    ·refine fM rfl rfl rfl rfl ?_
     intro wq _ _ hiw
     (repeat (refine cY rfl rfl ?_;intro vq hvq;try (obtain rfl:=Eq.symm hvq)));(refine dJ ?_)
     repeat (first|refine TL.nil ?_|(refine cR ?_;refine lQ rfl (by omega) rfl ?_))
     exact eE rfl (Grow.refl _) rfl
    ·refine fM rfl rfl rfl rfl ?_
     intro wq _ _ hiw
     (repeat (refine cY rfl rfl ?_;intro vq hvq;try (obtain rfl:=Eq.symm hvq)));(refine dJ ?_)
     have:=hiw.size
     refine TL.buildSlice rfl rfl rfl rfl rfl ?_
     intro bb w6 hg6 hb6 hs61 hs62 hs63
     repeat (refine TL.nil ?_)
     exact eE rfl hg6 ⟨bb,rfl,by omega,hb6⟩
   ·rintro wT lo hi ⟨hrT,hbT⟩ _ _
    (repeat (refine cY rfl rfl ?_;intro vq hvq;try (obtain rfl:=Eq.symm hvq)));(refine dJ ?_)
    obtain ⟨bb,rfl,hbb0,hbb⟩:=hvq
    have hownT:=own_but hown hbT (by omega)
    have hbkT:=eH hbT hbk (by omega)
    have hb2T:Blk wT bk2 79 nil3:=eH hbT hb2 (by omega)
    have hsT:=hbT.size
    refine iF rfl rfl hownT (bR (sz:=1) (m:=1) hbb rfl (by decide)) (by simp [Value.oneCell']) (by unfold maxLen;omega) (by omega) (by omega) rfl ?_
    intro v' w7 hown7 hgb7 hcar
    have hbk7:=fG hgb7 (λ e=>by have:=cJ hownT e;omega) hbkT
    have hb27:=fG hgb7 (λ e=>by have:=cJ hownT e;omega) hb2T
    have hr7:RS w0.heap.size b (rdW 4 o).2 w7:=hrT.keep (by omega) hgb7.size (λ k h1 h2=>hgb7.block k (by omega) (λ e=>by have:=cJ hownT e.symm;omega))
    have hg7:Grow w w7:=Grow.mk (cH hgb7 (by omega) (λ k hk=>by have:=cJ hownT hk;omega) (lK hbT (by omega) hg1).1)
    obtain ⟨va7,vc7,rfl,hsl7⟩:=bX hown7
    have hs7:=hgb7.size
    clear hcar hbk hb2 hbkT hb2T hrT hrs
    repeat (first|(refine aB ?_;refine TL.pure rfl rfl ?_)|refine aF rfl rfl ?_|(refine bL ?_;refine bT rfl rfl (by omega) rfl ?_)|refine TL.nil ?_|refine aA ?_|refine aC ?_|refine aS ?_|(refine aP ?_;(refine bQ rfl rfl yB (by exact rfl) (by exact rfl) (by exact rfl) ?_;intro w' hu hbk hsz)))
    refine bG (.slice va7 (i+1) vc7,i+1) ⟨rfl,rfl,rfl,rfl,rfl,rfl,trivial⟩ ⟨hlt,kds++[(rdW 4 o).1],(rdW 4 o).2,hbk,Blk.upd hu (by omega) hb27,by simpa [cM] using own_upd hown7 hu (by omega),hr7.keep (by omega) (by omega) (λ k h1 h2=>hu.block k (by omega)),aX hu (by omega) hg7,?_⟩ (by simp only;omega)
    rw [show cnt-i=cnt-(i+1)+1 by omega] at hread
    simp only [jX] at hread
    rw [hread]
    simp
  obtain rfl:i=cnt:=by omega
  rw [Nat.sub_self] at hread
  simp only [jX,List.append_nil] at hread
  obtain ⟨ka2,kc2,rfl,hsl⟩:=bX hown
  obtain ⟨H,hH⟩:∃ H,w1.heap.size=H:=⟨_,rfl⟩
  have hbH:bk+1≤H:=by omega
  have hk2:Sl (λ k=>bk+1≤k∧k<H) w1 1 ka2 i kc2 (cM kds):=hsl.tight.mono (λ k hk=>⟨hk.1.1,by omega⟩)
  rw [hread] at e0
  simp only at e0
  clear hown hsl
  repeat (first|(refine aB ?_;refine TL.pure rfl rfl ?_)|(refine cN ?_;refine dN rfl rfl (by omega) (by omega) rfl ?_)|refine TL.nil ?_|refine aA ?_|refine aJ ?_|refine aC ?_|refine T.block ?_|(refine aH ?_;refine aQ rfl yD rfl ?_)|refine aE rfl ?_|refine cV ?_|refine bN ?_|refine bP ?_|refine bO ?_)
  refine cU (S:=Value×Nat) (λ s=>[(67,.int .i64 (s.2:Int)),(66,.int .i64 ((i-1:Nat):Int)),(4,.pointer (some ⟨b,0,none⟩)),(7,.pointer (some ⟨bk,0,none⟩)),(2,.pointer (some ⟨bk2,0,none⟩))])
   (λ s w1=>s.2≤i-1∧H≤w1.heap.size∧∃ (kys:List Bs) (o4:Option Bs) (cells:List Value),Blk w1 bk 79 [.slice none 0 0,.slice ka2 i kc2,s.1]∧Blk w1 bk2 79 nil3∧Sl (λ k=>bk+1≤k∧k<H) w1 1 ka2 i kc2 (cM kds)∧w1.ownsRow H 30 1 s.1 s.2 cells∧KyCells (λ k=>H≤k∧s.1.ownBlock≠some k) w1 cells kys∧RS w0.heap.size b o4 w1∧Grow w w1∧kG (i-1) o=(kys++(kG (i-1-s.2) o4).1,(kG (i-1-s.2) o4).2))
   (λ s=>i-1-s.2) (.slice none 0 0,0) ⟨rfl,rfl,rfl,rfl,rfl,trivial⟩ ⟨by show 0≤i-1;omega,by omega,[],o,[],hbk,hb2,hk2,kQ,trivial,hrs,hg1,rfl⟩ ?_
  clear hbk hb2 hk2 hrs hg1 hH
  rintro ⟨v,j⟩ w1 ⟨hj,hHw,kys,o4,cells,hbk,hb2,hk2,hown,hcells,hrs,hg1,hread3⟩
  simp only at hj hbk hown hcells hread3
  refine dD (e':=[(67,.int .i64 (j:Int)),(66,.int .i64 ((i-1:Nat):Int)),(4,.pointer (some ⟨b,0,none⟩)),(7,.pointer (some ⟨bk,0,none⟩)),(2,.pointer (some ⟨bk2,0,none⟩))]) ?_ ⟨rfl,rfl,rfl,rfl,rfl,trivial⟩
  have hl1:=hbk.lt
  by_cases hlt:j<i-1
  rotate_left
  ·obtain rfl:j=i-1:=by omega
   rw [Nat.sub_self] at hread3
   simp only [kG,List.append_nil] at hread3
   repeat (first|refine TL.nil ?_|refine aA ?_|refine aJ ?_|refine aC ?_|refine aS ?_|(refine aH ?_;refine aQ rfl yD rfl ?_)|refine aE rfl ?_|refine cV ?_|refine bN ?_|refine bP ?_|refine bO ?_|refine bB ?_|refine bY ?_)
   obtain ⟨va,vc,rfl,hsl⟩:=bX hown
   refine ⟨w0.heap.size,b,bk,bk2,bk+1,⟨none,0,0,ka2,i,kc2,va,i-1,vc⟩,⟨[],kds,kys⟩,o4,⟨rfl,rfl,rfl,trivial⟩,by omega,by omega,by omega,by omega,by omega,by omega,hbk,hb2,hrs,⟨⟨[],Sl.nil_mk _ _ _,trivial⟩,hk2.mono λ k hk=>hk.1,⟨cells,hsl.mono λ k hk=>by have:=hk.1;omega,hcells.go (Carry.mono λ k hk _=>by have:=hk.1;omega)⟩⟩,hg1,?_⟩
   rw [e0,hread3]
  ·repeat (first|refine TL.nil ?_|refine aA ?_|refine aJ ?_|refine aC ?_|refine T.block ?_|(refine aH ?_;refine aZ rfl yD rfl ?_)|refine aM rfl ?_|refine aW ?_)
   apply T.anyA (Mut b) 5 3 (λ w=>RS w0.heap.size b o4 w∧But b w1 w) (λ w=>RS w0.heap.size b (hZ o4).2 w∧But b w1 w) (λ w=>But b w1 w)
    [isA _,isA _,isA _,ofA (λ u w=>∃ a c,u=.slice a (hZ o4).1.length c∧Sl (λ k=>w1.heap.size≤k) w 1 a (hZ o4).1.length c (cX (hZ o4).1)) (by rintro u w w' g ⟨a,c,h1,h2⟩;exact ⟨a,c,h1,h2.grow g⟩),
     ofA (λ u w=>∃ bb a c,u=.slice (some ⟨bb,0,none⟩) 1 1∧w1.heap.size≤bb∧Blk w bb 30 [.slice a (hZ o4).1.length c]∧Sl (λ k=>w1.heap.size≤k) w 1 a (hZ o4).1.length c (cX (hZ o4).1)) (by rintro u w w' g ⟨bb,a,c,h1,h0,h2,h3⟩;exact ⟨bb,a,c,h1,h0,h2.grow g,h3.grow g⟩)]
   ·kernel_rfl
   ·exact ⟨hrs,But.refl _ _⟩
   ·exact λ _ h=>h.2
   ·exact λ _ h=>h.2
   ·exact λ _ h=>h.size
   ·exact λ _ _ h g=>⟨h.1.grow g,lO g h.2⟩
   ·exact λ _ _ h g=>⟨h.1.grow g,lO g h.2⟩
   ·exact λ _ _ h=>h.size
   ·repeat' (first|exact allA_end|refine allA_cons ?_ ?_)
    iterate 3
     ·refine fM rfl rfl rfl rfl ?_
      intro wq _ _ hiw
      have hbq:=eH hiw hbk (by omega)
      (repeat (refine cY rfl rfl ?_;intro vq hvq;try (obtain rfl:=Eq.symm hvq)));(refine dJ ?_)
      repeat (first|(refine aB ?_;refine TL.pure rfl rfl ?_)|refine aK rfl yM rfl ?_|refine aF rfl rfl ?_|refine TL.nil ?_)
      exact eE rfl (Grow.refl _) rfl
    ·refine doesA_it rfl rfl rfl rfl ?_
     intro wq _ _ hiw
     (repeat (refine cY rfl rfl ?_;intro vq hvq;try (obtain rfl:=Eq.symm hvq)));(refine dJ ?_)
     refine aI rfl (rs_block hiw.1) rfl ?_
     rintro _ w5 ⟨va,vc,rfl,hvs,hrs5,hm5⟩
     repeat (refine TL.nil ?_)
     have:=hiw.2.size
     exact eE rfl ⟨hm5,hrs5,but_but (eV hm5) hiw.2⟩ ⟨va,vc,rfl,hvs.mono λ k hk=>by omega⟩
    ·refine fM rfl rfl rfl rfl ?_
     intro wq _ _ hiw
     (repeat (refine cY rfl rfl ?_;intro vq hvq;try (obtain rfl:=Eq.symm hvq)));(refine dJ ?_)
     obtain ⟨va,vc,rfl,hvs⟩:=hvq
     have:=hiw.size
     refine TL.buildSlice rfl rfl rfl rfl rfl ?_
     intro bb w6 hg6 hb6 hs61 hs62 hs63
     repeat (refine TL.nil ?_)
     exact eE rfl hg6 ⟨bb,va,vc,rfl,by omega,hb6,hvs.grow hg6⟩
   ·rintro wT lo hi ⟨hrT,hbT⟩ _ _
    (repeat (refine cY rfl rfl ?_;intro vq hvq;try (obtain rfl:=Eq.symm hvq)));(refine dJ ?_)
    obtain ⟨bb,va,vc,rfl,hbb0,hbb,hvs⟩:=hvq
    have hownT:=own_but hown hbT (by omega)
    have hbkT:=eH hbT hbk (by omega)
    have hb2T:Blk wT bk2 79 nil3:=eH hbT hb2 (by omega)
    have hkT:=hk2.go (Carry.but hbT (λ k hk _=>by omega))
    have hsT:=hbT.size
    refine iF rfl rfl hownT (bR (sz:=1) (m:=1) hbb rfl (by decide)) (by simp [Value.oneCell']) (by unfold maxLen;omega) (by omega) (by omega) rfl ?_
    intro v' w7 hown7 hgb7 hcar
    have hbk7:=fG hgb7 (λ e=>by have:=cJ hownT e;omega) hbkT
    have hb27:=fG hgb7 (λ e=>by have:=cJ hownT e;omega) hb2T
    have hk7:Sl (λ k=>bk+1≤k∧k<H) w7 1 ka2 i kc2 (cM kds):=hkT.keep (λ k hk hk2=>hgb7.block k hk2 (λ e=>by have:=cJ hownT e.symm;omega)) hgb7.size
    have hr7:RS w0.heap.size b (hZ o4).2 w7:=hrT.keep (by omega) hgb7.size (λ k h1 h2=>hgb7.block k (by omega) (λ e=>by have:=cJ hownT e.symm;omega))
    have hg7:Grow w w7:=Grow.mk (cH hgb7 (by omega) (λ k hk=>by have:=cJ hownT hk;omega) (lK hbT (by omega) hg1).1)
    have hc2:Carry (λ k=>H≤k∧v.ownBlock≠some k) wT (λ k=>H≤k∧v'.ownBlock≠some k) w7:=hcar (λ k=>H≤k)
    have hcellsA:=hcells.go ((Carry.but hbT (λ k hk _=>by omega)).trans hc2)
    have hvA:=hvs.go ((Carry.mono (λ k hk _=>⟨by omega,λ e=>by have:=cJ hown e;omega⟩)).trans hc2)
    obtain ⟨va7,vc7,rfl,hsl7⟩:=bX hown7
    have hs7:=hgb7.size
    clear hcar hc2 hbk hb2 hbkT hb2T hrT hrs hk2 hkT
    repeat (first|(refine aB ?_;refine TL.pure rfl rfl ?_)|refine aF rfl rfl ?_|(refine bL ?_;refine bT rfl rfl (by omega) rfl ?_)|refine TL.nil ?_|refine aA ?_|refine aC ?_|refine aS ?_|(refine aP ?_;(refine bQ rfl rfl yB (by exact rfl) (by exact rfl) (by exact rfl) ?_;intro w' hu hbk hsz)))
    have hcu:Carry (λ k=>H≤k∧(Value.slice va7 (j+1) vc7).ownBlock≠some k) w7 (λ k=>H≤k∧(Value.slice va7 (j+1) vc7).ownBlock≠some k) w':=Carry.upd hu (λ k hk _=>by omega)
    refine bG (.slice va7 (j+1) vc7,j+1) ⟨rfl,rfl,rfl,rfl,rfl,trivial⟩ ⟨hlt,by omega,kys++[(hZ o4).1],(hZ o4).2,cells++[.slice va (hZ o4).1.length vc],hbk,Blk.upd hu (by omega) hb27,hk7.go (Carry.upd hu (λ k hk _=>by omega)),own_upd hown7 hu (by omega),(hcellsA.append (show KyCells _ _ [_] [(hZ o4).1] from ⟨⟨_,_,_,rfl,hvA⟩,trivial⟩)).go hcu,hr7.keep (by omega) (by omega) (λ k h1 h2=>hu.block k (by omega)),aX hu (by omega) hg7,?_⟩ (by simp only;omega)
    rw [show i-1-j=i-1-(j+1)+1 by omega] at hread3
    simp only [kG] at hread3
    rw [hread3]
    simp
 rintro e w1 ⟨B,b,bk,bk2,B0,x,nd,o,hsub,q1,q2,q3,q4,q5,q6,hbk,hb2,hrs,hnd,hg1,hread⟩
 refine dD (e':=[(4,_),(7,_),(2,_)]) ?_ hsub
 clear hsub
 obtain ⟨m,hm,hleft,htake⟩:=rs_rest hrs
 have hlb1:=hbk.lt
 repeat (first|(refine aB ?_;refine TL.pure rfl rfl ?_)|refine aJ ?_|refine aC ?_)
 refine aI rfl hleft rfl ?_
 rintro _ w2 ⟨rfl,hg2⟩
 repeat (refine aJ ?_)
 refine aI rfl (htake w2 (hrs.grow hg2) hg2) rfl ?_
 rintro _ w3 ⟨ta,tc,rfl,hts,hrs3,hm3⟩
 have hbk3:Blk w3 bk 79 x.cs:=eH (eV hm3) (hbk.grow hg2) (by omega)
 have hb23:Blk w3 bk2 79 nil3:=eH (eV hm3) (hb2.grow hg2) (by omega)
 have hnd3:NdAt (λ k=>B0≤k) w3 x nd:=hnd.go ((Carry.grow hg2).trans (Carry.but (eV hm3) (λ k hk _=>by omega)))
 have hg3:Grow w w3:=lK (eV hm3) (by omega) (hg1.trans hg2)
 clear hbk hb2 hnd hrs hleft htake hg2 hm3 hg1
 repeat (first|(refine aB ?_;refine TL.pure rfl rfl ?_)|refine TL.nil ?_|refine aA ?_|refine T.block ?_|refine aO rfl rfl ?_)
 have htl:=hts.le
 refine cU (S:=Nat) (λ i=>[(82,.int .i64 (i:Int)),(81,.int .i64 ((o.getD []).length:Int)),(80,.slice ta (o.getD []).length tc),(4,.pointer (some ⟨b,0,none⟩)),(7,.pointer (some ⟨bk,0,none⟩)),(2,.pointer (some ⟨bk2,0,none⟩))]) (λ i w'=>i≤(o.getD []).length∧w3=w'∧∀ j,j<i→(o.getD [])[j]? = some 0) (λ i=>(o.getD []).length-i) 0 ⟨rfl,rfl,rfl,rfl,rfl,rfl,trivial⟩ ⟨by omega,rfl,λ j hj=>by omega⟩ ?_
 rintro i _ ⟨hi,rfl,hall⟩
 by_cases hlt:i<(o.getD []).length
 ·obtain ⟨p,hp⟩:∃ p,(o.getD [])[i]? = some p:=⟨_,List.getElem?_eq_getElem (by omega)⟩
  have hcx:w3.cell? (at' ta i)=some (.int .u8 (p:Int)):=hts.row.cell (bys_at hp)
  by_cases hp0:p=0
  ·subst hp0
   repeat (first|(refine bC ?_;refine aV rfl rfl rfl hlt (Nat.mul_one _) ⟨_,_,hts⟩ rfl ?_)|(refine aB ?_;refine TL.pure rfl rfl ?_)|(refine aD ?_;refine TL.pure rfl rfl ?_)|refine aK rfl yM rfl ?_|(refine bL ?_;refine bT rfl rfl (by omega) rfl ?_)|refine TL.nil ?_|refine aA ?_|refine aJ ?_|refine aC ?_|refine T.block ?_|refine aS ?_|(refine aH ?_;first|refine aZ rfl yD rfl ?_|refine aQ rfl yD rfl ?_)|refine aM rfl ?_|refine aE rfl ?_|refine aW ?_)
   exact bG (i+1) ⟨rfl,rfl,rfl,rfl,rfl,rfl,trivial⟩ ⟨hlt,rfl,λ j hj=>by
    by_cases hj2:j=i
    ·subst hj2;exact hp
    ·exact hall j (by omega)⟩ (by omega)
  ·have hN:gG bs=none:=by
    rw [hread]
    cases o with
    | none=>rfl
    | some r =>
     have:r.all (λ x=>x==0)=false:=by
      rw [← Bool.not_eq_true,List.all_eq_true]
      intro h
      have:=h p (List.mem_of_getElem? hp)
      simp at this
      exact hp0 this
     simp [finN,this]
   repeat (first|(refine bC ?_;refine aV rfl rfl rfl hlt (Nat.mul_one _) ⟨_,_,hts⟩ rfl ?_)|(refine aB ?_;refine TL.pure rfl rfl ?_)|(refine aD ?_;refine TL.pure rfl rfl ?_)|refine aK rfl yM rfl ?_|refine TL.nil ?_|refine aA ?_|refine aJ ?_|refine aC ?_|refine T.block ?_|(refine aH ?_;refine aZ rfl yD rfl ?_)|(refine aP ?_;(refine bA rfl rfl yB (by exact rfl) (by exact rfl) (by exact rfl) ?_;intro w' hu hbk hsz))|refine TL.build rfl rfl rfl ?_|refine aM rfl ?_|refine bE ?_|refine aW ?_|refine bI ?_|refine cZ ?_|refine dY ?_)
   exact jW rfl (bV (by assumption) rfl) rfl ⟨_,rfl,by rw [hN];rfl,yG⟩
 repeat (first|(refine aB ?_;refine TL.pure rfl rfl ?_)|refine TL.nil ?_|refine aA ?_|refine aJ ?_|refine aC ?_|(refine aH ?_;refine aQ rfl yD rfl ?_)|refine aE rfl ?_|refine cV ?_|refine bN ?_|refine bP ?_|refine bO ?_)
 refine aI rfl (rs_err hrs3) rfl ?_
 rintro _ _ ⟨⟨ev,rfl,hev⟩,rfl⟩
 cases o with
 | none =>
  have hev0:ev≠0:=λ h=>(hev.1 h) rfl
  have hN:gG bs=none:=hread
  repeat (first|refine bH rfl rfl rfl ?_|(refine aB ?_;refine TL.pure rfl rfl ?_)|(refine aD ?_;refine TL.pure rfl rfl ?_)|refine TL.nil ?_|refine aA ?_|refine aJ ?_|refine aC ?_|(refine aH ?_;refine aZ rfl yD rfl ?_)|(refine aP ?_;(refine bA rfl rfl yB (by exact rfl) (by exact rfl) (by exact rfl) ?_;intro w' hu hbk hsz))|refine TL.build rfl rfl rfl ?_|refine aM rfl ?_|refine bE ?_|refine bI ?_|refine TL.pure rfl rfl ?_)
  exact jW rfl (bV (by assumption) rfl) rfl ⟨_,rfl,by rw [hN];rfl,yG⟩
 | some r =>
  have hev0:ev=0:=hev.2 (by simp)
  subst hev0
  have hz:r.all (λ x=>x==0)=true:=by
   rw [List.all_eq_true]
   intro y hy
   obtain ⟨j,hj,rfl⟩:=List.mem_iff_getElem.1 hy
   have:=hall j (by simp at hlt;omega)
   simp only [Option.getD_some] at this
   rw [List.getElem?_eq_getElem hj] at this
   simpa using this
  cases hok:cE nd with
  | false =>
   have hN:gG bs=none:=by rw [hread];simp [finN,hok]
   repeat (first|refine aU rfl rfl rfl ?_|(refine aB ?_;refine TL.pure rfl rfl ?_)|(refine aY ?_;refine bK rfl yB (by exact rfl) rfl ?_)|(refine aH ?_;refine aQ rfl yD rfl ?_))
   refine aI rfl (check_bad hnd3 hok) rfl ?_
   rintro _ w4 ⟨rfl,hg4⟩
   repeat (first|refine aU rfl rfl rfl ?_|(refine aD ?_;refine TL.pure rfl rfl ?_)|refine TL.nil ?_|refine aA ?_|refine aJ ?_|refine aC ?_|(refine aH ?_;refine aZ rfl yD rfl ?_)|(refine aP ?_;(refine bA rfl rfl yB (by exact rfl) (by exact rfl) (by exact rfl) ?_;intro w' hu hbk hsz))|refine TL.build rfl rfl rfl ?_|refine aM rfl ?_|refine bE ?_|refine bI ?_|refine TL.pure rfl rfl ?_)
   exact jW rfl (bV (by assumption) rfl) rfl ⟨_,rfl,by rw [hN];rfl,yG⟩
  | true =>
   have hN:gG bs=some nd:=by rw [hread];simp only [Option.bind_some,finN,hz,hok];rfl
   repeat (first|refine aU rfl rfl rfl ?_|(refine aB ?_;refine TL.pure rfl rfl ?_)|(refine aY ?_;refine bK rfl yB (by exact rfl) rfl ?_)|(refine aH ?_;refine aQ rfl yD rfl ?_))
   refine aI rfl (check_ok hnd3 hok) rfl ?_
   rintro _ w4 ⟨rfl,hg4⟩
   repeat (first|refine aU rfl rfl rfl ?_|(refine aD ?_;refine TL.pure rfl rfl ?_)|(refine aY ?_;refine bK rfl yB (by exact rfl) rfl ?_)|refine TL.nil ?_|refine aA ?_|refine aJ ?_|refine aC ?_|(refine aH ?_;refine aQ rfl yD rfl ?_)|(refine aP ?_;(refine bA rfl rfl yB (by exact rfl) (by exact rfl) (by exact rfl) ?_;intro w' hu hbk hsz))|refine aE rfl ?_|refine bE ?_|refine aW ?_|refine TL.pure rfl rfl ?_)
   refine jW rfl (bV (by assumption) rfl) rfl ⟨_,rfl,?_,yG⟩
   rw [hN]
   exact ⟨x,rfl,hnd3.go ((Carry.grow hg4).trans ((Carry.upd hu (λ k hk _=>by omega)).trans (Carry.mono (λ k hk _=>by omega))))⟩
end Go.Proofs.YtfpadnmdafiddaaGreatDoor
