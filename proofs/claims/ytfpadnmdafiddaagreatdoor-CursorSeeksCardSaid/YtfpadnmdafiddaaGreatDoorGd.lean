import Derived.Test.YtfpadnmdafiddaaGreatDoorG0
import Derived.Test.YtfpadnmdafiddaaGreatDoorGc
import Derived.Lib.AppendZeros
set_option linter.all false
set_option maxHeartbeats 16000000
set_option maxRecDepth 100000
namespace Go.Proofs.YtfpadnmdafiddaaGreatDoor
open Go Go.RowKit Go.V
theorem RS.wlt {B b m:Nat} {o:Option Bs} {w:World} (h:RS B b o w):(rdW m o).1<2^(8*m):=by
 cases o with
 | none=>exact Nat.two_pow_pos _
 | some r =>
  unfold rdW;simp only;split
  ·exact leW_lt (Rd.bytes h) m
  ·exact Nat.two_pow_pos _
theorem RS.keep {B b:Nat} {o:Option Bs} {w w':World} (h:RS B b o w) (hBb:B≤b) (hs:w.heap.size≤w'.heap.size) (hk:∀ k,B≤k→k≤b→w'.heap[k]? = w.heap[k]?):RS B b o w':=by
 have key:∀ {e r},Rd B b r e w→Rd B b r e w':=by
  rintro e r ⟨a,n,c,p,L,h1,h2,h3⟩;refine ⟨a,n,c,p,L,?_,h2.keep (λ k hk1 _=>hk k hk1.1 oM) hs,h3⟩;unfold Blk at *;rw [hk b hBb (Nat.le_refl _)];exact h1
 cases o with
 | some r=>exact key h
 | none=>obtain ⟨r,e,he,h⟩:=h;exact ⟨r,e,he,key h⟩
abbrev nil3:List Value:=[.slice none 0 0,.slice none 0 0,.slice none 0 0]
def ReadMid (w:World) (bs:Bs) (e:dJ) (w1:World):Prop :=
 ∃ (B b bk bk2 B0:Nat) (x:NV) (nd:Nd) (o:Option Bs),Sub [(4,.pointer (some ⟨b,0,none⟩)),(7,.pointer (some ⟨bk,0,none⟩)),(2,.pointer (some ⟨bk2,0,none⟩))] e∧w.heap.size≤B∧w.heap.size≤bk2∧w.heap.size≤b∧bk2<b∧b<bk∧bk<B0 ∧
  Blk w1 bk 79 x.cs∧Blk w1 bk2 79 nil3∧RS B b o w1∧NdAt (λ k=>B0≤k) w1 x nd∧Grow w w1∧fZ bs=o.bind (finN nd)
theorem read_c (F:Nat→Prop) (a:Option Addr) (n c:Nat) (bs:Bs) (w:World) (hs:Sl F w 1 a n c (bB bs)) (hby:∀ x∈bs,x<256) (hn:n≤1000000) :
  Calls Tryz.prog 174 #[.slice a n c] w (Ret λ v w'=>(match fZ bs with
   | some nd=>∃ x:NV,v=.tuple #[x.val,.int .i64 0]∧NdAt (λ k=>w.heap.size≤k) w' x nd
   | none=>v=.tuple #[.agg nil3.toArray,.int .i64 4])∧Grow w w'):=by
 refine V.calls (args:=[_]) Tryz.func174 rfl Tryz.ntmps174 rfl rfl ?_;refine dV 5 (ReadMid w bs) ?_ ?_;rotate_left
 ·repeat (first|refine aF ?_|refine yI λ bk w' hg hbk hsz hsz'=>?_)
  obtain ⟨bk2,rfl⟩:=yE bk;obtain ⟨w0,rfl⟩:=yE w';have hbkr:Blk w0 bk2 79 nil3:=hbk;have hgr0:Grow w w0:=hg;clear hbk hg;have hsz0:=hsz';clear hsz';refine aA rfl (oread_c F a n c bs _ (hs.grow hgr0) oM) rfl ?_;rintro _ w1 ⟨b,a1,c1,rfl,hb1,hb2,hbr,hsr,hg1⟩;have hlb:=gX hsr;have hr0:RS w0.heap.size b (some bs) w1:=⟨a1,n,c1,0,bs,hbr,hsr,oM,oM,hby,rfl⟩
  clear hbr hsr;repeat refine aF ?_
  refine aA rfl (rs_word (m:=1) hr0 oM oM) rfl ?_;rintro _ w2 ⟨rfl,hr1,hm2⟩;repeat refine aF ?_
  refine aA rfl (rs_word (m:=1) hr1 oM oM) rfl ?_;rintro _ w3 ⟨rfl,hr2,hm3⟩;have hlt:=hr1.wlt (m:=1);have e0:=readN_eq bs;simp only at e0;generalize hx:(rdW 1 (rdW 1 (some bs)).2).1=cnt at *;generalize ho:(rdW 1 (rdW 1 (some bs)).2).2=o2 at *;generalize hk:(rdW 1 (some bs)).1=knd at *
  have hbk3:Blk w3 bk2 79 nil3:=by
   have h1:=hbkr.grow hg1;have h2:Blk w2 bk2 79 nil3:=cD (dO hm2) h1 oM;exact cD (dO hm3) h2 oM
  have hg3:Grow w w3:=by
   have h1:=hgr0.trans hg1;have h2:=gR (dO hm2) oM h1;exact gR (dO hm3) oM h2
  have hsz3:=hg3.size;have hb3:=hr2.lt;clear hm2 hm3 hr0 hr1 hg1 hbkr hx ho hk hgr0;have hbl2:bk2<b:=by omega
  have hwl2:w.heap.size≤bk2:=by omega
  have hwB:w.heap.size≤w0.heap.size:=by omega
  clear hsz0 hb2 hsz;repeat (first|refine aF ?_|refine yI λ bk w' hg hbk hsz hsz'=>?_)
  obtain ⟨w4,rfl⟩:=yE w';have hb4:Blk w4 bk2 79 nil3:=hbk3.grow hg;have hbk4:Blk w4 bk 79 nil3:=hbk;have hg4:Grow w w4:=hg3.trans hg;have hr4:=hr2.grow hg;have hbl:b<bk:=by omega
  have hs4:w4.heap.size=bk+1:=by omega
  clear hbk hbk3 hg3 hg hr2 hsz hsz' hb3 hsz3;refine aA rfl (rs_err hr4) rfl ?_;rintro _ _ ⟨⟨ev,rfl,hev⟩,rfl⟩;by_cases ho2:o2=none
  ·have hev0:ev≠0:=λ h=>(hev.1 h) ho2;have hN:fZ bs=none:=by rw [e0,if_pos (.inl ho2)]
   repeat (first|refine aF ?_|refine yJ λ w' hu hbk hsz=>?_)
   exact fN rfl (aW (by assumption) rfl) rfl ⟨_,rfl,by rw [hN];rfl,yG⟩
  have hev0:ev=0:=hev.2 ho2;subst hev0;clear hev;by_cases h8:8<cnt
  ·have hN:fZ bs=none:=by rw [e0,if_pos (.inr h8)]
   repeat (first|refine aF ?_|refine yJ λ w' hu hbk hsz=>?_)
   exact fN rfl (aW (by assumption) rfl) rfl ⟨_,rfl,by rw [hN];rfl,yG⟩
  rw [if_neg (by rintro (h|h);exact ho2 h;exact h8 h)] at e0;by_cases hk0:knd=0
  ·rw [if_pos hk0] at e0;subst hk0;repeat refine aF ?_
   refine aX (S:=Value×Nat) (λ s=>[(32,.int .i64 (s.2:Int)),(31,.int .i64 (cnt:Int)),(4,.pointer (some ⟨b,0,none⟩)),(7,.pointer (some ⟨bk,0,none⟩)),(2,.pointer (some ⟨bk2,0,none⟩))])
    (λ s w1=>s.2≤cnt∧∃ (its:bT) (o:Option Bs) (cells:List Value),Blk w1 bk 79 [s.1,.slice none 0 0,.slice none 0 0]∧Blk w1 bk2 79 nil3∧w1.ownsRow (bk+1) 58 2 s.1 s.2 cells∧ItCells (λ k=>bk+1≤k∧s.1.ownBlock≠some k) w1 cells its∧RS w0.heap.size b o w1∧Grow w w1∧lF cnt o2=(its++(lF (cnt-s.2) o).1,(lF (cnt-s.2) o).2))
    (λ s=>cnt-s.2) (.slice none 0 0,0) ⟨rfl,rfl,rfl,rfl,rfl,trivial⟩ ⟨by show 0≤cnt;omega,[],o2,[],hbk4,hb4,lK,trivial,hr4,hg4,rfl⟩ ?_
   clear hbk4 hb4 hr4 hg4 hs4;rintro ⟨v,i⟩ w1 ⟨hi,its,o,cells,hbk,hb2,hown,hcells,hrs,hg1,hread⟩;simp only at hi hbk hown hcells hread;refine bD (e':=[(32,.int .i64 (i:Int)),(31,.int .i64 (cnt:Int)),(4,.pointer (some ⟨b,0,none⟩)),(7,.pointer (some ⟨bk,0,none⟩)),(2,.pointer (some ⟨bk2,0,none⟩))]) ?_ ⟨rfl,rfl,rfl,rfl,rfl,trivial⟩;have hl1:=hbk.lt;by_cases hlt:i<cnt;rotate_left
   ·obtain rfl:i=cnt:=by omega
    rw [Nat.sub_self] at hread;simp only [lF,List.append_nil] at hread;repeat refine aF ?_
    obtain ⟨va,vc,rfl,hsl⟩:=aM hown;refine ⟨w0.heap.size,b,bk,bk2,bk+1,⟨va,i,vc,none,0,0,none,0,0⟩,⟨its,[],[]⟩,o,⟨rfl,rfl,rfl,trivial⟩,oM,oM,oM,oM,oM,oM,hbk,hb2,hrs,⟨⟨cells,hsl.mono λ k hk=>hk.1,hcells.go (Carry.mono λ k hk _=>hk.1)⟩,Sl.nil_mk _ _ _,⟨[],Sl.nil_mk _ _ _,trivial⟩⟩,hg1,?_⟩;rw [e0,hread]
   repeat refine aF ?_
   refine aA rfl (rs_block hrs) rfl ?_;rintro _ w2 ⟨ka,kc,rfl,hks,hrs2,hm2⟩;have hbu2:=dO hm2;have hbk2':Blk w2 bk 79 [v,.slice none 0 0,.slice none 0 0]:=cD hbu2 hbk oM;have hs2:=hm2.size;repeat refine aF ?_
   apply nC (Mut b) 7 4 (λ w=>RS w0.heap.size b (hO o).2 w∧But b w2 w) (λ w=>RS w0.heap.size b (hO (hO o).2).2 w∧But b w2 w) (λ w=>But b w2 w)
    [gZ _,gZ _,gZ _,gZ _,ofA (λ u w=>∃ a c,u=.slice a (hO (hO o).2).1.length c∧Sl (λ k=>w2.heap.size≤k) w 1 a (hO (hO o).2).1.length c (bB (hO (hO o).2).1)) (by rintro u w w' g ⟨a,c,h1,h2⟩;exact ⟨a,c,h1,h2.grow g⟩),
     ofA (λ u w=>∃ a c,u=.agg #[.slice ka (hO o).1.length kc,.slice a (hO (hO o).2).1.length c]∧Sl (λ k=>w2.heap.size≤k) w 1 a (hO (hO o).2).1.length c (bB (hO (hO o).2).1)) (by rintro u w w' g ⟨a,c,h1,h2⟩;exact ⟨a,c,h1,h2.grow g⟩),
     ofA (λ u w=>∃ bb a c,u=.slice (some ⟨bb,0,none⟩) 1 1∧w2.heap.size≤bb∧Blk w bb 58 [.slice ka (hO o).1.length kc,.slice a (hO (hO o).2).1.length c]∧Sl (λ k=>w2.heap.size≤k) w 1 a (hO (hO o).2).1.length c (bB (hO (hO o).2).1)) (by rintro u w w' g ⟨bb,a,c,h1,h0,h2,h3⟩;exact ⟨bb,a,c,h1,h0,h2.grow g,h3.grow g⟩)]
   ·kernel_rfl
   ·exact ⟨hrs2,But.refl _ _⟩
   ·exact λ _ h=>h.2
   ·exact λ _ h=>h.2
   ·exact λ _ h=>h.size
   ·exact λ _ _ h g=>⟨h.1.grow g,gE g h.2⟩
   ·exact λ _ _ h g=>⟨h.1.grow g,gE g h.2⟩
   ·exact λ _ _ h=>h.size
   ·repeat' (first|exact iN|refine gU ?_ ?_)
    iterate 4
     ·refine dA rfl rfl rfl rfl ?_;intro wq _ _ hiw;have hbq:=cD hiw hbk2' oM;(refine yU ?_)
      repeat refine aF ?_
      exact bQ rfl (Grow.refl _) rfl
    ·refine iM rfl rfl rfl rfl ?_;intro wq _ _ hiw;(refine yU ?_)
     refine aA rfl (rs_block hiw.1) rfl ?_;rintro _ w5 ⟨va,vc,rfl,hvs,hrs5,hm5⟩;repeat refine aF ?_
     have:=hiw.2.size;exact bQ rfl ⟨hm5,hrs5,but_but (dO hm5) hiw.2⟩ ⟨va,vc,rfl,hvs.mono λ k hk=>by omega⟩
    ·refine dA rfl rfl rfl rfl ?_;intro wq _ _ hiw;(((repeat (refine needA_cons rfl rfl ?_;intro vq hvq;try (obtain rfl:=Eq.symm hvq)));(refine needA_nil ?_)))
     obtain ⟨va,vc,rfl,hvs⟩:=hvq;repeat refine aF ?_
     exact bQ rfl (Grow.refl _) ⟨va,vc,rfl,hvs⟩
    ·refine dA rfl rfl rfl rfl ?_;intro wq _ _ hiw;(((repeat (refine needA_cons rfl rfl ?_;intro vq hvq;try (obtain rfl:=Eq.symm hvq)));(refine needA_nil ?_)))
     obtain ⟨va,vc,rfl,hvs⟩:=hvq;have:=hiw.size;refine TL.buildSlice rfl rfl rfl rfl rfl ?_;intro bb w6 hg6 hb6 hs61 hs62 hs63;repeat refine aF ?_
     exact bQ rfl hg6 ⟨bb,va,vc,rfl,oM,hb6,hvs.grow hg6⟩
   ·rintro wT lo hi ⟨hrT,hbT⟩ _ _;(((repeat (refine needA_cons rfl rfl ?_;intro vq hvq;try (obtain rfl:=Eq.symm hvq)));(refine needA_nil ?_)))
    obtain ⟨bb,va,vc,rfl,hbb0,hbb,hvs⟩:=hvq;have hownT:=mN (mN hown hbu2 oM) hbT oM;have hbkT:=cD hbT hbk2' oM;have hb2T:Blk wT bk2 79 nil3:=cD hbT (cD hbu2 hb2 oM) oM;have hsT:=hbT.size;refine eG rfl rfl hownT (aV (sz:=2) (m:=1) hbb rfl dM) (by simp [Value.oneCell']) (by unfold maxLen;omega) oM oM rfl ?_;intro v' w7 hown7 hgb7 hcar;have hbk7:=dD hgb7 (λ e=>by have:=aT hownT e;omega) hbkT;have hb27:=dD hgb7 (λ e=>by have:=aT hownT e;omega) hb2T;have hr7:RS w0.heap.size b (hO (hO o).2).2 w7:=hrT.keep oM hgb7.size (λ k h1 h2=>hgb7.block k oM (λ e=>by have:=aT hownT e.symm;omega));have hg7:Grow w w7:=Grow.mk (aL hgb7 oM (λ k hk=>by have:=aT hownT hk;omega) (gR hbT oM (gR hbu2 oM hg1)).1);have hc1:Carry (λ k=>bk+1≤k∧v.ownBlock≠some k) w2 (λ k=>bk+1≤k∧v'.ownBlock≠some k) w7:=(Carry.but hbT (λ k hk _=>by omega)).trans (hcar (λ k=>bk+1≤k));have hc2:Carry (λ k=>bk+1≤k∧v.ownBlock≠some k) wT (λ k=>bk+1≤k∧v'.ownBlock≠some k) w7:=hcar (λ k=>bk+1≤k);have hcellsA:=hcells.go ((Carry.but hbu2 (λ k hk _=>by omega)).trans hc1);have hkA:=hks.go ((Carry.mono (λ k hk _=>⟨oM,λ e=>by have:=aT hown e;omega⟩)).trans hc1);have hvA:=hvs.go ((Carry.mono (λ k hk _=>⟨oM,λ e=>by have:=aT hown e;omega⟩)).trans hc2);obtain ⟨va7,vc7,rfl,hsl7⟩:=aM hown7;have hs7:=hgb7.size;clear hcar hc1 hc2 hbk hb2 hbk2' hbkT hb2T hrT hrs hrs2;repeat (first|refine aF ?_|refine yJ λ w' hu hbk hsz=>?_)
    have hcu:Carry (λ k=>bk+1≤k∧(Value.slice va7 (i+1) vc7).ownBlock≠some k) w7 (λ k=>bk+1≤k∧(Value.slice va7 (i+1) vc7).ownBlock≠some k) w':=Carry.upd hu (λ k hk _=>by omega);refine aE (.slice va7 (i+1) vc7,i+1) ⟨rfl,rfl,rfl,rfl,rfl,trivial⟩ ⟨hlt,its++[((hO o).1,(hO (hO o).2).1)],(hO (hO o).2).2,cells++[.slice ka (hO o).1.length kc,.slice va (hO (hO o).2).1.length vc],hbk,Blk.upd hu oM hb27,gA hown7 hu oM,(hcellsA.append (show ItCells _ _ [_,_] [((hO o).1,(hO (hO o).2).1)] from ⟨⟨_,_,_,rfl,hkA⟩,⟨_,_,_,rfl,hvA⟩,trivial⟩)).go hcu,hr7.keep oM oM (λ k h1 h2=>hu.block k oM),aI hu oM hg7,?_⟩ (by simp only;omega);rw [show cnt-i=cnt-(i+1)+1 by omega] at hread;simp only [lF] at hread;rw [hread];simp
  rw [if_neg hk0] at e0;by_cases hk1:knd=1;rotate_left
  ·have hN:fZ bs=none:=by rw [e0,if_neg (λ h=>hk1 h.1)]
   repeat (first|refine aF ?_|refine yJ λ w' hu hbk hsz=>?_)
   exact fN rfl (aW (by assumption) rfl) rfl ⟨_,rfl,by rw [hN];rfl,yG⟩
  by_cases hc2:2≤cnt;rotate_left
  ·have hN:fZ bs=none:=by rw [e0,if_neg (λ h=>hc2 h.2)]
   repeat (first|refine aF ?_|refine yJ λ w' hu hbk hsz=>?_)
   exact fN rfl (aW (by assumption) rfl) rfl ⟨_,rfl,by rw [hN];rfl,yG⟩
  rw [if_pos ⟨hk1,hc2⟩] at e0;subst hk1;repeat refine aF ?_
  refine aX (S:=Value×Nat) (λ s=>[(54,.int .i64 (s.2:Int)),(53,.int .i64 (cnt:Int)),(6,.int .i64 (cnt:Int)),(4,.pointer (some ⟨b,0,none⟩)),(7,.pointer (some ⟨bk,0,none⟩)),(2,.pointer (some ⟨bk2,0,none⟩))])
   (λ s w1=>s.2≤cnt∧∃ (kds:List Nat) (o:Option Bs),Blk w1 bk 79 [.slice none 0 0,s.1,.slice none 0 0]∧Blk w1 bk2 79 nil3∧w1.ownsRow (bk+1) 3 1 s.1 s.2 (bC kds)∧RS w0.heap.size b o w1∧Grow w w1∧kM cnt o2=(kds++(kM (cnt-s.2) o).1,(kM (cnt-s.2) o).2))
   (λ s=>cnt-s.2) (.slice none 0 0,0) ⟨rfl,rfl,rfl,rfl,rfl,rfl,trivial⟩ ⟨by show 0≤cnt;omega,[],o2,hbk4,hb4,lK,hr4,hg4,rfl⟩ ?_
  clear hbk4 hb4 hr4 hg4 hs4;rintro ⟨v,i⟩ w1 ⟨hi,kds,o,hbk,hb2,hown,hrs,hg1,hread⟩;simp only at hi hbk hown hread;refine bD (e':=[(54,.int .i64 (i:Int)),(53,.int .i64 (cnt:Int)),(6,.int .i64 (cnt:Int)),(4,.pointer (some ⟨b,0,none⟩)),(7,.pointer (some ⟨bk,0,none⟩)),(2,.pointer (some ⟨bk2,0,none⟩))]) ?_ ⟨rfl,rfl,rfl,rfl,rfl,rfl,trivial⟩;have hl1:=hbk.lt;by_cases hlt:i<cnt
  ·have hwl:=hrs.wlt (m:=4);repeat refine aF ?_
   apply nC (Mut b) 6 3 (λ w=>RS w0.heap.size b o w∧But b w1 w) (λ w=>RS w0.heap.size b (rdW 4 o).2 w∧But b w1 w) (λ w=>But b w1 w)
    [gZ _,gZ _,gZ _,gZ (.int .u64 ((rdW 4 o).1:Int)),gZ (.int .i64 ((rdW 4 o).1:Int)),
     ofA (λ u w=>∃ bb,u=.slice (some ⟨bb,0,none⟩) 1 1∧w1.heap.size≤bb∧Blk w bb 3 [.int .i64 ((rdW 4 o).1:Int)]) (by rintro u w w' g ⟨bb,h1,h0,h2⟩;exact ⟨bb,h1,h0,h2.grow g⟩)]
   ·kernel_rfl
   ·exact ⟨hrs,But.refl _ _⟩
   ·exact λ _ h=>h.2
   ·exact λ _ h=>h.2
   ·exact λ _ h=>h.size
   ·exact λ _ _ h g=>⟨h.1.grow g,gE g h.2⟩
   ·exact λ _ _ h g=>⟨h.1.grow g,gE g h.2⟩
   ·exact λ _ _ h=>h.size
   ·repeat' (first|exact iN|refine gU ?_ ?_)
    iterate 3
     ·refine dA rfl rfl rfl rfl ?_;intro wq _ _ hiw;have hbq:=cD hiw hbk oM;(refine yU ?_)
      repeat refine aF ?_
      exact bQ rfl (Grow.refl _) rfl
    ·refine iM rfl rfl rfl rfl ?_;intro wq _ _ hiw;(refine yU ?_)
     refine aA rfl (rs_word (m:=4) hiw.1 oM oM) rfl ?_;rintro _ w5 ⟨rfl,hrs5,hm5⟩;repeat refine aF ?_
     exact bQ rfl ⟨hm5,hrs5,but_but (dO hm5) hiw.2⟩ rfl
    ·refine dA rfl rfl rfl rfl ?_;intro wq _ _ hiw;(refine yU ?_)
     repeat refine aF ?_
     exact bQ rfl (Grow.refl _) rfl
    ·refine dA rfl rfl rfl rfl ?_;intro wq _ _ hiw;(refine yU ?_)
     have:=hiw.size;refine TL.buildSlice rfl rfl rfl rfl rfl ?_;intro bb w6 hg6 hb6 hs61 hs62 hs63;repeat refine aF ?_
     exact bQ rfl hg6 ⟨bb,rfl,oM,hb6⟩
   ·rintro wT lo hi ⟨hrT,hbT⟩ _ _;(((repeat (refine needA_cons rfl rfl ?_;intro vq hvq;try (obtain rfl:=Eq.symm hvq)));(refine needA_nil ?_)))
    obtain ⟨bb,rfl,hbb0,hbb⟩:=hvq;have hownT:=mN hown hbT oM;have hbkT:=cD hbT hbk oM;have hb2T:Blk wT bk2 79 nil3:=cD hbT hb2 oM;have hsT:=hbT.size;refine eG rfl rfl hownT (aV (sz:=1) (m:=1) hbb rfl dM) (by simp [Value.oneCell']) (by unfold maxLen;omega) oM oM rfl ?_;intro v' w7 hown7 hgb7 hcar;have hbk7:=dD hgb7 (λ e=>by have:=aT hownT e;omega) hbkT;have hb27:=dD hgb7 (λ e=>by have:=aT hownT e;omega) hb2T;have hr7:RS w0.heap.size b (rdW 4 o).2 w7:=hrT.keep oM hgb7.size (λ k h1 h2=>hgb7.block k oM (λ e=>by have:=aT hownT e.symm;omega));have hg7:Grow w w7:=Grow.mk (aL hgb7 oM (λ k hk=>by have:=aT hownT hk;omega) (gR hbT oM hg1).1);obtain ⟨va7,vc7,rfl,hsl7⟩:=aM hown7;have hs7:=hgb7.size;clear hcar hbk hb2 hbkT hb2T hrT hrs;repeat (first|refine aF ?_|refine yJ λ w' hu hbk hsz=>?_)
    refine aE (.slice va7 (i+1) vc7,i+1) ⟨rfl,rfl,rfl,rfl,rfl,rfl,trivial⟩ ⟨hlt,kds++[(rdW 4 o).1],(rdW 4 o).2,hbk,Blk.upd hu oM hb27,by simpa [bC] using gA hown7 hu oM,hr7.keep oM oM (λ k h1 h2=>hu.block k oM),aI hu oM hg7,?_⟩ (by simp only;omega);rw [show cnt-i=cnt-(i+1)+1 by omega] at hread;simp only [kM] at hread;rw [hread];simp
  obtain rfl:i=cnt:=by omega
  rw [Nat.sub_self] at hread;simp only [kM,List.append_nil] at hread;obtain ⟨ka2,kc2,rfl,hsl⟩:=aM hown;obtain ⟨H,hH⟩:∃ H,w1.heap.size=H:=⟨_,rfl⟩
  have hbH:bk+1≤H:=by omega
  have hk2:Sl (λ k=>bk+1≤k∧k<H) w1 1 ka2 i kc2 (bC kds):=hsl.tight.mono (λ k hk=>⟨hk.1.1,oM⟩);rw [hread] at e0;simp only at e0;clear hown hsl;repeat refine aF ?_
  refine aX (S:=Value×Nat) (λ s=>[(67,.int .i64 (s.2:Int)),(66,.int .i64 ((i-1:Nat):Int)),(4,.pointer (some ⟨b,0,none⟩)),(7,.pointer (some ⟨bk,0,none⟩)),(2,.pointer (some ⟨bk2,0,none⟩))])
   (λ s w1=>s.2≤i-1∧H≤w1.heap.size∧∃ (kys:List Bs) (o4:Option Bs) (cells:List Value),Blk w1 bk 79 [.slice none 0 0,.slice ka2 i kc2,s.1]∧Blk w1 bk2 79 nil3∧Sl (λ k=>bk+1≤k∧k<H) w1 1 ka2 i kc2 (bC kds)∧w1.ownsRow H 30 1 s.1 s.2 cells∧KyCells (λ k=>H≤k∧s.1.ownBlock≠some k) w1 cells kys∧RS w0.heap.size b o4 w1∧Grow w w1∧lE (i-1) o=(kys++(lE (i-1-s.2) o4).1,(lE (i-1-s.2) o4).2))
   (λ s=>i-1-s.2) (.slice none 0 0,0) ⟨rfl,rfl,rfl,rfl,rfl,trivial⟩ ⟨by show 0≤i-1;omega,oM,[],o,[],hbk,hb2,hk2,lK,trivial,hrs,hg1,rfl⟩ ?_
  clear hbk hb2 hk2 hrs hg1 hH;rintro ⟨v,j⟩ w1 ⟨hj,hHw,kys,o4,cells,hbk,hb2,hk2,hown,hcells,hrs,hg1,hread3⟩;simp only at hj hbk hown hcells hread3;refine bD (e':=[(67,.int .i64 (j:Int)),(66,.int .i64 ((i-1:Nat):Int)),(4,.pointer (some ⟨b,0,none⟩)),(7,.pointer (some ⟨bk,0,none⟩)),(2,.pointer (some ⟨bk2,0,none⟩))]) ?_ ⟨rfl,rfl,rfl,rfl,rfl,trivial⟩;have hl1:=hbk.lt;by_cases hlt:j<i-1;rotate_left
  ·obtain rfl:j=i-1:=by omega
   rw [Nat.sub_self] at hread3;simp only [lE,List.append_nil] at hread3;repeat refine aF ?_
   obtain ⟨va,vc,rfl,hsl⟩:=aM hown;refine ⟨w0.heap.size,b,bk,bk2,bk+1,⟨none,0,0,ka2,i,kc2,va,i-1,vc⟩,⟨[],kds,kys⟩,o4,⟨rfl,rfl,rfl,trivial⟩,oM,oM,oM,oM,oM,oM,hbk,hb2,hrs,⟨⟨[],Sl.nil_mk _ _ _,trivial⟩,hk2.mono λ k hk=>hk.1,⟨cells,hsl.mono λ k hk=>by have:=hk.1;omega,hcells.go (Carry.mono λ k hk _=>by have:=hk.1;omega)⟩⟩,hg1,?_⟩;rw [e0,hread3]
  ·repeat refine aF ?_
   apply nC (Mut b) 5 3 (λ w=>RS w0.heap.size b o4 w∧But b w1 w) (λ w=>RS w0.heap.size b (hO o4).2 w∧But b w1 w) (λ w=>But b w1 w)
    [gZ _,gZ _,gZ _,ofA (λ u w=>∃ a c,u=.slice a (hO o4).1.length c∧Sl (λ k=>w1.heap.size≤k) w 1 a (hO o4).1.length c (bB (hO o4).1)) (by rintro u w w' g ⟨a,c,h1,h2⟩;exact ⟨a,c,h1,h2.grow g⟩),
     ofA (λ u w=>∃ bb a c,u=.slice (some ⟨bb,0,none⟩) 1 1∧w1.heap.size≤bb∧Blk w bb 30 [.slice a (hO o4).1.length c]∧Sl (λ k=>w1.heap.size≤k) w 1 a (hO o4).1.length c (bB (hO o4).1)) (by rintro u w w' g ⟨bb,a,c,h1,h0,h2,h3⟩;exact ⟨bb,a,c,h1,h0,h2.grow g,h3.grow g⟩)]
   ·kernel_rfl
   ·exact ⟨hrs,But.refl _ _⟩
   ·exact λ _ h=>h.2
   ·exact λ _ h=>h.2
   ·exact λ _ h=>h.size
   ·exact λ _ _ h g=>⟨h.1.grow g,gE g h.2⟩
   ·exact λ _ _ h g=>⟨h.1.grow g,gE g h.2⟩
   ·exact λ _ _ h=>h.size
   ·repeat' (first|exact iN|refine gU ?_ ?_)
    iterate 3
     ·refine dA rfl rfl rfl rfl ?_;intro wq _ _ hiw;have hbq:=cD hiw hbk oM;(refine yU ?_)
      repeat refine aF ?_
      exact bQ rfl (Grow.refl _) rfl
    ·refine iM rfl rfl rfl rfl ?_;intro wq _ _ hiw;(refine yU ?_)
     refine aA rfl (rs_block hiw.1) rfl ?_;rintro _ w5 ⟨va,vc,rfl,hvs,hrs5,hm5⟩;repeat refine aF ?_
     have:=hiw.2.size;exact bQ rfl ⟨hm5,hrs5,but_but (dO hm5) hiw.2⟩ ⟨va,vc,rfl,hvs.mono λ k hk=>by omega⟩
    ·refine dA rfl rfl rfl rfl ?_;intro wq _ _ hiw;(((repeat (refine needA_cons rfl rfl ?_;intro vq hvq;try (obtain rfl:=Eq.symm hvq)));(refine needA_nil ?_)))
     obtain ⟨va,vc,rfl,hvs⟩:=hvq;have:=hiw.size;refine TL.buildSlice rfl rfl rfl rfl rfl ?_;intro bb w6 hg6 hb6 hs61 hs62 hs63;repeat refine aF ?_
     exact bQ rfl hg6 ⟨bb,va,vc,rfl,oM,hb6,hvs.grow hg6⟩
   ·rintro wT lo hi ⟨hrT,hbT⟩ _ _;(((repeat (refine needA_cons rfl rfl ?_;intro vq hvq;try (obtain rfl:=Eq.symm hvq)));(refine needA_nil ?_)))
    obtain ⟨bb,va,vc,rfl,hbb0,hbb,hvs⟩:=hvq;have hownT:=mN hown hbT oM;have hbkT:=cD hbT hbk oM;have hb2T:Blk wT bk2 79 nil3:=cD hbT hb2 oM;have hkT:=hk2.go (Carry.but hbT (λ k hk _=>by omega));have hsT:=hbT.size;refine eG rfl rfl hownT (aV (sz:=1) (m:=1) hbb rfl dM) (by simp [Value.oneCell']) (by unfold maxLen;omega) oM oM rfl ?_;intro v' w7 hown7 hgb7 hcar;have hbk7:=dD hgb7 (λ e=>by have:=aT hownT e;omega) hbkT;have hb27:=dD hgb7 (λ e=>by have:=aT hownT e;omega) hb2T;have hk7:Sl (λ k=>bk+1≤k∧k<H) w7 1 ka2 i kc2 (bC kds):=hkT.keep (λ k hk hk2=>hgb7.block k hk2 (λ e=>by have:=aT hownT e.symm;omega)) hgb7.size;have hr7:RS w0.heap.size b (hO o4).2 w7:=hrT.keep oM hgb7.size (λ k h1 h2=>hgb7.block k oM (λ e=>by have:=aT hownT e.symm;omega));have hg7:Grow w w7:=Grow.mk (aL hgb7 oM (λ k hk=>by have:=aT hownT hk;omega) (gR hbT oM hg1).1);have hc2:Carry (λ k=>H≤k∧v.ownBlock≠some k) wT (λ k=>H≤k∧v'.ownBlock≠some k) w7:=hcar (λ k=>H≤k);have hcellsA:=hcells.go ((Carry.but hbT (λ k hk _=>by omega)).trans hc2);have hvA:=hvs.go ((Carry.mono (λ k hk _=>⟨oM,λ e=>by have:=aT hown e;omega⟩)).trans hc2);obtain ⟨va7,vc7,rfl,hsl7⟩:=aM hown7;have hs7:=hgb7.size;clear hcar hc2 hbk hb2 hbkT hb2T hrT hrs hk2 hkT;repeat (first|refine aF ?_|refine yJ λ w' hu hbk hsz=>?_)
    have hcu:Carry (λ k=>H≤k∧(Value.slice va7 (j+1) vc7).ownBlock≠some k) w7 (λ k=>H≤k∧(Value.slice va7 (j+1) vc7).ownBlock≠some k) w':=Carry.upd hu (λ k hk _=>by omega);refine aE (.slice va7 (j+1) vc7,j+1) ⟨rfl,rfl,rfl,rfl,rfl,trivial⟩ ⟨hlt,oM,kys++[(hO o4).1],(hO o4).2,cells++[.slice va (hO o4).1.length vc],hbk,Blk.upd hu oM hb27,hk7.go (Carry.upd hu (λ k hk _=>by omega)),gA hown7 hu oM,(hcellsA.append (show KyCells _ _ [_] [(hO o4).1] from ⟨⟨_,_,_,rfl,hvA⟩,trivial⟩)).go hcu,hr7.keep oM oM (λ k h1 h2=>hu.block k oM),aI hu oM hg7,?_⟩ (by simp only;omega);rw [show i-1-j=i-1-(j+1)+1 by omega] at hread3;simp only [lE] at hread3;rw [hread3];simp
 rintro e w1 ⟨B,b,bk,bk2,B0,x,nd,o,hsub,q1,q2,q3,q4,q5,q6,hbk,hb2,hrs,hnd,hg1,hread⟩;refine bD (e':=[(4,_),(7,_),(2,_)]) ?_ hsub;clear hsub;obtain ⟨m,hm,hleft,htake⟩:=rs_rest hrs;have hlb1:=hbk.lt;repeat refine aF ?_
 refine aA rfl hleft rfl ?_;rintro _ w2 ⟨rfl,hg2⟩;repeat refine aF ?_
 refine aA rfl (htake w2 (hrs.grow hg2) hg2) rfl ?_;rintro _ w3 ⟨ta,tc,rfl,hts,hrs3,hm3⟩;have hbk3:Blk w3 bk 79 x.cs:=cD (dO hm3) (hbk.grow hg2) oM;have hb23:Blk w3 bk2 79 nil3:=cD (dO hm3) (hb2.grow hg2) oM;have hnd3:NdAt (λ k=>B0≤k) w3 x nd:=hnd.go ((Carry.grow hg2).trans (Carry.but (dO hm3) (λ k hk _=>by omega)));have hg3:Grow w w3:=gR (dO hm3) oM (hg1.trans hg2);clear hbk hb2 hnd hrs hleft htake hg2 hm3 hg1;repeat refine aF ?_
 have htl:=hts.le;refine aX (S:=Nat) (λ i=>[(82,.int .i64 (i:Int)),(81,.int .i64 ((o.getD []).length:Int)),(80,.slice ta (o.getD []).length tc),(4,.pointer (some ⟨b,0,none⟩)),(7,.pointer (some ⟨bk,0,none⟩)),(2,.pointer (some ⟨bk2,0,none⟩))]) (λ i w'=>i≤(o.getD []).length∧w3=w'∧∀ j,j<i→(o.getD [])[j]? = some 0) (λ i=>(o.getD []).length-i) 0 ⟨rfl,rfl,rfl,rfl,rfl,rfl,trivial⟩ ⟨oM,rfl,λ j hj=>by omega⟩ ?_;rintro i _ ⟨hi,rfl,hall⟩;by_cases hlt:i<(o.getD []).length
 ·obtain ⟨p,hp⟩:∃ p,(o.getD [])[i]? = some p:=⟨_,List.getElem?_eq_getElem oM⟩
  have hcx:w3.cell? (at' ta i)=some (.int .u8 (p:Int)):=hts.row.cell (bys_at hp);by_cases hp0:p=0
  ·subst hp0;repeat (first|(refine aH ?_;refine aC rfl rfl rfl hlt (Nat.mul_one _) ⟨_,_,hts⟩ rfl ?_)|refine yC ?_)
   exact aE (i+1) ⟨rfl,rfl,rfl,rfl,rfl,rfl,trivial⟩ ⟨hlt,rfl,λ j hj=>by
    by_cases hj2:j=i
    ·subst hj2;exact hp
    ·exact hall j oM⟩ oM
  ·have hN:fZ bs=none:=by
    rw [hread]
    cases o with
    | none=>rfl
    | some r =>
     have:r.all (λ x=>x==0)=false:=by
      rw [← Bool.not_eq_true,List.all_eq_true];intro h;have:=h p (List.mem_of_getElem? hp);simp at this;exact hp0 this
     simp [finN,this]
   repeat (first|(refine aH ?_;refine aC rfl rfl rfl hlt (Nat.mul_one _) ⟨_,_,hts⟩ rfl ?_)|refine yC ?_|refine yJ λ w' hu hbk hsz=>?_)
   exact fN rfl (aW (by assumption) rfl) rfl ⟨_,rfl,by rw [hN];rfl,yG⟩
 repeat refine aF ?_
 refine aA rfl (rs_err hrs3) rfl ?_;rintro _ _ ⟨⟨ev,rfl,hev⟩,rfl⟩
 cases o with
 | none =>
  have hev0:ev≠0:=λ h=>(hev.1 h) rfl;have hN:fZ bs=none:=hread;repeat (first|refine aF ?_|refine yJ λ w' hu hbk hsz=>?_)
  exact fN rfl (aW (by assumption) rfl) rfl ⟨_,rfl,by rw [hN];rfl,yG⟩
 | some r =>
  have hev0:ev=0:=hev.2 sM;subst hev0
  have hz:r.all (λ x=>x==0)=true:=by
   rw [List.all_eq_true];intro y hy;obtain ⟨j,hj,rfl⟩:=List.mem_iff_getElem.1 hy;have:=hall j (by simp at hlt;omega);simp only [Option.getD_some] at this;rw [List.getElem?_eq_getElem hj] at this;simpa using this
  cases hok:bF nd with
  | false =>
   have hN:fZ bs=none:=by rw [hread];simp [finN,hok]
   repeat refine aF ?_
   refine aA rfl (check_bad hnd3 hok) rfl ?_;rintro _ w4 ⟨rfl,hg4⟩;repeat (first|refine aF ?_|refine yJ λ w' hu hbk hsz=>?_)
   exact fN rfl (aW (by assumption) rfl) rfl ⟨_,rfl,by rw [hN];rfl,yG⟩
  | true =>
   have hN:fZ bs=some nd:=by rw [hread];simp only [Option.bind_some,finN,hz,hok];rfl
   repeat refine aF ?_
   refine aA rfl (check_ok hnd3 hok) rfl ?_;rintro _ w4 ⟨rfl,hg4⟩;repeat (first|refine aF ?_|refine yJ λ w' hu hbk hsz=>?_)
   refine fN rfl (aW (by assumption) rfl) rfl ⟨_,rfl,?_,yG⟩;rw [hN];exact ⟨x,rfl,hnd3.go ((Carry.grow hg4).trans ((Carry.upd hu (λ k hk _=>by omega)).trans (Carry.mono (λ k hk _=>by omega))))⟩
end Go.Proofs.YtfpadnmdafiddaaGreatDoor
namespace Go.V
open Go Go.RowKit
section
variable [Rn]
variable {P:Program} {n:Nat} {e:dJ} {w:World} {Q:dI} {ops:Array Oper} {rest:List Oper} {d:Nat} {ty:TypeId} {pos:String} {aft:Array Edge}
theorem TL.eqNilP {t t2:TypeId} {x y:Operand} {a:Addr} [ht:PtrTy P t] (hx:val e x=some (.pointer (some a))) (hy:val e y=some (.pointer none)) (hd:Nat.blt d n=true)
  (k:TL P n ops rest ((d,.bool false)::e) w Q):TL P n ops (⟨some d,.binOp .eql t x y t2,ty,pos,aft,none⟩::rest) e w Q :=
 TL.run (λ r hr=>by
  have hg:eqGuard .eql t x y (.pointer (some a)) (.pointer none)=Pure.pure ():=rfl;simp only [execOp,hr.eval hx,hr.eval hy,hg];simp only [binOp]
  simp [Op.equal,Op.maxDepth,run_equalIn_nil 9999 ht]) hd k
end
end Go.V
namespace Go.Proofs.YtfpadnmdafiddaaGreatDoor
open Go Go.RowKit Go.V
theorem ready_c {w:World} {L:PL} {g:Pg} (h:PgAt w L g) (r:Int) (hr : -1≤r) (hr2:r≤9223372036854775807) :
  Calls Tryz.prog 93 #[.pointer (some ⟨L.p,0,none⟩),.int .i64 r] w (Ret λ v w'=>v=.int .i64 0∧w=w'):=by
 refine V.calls (args:=[_,_]) Tryz.func93 rfl Tryz.ntmps93 rfl rfl ?_;have ht:decide (r < -1)=false:=decide_eq_false oM;repeat (first|(refine kU 25 ?_;refine TL.eqNilP rfl rfl rfl ?_)|(refine aB 50 ?_;refine aA rfl (read_neg h) rfl ?_;rintro _ _ ⟨rfl,rfl⟩)|refine yA ?_)
 exact bA rfl ⟨_,rfl,rfl,rfl⟩
theorem size_nd (x:NV) (w:World) (h1:x.n1≤1000000) (h2:x.n2≤1000000) :
  Calls Tryz.prog 83 #[x.val] w (Ret λ v w'=>v=.int .i64 ((x.n1+x.n2:Nat):Int)∧Grow w w'):=by
 refine V.calls (args:=[_]) Tryz.func83 rfl Tryz.ntmps83 rfl rfl ?_;repeat (first|refine aF ?_|refine yI λ bk w' hg hbk hsz hsz'=>?_)
 exact bA rfl ⟨_,rfl,rfl,yG⟩
theorem node_c {w:World} {L:PL} {g:Pg} (h:PgAt w L g) (n:Nat) (hn:n<4294967296) (hu:bL g n=true) :
  Calls Tryz.prog 127 #[.pointer (some ⟨L.p,0,none⟩),.int .i64 (n:Int)] w (Ret λ v w'=>(match fZ (g.body n) with
   | some nd=>∃ x:NV,v=.tuple #[x.val,.int .i64 0]∧NdAt (λ k=>w.heap.size≤k) w' x nd
   | none=>v=.tuple #[.agg nil3.toArray,.int .i64 4])∧Grow w w'):=by
 refine V.calls (args:=[_,_]) Tryz.func127 rfl Tryz.ntmps127 rfl rfl ?_;repeat (first|refine dF ?_|refine yI λ bk w' hg hbk hsz hsz'=>?_)
 have hg0:Grow w w':=by exact yG
 have hs0:=hg0.size;refine aB 50 ?_;refine aA rfl (pread_c (h.grow hg0) n hn hu) rfl ?_;rintro _ w2 ⟨u,rfl,hown,hg2⟩;obtain ⟨a,c,rfl,hsl⟩:=aM hown;have hs2:=hg2.size;repeat refine dF ?_
 refine aB 174 ?_;refine aA rfl (read_c _ a 500 c (g.body n) _ hsl (h.lt n) oM) rfl ?_;rintro v w3 ⟨hv,hg3⟩;have hbl:=hbk.lt;have hbk3:=(hbk.grow hg2).grow hg3;have hgw:=(hg0.trans hg2).trans hg3
 cases hr:fZ (g.body n) with
 | none =>
  rw [hr] at hv;simp only at hv;subst hv;repeat (first|refine dF ?_|refine yJ λ w' hu hbk hsz=>?_)
  exact fN rfl (aW (by assumption) rfl) rfl ⟨_,rfl,rfl,yG⟩
 | some nd =>
  rw [hr] at hv;obtain ⟨x,rfl,hnd⟩:=hv;repeat (first|refine dF ?_|refine yJ λ w' hu hbk hsz=>?_)
  refine fN rfl (aW (by assumption) rfl) rfl ⟨_,rfl,⟨x,rfl,?_⟩,yG⟩;have h4:=hnd.go (Carry.upd (by assumption) (λ k hk _=>by omega));exact h4.go (Carry.mono (λ k hk _=>by omega))
theorem back_c (a:Option Addr) (n c:Nat) (w:World) :
  Calls Tryz.prog 79 #[.slice a n c] w (Ret λ v w'=>∃ b1,v=.func (.func 151) #[] #[.pointer (some ⟨b1,0,none⟩)] ∧
   w.heap.size≤b1∧Blk w' b1 136 [.slice a n c]∧Grow w w'):=by
 refine V.calls (args:=[_]) Tryz.func79 rfl Tryz.ntmps79 rfl rfl ?_;repeat (first|(refine nA ?_;refine TL.makeFunc (xs:=[]) (cs:=[_]) rfl rfl rfl ?_)|refine yA ?_|refine yI λ bk w' hg hbk hsz hsz'=>?_)
 exact bA rfl ⟨_,rfl,_,rfl,oM,yB,yG⟩
theorem backs_c (G:Nat→Prop) (l b1 m:Nat) (a:Option Addr) (c:Nat) (cs:List Value) (J:Nat→World→Prop) (Fin:World→Prop) (hm:m≤1000000)
  (hpre:∀ k w,J k w→Blk w b1 136 [.slice a m c]∧Sl G w 4 a m c cs)
  (hround:∀ k w,k<m→J (k+1) w→Yld Tryz.prog l [.int .i64 (k:Int),.agg ((cs.drop (k*4)).take 4).toArray] w (λ v w'=>(v=.bool true∧J k w')∨(v=.bool false∧Fin w')))
  (w:World) (h0:J m w) :
  Calls Tryz.prog 151 #[.func (.yield l) #[] #[],.pointer (some ⟨b1,0,none⟩)] w (Ret λ _ w'=>J 0 w'∨Fin w'):=by
 refine V.calls (args:=[_,_]) Tryz.func151 rfl Tryz.ntmps151 rfl rfl ?_;obtain ⟨hb1,hs⟩:=hpre m w h0;repeat (first|(refine iP ?_;refine TL.subI rfl rfl oM oM rfl ?_)|refine yC ?_)
 refine aX (S:=Nat) (λ k=>[(3,.int .i64 ((k:Int)-1)),(1,.pointer (some ⟨b1,0,none⟩)),(0,.func (.yield l) #[] #[])]) (λ k w1=>k≤m∧J k w1) (λ k=>k) m ⟨rfl,rfl,rfl,trivial⟩ ⟨Nat.le_refl _,h0⟩ ?_;clear h0 hb1 hs;rintro k w1 ⟨hk,hj⟩;obtain ⟨hb1,hs⟩:=hpre k w1 hj
 cases k with
 | zero =>
  repeat refine aF ?_
  exact cE (vs:=[]) rfl rfl ⟨_,rfl,.inl hj⟩
 | succ k =>
  rw [show (((k+1:Nat):Int)-1)=(k:Int) by omega];have hlen:=hs.len;have hel:((cs.drop (k*4)).take 4).length=4:=by rw [List.length_take,List.length_drop];omega
  repeat (first|(refine aH ?_;refine aC (j:=k) rfl rfl rfl oM rfl ⟨_,_,hs⟩ rfl ?_)|(refine aO ?_;refine dR rfl hs (λ j v hj=>by rw [List.getElem?_take] at hj;split at hj<;>first|(rw [List.getElem?_drop] at hj;exact hj)|cases hj) hel rfl ?_)|refine yC ?_)
  refine TL.yield rfl rfl (hround k _ oM hj) rfl ?_;rintro v w7 (⟨rfl,hj7⟩|⟨rfl,hf7⟩)
  ·obtain ⟨hb17,hs7⟩:=hpre k _ hj7;repeat (first|(refine iP ?_;refine TL.subI rfl rfl oM oM rfl ?_)|refine yC ?_)
   exact aE k ⟨rfl,rfl,rfl,trivial⟩ ⟨oM,hj7⟩ oM
  ·repeat refine aF ?_
   exact eB (vs:=[]) rfl rfl ⟨_,rfl,.inr hf7⟩
structure WkAt (w:World) (b p m:Nat) (f:Nat→Option Value):Prop where
 blk:Blk w b 226 [.pointer (some ⟨p,0,none⟩),.map (some m)]
 map:MapF w m f
 ne:b≠m
theorem walk_new (p:Nat) (w:World) :
  Calls Tryz.prog 87 #[.pointer (some ⟨p,0,none⟩)] w (Ret λ v w'=>∃ b m,v=.pointer (some ⟨b,0,none⟩)∧w.heap.size≤b∧w.heap.size≤m∧WkAt w' b p m (λ _=>none)∧Grow w w'):=by
 refine V.calls (args:=[_]) Tryz.func87 rfl Tryz.ntmps87 rfl rfl ?_;repeat (first|(refine TL.isMakeMap ?_;refine TL.makeMapF rfl ?_;intro m w1 hg1 hm1 hs1 hs2)|refine yA ?_|refine yI λ bk w' hg hbk hsz hsz'=>?_)
 exact bA rfl ⟨_,rfl,bk,m,rfl,oM,oM,⟨hbk,hm1.grow hg,oM⟩,yG⟩
theorem write_c {w:World} {L:PL} {g g':Pg} (h:PgAt w L g) (ht:TabAt w) (F:Nat→Prop) (x:NV) (nd:Nd) (hnd:NdAt F w x nd) (hok:bF nd=true) (hlt:∀ b∈dC nd,b<256) (n:Nat) (hw:newP g (dC nd)=some (n,g')) :
  Calls Tryz.prog 84 #[.pointer (some ⟨L.p,0,none⟩),x.val] w (Ret λ v w'=>v=.tuple #[.int .i64 (n:Int),.int .i64 0]∧PgAt w' L g'∧ButS L.S w w'):=by
 have hby:∀ w1,Grow w w1→Calls Tryz.prog 154 #[x.val] w1 (Ret λ v w'=>∃ u,v=.tuple #[u,.int .i64 0]∧w'.ownsRow w1.heap.size 5 1 u (dC nd).length (bB (dC nd))∧Grow w1 w'):=λ w1 gr=>by
  cases hl:bN nd with
  | true=>exact bytes_leaf F x nd w1 (hnd.go (Carry.grow gr)) hok hl
  | false=>exact bytes_branch F x nd w1 (hnd.go (Carry.grow gr)) hok hl
 have hlen:=length_bytesN hok;refine V.calls (args:=[_,_]) Tryz.func84 rfl Tryz.ntmps84 rfl rfl ?_;repeat (first|refine dF ?_|refine yI λ bk w' hg hbk hsz hsz'=>?_)
 have hg0:Grow w w':=by exact yG
 refine aB 154 ?_;refine aA rfl (hby _ hg0) rfl ?_;rintro _ w2 ⟨u,rfl,hown,hg2⟩;obtain ⟨a,c,rfl,hsl⟩:=aM hown;have hgw:=hg0.trans hg2;repeat refine dF ?_
 refine aB 45 ?_;refine aA rfl (new_c (h.grow hgw) (ht.grow hgw) _ a (dC nd).length c (dC nd) hsl hlen hlt n g' hw) rfl ?_;rintro _ w3 ⟨rfl,hp3,hb3⟩;repeat refine dF ?_
 exact fM rfl rfl ⟨_,rfl,rfl,hp3,(ButS.grow hgw).trans hb3⟩
theorem tready_c {w:World} {L:PL} {g:Pg} (h:PgAt w L g) (r:Int) (hr : -1≤r) (hr2:r≤9223372036854775807) (F F':Nat→Prop) (a a':Option Addr) (n c n' c':Nat) (k v:Bs) (hk:Sl F w 1 a n c (bB k)) (hv:Sl F' w 1 a' n' c' (bB v)) (hko:eF k=true) (hvo:fC v=true) (hsp:32≤cR g) :
  Calls Tryz.prog 77 #[.pointer (some ⟨L.p,0,none⟩),.int .i64 r,.slice a n c,.slice a' n' c'] w (Ret λ u w'=>u=.int .i64 0∧Grow w w'):=by
 refine V.calls (args:=[_,_,_,_]) Tryz.func77 rfl Tryz.ntmps77 rfl rfl ?_;have hcn:=h.cnt;repeat (first|(refine aB 93 ?_;refine aA rfl (ready_c h r hr hr2) rfl ?_;rintro _ _ ⟨rfl,rfl⟩)|(refine aB 94 ?_;refine aA rfl (key_t hk hko) rfl ?_;rintro _ _ ⟨rfl,rfl⟩)|(refine aB 148 ?_;refine aA rfl (value_t hv hvo) rfl ?_;rintro _ _ ⟨rfl,rfl⟩)|(refine aB 21 ?_;refine aA rfl (sparet_c h) rfl ?_;rintro _ _ ⟨rfl,hgc⟩)|refine yC ?_)
 exact bA rfl ⟨_,rfl,rfl,yG⟩
end Go.Proofs.YtfpadnmdafiddaaGreatDoor
namespace Go.V
open Go Go.RowKit
section
variable [Rn]
variable {P:Program} {n:Nat} {e:dJ} {w:World} {Q:dI} {ops:Array Oper} {rest:List Oper} {d:Nat} {ty:TypeId} {pos:String} {aft:Array Edge}
theorem TL.capR {t elem size bytes:Nat} {x:Operand} {a:Option Addr} {m c:Nat} [ht:SliceTy P t elem size bytes] (hx:val e x=some (.slice a m c)) (hd:Nat.blt d n=true)
  (k:TL P n ops rest ((d,.int .i64 (c:Int))::e) w Q):TL P n ops (⟨some d,.call ⟨.builtin .cap,#[x],#[t]⟩,ty,pos,aft,none⟩::rest) e w Q :=
 TL.run (λ a ha=>by simp [execOp,resolve,invoke,builtin,Builtin.cap_,underlying,ht.und,ha.eval hx,goInt]) hd k
theorem TL.sliceZ {t elem size bytes:Nat} {x y:Operand} {b m c:Nat} {kd:IntKind} {z:Int} [ht:SliceTy P t elem size bytes] (hx:val e x=some (.slice (some ⟨b,0,none⟩) m c)) (hy:val e y=some (.int kd z)) (hz:z=((0:Nat):Int)) (hc:0<c) (hd:Nat.blt d n=true)
  (k:TL P n ops rest ((d,.slice (some ⟨b,0,none⟩) 0 c)::e) w Q):TL P n ops (⟨some d,.slice t x none (some y) none,ty,pos,aft,none⟩::rest) e w Q:=by
 refine TL.run (λ r hr=>?_) hd k;have hne:¬ c=0:=by omega
 have hb:=cT (P:=P) (k:=kd) (z:=z) (j:=0) (y:=c) (code:=.sliceAcap) hz (Nat.zero_le _) w;simp [execOp,hr.eval hx,hr.eval hy,Instr.sliceAt,underlying,ht.und,Instr.slice,Instr.sliceBounds,hb,ht.size,hne,Addr.add_lit]
theorem TL.appendNil {t tn elem size bytes c:Nat} {x y:Operand} {kq kn:IntKind} [ht:SliceTy P t elem size bytes] [hn:IntTy P tn kn] (hx:val e x=some (.slice none 0 0)) (hy:val e y=some (.int kq (c:Int))) (h0:0<c) (hb:c*bytes≤140737488355328) (h63:c≤1000000) (hd:Nat.blt d n=true)
  (k:∀ b cap w',w.heap.size=b→Grow w w'→c≤cap→cap≤maxLen→w'.ownsRow w.heap.size elem size (.slice (some ⟨b,0,none⟩) 0 cap) 0 []→TL P n ops rest ((d,.slice (some ⟨b,0,none⟩) c cap)::e) w' Q) :
  TL P n ops (⟨some d,.call ⟨.builtin .append,#[x,y],#[t,tn]⟩,ty,pos,aft,none⟩::rest) e w Q:=by
 obtain ⟨i,z,hi,hsz,hby,hz,hzs,hne⟩:=ht.info;have hrun:=Lib.run_append_nil_zeros (P:=P) w t tn ty elem i z kq kn ht.und hn.und hi hz c h0 oM oM (by rw [hby];omega);have hc1:c≤grownCap w c 0 elem:=grownCap_ge w _ _ _;have hc2:grownCap w c 0 elem≤maxLen:=grownCap_le_maxLen w c 0 elem (by unfold maxLen;omega);refine TL.run (v:=.slice (some ⟨w.heap.size,0,none⟩) c (grownCap w c 0 elem)) (w':=w.drew.alloc (.cells (Builtin.zeroCells z.cells c++Builtin.zeroCells z.cells (grownCap w c 0 elem-c)) elem)) (λ r hr=>?_) hd (k _ _ _ rfl ?_ hc1 hc2 ?_);rotate_left
 ·exact Grow.mk ⟨rfl,rfl,rfl,sM,λ k hk=>Below.heap_alloc w.drew _ k hk⟩
 ·refine ⟨sM,.inr ⟨w.heap.size,_,_,rfl,Nat.le_refl _,heap_alloc_new w.drew _,Nat.zero_le _,hc2,?_,sM⟩⟩;simp only [Array.size_append,size_zeroCells,hzs,← Nat.add_mul];congr 1
  omega
 ·simp [execOp,resolve,invoke,builtin,hr.eval hx,hr.eval hy,hrun]
end
def SlsAt (F:Nat→Prop) (w:World) (sz:Nat):List Value→List (List Value)→Prop
 | [],[]=>True
 | v::vs,p::ps=>(∃ a m c,v=.slice a m c∧Sl F w sz a m c p)∧SlsAt F w sz vs ps
 | _,_=>False
theorem SlsAt.grow {F:Nat→Prop} {w w':World} {sz:Nat} (g:Grow w w'):∀ {vs:List Value} {ps:List (List Value)},SlsAt F w sz vs ps→SlsAt F w' sz vs ps
 | [],[],_=>trivial
 | [],_::_,h=>h.elim
 | _::_,[],h=>h.elim
 | _::_,_::_,⟨⟨a,m,c,h1,h2⟩,h3⟩=>⟨⟨a,m,c,h1,h2.grow g⟩,SlsAt.grow g h3⟩
theorem SlsAt.at' {F:Nat→Prop} {w:World} {sz:Nat}:∀ {vs:List Value} {ps:List (List Value)} {i:Nat} {p:List Value},SlsAt F w sz vs ps→ps[i]? = some p→∃ a m c,vs[i]? = some (.slice a m c)∧Sl F w sz a m c p
 | [],[],i,p,_,hp=>by simp at hp
 | [],_::_,_,_,h,_=>h.elim
 | _::_,[],_,_,h,_=>h.elim
 | v::vs,q::ps,0,p,⟨⟨a,m,c,h1,h2⟩,h3⟩,hp=>by
  simp only [List.getElem?_cons_zero,Option.some.injEq] at hp;subst hp;exact ⟨a,m,c,by rw [h1];rfl,h2⟩
 | v::vs,q::ps,i+1,p,⟨_,h3⟩,hp=>by
  obtain ⟨a,m,c,q1,q2⟩:=SlsAt.at' h3 (by simpa using hp);exact ⟨a,m,c,by simpa using q1,q2⟩
theorem SlsAt.len {F:Nat→Prop} {w:World} {sz:Nat}:∀ {vs:List Value} {ps:List (List Value)},SlsAt F w sz vs ps→vs.length=ps.length
 | [],[],_=>rfl
 | [],_::_,h=>h.elim
 | _::_,[],h=>h.elim
 | _::_,_::_,⟨_,h3⟩=>by simp [SlsAt.len h3]
def kX (sz:Nat) (ps:List (List Value)) (i:Nat):Nat:=((ps.take i).map λ p=>p.length / sz).sum
theorem nE {sz:Nat} {ps:List (List Value)} {i:Nat} {p:List Value} (h:ps[i]? = some p):kX sz ps (i+1)=kX sz ps i+p.length / sz:=by
 unfold kX;rw [List.take_add_one,h];simp
theorem upN_le {sz:Nat} {ps:List (List Value)} (i:Nat):kX sz ps i≤kX sz ps ps.length:=by
 have e:(ps.map λ p=>p.length / sz)=((ps.take i).map λ p=>p.length / sz)++((ps.drop i).map λ p=>p.length / sz):=by rw [← List.map_append,List.take_append_drop]
 unfold kX;rw [List.take_length,e,List.sum_append];omega
theorem flatV_take {ps:List (List Value)} {i:Nat} {p:List Value} (h:ps[i]? = some p):(ps.take (i+1)).flatten=(ps.take i).flatten++p:=by
 rw [List.take_add_one,h];simp
def slsF {B:Nat} (sz m:Nat) (ps:List (List Value)):SFact B:={ G:=λ v _ _ w=>∃ a c vs,v=.slice a m c∧Sl (λ _=>True) w 1 a m c vs∧SlsAt (λ _=>True) w sz vs ps,st:=λ v _ _ w w' g h=>by obtain ⟨a,c,vs,h1,h2,h3⟩:=h;exact ⟨a,c,vs,h1,h2.grow g,h3.grow g⟩ }
end Go.V
namespace Go.Proofs.YtfpadnmdafiddaaGreatDoor
open Go Go.RowKit Go.V
theorem grow_i (m:Nat) (hm:m≤1000000) (w:World) :
  Calls Tryz.prog 245 #[.slice none 0 0,.int .i64 (m:Int)] w (Ret λ v w'=>w'.ownsRow w.heap.size 3 1 v 0 []∧Grow w w'):=by
 refine V.calls (args:=[_,_]) Tryz.func245 rfl Tryz.ntmps245 rfl rfl ?_;by_cases h0:m=0
 ·subst h0;repeat (first|refine aF ?_|refine TL.capR rfl rfl ?_)
  exact bA rfl ⟨_,rfl,World.ownsRow_nil _ _ _ _,Grow.refl _⟩
 ·repeat (first|refine aF ?_|refine TL.capR rfl rfl ?_)
  refine TL.slice (F:=λ _=>True) (cs:=[]) (l:=0) (h:=0) (mm:=0) rfl ⟨sM,Nat.le_refl _,Nat.zero_le _,λ _=>rfl,by simp [Row]⟩ (aP _) (bI rfl rfl) (aP 0) (λ h=>by cases h) (Nat.le_refl _) (Nat.le_refl _) (Nat.le_refl _) (Nat.le_refl _) rfl ?_;intro a' _ hn';obtain rfl:=hn'.2 rfl;repeat refine aF ?_
  refine TL.appendNil (c:=m) (bytes:=8) rfl rfl oM oM hm rfl ?_;intro b cap w1 hb hg1 hc1 hc2 hown;repeat refine aF ?_
  refine TL.sliceZ rfl rfl rfl oM rfl ?_;repeat refine aF ?_
  exact bA rfl ⟨_,rfl,hown,hg1⟩
theorem concat_i (F:Nat→Prop) (a:Option Addr) (n c:Nat) (vs:List Value) (ps:List (List Value)) (w:World) (hs:Sl F w 1 a n c vs) (hp:SlsAt F w 1 vs ps) (h1:∀ p∈ps,∀ u∈p,u.oneCell'=true) (hn:kX 1 ps ps.length≤1000000) :
  Calls Tryz.prog 201 #[.slice a n c] w (Ret λ v w'=>w'.ownsRow w.heap.size 3 1 v (kX 1 ps ps.length) ps.flatten∧Grow w w'):=by
 have hlen:=hs.len;have hpl:=hp.len;have hnle:=hs.le;refine V.calls (args:=[_]) Tryz.func201 rfl Tryz.ntmps201 rfl rfl ?_;repeat refine aF ?_
 refine aX (S:=Nat) (λ i=>[(11,.int .i64 (i:Int)),(10,.int .i64 (n:Int)),(9,.slice a n c),(3,.int .i64 ((kX 1 ps i:Nat):Int)),(0,.slice a n c)]) (λ i w1=>Grow w w1∧i≤n) (λ i=>n-i) 0 ⟨rfl,rfl,rfl,rfl,rfl,trivial⟩ ⟨Grow.refl _,oM⟩ ?_;rintro i w1 ⟨hg1,hi⟩;have hs1:=hs.grow hg1;have hle:=upN_le (sz:=1) (ps:=ps) i;by_cases hlt:i<n
 ·obtain ⟨p,hpi⟩:∃ p,ps[i]? = some p:=⟨_,List.getElem?_eq_getElem oM⟩
  obtain ⟨ka,km,kc,g1,s1⟩:=hp.at' hpi;have hcx:w1.cell? (at' a i)=some (.slice ka km kc):=hs1.row.cell g1;have hle2:=upN_le (sz:=1) (ps:=ps) (i+1);have hpn:=s1.len;have hsu:=nE (sz:=1) hpi;have hkm:p.length / 1=km:=by omega
  rw [hkm] at hsu;rw [hsu] at hle2;repeat (first|(refine aH ?_;refine aC rfl rfl rfl hlt (Nat.mul_one _) ⟨F,_,hs1⟩ rfl ?_)|refine yC ?_)
  exact aE (i+1) ⟨rfl,rfl,rfl,by rw [hsu];rfl,rfl,trivial⟩ ⟨hg1,oM⟩ oM
 obtain rfl:i=n:=by omega
 have hin:i=ps.length:=by omega
 obtain ⟨L,hL0⟩:∃ L,L=kX 1 ps i:=⟨_,rfl⟩
 have hL:L=kX 1 ps ps.length:=by rw [hL0,hin]
 rw [← hL] at hn hle ⊢;rw [← hL0];repeat refine aF ?_
 refine aB 245 ?_;refine aA rfl (grow_i L hn _) rfl ?_;rintro v w2 ⟨hown,hg2⟩;have hown':=eC hown (show w.heap.size≤w1.heap.size from hg1.size);have hg3:=hg1.trans hg2;repeat refine aF ?_
 refine aX (S:=Value×Nat) (λ s=>[(27,.int .i64 (s.2:Int)),(26,.int .i64 (i:Int)),(25,.slice a i c),(6,s.1)]) (λ s w3=>s.2≤i∧w3.ownsRow w.heap.size 3 1 s.1 (kX 1 ps s.2) (ps.take s.2).flatten∧Grow w w3) (λ s=>i-s.2) (v,0) ⟨rfl,rfl,rfl,rfl,trivial⟩ ⟨oM,by simpa [kX] using hown',hg3⟩ ?_;clear hown hown' hg2 hg3 hg1 hs1;rintro ⟨v,j⟩ w3 ⟨hj,hown,hg3⟩;simp only at hj hown;have hsz:=hg3.size;have hs3:=hs.grow hg3;by_cases hlt:j<i
 ·obtain ⟨p,hpj⟩:∃ p,ps[j]? = some p:=⟨_,List.getElem?_eq_getElem oM⟩
  obtain ⟨ka,km,kc,g1,s1⟩:=hp.at' hpj;have hcx:w3.cell? (at' a j)=some (.slice ka km kc):=hs3.row.cell g1;have hle2:=upN_le (sz:=1) (ps:=ps) (j+1);have hpn:=s1.len;have hsu:=nE (sz:=1) hpj;have hkm:p.length / 1=km:=by omega
  rw [hkm] at hsu;rw [hsu,← hL] at hle2;repeat (first|(refine aH ?_;refine aC rfl rfl rfl hlt (Nat.mul_one _) ⟨F,_,hs3⟩ rfl ?_)|refine yC ?_)
  refine TL.append rfl rfl hown (s1.grow hg3) (h1 p (List.mem_of_getElem? hpj)) (by unfold maxLen;omega) oM oM rfl ?_;intro v' w4 hown4 hgb _;repeat refine aF ?_
  refine aE (v',j+1) ⟨rfl,rfl,rfl,rfl,trivial⟩ ⟨by simp only;omega,?_,Grow.mk (aL hgb oM (λ k hk=>(aT hown hk).1) hg3.1)⟩ (by simp only;omega);simp only;rw [flatV_take hpj,hsu];exact hown4
 obtain rfl:j=i:=by omega
 rw [hin,List.take_length,← hL] at hown;repeat refine aF ?_
 exact bA rfl ⟨_,rfl,hown,hg3⟩
theorem join_i (F:Nat→Prop) (a:Option Addr) (n c:Nat) (vs:List Value) (ps:List (List Value)) (w:World) (hs:Sl F w 1 a n c vs) (hp:SlsAt F w 1 vs ps) (h1:∀ p∈ps,∀ u∈p,u.oneCell'=true) (hn:kX 1 ps ps.length≤1000000) :
  Calls Tryz.prog 160 #[.slice a n c] w (Ret λ v w'=>w'.ownsRow w.heap.size 3 1 v (kX 1 ps ps.length) ps.flatten∧Grow w w'):=by
 refine V.calls (args:=[_]) Tryz.func160 rfl Tryz.ntmps160 rfl rfl ?_;repeat refine dF ?_
 refine aB 201 ?_;refine aA rfl (concat_i F a n c vs ps _ hs hp h1 hn) rfl ?_;rintro v w2 ⟨hown,hg2⟩;repeat refine dF ?_
 exact bA rfl ⟨_,rfl,hown,hg2⟩
theorem insert_i (F G:Nat→Prop) (a b:Option Addr) (n c m d i:Nat) (cs xs:List Value) (w:World) (hs:Sl F w 1 a n c cs) (hx:Sl G w 1 b m d xs) (h1:∀ u∈cs,u.oneCell'=true) (h2:∀ u∈xs,u.oneCell'=true) (hi:i≤n) (hn:n+m≤1000000) :
  Calls Tryz.prog 96 #[.slice a n c,.int .i64 (i:Int),.slice b m d] w (Ret λ v w'=>w'.ownsRow w.heap.size 3 1 v (n+m) (cs.take (i*1)++xs++cs.drop (i*1))∧Grow w w'):=by
 have hcap:=hs.cap;have hlen:=hs.len;have hlx:=hx.len;refine V.calls (args:=[_,_,_]) Tryz.func96 rfl Tryz.ntmps96 rfl rfl ?_;repeat refine dF ?_
 apply T.any 8 [is (.slice a n c),is (.int .i64 (i:Int)),slF F 1 i c (cs.take (i*1)),is (.slice b m d),is (.slice a n c),is (.int .i64 (i:Int)),slF F 1 (n-i) (c-i) (cs.drop (i*1)),slsF 1 3 [cs.take (i*1),xs,cs.drop (i*1)]]
 ·rfl
 ·repeat' (first|exact aN|refine aK ?_ ?_)
  iterate 2
   ·refine yQ λ wq _ _ hgq=>?_;repeat refine dF ?_
    exact aD rfl yG rfl
  ·refine yQ λ wq _ _ hgq=>?_;refine TL.slice (l:=0) (h:=i) (mm:=c) rfl (hs.grow hgq) (aP _) (bI rfl rfl) (aP c) (λ h=>by cases h) (Nat.zero_le _) hi oM (Nat.le_refl _) rfl ?_;intro a' hsl _;repeat refine dF ?_
   refine aD rfl yG ⟨a',rfl,?_⟩;simpa using hsl
  iterate 3
   ·refine yQ λ wq _ _ hgq=>?_;repeat refine dF ?_
    exact aD rfl yG rfl
  ·refine yQ λ wq _ _ hgq=>?_;refine TL.slice (l:=i) (h:=n) (mm:=c) rfl (hs.grow hgq) (bI rfl rfl) (aP _) (aP c) (λ _=>rfl) hi (Nat.le_refl _) hcap (Nat.le_refl _) rfl ?_;intro a' hsl _;repeat refine dF ?_
   refine aD rfl yG ⟨a',rfl,?_⟩;rw [List.take_of_length_le (by rw [List.length_drop];omega)] at hsl;exact hsl
  ·refine bX rfl rfl rfl ?_;intro wq _ _ hgq;refine aJ rfl rfl ?_;intro v1 q1;refine aJ rfl rfl ?_;intro v2 q2;obtain rfl:=q2;refine aJ rfl rfl ?_;intro v3 q3;refine aZ ?_;obtain ⟨a1,rfl,s1⟩:=q1;obtain ⟨a3,rfl,s3⟩:=q3;refine TL.buildSlice rfl rfl rfl rfl rfl ?_;intro b' wa hga hba hsa hsb hsc;repeat refine dF ?_
   refine aD rfl yG ⟨_,_,_,rfl,(aV (sz:=1) (m:=3) hba hsc dM).mono (λ _ _=>trivial),⟨_,_,_,rfl,(s1.grow hga).mono (λ _ _=>trivial)⟩,⟨_,_,_,rfl,((hx.grow hgq).grow hga).mono (λ _ _=>trivial)⟩,⟨_,_,_,rfl,(s3.grow hga).mono (λ _ _=>trivial)⟩,trivial⟩
 ·intro w6 lo6 hi6 hg6 _ _;iterate 8 (refine aJ rfl rfl ?_;intro vq hvq;try (obtain rfl:=hvq))
  refine aZ ?_;obtain ⟨a6,c6,vs6,rfl,hs6,hp6⟩:=hvq
  have hup:kX 1 [cs.take (i*1),xs,cs.drop (i*1)] 3=n+m:=by
   simp only [kX,List.take_succ_cons,List.take_zero,List.map_cons,List.map_nil,List.sum_cons,List.sum_nil,List.length_take,List.length_drop];omega
  refine aB 160 ?_
  refine aA rfl (join_i _ a6 3 c6 vs6 [cs.take (i*1),xs,cs.drop (i*1)] _ hs6 hp6 (by
   intro p hp u hu;simp only [List.mem_cons,List.not_mem_nil,or_false] at hp;rcases hp with rfl|rfl|rfl
   ·exact h1 u (List.mem_of_mem_take hu)
   ·exact h2 u hu
   ·exact h1 u (List.mem_of_mem_drop hu)) (by show kX _ _ 3≤_;omega)) rfl ?_
  rintro v w7 ⟨hown,hg7⟩;rw [show ([cs.take (i*1),xs,cs.drop (i*1)]:List (List Value)).length=3 from rfl,hup] at hown;rw [show ([cs.take (i*1),xs,cs.drop (i*1)]:List (List Value)).flatten=cs.take (i*1)++xs++cs.drop (i*1) by simp] at hown;repeat refine dF ?_
  exact bA rfl ⟨_,rfl,eC hown hg6.size,hg6.trans hg7⟩
theorem cut_i (F:Nat→Prop) (a:Option Addr) (n c i j:Nat) (cs:List Value) (w:World) (hs:Sl F w 1 a n c cs) (h1:∀ u∈cs,u.oneCell'=true) (hij:i≤j) (hj:j≤n) (hn:n≤1000000) :
  Calls Tryz.prog 97 #[.slice a n c,.int .i64 (i:Int),.int .i64 (j:Int)] w (Ret λ v w'=>w'.ownsRow w.heap.size 3 1 v (n-(j-i)) (cs.take (i*1)++cs.drop (j*1))∧Grow w w'):=by
 have hcap:=hs.cap;have hlen:=hs.len;refine V.calls (args:=[_,_,_]) Tryz.func97 rfl Tryz.ntmps97 rfl rfl ?_;repeat refine dF ?_
 apply T.any 7 [is (.slice a n c),is (.int .i64 (i:Int)),slF F 1 i c (cs.take (i*1)),is (.slice a n c),is (.int .i64 (j:Int)),slF F 1 (n-j) (c-j) (cs.drop (j*1)),slsF 1 2 [cs.take (i*1),cs.drop (j*1)]]
 ·rfl
 ·repeat' (first|exact aN|refine aK ?_ ?_)
  iterate 2
   ·refine yQ λ wq _ _ hgq=>?_;repeat refine dF ?_
    exact aD rfl yG rfl
  ·refine yQ λ wq _ _ hgq=>?_;refine TL.slice (l:=0) (h:=i) (mm:=c) rfl (hs.grow hgq) (aP _) (bI rfl rfl) (aP c) (λ h=>by cases h) (Nat.zero_le _) oM oM (Nat.le_refl _) rfl ?_;intro a' hsl _;repeat refine dF ?_
   refine aD rfl yG ⟨a',rfl,?_⟩;simpa using hsl
  iterate 2
   ·refine yQ λ wq _ _ hgq=>?_;repeat refine dF ?_
    exact aD rfl yG rfl
  ·refine yQ λ wq _ _ hgq=>?_;refine TL.slice (l:=j) (h:=n) (mm:=c) rfl (hs.grow hgq) (bI rfl rfl) (aP _) (aP c) (λ _=>rfl) hj (Nat.le_refl _) hcap (Nat.le_refl _) rfl ?_;intro a' hsl _;repeat refine dF ?_
   refine aD rfl yG ⟨a',rfl,?_⟩;rw [List.take_of_length_le (by rw [List.length_drop];omega)] at hsl;exact hsl
  ·refine bX rfl rfl rfl ?_;intro wq _ _ hgq;refine aJ rfl rfl ?_;intro v1 q1;refine aJ rfl rfl ?_;intro v3 q3;refine aZ ?_;obtain ⟨a1,rfl,s1⟩:=q1;obtain ⟨a3,rfl,s3⟩:=q3;refine TL.buildSlice rfl rfl rfl rfl rfl ?_;intro b' wa hga hba hsa hsb hsc;repeat refine dF ?_
   refine aD rfl yG ⟨_,_,_,rfl,(aV (sz:=1) (m:=2) hba hsc dM).mono (λ _ _=>trivial),⟨_,_,_,rfl,(s1.grow hga).mono (λ _ _=>trivial)⟩,⟨_,_,_,rfl,(s3.grow hga).mono (λ _ _=>trivial)⟩,trivial⟩
 ·intro w6 lo6 hi6 hg6 _ _;iterate 7 (refine aJ rfl rfl ?_;intro vq hvq;try (obtain rfl:=hvq))
  refine aZ ?_;obtain ⟨a6,c6,vs6,rfl,hs6,hp6⟩:=hvq
  have hup:kX 1 [cs.take (i*1),cs.drop (j*1)] 2=n-(j-i):=by
   simp only [kX,List.take_succ_cons,List.take_zero,List.map_cons,List.map_nil,List.sum_cons,List.sum_nil,List.length_take,List.length_drop];omega
  refine aB 160 ?_
  refine aA rfl (join_i _ a6 2 c6 vs6 [cs.take (i*1),cs.drop (j*1)] _ hs6 hp6 (by
   intro p hp u hu;simp only [List.mem_cons,List.not_mem_nil,or_false] at hp;rcases hp with rfl|rfl
   ·exact h1 u (List.mem_of_mem_take hu)
   ·exact h1 u (List.mem_of_mem_drop hu)) (by show kX _ _ 2≤_;omega)) rfl ?_
  rintro v w7 ⟨hown,hg7⟩;rw [show ([cs.take (i*1),cs.drop (j*1)]:List (List Value)).length=2 from rfl,hup] at hown;rw [show ([cs.take (i*1),cs.drop (j*1)]:List (List Value)).flatten=cs.take (i*1)++cs.drop (j*1) by simp] at hown;repeat refine dF ?_
  exact bA rfl ⟨_,rfl,eC hown hg6.size,hg6.trans hg7⟩
theorem grow_k (m:Nat) (hm:m≤1000000) (w:World) :
  Calls Tryz.prog 246 #[.slice none 0 0,.int .i64 (m:Int)] w (Ret λ v w'=>w'.ownsRow w.heap.size 30 1 v 0 []∧Grow w w'):=by
 refine V.calls (args:=[_,_]) Tryz.func246 rfl Tryz.ntmps246 rfl rfl ?_;by_cases h0:m=0
 ·subst h0;repeat (first|refine aF ?_|refine TL.capR rfl rfl ?_)
  exact bA rfl ⟨_,rfl,World.ownsRow_nil _ _ _ _,Grow.refl _⟩
 ·repeat (first|refine aF ?_|refine TL.capR rfl rfl ?_)
  refine TL.slice (F:=λ _=>True) (cs:=[]) (l:=0) (h:=0) (mm:=0) rfl ⟨sM,Nat.le_refl _,Nat.zero_le _,λ _=>rfl,by simp [Row]⟩ (aP _) (bI rfl rfl) (aP 0) (λ h=>by cases h) (Nat.le_refl _) (Nat.le_refl _) (Nat.le_refl _) (Nat.le_refl _) rfl ?_;intro a' _ hn';obtain rfl:=hn'.2 rfl;repeat refine aF ?_
  refine TL.appendNil (c:=m) (bytes:=24) rfl rfl oM oM hm rfl ?_;intro b cap w1 hb hg1 hc1 hc2 hown;repeat refine aF ?_
  refine TL.sliceZ rfl rfl rfl oM rfl ?_;repeat refine aF ?_
  exact bA rfl ⟨_,rfl,hown,hg1⟩
theorem concat_k (F:Nat→Prop) (a:Option Addr) (n c:Nat) (vs:List Value) (ps:List (List Value)) (w:World) (hs:Sl F w 1 a n c vs) (hp:SlsAt F w 1 vs ps) (h1:∀ p∈ps,∀ u∈p,u.oneCell'=true) (hn:kX 1 ps ps.length≤1000000) :
  Calls Tryz.prog 202 #[.slice a n c] w (Ret λ v w'=>w'.ownsRow w.heap.size 30 1 v (kX 1 ps ps.length) ps.flatten∧Grow w w'):=by
 have hlen:=hs.len;have hpl:=hp.len;have hnle:=hs.le;refine V.calls (args:=[_]) Tryz.func202 rfl Tryz.ntmps202 rfl rfl ?_;repeat refine aF ?_
 refine aX (S:=Nat) (λ i=>[(11,.int .i64 (i:Int)),(10,.int .i64 (n:Int)),(9,.slice a n c),(3,.int .i64 ((kX 1 ps i:Nat):Int)),(0,.slice a n c)]) (λ i w1=>Grow w w1∧i≤n) (λ i=>n-i) 0 ⟨rfl,rfl,rfl,rfl,rfl,trivial⟩ ⟨Grow.refl _,oM⟩ ?_;rintro i w1 ⟨hg1,hi⟩;have hs1:=hs.grow hg1;have hle:=upN_le (sz:=1) (ps:=ps) i;by_cases hlt:i<n
 ·obtain ⟨p,hpi⟩:∃ p,ps[i]? = some p:=⟨_,List.getElem?_eq_getElem oM⟩
  obtain ⟨ka,km,kc,g1,s1⟩:=hp.at' hpi;have hcx:w1.cell? (at' a i)=some (.slice ka km kc):=hs1.row.cell g1;have hle2:=upN_le (sz:=1) (ps:=ps) (i+1);have hpn:=s1.len;have hsu:=nE (sz:=1) hpi;have hkm:p.length / 1=km:=by omega
  rw [hkm] at hsu;rw [hsu] at hle2;repeat (first|(refine aH ?_;refine aC rfl rfl rfl hlt (Nat.mul_one _) ⟨F,_,hs1⟩ rfl ?_)|refine yC ?_)
  exact aE (i+1) ⟨rfl,rfl,rfl,by rw [hsu];rfl,rfl,trivial⟩ ⟨hg1,oM⟩ oM
 obtain rfl:i=n:=by omega
 have hin:i=ps.length:=by omega
 obtain ⟨L,hL0⟩:∃ L,L=kX 1 ps i:=⟨_,rfl⟩
 have hL:L=kX 1 ps ps.length:=by rw [hL0,hin]
 rw [← hL] at hn hle ⊢;rw [← hL0];repeat refine aF ?_
 refine aB 246 ?_;refine aA rfl (grow_k L hn _) rfl ?_;rintro v w2 ⟨hown,hg2⟩;have hown':=eC hown (show w.heap.size≤w1.heap.size from hg1.size);have hg3:=hg1.trans hg2;repeat refine aF ?_
 refine aX (S:=Value×Nat) (λ s=>[(27,.int .i64 (s.2:Int)),(26,.int .i64 (i:Int)),(25,.slice a i c),(6,s.1)]) (λ s w3=>s.2≤i∧w3.ownsRow w.heap.size 30 1 s.1 (kX 1 ps s.2) (ps.take s.2).flatten∧Grow w w3) (λ s=>i-s.2) (v,0) ⟨rfl,rfl,rfl,rfl,trivial⟩ ⟨oM,by simpa [kX] using hown',hg3⟩ ?_;clear hown hown' hg2 hg3 hg1 hs1;rintro ⟨v,j⟩ w3 ⟨hj,hown,hg3⟩;simp only at hj hown;have hsz:=hg3.size;have hs3:=hs.grow hg3;by_cases hlt:j<i
 ·obtain ⟨p,hpj⟩:∃ p,ps[j]? = some p:=⟨_,List.getElem?_eq_getElem oM⟩
  obtain ⟨ka,km,kc,g1,s1⟩:=hp.at' hpj;have hcx:w3.cell? (at' a j)=some (.slice ka km kc):=hs3.row.cell g1;have hle2:=upN_le (sz:=1) (ps:=ps) (j+1);have hpn:=s1.len;have hsu:=nE (sz:=1) hpj;have hkm:p.length / 1=km:=by omega
  rw [hkm] at hsu;rw [hsu,← hL] at hle2;repeat (first|(refine aH ?_;refine aC rfl rfl rfl hlt (Nat.mul_one _) ⟨F,_,hs3⟩ rfl ?_)|refine yC ?_)
  refine TL.append rfl rfl hown (s1.grow hg3) (h1 p (List.mem_of_getElem? hpj)) (by unfold maxLen;omega) oM oM rfl ?_;intro v' w4 hown4 hgb _;repeat refine aF ?_
  refine aE (v',j+1) ⟨rfl,rfl,rfl,rfl,trivial⟩ ⟨by simp only;omega,?_,Grow.mk (aL hgb oM (λ k hk=>(aT hown hk).1) hg3.1)⟩ (by simp only;omega);simp only;rw [flatV_take hpj,hsu];exact hown4
 obtain rfl:j=i:=by omega
 rw [hin,List.take_length,← hL] at hown;repeat refine aF ?_
 exact bA rfl ⟨_,rfl,hown,hg3⟩
theorem join_k (F:Nat→Prop) (a:Option Addr) (n c:Nat) (vs:List Value) (ps:List (List Value)) (w:World) (hs:Sl F w 1 a n c vs) (hp:SlsAt F w 1 vs ps) (h1:∀ p∈ps,∀ u∈p,u.oneCell'=true) (hn:kX 1 ps ps.length≤1000000) :
  Calls Tryz.prog 161 #[.slice a n c] w (Ret λ v w'=>w'.ownsRow w.heap.size 30 1 v (kX 1 ps ps.length) ps.flatten∧Grow w w'):=by
 refine V.calls (args:=[_]) Tryz.func161 rfl Tryz.ntmps161 rfl rfl ?_;repeat refine dF ?_
 refine aB 202 ?_;refine aA rfl (concat_k F a n c vs ps _ hs hp h1 hn) rfl ?_;rintro v w2 ⟨hown,hg2⟩;repeat refine dF ?_
 exact bA rfl ⟨_,rfl,hown,hg2⟩
theorem insert_k (F G:Nat→Prop) (a b:Option Addr) (n c m d i:Nat) (cs xs:List Value) (w:World) (hs:Sl F w 1 a n c cs) (hx:Sl G w 1 b m d xs) (h1:∀ u∈cs,u.oneCell'=true) (h2:∀ u∈xs,u.oneCell'=true) (hi:i≤n) (hn:n+m≤1000000) :
  Calls Tryz.prog 98 #[.slice a n c,.int .i64 (i:Int),.slice b m d] w (Ret λ v w'=>w'.ownsRow w.heap.size 30 1 v (n+m) (cs.take (i*1)++xs++cs.drop (i*1))∧Grow w w'):=by
 have hcap:=hs.cap;have hlen:=hs.len;have hlx:=hx.len;refine V.calls (args:=[_,_,_]) Tryz.func98 rfl Tryz.ntmps98 rfl rfl ?_;repeat refine dF ?_
 apply T.any 8 [is (.slice a n c),is (.int .i64 (i:Int)),slF F 1 i c (cs.take (i*1)),is (.slice b m d),is (.slice a n c),is (.int .i64 (i:Int)),slF F 1 (n-i) (c-i) (cs.drop (i*1)),slsF 1 3 [cs.take (i*1),xs,cs.drop (i*1)]]
 ·rfl
 ·repeat' (first|exact aN|refine aK ?_ ?_)
  iterate 2
   ·refine yQ λ wq _ _ hgq=>?_;repeat refine dF ?_
    exact aD rfl yG rfl
  ·refine yQ λ wq _ _ hgq=>?_;refine TL.slice (l:=0) (h:=i) (mm:=c) rfl (hs.grow hgq) (aP _) (bI rfl rfl) (aP c) (λ h=>by cases h) (Nat.zero_le _) hi oM (Nat.le_refl _) rfl ?_;intro a' hsl _;repeat refine dF ?_
   refine aD rfl yG ⟨a',rfl,?_⟩;simpa using hsl
  iterate 3
   ·refine yQ λ wq _ _ hgq=>?_;repeat refine dF ?_
    exact aD rfl yG rfl
  ·refine yQ λ wq _ _ hgq=>?_;refine TL.slice (l:=i) (h:=n) (mm:=c) rfl (hs.grow hgq) (bI rfl rfl) (aP _) (aP c) (λ _=>rfl) hi (Nat.le_refl _) hcap (Nat.le_refl _) rfl ?_;intro a' hsl _;repeat refine dF ?_
   refine aD rfl yG ⟨a',rfl,?_⟩;rw [List.take_of_length_le (by rw [List.length_drop];omega)] at hsl;exact hsl
  ·refine bX rfl rfl rfl ?_;intro wq _ _ hgq;refine aJ rfl rfl ?_;intro v1 q1;refine aJ rfl rfl ?_;intro v2 q2;obtain rfl:=q2;refine aJ rfl rfl ?_;intro v3 q3;refine aZ ?_;obtain ⟨a1,rfl,s1⟩:=q1;obtain ⟨a3,rfl,s3⟩:=q3;refine TL.buildSlice rfl rfl rfl rfl rfl ?_;intro b' wa hga hba hsa hsb hsc;repeat refine dF ?_
   refine aD rfl yG ⟨_,_,_,rfl,(aV (sz:=1) (m:=3) hba hsc dM).mono (λ _ _=>trivial),⟨_,_,_,rfl,(s1.grow hga).mono (λ _ _=>trivial)⟩,⟨_,_,_,rfl,((hx.grow hgq).grow hga).mono (λ _ _=>trivial)⟩,⟨_,_,_,rfl,(s3.grow hga).mono (λ _ _=>trivial)⟩,trivial⟩
 ·intro w6 lo6 hi6 hg6 _ _;iterate 8 (refine aJ rfl rfl ?_;intro vq hvq;try (obtain rfl:=hvq))
  refine aZ ?_;obtain ⟨a6,c6,vs6,rfl,hs6,hp6⟩:=hvq
  have hup:kX 1 [cs.take (i*1),xs,cs.drop (i*1)] 3=n+m:=by
   simp only [kX,List.take_succ_cons,List.take_zero,List.map_cons,List.map_nil,List.sum_cons,List.sum_nil,List.length_take,List.length_drop];omega
  refine aB 161 ?_
  refine aA rfl (join_k _ a6 3 c6 vs6 [cs.take (i*1),xs,cs.drop (i*1)] _ hs6 hp6 (by
   intro p hp u hu;simp only [List.mem_cons,List.not_mem_nil,or_false] at hp;rcases hp with rfl|rfl|rfl
   ·exact h1 u (List.mem_of_mem_take hu)
   ·exact h2 u hu
   ·exact h1 u (List.mem_of_mem_drop hu)) (by show kX _ _ 3≤_;omega)) rfl ?_
  rintro v w7 ⟨hown,hg7⟩;rw [show ([cs.take (i*1),xs,cs.drop (i*1)]:List (List Value)).length=3 from rfl,hup] at hown;rw [show ([cs.take (i*1),xs,cs.drop (i*1)]:List (List Value)).flatten=cs.take (i*1)++xs++cs.drop (i*1) by simp] at hown;repeat refine dF ?_
  exact bA rfl ⟨_,rfl,eC hown hg6.size,hg6.trans hg7⟩
theorem cut_k (F:Nat→Prop) (a:Option Addr) (n c i j:Nat) (cs:List Value) (w:World) (hs:Sl F w 1 a n c cs) (h1:∀ u∈cs,u.oneCell'=true) (hij:i≤j) (hj:j≤n) (hn:n≤1000000) :
  Calls Tryz.prog 194 #[.slice a n c,.int .i64 (i:Int),.int .i64 (j:Int)] w (Ret λ v w'=>w'.ownsRow w.heap.size 30 1 v (n-(j-i)) (cs.take (i*1)++cs.drop (j*1))∧Grow w w'):=by
 have hcap:=hs.cap;have hlen:=hs.len;refine V.calls (args:=[_,_,_]) Tryz.func194 rfl Tryz.ntmps194 rfl rfl ?_;repeat refine dF ?_
 apply T.any 7 [is (.slice a n c),is (.int .i64 (i:Int)),slF F 1 i c (cs.take (i*1)),is (.slice a n c),is (.int .i64 (j:Int)),slF F 1 (n-j) (c-j) (cs.drop (j*1)),slsF 1 2 [cs.take (i*1),cs.drop (j*1)]]
 ·rfl
 ·repeat' (first|exact aN|refine aK ?_ ?_)
  iterate 2
   ·refine yQ λ wq _ _ hgq=>?_;repeat refine dF ?_
    exact aD rfl yG rfl
  ·refine yQ λ wq _ _ hgq=>?_;refine TL.slice (l:=0) (h:=i) (mm:=c) rfl (hs.grow hgq) (aP _) (bI rfl rfl) (aP c) (λ h=>by cases h) (Nat.zero_le _) oM oM (Nat.le_refl _) rfl ?_;intro a' hsl _;repeat refine dF ?_
   refine aD rfl yG ⟨a',rfl,?_⟩;simpa using hsl
  iterate 2
   ·refine yQ λ wq _ _ hgq=>?_;repeat refine dF ?_
    exact aD rfl yG rfl
  ·refine yQ λ wq _ _ hgq=>?_;refine TL.slice (l:=j) (h:=n) (mm:=c) rfl (hs.grow hgq) (bI rfl rfl) (aP _) (aP c) (λ _=>rfl) hj (Nat.le_refl _) hcap (Nat.le_refl _) rfl ?_;intro a' hsl _;repeat refine dF ?_
   refine aD rfl yG ⟨a',rfl,?_⟩;rw [List.take_of_length_le (by rw [List.length_drop];omega)] at hsl;exact hsl
  ·refine bX rfl rfl rfl ?_;intro wq _ _ hgq;refine aJ rfl rfl ?_;intro v1 q1;refine aJ rfl rfl ?_;intro v3 q3;refine aZ ?_;obtain ⟨a1,rfl,s1⟩:=q1;obtain ⟨a3,rfl,s3⟩:=q3;refine TL.buildSlice rfl rfl rfl rfl rfl ?_;intro b' wa hga hba hsa hsb hsc;repeat refine dF ?_
   refine aD rfl yG ⟨_,_,_,rfl,(aV (sz:=1) (m:=2) hba hsc dM).mono (λ _ _=>trivial),⟨_,_,_,rfl,(s1.grow hga).mono (λ _ _=>trivial)⟩,⟨_,_,_,rfl,(s3.grow hga).mono (λ _ _=>trivial)⟩,trivial⟩
 ·intro w6 lo6 hi6 hg6 _ _;iterate 7 (refine aJ rfl rfl ?_;intro vq hvq;try (obtain rfl:=hvq))
  refine aZ ?_;obtain ⟨a6,c6,vs6,rfl,hs6,hp6⟩:=hvq
  have hup:kX 1 [cs.take (i*1),cs.drop (j*1)] 2=n-(j-i):=by
   simp only [kX,List.take_succ_cons,List.take_zero,List.map_cons,List.map_nil,List.sum_cons,List.sum_nil,List.length_take,List.length_drop];omega
  refine aB 161 ?_
  refine aA rfl (join_k _ a6 2 c6 vs6 [cs.take (i*1),cs.drop (j*1)] _ hs6 hp6 (by
   intro p hp u hu;simp only [List.mem_cons,List.not_mem_nil,or_false] at hp;rcases hp with rfl|rfl
   ·exact h1 u (List.mem_of_mem_take hu)
   ·exact h1 u (List.mem_of_mem_drop hu)) (by show kX _ _ 2≤_;omega)) rfl ?_
  rintro v w7 ⟨hown,hg7⟩;rw [show ([cs.take (i*1),cs.drop (j*1)]:List (List Value)).length=2 from rfl,hup] at hown;rw [show ([cs.take (i*1),cs.drop (j*1)]:List (List Value)).flatten=cs.take (i*1)++cs.drop (j*1) by simp] at hown;repeat refine dF ?_
  exact bA rfl ⟨_,rfl,eC hown hg6.size,hg6.trans hg7⟩
theorem grow_t (m:Nat) (hm:m≤1000000) (w:World) :
  Calls Tryz.prog 231 #[.slice none 0 0,.int .i64 (m:Int)] w (Ret λ v w'=>w'.ownsRow w.heap.size 58 2 v 0 []∧Grow w w'):=by
 refine V.calls (args:=[_,_]) Tryz.func231 rfl Tryz.ntmps231 rfl rfl ?_;by_cases h0:m=0
 ·subst h0;repeat (first|refine aF ?_|refine TL.capR rfl rfl ?_)
  exact bA rfl ⟨_,rfl,World.ownsRow_nil _ _ _ _,Grow.refl _⟩
 ·repeat (first|refine aF ?_|refine TL.capR rfl rfl ?_)
  refine TL.slice (F:=λ _=>True) (cs:=[]) (l:=0) (h:=0) (mm:=0) rfl ⟨sM,Nat.le_refl _,Nat.zero_le _,λ _=>rfl,by simp [Row]⟩ (aP _) (bI rfl rfl) (aP 0) (λ h=>by cases h) (Nat.le_refl _) (Nat.le_refl _) (Nat.le_refl _) (Nat.le_refl _) rfl ?_;intro a' _ hn';obtain rfl:=hn'.2 rfl;repeat refine aF ?_
  refine TL.appendNil (c:=m) (bytes:=48) rfl rfl oM oM hm rfl ?_;intro b cap w1 hb hg1 hc1 hc2 hown;repeat refine aF ?_
  refine TL.sliceZ rfl rfl rfl oM rfl ?_;repeat refine aF ?_
  exact bA rfl ⟨_,rfl,hown,hg1⟩
theorem concat_t (F:Nat→Prop) (a:Option Addr) (n c:Nat) (vs:List Value) (ps:List (List Value)) (w:World) (hs:Sl F w 1 a n c vs) (hp:SlsAt F w 2 vs ps) (h1:∀ p∈ps,∀ u∈p,u.oneCell'=true) (hn:kX 2 ps ps.length≤1000000) :
  Calls Tryz.prog 190 #[.slice a n c] w (Ret λ v w'=>w'.ownsRow w.heap.size 58 2 v (kX 2 ps ps.length) ps.flatten∧Grow w w'):=by
 have hlen:=hs.len;have hpl:=hp.len;have hnle:=hs.le;refine V.calls (args:=[_]) Tryz.func190 rfl Tryz.ntmps190 rfl rfl ?_;repeat refine aF ?_
 refine aX (S:=Nat) (λ i=>[(11,.int .i64 (i:Int)),(10,.int .i64 (n:Int)),(9,.slice a n c),(3,.int .i64 ((kX 2 ps i:Nat):Int)),(0,.slice a n c)]) (λ i w1=>Grow w w1∧i≤n) (λ i=>n-i) 0 ⟨rfl,rfl,rfl,rfl,rfl,trivial⟩ ⟨Grow.refl _,oM⟩ ?_;rintro i w1 ⟨hg1,hi⟩;have hs1:=hs.grow hg1;have hle:=upN_le (sz:=2) (ps:=ps) i;by_cases hlt:i<n
 ·obtain ⟨p,hpi⟩:∃ p,ps[i]? = some p:=⟨_,List.getElem?_eq_getElem oM⟩
  obtain ⟨ka,km,kc,g1,s1⟩:=hp.at' hpi;have hcx:w1.cell? (at' a i)=some (.slice ka km kc):=hs1.row.cell g1;have hle2:=upN_le (sz:=2) (ps:=ps) (i+1);have hpn:=s1.len;have hsu:=nE (sz:=2) hpi;have hkm:p.length / 2=km:=by omega
  rw [hkm] at hsu;rw [hsu] at hle2;repeat (first|(refine aH ?_;refine aC rfl rfl rfl hlt (Nat.mul_one _) ⟨F,_,hs1⟩ rfl ?_)|refine yC ?_)
  exact aE (i+1) ⟨rfl,rfl,rfl,by rw [hsu];rfl,rfl,trivial⟩ ⟨hg1,oM⟩ oM
 obtain rfl:i=n:=by omega
 have hin:i=ps.length:=by omega
 obtain ⟨L,hL0⟩:∃ L,L=kX 2 ps i:=⟨_,rfl⟩
 have hL:L=kX 2 ps ps.length:=by rw [hL0,hin]
 rw [← hL] at hn hle ⊢;rw [← hL0];repeat refine aF ?_
 refine aB 231 ?_;refine aA rfl (grow_t L hn _) rfl ?_;rintro v w2 ⟨hown,hg2⟩;have hown':=eC hown (show w.heap.size≤w1.heap.size from hg1.size);have hg3:=hg1.trans hg2;repeat refine aF ?_
 refine aX (S:=Value×Nat) (λ s=>[(27,.int .i64 (s.2:Int)),(26,.int .i64 (i:Int)),(25,.slice a i c),(6,s.1)]) (λ s w3=>s.2≤i∧w3.ownsRow w.heap.size 58 2 s.1 (kX 2 ps s.2) (ps.take s.2).flatten∧Grow w w3) (λ s=>i-s.2) (v,0) ⟨rfl,rfl,rfl,rfl,trivial⟩ ⟨oM,by simpa [kX] using hown',hg3⟩ ?_;clear hown hown' hg2 hg3 hg1 hs1;rintro ⟨v,j⟩ w3 ⟨hj,hown,hg3⟩;simp only at hj hown;have hsz:=hg3.size;have hs3:=hs.grow hg3;by_cases hlt:j<i
 ·obtain ⟨p,hpj⟩:∃ p,ps[j]? = some p:=⟨_,List.getElem?_eq_getElem oM⟩
  obtain ⟨ka,km,kc,g1,s1⟩:=hp.at' hpj;have hcx:w3.cell? (at' a j)=some (.slice ka km kc):=hs3.row.cell g1;have hle2:=upN_le (sz:=2) (ps:=ps) (j+1);have hpn:=s1.len;have hsu:=nE (sz:=2) hpj;have hkm:p.length / 2=km:=by omega
  rw [hkm] at hsu;rw [hsu,← hL] at hle2;repeat (first|(refine aH ?_;refine aC rfl rfl rfl hlt (Nat.mul_one _) ⟨F,_,hs3⟩ rfl ?_)|refine yC ?_)
  refine TL.append rfl rfl hown (s1.grow hg3) (h1 p (List.mem_of_getElem? hpj)) (by unfold maxLen;omega) oM oM rfl ?_;intro v' w4 hown4 hgb _;repeat refine aF ?_
  refine aE (v',j+1) ⟨rfl,rfl,rfl,rfl,trivial⟩ ⟨by simp only;omega,?_,Grow.mk (aL hgb oM (λ k hk=>(aT hown hk).1) hg3.1)⟩ (by simp only;omega);simp only;rw [flatV_take hpj,hsu];exact hown4
 obtain rfl:j=i:=by omega
 rw [hin,List.take_length,← hL] at hown;repeat refine aF ?_
 exact bA rfl ⟨_,rfl,hown,hg3⟩
theorem join_t (F:Nat→Prop) (a:Option Addr) (n c:Nat) (vs:List Value) (ps:List (List Value)) (w:World) (hs:Sl F w 1 a n c vs) (hp:SlsAt F w 2 vs ps) (h1:∀ p∈ps,∀ u∈p,u.oneCell'=true) (hn:kX 2 ps ps.length≤1000000) :
  Calls Tryz.prog 152 #[.slice a n c] w (Ret λ v w'=>w'.ownsRow w.heap.size 58 2 v (kX 2 ps ps.length) ps.flatten∧Grow w w'):=by
 refine V.calls (args:=[_]) Tryz.func152 rfl Tryz.ntmps152 rfl rfl ?_;repeat refine dF ?_
 refine aB 190 ?_;refine aA rfl (concat_t F a n c vs ps _ hs hp h1 hn) rfl ?_;rintro v w2 ⟨hown,hg2⟩;repeat refine dF ?_
 exact bA rfl ⟨_,rfl,hown,hg2⟩
theorem insert_t (F G:Nat→Prop) (a b:Option Addr) (n c m d i:Nat) (cs xs:List Value) (w:World) (hs:Sl F w 2 a n c cs) (hx:Sl G w 2 b m d xs) (h1:∀ u∈cs,u.oneCell'=true) (h2:∀ u∈xs,u.oneCell'=true) (hi:i≤n) (hn:n+m≤1000000) :
  Calls Tryz.prog 99 #[.slice a n c,.int .i64 (i:Int),.slice b m d] w (Ret λ v w'=>w'.ownsRow w.heap.size 58 2 v (n+m) (cs.take (i*2)++xs++cs.drop (i*2))∧Grow w w'):=by
 have hcap:=hs.cap;have hlen:=hs.len;have hlx:=hx.len;refine V.calls (args:=[_,_,_]) Tryz.func99 rfl Tryz.ntmps99 rfl rfl ?_;repeat refine dF ?_
 apply T.any 8 [is (.slice a n c),is (.int .i64 (i:Int)),slF F 2 i c (cs.take (i*2)),is (.slice b m d),is (.slice a n c),is (.int .i64 (i:Int)),slF F 2 (n-i) (c-i) (cs.drop (i*2)),slsF 2 3 [cs.take (i*2),xs,cs.drop (i*2)]]
 ·rfl
 ·repeat' (first|exact aN|refine aK ?_ ?_)
  iterate 2
   ·refine yQ λ wq _ _ hgq=>?_;repeat refine dF ?_
    exact aD rfl yG rfl
  ·refine yQ λ wq _ _ hgq=>?_;refine TL.slice (l:=0) (h:=i) (mm:=c) rfl (hs.grow hgq) (aP _) (bI rfl rfl) (aP c) (λ h=>by cases h) (Nat.zero_le _) hi oM (Nat.le_refl _) rfl ?_;intro a' hsl _;repeat refine dF ?_
   refine aD rfl yG ⟨a',rfl,?_⟩;simpa using hsl
  iterate 3
   ·refine yQ λ wq _ _ hgq=>?_;repeat refine dF ?_
    exact aD rfl yG rfl
  ·refine yQ λ wq _ _ hgq=>?_;refine TL.slice (l:=i) (h:=n) (mm:=c) rfl (hs.grow hgq) (bI rfl rfl) (aP _) (aP c) (λ _=>rfl) hi (Nat.le_refl _) hcap (Nat.le_refl _) rfl ?_;intro a' hsl _;repeat refine dF ?_
   refine aD rfl yG ⟨a',rfl,?_⟩;rw [List.take_of_length_le (by rw [List.length_drop];omega)] at hsl;exact hsl
  ·refine bX rfl rfl rfl ?_;intro wq _ _ hgq;refine aJ rfl rfl ?_;intro v1 q1;refine aJ rfl rfl ?_;intro v2 q2;obtain rfl:=q2;refine aJ rfl rfl ?_;intro v3 q3;refine aZ ?_;obtain ⟨a1,rfl,s1⟩:=q1;obtain ⟨a3,rfl,s3⟩:=q3;refine TL.buildSlice rfl rfl rfl rfl rfl ?_;intro b' wa hga hba hsa hsb hsc;repeat refine dF ?_
   refine aD rfl yG ⟨_,_,_,rfl,(aV (sz:=1) (m:=3) hba hsc dM).mono (λ _ _=>trivial),⟨_,_,_,rfl,(s1.grow hga).mono (λ _ _=>trivial)⟩,⟨_,_,_,rfl,((hx.grow hgq).grow hga).mono (λ _ _=>trivial)⟩,⟨_,_,_,rfl,(s3.grow hga).mono (λ _ _=>trivial)⟩,trivial⟩
 ·intro w6 lo6 hi6 hg6 _ _;iterate 8 (refine aJ rfl rfl ?_;intro vq hvq;try (obtain rfl:=hvq))
  refine aZ ?_;obtain ⟨a6,c6,vs6,rfl,hs6,hp6⟩:=hvq
  have hup:kX 2 [cs.take (i*2),xs,cs.drop (i*2)] 3=n+m:=by
   simp only [kX,List.take_succ_cons,List.take_zero,List.map_cons,List.map_nil,List.sum_cons,List.sum_nil,List.length_take,List.length_drop];omega
  refine aB 152 ?_
  refine aA rfl (join_t _ a6 3 c6 vs6 [cs.take (i*2),xs,cs.drop (i*2)] _ hs6 hp6 (by
   intro p hp u hu;simp only [List.mem_cons,List.not_mem_nil,or_false] at hp;rcases hp with rfl|rfl|rfl
   ·exact h1 u (List.mem_of_mem_take hu)
   ·exact h2 u hu
   ·exact h1 u (List.mem_of_mem_drop hu)) (by show kX _ _ 3≤_;omega)) rfl ?_
  rintro v w7 ⟨hown,hg7⟩;rw [show ([cs.take (i*2),xs,cs.drop (i*2)]:List (List Value)).length=3 from rfl,hup] at hown;rw [show ([cs.take (i*2),xs,cs.drop (i*2)]:List (List Value)).flatten=cs.take (i*2)++xs++cs.drop (i*2) by simp] at hown;repeat refine dF ?_
  exact bA rfl ⟨_,rfl,eC hown hg6.size,hg6.trans hg7⟩
theorem cut_t (F:Nat→Prop) (a:Option Addr) (n c i j:Nat) (cs:List Value) (w:World) (hs:Sl F w 2 a n c cs) (h1:∀ u∈cs,u.oneCell'=true) (hij:i≤j) (hj:j≤n) (hn:n≤1000000) :
  Calls Tryz.prog 81 #[.slice a n c,.int .i64 (i:Int),.int .i64 (j:Int)] w (Ret λ v w'=>w'.ownsRow w.heap.size 58 2 v (n-(j-i)) (cs.take (i*2)++cs.drop (j*2))∧Grow w w'):=by
 have hcap:=hs.cap;have hlen:=hs.len;refine V.calls (args:=[_,_,_]) Tryz.func81 rfl Tryz.ntmps81 rfl rfl ?_;repeat refine dF ?_
 apply T.any 7 [is (.slice a n c),is (.int .i64 (i:Int)),slF F 2 i c (cs.take (i*2)),is (.slice a n c),is (.int .i64 (j:Int)),slF F 2 (n-j) (c-j) (cs.drop (j*2)),slsF 2 2 [cs.take (i*2),cs.drop (j*2)]]
 ·rfl
 ·repeat' (first|exact aN|refine aK ?_ ?_)
  iterate 2
   ·refine yQ λ wq _ _ hgq=>?_;repeat refine dF ?_
    exact aD rfl yG rfl
  ·refine yQ λ wq _ _ hgq=>?_;refine TL.slice (l:=0) (h:=i) (mm:=c) rfl (hs.grow hgq) (aP _) (bI rfl rfl) (aP c) (λ h=>by cases h) (Nat.zero_le _) oM oM (Nat.le_refl _) rfl ?_;intro a' hsl _;repeat refine dF ?_
   refine aD rfl yG ⟨a',rfl,?_⟩;simpa using hsl
  iterate 2
   ·refine yQ λ wq _ _ hgq=>?_;repeat refine dF ?_
    exact aD rfl yG rfl
  ·refine yQ λ wq _ _ hgq=>?_;refine TL.slice (l:=j) (h:=n) (mm:=c) rfl (hs.grow hgq) (bI rfl rfl) (aP _) (aP c) (λ _=>rfl) hj (Nat.le_refl _) hcap (Nat.le_refl _) rfl ?_;intro a' hsl _;repeat refine dF ?_
   refine aD rfl yG ⟨a',rfl,?_⟩;rw [List.take_of_length_le (by rw [List.length_drop];omega)] at hsl;exact hsl
  ·refine bX rfl rfl rfl ?_;intro wq _ _ hgq;refine aJ rfl rfl ?_;intro v1 q1;refine aJ rfl rfl ?_;intro v3 q3;refine aZ ?_;obtain ⟨a1,rfl,s1⟩:=q1;obtain ⟨a3,rfl,s3⟩:=q3;refine TL.buildSlice rfl rfl rfl rfl rfl ?_;intro b' wa hga hba hsa hsb hsc;repeat refine dF ?_
   refine aD rfl yG ⟨_,_,_,rfl,(aV (sz:=1) (m:=2) hba hsc dM).mono (λ _ _=>trivial),⟨_,_,_,rfl,(s1.grow hga).mono (λ _ _=>trivial)⟩,⟨_,_,_,rfl,(s3.grow hga).mono (λ _ _=>trivial)⟩,trivial⟩
 ·intro w6 lo6 hi6 hg6 _ _;iterate 7 (refine aJ rfl rfl ?_;intro vq hvq;try (obtain rfl:=hvq))
  refine aZ ?_;obtain ⟨a6,c6,vs6,rfl,hs6,hp6⟩:=hvq
  have hup:kX 2 [cs.take (i*2),cs.drop (j*2)] 2=n-(j-i):=by
   simp only [kX,List.take_succ_cons,List.take_zero,List.map_cons,List.map_nil,List.sum_cons,List.sum_nil,List.length_take,List.length_drop];omega
  refine aB 152 ?_
  refine aA rfl (join_t _ a6 2 c6 vs6 [cs.take (i*2),cs.drop (j*2)] _ hs6 hp6 (by
   intro p hp u hu;simp only [List.mem_cons,List.not_mem_nil,or_false] at hp;rcases hp with rfl|rfl
   ·exact h1 u (List.mem_of_mem_take hu)
   ·exact h1 u (List.mem_of_mem_drop hu)) (by show kX _ _ 2≤_;omega)) rfl ?_
  rintro v w7 ⟨hown,hg7⟩;rw [show ([cs.take (i*2),cs.drop (j*2)]:List (List Value)).length=2 from rfl,hup] at hown;rw [show ([cs.take (i*2),cs.drop (j*2)]:List (List Value)).flatten=cs.take (i*2)++cs.drop (j*2) by simp] at hown;repeat refine dF ?_
  exact bA rfl ⟨_,rfl,eC hown hg6.size,hg6.trans hg7⟩
end Go.Proofs.YtfpadnmdafiddaaGreatDoor
namespace Go.V
open Go Go.RowKit
theorem any_beq {l:List Nat} {x:Nat}:l.any (Nat.beq x)=true↔x∈l:=by
 rw [List.any_eq_true];exact ⟨λ ⟨y,hy,h⟩=>by rw [Nat.eq_of_beq_eq_true h];exact hy,λ h=>⟨x,h,Nat.beq_refl x⟩⟩
section
variable [Rn]
variable {P:Program} {n:Nat} {l:List Oper} {e:dJ} {w0:World} {Q:dI}
end
def mF (l:List Oper) (i:Nat):Option Nat:=(l[i]?).bind (·.dst)
def iZ (l:List Oper) (vs:List Value):List Nat→dJ→dJ
 | [],e=>e
 | j::js,e=>iZ l vs js (match mF l j with|some d=>(d,vs.getD j undef)::e|none=>e)
def detQ (d:Option Nat) (v:Value) (I:World→Prop):dI:=λ x e' w'=>match x with
 | .normal=>(∀ t,d=some t→find e' t=some v)∧I w'
 | _=>False
theorem aG {d:Nat} {v:Value} {I:World→Prop} {e':dJ} {w':World} (h:find e' d=some v) (hI:I w'):detQ (some d) v I .normal e' w':=⟨λ t ht=>(by cases ht;exact h),hI⟩
theorem gS {v:Value} {I:World→Prop} {e':dJ} {w':World} (hI:I w'):detQ none v I .normal e' w':=⟨λ t ht=>(by cases ht),hI⟩
def Det [Rn] (P:Program) (n:Nat) (l:List Oper) (e:dJ) (I:World→Prop) (vs:List Value) (i:Nat):Prop :=
 match l[i]? with
 | none=>True
 | some o=>∀ w,I w→TL P n l.toArray [o] (iZ l vs (lI (bH o)) e) w (detQ o.dst (vs.getD i undef) I)
def AllDet [Rn] (P:Program) (n:Nat) (l:List Oper) (e:dJ) (I:World→Prop) (vs:List Value):Nat→Nat→Prop
 | _,0=>True
 | i,k+1=>Det P n l e I vs i∧AllDet P n l e I vs (i+1) k
def headDet (l:List Oper) (e:dJ) (n:Nat):Nat→Nat→Bool
 | _,0=>true
 | i,k+1=>(match l[i]? with
   | some o=>(match o.dst with|some d=>Nat.blt d n&&(find e d).isNone&&(nD 0 i).all (λ j=>match mF l j with|some d'=>!(Nat.beq d' d)|none=>true)|none=>true)&&(bH o).all (λ j=>Nat.blt j i)
   | none=>false)&&headDet l e n (i+1) k
def sinkDet (l:List Oper) (N:Nat):Bool:=match l[N]? with
 | some o=>(nD 0 N).all λ i=>(bH o).any (Nat.beq i)
 | none=>true
structure DHead (l:List Oper) (e:dJ) (n i:Nat):Prop where
 ex:∃ o,l[i]? = some o∧(∀ d,o.dst=some d→d<n∧find e d=none∧∀ j,j<i→mF l j≠some d)∧∀ j∈bH o,j<i
theorem headDet_at {l:List Oper} {e:dJ} {n:Nat}:∀ {k i:Nat},headDet l e n i k=true→∀ j,i≤j→j<i+k→DHead l e n j
 | 0,i,_,j,h1,h2=>by omega
 | k+1,i,h,j,h1,h2=>by
  simp only [headDet,Bool.and_eq_true] at h;obtain ⟨h,hr⟩:=h;by_cases hj:j=i
  ·subst hj
   cases ho:l[j]? with
   | none=>simp [ho] at h
   | some o =>
    simp only [ho,Bool.and_eq_true,List.all_eq_true] at h;obtain ⟨h5,h6⟩:=h;refine ⟨o,ho,λ d hd=>?_,λ x hx=>Nat.le_of_ble_eq_true (h6 x hx)⟩;simp only [hd,Bool.and_eq_true,List.all_eq_true] at h5;obtain ⟨⟨h3,h4⟩,h5⟩:=h5;refine ⟨Nat.le_of_ble_eq_true h3,by simpa using h4,λ x hx hxd=>?_⟩;have:=h5 x (fH.2 ⟨Nat.zero_le _,oM⟩);rw [hxd] at this;simp [Nat.beq_refl] at this
  ·exact headDet_at hr j oM oM
section
variable [Rn]
variable {P:Program} {n:Nat} {l:List Oper} {e:dJ} {I:World→Prop} {vs:List Value} {N:Nat} {Q:dI}
theorem allDet_at:∀ {k i:Nat},AllDet P n l e I vs i k→∀ j,i≤j→j<i+k→Det P n l e I vs j
 | 0,_,_,j,h1,h2=>by omega
 | k+1,i,h,j,h1,h2=>by
  by_cases hj:j=i
  ·subst hj;exact h.1
  ·exact allDet_at h.2 j oM oM
theorem jA {i:Nat}:AllDet P n l e I vs i 0:=trivial
theorem iB {i k:Nat} (h:Det P n l e I vs i) (hs:AllDet P n l e I vs (i+1) k):AllDet P n l e I vs i (k+1):=⟨h,hs⟩
theorem mG {i:Nat} {d:Option Nat} {op:Op} {ty:TypeId} {pos:String} {aft:Array Edge} {v:Value} {e':dJ} (ho:l[i]? = some ⟨d,op,ty,pos,aft,none⟩) (hv:vs.getD i undef=v) (he:iZ l vs (lI (bH ⟨d,op,ty,pos,aft,none⟩)) e=e')
  (h:∀ w,I w→TL P n #[] [⟨d,op,ty,pos,aft,none⟩] e' w (detQ d v I)):Det P n l e I vs i:=by
 unfold Det;rw [ho];simp only;intro w hw;subst he;rw [hv];exact TL.lone (h w hw)
theorem kT:∀ {js:List Nat} {e0:dJ} {t:Nat} {v:Value},find (iZ l vs js e0) t=some v→(∃ j∈js,mF l j=some t∧v=vs.getD j undef)∨find e0 t=some v
 | [],e0,t,v,h=>.inr h
 | j::js,e0,t,v,h=>by
  unfold iZ at h;rcases kT h with ⟨x,hx,h1⟩|h1
  ·exact .inl ⟨x,by simp [hx],h1⟩
  ·cases hd:mF l j with
   | none=>rw [hd] at h1;exact .inr h1
   | some d =>
    rw [hd] at h1;simp only [fT] at h1;by_cases ht:d=t
    ·rw [if_pos ht] at h1;exact .inl ⟨j,sM,by rw [hd,ht],(Option.some.inj h1).symm⟩
    ·rw [if_neg ht] at h1;exact .inr h1
structure MidD (n:Nat) (l:List Oper) (e:dJ) (I:World→Prop) (vs:List Value) (N:Nat) (listed:Array Bool) (a:Act) (w:World):Prop where
 size:listed.size=l.length
 inv:I w
 defers:a.defers=Rn.ds
 tmps:a.tmps.size=n
 get:∀ t v,find e t=some v→a.tmps.getD t undef=v
 did:∀ i,i<N→listed.getD i false=true→∀ d,mF l i=some d→a.tmps.getD d undef=vs.getD i undef
 rest:∀ i,N≤i→listed.getD i false=false
 closed:∀ j o,l[j]? = some o→listed.getD j false=true→∀ x∈bH o,listed.getD x false=true
theorem eH {listed:Array Bool} {i x:Nat} (hx:x≠i):(listed.setIfInBounds i true).getD x false=listed.getD x false:=by
 rw [Array.getD_eq_getD_getElem?,Array.getElem?_setIfInBounds_ne (λ h=>hx h.symm),← Array.getD_eq_getD_getElem?]
theorem det_runs (hN:N≤l.length) (hh:∀ i,i<N→DHead l e n i) (hsink:N<l.length→∀ i,i<N→∃ j o,i<j∧j≤N∧l[j]? = some o∧i∈bH o)
  (ht:∀ j,N≤j→j<l.length→∃ o,l[j]? = some o∧(∀ x∈bH o,x<j)∧(j=N∨j-1∈bH o)) (hdo:∀ i,i<N→Det P n l e I vs i)
  (htail:∀ w,I w→TL P n l.toArray (l.drop N) (iZ l vs (nD 0 N) e) w Q) :
  ∀ (m:Nat) (listed:Array Bool) (a:Act) (w:World) (f:Nat),MidD n l e I vs N listed a w →
   ((List.range N).filter λ i=>!(listed.getD i false)).length=m→f=m+(l.length-N)→wpAnyIn (FR Rn.ro) 0 P .any l.toArray (iL n Q) f listed a w:=by
 intro m
 induction m with
 | zero =>
  intro listed a w f mid hm hf
  have hall:∀ i,i<N→listed.getD i false=true:=by
   intro i hi;have:=List.eq_nil_of_length_eq_zero hm;have h2:=List.eq_nil_iff_forall_not_mem.1 this i;simp only [List.mem_filter,List.mem_range,not_and,Bool.not_eq_true',Bool.not_eq_false] at h2;exact h2 hi
  refine nG ht f N listed a w oM (Nat.le_refl _) mid.size hall (λ x hx hx2=>?_) ?_
  ·have:=mid.rest x hx;rw [Array.getD_eq_getD_getElem?] at this ⊢
   cases hy:listed[x]? with
   | none=>rw [Array.getElem?_eq_none_iff] at hy;have:=mid.size;omega
   | some b=>simpa [hy] using this
  ·refine (htail w mid.inv).out ⟨mid.defers,mid.tmps,λ t v hv=>?_⟩;rcases kT hv with ⟨j,hj,h1,rfl⟩|h3
   ·have hjN:=(fH.1 hj).2;exact mid.did j oM (hall j oM) t h1
   ·exact mid.get t v h3
 | succ m ih =>
  intro listed a w f mid hm hf
  have hopen:∃ i,i<N∧listed.getD i false=false:=by
   have hne:((List.range N).filter λ i=>!(listed.getD i false))≠[]:=by intro h0;rw [h0] at hm;simp at hm
   obtain ⟨i,hi⟩:=List.exists_mem_of_ne_nil _ hne;simp only [List.mem_filter,List.mem_range,Bool.not_eq_true'] at hi;exact ⟨i,hi.1,hi.2⟩
  obtain ⟨f',rfl⟩:∃ f',f=f'+1:=⟨f-1,oM⟩
  have hready:∀ j,j∈Region.ready .any l.toArray listed→j<N∧listed.getD j false=false:=by
   intro j hj;obtain ⟨h3,o,h4,h5⟩:=cZ.1 hj;have hlt:j<l.length:=(List.getElem?_eq_some_iff.1 h4).1
   have hf2:listed.getD j false=false:=by
    rw [Array.getD_eq_getD_getElem?] at h3 ⊢
    cases hx:listed[j]? with
    | none=>simp
    | some b=>simpa [hx] using h3
   refine ⟨?_,hf2⟩;rcases Nat.lt_or_ge j N with h|h
   ·exact h
   ·exfalso;obtain ⟨o2,h6,_,h7⟩:=ht j h hlt;rw [h4] at h6;cases h6;obtain ⟨i,hi,hi0⟩:=hopen;by_cases hjN:j=N
    ·subst hjN
     have key:∀ k i,j-i≤k→i<j→listed.getD i false=false→False:=by
      intro k
      induction k with
      | zero=>intro i h1 h2;omega
      | succ k ihk =>
       intro i h1 h2 hl;obtain ⟨x,o3,hx1,hx2,hx3,hx4⟩:=hsink hlt i h2;by_cases hxj:x=j
       ·subst hxj;rw [h4] at hx3;cases hx3;have:=h5 i hx4;rw [hl] at this;cases this
       ·refine ihk x oM oM ?_
        cases hv:listed.getD x false with
        | false=>rfl
        | true =>
         have:=mid.closed x o3 hx3 hv i hx4;rw [hl] at this;cases this
     exact key _ i (Nat.le_refl _) hi hi0
    ·have h8:=h5 (j-1) (h7.resolve_left hjN);rw [mid.rest (j-1) oM] at h8;cases h8
  have hsome:Region.ready .any l.toArray listed≠[]:=by
   have key:∀ k i,i≤k→i<N→listed.getD i false=false→∃ j,j∈Region.ready .any l.toArray listed:=by
    intro k
    induction k with
    | zero =>
     intro i hi hiN hl;obtain ⟨o,ho,_,hdeps⟩:=(hh i hiN).ex;refine ⟨i,cZ.2 ⟨?_,o,ho,λ x hx=>?_⟩⟩
     ·rw [Array.getD_eq_getD_getElem?] at hl ⊢
      cases hx:listed[i]? with
      | none=>rw [Array.getElem?_eq_none_iff] at hx;have:=mid.size;omega
      | some b=>simpa [hx] using hl
     ·have:=hdeps x hx;omega
    | succ k ihk =>
     intro i hi hiN hl;obtain ⟨o,ho,_,hdeps⟩:=(hh i hiN).ex;by_cases hx:∃ x∈bH o,listed.getD x false=false
     ·obtain ⟨x,hx1,hx2⟩:=hx;have:=hdeps x hx1;exact ihk x oM oM hx2
     ·refine ⟨i,cZ.2 ⟨?_,o,ho,λ x hx1=>?_⟩⟩
      ·rw [Array.getD_eq_getD_getElem?] at hl ⊢
       cases hx:listed[i]? with
       | none=>rw [Array.getElem?_eq_none_iff] at hx;have:=mid.size;omega
       | some b=>simpa [hx] using hl
      ·cases hv:listed.getD x false with
       | true=>rfl
       | false=>exact absurd ⟨x,hx1,hv⟩ hx
   obtain ⟨i,hi,hi0⟩:=hopen;obtain ⟨j,hj⟩:=key i i (Nat.le_refl _) hi hi0;intro h0;rw [h0] at hj;cases hj
  refine ⟨λ h0=>absurd h0 hsome,λ i hir=>?_⟩;obtain ⟨hiN,hil⟩:=hready i hir;obtain ⟨_,o,ho,hdl⟩:=cZ.1 hir;obtain ⟨o',ho',hd,hdeps⟩:=(hh i hiN).ex;rw [ho] at ho';cases ho';have hdst:mF l i=o.dst:=by simp [mF,ho]
  have hdo':=hdo i hiN;unfold Det at hdo';simp only [ho] at hdo'
  have hfit:Fits n (iZ l vs (lI (bH o)) e) a:=⟨mid.defers,mid.tmps,λ t v hv=>by
   rcases kT hv with ⟨j,hj,h1,rfl⟩|h3
   ·have hj':=fI.1 hj;exact mid.did j (by have:=hdeps j hj';omega) (hdl j hj') t h1
   ·exact mid.get t v h3⟩
  have hrun:=(hdo' w mid.inv).out hfit;unfold wpOpIn;rw [show l.toArray[i]? = some o by simpa using ho];simp only
  have hnext:∀ a' w',iL n (detQ o.dst (vs.getD i undef) I) .normal a' w'→(∃ v,a'.tmps=(a.put o.dst v).tmps)→wpAnyIn (FR Rn.ro) 0 P .any l.toArray (iL n Q) f' (listed.setIfInBounds i true) a' w':=by
   rintro a' w' ⟨e',he',hv,hI'⟩ ⟨u,hu⟩
   have hother:∀ t,o.dst≠some t→a'.tmps.getD t undef=a.tmps.getD t undef:=λ t htd=>by
    rw [hu]
    cases hod:o.dst with
    | none=>rfl
    | some d =>
     rw [jS (by rw [mid.tmps];exact (hd d hod).1),if_neg (λ h=>htd (by rw [hod,h]))]
   refine ih (listed.setIfInBounds i true) a' w' f' ⟨by simp [mid.size],hI',he'.defers,he'.size,λ t v hv=>?_,λ j hj hjl d hjd=>?_,λ j hj=>?_,λ j oj hoj hjl x hx=>?_⟩ ?_ oM
   ·rw [hother t (λ h=>by rw [(hd t h).2.1] at hv;cases hv)];exact mid.get t v hv
   ·by_cases hji:j=i
    ·subst hji;rw [hdst] at hjd;exact he'.get d _ (hv d hjd)
    ·rw [eH hji] at hjl
     have hne:o.dst≠some d:=by
      intro hod;rcases Nat.lt_or_ge j i with h|h
      ·exact (hd d hod).2.2 j h hjd
      ·obtain ⟨oj,hoj,hdj,_⟩:=(hh j hj).ex;have:mF l j=oj.dst:=by simp [mF,hoj]
       rw [this] at hjd;exact (hdj d hjd).2.2 i oM (by rw [hdst];exact hod)
     rw [hother d hne];exact mid.did j hj hjl d hjd
   ·rw [eH oM];exact mid.rest j hj
   ·by_cases hxi:x=i
    ·subst hxi;have hsz:x<listed.size:=by rw [mid.size];exact (List.getElem?_eq_some_iff.1 ho).1
     simp [Array.getD_eq_getD_getElem?,hsz]
    ·rw [eH hxi];by_cases hji:j=i
     ·subst hji;rw [ho] at hoj;cases hoj;exact hdl x hx
     ·rw [eH hji] at hjl;exact mid.closed j oj hoj hjl x hx
   ·have hcount:∀ (L:List Nat),L.Nodup→i∈L→(L.filter λ j=>!((listed.setIfInBounds i true).getD j false)).length+1=(L.filter λ j=>!(listed.getD j false)).length:=by
     intro L
     induction L with
     | nil=>intro _ h;cases h
     | cons x xs ihx =>
      intro hnd hmem;rw [List.nodup_cons] at hnd;have hsz:i<listed.size:=by rw [mid.size];exact (List.getElem?_eq_some_iff.1 ho).1
      by_cases hxi:x=i
      ·subst hxi
       have hsame:(xs.filter λ j=>!((listed.setIfInBounds x true).getD j false))=xs.filter λ j=>!(listed.getD j false):=by
        apply List.filter_congr;intro y hy;rw [eH (λ (h:y=x)=>hnd.1 (by rw [← h];exact hy))]
       have h1:(listed.setIfInBounds x true).getD x false=true:=by simp [Array.getD_eq_getD_getElem?,hsz]
       rw [List.filter_cons_of_neg (by simp [h1]),hsame,List.filter_cons_of_pos (by simp [hil])];simp
      ·have hmem':i∈xs:=by
        rcases List.mem_cons.1 hmem with h|h
        ·exact absurd h.symm hxi
        ·exact h
       have:=ihx hnd.2 hmem';have hx2:(listed.setIfInBounds i true).getD x false=listed.getD x false:=eH hxi
       cases hc:listed.getD x false with
       | true=>rw [List.filter_cons_of_neg (by simp [hx2,hc]),List.filter_cons_of_neg (by simp [hc])];exact this
       | false=>rw [List.filter_cons_of_pos (by simp [hx2,hc]),List.filter_cons_of_pos (by simp [hc])];simp only [List.length_cons];omega
    have:=hcount (List.range N) List.nodup_range (List.mem_range.2 hiN);omega
  unfold wpListIn at hrun;split
  ·rename_i hw;rw [if_pos hw] at hrun
   exact (Oper.wpIn_mono (λ a' w' hh=>hnext a' w' hh.1 hh.2) (wp_swap (wp_frame hrun) (λ x a w hx hq=>by
     refine (lift_no hq λ e0 w0 hq=>?_).elim
     cases x<;>first|exact absurd rfl hx|exact hq)))
  ·rename_i hw;rw [if_neg hw] at hrun;exact ⟨hrun.1,hnext _ _ hrun.2 ⟨undef,by cases o.dst<;>rfl⟩⟩
theorem T.det {rid:Nat} {w0:World} (N:Nat) (vs:List Value) (I:World→Prop) [hm:Mixed P] (hc:(headDet l e n 0 N&&mZ l N N (l.length-N)&&Nat.ble N l.length&&(Nat.ble l.length N || sinkOk l N))=true) (h0:∀ w,Grow w0 w→I w)
  (hdo:AllDet P n l e I vs 0 N) (htail:∀ w,I w→TL P n l.toArray (l.drop N) (iZ l vs (nD 0 N) e) w Q):T P n (.region rid l.toArray true) e w0 Q:=by
 simp only [Bool.and_eq_true] at hc;obtain ⟨⟨⟨hc1,hc2⟩,hc3⟩,hc4⟩:=hc;refine T.mk λ a ha=>wpIn_region_any hm.h ?_
 refine det_runs (N:=N) (Nat.le_of_ble_eq_true hc3) (λ i hi=>headDet_at hc1 i (Nat.zero_le _) oM) (λ hlt i hi=>?_) (λ j h1 h2=>lR hc2 j h1 oM) (λ i hi=>allDet_at hdo i (Nat.zero_le _) oM) htail
  N (Array.replicate l.toArray.size false) a _ _ ⟨sM,h0 _ (Grow.drew _),ha.defers,ha.size,ha.get,λ i _ h=>?_,λ i _=>?_,λ j o _ h x _=>?_⟩ ?_ ?_
 ·simp only [Bool.or_eq_true] at hc4;rcases hc4 with h|h
  ·have:=Nat.le_of_ble_eq_true h;omega
  ·exact sinkOk_at h i hi
 ·exfalso;rw [Array.getD_eq_getD_getElem?] at h;rcases Nat.lt_or_ge i l.length with hi|hi
  ·simp [hi] at h
  ·simp [hi] at h
 ·rw [Array.getD_eq_getD_getElem?];rcases Nat.lt_or_ge i l.length with hi|hi
  ·simp [hi]
  ·simp [hi]
 ·exfalso;rw [Array.getD_eq_getD_getElem?] at h;rcases Nat.lt_or_ge j l.length with hi|hi
  ·simp [hi] at h
  ·simp [hi] at h
 ·have:((List.range N).filter λ i=>!((Array.replicate l.toArray.size false).getD i false))=List.range N:=by
   rw [List.filter_eq_self];intro i hi;rw [Array.getD_eq_getD_getElem?];rcases Nat.lt_or_ge i l.length with hi|hi
   ·simp [hi]
   ·simp [hi]
  rw [this];simp
 ·have:=Nat.le_of_ble_eq_true hc3;simp;omega
end
end Go.V
namespace Go.Proofs.YtfpadnmdafiddaaGreatDoor
def eZ (b:Bs):Prop:=∀ x∈b,x<256
def NdB (n:Nd):Prop:=(∀ x∈n.items,eZ x.1∧eZ x.2)∧∀ k∈n.keys,eZ k
def PgB (s:Pg):Prop:=∀ n,eZ (s.body n)
theorem mH {a b:Bs} (ha:eZ a) (hb:eZ b):eZ (a++b):=λ x hx=>(List.mem_append.1 hx).elim (ha x) (hb x)
theorem nI {r p t:Bs} (hr:eZ r) (h:kF r=some (p,t)):eZ p∧eZ t:=by
 unfold kF at h;split at h
 ·split at h
  ·simp only [Option.some.injEq,Prod.mk.injEq] at h;obtain ⟨rfl,rfl⟩:=h;exact ⟨λ x hx=>hr x (List.mem_of_mem_drop (List.mem_of_mem_take hx)),λ x hx=>hr x (List.mem_of_mem_drop (List.mem_of_mem_drop hx))⟩
  ·cases h
 ·cases h
theorem rdItems_by:∀ {c:Nat} {r t:Bs} {l:bT},eZ r→iS c r=some (l,t)→(∀ x∈l,eZ x.1∧eZ x.2)∧eZ t
 | 0,r,t,l,hr,h=>by
  simp only [iS,Option.some.injEq,Prod.mk.injEq] at h;obtain ⟨rfl,rfl⟩:=h;exact ⟨sM,hr⟩
 | c+1,r,t,l,hr,h=>by
  unfold iS at h;split at h
  ·cases h
  rename_i k r1 e1;split at h
  ·cases h
  rename_i v r2 e2;split at h
  ·cases h
  rename_i l' r3 e3;simp only [Option.some.injEq,Prod.mk.injEq] at h;obtain ⟨rfl,rfl⟩:=h;obtain ⟨b1,b2⟩:=nI hr e1;obtain ⟨b3,b4⟩:=nI b2 e2;obtain ⟨b5,b6⟩:=rdItems_by b4 e3;refine ⟨λ x hx=>?_,b6⟩;rcases List.mem_cons.1 hx with rfl|hx
  ·exact ⟨b1,b3⟩
  ·exact b5 x hx
theorem rdKids_by:∀ {c:Nat} {r t:Bs} {l:List Nat},eZ r→kZ c r=some (l,t)→eZ t
 | 0,r,t,l,hr,h=>by
  simp only [kZ,Option.some.injEq,Prod.mk.injEq] at h;obtain ⟨rfl,rfl⟩:=h;exact hr
 | c+1,r,t,l,hr,h=>by
  unfold kZ at h;split at h
  ·cases h
  rename_i k r1 e1;split at h
  ·cases h
  rename_i l' r3 e3;simp only [Option.some.injEq,Prod.mk.injEq] at h;obtain ⟨rfl,rfl⟩:=h;refine rdKids_by (r:=r1) ?_ e3;unfold rdWord at e1;split at e1
  ·simp only [Option.some.injEq,Prod.mk.injEq] at e1;obtain ⟨rfl,rfl⟩:=e1;exact λ x hx=>hr x (List.mem_of_mem_drop hx)
  ·cases e1
theorem rdKeys_by:∀ {c:Nat} {r t:Bs} {l:List Bs},eZ r→lA c r=some (l,t)→(∀ x∈l,eZ x)∧eZ t
 | 0,r,t,l,hr,h=>by
  simp only [lA,Option.some.injEq,Prod.mk.injEq] at h;obtain ⟨rfl,rfl⟩:=h;exact ⟨sM,hr⟩
 | c+1,r,t,l,hr,h=>by
  unfold lA at h;split at h
  ·cases h
  rename_i k r1 e1;split at h
  ·cases h
  rename_i l' r3 e3;simp only [Option.some.injEq,Prod.mk.injEq] at h;obtain ⟨rfl,rfl⟩:=h;obtain ⟨b1,b2⟩:=nI hr e1;obtain ⟨b5,b6⟩:=rdKeys_by b2 e3;refine ⟨λ x hx=>?_,b6⟩;rcases List.mem_cons.1 hx with rfl|hx
  ·exact b1
  ·exact b5 x hx
theorem finN_eq {m n:Nd} {r:Bs} (h:finN m r=some n):m=n:=by
 unfold finN at h;split at h
 ·simpa using h
 ·cases h
theorem readN_by {b:Bs} {n:Nd} (hb:eZ b) (h:fZ b=some n):NdB n:=by
 unfold fZ at h;split at h;rotate_left
 ·cases h
 rename_i kd c r;have hr:eZ r:=λ x hx=>hb x (by simp [hx]);split at h
 ·cases h
 ·split at h
  ·split at h
   ·cases h
   ·rename_i l r1 e1;have:=finN_eq h;subst this;exact ⟨(rdItems_by hr e1).1,sM⟩
  ·split at h
   ·split at h
    ·cases h
    ·rename_i l r1 e1;split at h
     ·cases h
     ·rename_i ks r2 e2;have:=finN_eq h;subst this;exact ⟨sM,(rdKeys_by (rdKids_by hr e1) e2).1⟩
   ·cases h
theorem nodeP_by {s:Pg} {n:Nat} {nd:Nd} (hs:PgB s) (h:cB s n=some nd):NdB nd:=by
 unfold cB at h;split at h
 ·exact readN_by (hs n) h
 ·cases h
theorem encL_by:∀ n:Fin 40,∀ x∈encL n.val,x<256:=by decide +kernel
theorem blkB_by {p:Bs} (h:p.length<40) (hp:eZ p):eZ (bS p):=mH (λ x hx=>encL_by ⟨p.length,h⟩ x hx) hp
theorem lV {n:Nd} (hk:bF n=true) (h:NdB n):eZ (dC n):=by
 unfold bF at hk;unfold dC;split at hk
 ·rename_i hl;obtain ⟨h1,h2,h3⟩:=dG hk;rw [if_pos hl];refine mH (λ x hx=>?_) (λ x hx=>?_)
  ·simp only [List.mem_cons,List.not_mem_nil,or_false] at hx;omega
  ·obtain ⟨y,hy,hxy⟩:=List.mem_flatMap.1 hx;have g1:=eM (mQ h3 hy).1;have g2:=iD (mQ h3 hy).2;exact mH (blkB_by oM (h.1 y hy).1) (blkB_by oM (h.1 y hy).2) x hxy
 ·rename_i hl;obtain ⟨h1,h2,h3,h4,h5,h6⟩:=cO hk;rw [if_neg hl];refine mH (mH (λ x hx=>?_) (λ x hx=>?_)) (λ x hx=>?_)
  ·simp only [List.mem_cons,List.not_mem_nil,or_false] at hx;omega
  ·obtain ⟨y,hy,hxy⟩:=List.mem_flatMap.1 hx;simp only [bP,List.mem_cons,List.not_mem_nil,or_false] at hxy;omega
  ·obtain ⟨y,hy,hxy⟩:=List.mem_flatMap.1 hx;have g1:=eM (key_ok' h6 hy);exact blkB_by oM (h.2 y hy) x hxy
theorem mem_insL {α : Type} {l x:List α} {i:Nat} {a : α} (h:a∈hY l i x):a∈l∨a∈x:=by
 simp only [hY,List.mem_append] at h;rcases h with (h|h)|h
 ·exact .inl (List.mem_of_mem_take h)
 ·exact .inr h
 ·exact .inl (List.mem_of_mem_drop h)
theorem nN {α : Type} {l:List α} {i j:Nat} {a : α} (h:a∈dT l i j):a∈l:=by
 simp only [dT,List.mem_append] at h;rcases h with h|h
 ·exact List.mem_of_mem_take h
 ·exact List.mem_of_mem_drop h
theorem putNode_by {n up:Nd} {i:Nat} {item:Bs×Bs} {th:Bool} (hn:NdB n) (hu:NdB up) (h1:eZ item.1) (h2:eZ item.2):NdB (cP n i up item th):=by
 unfold cP;split
 ·split
  ·refine ⟨λ x hx=>?_,hn.2⟩;rcases mem_insL hx with hx|hx
   ·exact hn.1 x (nN hx)
   ·simp only [List.mem_singleton] at hx;subst hx;exact ⟨h1,h2⟩
  ·refine ⟨λ x hx=>?_,hn.2⟩;rcases mem_insL hx with hx|hx
   ·exact hn.1 x hx
   ·simp only [List.mem_singleton] at hx;subst hx;exact ⟨h1,h2⟩
 ·refine ⟨hn.1,λ x hx=>?_⟩;rcases mem_insL hx with hx|hx
  ·exact hn.2 x hx
  ·exact hu.2 x hx
theorem getD_by {l:List Bs} (h:∀ k∈l,eZ k) (i:Nat):eZ (l.getD i []):=by
 rw [List.getD_eq_getElem?_getD]
 cases e:l[i]? with
 | none=>intro x hx;cases hx
 | some y=>exact h y (List.mem_of_getElem? e)
theorem getI_by {l:bT} (h:∀ x∈l,eZ x.1∧eZ x.2) (i:Nat):eZ (l.getD i ([],[])).1∧eZ (l.getD i ([],[])).2:=by
 rw [List.getD_eq_getElem?_getD]
 cases e:l[i]? with
 | none=>refine ⟨λ x hx=>?_,λ x hx=>?_⟩<;>cases hx
 | some y=>exact h y (List.mem_of_getElem? e)
theorem splitN_by {n:Nd} (hn:NdB n):NdB (bV n).1∧NdB (bV n).2.1∧eZ (bV n).2.2:=by
 unfold bV;split
 ·exact ⟨⟨λ x hx=>hn.1 x (nN hx),sM⟩,⟨λ x hx=>hn.1 x (nN hx),sM⟩,(getI_by (λ x hx=>hn.1 x (nN hx)) 0).1⟩
 ·exact ⟨⟨sM,λ x hx=>hn.2 x (nN hx)⟩,⟨sM,λ x hx=>hn.2 x (nN hx)⟩,getD_by hn.2 3⟩
end Go.Proofs.YtfpadnmdafiddaaGreatDoor
namespace Go.Proofs.YtfpadnmdafiddaaGreatDoor
open Go Go.RowKit Go.V
theorem mO {α : Type} {l x:List α} {i:Nat} (h:i≤l.length):(hY l i x).length=l.length+x.length:=by
 simp only [hY,List.length_append,List.length_take,List.length_drop];omega
theorem kS {α : Type} {l:List α} {i j:Nat} (h:i≤j) (hj:j≤l.length):(dT l i j).length=l.length-(j-i):=by
 simp only [dT,List.length_append,List.length_take,List.length_drop];omega
def itsF {B:Nat} (F:Nat→Prop) (n:Nat) (l:bT):SFact B:={ G:=λ v _ _ w=>∃ a c,v=.slice a n c∧ItsAt F w a n c l,st:=λ v _ _ w w' g h=>by obtain ⟨a,c,h1,h2⟩:=h;exact ⟨a,c,h1,h2.go (Carry.grow g)⟩ }
def kysF {B:Nat} (F:Nat→Prop) (n:Nat) (l:List Bs):SFact B:={ G:=λ v _ _ w=>∃ a c,v=.slice a n c∧KysAt F w a n c l,st:=λ v _ _ w w' g h=>by obtain ⟨a,c,h1,h2⟩:=h;exact ⟨a,c,h1,h2.go (Carry.grow g)⟩ }
def kidF {B:Nat} (F:Nat→Prop) (n:Nat) (l:List Nat):SFact B:={ G:=λ v _ _ w=>∃ a c,v=.slice a n c∧Sl F w 1 a n c (bC l),st:=λ v _ _ w w' g h=>by obtain ⟨a,c,h1,h2⟩:=h;exact ⟨a,c,h1,h2.grow g⟩ }
section
variable {F:Nat→Prop} {w:World}
theorem its_of_own {w':World} {E:TypeId} {v:Value} {n:Nat} {cs:List Value} {l:bT} (hown:w'.ownsRow w.heap.size E 2 v n cs) (hF:∀ k,w.heap.size≤k→F k) (hc:ItCells F w' cs l):∃ a c,v=.slice a n c∧ItsAt F w' a n c l:=by
 obtain ⟨a,c,rfl,hs⟩:=aM hown;exact ⟨a,c,rfl,⟨cs,hs.mono (λ k hk=>hF k hk.1),hc⟩⟩
theorem kys_of_own {w':World} {E:TypeId} {v:Value} {n:Nat} {cs:List Value} {l:List Bs} (hown:w'.ownsRow w.heap.size E 1 v n cs) (hF:∀ k,w.heap.size≤k→F k) (hc:KyCells F w' cs l):∃ a c,v=.slice a n c∧KysAt F w' a n c l:=by
 obtain ⟨a,c,rfl,hs⟩:=aM hown;exact ⟨a,c,rfl,⟨cs,hs.mono (λ k hk=>hF k hk.1),hc⟩⟩
theorem insI_c (hF:∀ k,w.heap.size≤k→F k) (a b:Option Addr) (n c m d i:Nat) (l xs:bT) (h:ItsAt F w a n c l) (hx:ItsAt F w b m d xs) (hi:i≤n) (hn:n+m≤1000000) :
  Calls Tryz.prog 99 #[.slice a n c,.int .i64 (i:Int),.slice b m d] w (Ret λ v w'=>(∃ a' c',v=.slice a' (n+m) c'∧ItsAt F w' a' (n+m) c' (hY l i xs))∧Grow w w'):=by
 obtain ⟨cs,hs,hc⟩:=h.ex;obtain ⟨ds,hs2,hd⟩:=hx.ex;refine Calls.mono (insert_t F F a b n c m d i cs ds w hs hs2 hc.one hd.one hi hn) ?_;rintro _ w' ⟨v,rfl,hown,hg⟩;have h1:=hc.take i;rw [Nat.mul_comm] at hown;exact ⟨v,rfl,its_of_own hown hF (ItCells.go (Carry.grow hg) ((h1.1.append hd).append h1.2)),hg⟩
theorem cutI_c (hF:∀ k,w.heap.size≤k→F k) (a:Option Addr) (n c i j:Nat) (l:bT) (h:ItsAt F w a n c l) (hij:i≤j) (hj:j≤n) (hn:n≤1000000) :
  Calls Tryz.prog 81 #[.slice a n c,.int .i64 (i:Int),.int .i64 (j:Int)] w (Ret λ v w'=>(∃ a' c',v=.slice a' (n-(j-i)) c'∧ItsAt F w' a' (n-(j-i)) c' (dT l i j))∧Grow w w'):=by
 obtain ⟨cs,hs,hc⟩:=h.ex;refine Calls.mono (cut_t F a n c i j cs w hs hc.one hij hj hn) ?_;rintro _ w' ⟨v,rfl,hown,hg⟩;rw [Nat.mul_comm i,Nat.mul_comm j] at hown;exact ⟨v,rfl,its_of_own hown hF (ItCells.go (Carry.grow hg) ((hc.take i).1.append (hc.take j).2)),hg⟩
theorem insK_c (hF:∀ k,w.heap.size≤k→F k) (a b:Option Addr) (n c m d i:Nat) (l xs:List Bs) (h:KysAt F w a n c l) (hx:KysAt F w b m d xs) (hi:i≤n) (hn:n+m≤1000000) :
  Calls Tryz.prog 98 #[.slice a n c,.int .i64 (i:Int),.slice b m d] w (Ret λ v w'=>(∃ a' c',v=.slice a' (n+m) c'∧KysAt F w' a' (n+m) c' (hY l i xs))∧Grow w w'):=by
 obtain ⟨cs,hs,hc⟩:=h.ex;obtain ⟨ds,hs2,hd⟩:=hx.ex;refine Calls.mono (insert_k F F a b n c m d i cs ds w hs hs2 hc.one hd.one hi hn) ?_;rintro _ w' ⟨v,rfl,hown,hg⟩;have h1:=hc.take i;rw [Nat.mul_one] at hown;exact ⟨v,rfl,kys_of_own hown hF (KyCells.go (Carry.grow hg) ((h1.1.append hd).append h1.2)),hg⟩
theorem cutK_c (hF:∀ k,w.heap.size≤k→F k) (a:Option Addr) (n c i j:Nat) (l:List Bs) (h:KysAt F w a n c l) (hij:i≤j) (hj:j≤n) (hn:n≤1000000) :
  Calls Tryz.prog 194 #[.slice a n c,.int .i64 (i:Int),.int .i64 (j:Int)] w (Ret λ v w'=>(∃ a' c',v=.slice a' (n-(j-i)) c'∧KysAt F w' a' (n-(j-i)) c' (dT l i j))∧Grow w w'):=by
 obtain ⟨cs,hs,hc⟩:=h.ex;refine Calls.mono (cut_k F a n c i j cs w hs hc.one hij hj hn) ?_;rintro _ w' ⟨v,rfl,hown,hg⟩;rw [Nat.mul_one,Nat.mul_one] at hown;exact ⟨v,rfl,kys_of_own hown hF (KyCells.go (Carry.grow hg) ((hc.take i).1.append (hc.take j).2)),hg⟩
theorem ints_insL (l xs:List Nat) (i:Nat):(bC l).take i++bC xs++(bC l).drop i=bC (hY l i xs):=by simp [bC,hY,List.map_take,List.map_drop]
theorem ints_cutL (l:List Nat) (i j:Nat):(bC l).take i++(bC l).drop j=bC (dT l i j):=by simp [bC,dT,List.map_take,List.map_drop]
theorem insN_c (hF:∀ k,w.heap.size≤k→F k) (a b:Option Addr) (n c m d i:Nat) (l xs:List Nat) (h:Sl F w 1 a n c (bC l)) (hx:Sl F w 1 b m d (bC xs)) (hi:i≤n) (hn:n+m≤1000000) :
  Calls Tryz.prog 96 #[.slice a n c,.int .i64 (i:Int),.slice b m d] w (Ret λ v w'=>(∃ a' c',v=.slice a' (n+m) c'∧Sl F w' 1 a' (n+m) c' (bC (hY l i xs)))∧Grow w w'):=by
 refine Calls.mono (insert_i F F a b n c m d i _ _ w h hx (gD l) (gD xs) hi hn) ?_;rintro _ w' ⟨v,rfl,hown,hg⟩;rw [Nat.mul_one,ints_insL] at hown;obtain ⟨a',c',rfl,hs⟩:=aM hown;exact ⟨_,rfl,⟨a',c',rfl,hs.mono (λ k hk=>hF k hk.1)⟩,hg⟩
theorem cutN_c (hF:∀ k,w.heap.size≤k→F k) (a:Option Addr) (n c i j:Nat) (l:List Nat) (h:Sl F w 1 a n c (bC l)) (hij:i≤j) (hj:j≤n) (hn:n≤1000000) :
  Calls Tryz.prog 97 #[.slice a n c,.int .i64 (i:Int),.int .i64 (j:Int)] w (Ret λ v w'=>(∃ a' c',v=.slice a' (n-(j-i)) c'∧Sl F w' 1 a' (n-(j-i)) c' (bC (dT l i j)))∧Grow w w'):=by
 refine Calls.mono (cut_i F a n c i j _ w h (gD l) hij hj hn) ?_;rintro _ w' ⟨v,rfl,hown,hg⟩;rw [Nat.mul_one,Nat.mul_one,ints_cutL] at hown;obtain ⟨a',c',rfl,hs⟩:=aM hown;exact ⟨_,rfl,⟨a',c',rfl,hs.mono (λ k hk=>hF k hk.1)⟩,hg⟩
end
theorem fB {F:Nat→Prop} {x:NV} {nd:Nd} {w0:World} (h:NdAt F w0 x nd) {b:Bool} (hb:bN nd=b) (w:World) :
  Calls Tryz.prog 80 #[x.val] w (Ret λ v w'=>v=.bool b∧Grow w w'):=by
 have:=leaf_c x w
 rwa [show decide (x.n2=0)=b by
  rw [← hb,bR h.kids,Bool.eq_iff_iff,bM]
  simp] at this
def Gap (F:Nat→Prop) (S B:Nat) (k:Nat):Prop:=F k∧(k<S∨B≤k)
theorem nd_gap {F:Nat→Prop} {w w':World} {x:NV} {nd:Nd} {B:Nat} (h:NdAt F w x nd) (hg:Grow w w'):NdAt (Gap F w.heap.size B) w' x nd :=
 (h.go (Carry.mono (λ k hk hl=>⟨hk,.inl hl⟩))).go (Carry.grow hg)
theorem Gap.up {F:Nat→Prop} {S B b:Nat} {w w':World} (u:Upd b w w') (h1:S≤b) (h2:b<B):Carry (Gap F S B) w (Gap F S B) w' :=
 Carry.upd u (λ k hk _=>by have:=hk.2;omega)
theorem Gap.out {F:Nat→Prop} {S B:Nat} {w:World}:Carry (Gap F S B) w F w:=Carry.mono (λ k hk _=>hk.1)
theorem kJ {F:Nat→Prop} {w:World}:ItsAt F w none 0 0 []:=⟨[],⟨sM,Nat.le_refl _,Nat.zero_le _,λ _=>rfl,by simp [Row]⟩,trivial⟩
theorem jK {F:Nat→Prop} {w:World}:KysAt F w none 0 0 []:=⟨[],⟨sM,Nat.le_refl _,Nat.zero_le _,λ _=>rfl,by simp [Row]⟩,trivial⟩
theorem iY {F:Nat→Prop} {w:World}:Sl F w 1 none 0 0 (bC []):=⟨by simp [bC],Nat.le_refl _,Nat.zero_le _,λ _=>rfl,by simp [Row,bC]⟩
theorem retCCT {P:Program} {e:dJ} {w:World} {s t s2 t2 u:Nat} {p p2:Addr} {v v2 x:Value} {R:Ending→World→Prop} (h:find e s=some (.pointer (some p))) (hl:(loadVar t p).run P w=.ok v w) (h':find e s2=some (.pointer (some p2))) (hl':(loadVar t2 p2).run P w=.ok v2 w) (h2:find e u=some x) (hR:R (.returned (.tuple #[v,v2,x])) w):retQ P [.cell s t,.cell s2 t2,.tmp u] R .ret e w :=
 eB (vs:=[v,v2,x]) ⟨v,[v2,x],rfl,⟨p,h,hl⟩,v2,[x],rfl,⟨p2,h',hl'⟩,x,[],rfl,h2,rfl⟩ rfl hR
theorem split_c (F:Nat→Prop) (w:World) (hF:∀ k,w.heap.size≤k→F k) (x:NV) (nd:Nd) (h:NdAt F w x nd) (h9:aR nd≤1000) (hl:bN nd=true→5≤nd.items.length) (hk:bN nd=false→4≤nd.kids.length∧4≤nd.keys.length∧nd.keys.length≤1000) :
  Calls Tryz.prog 162 #[x.val] w (Ret λ v w'=>(∃ (y z:NV) (k:Value),v=.tuple #[y.val,z.val,k]∧NdAt F w' y (bV nd).1∧NdAt F w' z (bV nd).2.1∧BsAt F w' k (bV nd).2.2)∧Grow w w'):=by
 have hn1:=h.its.len;have hn2:=bR h.kids;have hn3:=h.kys.len;have hsz:nd.items.length≤1000∧nd.kids.length≤1000:=by unfold aR at h9;omega
 refine V.calls (args:=[_]) Tryz.func162 rfl Tryz.ntmps162 rfl rfl ?_;repeat (first|refine dF ?_|refine yI λ bk w' hg hbk hsz hsz'=>?_)
 rename_i b1 w1 g1 k1 p1 p1' b2 w2 g2 k2 p2 p2'
 cases hlf:bN nd with
 | true =>
  have hl4:=hl hlf;have hA:(bV nd).1=⟨dT nd.items 4 nd.items.length,[],[]⟩:=by simp [bV,hlf]
  have hB:(bV nd).2.1=⟨dT nd.items 0 4,[],[]⟩:=by simp [bV,hlf]
  have hkey:(bV nd).2.2=((dT nd.items 0 4).getD 0 ([],[])).1:=by simp [bV,hlf]
  rw [hA,hB,hkey];repeat (first|refine dF ?_|(refine aB 80 ?_;refine aA rfl (fB h hlf _) rfl ?_;rintro _ _ ⟨rfl,hgc⟩))
  rename_i w3;have e1:Blk w3 b1 79 x.cs:=(k1.grow (g2.trans hg)).grow hgc;have e2:Blk w3 b2 79 nil3:=(k2.grow hg).grow hgc;have e3:Blk w3 bk 79 nil3:=hbk.grow hgc;have hg3:Grow w w3:=g1.trans (g2.trans (hg.trans hgc));have z3:=hg3.size;have zc:=hgc.size;have q1:w.heap.size≤b1∧b1<b2∧b2<bk∧bk<w3.heap.size:=by have:=g1.size;omega
  obtain ⟨G,hG⟩:∃ G,G=Gap F w.heap.size w3.heap.size:=⟨_,rfl⟩
  have hN:NdAt G w3 x nd:=by rw [hG];exact nd_gap h hg3
  have hGF:∀ wq:World,w3.heap.size≤wq.heap.size→∀ k,wq.heap.size≤k→G k:=λ wq hq k hk=>by rw [hG];exact ⟨hF k oM,.inr oM⟩
  clear hbk hg hgc k1 k2 g1 g2 hsz' p1' p2' p1 p2;apply T.any 10 [is (.pointer (some ⟨b1,0,none⟩)),is (.slice x.a1 x.n1 x.c1),is (.pointer (some ⟨b1,0,none⟩)),is (.slice x.a1 x.n1 x.c1),is (.int .i64 (x.n1:Int)),itsF G (x.n1-(x.n1-4)) (dT nd.items 4 x.n1),is (.pointer (some ⟨b1,0,none⟩)),is (.slice x.a1 x.n1 x.c1),itsF G (x.n1-(4-0)) (dT nd.items 0 4),is (.pointer (some ⟨b2,0,none⟩))]
  ·rfl
  ·repeat' (first|exact aN|refine aK ?_ ?_)
   iterate 5
    ·refine yQ λ wq _ _ hgq=>?_;repeat refine dF ?_
     exact aD rfl yG rfl
   ·refine yQ λ wq _ _ hgq=>?_;refine aB 81 ?_;refine aA rfl (cutI_c (F:=G) (hGF _ (by have:=hgq.size;omega)) x.a1 x.n1 x.c1 4 x.n1 nd.items (hN.its.go (Carry.grow yG)) oM oM oM) rfl ?_;rintro v wr ⟨⟨a',c',rfl,hi⟩,hgr⟩;repeat refine dF ?_
    exact aD rfl yG ⟨a',c',rfl,hi⟩
   iterate 2
    ·refine yQ λ wq _ _ hgq=>?_;repeat refine dF ?_
     exact aD rfl yG rfl
   ·(((refine bX rfl rfl rfl ?_);( intro wq _ _ hgq;(repeat (refine aJ rfl rfl ?_;intro vq hvq;try (obtain rfl:=hvq)));(refine aZ ?_))))
    refine aB 81 ?_;refine aA rfl (cutI_c (F:=G) (hGF _ (by have:=hgq.size;omega)) x.a1 x.n1 x.c1 0 4 nd.items (hN.its.go (Carry.grow yG)) oM oM oM) rfl ?_;rintro v wr ⟨⟨a',c',rfl,hi⟩,hgr⟩;repeat refine dF ?_
    exact aD rfl yG ⟨a',c',rfl,hi⟩
   iterate 1
    ·(((refine bX rfl rfl rfl ?_);( intro wq _ _ hgq;(repeat (refine aJ rfl rfl ?_;intro vq hvq;try (obtain rfl:=hvq)));(refine aZ ?_))))
     repeat refine dF ?_
     exact aD rfl yG rfl
  ·intro w2 lo2 hi2 hg2 _ _;iterate 5 (refine aJ rfl rfl ?_;intro vq hvq;try (obtain rfl:=hvq))
   refine aJ rfl rfl ?_;rintro v5 ⟨a52,c52,rfl,h52⟩;iterate 2 (refine aJ rfl rfl ?_;intro vq hvq;try (obtain rfl:=hvq))
   refine aJ rfl rfl ?_;rintro v8 ⟨a82,c82,rfl,h82⟩;iterate 1 (refine aJ rfl rfl ?_;intro vq hvq;try (obtain rfl:=hvq))
   refine aZ ?_;repeat (first|refine dF ?_|refine yJ λ w' hu hbk hsz=>?_)
   rename_i w4 hu4 hb4 z4;have z2:=hg2.size
   have hN5:NdAt G w' ⟨a52,x.n1-(x.n1-4),c52,none,0,0,none,0,0⟩ ⟨dT nd.items 4 nd.items.length,[],[]⟩:=by
    rw [hG] at h52 ⊢;rw [← hn1];exact ⟨(h52.go (Gap.up hu4 oM oM)).go (Gap.up hu oM oM),iY,jK⟩
   have hN8:NdAt G w' ⟨a82,x.n1-(4-0),c82,none,0,0,none,0,0⟩ ⟨dT nd.items 0 4,[],[]⟩:=by
    rw [hG] at h82 ⊢;exact ⟨(h82.go (Gap.up hu4 oM oM)).go (Gap.up hu oM oM),iY,jK⟩
   have hy2:Blk w' b2 79 [.slice a52 (x.n1-(x.n1-4)) c52,.slice none 0 0,.slice none 0 0]:=hb4.upd hu oM;have hz2:Blk w' bk 79 [.slice a82 (x.n1-(4-0)) c82,.slice none 0 0,.slice none 0 0]:=hbk;have hgr2:Grow w w':=aI hu oM (aI hu4 oM (hg3.trans hg2));obtain ⟨y0,hy0⟩:∃ y,(dT nd.items 0 4)[0]? = some y:=⟨_,List.getElem?_eq_getElem (by rw [kS oM oM];omega)⟩
   obtain ⟨cs8,hs8,hc8⟩:=hN8.its.ex;obtain ⟨kv,vv,f0,f1,hbk0,hbv0⟩:=hc8.at' hy0
   have hkk:BsAt G w' kv ((dT nd.items 0 4).getD 0 ([],[])).1:=by
    rw [List.getD_eq_getElem?_getD,hy0];exact hbk0
   clear hbk hb4 h52 h82
   apply T.det 9 [.agg #[.slice a52 (x.n1-(x.n1-4)) c52,.slice none 0 0,.slice none 0 0],.agg #[.slice a82 (x.n1-(4-0)) c82,.slice none 0 0,.slice none 0 0],.pointer (some ⟨bk,0,none⟩),.slice a82 (x.n1-(4-0)) c82,.pointer (some (at' a82 0)),.pointer (some (at' a82 0)),kv,undef,undef]
    (λ w1=>Blk w1 b2 79 [.slice a52 (x.n1-(x.n1-4)) c52,.slice none 0 0,.slice none 0 0]∧Blk w1 bk 79 [.slice a82 (x.n1-(4-0)) c82,.slice none 0 0,.slice none 0 0]∧Carry G w' G w1∧Grow w w1)
   ·rfl
   ·exact λ w1 h1=>⟨hy2.grow h1,hz2.grow h1,Carry.grow h1,hgr2.trans h1⟩
   ·repeat' (first|exact jA|refine iB ?_ ?_)
    iterate 4
     ·refine mG rfl rfl rfl ?_;rintro wq ⟨i1,i2,i3,i4⟩;repeat refine dF ?_
      exact aG rfl ⟨i1,i2,i3,i4⟩
    ·refine mG rfl rfl rfl ?_;rintro wq ⟨i1,i2,i3,i4⟩;repeat (first|(refine aH ?_;refine aC (j:=0) rfl rfl rfl oM rfl ⟨G,_,hs8.go i3⟩ rfl ?_)|refine yA ?_)
     exact aG rfl ⟨i1,i2,i3,i4⟩
    ·refine mG rfl rfl rfl ?_;rintro wq ⟨i1,i2,i3,i4⟩;repeat (first|(refine bK ?_;refine bJ (o:=0) rfl (hs8.go i3) f0 rfl ?_)|refine yA ?_)
     exact aG rfl ⟨i1,i2,i3,i4⟩
    ·refine mG rfl rfl rfl ?_;rintro wq ⟨i1,i2,i3,i4⟩;have hcx:wq.cell? (at' a82 0)=some kv:=(hs8.go i3).row.cell f0;have hone:=hkk.one;repeat refine dF ?_
     exact aG rfl ⟨i1,i2,i3,i4⟩
    ·refine mG rfl rfl rfl ?_;rintro wq ⟨i1,i2,i3,i4⟩;repeat (first|refine dF ?_|refine yJ λ w' hu hbk hsz=>?_)
     refine gS ⟨hbk,i2.upd hu oM,?_,aI hu oM i4⟩;rw [hG] at i3 ⊢;exact i3.trans (Gap.up hu oM oM)
    ·refine mG rfl rfl rfl ?_;rintro wq ⟨i1,i2,i3,i4⟩;repeat (first|refine dF ?_|refine yJ λ w' hu hbk hsz=>?_)
     refine gS ⟨i1.upd hu oM,hbk,?_,aI hu oM i4⟩;rw [hG] at i3 ⊢;exact i3.trans (Gap.up hu oM oM)
   ·rintro w9 ⟨i1,i2,i3,i4⟩;repeat refine dF ?_
    refine retCCT rfl (aW i1 rfl) rfl (aW i2 rfl) rfl ⟨_,rfl,⟨⟨a52,x.n1-(x.n1-4),c52,none,0,0,none,0,0⟩,⟨a82,x.n1-(4-0),c82,none,0,0,none,0,0⟩,kv,rfl,(hN5.go i3).go ?_,(hN8.go i3).go ?_,(hkk.go i3).go ?_⟩,i4⟩<;>(rw [hG];exact Gap.out)
 | false =>
  obtain ⟨hk4,hy4,hy1⟩:=hk hlf;have hA:(bV nd).1=⟨[],dT nd.kids 4 nd.kids.length,dT nd.keys 3 nd.keys.length⟩:=by simp [bV,hlf]
  have hB:(bV nd).2.1=⟨[],dT nd.kids 0 4,dT nd.keys 0 4⟩:=by simp [bV,hlf]
  have hkey:(bV nd).2.2=nd.keys.getD 3 []:=by simp [bV,hlf]
  rw [hA,hB,hkey];repeat (first|refine dF ?_|(refine aB 80 ?_;refine aA rfl (fB h hlf _) rfl ?_;rintro _ _ ⟨rfl,hgc⟩))
  rename_i w3;have e1:Blk w3 b1 79 x.cs:=(k1.grow (g2.trans hg)).grow hgc;have e2:Blk w3 b2 79 nil3:=(k2.grow hg).grow hgc;have e3:Blk w3 bk 79 nil3:=hbk.grow hgc;have hg3:Grow w w3:=g1.trans (g2.trans (hg.trans hgc));have z3:=hg3.size;have zc:=hgc.size;have q1:w.heap.size≤b1∧b1<b2∧b2<bk∧bk<w3.heap.size:=by have:=g1.size;omega
  obtain ⟨G,hG⟩:∃ G,G=Gap F w.heap.size w3.heap.size:=⟨_,rfl⟩
  have hN:NdAt G w3 x nd:=by rw [hG];exact nd_gap h hg3
  have hGF:∀ wq:World,w3.heap.size≤wq.heap.size→∀ k,wq.heap.size≤k→G k:=λ wq hq k hk=>by rw [hG];exact ⟨hF k oM,.inr oM⟩
  clear hbk hg hgc k1 k2 g1 g2 hsz' p1' p2' p1 p2;apply T.any 10 [is (.pointer (some ⟨b1,1,none⟩)),is (.slice x.a2 x.n2 x.c2),is (.pointer (some ⟨b1,1,none⟩)),is (.slice x.a2 x.n2 x.c2),is (.int .i64 (x.n2:Int)),kidF G (x.n2-(x.n2-4)) (dT nd.kids 4 x.n2),is (.pointer (some ⟨b1,1,none⟩)),is (.slice x.a2 x.n2 x.c2),kidF G (x.n2-(4-0)) (dT nd.kids 0 4),is (.pointer (some ⟨b2,1,none⟩))]
  ·rfl
  ·repeat' (first|exact aN|refine aK ?_ ?_)
   iterate 5
    ·refine yQ λ wq _ _ hgq=>?_;repeat refine dF ?_
     exact aD rfl yG rfl
   ·refine yQ λ wq _ _ hgq=>?_;refine aB 97 ?_;refine aA rfl (cutN_c (F:=G) (hGF _ (by have:=hgq.size;omega)) x.a2 x.n2 x.c2 4 x.n2 nd.kids (hN.kids.grow yG) oM oM oM) rfl ?_;rintro v wr ⟨⟨a',c',rfl,hi⟩,hgr⟩;repeat refine dF ?_
    exact aD rfl yG ⟨a',c',rfl,hi⟩
   iterate 2
    ·refine yQ λ wq _ _ hgq=>?_;repeat refine dF ?_
     exact aD rfl yG rfl
   ·(((refine bX rfl rfl rfl ?_);( intro wq _ _ hgq;(repeat (refine aJ rfl rfl ?_;intro vq hvq;try (obtain rfl:=hvq)));(refine aZ ?_))))
    refine aB 97 ?_;refine aA rfl (cutN_c (F:=G) (hGF _ (by have:=hgq.size;omega)) x.a2 x.n2 x.c2 0 4 nd.kids (hN.kids.grow yG) oM oM oM) rfl ?_;rintro v wr ⟨⟨a',c',rfl,hi⟩,hgr⟩;repeat refine dF ?_
    exact aD rfl yG ⟨a',c',rfl,hi⟩
   iterate 1
    ·(((refine bX rfl rfl rfl ?_);( intro wq _ _ hgq;(repeat (refine aJ rfl rfl ?_;intro vq hvq;try (obtain rfl:=hvq)));(refine aZ ?_))))
     repeat refine dF ?_
     exact aD rfl yG rfl
  ·intro w4 lo4 hi4 hg4 _ _;iterate 5 (refine aJ rfl rfl ?_;intro vq hvq;try (obtain rfl:=hvq))
   refine aJ rfl rfl ?_;rintro v5 ⟨a54,c54,rfl,h54⟩;iterate 2 (refine aJ rfl rfl ?_;intro vq hvq;try (obtain rfl:=hvq))
   refine aJ rfl rfl ?_;rintro v8 ⟨a84,c84,rfl,h84⟩;iterate 1 (refine aJ rfl rfl ?_;intro vq hvq;try (obtain rfl:=hvq))
   refine aZ ?_;repeat (first|refine dF ?_|refine yJ λ w' hu hbk hsz=>?_)
   rename_i w4 hu4 hb4 z4;have z2:=hg4.size
   have u4:Carry G w3 G w':=by
    rw [hG];exact (Carry.grow hg4).trans ((Gap.up hu4 oM oM).trans (Gap.up hu oM oM))
   have u5:Carry G w3 G w3:=Carry.mono λ k hk _=>hk;replace hN:=hN.go u4
   have h54:Sl G w' 1 a54 (x.n2-(x.n2-4)) c54 (bC (dT nd.kids 4 x.n2)):=by
    rw [hG] at h54 ⊢;exact h54.go ((Gap.up hu4 oM oM).trans (Gap.up hu oM oM))
   have h84:Sl G w' 1 a84 (x.n2-(4-0)) c84 (bC (dT nd.kids 0 4)):=by
    rw [hG] at h84 ⊢;exact h84.go ((Gap.up hu4 oM oM).trans (Gap.up hu oM oM))
   have hy2:Blk w' b2 79 [.slice none 0 0,.slice a54 (x.n2-(x.n2-4)) c54,.slice none 0 0]:=hb4.upd hu oM;have hz2:Blk w' bk 79 [.slice none 0 0,.slice a84 (x.n2-(4-0)) c84,.slice none 0 0]:=hbk;have e1':Blk w' b1 79 x.cs:=((e1.grow hg4).upd hu4 oM).upd hu oM;have hgr2:Grow w w':=aI hu oM (aI hu4 oM (hg3.trans hg4));have z6:w3.heap.size≤w'.heap.size:=by omega
   clear hbk hb4 hu4 hu e1 e2 e3 u4 u5 hsz;obtain ⟨w6,rfl⟩:=yE w';clear hg4;apply T.any 10 [is (.pointer (some ⟨b1,2,none⟩)),is (.slice x.a3 x.n3 x.c3),is (.pointer (some ⟨b1,2,none⟩)),is (.slice x.a3 x.n3 x.c3),is (.int .i64 (x.n3:Int)),kysF G (x.n3-(x.n3-3)) (dT nd.keys 3 x.n3),is (.pointer (some ⟨b1,2,none⟩)),is (.slice x.a3 x.n3 x.c3),kysF G (x.n3-(4-0)) (dT nd.keys 0 4),is (.pointer (some ⟨b2,2,none⟩))]
   ·rfl
   ·repeat' (first|exact aN|refine aK ?_ ?_)
    iterate 5
     ·refine yQ λ wq _ _ hgq=>?_;repeat refine dF ?_
      exact aD rfl yG rfl
    ·refine yQ λ wq _ _ hgq=>?_;refine aB 194 ?_;refine aA rfl (cutK_c (F:=G) (hGF _ (by have:=hgq.size;omega)) x.a3 x.n3 x.c3 3 x.n3 nd.keys (hN.kys.go (Carry.grow yG)) oM oM oM) rfl ?_;rintro v wr ⟨⟨a',c',rfl,hi⟩,hgr⟩;repeat refine dF ?_
     exact aD rfl yG ⟨a',c',rfl,hi⟩
    iterate 2
     ·refine yQ λ wq _ _ hgq=>?_;repeat refine dF ?_
      exact aD rfl yG rfl
    ·(((refine bX rfl rfl rfl ?_);( intro wq _ _ hgq;(repeat (refine aJ rfl rfl ?_;intro vq hvq;try (obtain rfl:=hvq)));(refine aZ ?_))))
     refine aB 194 ?_;refine aA rfl (cutK_c (F:=G) (hGF _ (by have:=hgq.size;omega)) x.a3 x.n3 x.c3 0 4 nd.keys (hN.kys.go (Carry.grow yG)) oM oM oM) rfl ?_;rintro v wr ⟨⟨a',c',rfl,hi⟩,hgr⟩;repeat refine dF ?_
     exact aD rfl yG ⟨a',c',rfl,hi⟩
    iterate 1
     ·(((refine bX rfl rfl rfl ?_);( intro wq _ _ hgq;(repeat (refine aJ rfl rfl ?_;intro vq hvq;try (obtain rfl:=hvq)));(refine aZ ?_))))
      repeat refine dF ?_
      exact aD rfl yG rfl
   ·intro w5 lo5 hi5 hg5 _ _;iterate 5 (refine aJ rfl rfl ?_;intro vq hvq;try (obtain rfl:=hvq))
    refine aJ rfl rfl ?_;rintro v5 ⟨a55,c55,rfl,h55⟩;iterate 2 (refine aJ rfl rfl ?_;intro vq hvq;try (obtain rfl:=hvq))
    refine aJ rfl rfl ?_;rintro v8 ⟨a85,c85,rfl,h85⟩;iterate 1 (refine aJ rfl rfl ?_;intro vq hvq;try (obtain rfl:=hvq))
    refine aZ ?_;repeat (first|refine dF ?_|refine yJ λ w' hu hbk hsz=>?_)
    rename_i w4' hu4 hb4 z4';have z5:=hg5.size
    have u4:Carry G w6 G w':=by
     rw [hG];exact (Carry.grow hg5).trans ((Gap.up hu4 oM oM).trans (Gap.up hu oM oM))
    have h55:KysAt G w' a55 (x.n3-(x.n3-3)) c55 (dT nd.keys 3 x.n3):=by
     rw [hG] at h55 ⊢;exact h55.go ((Gap.up hu4 oM oM).trans (Gap.up hu oM oM))
    have h85:KysAt G w' a85 (x.n3-(4-0)) c85 (dT nd.keys 0 4):=by
     rw [hG] at h85 ⊢;exact h85.go ((Gap.up hu4 oM oM).trans (Gap.up hu oM oM))
    have hy3:Blk w' b2 79 [.slice none 0 0,.slice a54 (x.n2-(x.n2-4)) c54,.slice a55 (x.n3-(x.n3-3)) c55]:=hb4.upd hu oM;have hz3:Blk w' bk 79 [.slice none 0 0,.slice a84 (x.n2-(4-0)) c84,.slice a85 (x.n3-(4-0)) c85]:=hbk
    have hN5:NdAt G w' ⟨none,0,0,a54,x.n2-(x.n2-4),c54,a55,x.n3-(x.n3-3),c55⟩ ⟨[],dT nd.kids 4 nd.kids.length,dT nd.keys 3 nd.keys.length⟩:=by
     rw [← hn2,← hn3];exact ⟨kJ,h54.go u4,h55⟩
    have hN8:NdAt G w' ⟨none,0,0,a84,x.n2-(4-0),c84,a85,x.n3-(4-0),c85⟩ ⟨[],dT nd.kids 0 4,dT nd.keys 0 4⟩:=⟨kJ,h84.go u4,h85⟩
    have e1'':Blk w' b1 79 x.cs:=((e1'.grow hg5).upd hu4 oM).upd hu oM;have hgr5:Grow w w':=aI hu oM (aI hu4 oM (hgr2.trans hg5));obtain ⟨y0,hy0⟩:∃ y,nd.keys[3]? = some y:=⟨_,List.getElem?_eq_getElem oM⟩
    obtain ⟨cs8,hs8,hc8⟩:=(hN.kys.go u4).ex;obtain ⟨kv,f0,hbk0⟩:=hc8.at' hy0
    have hkk:BsAt G w' kv (nd.keys.getD 3 []):=by
     rw [List.getD_eq_getElem?_getD,hy0];exact hbk0
    clear hbk hb4 e1' hy2 hz2
    apply T.det 8 [.agg #[.slice none 0 0,.slice a54 (x.n2-(x.n2-4)) c54,.slice a55 (x.n3-(x.n3-3)) c55],.agg #[.slice none 0 0,.slice a84 (x.n2-(4-0)) c84,.slice a85 (x.n3-(4-0)) c85],.pointer (some ⟨b1,2,none⟩),.slice x.a3 x.n3 x.c3,.pointer (some (at' x.a3 3)),kv,undef,undef]
     (λ w1=>Blk w1 b2 79 [.slice none 0 0,.slice a54 (x.n2-(x.n2-4)) c54,.slice a55 (x.n3-(x.n3-3)) c55]∧Blk w1 bk 79 [.slice none 0 0,.slice a84 (x.n2-(4-0)) c84,.slice a85 (x.n3-(4-0)) c85]∧Blk w1 b1 79 x.cs∧Carry G w' G w1∧Grow w w1)
    ·rfl
    ·exact λ w1 h1=>⟨hy3.grow h1,hz3.grow h1,e1''.grow h1,Carry.grow h1,hgr5.trans h1⟩
    ·repeat' (first|exact jA|refine iB ?_ ?_)
     iterate 4
      ·refine mG rfl rfl rfl ?_;rintro wq ⟨i1,i2,i0,i3,i4⟩;repeat refine dF ?_
       exact aG rfl ⟨i1,i2,i0,i3,i4⟩
     ·refine mG rfl rfl rfl ?_;rintro wq ⟨i1,i2,i0,i3,i4⟩;repeat (first|(refine aH ?_;refine aC (j:=3) rfl rfl rfl oM rfl ⟨G,_,hs8.go i3⟩ rfl ?_)|refine yA ?_)
      exact aG rfl ⟨i1,i2,i0,i3,i4⟩
     ·refine mG rfl rfl rfl ?_;rintro wq ⟨i1,i2,i0,i3,i4⟩;have hcx:wq.cell? (at' x.a3 3)=some kv:=(hs8.go i3).row.cell f0;have hone:=hkk.one;repeat refine dF ?_
      exact aG rfl ⟨i1,i2,i0,i3,i4⟩
     ·refine mG rfl rfl rfl ?_;rintro wq ⟨i1,i2,i0,i3,i4⟩;repeat (first|refine dF ?_|refine yJ λ w' hu hbk hsz=>?_)
      refine gS ⟨hbk,i2.upd hu oM,i0.upd hu oM,?_,aI hu oM i4⟩;rw [hG] at i3 ⊢;exact i3.trans (Gap.up hu oM oM)
     ·refine mG rfl rfl rfl ?_;rintro wq ⟨i1,i2,i0,i3,i4⟩;repeat (first|refine dF ?_|refine yJ λ w' hu hbk hsz=>?_)
      refine gS ⟨i1.upd hu oM,hbk,i0.upd hu oM,?_,aI hu oM i4⟩;rw [hG] at i3 ⊢;exact i3.trans (Gap.up hu oM oM)
    ·rintro w9 ⟨i1,i2,i0,i3,i4⟩;repeat refine dF ?_
     refine retCCT rfl (aW i1 rfl) rfl (aW i2 rfl) rfl ⟨_,rfl,⟨⟨none,0,0,a54,x.n2-(x.n2-4),c54,a55,x.n3-(x.n3-3),c55⟩,⟨none,0,0,a84,x.n2-(4-0),c84,a85,x.n3-(4-0),c85⟩,kv,rfl,(hN5.go i3).go ?_,(hN8.go i3).go ?_,(hkk.go i3).go ?_⟩,i4⟩<;>(rw [hG];exact Gap.out)
end Go.Proofs.YtfpadnmdafiddaaGreatDoor
namespace Go.V
open Go Go.RowKit
theorem Carry.own {F:Nat→Prop} {w w':World} {v:Value} {B:Nat} (hgb:w.grownBy w' v.ownBlock) (hB:∀ k,v.ownBlock=some k→B≤k) (hF:∀ k,F k→k<B):Carry F w F w' :=
 ⟨hgb.size,λ k hk hl=>⟨hk,hgb.block k hl (λ e=>by have:=hB k e.symm;have:=hF k hk;omega)⟩⟩
end Go.V
namespace Go.Proofs.YtfpadnmdafiddaaGreatDoor
open Go Go.RowKit Go.V
theorem ButS.own {S:Nat→Prop} {w0 w w':World} {v:Value} {B:Nat} (h:ButS S w0 w) (hgb:w.grownBy w' v.ownBlock) (hB:∀ k,v.ownBlock=some k→B≤k) (h0:w0.heap.size≤B):ButS S w0 w' :=
 ⟨hgb.os.trans h.os,hgb.tape.trans h.tape,hgb.output.trans h.output,Nat.le_trans h.size hgb.size,λ k hk hs=>(hgb.block k (Nat.lt_of_lt_of_le hk h.size) (λ e=>by have:=hB k e.symm;omega)).trans (h.block k hk hs)⟩
theorem dS {w w':World} {b:Nat} {t:TypeId} {cs:List Value} (h:Blk w b t cs) (e:w'.heap[b]? = w.heap[b]?):Blk w' b t cs:=by unfold Blk at *;rw [e];exact h
theorem PgAt.keep {w w':World} {L:PL} {g:Pg} (h:PgAt w L g) (hk:∀ b,b=L.p∨b=L.d∨b=L.u∨b=L.m→w'.heap[b]? = w.heap[b]?):PgAt w' L g:=by
 obtain ⟨f,h1,h2⟩:=h.f;exact ⟨dS h.blk (hk _ (.inl rfl)),dS h.used (hk _ (.inr (.inr (.inl rfl)))),h.ok,h.cnt,⟨f,h1.keep (hk _ (.inr (.inl rfl))) (hk _ (.inr (.inr (.inr rfl)))),h2⟩,h.lt,h.bl,h.ne⟩
theorem gK {s:Pg} {nd:Nd} {r:Nat×Pg} (h:gV s nd=some r):bF nd=true∧newP s (dC nd)=some r:=by
 unfold gV at h;split at h
 ·exact ⟨by assumption,h⟩
 ·cases h
theorem kK {s s2:Pg} {x:Nd} {r:List Nd} {ks:List Nat} (h:fE s (x::r)=some (ks,s2)):∃ p s1 l,gV s x=some (p,s1)∧fE s1 r=some (l,s2)∧ks=p::l:=by
 unfold fE at h;split at h
 ·cases h
 ·rename_i p s1 e1;split at h
  ·cases h
  ·rename_i l s2' e2;simp only [Option.some.injEq,Prod.mk.injEq] at h;obtain ⟨rfl,rfl⟩:=h;exact ⟨p,s1,l,e1,e2,rfl⟩
theorem storeP_parts {s s':Pg} {n up:Nd} (h:storeP s n=some (up,s')):∃ nds ks,fE s nds=some (up.kids,s')∧up=⟨[],up.kids,ks⟩∧((aR n≤8∧nds=[n]∧ks=[])∨(8<aR n∧nds=[(bV n).1,(bV n).2.1]∧ks=[(bV n).2.2])):=by
 unfold storeP at h;split at h
 ·rename_i h8;split at h
  ·cases h
  ·rename_i p s1 e1;split at h
   ·cases h
   ·rename_i q s2 e2;simp only [Option.some.injEq,Prod.mk.injEq] at h;obtain ⟨rfl,rfl⟩:=h;exact ⟨_,_,by simp [fE,e1,e2],rfl,.inr ⟨h8,rfl,rfl⟩⟩
 ·rename_i h8;split at h
  ·cases h
  ·rename_i p s1 e1;simp only [Option.some.injEq,Prod.mk.injEq] at h;obtain ⟨rfl,rfl⟩:=h;exact ⟨_,_,by simp [fE,e1],rfl,.inl ⟨oM,rfl,rfl⟩⟩
def NdsAt (F:Nat→Prop) (w:World):List Value→List Nd→Prop
 | [],[]=>True
 | v1::v2::v3::cs,nd::l=>(∃ x:NV,v1=x.v1∧v2=x.v2∧v3=x.v3∧NdAt F w x nd)∧NdsAt F w cs l
 | _,_=>False
theorem NdsAt.at' {F:Nat→Prop} {w:World}:∀ {l:List Nd} {cs:List Value} {i:Nat} {nd:Nd},NdsAt F w cs l→l[i]? = some nd→∃ x:NV,(∀ j u,[x.v1,x.v2,x.v3][j]? = some u→cs[i*3+j]? = some u)∧NdAt F w x nd
 | [],_,i,nd,_,hx=>by simp at hx
 | _::_,[],_,_,h,_=>h.elim
 | _::_,[_],_,_,h,_=>h.elim
 | _::_,[_,_],_,_,h,_=>h.elim
 | y::l,v1::v2::v3::cs,0,nd,⟨⟨x,h1,h2,h3,h4⟩,_⟩,hx=>by
  simp only [List.getElem?_cons_zero,Option.some.injEq] at hx;subst hx;refine ⟨x,λ j u hj=>?_,h4⟩;subst h1 h2 h3
  match j,hj with
  | 0,hj=>simpa using hj
  | 1,hj=>simpa using hj
  | 2,hj=>simpa using hj
 | y::l,v1::v2::v3::cs,i+1,nd,⟨_,h⟩,hx=>by
  obtain ⟨x,h1,h2⟩:=NdsAt.at' h (by simpa using hx);refine ⟨x,λ j u hj=>?_,h2⟩;rw [show (i+1)*3+j=(i*3+j)+1+1+1 by omega];simpa using h1 j u hj
theorem store_c {w:World} {L:PL} {g g':Pg} (h:PgAt w L g) (ht:TabAt w) (h0:¬ L.S 0) (F:Nat→Prop) (hFS:∀ k,F k→¬ L.S k) (hFw:∀ k,w.heap.size≤k→F k) (x:NV) (nd up:Nd) (hnd:NdAt F w x nd) (hb:NdB nd) (h9:aR nd≤1000) (hsh:bN nd=false→nd.items=[]∧nd.keys.length+1=nd.kids.length) (hst:storeP g nd=some (up,g')) :
  Calls Tryz.prog 100 #[.pointer (some ⟨L.p,0,none⟩),x.val] w (Ret λ v w'=>(∃ y:NV,v=.tuple #[y.val,.int .i64 0]∧NdAt F w' y up)∧PgAt w' L g'∧ButS L.S w w'):=by
 obtain ⟨nds,ks,hw,hup,hor⟩:=storeP_parts hst;have hn1:=hnd.its.len;have hn2:=bR hnd.kids;have hsz:nd.items.length≤1000∧nd.kids.length≤1000:=by unfold aR at h9;omega
 have hSl:∀ k,w.heap.size≤k→¬ L.S k:=λ k hk=>by have:=h.lts;unfold PL.S;omega
 have hbs:∀ nd∈nds,NdB nd:=by
  obtain ⟨s1,s2,s3⟩:=splitN_by hb;rcases hor with ⟨_,rfl,_⟩|⟨_,rfl,_⟩
  ·intro n hn;simp only [List.mem_singleton] at hn;subst hn;exact hb
  ·intro n hn;simp only [List.mem_cons,List.not_mem_nil,or_false] at hn;rcases hn with rfl|rfl
   ·exact s1
   ·exact s2
 refine V.calls (args:=[_,_]) Tryz.func100 rfl Tryz.ntmps100 rfl rfl ?_
 refine dV 4 (λ e wC=>∃ (a:Option Addr) (c b4 b6:Nat) (cells:List Value) (a3:Option Addr) (n3 c3:Nat) (G:Nat→Prop),Sub [(7,.slice a nds.length c),(6,.pointer (some ⟨b6,0,none⟩)),(4,.pointer (some ⟨b4,0,none⟩)),(0,.pointer (some ⟨L.p,0,none⟩))] e ∧
  (∀ k,G k→F k∧k≠b6∧k≠b4)∧Sl G wC 3 a nds.length c cells∧NdsAt G wC cells nds∧Blk wC b6 79 [.slice none 0 0,.slice none 0 0,.slice a3 n3 c3]∧KysAt G wC a3 n3 c3 ks∧Blk wC b4 79 nil3∧Grow w wC∧w.heap.size≤b6∧w.heap.size≤b4∧b4≠b6) ?_ ?_
 rotate_left
 ·repeat (first|refine aF ?_|refine yI λ bk w' hg hbk hsz hsz'=>?_)
  rename_i b3 w1 g1 k1 p1 p1' b4 w2 g2 k2 p2 p2';obtain ⟨b6,rfl⟩:=yE bk;have zg:=g1.size;refine TL.buildSlice rfl rfl rfl rfl rfl ?_;intro b' wa hga hba hsa hsb hsc;have k4:Blk wa b4 79 nil3:=(k2.grow hg).grow hga;have k6:Blk wa b6 79 nil3:=hbk.grow hga;have k3:Blk wa b3 79 x.cs:=((k1.grow g2).grow hg).grow hga;have hgw:Grow w wa:=g1.trans (g2.trans (hg.trans hga));have q:w.heap.size≤b4∧w.heap.size≤b6∧b4≠b6∧b'≠b4∧b'≠b6∧w.heap.size≤b'∧b4<wa.heap.size∧b6<wa.heap.size:=by omega
  have hx:NdAt (λ k=>F k∧k≠b6∧k≠b4) wa x nd:=(hnd.go (Carry.mono (λ k hk hl=>⟨hk,oM,oM⟩))).go (Carry.grow hgw);have hba':Blk wa b' 79 x.cs:=hba;clear hbk hg hga k1 k2 g1 g2 hba hsz hsz' p1 p1' p2 p2' hsa hsb zg;rcases hor with ⟨h8,rfl,rfl⟩|⟨h8,rfl,rfl⟩
  ·have h8':¬ 8<x.n1+x.n2:=by unfold aR at h8;omega
   repeat (first|refine aF ?_|(refine aB 83 ?_;refine aA rfl (size_nd x _ oM oM) rfl ?_;rintro _ _ ⟨rfl,hgc⟩))
   refine ⟨some ⟨b',0,none⟩,1,b4,b6,x.cs,none,0,0,(λ k=>F k∧k≠b6∧k≠b4),⟨rfl,rfl,rfl,rfl,trivial⟩,λ k hk=>hk,?_,⟨⟨x,rfl,rfl,rfl,hx.go (Carry.grow hgc)⟩,trivial⟩,k6.grow hgc,jK,k4.grow hgc,hgw.trans hgc,q.2.1,q.1,q.2.2.1⟩;exact (aV (sz:=3) (m:=1) (hba'.grow hgc) rfl dM).mono (λ k hk=>by subst hk;exact ⟨hFw _ q.2.2.2.2.2.1,q.2.2.2.2.1,q.2.2.2.1⟩)
  ·have h8':8<x.n1+x.n2:=by unfold aR at h8;omega
   repeat (first|refine aF ?_|(refine aB 83 ?_;refine aA rfl (size_nd x _ oM oM) rfl ?_;rintro _ _ ⟨rfl,hgc⟩))
   rename_i w4;have z4:=hgc.size;refine aB 162 ?_;refine aA rfl (split_c (λ k=>F k∧k≠b6∧k≠b4) w4 (λ k hk=>⟨hFw k (by have:=hgw.size;omega),oM,oM⟩) x nd (hx.go (Carry.grow hgc)) h9 ?_ ?_) rfl ?_
   ·intro hl;rw [bM] at hl;unfold aR at h8;rw [hl] at h8;simp at h8;omega
   ·intro hl;obtain ⟨i1,i2⟩:=hsh hl;unfold aR at h8;rw [i1] at h8;simp at h8;omega
   rintro _ w5 ⟨⟨y,z,kv,rfl,hy,hz,hkv⟩,hg5⟩;obtain ⟨ka,kc,rfl,hks⟩:=hkv.sl;have z5:=hg5.size;have hgw5:=(hgw.trans hgc).trans hg5;have zw5:=hgw5.size;have kk:Carry (λ k=>F k∧k≠b6∧k≠b4) w5 (λ k=>(F k∧k≠b6∧k≠b4)∧k<w5.heap.size) w5:=Carry.mono (λ k hk hl=>⟨hk,hl⟩);replace hy:=hy.go kk;replace hz:=hz.go kk;have hks:=hks.go kk;have j4:=(k4.grow hgc).grow hg5;have j6:=(k6.grow hgc).grow hg5;clear hgc hg5 k4 k6 k3 hba' hx kk hkv;obtain ⟨w5',rfl⟩:=yE w5;repeat (first|refine aF ?_|refine yI λ bk w' hg hbk hsz hsz'=>?_|refine yJ λ w' hu hbk hsz=>?_)
   rename_i b8 w8 g8 k8 p8 p8' w9 k9 p9 w10 u8 b10 z10;refine TL.buildSlice rfl rfl rfl rfl rfl ?_;intro bp wb hgp hbp hsp hsq hsr;have e8:b8=w5'.heap.size∧bk=w5'.heap.size+1:=by omega
   have uu:Carry (λ k=>(F k∧k≠b6∧k≠b4)∧k<w5'.heap.size) w5' (λ k=>(F k∧k≠b6∧k≠b4)∧k<w5'.heap.size) wb :=
    (Carry.grow (g8.trans hg)).trans ((Carry.upd u8 (λ k hk _=>by omega)).trans ((Carry.upd hu (λ k hk _=>by omega)).trans (Carry.grow hgp)))
   replace hy:=hy.go uu;replace hz:=hz.go uu;replace hks:=hks.go uu;have hgwb:Grow w wb:=(aI hu oM (aI u8 oM (hgw5.trans (g8.trans hg)))).trans hgp;have j4':Blk wb b4 79 nil3:=((((j4.grow (g8.trans hg)).upd u8 oM).upd hu oM).grow hgp)
   have j6':Blk wb b6 79 nil3:=((((j6.grow (g8.trans hg)).upd u8 oM).upd hu oM).grow hgp)
   have hbp':Blk wb bp 79 (y.cs++z.cs):=hbp;have hpn:bp≠b4∧bp≠b6∧w.heap.size≤bp:=by have:=hu.size;have:=u8.size;omega
   clear hbp hsp hsq hsr hbk hu z10 b10 u8 p9 p8 p8' k9 k8 g8 hg hgp uu j4 j6;repeat refine aF ?_
   refine TL.buildSlice rfl rfl rfl rfl rfl ?_;intro bq wq hgq hbq hsp hsq hsr;have hbq':Blk wq bq 30 [.slice ka (bV nd).2.2.length kc]:=hbq;have hgwq:=hgwb.trans hgq;have l4:=j4'.lt;have l6:=j6'.lt;have lq:=hbp'.lt;have j4:=j4'.grow hgq;have j6:=j6'.grow hgq;have jp:=hbp'.grow hgq;repeat (first|refine aF ?_|refine yJ λ w' hu hbk hsz=>?_)
   have hcar:Carry (λ k=>(F k∧k≠b6∧k≠b4)∧k<w5'.heap.size) wb (λ k=>F k∧k≠b6∧k≠b4) w' :=
    (Carry.grow hgq).trans ((Carry.upd hu (λ k hk _=>hk.1.2.1)).trans (Carry.mono λ k hk _=>hk.1))
   have hqs:w.heap.size≤bq∧bq≠b4∧bq≠b6:=by have:=hgwb.size;omega
   refine ⟨some ⟨bp,0,none⟩,2,b4,b6,y.cs++z.cs,some ⟨bq,0,none⟩,1,1,(λ k=>F k∧k≠b6∧k≠b4),⟨rfl,rfl,rfl,rfl,trivial⟩,λ k hk=>hk,?_,⟨⟨y,rfl,rfl,rfl,hy.go hcar⟩,⟨z,rfl,rfl,rfl,hz.go hcar⟩,trivial⟩,hbk,⟨[.slice ka (bV nd).2.2.length kc],?_,⟨_,_,_,rfl,hks.go hcar⟩,trivial⟩,j4.upd hu oM,aI hu q.2.1 hgwq,q.2.1,q.1,q.2.2.1⟩
   ·exact (aV (sz:=3) (m:=2) (jp.upd hu hpn.2.1) rfl dM).mono (λ k hk=>by subst hk;exact ⟨hFw _ hpn.2.2,hpn.2.1,hpn.1⟩)
   ·exact (aV (sz:=1) (m:=1) (hbq'.upd hu hqs.2.2) rfl dM).mono (λ k hk=>by subst hk;exact ⟨hFw _ hqs.1,hqs.2.2,hqs.2.1⟩)
 rintro e wC ⟨a,c,b4,b6,cells,a3,n3,c3,G,hsub,hG,hs,hns,hb6,hk3,hb4,hgC,q6,q4,q46⟩;refine bD (e':=[(7,_),(6,_),(4,_),(0,_)]) ?_ hsub;clear hsub;have zC:=hgC.size;have hm2:nds.length≤2:=by rcases hor with ⟨_,rfl,_⟩|⟨_,rfl,_⟩<;>simp
 obtain ⟨m,hm⟩:∃ m,m=nds.length:=⟨_,rfl⟩
 rw [← hm] at hs hm2 ⊢;have l4:=hb4.lt;have l6:=hb6.lt;repeat refine aF ?_
 refine aX (S:=Nat×Pg×List Nat×List Nat×Value) (λ s=>[(34,.int .i64 (s.1:Int)),(33,.int .i64 (m:Int)),(32,.slice a m c),(6,.pointer (some ⟨b6,0,none⟩)),(4,.pointer (some ⟨b4,0,none⟩)),(0,.pointer (some ⟨L.p,0,none⟩))])
  (λ s w1=>s.1≤m∧fE s.2.1 (nds.drop s.1)=some (s.2.2.2.1,g')∧s.2.2.1++s.2.2.2.1=up.kids∧PgAt w1 L s.2.1∧TabAt w1∧w1.ownsRow wC.heap.size 3 1 s.2.2.2.2 s.1 (bC s.2.2.1)∧Blk w1 b6 79 [.slice none 0 0,s.2.2.2.2,.slice a3 n3 c3] ∧
   Blk w1 b4 79 nil3∧Carry G wC (λ k=>G k∧k<wC.heap.size) w1∧ButS L.S w w1) (λ s=>m-s.1) (0,g,[],up.kids,.slice none 0 0) ⟨rfl,rfl,rfl,rfl,rfl,rfl,trivial⟩
  ⟨by simp only;omega,hw,rfl,h.grow hgC,ht.grow hgC,World.ownsRow_nil _ _ _ _,hb6,hb4,Carry.mono (λ k hk hl=>⟨hk,hl⟩),ButS.grow hgC⟩ ?_
 rintro ⟨i,gi,ki,ri,u⟩ w1 ⟨hi,hwi,hkr,hp1,ht1,hown,hb61,hb41,hc1,hbs1⟩;simp only at hi hwi hkr hp1 hown hb61;have z1:=hc1.size;obtain ⟨ua,uc,rfl,hus⟩:=aM hown;by_cases hlt:i<m;rotate_left
 ·obtain rfl:i=m:=by omega
  rw [List.drop_eq_nil_of_le oM] at hwi;simp only [fE,Option.some.injEq,Prod.mk.injEq] at hwi;obtain ⟨rfl,rfl⟩:=hwi;rw [List.append_nil] at hkr;subst hkr;repeat (first|refine aF ?_|refine yJ λ w' hu hbk hsz=>?_)
  refine fN rfl (aW hbk rfl) rfl ⟨_,rfl,⟨⟨none,0,0,ua,i,uc,a3,n3,c3⟩,rfl,?_⟩,hp1.upd hu ?_,hbs1.upd hu q4⟩
  ·rw [hup];have hk:=hk3.go hc1;refine ⟨kJ,?_,?_⟩
   ·refine (hus.mono ?_).go (Carry.upd (F:=λ k=>F k∧wC.heap.size≤k) hu (λ k hk _=>by omega)) |>.mono (λ k hk=>hk.1);exact λ k hk=>⟨hFw k oM,hk.1⟩
   ·exact (hk.go (Carry.upd hu (λ k hk _=>(hG k hk.1).2.2))).go (Carry.mono λ k hk _=>(hG k hk.1).1)
  ·have:=h.lts;omega
 ·obtain ⟨nd0,hnd0⟩:∃ y,nds[i]? = some y:=⟨_,List.getElem?_eq_getElem oM⟩
  rw [List.drop_eq_getElem_cons oM,show nds[i]'(by omega)=nd0 from (List.getElem?_eq_some_iff.1 hnd0).2] at hwi;obtain ⟨pg,s1,l1,hwp,hwr,rfl⟩:=kK hwi;obtain ⟨hok,hnw⟩:=gK hwp;obtain ⟨x0,hx3,hx0⟩:=hns.at' hnd0;have hs1:=hs.go hc1;have hx1:=NdAt.go hx0 hc1;repeat (first|refine aC rfl rfl rfl hlt rfl ⟨_,_,hs1⟩ rfl ?_|refine dR rfl hs1 hx3 rfl rfl ?_|refine yC ?_|refine yI λ bk w' hg hbk hsz hsz'=>?_|refine yJ λ w' hu hbk hsz=>?_)
  have hgg:Grow w1 w':=aI hu oM hg;have n6:=hSl b6 q6;have n4:=hSl b4 q4;refine aB 84 ?_;refine aA rfl (write_c (hp1.grow hgg) (ht1.grow hgg) _ x0 nd0 (hx1.go (Carry.grow hgg)) hok (λ b hb=>lV hok (hbs nd0 (List.mem_of_getElem? hnd0)) b hb) pg hnw) rfl ?_;rintro _ w3 ⟨rfl,hp3,hb3⟩;have z3:=hb3.size;have zg:=hgg.size;have hb63:=bY (hb61.grow hgg) hb3 n6;have hb43:=bY (hb41.grow hgg) hb3 n4;have hown3:w3.ownsRow wC.heap.size 3 1 _ i (bC ki):=cL (aS hown hgg) (λ k hk hv=>hb3.block k (Nat.lt_of_lt_of_le (aT hown hv).2 zg) (hSl k oM));have hc3:∀ k,G k→k<wC.heap.size→w3.heap[k]? = wC.heap[k]?:=λ k hk hl=>(hb3.block k oM (hFS k (hG k hk).1)).trans ((hgg.block k oM).trans (hc1.blk k hk hl).2);have hbs3:=(hbs1.trans (ButS.grow hgg)).trans hb3;have ht3:TabAt w3:=(ht1.grow hgg).buts hb3 h0;clear hbk hu hg hsz hsz';repeat refine aF ?_
  refine TL.buildSlice rfl rfl rfl rfl rfl ?_;intro b' wa hga hba hsa hsb hsc;have hsl:Sl (λ _=>True) wa 1 (some ⟨b',0,none⟩) 1 1 (bC [pg]):=(aV (sz:=1) (m:=1) hba hsc dM).mono (λ _ _=>trivial);have hga':=hga.size;refine TL.append rfl rfl (aS hown3 hga) hsl (gD [pg]) (by unfold maxLen;omega) oM oM rfl ?_;intro v' wb hownb hgb _;have zb:=hgb.size;have kpb:∀ k,k<wC.heap.size→wb.heap[k]? = w3.heap[k]?:=λ k hk=>(hgb.block k oM (λ e=>by have:=(aT hown e.symm).1;omega)).trans (hga.block k oM);have hb6b:=dS hb63 (kpb b6 l6);obtain ⟨va,vc,rfl,hvs⟩:=aM hownb;repeat (first|refine aF ?_|refine yJ λ w' hu hbk hsz=>?_)
  have kp:∀ k,k<wC.heap.size→k≠b6→w'.heap[k]? = w3.heap[k]?:=λ k hk hk6=>(hu.block k hk6).trans (kpb k hk);have hlts:=h.lts;have ht00:=ht.1;refine aE (i+1,s1,ki++[pg],l1,.slice va (i+1) vc) ⟨rfl,rfl,rfl,rfl,rfl,rfl,trivial⟩ ⟨by simp only;omega,hwr,by simpa using hkr,hp3.keep (λ b hb=>kp b oM oM),ht3.keep (kp 0 oM oM) oM,?_,hbk,dS hb43 (kp b4 l4 q46),⟨oM,λ k hk hl=>⟨⟨hk,hl⟩,(kp k hl (hG k hk).2.1).trans (hc3 k hk hl)⟩⟩,?_⟩ (by simp only;omega)
  ·have:=gA hownb hu l6;simpa [bC] using this
  ·exact ((hbs3.trans (ButS.grow hga)).own hgb (λ k hk=>(aT hown hk).1) oM).upd hu q6
def FrCells (F:Nat→Prop) (w:World):List Value→List (Nd×Nat)→Prop
 | [],[]=>True
 | v1::v2::v3::v4::cs,f::l=>(∃ x:NV,v1=x.v1∧v2=x.v2∧v3=x.v3∧v4=.int .i64 (f.2:Int)∧NdAt F w x f.1)∧FrCells F w cs l
 | _,_=>False
theorem FrCells.go {F F':Nat→Prop} {w w':World} (g:Carry F w F' w'):∀ {cs:List Value} {l:List (Nd×Nat)},FrCells F w cs l→FrCells F' w' cs l
 | [],[],_=>trivial
 | [],_::_,h=>h.elim
 | [_],[],h=>h.elim
 | [_,_],[],h=>h.elim
 | [_,_,_],[],h=>h.elim
 | _::_::_::_::_,[],h=>h.elim
 | [_],_::_,h=>h.elim
 | [_,_],_::_,h=>h.elim
 | [_,_,_],_::_,h=>h.elim
 | _::_::_::_::_,_::_,⟨⟨x,h1,h2,h3,h4,h5⟩,h6⟩=>⟨⟨x,h1,h2,h3,h4,h5.go g⟩,FrCells.go g h6⟩
theorem FrCells.snoc {F:Nat→Prop} {w:World} {x:NV} {f:Nd×Nat} (hx:NdAt F w x f.1):∀ {cs:List Value} {l:List (Nd×Nat)},FrCells F w cs l→FrCells F w (cs++[x.v1,x.v2,x.v3,.int .i64 (f.2:Int)]) (l++[f])
 | [],[],_=>⟨⟨x,rfl,rfl,rfl,rfl,hx⟩,trivial⟩
 | [],_::_,h=>h.elim
 | [_],[],h=>h.elim
 | [_,_],[],h=>h.elim
 | [_,_,_],[],h=>h.elim
 | _::_::_::_::_,[],h=>h.elim
 | [_],_::_,h=>h.elim
 | [_,_],_::_,h=>h.elim
 | [_,_,_],_::_,h=>h.elim
 | _::_::_::_::_,_::_,⟨h5,h6⟩=>⟨h5,FrCells.snoc hx h6⟩
theorem FrCells.len {F:Nat→Prop} {w:World}:∀ {cs:List Value} {l:List (Nd×Nat)},FrCells F w cs l→cs.length=l.length*4
 | [],[],_=>rfl
 | [],_::_,h=>h.elim
 | [_],[],h=>h.elim
 | [_,_],[],h=>h.elim
 | [_,_,_],[],h=>h.elim
 | _::_::_::_::_,[],h=>h.elim
 | [_],_::_,h=>h.elim
 | [_,_],_::_,h=>h.elim
 | [_,_,_],_::_,h=>h.elim
 | _::_::_::_::_,_::_,⟨h5,h6⟩=>by have:=FrCells.len h6;simp only [List.length_cons];omega
theorem FrCells.at' {F:Nat→Prop} {w:World}:∀ {l:List (Nd×Nat)} {cs:List Value} {i:Nat} {f:Nd×Nat},FrCells F w cs l→l[i]? = some f→∃ x:NV,(cs.drop (i*4)).take 4=[x.v1,x.v2,x.v3,.int .i64 (f.2:Int)]∧NdAt F w x f.1
 | [],_,i,nd,_,hx=>by simp at hx
 | _::_,[],_,_,h,_=>h.elim
 | _::_,[_],_,_,h,_=>h.elim
 | _::_,[_,_],_,_,h,_=>h.elim
 | _::_,[_,_,_],_,_,h,_=>h.elim
 | y::l,v1::v2::v3::v4::cs,0,f,⟨⟨x,h1,h2,h3,h4,h5⟩,_⟩,hx=>by
  simp only [List.getElem?_cons_zero,Option.some.injEq] at hx;subst hx;subst h1 h2 h3 h4;exact ⟨x,rfl,h5⟩
 | y::l,v1::v2::v3::v4::cs,i+1,f,⟨_,h⟩,hx=>by
  obtain ⟨x,h1,h2⟩:=FrCells.at' h (by simpa using hx);refine ⟨x,?_,h2⟩;rw [show (i+1)*4=i*4+1+1+1+1 by omega];simpa using h1
theorem ret3 {P:Program} {e:dJ} {w:World} {s t u:Nat} {v x y:Value} {R:Ending→World→Prop} (h:find e s=some v) (h':find e t=some x) (h2:find e u=some y) (hR:R (.returned (.tuple #[v,x,y])) w):retQ P [.tmp s,.tmp t,.tmp u] R .ret e w :=
 eB (vs:=[v,x,y]) ⟨v,[x,y],rfl,h,x,[y],rfl,h',y,[],rfl,h2,rfl⟩ rfl hR
theorem eX {s:Pg} {key:Bs} {f n:Nat} {fr:List (Nd×Nat)} {th:Bool} (h:jP s key f n=some (fr,th)):∃ f' nd,f=f'+1∧cB s n=some nd ∧
  ((bN nd=true∧fr=[(nd,cN nd.items key)]∧th=eR nd.items key)∨(bN nd=false∧∃ k r,nd.kids[fX nd.keys key]? = some k∧jP s key f' k=some (r,th)∧fr=(nd,fX nd.keys key)::r)):=by
 cases f with
 | zero=>cases h
 | succ f =>
  unfold jP at h;split at h
  ·cases h
  ·rename_i nd hnd;refine ⟨f,nd,rfl,hnd,?_⟩;split at h
   ·rename_i hl;simp only [Option.some.injEq,Prod.mk.injEq] at h;exact .inl ⟨hl,h.1.symm,h.2.symm⟩
   ·rename_i hl;split at h
    ·cases h
    ·rename_i k hk;split at h
     ·cases h
     ·rename_i r th' hr;simp only [Option.some.injEq,Prod.mk.injEq] at h;obtain ⟨rfl,rfl⟩:=h;exact .inr ⟨by simpa using hl,k,r,hk,hr,rfl⟩
theorem path_c {w:World} {L:PL} {g:Pg} (h:PgAt w L g) (K:Nat→Prop) (a:Option Addr) (m c n:Nat) (key:Bs) (fr:List (Nd×Nat)) (th:Bool) (hk:Sl K w 1 a m c (bB key)) (hp:jP g key 16 n=some (fr,th)) :
  Calls Tryz.prog 78 #[.pointer (some ⟨L.p,0,none⟩),.int .i64 (n:Int),.slice a m c] w (Ret λ v w'=>(∃ (b:Option Addr) (d:Nat) (cs:List Value),v=.tuple #[.slice b fr.length d,.bool th,.int .i64 0]∧Sl (λ k=>w.heap.size≤k) w' 4 b fr.length d cs∧FrCells (λ k=>w.heap.size≤k) w' cs fr)∧Grow w w'):=by
 refine V.calls (args:=[_,_,_]) Tryz.func78 rfl Tryz.ntmps78 rfl rfl ?_;repeat refine aF ?_
 refine aX (S:=Nat×Nat×Value×List Value×List (Nd×Nat)×List (Nd×Nat)) (λ s=>[(10,.int .i64 (s.2.1:Int)),(9,s.2.2.1),(2,.slice a m c),(0,.pointer (some ⟨L.p,0,none⟩))])
  (λ s w1=>s.1≤16∧jP g key (16-s.1) s.2.1=some (s.2.2.2.2.2,th)∧s.2.2.2.2.1++s.2.2.2.2.2=fr∧s.2.2.2.2.1.length=s.1∧w1.ownsRow w.heap.size 143 4 s.2.2.1 s.1 s.2.2.2.1∧FrCells (λ k=>w.heap.size≤k∧s.2.2.1.ownBlock≠some k) w1 s.2.2.2.1 s.2.2.2.2.1∧Grow w w1)
  (λ s=>16-s.1) (0,n,.slice none 0 0,[],[],fr) ⟨rfl,rfl,rfl,rfl,trivial⟩ ⟨by simp only;omega,hp,rfl,rfl,World.ownsRow_nil _ _ _ _,trivial,Grow.refl _⟩ ?_
 rintro ⟨i,n,u,cs,dn,rs⟩ w1 ⟨hi,hpi,hfr,hdl,hown,hfc,hg1⟩;simp only at hi hpi hfr hdl hown hfc;obtain ⟨f',nd,hf,hnp,hor⟩:=eX hpi;have hi16:i<16:=by omega
 have hu:=dN hnp;have hnl:=dW hu;have hcn:=h.cnt;have hok:=fG hnp;have hrd:fZ (g.body n)=some nd:=by unfold cB at hnp;rw [if_pos hu] at hnp;exact hnp
 obtain ⟨ua,uc,rfl,hus⟩:=aM hown;have z1:=hg1.size;repeat refine aF ?_
 refine aB 127 ?_;refine aA rfl (node_c (h.grow hg1) n oM hu) rfl ?_;rintro _ w3 ⟨hv,hg3⟩;rw [hrd] at hv;obtain ⟨x,rfl,hnd⟩:=hv;have hn1:=hnd.its.len;have hn2:=bR hnd.kids;have z3:=hg3.size;have hfc3:=hfc.go (Carry.grow hg3);have hown3:=aS hown hg3;have hnd':NdAt (λ k=>w.heap.size≤k∧(Value.slice ua i uc).ownBlock≠some k) w3 x nd:=hnd.go (Carry.mono λ k hk _=>⟨oM,λ e=>by have:=(aT hown e).2;omega⟩);have kk:Carry (λ k=>w.heap.size≤k∧(Value.slice ua i uc).ownBlock≠some k) w3 (λ k=>(w.heap.size≤k∧(Value.slice ua i uc).ownBlock≠some k)∧k<w3.heap.size) w3:=Carry.mono λ k hk hl=>⟨hk,hl⟩
 have hfc4:=hfc3.go kk;have hnd4:=hnd'.go kk;have hgw3:=hg1.trans hg3;clear hfc3 hnd' hnd kk hfc;obtain ⟨w3',rfl⟩:=yE w3;rcases hor with ⟨hl,rfl,rfl⟩|⟨hl,k,r,hkid,hpr,rfl⟩
 ·repeat (first|refine aF ?_|refine yI λ bk w' hg hbk hsz hsz'=>?_|refine yJ λ w' hu hbk hsz=>?_|(refine aB 80 ?_;refine aA rfl (fB hnd4 hl _) rfl ?_;rintro _ _ ⟨rfl,hgc⟩))
  rename_i w4;have cc:Carry (λ k=>(w.heap.size≤k∧(Value.slice ua i uc).ownBlock≠some k)∧k<w3'.heap.size) w3' (λ k=>(w.heap.size≤k∧(Value.slice ua i uc).ownBlock≠some k)∧k<w3'.heap.size) w4:=(Carry.grow hg).trans ((Carry.upd hu (λ k hk _=>by omega)).trans (Carry.grow hgc));have hgw4:Grow w w4:=(aI hu oM (hgw3.trans hg)).trans hgc;have hown4:=aS (cL (w':=w') (aS hown3 hg) (λ k hk hv=>hu.block k (by have:=(aT hown3 hv).2;omega))) hgc;refine aB 149 ?_;refine aA rfl (find_c _ _ x nd a m c key _ (hnd4.go cc) (hk.grow hgw4) hok hl) rfl ?_;rintro _ w5 ⟨rfl,hg5⟩;have hbk5:Blk w5 bk 79 x.cs:=(Blk.grow hgc hbk).grow hg5;repeat refine aF ?_
  refine TL.buildSlice rfl rfl rfl rfl rfl ?_;intro b' wa hga hba hsa hsb hsc;have hba':Blk wa b' 143 [x.v1,x.v2,x.v3,.int .i64 (cN nd.items key:Int)]:=hba;have hsl:Sl (λ _=>True) wa 4 (some ⟨b',0,none⟩) 1 1 [x.v1,x.v2,x.v3,.int .i64 (cN nd.items key:Int)]:=(aV (sz:=4) (m:=1) hba' rfl dM).mono (λ _ _=>trivial);have z4:=hgw4.size;have z5:=hg5.size;have za:=hga.size;have hownA:=aS (aS hown4 hg5) hga;refine eG (bytes:=80) rfl rfl hownA hsl (by intro u hu;simp only [List.mem_cons,List.not_mem_nil,or_false] at hu;rcases hu with rfl|rfl|rfl|rfl<;>rfl) (by unfold maxLen;omega) oM oM rfl ?_;intro v' wb hownb hgb hcb;have hgwb:Grow w wb:=Grow.mk (aL hgb oM (λ k hk=>(aT hownA hk).1) ((hgw4.trans hg5).trans hga).1)
  have cb:Carry (λ k=>(w.heap.size≤k∧(Value.slice ua i uc).ownBlock≠some k)∧k<w3'.heap.size) w3' (λ k=>w.heap.size≤k∧v'.ownBlock≠some k) wb :=
   (cc.trans (Carry.grow (hg5.trans hga))).trans ((Carry.mono (λ k hk _=>⟨⟨hk.1.1,hk.2⟩,hk.1.2⟩)).trans ((hcb (λ k=>w.heap.size≤k∧k<w3'.heap.size)).trans (Carry.mono λ k hk _=>⟨hk.1.1,hk.2⟩)))
  have hfcb:=FrCells.snoc (f:=(nd,cN nd.items key)) (hnd4.go cb) (hfc4.go cb);have hndb:=hnd4.go (cc.trans (Carry.grow hg5));obtain ⟨va,vc,rfl,hvs⟩:=aM hownb;repeat refine aF ?_
  subst hfr;have hll:(dn++[(nd,cN nd.items key)]).length=i+1:=by rw [List.length_append,hdl];rfl
  rw [hll];exact ret3 rfl rfl rfl ⟨_,rfl,⟨va,vc,_,rfl,hvs.mono (λ k hk=>hk.1),hfcb.go (Carry.mono λ k hk _=>hk.1)⟩,hgwb⟩
 ·have hkl:=(List.getElem?_eq_some_iff.1 hkid).1;repeat (first|refine aF ?_|refine yI λ bk w' hg hbk hsz hsz'=>?_|refine yJ λ w' hu hbk hsz=>?_|(refine aB 80 ?_;refine aA rfl (fB hnd4 hl _) rfl ?_;rintro _ _ ⟨rfl,hgc⟩))
  rename_i w4;have cc:Carry (λ k=>(w.heap.size≤k∧(Value.slice ua i uc).ownBlock≠some k)∧k<w3'.heap.size) w3' (λ k=>(w.heap.size≤k∧(Value.slice ua i uc).ownBlock≠some k)∧k<w3'.heap.size) w4:=(Carry.grow hg).trans ((Carry.upd hu (λ k hk _=>by omega)).trans (Carry.grow hgc));have hgw4:Grow w w4:=(aI hu oM (hgw3.trans hg)).trans hgc;have hown4:=aS (cL (w':=w') (aS hown3 hg) (λ k hk hv=>hu.block k (by have:=(aT hown3 hv).2;omega))) hgc;refine aB 150 ?_;refine aA rfl (kid_c _ _ x nd a m c key _ (hnd4.go cc) (hk.grow hgw4) hok hl) rfl ?_;rintro _ w5 ⟨rfl,hg5⟩;have hbk5:Blk w5 bk 79 x.cs:=(Blk.grow hgc hbk).grow hg5;repeat refine aF ?_
  refine TL.buildSlice rfl rfl rfl rfl rfl ?_;intro b' wa hga hba hsa hsb hsc;have hba':Blk wa b' 143 [x.v1,x.v2,x.v3,.int .i64 (fX nd.keys key:Int)]:=hba;have hsl:Sl (λ _=>True) wa 4 (some ⟨b',0,none⟩) 1 1 [x.v1,x.v2,x.v3,.int .i64 (fX nd.keys key:Int)]:=(aV (sz:=4) (m:=1) hba' rfl dM).mono (λ _ _=>trivial);have z4:=hgw4.size;have z5:=hg5.size;have za:=hga.size;have hownA:=aS (aS hown4 hg5) hga;refine eG (bytes:=80) rfl rfl hownA hsl (by intro u hu;simp only [List.mem_cons,List.not_mem_nil,or_false] at hu;rcases hu with rfl|rfl|rfl|rfl<;>rfl) (by unfold maxLen;omega) oM oM rfl ?_;intro v' wb hownb hgb hcb;have hgwb:Grow w wb:=Grow.mk (aL hgb oM (λ k hk=>(aT hownA hk).1) ((hgw4.trans hg5).trans hga).1)
  have cb:Carry (λ k=>(w.heap.size≤k∧(Value.slice ua i uc).ownBlock≠some k)∧k<w3'.heap.size) w3' (λ k=>w.heap.size≤k∧v'.ownBlock≠some k) wb :=
   (cc.trans (Carry.grow (hg5.trans hga))).trans ((Carry.mono (λ k hk _=>⟨⟨hk.1.1,hk.2⟩,hk.1.2⟩)).trans ((hcb (λ k=>w.heap.size≤k∧k<w3'.heap.size)).trans (Carry.mono λ k hk _=>⟨hk.1.1,hk.2⟩)))
  have hfcb:=FrCells.snoc (f:=(nd,fX nd.keys key)) (hnd4.go cb) (hfc4.go cb);have hndb:=hnd4.go (cc.trans (Carry.grow hg5));obtain ⟨va,vc,rfl,hvs⟩:=aM hownb;have hbkb:=dS (hbk5.grow hga) (hgb.block bk (by have:=(hbk5.grow hga).lt;omega) (λ e=>by have:=(aT hown3 e.symm).2;omega));have hsk:=(hnd4.go cb).kids;have hcx:wb.cell? (at' x.a2 (fX nd.keys key))=some (.int .i64 (k:Int)):=hsk.row.cell (by rw [show bC nd.kids=nd.kids.map λ (k:Nat)=>(.int .i64 (k:Int):Value) from rfl,List.getElem?_map,hkid];rfl);repeat (first|(refine aH ?_;refine aC (j:=fX nd.keys key) rfl rfl rfl oM (Nat.mul_one _) ⟨_,_,hsk⟩ rfl ?_)|refine yC ?_)
  refine aE (i+1,k,.slice va (i+1) vc,_,dn++[(nd,fX nd.keys key)],r) ⟨rfl,rfl,rfl,rfl,trivial⟩ ⟨by simp only;omega,?_,by simpa using hfr,by simp [hdl],hownb,hfcb,hgwb⟩ (by simp only;omega);rw [show 16-(i+1)=f' by omega];exact hpr
theorem retCC {P:Program} {e:dJ} {w:World} {s t s2 t2:Nat} {p p2:Addr} {v v2:Value} {R:Ending→World→Prop} (h:find e s=some (.pointer (some p))) (hl:(loadVar t p).run P w=.ok v w) (h':find e s2=some (.pointer (some p2))) (hl':(loadVar t2 p2).run P w=.ok v2 w) (hR:R (.returned (.tuple #[v,v2])) w):retQ P [.cell s t,.cell s2 t2] R .ret e w :=
 eB (vs:=[v,v2]) ⟨v,[v2],rfl,⟨p,h,hl⟩,v2,[],rfl,⟨p2,h',hl'⟩,rfl⟩ rfl hR
theorem kN {P:Program} {t bt:TypeId} {w:World} {b:Nat} {v:Value} [ht:One P t] (hb:Blk w b bt [v]):(loadVar t ⟨b,0,none⟩).run P w=.ok v w:=run_loadVar_one ht (hb.cell rfl)
def dZ:Option Nat→Int
 | none=>-1
 | some n=>n
theorem putP_some {s s':Pg} {n r:Nat} {key v:Bs} (h:putP s (some n) key v=some (r,s')):∃ fr th up s1,jP s key 16 n=some (fr,th)∧mL (key,v) th fr s=some (up,s1)∧((up.kids=[r]∧s1=s')∨(up.kids.length≠1∧gV s1 up=some (r,s'))):=by
 unfold putP at h;simp only at h;split at h
 ·cases h
 ·rename_i fr th e1;split at h
  ·cases h
  ·rename_i up s1 e2;refine ⟨fr,th,up,s1,e1,e2,?_⟩;split at h
   ·rename_i k hk;simp only [Option.some.injEq,Prod.mk.injEq] at h;exact .inl ⟨by rw [hk,h.1],h.2⟩
   ·rename_i hk;refine .inr ⟨λ hl=>?_,h⟩
    match hkk:up.kids,hl with
    | [k],_=>exact hk k hkk
theorem putUp_cons {item:Bs×Bs} {th:Bool} {f:Nd×Nat} {r:List (Nd×Nat)} {s s2:Pg} {up2:Nd} (h:mL item th (f::r) s=some (up2,s2)):∃ up s1,mL item th r s=some (up,s1)∧storeP s1 (cP f.1 f.2 up item th)=some (up2,s2):=by
 unfold mL at h;split at h
 ·cases h
 ·rename_i up s1 e;exact ⟨up,s1,e,h⟩
structure UpOk (up:Nd):Prop where
 items:up.items=[]
 len:up.kids=[]∨up.kids.length=up.keys.length+1
 two:up.kids.length≤2
 ks:up.keys.length≤2
 by':NdB up
theorem writeAll_len {s s2:Pg}:∀ {l:List Nd} {s:Pg} {ks:List Nat},fE s l=some (ks,s2)→ks.length=l.length
 | [],s,ks,h=>by simp only [fE,Option.some.injEq,Prod.mk.injEq] at h;rw [← h.1];rfl
 | x::l,s,ks,h=>by
  obtain ⟨p,s1,l1,h1,h2,rfl⟩:=kK h;simp [writeAll_len (s:=s) h2]
theorem storeP_up {s s':Pg} {n up:Nd} (h:storeP s n=some (up,s')) (hb:NdB n):UpOk up∧up.kids.length=up.keys.length+1:=by
 obtain ⟨nds,ks,h1,h2,h3⟩:=storeP_parts h;have hl:=writeAll_len (s:=s) h1;have hk:up.keys=ks:=by rw [h2]
 obtain ⟨_,_,b3⟩:=splitN_by hb;have hi:up.items=[]:=by rw [h2]
 rcases h3 with ⟨_,rfl,rfl⟩|⟨_,rfl,rfl⟩
 ·refine ⟨⟨hi,.inr (by rw [hl,hk];rfl),by rw [hl];simp,by rw [hk];simp,⟨by rw [hi];simp,by rw [hk];simp⟩⟩,by rw [hl,hk];rfl⟩
 ·refine ⟨⟨hi,.inr (by rw [hl,hk];rfl),by rw [hl];simp,by rw [hk];simp,⟨by rw [hi];simp,by rw [hk];intro k hk;simp only [List.mem_singleton] at hk;subst hk;exact b3⟩⟩,by rw [hl,hk];rfl⟩
structure FrOk (g:Pg) (th:Bool) (f:Nd×Nat):Prop where
 ok:bF f.1=true
 by':NdB f.1
 leaf:bN f.1=true→f.2≤f.1.items.length∧(th=true→f.2<f.1.items.length)
 kid:bN f.1=false→f.2<f.1.kids.length
theorem findN_le (l:bT) (key:Bs):cN l key≤l.length:=dX _ l
theorem pathP_frames {s:Pg} (hs:PgB s) {key:Bs} {th:Bool}:∀ {f n:Nat} {fr:List (Nd×Nat)},jP s key f n=some (fr,th)→∀ x∈fr,FrOk s th x
 | f,n,fr,h,x,hx=>by
  obtain ⟨f',nd,rfl,hn,hor⟩:=eX h;rcases hor with ⟨hl,rfl,rfl⟩|⟨hl,k,r,hk,hr,rfl⟩
  ·simp only [List.mem_singleton] at hx;subst hx;refine ⟨fG hn,nodeP_by hs hn,λ _=>⟨findN_le _ _,λ ht=>?_⟩,λ h=>by rw [hl] at h;cases h⟩;unfold eR at ht;simp only
   cases e:nd.items[cN nd.items key]? with
   | none=>rw [e] at ht;cases ht
   | some y=>exact (List.getElem?_eq_some_iff.1 e).1
  ·rcases List.mem_cons.1 hx with rfl|hx
   ·exact ⟨fG hn,nodeP_by hs hn,λ h=>(by rw [hl] at h;cases h),λ _=>(List.getElem?_eq_some_iff.1 hk).1⟩
   ·exact pathP_frames hs hr x hx
theorem pathP_len {s:Pg} {key:Bs} {th:Bool}:∀ {f n:Nat} {fr:List (Nd×Nat)},jP s key f n=some (fr,th)→fr.length≤f
 | f,n,fr,h=>by
  obtain ⟨f',nd,rfl,hn,hor⟩:=eX h;rcases hor with ⟨hl,rfl,rfl⟩|⟨hl,k,r,hk,hr,rfl⟩
  ·simp
  ·have:=pathP_len hr;simp only [List.length_cons];omega
theorem pathP_last {s:Pg} {key:Bs} {th:Bool}:∀ {f n:Nat} {fr:List (Nd×Nat)},jP s key f n=some (fr,th)→∀ i x,fr[i]? = some x→bN x.1=false→i+1<fr.length
 | f,n,fr,h,i,x,hi,hx=>by
  obtain ⟨f',nd,rfl,hn,hor⟩:=eX h;rcases hor with ⟨hl,rfl,rfl⟩|⟨hl,k,r,hk,hr,rfl⟩
  ·cases i with
   | zero=>simp only [List.getElem?_cons_zero,Option.some.injEq] at hi;subst hi;rw [hl] at hx;cases hx
   | succ i=>simp at hi
  ·cases i with
   | zero =>
    have:r≠[]:=by
     obtain ⟨_,_,_,_,hor2⟩:=eX hr;rcases hor2 with ⟨_,rfl,_⟩|⟨_,_,_,_,_,rfl⟩<;>simp
    cases r with
    | nil=>exact absurd rfl this
    | cons a b=>simp
   | succ i =>
    have:=pathP_last hr i x (by simpa using hi) hx;simp only [List.length_cons];omega
theorem putUp_suffix {item:Bs×Bs} {th:Bool} {s:Pg}:∀ {l:List (Nd×Nat)} {up:Nd} {s1:Pg},mL item th l s=some (up,s1)→∀ k,∃ up' s',mL item th (l.drop k) s=some (up',s')
 | [],up,s1,h,k=>by rw [List.drop_nil];exact ⟨up,s1,h⟩
 | f::r,up,s1,h,0=>⟨up,s1,h⟩
 | f::r,up,s1,h,k+1=>by
  obtain ⟨u,s2,h2,_⟩:=putUp_cons h;exact putUp_suffix h2 k
theorem putNode_shape {g:Pg} {th:Bool} {f:Nd×Nat} {up:Nd} {item:Bs×Bs} (hf:FrOk g th f) (hu:UpOk up) (hb:bN f.1=false→up.kids.length=up.keys.length+1) :
  aR (cP f.1 f.2 up item th)≤1000∧(bN (cP f.1 f.2 up item th)=false→(cP f.1 f.2 up item th).items=[]∧(cP f.1 f.2 up item th).keys.length+1=(cP f.1 f.2 up item th).kids.length):=by
 have hok:=hf.ok;unfold bF at hok;have h2:=hu.two;unfold cP;split at hok
 ·rename_i hl;obtain ⟨h1,h8,_⟩:=dG hok;have hkids:=bM.1 hl;obtain ⟨hle,hlt⟩:=hf.leaf hl;rw [if_pos hl]
  cases th with
  | true =>
   have:=hlt rfl;refine ⟨?_,λ h=>?_⟩
   ·simp only [if_true,aR,hkids,List.length_nil,Nat.add_zero];rw [mO (by rw [kS oM oM];omega),kS oM oM];simp;omega
   ·simp [bN,hkids] at h
  | false =>
   refine ⟨?_,λ h=>?_⟩
   ·simp only [Bool.false_eq_true,if_false,aR,hkids,List.length_nil,Nat.add_zero];rw [mO hle];simp;omega
   ·simp [bN,hkids] at h
 ·rename_i hl;have hl':bN f.1=false:=by simpa using hl
  obtain ⟨h1,h2',h8,h4,_,_⟩:=cO hok;have hk:=hf.kid hl';have hub:=hb hl';rw [if_neg hl]
  have e1:(hY (dT f.1.kids f.2 (f.2+1)) f.2 up.kids).length=f.1.kids.length-(f.2+1-f.2)+up.kids.length:=by
   rw [mO (by rw [kS oM oM];omega),kS oM oM]
  have e2:(hY f.1.keys f.2 up.keys).length=f.1.keys.length+up.keys.length:=mO oM;refine ⟨?_,λ _=>⟨h1,?_⟩⟩
  ·simp only [aR,e1,h1,List.length_nil];omega
  ·simp only [e1,e2];omega
theorem put_c {w:World} {L:PL} {g g':Pg} (h:PgAt w L g) (ht:TabAt w) (h0:¬ L.S 0) (root:Option Nat) (a a':Option Addr) (m c m' c':Nat) (key v:Bs) (hk:Sl (λ k=>¬ L.S k) w 1 a m c (bB key)) (hv:Sl (λ k=>¬ L.S k) w 1 a' m' c' (bB v)) (hko:eF key=true) (hvo:fC v=true) (hkb:eZ key) (hvb:eZ v) (hsp:32≤cR g) (n':Nat) (hput:putP g root key v=some (n',g')) :
  Calls Tryz.prog 25 #[.pointer (some ⟨L.p,0,none⟩),.int .i64 (dZ root),.slice a m c,.slice a' m' c'] w (Ret λ u w'=>u=.tuple #[.int .i64 (n':Int),.int .i64 0]∧PgAt w' L g'∧ButS L.S w w'):=by
 have hSl:∀ k,w.heap.size≤k→¬ L.S k:=λ k hk=>by have:=h.lts;unfold PL.S;omega
 have hrr : -1≤dZ root∧dZ root≤9223372036854775807:=by
  cases root with
  | none=>show (-1:Int)≤-1∧(-1:Int)≤_;omega
  | some n =>
   obtain ⟨fr,th,up,s1,hp,_⟩:=putP_some hput;obtain ⟨_,_,_,hn,_⟩:=eX hp;have:=dW (dN hn);have:=h.cnt;show (-1:Int)≤(n:Int)∧(n:Int)≤_;omega
 refine V.calls (args:=[_,_,_,_]) Tryz.func25 rfl Tryz.ntmps25 rfl rfl ?_;repeat (first|refine aF ?_|refine yI λ bk w' hg hbk hsz hsz'=>?_)
 rename_i b4 w1 g1 k1 p1 p1' b8 w2 g2 k2 p2 p2';obtain ⟨b9,rfl⟩:=yE bk;refine aB 77 ?_;have hg3:Grow w w':=g1.trans (g2.trans hg);refine aA rfl (tready_c (h.grow hg3) _ hrr.1 hrr.2 _ _ a a' m c m' c' key v (hk.grow hg3) (hv.grow hg3) hko hvo hsp) rfl ?_;rintro _ w4 ⟨rfl,hg4⟩;have k4:=(k1.grow (g2.trans hg)).grow hg4;have k8:=(k2.grow hg).grow hg4;have k9:=hbk.grow hg4;have hgw:=hg3.trans hg4;have q:b4=w.heap.size∧b8=b4+1∧b9=b8+1∧b9<w4.heap.size:=by have:=k9.lt;omega
 clear hbk hg hg3 hg4 k1 k2 g1 g2 hsz hsz' p1 p1' p2 p2'
 cases root with
 | none =>
  obtain ⟨hok,hnw⟩:=gK (show gV g ⟨[(key,v)],[],[]⟩=some (n',g') from hput);repeat (first|refine aF ?_|refine yI λ bk w' hg hbk hsz hsz'=>?_|refine yJ λ w' hu hbk hsz=>?_)
  refine TL.buildSlice rfl rfl rfl rfl rfl ?_;intro b' wa hga hba hsa hsb hsc;have hba':Blk wa b' 58 [.slice a m c,.slice a' m' c']:=hba;have hgw5:Grow w w':=aI hu oM (hgw.trans hg);have hgwa:=hgw5.trans hga;have zw:=hgw5.size;have i4:=((k4.grow hg).upd hu oM).grow hga;have i8:=((k8.grow hg).upd hu oM).grow hga;have i9:=((k9.grow hg).upd hu oM).grow hga;clear hbk hba hga hu hg hgw5 k4 k8 k9;repeat refine aF ?_
  have hnd:NdAt (λ k=>¬ L.S k) wa ⟨some ⟨b',0,none⟩,1,1,none,0,0,none,0,0⟩ ⟨[(key,v)],[],[]⟩ :=
   ⟨⟨_,(aV (sz:=2) (m:=1) hba' rfl dM).mono (λ k hk=>by subst hk;exact hSl _ oM),⟨_,_,_,rfl,hk.grow hgwa⟩,⟨_,_,_,rfl,hv.grow hgwa⟩,trivial⟩,iY,jK⟩
  refine aB 84 ?_;refine aA rfl (write_c (h.grow hgwa) (ht.grow hgwa) _ ⟨some ⟨b',0,none⟩,1,1,none,0,0,none,0,0⟩ _ hnd hok (lV hok ⟨by intro x hx;simp only [List.mem_singleton] at hx;subst hx;exact ⟨hkb,hvb⟩,sM⟩) n' hnw) rfl ?_;rintro _ w6 ⟨rfl,hp6,hb6⟩;have j8:=bY i8 hb6 (hSl _ oM);have j9:=bY i9 hb6 (hSl _ oM);clear i4 i8 i9;repeat (first|refine aF ?_|refine yJ λ w' hu hbk hsz=>?_)
  rename_i w7 hu7 hb7 z7;have hlts:=h.lts;refine retCC rfl (kN (hb7.upd hu oM)) rfl (kN hbk) ⟨_,rfl,rfl,?_,(((ButS.grow hgwa).trans hb6).upd hu7 oM).upd hu oM⟩;exact (hp6.upd hu7 oM).upd hu oM
 | some n =>
  obtain ⟨fr,th,up,s1,hp,hpu,hend⟩:=putP_some hput;have hfok:=pathP_frames (λ n=>h.lt n) hp;repeat (first|refine aF ?_|refine yI λ bk w' hg hbk hsz hsz'=>?_|refine yJ λ w' hu hbk hsz=>?_)
  obtain ⟨b11,rfl⟩:=yE bk;have hb11:Blk w' b11 58 [.slice a m c,.slice a' m' c']:=hbk;have hgw5:Grow w w':=aI hu oM (hgw.trans hg);have i4:=(k4.grow hg).upd hu oM;have i8:=(k8.grow hg).upd hu oM;have i9:=(k9.grow hg).upd hu oM;have q11:b11=w4.heap.size∧b11<w'.heap.size:=by have:=hb11.lt;omega
  clear hbk hg hu hsz hsz' k4 k8 k9 hgw;obtain ⟨w5,rfl⟩:=yE w';refine aB 78 ?_;refine aA rfl (path_c (h.grow hgw5) _ a m c n key fr th (hk.grow hgw5) hp) rfl ?_;rintro _ w6 ⟨⟨fb,fd,fcs,rfl,hfs,hfc⟩,hg6⟩;have hgw6:=hgw5.trans hg6;have z6:=hg6.size;have zw:=hgw5.size;replace i4:=i4.grow hg6;replace i8:=i8.grow hg6;replace i9:=i9.grow hg6;replace hb11:=hb11.grow hg6;clear hgw5 hg6;repeat (first|refine T.seqR ?_|refine yC ?_|refine yI λ bk w' hg hbk hsz hsz'=>?_|refine yJ λ w' hu hbk hsz=>?_)
  rename_i b13 w13 g13 k13 p13 p13' b14 w14 g14 k14 p14 p14' ws1 us1 ks1 zs1 ws2 ks2 zs2;obtain ⟨b15,rfl⟩:=yE bk;have hflen:=pathP_len hp;have hW0:Grow w w':=(aI hu oM (aI us1 oM (hgw6.trans (g13.trans g14)))).trans hg;have j4:=(((i4.grow (g13.trans g14)).upd us1 oM).upd hu oM).grow hg;have j8:=(((i8.grow (g13.trans g14)).upd us1 oM).upd hu oM).grow hg;have j9:=(((i9.grow (g13.trans g14)).upd us1 oM).upd hu oM).grow hg;have j11:=(((hb11.grow (g13.trans g14)).upd us1 oM).upd hu oM).grow hg;have j13:Blk w' b13 4 [.bool th]:=(Blk.upd hu oM ks1).grow hg;have j14:Blk w' b14 37 [.int .i64 0]:=Blk.grow hg ks2;have j15:Blk w' b15 79 nil3:=hbk
  have cW:Carry (λ k=>w5.heap.size≤k) w6 (λ k=>w5.heap.size≤k∧k<w6.heap.size) w' :=
   (Carry.mono (λ k hk hl=>⟨hk,hl⟩)).trans ((Carry.grow (g13.trans g14)).trans ((Carry.upd us1 (λ k hk _=>by omega)).trans ((Carry.upd hu (λ k hk _=>by omega)).trans (Carry.grow hg))))
  replace hfs:=hfs.go cW;replace hfc:=hfc.go cW;have qs:w6.heap.size=b13∧b14=b13+1∧b15=b14+1∧w'.heap.size=b15+1:=by omega
  clear cW hbk hu hg us1 ks1 ks2 k13 k14 g13 g14 hsz hsz' i4 i8 i9 hb11 p13 p13' p14 p14' zs1 zs2 hgw6;refine aB 79 ?_;refine aA rfl (back_c fb fr.length fd _) rfl ?_;rintro _ w9 ⟨b1,rfl,hb1s,hb1,hg9⟩;repeat refine aF ?_
  refine mY (T2.range (ps:=[52,53]) (lb:=[_]) rfl (Nat.zero_le _) rfl ?_);intro rc W hli hsW hgW hlW hDW;obtain ⟨D,hD⟩:∃ D,D=w9.heap.size:=⟨_,rfl⟩
  rw [← hD] at hlW hDW hsW ⊢;have hb1l:=hb1.lt;have z9:=hg9.size;replace j4:=(j4.grow hg9).grow hgW;replace j8:=(j8.grow hg9).grow hgW;replace j9:=(j9.grow hg9).grow hgW;replace j11:=(j11.grow hg9).grow hgW;replace j13:=(j13.grow hg9).grow hgW;replace j14:=(j14.grow hg9).grow hgW;replace j15:=(j15.grow hg9).grow hgW;replace hb1:=hb1.grow hgW;obtain ⟨Gu,hGu⟩:∃ G:Nat→Prop,∀ k,G k↔¬ L.S k∧k≠b15∧k≠b14∧k≠D+1:=⟨_,λ k=>Iff.rfl⟩
  have hGn:∀ k,w.heap.size≤k→k≠b15→k≠b14→k≠D+1→Gu k:=λ k hk h1 h2 h3=>(hGu k).2 ⟨hSl k hk,h1,h2,h3⟩;replace hfs:Sl Gu W 4 fb fr.length fd fcs:=(hfs.grow (hg9.trans hgW)).mono (λ k hk=>hGn k oM oM oM oM);replace hfc:FrCells Gu W fcs fr:=hfc.go ((Carry.grow (hg9.trans hgW)).trans (Carry.mono λ k hk _=>hGn k oM oM oM oM));have hgrW:Grow w W:=hW0.trans (hg9.trans hgW);have hkW:Sl Gu W 1 a m c (bB key):=(hk.go (Carry.mono (λ k hk hl=>(hGu k).2 ⟨hk,oM,oM,oM⟩))).grow hgrW;have hvW:Sl Gu W 1 a' m' c' (bB v):=(hv.go (Carry.mono (λ k hk hl=>(hGu k).2 ⟨hk,oM,oM,oM⟩))).grow hgrW;have hlts:=h.lts;have ht00:=ht.1;have hpW:=h.grow hgrW;have htW:=ht.grow hgrW;clear hgW hg9 hW0
  refine Calls.mono (backs_c Gu (D+1) b1 fr.length fb fd fcs (λ k w1=>∃ up1 g1,∃ y:NV,mL (key,v) th (fr.drop k) g=some (up1,g1)∧UpOk up1∧(k<fr.length→up1.kids.length=up1.keys.length+1)∧Blk w1 b15 79 y.cs∧Blk w1 b14 37 [.int .i64 0] ∧
   w1.heap[D+1]? = some (.loop (rc .ready none))∧Carry Gu W (λ k=>Gu k∧k<W.heap.size) w1∧NdAt Gu w1 y up1∧PgAt w1 L g1∧ButS L.S w w1) (λ _=>False) oM ?_ ?_ W ?_) ?_
  ·rintro k w1 ⟨up1,g1,y,e1,e2,e3,e15,e14,el,ec,en,ep,eb⟩;exact ⟨dS hb1 (ec.blk b1 (hGn _ oM oM oM oM) oM).2,(hfs.go ec).mono (λ k hk=>hk.1)⟩
  ·rintro k w1 hkl ⟨up1,g1,y,e1,e2,e3,e15,e14,el,ec,en,ep,eb⟩;obtain ⟨f,hf⟩:∃ f,fr[k]? = some f:=⟨_,List.getElem?_eq_getElem hkl⟩
   obtain ⟨x,hx4,hx⟩:=hfc.at' hf;rw [hx4];have fo:=hfok f (List.mem_of_getElem? hf);have z1:=ec.size;have hx1:NdAt Gu w1 x f.1:=(hx.go ec).go (Carry.mono λ k hk _=>hk.1);refine yld_of hli el rfl rfl λ I=>?_;repeat (first|refine aF ?_|refine yI λ bk w' hg hbk hsz hsz'=>?_|refine yJ λ w' hu hbk hsz=>?_)
   refine ⟨?_,λ w2 hu2 hl2=>?_⟩
   ·rw [hu.block (D+1) oM,hg.block (D+1) oM];exact el
   obtain ⟨bf,rfl⟩:=yE bk;have z2:=hu2.size;have keepb:∀ k,k<w1.heap.size→k≠D+1→w2.heap[k]? = w1.heap[k]?:=λ k h1 h2=>(hu2.block k h2).trans ((hu.block k oM).trans (hg.block k h1));have gk:∀ k,w.heap.size≤k→k≠b15→k≠b14→k≠D+1→k<W.heap.size→w2.heap[k]? = W.heap[k]?:=λ k h1 h2 h3 h4 h5=>(keepb k oM h4).trans (ec.blk k (hGn k h1 h2 h3 h4) h5).2;have gkU:∀ k,Gu k→k<W.heap.size→w2.heap[k]? = W.heap[k]?:=λ k hk hl=>(keepb k oM ((hGu k).1 hk).2.2.2).trans (ec.blk k hk hl).2;have gf:Blk w2 bf 143 [x.v1,x.v2,x.v3,.int .i64 (f.2:Int)]:=Blk.upd hu2 oM hbk;have f15:=dS e15 (keepb b15 oM oM);have f14:=dS e14 (keepb b14 oM oM);have f4:=dS j4 (gk b4 oM oM oM oM oM);have f11:=dS j11 (gk b11 oM oM oM oM oM);have f13:=dS j13 (gk b13 oM oM oM oM oM);have cc:Carry Gu w1 Gu w2:=⟨oM,λ k hk hl=>⟨hk,keepb k hl ((hGu k).1 hk).2.2.2⟩⟩
   have hx2:=hx1.go cc;have en2:=en.go cc;have ep2:=ep.keep (λ b hb=>keepb b oM oM);have eb2:ButS L.S w w2:=((eb.trans (ButS.grow hg)).upd hu oM).upd hu2 oM;have hk2:Sl Gu w2 1 a m c (bB key):=((hkW.go ec).mono (λ k hk=>hk.1)).go cc;have hv2:Sl Gu w2 1 a' m' c' (bB v):=((hvW.go ec).mono (λ k hk=>hk.1)).go cc;have qf:w1.heap.size=bf∧w2.heap.size=bf+1:=by omega
   rw [List.drop_eq_getElem_cons hkl,show fr[k]'hkl=f from (List.getElem?_eq_some_iff.1 hf).2];clear hbk hg hu hu2 hsz hsz' cc e15 e14 el ec en ep eb hx hx1 hli j4 j8 j9 j11 j13 j14 j15 hb1 hfs hfc hkW hvW keepb;refine T.block ?_;refine dV 2 (λ e w3=>∃ (bn:Nat) (z:NV),Sub [(18,.pointer (some ⟨bn,0,none⟩)),(15,.pointer (some ⟨b15,0,none⟩)),(14,.pointer (some ⟨b14,0,none⟩)),(4,.pointer (some ⟨b4,0,none⟩))] e∧w2.heap.size≤bn∧bn<w3.heap.size∧Blk w3 bn 79 z.cs∧NdAt Gu w3 z (cP f.1 f.2 up1 (key,v) th)∧Grow w2 w3) ?_ ?_;rotate_left
   ·cases hlf:bN f.1 with
    | false =>
     repeat (first|refine aF ?_|refine yI λ bk w' hg hbk hsz hsz'=>?_|refine yJ λ w' hu hbk hsz=>?_|(refine aB 80 ?_;refine aA rfl (fB hx2 hlf _) rfl ?_;rintro _ _ ⟨rfl,hgc⟩))
     rename_i w3;obtain ⟨bn,rfl⟩:=yE bk;have gn:Blk w3 bn 79 x.cs:=Blk.grow hgc hbk;have hg23:Grow w2 w3:=(aI hu oM hg).trans hgc;have zc:=hgc.size;have z23:=hg23.size;obtain ⟨Gq,hGq⟩:∃ G:Nat→Prop,∀ k,G k↔Gu k∧k≠bn:=⟨_,λ k=>Iff.rfl⟩
     have cq:Carry Gu w2 Gq w3:=(Carry.mono (λ k hk hl=>(hGq k).2 ⟨hk,oM⟩)).trans (Carry.grow hg23);have hx3:=hx2.go cq;have en3:=en2.go cq;have i15:=f15.grow hg23;have i13:=f13.grow hg23;have i11:=f11.grow hg23;have gf3:=gf.grow hg23;have hk3:=hk2.go cq;have hv3:=hv2.go cq;have qn:w2.heap.size=bn∧bn<w3.heap.size:=by omega
     have hGF:∀ wq:World,w3.heap.size≤wq.heap.size→∀ k,wq.heap.size≤k→Gq k:=λ wq hq k hk=>(hGq k).2 ⟨hGn k oM oM oM oM,oM⟩;have hok:=fo.ok;unfold bF at hok;have hn1x:=hx3.its.len;have hn2x:=bR hx3.kids;have hn3x:=hx3.kys.len;have hn2y:=bR en3.kids;have hn3y:=en3.kys.len;have hup2:=e2.two;have hupl:=e2.ks;clear hbk hg hgc hu hsz hsz' cq gf f15 f13 f11 hx2 en2 hk2 hv2;rw [if_neg (by rw [hlf];simp)] at hok;obtain ⟨hoi,ho2,ho8,hol,_,_⟩:=cO hok;have hkid:=fo.kid hlf
     apply T.any 13 [is (.pointer (some ⟨bn,1,none⟩)),is (.slice x.a2 x.n2 x.c2),is (.pointer (some ⟨bf,3,none⟩)),is (.int .i64 (f.2:Int)),is (.pointer (some ⟨bf,3,none⟩)),is (.int .i64 (f.2:Int)),is (.int .i64 ((f.2+1:Nat):Int)),
      kidF Gq (x.n2-(f.2+1-f.2)) (dT f.1.kids f.2 (f.2+1)),is (.pointer (some ⟨bf,3,none⟩)),is (.int .i64 (f.2:Int)),is (.pointer (some ⟨b15,1,none⟩)),is (.slice y.a2 y.n2 y.c2),kidF Gq (x.n2-(f.2+1-f.2)+y.n2) (hY (dT f.1.kids f.2 (f.2+1)) f.2 up1.kids)]
     ·rfl
     ·repeat' (first|exact aN|refine aK ?_ ?_)
      iterate 7
       ·refine yQ λ wq _ _ hgq=>?_;repeat refine aF ?_
        exact aD rfl yG rfl
      ·refine yQ λ wq _ _ hgq=>?_;refine aB 97 ?_;refine aA rfl (cutN_c (F:=Gq) (hGF _ (by have:=hgq.size;omega)) x.a2 x.n2 x.c2 f.2 (f.2+1) f.1.kids (hx3.kids.grow yG) oM oM oM) rfl ?_;rintro v' wr ⟨⟨a7,c7,rfl,hi⟩,hgr⟩;repeat refine aF ?_
       exact aD rfl yG ⟨a7,c7,rfl,hi⟩
      iterate 4
       ·refine yQ λ wq _ _ hgq=>?_;repeat refine aF ?_
        exact aD rfl yG rfl
      ·refine bX rfl rfl rfl ?_;intro wq _ _ hgq;refine aJ rfl rfl ?_;intro v9 q9;obtain rfl:=q9;refine aJ rfl rfl ?_;intro v11 q11';obtain rfl:=q11';refine aJ rfl rfl ?_;intro v7 q7;refine aZ ?_;obtain ⟨a7,c7,rfl,h7⟩:=q7;refine aB 96 ?_;refine aA rfl (insN_c (F:=Gq) (hGF _ (by have:=hgq.size;omega)) a7 y.a2 _ c7 y.n2 y.c2 f.2 _ up1.kids h7 (en3.kids.grow hgq) oM oM) rfl ?_;rintro v' wr ⟨⟨a7,c7,rfl,hi⟩,hgr⟩;repeat refine aF ?_
       exact aD rfl yG ⟨a7,c7,rfl,hi⟩
     ·intro wt lot hit hgt _ _;iterate 12 (refine aJ rfl rfl ?_;intro vq hvq;try (obtain rfl:=hvq))
      refine aJ rfl rfl ?_;rintro vt ⟨at7,ct7,rfl,ht7⟩;refine aZ ?_;have zt:=hgt.size;have jf:=gf3.grow hgt;have j15:=i15.grow hgt;have jn:=gn.grow hgt;have hgt2:=hg23.trans hgt;have hx4:=hx3.go (Carry.grow hgt);have en4:=en3.go (Carry.grow hgt);clear gf3 i15 gn hx3 en3 hgt;repeat (first|refine aF ?_|refine yJ λ w' hu hbk hsz=>?_)
      have cu:Carry Gq wt Gq w':=Carry.upd hu (λ k hk _=>((hGq k).1 hk).2);refine aB 98 ?_;refine aA rfl (insK_c (F:=Gq) (hGF _ oM) x.a3 y.a3 x.n3 x.c3 y.n3 y.c3 f.2 f.1.keys up1.keys (hx4.kys.go cu) (en4.kys.go cu) oM oM) rfl ?_;rintro _ wr ⟨⟨a8,c8,rfl,hi8⟩,hgr⟩;have kn:=hbk.grow hgr;have hgu:Grow w2 w':=aI hu oM hgt2;have cu2:Carry Gq wt Gq wr:=cu.trans (Carry.grow hgr);have hN1:=hx4.its.go cu2;have hN2:=ht7.go cu2;have hgu2:=hgu.trans hgr;have zr:=hgr.size;clear hbk hu cu cu2 hgr hx4 en4 hgu hgt2 jn;repeat (first|refine aF ?_|refine yJ λ w' hu hbk hsz=>?_)
      have cu3:Carry Gq wr Gu w':=(Carry.upd hu (λ k hk _=>((hGq k).1 hk).2)).trans (Carry.mono λ k hk _=>((hGq k).1 hk).1);refine ⟨bn,⟨x.a1,x.n1,x.c1,at7,x.n2-(f.2+1-f.2)+y.n2,ct7,a8,x.n3+y.n3,c8⟩,⟨rfl,rfl,rfl,rfl,trivial⟩,oM,oM,hbk,?_,aI hu oM hgu2⟩
      have hpn:cP f.1 f.2 up1 (key,v) th=⟨f.1.items,hY (dT f.1.kids f.2 (f.2+1)) f.2 up1.kids,hY f.1.keys f.2 up1.keys⟩:=by
       simp only [cP,hlf];rfl
      rw [hpn];exact ⟨hN1.go cu3,hN2.go cu3,hi8.go cu3⟩
    | true =>
     repeat (first|refine aF ?_|refine yI λ bk w' hg hbk hsz hsz'=>?_|refine yJ λ w' hu hbk hsz=>?_|(refine aB 80 ?_;refine aA rfl (fB hx2 hlf _) rfl ?_;rintro _ _ ⟨rfl,hgc⟩))
     rename_i w3;obtain ⟨bn,rfl⟩:=yE bk;have gn:Blk w3 bn 79 x.cs:=Blk.grow hgc hbk;have hg23:Grow w2 w3:=(aI hu oM hg).trans hgc;have zc:=hgc.size;have z23:=hg23.size;obtain ⟨Gq,hGq⟩:∃ G:Nat→Prop,∀ k,G k↔Gu k∧k≠bn:=⟨_,λ k=>Iff.rfl⟩
     have cq:Carry Gu w2 Gq w3:=(Carry.mono (λ k hk hl=>(hGq k).2 ⟨hk,oM⟩)).trans (Carry.grow hg23);have hx3:=hx2.go cq;have en3:=en2.go cq;have i15:=f15.grow hg23;have i13:=f13.grow hg23;have i11:=f11.grow hg23;have gf3:=gf.grow hg23;have hk3:=hk2.go cq;have hv3:=hv2.go cq;have qn:w2.heap.size=bn∧bn<w3.heap.size:=by omega
     have hGF:∀ wq:World,w3.heap.size≤wq.heap.size→∀ k,wq.heap.size≤k→Gq k:=λ wq hq k hk=>(hGq k).2 ⟨hGn k oM oM oM oM,oM⟩;have hok:=fo.ok;unfold bF at hok;have hn1x:=hx3.its.len;have hn2x:=bR hx3.kids;have hn3x:=hx3.kys.len;have hn2y:=bR en3.kids;have hn3y:=en3.kys.len;have hup2:=e2.two;have hupl:=e2.ks;clear hbk hg hgc hu hsz hsz' cq gf f15 f13 f11 hx2 en2 hk2 hv2;rw [if_pos hlf] at hok;obtain ⟨hoi,ho8,_⟩:=dG hok;obtain ⟨hle,hlt⟩:=fo.leaf hlf
     cases th with
     | false =>
      repeat refine aF ?_
      refine TL.buildSlice rfl rfl rfl rfl rfl ?_;intro b' wa hga hba hsa hsb hsc;have hba':Blk wa b' 58 [.slice a m c,.slice a' m' c']:=hba;have hit:ItsAt Gq wa (some ⟨b',0,none⟩) 1 1 [(key,v)]:=⟨_,(aV (sz:=2) (m:=1) hba' rfl dM).mono (λ k hk=>by subst hk;exact hGF w3 (Nat.le_refl _) _ oM),⟨_,_,_,rfl,hk3.grow hga⟩,⟨_,_,_,rfl,hv3.grow hga⟩,trivial⟩
      have za:=hga.size;have kn:=gn.grow hga;have hx4:=hx3.go (Carry.grow hga);have hgu:=hg23.trans hga;clear hba hba' hsa hsb hsc gn hga hg23 hx3;repeat refine aF ?_
      refine aB 99 ?_;refine aA rfl (insI_c (F:=Gq) (hGF _ oM) x.a1 (some ⟨b',0,none⟩) x.n1 x.c1 1 1 f.2 f.1.items [(key,v)] hx4.its hit oM oM) rfl ?_;rintro _ wr ⟨⟨a8,c8,rfl,hi8⟩,hgr⟩;have kn2:=kn.grow hgr;have hx5:=hx4.go (Carry.grow hgr);have hgu2:=hgu.trans hgr;have zr:=hgr.size;clear kn hgr hx4 hgu;repeat (first|refine aF ?_|refine yJ λ w' hu hbk hsz=>?_)
      have cu3:Carry Gq wr Gu w':=(Carry.upd hu (λ k hk _=>((hGq k).1 hk).2)).trans (Carry.mono λ k hk _=>((hGq k).1 hk).1);refine ⟨bn,⟨a8,x.n1+1,c8,x.a2,x.n2,x.c2,x.a3,x.n3,x.c3⟩,⟨rfl,rfl,rfl,rfl,trivial⟩,oM,oM,hbk,?_,aI hu oM hgu2⟩
      have hpn:cP f.1 f.2 up1 (key,v) false=⟨hY f.1.items f.2 [(key,v)],f.1.kids,f.1.keys⟩:=by
       simp only [cP,hlf];rfl
      rw [hpn];exact ⟨hi8.go cu3,hx5.kids.go cu3,hx5.kys.go cu3⟩
     | true =>
      have hlt':=hlt rfl;repeat refine aF ?_
      apply T.any 13 [is (.pointer (some ⟨bn,0,none⟩)),is (.slice x.a1 x.n1 x.c1),is (.pointer (some ⟨bf,3,none⟩)),is (.int .i64 (f.2:Int)),is (.pointer (some ⟨bf,3,none⟩)),is (.int .i64 (f.2:Int)),is (.int .i64 ((f.2+1:Nat):Int)),
       itsF Gq (x.n1-(f.2+1-f.2)) (dT f.1.items f.2 (f.2+1)),is (.pointer (some ⟨bf,3,none⟩)),is (.int .i64 (f.2:Int)),is (.agg #[.slice a m c,.slice a' m' c']),itsF Gq 1 [(key,v)],itsF Gq (x.n1-(f.2+1-f.2)+1) (hY (dT f.1.items f.2 (f.2+1)) f.2 [(key,v)])]
      ·rfl
      ·repeat' (first|exact aN|refine aK ?_ ?_)
       iterate 7
        ·refine yQ λ wq _ _ hgq=>?_;repeat refine aF ?_
         exact aD rfl yG rfl
       ·refine yQ λ wq _ _ hgq=>?_;refine aB 81 ?_;refine aA rfl (cutI_c (F:=Gq) (hGF _ (by have:=hgq.size;omega)) x.a1 x.n1 x.c1 f.2 (f.2+1) f.1.items (hx3.its.go (Carry.grow yG)) oM oM oM) rfl ?_;rintro v' wr ⟨⟨a7,c7,rfl,hi⟩,hgr⟩;repeat refine aF ?_
        exact aD rfl yG ⟨a7,c7,rfl,hi⟩
       iterate 3
        ·refine yQ λ wq _ _ hgq=>?_;repeat refine aF ?_
         exact aD rfl yG rfl
       ·refine yQ λ wq _ _ hgq=>?_;have zq:=hgq.size;refine TL.buildSlice rfl rfl rfl rfl rfl ?_;intro b' wa hga hba hsa hsb hsc;have hba':Blk wa b' 58 [.slice a m c,.slice a' m' c']:=hba;have hit:ItsAt Gq wa (some ⟨b',0,none⟩) 1 1 [(key,v)]:=⟨_,(aV (sz:=2) (m:=1) hba' rfl dM).mono (λ k hk=>by subst hk;exact hGF w3 (Nat.le_refl _) _ oM),⟨_,_,_,rfl,(hk3.grow hgq).grow hga⟩,⟨_,_,_,rfl,(hv3.grow hgq).grow hga⟩,trivial⟩
        repeat refine aF ?_
        exact aD rfl yG ⟨_,_,rfl,hit⟩
       ·refine bX rfl rfl rfl ?_;intro wq _ _ hgq;refine aJ rfl rfl ?_;intro v9 q9;obtain rfl:=q9;refine aJ rfl rfl ?_;intro v11 q11';obtain ⟨a6,c6,rfl,h6⟩:=q11';refine aJ rfl rfl ?_;intro v7 q7;refine aZ ?_;obtain ⟨a7,c7,rfl,h7⟩:=q7;refine aB 99 ?_;refine aA rfl (insI_c (F:=Gq) (hGF _ (by have:=hgq.size;omega)) a7 a6 _ c7 1 c6 f.2 _ [(key,v)] h7 h6 oM oM) rfl ?_;rintro v' wr ⟨⟨a7,c7,rfl,hi⟩,hgr⟩;repeat refine aF ?_
        exact aD rfl yG ⟨a7,c7,rfl,hi⟩
      ·intro wt lot hit hgt _ _;iterate 12 (refine aJ rfl rfl ?_;intro vq hvq;try (obtain rfl:=hvq))
       refine aJ rfl rfl ?_;rintro vt ⟨at7,ct7,rfl,ht7⟩;refine aZ ?_;have zt:=hgt.size;have jn:=gn.grow hgt;have hgt2:=hg23.trans hgt;have hx4:=hx3.go (Carry.grow hgt);clear gf3 i15 gn hx3 en3 hgt hvq;repeat (first|refine aF ?_|refine yJ λ w' hu hbk hsz=>?_)
       have cu3:Carry Gq wt Gu w':=(Carry.upd hu (λ k hk _=>((hGq k).1 hk).2)).trans (Carry.mono λ k hk _=>((hGq k).1 hk).1);refine ⟨bn,⟨at7,x.n1-(f.2+1-f.2)+1,ct7,x.a2,x.n2,x.c2,x.a3,x.n3,x.c3⟩,⟨rfl,rfl,rfl,rfl,trivial⟩,oM,oM,hbk,?_,aI hu oM hgt2⟩
       have hpn:cP f.1 f.2 up1 (key,v) true=⟨hY (dT f.1.items f.2 (f.2+1)) f.2 [(key,v)],f.1.kids,f.1.keys⟩:=by
        simp only [cP,hlf];rfl
       rw [hpn];exact ⟨ht7.go cu3,hx4.kids.go cu3,hx4.kys.go cu3⟩
   rintro e w3 ⟨bn,z,hsub,qb1,qb2,hbn,hz,hg23⟩;refine bD (e':=[(18,_),(15,_),(14,_),(4,_)]) ?_ hsub;clear hsub;obtain ⟨up2,g2,hpk⟩:=putUp_suffix hpu k;rw [List.drop_eq_getElem_cons hkl,show fr[k]'hkl=f from (List.getElem?_eq_some_iff.1 hf).2] at hpk;obtain ⟨up',g1',e1',hst⟩:=putUp_cons hpk;rw [e1] at e1';simp only [Option.some.injEq,Prod.mk.injEq] at e1';obtain ⟨rfl,rfl⟩:=e1';obtain ⟨hs9,hsh⟩:=putNode_shape (item:=(key,v)) fo e2 (λ hl=>e3 (pathP_last hp k f hf hl));have hnb:=putNode_by (i:=f.2) (item:=(key,v)) (th:=th) fo.by' e2.by' hkb hvb;have z3:=hg23.size;have f15':=f15.grow hg23;have f14':=f14.grow hg23;have f4':=f4.grow hg23;have hl3:w3.heap[D+1]? = some (.loop (rc .busy none)):=(hg23.block _ oM).trans hl2;clear f15 f14 f4 hl2;repeat refine aF ?_
   refine aB 100 ?_;refine aA rfl (store_c (ep2.grow hg23) ((ht.buts eb2 h0).grow hg23) h0 Gu (λ k hk=>((hGu k).1 hk).1) (λ k hk=>hGn k oM oM oM oM) z _ up2 hz hnb hs9 hsh hst) rfl ?_;rintro _ w8 ⟨⟨y2,rfl,hy2⟩,hp8,hb8⟩;obtain ⟨hup2,hup2l⟩:=storeP_up hst hnb;have z8:=hb8.size;have f15:=bY f15' hb8 (hSl _ oM);have f14:=bY f14' hb8 (hSl _ oM);have hl8:w8.heap[D+1]? = some (.loop (rc .busy none)):=(hb8.block _ oM (hSl _ oM)).trans hl3;clear f15' f14' f4' hbn;repeat (first|refine aF ?_|refine yJ λ w' hu hbk hsz=>?_)
   rename_i w9' hu9 hb9 z9';refine ⟨?_,λ wz huz hlz=>.inl ⟨rfl,up2,g2,y2,hpk,hup2,λ _=>hup2l,?_,hbk.upd huz oM,hlz,?_,?_,?_,?_⟩⟩
   ·rw [hu.block _ oM,hu9.block _ oM];exact hl8
   ·exact (hb9.upd hu oM).upd huz oM
   ·refine ⟨by have:=hu9.size;have:=hu.size;have:=huz.size;omega,λ k hk hl=>⟨⟨hk,hl⟩,?_⟩⟩;obtain ⟨c1,c2,c3,c4⟩:=(hGu k).1 hk;rw [huz.block k c4,hu.block k c3,hu9.block k c2,hb8.block k oM c1,hg23.block k oM];exact gkU k hk hl
   ·exact ((hy2.go (Carry.upd hu9 (λ k hk _=>((hGu k).1 hk).2.1))).go (Carry.upd hu (λ k hk _=>((hGu k).1 hk).2.2.1))).go (Carry.upd (F:=Gu) huz (λ k hk _=>((hGu k).1 hk).2.2.2))
   ·exact ((hp8.upd hu9 oM).upd hu oM).upd huz oM
   ·exact ((((eb2.trans (ButS.grow hg23)).trans hb8).upd hu9 oM).upd hu oM).upd huz oM
  ·refine ⟨nd0,g,⟨none,0,0,none,0,0,none,0,0⟩,by rw [List.drop_length];rfl,⟨rfl,.inl rfl,dM,dM,⟨by simp [nd0],by simp [nd0]⟩⟩,λ hh=>by omega,j15,j14,hlW,Carry.mono (λ k hk hl=>⟨hk,hl⟩),⟨kJ,iY,jK⟩,hpW,ButS.grow hgrW⟩
  ·rintro _ w1 ⟨u,rfl,⟨up1,g1,y,e1,e2,e3,e15,e14,el,ec,en,ep,eb⟩|hf⟩;rotate_left
   ·exact hf.elim
   rw [List.drop_zero,hpu] at e1;simp only [Option.some.injEq,Prod.mk.injEq] at e1;obtain ⟨rfl,rfl⟩:=e1;refine ⟨u,rfl,?_,.inl ⟨el,λ I w2 hu2=>?_⟩⟩
   ·rw [(ec.blk D (hGn _ oM oM oM oM) oM).2];exact hDW
   ·have hul:=hu2.size;have zec:=ec.size;have gu:∀ k,w.heap.size≤k→k≠b15→k≠b14→k≠D+1→k<W.heap.size→w2.heap[k]? = W.heap[k]?:=λ k h1 h2 h3 h4 h5=>(hu2.block k h4).trans (ec.blk k (hGn k h1 h2 h3 h4) h5).2;have f15:=e15.upd hu2 oM;have f8:=dS j8 (gu b8 oM oM oM oM oM);have f9:=dS j9 (gu b9 oM oM oM oM oM);have f4:=dS j4 (gu b4 oM oM oM oM oM);have fD:w2.heap[D]? = some (.deferred (some [])):=(gu D oM oM oM oM oM).trans hDW;have fn:=en.go (Carry.upd (F:=Gu) hu2 (λ k hk _=>((hGu k).1 hk).2.2.2));have fp:=ep.upd hu2 oM;have fb2:ButS L.S w w2:=eb.upd hu2 oM;have hn2:=bR fn.kids;clear e15 e14 el ec en ep eb hu2 hbk hsz hli j4 j8 j9 j11 j13 j14 j15 hb1 hfs hfc hkW hvW;rcases hend with ⟨hk1,rfl⟩|⟨hk1,hwp⟩
    ·have hy2:y.n2=1:=by rw [hn2,hk1];rfl
     have hsk:=fn.kids;rw [hk1] at hsk;have hcx:w2.cell? (at' y.a2 0)=some (.int .i64 (n':Int)):=hsk.row.cell rfl;repeat (first|(refine aH ?_;refine aC (j:=0) rfl rfl rfl oM rfl ⟨_,_,hsk⟩ rfl ?_)|refine yC ?_|refine yJ λ w' hu hbk hsz=>?_)
     rename_i w7 hu7 hb7 z7;refine ⟨?_,λ wz huz=>?_⟩
     ·rw [hu.block D oM,hu7.block D oM];exact fD
     ·refine retCC rfl (kN ((hb7.upd hu oM).upd huz oM)) rfl (kN (hbk.upd huz oM)) ⟨_,rfl,rfl,?_,((fb2.upd hu7 oM).upd hu oM).upd huz oM⟩;exact ((fp.upd hu7 oM).upd hu oM).upd huz oM
    ·have hy2:y.n2≠1:=by rw [hn2];exact hk1
     obtain ⟨hok,hnw⟩:=gK hwp;repeat refine aF ?_
     refine aB 84 ?_;refine aA rfl (write_c fp (ht.buts fb2 h0) _ y up fn hok (lV hok e2.by') n' hnw) rfl ?_;rintro _ w6' ⟨rfl,hp6,hb6⟩;have f8':=bY f8 hb6 (hSl _ oM);have f9':=bY f9 hb6 (hSl _ oM);have fD':w6'.heap[D]? = some (.deferred (some [])):=(hb6.block D oM (hSl _ oM)).trans fD;have zz:=hb6.size;clear f8 f9 f15 f4;repeat (first|refine aF ?_|refine yJ λ w' hu hbk hsz=>?_)
     rename_i w7 hu7 hb7 z7;refine ⟨?_,λ wz huz=>?_⟩
     ·rw [hu.block D oM,hu7.block D oM];exact fD'
     ·refine retCC rfl (kN ((hb7.upd hu oM).upd huz oM)) rfl (kN (hbk.upd huz oM)) ⟨_,rfl,rfl,?_,(((fb2.trans hb6).upd hu7 oM).upd hu oM).upd huz oM⟩;exact ((hp6.upd hu7 oM).upd hu oM).upd huz oM
end Go.Proofs.YtfpadnmdafiddaaGreatDoor
namespace Go.V
open Go Go.RowKit
def DetA [Rn] (P:Program) (n:Nat) (l:List Oper) (e:dJ) (I:Bool→World→Prop) (vs:List Value) (A i:Nat):Prop :=
 match l[i]? with
 | none=>True
 | some o=>∀ b w,(i=A→b=false)→I b w→TL P n l.toArray [o] (iZ l vs (lI (bH o)) e) w (detQ o.dst (vs.getD i undef) (I (b || Nat.beq i A)))
def AllDetA [Rn] (P:Program) (n:Nat) (l:List Oper) (e:dJ) (I:Bool→World→Prop) (vs:List Value) (A:Nat):Nat→Nat→Prop
 | _,0=>True
 | i,k+1=>DetA P n l e I vs A i∧AllDetA P n l e I vs A (i+1) k
section
variable [Rn]
variable {P:Program} {n:Nat} {l:List Oper} {e:dJ} {I:Bool→World→Prop} {vs:List Value} {A N:Nat} {Q:dI}
theorem allDetA_at:∀ {k i:Nat},AllDetA P n l e I vs A i k→∀ j,i≤j→j<i+k→DetA P n l e I vs A j
 | 0,_,_,j,h1,h2=>by omega
 | k+1,i,h,j,h1,h2=>by
  by_cases hj:j=i
  ·subst hj;exact h.1
  ·exact allDetA_at h.2 j oM oM
theorem gI {i:Nat}:AllDetA P n l e I vs A i 0:=trivial
theorem fV {i k:Nat} (h:DetA P n l e I vs A i) (hs:AllDetA P n l e I vs A (i+1) k):AllDetA P n l e I vs A i (k+1):=⟨h,hs⟩
theorem aU {i:Nat} {d:Option Nat} {op:Op} {ty:TypeId} {pos:String} {aft:Array Edge} {v:Value} {e':dJ} (ho:l[i]? = some ⟨d,op,ty,pos,aft,none⟩) (hv:vs.getD i undef=v) (he:iZ l vs (lI (bH ⟨d,op,ty,pos,aft,none⟩)) e=e')
  (h:∀ b w,(i=A→b=false)→I b w→TL P n #[] [⟨d,op,ty,pos,aft,none⟩] e' w (detQ d v (I (b || Nat.beq i A)))):DetA P n l e I vs A i:=by
 unfold DetA;rw [ho];simp only;intro b w hb hw;subst he;rw [hv];exact TL.lone (h b w hb hw)
structure MidZ (n:Nat) (l:List Oper) (e:dJ) (I:Bool→World→Prop) (vs:List Value) (A N:Nat) (listed:Array Bool) (a:Act) (w:World):Prop where
 size:listed.size=l.length
 inv:I (listed.getD A false) w
 defers:a.defers=Rn.ds
 tmps:a.tmps.size=n
 get:∀ t v,find e t=some v→a.tmps.getD t undef=v
 did:∀ i,i<N→listed.getD i false=true→∀ d,mF l i=some d→a.tmps.getD d undef=vs.getD i undef
 rest:∀ i,N≤i→listed.getD i false=false
 closed:∀ j o,l[j]? = some o→listed.getD j false=true→∀ x∈bH o,listed.getD x false=true
theorem detA_runs (hN:N≤l.length) (hh:∀ i,i<N→DHead l e n i) (hsink:∀ o,l[N]? = some o→∀ i,i<N→i∈bH o)
  (ht:∀ j,N≤j→j<l.length→∃ o,l[j]? = some o∧(∀ x∈bH o,x<j)∧(j=N∨j-1∈bH o)) (hdo:∀ i,i<N→DetA P n l e I vs A i)
  (hA:A<N) (htail:∀ w,I true w→TL P n l.toArray (l.drop N) (iZ l vs (nD 0 N) e) w Q) :
  ∀ (m:Nat) (listed:Array Bool) (a:Act) (w:World) (f:Nat),MidZ n l e I vs A N listed a w →
   ((List.range N).filter λ i=>!(listed.getD i false)).length=m→f=m+(l.length-N)→wpAnyIn (FR Rn.ro) 0 P .any l.toArray (iL n Q) f listed a w:=by
 intro m
 induction m with
 | zero =>
  intro listed a w f mid hm hf
  have hall:∀ i,i<N→listed.getD i false=true:=by
   intro i hi;have:=List.eq_nil_of_length_eq_zero hm;have h2:=List.eq_nil_iff_forall_not_mem.1 this i;simp only [List.mem_filter,List.mem_range,not_and,Bool.not_eq_true',Bool.not_eq_false] at h2;exact h2 hi
  refine nG ht f N listed a w oM (Nat.le_refl _) mid.size hall (λ x hx hx2=>?_) ?_
  ·have:=mid.rest x hx;rw [Array.getD_eq_getD_getElem?] at this ⊢
   cases hy:listed[x]? with
   | none=>rw [Array.getElem?_eq_none_iff] at hy;have:=mid.size;omega
   | some b=>simpa [hy] using this
  ·refine (htail w (by have:=mid.inv;rw [hall A hA] at this;exact this)).out ⟨mid.defers,mid.tmps,λ t v hv=>?_⟩;rcases kT hv with ⟨j,hj,h1,rfl⟩|h3
   ·have hjN:=(fH.1 hj).2;exact mid.did j oM (hall j oM) t h1
   ·exact mid.get t v h3
 | succ m ih =>
  intro listed a w f mid hm hf
  have hopen:∃ i,i<N∧listed.getD i false=false:=by
   have hne:((List.range N).filter λ i=>!(listed.getD i false))≠[]:=by intro h0;rw [h0] at hm;simp at hm
   obtain ⟨i,hi⟩:=List.exists_mem_of_ne_nil _ hne;simp only [List.mem_filter,List.mem_range,Bool.not_eq_true'] at hi;exact ⟨i,hi.1,hi.2⟩
  obtain ⟨f',rfl⟩:∃ f',f=f'+1:=⟨f-1,oM⟩
  have hready:∀ j,j∈Region.ready .any l.toArray listed→j<N∧listed.getD j false=false:=by
   intro j hj;obtain ⟨h3,o,h4,h5⟩:=cZ.1 hj;have hlt:j<l.length:=(List.getElem?_eq_some_iff.1 h4).1
   have hf2:listed.getD j false=false:=by
    rw [Array.getD_eq_getD_getElem?] at h3 ⊢
    cases hx:listed[j]? with
    | none=>simp
    | some b=>simpa [hx] using h3
   refine ⟨?_,hf2⟩;rcases Nat.lt_or_ge j N with h|h
   ·exact h
   ·exfalso;obtain ⟨o2,h6,_,h7⟩:=ht j h hlt;rw [h4] at h6;cases h6;obtain ⟨i,hi,hi0⟩:=hopen;by_cases hjN:j=N
    ·subst hjN;have:=h5 i (hsink o h4 i hi);rw [hi0] at this;cases this
    ·have h8:=h5 (j-1) (h7.resolve_left hjN);rw [mid.rest (j-1) oM] at h8;cases h8
  have hsome:Region.ready .any l.toArray listed≠[]:=by
   have key:∀ k i,i≤k→i<N→listed.getD i false=false→∃ j,j∈Region.ready .any l.toArray listed:=by
    intro k
    induction k with
    | zero =>
     intro i hi hiN hl;obtain ⟨o,ho,_,hdeps⟩:=(hh i hiN).ex;refine ⟨i,cZ.2 ⟨?_,o,ho,λ x hx=>?_⟩⟩
     ·rw [Array.getD_eq_getD_getElem?] at hl ⊢
      cases hx:listed[i]? with
      | none=>rw [Array.getElem?_eq_none_iff] at hx;have:=mid.size;omega
      | some b=>simpa [hx] using hl
     ·have:=hdeps x hx;omega
    | succ k ihk =>
     intro i hi hiN hl;obtain ⟨o,ho,_,hdeps⟩:=(hh i hiN).ex;by_cases hx:∃ x∈bH o,listed.getD x false=false
     ·obtain ⟨x,hx1,hx2⟩:=hx;have:=hdeps x hx1;exact ihk x oM oM hx2
     ·refine ⟨i,cZ.2 ⟨?_,o,ho,λ x hx1=>?_⟩⟩
      ·rw [Array.getD_eq_getD_getElem?] at hl ⊢
       cases hx:listed[i]? with
       | none=>rw [Array.getElem?_eq_none_iff] at hx;have:=mid.size;omega
       | some b=>simpa [hx] using hl
      ·cases hv:listed.getD x false with
       | true=>rfl
       | false=>exact absurd ⟨x,hx1,hv⟩ hx
   obtain ⟨i,hi,hi0⟩:=hopen;obtain ⟨j,hj⟩:=key i i (Nat.le_refl _) hi hi0;intro h0;rw [h0] at hj;cases hj
  refine ⟨λ h0=>absurd h0 hsome,λ i hir=>?_⟩;obtain ⟨hiN,hil⟩:=hready i hir;obtain ⟨_,o,ho,hdl⟩:=cZ.1 hir;obtain ⟨o',ho',hd,hdeps⟩:=(hh i hiN).ex;rw [ho] at ho';cases ho';have hdst:mF l i=o.dst:=by simp [mF,ho]
  have hdo':=hdo i hiN;unfold DetA at hdo';simp only [ho] at hdo'
  have hfit:Fits n (iZ l vs (lI (bH o)) e) a:=⟨mid.defers,mid.tmps,λ t v hv=>by
   rcases kT hv with ⟨j,hj,h1,rfl⟩|h3
   ·have hj':=fI.1 hj;exact mid.did j (by have:=hdeps j hj';omega) (hdl j hj') t h1
   ·exact mid.get t v h3⟩
  have hrun:=(hdo' (listed.getD A false) w (λ e=>by rw [← e];exact hil) mid.inv).out hfit;unfold wpOpIn;rw [show l.toArray[i]? = some o by simpa using ho];simp only
  have hnext:∀ a' w',iL n (detQ o.dst (vs.getD i undef) (I (listed.getD A false || Nat.beq i A))) .normal a' w'→(∃ v,a'.tmps=(a.put o.dst v).tmps)→wpAnyIn (FR Rn.ro) 0 P .any l.toArray (iL n Q) f' (listed.setIfInBounds i true) a' w':=by
   rintro a' w' ⟨e',he',hv,hI'⟩ ⟨u,hu⟩
   have hother:∀ t,o.dst≠some t→a'.tmps.getD t undef=a.tmps.getD t undef:=λ t htd=>by
    rw [hu]
    cases hod:o.dst with
    | none=>rfl
    | some d =>
     rw [jS (by rw [mid.tmps];exact (hd d hod).1),if_neg (λ h=>htd (by rw [hod,h]))]
   have hIn:I ((listed.setIfInBounds i true).getD A false) w':=by
    have hsz:i<listed.size:=by rw [mid.size];exact (List.getElem?_eq_some_iff.1 ho).1
    by_cases hiA:A=i
    ·subst hiA;have e1:(listed.setIfInBounds A true).getD A false=true:=by simp [Array.getD_eq_getD_getElem?,hsz]
     rw [e1];rw [Nat.beq_refl,Bool.or_true] at hI';exact hI'
    ·rw [eH hiA]
     have e2:Nat.beq i A=false:=by
      cases hb:Nat.beq i A with
      | false=>rfl
      | true=>exact absurd (Nat.eq_of_beq_eq_true hb).symm hiA
     rw [e2,Bool.or_false] at hI';exact hI'
   refine ih (listed.setIfInBounds i true) a' w' f' ⟨by simp [mid.size],hIn,he'.defers,he'.size,λ t v hv=>?_,λ j hj hjl d hjd=>?_,λ j hj=>?_,λ j oj hoj hjl x hx=>?_⟩ ?_ oM
   ·rw [hother t (λ h=>by rw [(hd t h).2.1] at hv;cases hv)];exact mid.get t v hv
   ·by_cases hji:j=i
    ·subst hji;rw [hdst] at hjd;exact he'.get d _ (hv d hjd)
    ·rw [eH hji] at hjl
     have hne:o.dst≠some d:=by
      intro hod;rcases Nat.lt_or_ge j i with h|h
      ·exact (hd d hod).2.2 j h hjd
      ·obtain ⟨oj,hoj,hdj,_⟩:=(hh j hj).ex;have:mF l j=oj.dst:=by simp [mF,hoj]
       rw [this] at hjd;exact (hdj d hjd).2.2 i oM (by rw [hdst];exact hod)
     rw [hother d hne];exact mid.did j hj hjl d hjd
   ·rw [eH oM];exact mid.rest j hj
   ·by_cases hxi:x=i
    ·subst hxi;have hsz:x<listed.size:=by rw [mid.size];exact (List.getElem?_eq_some_iff.1 ho).1
     simp [Array.getD_eq_getD_getElem?,hsz]
    ·rw [eH hxi];by_cases hji:j=i
     ·subst hji;rw [ho] at hoj;cases hoj;exact hdl x hx
     ·rw [eH hji] at hjl;exact mid.closed j oj hoj hjl x hx
   ·have hcount:∀ (L:List Nat),L.Nodup→i∈L→(L.filter λ j=>!((listed.setIfInBounds i true).getD j false)).length+1=(L.filter λ j=>!(listed.getD j false)).length:=by
     intro L
     induction L with
     | nil=>intro _ h;cases h
     | cons x xs ihx =>
      intro hnd hmem;rw [List.nodup_cons] at hnd;have hsz:i<listed.size:=by rw [mid.size];exact (List.getElem?_eq_some_iff.1 ho).1
      by_cases hxi:x=i
      ·subst hxi
       have hsame:(xs.filter λ j=>!((listed.setIfInBounds x true).getD j false))=xs.filter λ j=>!(listed.getD j false):=by
        apply List.filter_congr;intro y hy;rw [eH (λ (h:y=x)=>hnd.1 (by rw [← h];exact hy))]
       have h1:(listed.setIfInBounds x true).getD x false=true:=by simp [Array.getD_eq_getD_getElem?,hsz]
       rw [List.filter_cons_of_neg (by simp [h1]),hsame,List.filter_cons_of_pos (by simp [hil])];simp
      ·have hmem':i∈xs:=by
        rcases List.mem_cons.1 hmem with h|h
        ·exact absurd h.symm hxi
        ·exact h
       have:=ihx hnd.2 hmem';have hx2:(listed.setIfInBounds i true).getD x false=listed.getD x false:=eH hxi
       cases hc:listed.getD x false with
       | true=>rw [List.filter_cons_of_neg (by simp [hx2,hc]),List.filter_cons_of_neg (by simp [hc])];exact this
       | false=>rw [List.filter_cons_of_pos (by simp [hx2,hc]),List.filter_cons_of_pos (by simp [hc])];simp only [List.length_cons];omega
    have:=hcount (List.range N) List.nodup_range (List.mem_range.2 hiN);omega
  unfold wpListIn at hrun;split
  ·rename_i hw;rw [if_pos hw] at hrun
   exact (Oper.wpIn_mono (λ a' w' hh=>hnext a' w' hh.1 hh.2) (wp_swap (wp_frame hrun) (λ x a w hx hq=>by
     refine (lift_no hq λ e0 w0 hq=>?_).elim
     cases x<;>first|exact absurd rfl hx|exact hq)))
  ·rename_i hw;rw [if_neg hw] at hrun;exact ⟨hrun.1,hnext _ _ hrun.2 ⟨undef,by cases o.dst<;>rfl⟩⟩
theorem T.detA {rid:Nat} {w0:World} (N A:Nat) (vs:List Value) (I:Bool→World→Prop) [hm:Mixed P] (hc:(headDet l e n 0 N&&mZ l N N (l.length-N)&&Nat.ble N l.length&&sinkDet l N&&Nat.blt A N)=true) (h0:∀ w,Grow w0 w→I false w)
  (hdo:AllDetA P n l e I vs A 0 N) (htail:∀ w,I true w→TL P n l.toArray (l.drop N) (iZ l vs (nD 0 N) e) w Q):T P n (.region rid l.toArray true) e w0 Q:=by
 simp only [Bool.and_eq_true] at hc;obtain ⟨⟨⟨⟨hc1,hc2⟩,hc3⟩,hc4⟩,hc5⟩:=hc;refine T.mk λ a ha=>wpIn_region_any hm.h ?_
 refine detA_runs (N:=N) (Nat.le_of_ble_eq_true hc3) (λ i hi=>headDet_at hc1 i (Nat.zero_le _) oM) (λ o ho i hi=>?_) (λ j h1 h2=>lR hc2 j h1 oM) (λ i hi=>allDetA_at hdo i (Nat.zero_le _) oM) (Nat.le_of_ble_eq_true hc5) htail
  N (Array.replicate l.toArray.size false) a _ _ ⟨sM,(by
   have e1:(Array.replicate l.toArray.size false).getD A false=false:=by
    rw [Array.getD_eq_getD_getElem?];rcases Nat.lt_or_ge A l.length with hi|hi
    ·simp [hi]
    ·simp [hi]
   rw [e1];exact h0 _ (Grow.drew _)),ha.defers,ha.size,ha.get,λ i _ h=>?_,λ i _=>?_,λ j o _ h x _=>?_⟩ ?_ ?_
 ·unfold sinkDet at hc4;rw [ho] at hc4;exact any_beq.1 (List.all_eq_true.1 hc4 i (fH.2 ⟨Nat.zero_le _,oM⟩))
 ·exfalso;rw [Array.getD_eq_getD_getElem?] at h;rcases Nat.lt_or_ge i l.length with hi|hi
  ·simp [hi] at h
  ·simp [hi] at h
 ·rw [Array.getD_eq_getD_getElem?];rcases Nat.lt_or_ge i l.length with hi|hi
  ·simp [hi]
  ·simp [hi]
 ·exfalso;rw [Array.getD_eq_getD_getElem?] at h;rcases Nat.lt_or_ge j l.length with hi|hi
  ·simp [hi] at h
  ·simp [hi] at h
 ·have:((List.range N).filter λ i=>!((Array.replicate l.toArray.size false).getD i false))=List.range N:=by
   rw [List.filter_eq_self];intro i hi;rw [Array.getD_eq_getD_getElem?];rcases Nat.lt_or_ge i l.length with hi|hi
   ·simp [hi]
   ·simp [hi]
  rw [this];simp
 ·have:=Nat.le_of_ble_eq_true hc3;simp;omega
end
end Go.V
namespace Go.Proofs.YtfpadnmdafiddaaGreatDoor
open Go Go.RowKit Go.V
structure Two (G:Nat→Prop) (w0:World) (b3 b5 b6 b8:Nat) (w:World) (X Y:NV) (NA NB:Nd) (ka:Option Addr) (kn kc:Nat) (key:Bs):Prop where
 e3:Blk w b3 79 X.cs
 e5:Blk w b5 79 Y.cs
 e6:Blk w b6 79 nil3
 e8:Blk w b8 79 nil3
 hx:NdAt G w X NA
 hy:NdAt G w Y NB
 hk:Sl G w 1 ka kn kc (bB key)
 hg:Grow w0 w
 out:∀ k,G k→k≠b3∧k≠b5∧k≠b6∧k≠b8
 ne:b3≠b5∧b3≠b6∧b3≠b8∧b5≠b6∧b5≠b8∧b6≠b8
 le:w0.heap.size≤b3∧w0.heap.size≤b5∧w0.heap.size≤b6∧w0.heap.size≤b8
section
variable {G:Nat→Prop} {w0 w w':World} {b3 b5 b6 b8:Nat} {X Y Z:NV} {NA NB NC:Nd} {ka:Option Addr} {kn kc:Nat} {key:Bs}
theorem Two.grow (S:Two G w0 b3 b5 b6 b8 w X Y NA NB ka kn kc key) (g:Grow w w'):Two G w0 b3 b5 b6 b8 w' X Y NA NB ka kn kc key :=
 ⟨S.e3.grow g,S.e5.grow g,S.e6.grow g,S.e8.grow g,S.hx.go (Carry.grow g),S.hy.go (Carry.grow g),S.hk.grow g,S.hg.trans g,S.out,S.ne,S.le⟩
theorem NdAt.nums {F:Nat→Prop} {w:World} {x:NV} {nd:Nd} (h:NdAt F w x nd):x.n1=nd.items.length∧x.n2=nd.kids.length∧x.n3=nd.keys.length:=⟨h.its.len,bR h.kids,h.kys.len⟩
end
end Go.Proofs.YtfpadnmdafiddaaGreatDoor
