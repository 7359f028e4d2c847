import Derived.Test.YtfpadnmdafiddaaGreatDoorJ0
import Derived.Test.YtfpadnmdafiddaaGreatDoorJn
import Derived.Test.YtfpadnmdafiddaaGreatDoorJl
import Derived.Test.YtfpadnmdafiddaaGreatDoorJm
import Derived.Test.YtfpadnmdafiddaaGreatDoorJh
import Derived.Test.YtfpadnmdafiddaaGreatDoorJd
set_option linter.all false
set_option maxHeartbeats 16000000
set_option maxRecDepth 100000
namespace Go.Proofs.YtfpadnmdafiddaaGreatDoor
open Go Go.RowKit Go.V
structure RL where
 p:Nat
 d:Nat
 b:Nat
 c:Nat
 u:Nat
def us (g:Pg):List Value:=(List.range g.count).map λ n=>.bool (bK g n)
theorem nP (g:Pg):(us g).length=g.count:=by simp [us]
theorem us_at {g:Pg} {n:Nat} (h:n<g.count):(us g)[n]? = some (.bool (bK g n)):=by simp [us,h]
def RL.S (R:RL) (k:Nat):Prop:=k=R.p∨k=R.c∨k=R.u
structure SecAt (K:Nat→Prop) (w:World) (cs:List Value) (j:Nat) (l:Bs):Prop where
 ex:∃ a c,cs[j]? = some (.slice (some a) 256 c)∧Sl K w 1 (some a) 256 c (bB l)
theorem SecAt.go {K K':Nat→Prop} {w w':World} {cs:List Value} {j:Nat} {l:Bs} (h:SecAt K w cs j l) (g:Carry K w K' w'):SecAt K' w' cs j l:=by
 obtain ⟨a,c,h1,h2⟩:=h.ex;exact ⟨a,c,h1,h2.go g⟩
structure RfAt (K:Nat→Prop) (w:World) (R:RL) (g:Pg):Prop where
 blk:Blk w R.p 174 [.pointer (some ⟨R.d,0,none⟩),.slice (some ⟨R.u,0,none⟩) g.count g.count]
 dsk:Blk w R.d 171 [.slice (some ⟨R.b,0,none⟩) (512*g.count) (512*g.count),.slice (some ⟨R.c,0,none⟩) (2*g.count) (2*g.count)]
 used:Blk w R.u 4 (us g)
 ok:PgOk g
 cache:∃ cs,cs.length=2*g.count∧Blk w R.c 30 cs∧∀ n,bK g n=true→SecAt K w cs (2*n) ((gS n (g.body n)).take 256)∧SecAt K w cs (2*n+1) ((gS n (g.body n)).drop 256)
 lt:∀ n,∀ x∈g.body n,x<256
 bl:∀ n,bK g n=true→(g.body n).length=500
 kne:∀ k,K k→¬ R.S k
 ne:R.p≠R.d∧R.p≠R.c∧R.p≠R.u∧R.d≠R.c∧R.d≠R.u∧R.c≠R.u
theorem RfAt.cnt {K:Nat→Prop} {w:World} {R:RL} {g:Pg} (h:RfAt K w R g):g.count≤8192:=h.ok.cnt
theorem RfAt.lts {K:Nat→Prop} {w:World} {R:RL} {g:Pg} (h:RfAt K w R g):R.p<w.heap.size∧R.d<w.heap.size∧R.c<w.heap.size∧R.u<w.heap.size:=by
 obtain ⟨cs,_,h1,_⟩:=h.cache;exact ⟨h.blk.lt,h.dsk.lt,h1.lt,h.used.lt⟩
theorem RfAt.keep {K:Nat→Prop} {w w':World} {R:RL} {g:Pg} (h:RfAt K w R g) (c:Carry K w K w') (hb:∀ k,k=R.p∨k=R.d∨k=R.c∨k=R.u→w'.heap[k]? = w.heap[k]?):RfAt K w' R g:=by
 obtain ⟨cs,h1,h2,h3⟩:=h.cache;exact ⟨dO h.blk (hb _ sM),dO h.dsk (hb _ sM),dO h.used (hb _ sM),h.ok,⟨cs,h1,dO h2 (hb _ sM),λ n hn=>⟨(h3 n hn).1.go c,(h3 n hn).2.go c⟩⟩,h.lt,h.bl,h.kne,h.ne⟩
theorem RfAt.grow {K:Nat→Prop} {w w':World} {R:RL} {g:Pg} (h:RfAt K w R g) (gr:Grow w w'):RfAt K w' R g :=
 h.keep (Carry.grow gr) λ k hk=>gr.block k (by have:=h.lts;omega)
theorem RfAt.buts {K S:Nat→Prop} {w w':World} {R:RL} {g:Pg} (h:RfAt K w R g) (u:ButS S w w') (h1:∀ k,K k→¬ S k) (h2:∀ k,k=R.p∨k=R.d∨k=R.c∨k=R.u→¬ S k):RfAt K w' R g :=
 h.keep (Carry.buts u λ k hk _=>h1 k hk) λ k hk=>u.block k (by have:=h.lts;omega) (h2 k hk)
theorem RfAt.upd {K:Nat→Prop} {w w':World} {R:RL} {g:Pg} {b:Nat} (h:RfAt K w R g) (u:Upd b w w') (h1:¬ K b∨w.heap.size≤b) (h2:b≠R.p∧b≠R.d∧b≠R.c∧b≠R.u):RfAt K w' R g :=
 h.keep ⟨Nat.le_of_eq u.size.symm,λ k hk hl=>⟨hk,u.block k (λ e=>by subst e;rcases h1 with h1|h1<;>first|exact h1 hk|omega)⟩⟩ λ k hk=>u.block k oM
theorem rsize_c (d:Nat) (bv:Value) (ca:Option Addr) (m c:Nat) (w:World) (h:Blk w d 171 [bv,.slice ca m c]) :
  Calls Tryz.prog 103 #[.pointer (some ⟨d,0,none⟩)] w (Ret λ v w'=>v=.int .i64 (m:Int)∧w=w'):=by
 refine V.calls (args:=[_]) Tryz.func103 rfl Tryz.ntmps103 rfl rfl ?_;repeat refine dB ?_
 exact bA rfl ⟨_,rfl,rfl,rfl⟩
theorem rdread_c (K:Nat→Prop) (d b c m j:Nat) (bl:Nat) (cs:List Value) (l:Bs) (w:World) (h:Blk w d 171 [.slice (some ⟨b,0,none⟩) bl bl,.slice (some ⟨c,0,none⟩) m m]) (hc:Blk w c 30 cs) (m0:cs.length=m) (hm:m≤100000) (hj:j<m) (hl:l.length=256) (hs:SecAt K w cs j l) :
  Calls Tryz.prog 204 #[.pointer (some ⟨d,0,none⟩),.int .i64 (j:Int)] w (Ret λ v w'=>∃ u,v=.tuple #[u,.int .i64 0]∧w'.ownsRow w.heap.size 5 1 u 256 (bB l)∧Grow w w'):=by
 obtain ⟨a,cc,h1,h2⟩:=hs.ex;have g0:Sl (λ k=>k=c) w 1 (some ⟨c,0,none⟩) m m cs:=aU (sz:=1) (m:=m) hc oM (by unfold maxLen;omega);have h0:w.cell? (at' (some ⟨c,0,none⟩) j)=some (.slice (some a) 256 cc):=g0.row.cell h1;refine V.calls (args:=[_,_]) Tryz.func204 rfl Tryz.ntmps204 rfl rfl ?_;repeat (first|(refine aB 103 ?_;refine aA rfl (rsize_c d _ _ m _ _ h) rfl ?_;rintro _ _ ⟨rfl,rfl⟩)|(refine aH ?_;refine aC (j:=j) rfl rfl rfl hj (Nat.mul_one _) ⟨_,_,g0.grow yG⟩ rfl ?_)|refine yC ?_|refine yI λ bk w' hg k0 l0 i0=>?_)
 refine TL.append rfl rfl (eI (base:=w.heap.size) k0 oM) (h2.grow yG) (bP l) (by unfold maxLen;omega) oM oM rfl ?_;intro v1 w1 e0 f0 _;have a0:w1.ownsRow w.heap.size 5 1 v1 256 (bB l):=by simpa using e0
 have j0:Grow w w1:=Grow.mk (aL f0 oM (λ k hk=>by simp only [Value.ownBlock,Option.some.injEq] at hk;omega) hg.1);repeat refine aF ?_
 exact eZ rfl rfl ⟨_,rfl,v1,rfl,a0,j0⟩
theorem rdwrite_c (F:Nat→Prop) (d b c m j:Nat) (bl:Nat) (cs:List Value) (a:Option Addr) (ac:Nat) (l:Bs) (w:World) (h:Blk w d 171 [.slice (some ⟨b,0,none⟩) bl bl,.slice (some ⟨c,0,none⟩) m m]) (hc:Blk w c 30 cs) (q0:cs.length=m) (hm:m≤100000) (hj:j<m) (hs:Sl F w 1 a 256 ac (bB l)) :
  Calls Tryz.prog 126 #[.pointer (some ⟨d,0,none⟩),.int .i64 (j:Int),.slice a 256 ac] w (Ret λ v w'=>v=.int .i64 0∧∃ g i0,Blk w' c 30 (cs.set j (.slice (some ⟨g,0,none⟩) 256 i0))∧Sl (λ k=>w.heap.size≤k) w' 1 (some ⟨g,0,none⟩) 256 i0 (bB l)∧But c w w'):=by
 have x0:=hQ hs;have m0:Sl (λ k=>k=c) w 1 (some ⟨c,0,none⟩) m m cs:=aU (sz:=1) (m:=m) hc oM (by unfold maxLen;omega);refine V.calls (args:=[_,_,_]) Tryz.func126 rfl Tryz.ntmps126 rfl rfl ?_;repeat (first|(refine aB 103 ?_;refine aA rfl (rsize_c d _ _ m _ _ h) rfl ?_;rintro _ _ ⟨rfl,rfl⟩)|refine yC ?_)
 apply T.anyL 8 7 [is (.pointer (some ⟨d,0,none⟩)),is (.pointer (some ⟨d,0,none⟩)),is (.pointer (some ⟨d,1,none⟩)),is (.slice (some ⟨c,0,none⟩) m m),is (.int .i64 (j:Int)),own w.heap.size 5 1 0 [],is (.slice a 256 ac),own w.heap.size 5 1 256 (bB l)]
 ·rfl
 ·rfl
 ·repeat' (first|exact aM|refine aK ?_ ?_)
  iterate 5
   ·refine yQ λ wq _ _ a0=>?_;repeat refine aF ?_
    exact aD rfl yG rfl
  ·refine yQ λ wq _ _ a0=>?_;have h4:=a0.size;repeat (first|refine aF ?_|refine yI λ bk w' hg s0 v0 n0=>?_)
   exact aD rfl yG (eI s0 oM)
  ·refine yQ λ wq _ _ a0=>?_;repeat refine aF ?_
   exact aD rfl yG rfl
  ·(((refine bR rfl rfl rfl ?_);( intro wq _ _ a0;(repeat (refine aJ rfl rfl ?_;intro vq e0;try (obtain rfl:=e0)));(refine aY ?_))))
   have h4:=a0.size;have h0:World.ownsRow _ _ _ _ vq 0 []:=e0;refine TL.append rfl rfl h0 (hs.grow a0) (bP l) (by unfold maxLen;omega) oM oM rfl ?_;intro v' w3 g0 p0 _;repeat refine aF ?_
   exact one_loose rfl (aL p0 h4 (λ k hk=>(aT h0 hk).1) (Below.refl _ _)) (show w3.ownsRow w.heap.size 5 1 v' 256 (bB l) by simpa using g0)
 ·intro w9 u0 y0 j0 _ _;((((repeat (refine aJ rfl rfl ?_;intro vq e0;try (obtain rfl:=e0)));(refine aY ?_))))
  have z0:=hc.lt;have l0:w9.ownsRow w.heap.size 5 1 vq 256 (bB l):=e0;obtain ⟨g,i0,b1,rfl,o1,o2,o3,o4,o5,o6⟩:=own_blk l0 oM;obtain ⟨a',c',e',o0⟩:=aN l0;cases e';refine aC (j:=j) rfl rfl rfl hj (Nat.mul_one _) ⟨_,_,m0.grow j0⟩ rfl ?_;rw [show at' (some ⟨c,0,none⟩) j=⟨c,j,none⟩ by rw [at_some,Nat.zero_add]];refine dR rfl rfl (hc.grow j0) rfl (by rw [q0];exact Nat.ble_eq_true_of_le hj) rfl ?_;intro t0 f0 k0 _;repeat refine aF ?_
  exact bA rfl ⟨_,rfl,rfl,g,i0,k0,(o0.mono (λ k hk=>hk.1)).upd f0 (λ k hk=>by omega),but_upd f0 (but_grow' j0)⟩
theorem rpage_c (F:Nat→Prop) (n:Nat) (hn:n<2147483648) (a:Option Addr) (c:Nat) (b:Bs) (w:World) (hs:Sl F w 1 a b.length c (bB b)) (hm:b.length≤500) (hb:∀ x∈b,x<256) :
  Calls Tryz.prog 125 #[.int .i64 (n:Int),.slice a b.length c] w (Ret λ v w'=>∃ u,v=.tuple #[u,.int .i64 0]∧w'.ownsRow w.heap.size 5 1 u 512 (bB (gS n b))∧Grow w w'):=by
 refine V.calls (args:=[_,_]) Tryz.func125 rfl Tryz.ntmps125 rfl rfl ?_;refine dT 3 (λ e w3=>∃ v3,Sub [(6,v3),(0,.int .i64 (n:Int))] e∧w3.ownsRow w.heap.size 5 1 v3 500 (bB (dD b))∧Grow w w3) ?_ ?_;rotate_left
 ·repeat (first|refine aF ?_|refine yI λ bk w' hg v0 u1 k0=>?_)
  refine TL.append rfl rfl (eI (base:=w.heap.size) v0 oM) (hs.grow yG) (bP b) (by unfold maxLen;omega) oM oM rfl ?_;intro v1 w1 g0 s0 _;have a0:w1.ownsRow w.heap.size 5 1 v1 b.length (bB b):=by simpa using g0
  have o1:Grow w w1:=Grow.mk (aL s0 oM (λ k hk=>by simp only [Value.ownBlock,Option.some.injEq] at hk;omega) hg.1);have z2:=o1.size;clear g0 s0 v0 hg u1 k0;repeat refine aF ?_
  refine eU ?_;by_cases j0:b.length=500
  ·obtain ⟨a1,c1,rfl,j2⟩:=aN a0;have x0:dD b=b:=by unfold dD;rw [j0];simp [zs]
   have u2:=j2.cap;rw [show 500-b.length=0 by omega];refine TL.appendZ0 rfl rfl u2 rfl ?_;repeat refine aF ?_
   exact ⟨_,⟨rfl,rfl,trivial⟩,by rw [x0];rw [j0] at a0;rw [j0];exact a0,o1⟩
  ·refine TL.appendZ (zc:=.int .u8 0) (c:=500-b.length) rfl rfl rfl rfl a0 oM oM oM oM rfl ?_;intro v4 w4 e0 f1;repeat refine aF ?_
   refine ⟨v4,⟨rfl,rfl,trivial⟩,?_,Grow.mk (aL f1 oM (λ k hk=>(aT a0 hk).1) o1.1)⟩;have e5:bB (dD b)=bB b++List.replicate (500-b.length) (.int .u8 0):=by simp [dD,bB,zs]
   rw [e5];have:=e0;rwa [show b.length+(500-b.length)=500 by omega] at this
 rintro e w3 ⟨v3,l0,i0,m1⟩;refine bD (e':=[(6,_),(0,_)]) ?_ l0;clear l0;have o2:=jI b hm;have n0:=body_lt hb;obtain ⟨B,hB⟩:∃ B,B=dD b:=⟨_,rfl⟩
 have d2:gS n b=(shaB (bS n++B)).take 12++B:=by rw [hB];rfl
 rw [d2];rw [← hB] at o2 n0 i0;clear d2 hB;obtain ⟨a3,c3,rfl,b1⟩:=aN i0;have z3:=m1.size;repeat refine aF ?_
 refine aB 173 ?_;refine aA rfl (rword_c (λ _=>True) none 0 n [] _ (Sl.nil_mk _ _ _) sM oM) rfl ?_;rintro v4 w4 ⟨e0,u0⟩;obtain ⟨a4,c4,rfl,z1⟩:=aN e0;repeat refine aF ?_
 refine TL.buildSlice rfl rfl rfl rfl rfl ?_;intro b5 w5 t0 x0 r1 r2 r3;have e2:KysAt (λ _=>True) w5 (some ⟨b5,0,none⟩) 2 2 [bS n,B]:=⟨_,(aU (sz:=1) (m:=2) x0 r3 dM).mono (λ _ _=>trivial),⟨_,_,_,rfl,(z1.grow t0).mono (λ _ _=>trivial)⟩,⟨_,_,_,rfl,((b1.grow u0).grow t0).mono (λ _ _=>trivial)⟩,trivial⟩
 have ef:([bS n,B]:List Bs).flatten=bS n++B:=by simp
 refine aB 172 ?_
 refine aA rfl (rsum_c _ _ 2 2 [bS n,B] _ e2 (by rw [ef,List.length_append,lP];omega) (by
  rw [ef];intro x hx;rcases List.mem_append.1 hx with hx|hx
  ·exact word4_lt n x hx
  ·exact n0 x hx)) rfl ?_
 rintro _ w6 ⟨rfl,j1⟩;rw [ef];have hD:(shaB (bS n++B)).length=32:=kT _;generalize shaB (bS n++B)=D at *;have p0:Grow w w6:=(m1.trans u0).trans (t0.trans j1);have x1:=((b1.grow u0).grow t0).grow j1;clear m1 u0 t0 j1 b1 z1 x0 e2 i0 e0;have z6:=p0.size;repeat ((refine fN ?_;refine eP 32 zero_dig rfl ?_;intro b7 w7 h1 f2 q1 q2))
 refine fM rfl rfl f2 (cL _) hD ?_;intro w8 y0 w2 q3;have o0:Grow w w8:=aI y0 oM (p0.trans h1);have z0:Sl (λ k=>w.heap.size≤k∧k<w6.heap.size) w8 1 a3 500 c3 (bB B):=((x1.tight.mono (λ k hk=>⟨hk.1.1,hk.2⟩)).grow h1).upd y0 (λ k hk=>by omega);clear h1 f2 y0 x1;repeat (first|refine aF ?_|refine yI λ bk w' hg v0 u1 k0=>?_)
 have z8:=o0.size;have y1:=jQ (o:=0) (m:=12) (c:=32) (w2.grow hg) oM oM dM;rw [List.drop_zero] at y1;refine TL.append rfl rfl (eI (base:=w.heap.size) v0 oM) y1 (bP _) (by unfold maxLen;omega) oM oM rfl ?_;intro v9 w9 m0 e1 _;have f0:w9.ownsRow w.heap.size 5 1 v9 12 (bB (D.take 12)):=by simpa using m0
 have g1:Grow w8 w9:=Grow.mk (aL e1 oM (λ k hk=>by simp only [Value.ownBlock,Option.some.injEq] at hk;omega) hg.1);have z9:=g1.size;repeat refine aF ?_
 have s2:(D.take 12).length=12:=by rw [List.length_take];omega
 refine TL.append rfl rfl f0 (z0.grow g1) (bP _) (by unfold maxLen;omega) oM oM rfl ?_;intro h2 g2 h0 q0 _;have s1:Grow w g2:=Grow.mk (aL q0 oM (λ k hk=>(aT f0 hk).1) (o0.trans g1).1);repeat refine aF ?_
 exact eZ rfl rfl ⟨_,rfl,h2,rfl,by rw [dI];exact h0,s1⟩
theorem us_sl {w:World} {u:Nat} {g:Pg} (h:Blk w u 4 (us g)) (hc:g.count≤8192):Sl (λ k=>k=u) w 1 (some ⟨u,0,none⟩) g.count g.count (us g) :=
 aU (sz:=1) (m:=g.count) h (by rw [nP,Nat.mul_one]) (by unfold maxLen;omega)
theorem ris_c {K:Nat→Prop} {w:World} {R:RL} {g:Pg} (h:RfAt K w R g) (n:Nat) (hn:n<9223372036854775808) :
  Calls Tryz.prog 117 #[.pointer (some ⟨R.p,0,none⟩),.int .i64 (n:Int)] w (Ret λ v w'=>v=.bool (bK g n)∧w=w'):=by
 have hb:=h.blk;have e0:=us_sl h.used h.cnt;have h0:=h.cnt;refine V.calls (args:=[_,_]) Tryz.func117 rfl Tryz.ntmps117 rfl rfl ?_;by_cases a0:n<g.count
 ·have f0:w.cell? (at' (some ⟨R.u,0,none⟩) n)=some (.bool (bK g n)):=e0.row.cell (us_at a0);repeat (first|(refine aH ?_;refine aC (j:=n) rfl rfl rfl a0 (Nat.mul_one _) ⟨_,_,e0⟩ rfl ?_)|refine yC ?_)
  exact bA rfl ⟨_,rfl,rfl,rfl⟩
 ·have g0:bK g n=false:=by simp [bK,a0]
  rw [g0];repeat (refine yC ?_)
  exact bA rfl ⟨_,rfl,rfl,rfl⟩
theorem rpread_c {K:Nat→Prop} {w:World} {R:RL} {g:Pg} (h:RfAt K w R g) (n:Nat) (hu:bK g n=true) :
  Calls Tryz.prog 166 #[.pointer (some ⟨R.p,0,none⟩),.int .i64 (n:Int)] w (Ret λ v w'=>∃ u,v=.tuple #[u,.int .i64 0]∧w'.ownsRow w.heap.size 5 1 u 500 (bB (g.body n))∧Grow w w'):=by
 have y1:=dW hu;have d2:=h.cnt;have hb:=h.blk;have hd:=h.dsk;have v0:=h.bl n hu;have q1:=h.lt n;obtain ⟨cs,f1,u0,j0⟩:=h.cache;obtain ⟨l0,k0⟩:=j0 n hu;have m1:=lR n (g.body n) oM;have s1:dD (g.body n)=g.body n:=by unfold dD;rw [v0];simp [zs]
 have t0:(gS n (g.body n)).drop 12=g.body n:=by
  unfold gS;rw [s1,List.drop_left' (by rw [List.length_take,kT];rfl)]
 have j1:gS n ((gS n (g.body n)).drop 12)=gS n (g.body n):=by rw [t0]
 have b1:=ris_c h n oM;rw [hu] at b1;refine V.calls (args:=[_,_]) Tryz.func166 rfl Tryz.ntmps166 rfl rfl ?_;repeat (first|(refine aB 117 ?_;refine aA rfl (b1) rfl ?_;rintro _ _ ⟨rfl,rfl⟩)|(refine eN ?_;refine TL.mulN (a:=2) rfl rfl oM rfl ?_)|refine yC ?_)
 refine aB 204 ?_;refine aA rfl (rdread_c K _ _ _ (2*g.count) (2*n) _ cs _ _ hd u0 f1 oM oM (by rw [List.length_take];omega) l0) rfl ?_;rintro _ w1 ⟨u1,rfl,e0,i0⟩;repeat (first|(refine eN ?_;refine TL.mulN (a:=2) rfl rfl oM rfl ?_)|refine yC ?_)
 refine aB 204 ?_;refine aA rfl (rdread_c K _ _ _ (2*g.count) (2*n+1) _ cs _ _ (hd.grow i0) (u0.grow i0) f1 oM oM (by rw [List.length_drop];omega) (k0.go (Carry.grow i0))) rfl ?_;rintro _ w2 ⟨u2,rfl,h0,o0⟩;have z1:=i0.size;have z2:=o0.size;obtain ⟨a2,c2,rfl,y0⟩:=aN h0;repeat refine aF ?_
 refine TL.append rfl rfl (aS e0 o0) y0 (bP _) (by unfold maxLen;omega) oM oM rfl ?_;intro v3 w3 a0 n0 _;rw [← dI,List.take_append_drop] at a0;have e1:Grow w w3:=Grow.mk (aL n0 oM (λ k hk=>(aT (aS e0 o0) hk).1) (i0.trans o0).1);obtain ⟨a3,c3,rfl,p0⟩:=aN a0;obtain ⟨pg,z0⟩:∃ pg,pg=gS n (g.body n):=⟨_,rfl⟩
 rw [← z0] at p0 m1 t0 j1;have e2:=p0.cap
 have x0:Sl (λ k=>w.heap.size≤k) w3 1 (eM a3 c3 12 1) (g.body n).length (c3-12) (bB (g.body n)):=by
  have:=(eX (l:=12) (h:=512) (mm:=c3) p0 oM oM oM (Nat.le_refl _)).mono (λ k hk=>hk.1);rw [List.take_of_length_le (by rw [List.length_drop,bF];omega)] at this;rw [Nat.mul_one,show (bB pg).drop 12=bB (pg.drop 12) by simp [bB,List.map_drop],t0] at this;rw [v0];exact this
 clear e0 h0 a0 n0 i0 o0 y0 l0 k0 j0 u0;repeat (first|(refine cJ ?_;refine dH (l:=12) (h:=512) (mm:=c3) rfl (bI rfl rfl) (aP _) (aP _) (by intro h;rfl) oM oM oM oM oM rfl ?_)|refine yC ?_)
 refine aB 125 ?_;rw [show (512-12:Nat)=(g.body n).length by omega];refine aA rfl (rpage_c _ n oM _ _ (g.body n) _ x0 oM q1) rfl ?_;rintro _ w4 ⟨u4,rfl,g0,q0⟩;rw [← z0] at g0;obtain ⟨a4,c4,rfl,h1⟩:=aN g0;have z4:=q0.size;have z3:=e1.size;repeat (first|(refine dS ?_;first|refine gJ rfl h1 rfl ?_|refine gJ rfl (p0.grow q0) rfl ?_)|(refine TL.isNeT 9 ?_;refine TL.neS (b:=false) rfl rfl sM rfl ?_)|(refine cJ ?_;refine dH (l:=12) (h:=512) (mm:=c3) rfl (bI rfl rfl) (aP _) (aP _) (by intro h;rfl) oM oM oM oM oM rfl ?_)|refine yC ?_|refine yI λ bk w' hg r1 x1 g1=>?_)
 rw [show (512-12:Nat)=(g.body n).length by omega];refine TL.append rfl rfl (eI (base:=w.heap.size) r1 oM) ((x0.grow q0).grow hg) (bP _) (by unfold maxLen;omega) oM oM rfl ?_;intro v5 w5 f0 s0 _
 have m0:w5.ownsRow w.heap.size 5 1 v5 500 (bB (g.body n)):=by
  rw [Nat.zero_add,v0] at f0;simpa using f0
 have o1:Grow w w5:=Grow.mk (aL s0 oM (λ k hk=>by simp only [Value.ownBlock,Option.some.injEq] at hk;omega) (e1.trans (q0.trans hg)).1);repeat refine aF ?_
 exact eZ rfl rfl ⟨_,rfl,v5,rfl,m0,o1⟩
theorem us_new {g g':Pg} {n:Nat} {b:Bs} (h:New g g' n b):(us g).set n (.bool true)=us g':=by
 apply List.ext_getElem?;intro i;rw [List.getElem?_set];have hl:=h.lt;have hc:=h.count;by_cases hi:n=i
 ·subst hi;rw [if_pos rfl,if_pos (by rw [nP];exact hl),us_at oM,h.used];simp
 ·rw [if_neg hi];by_cases a0:i<g.count
  ·rw [us_at a0,us_at oM,h.used];have:i≠n:=λ e=>hi e.symm;simp [this]
  ·rw [List.getElem?_eq_none (by rw [nP];omega),List.getElem?_eq_none (by rw [nP];omega)]
theorem rpnew_c {K:Nat→Prop} {w:World} {R:RL} {g:Pg} (h:RfAt K w R g) (hK:∀ k,w.heap.size≤k→K k) (F:Nat→Prop) (a:Option Addr) (c:Nat) (b:Bs) (hs:Sl F w 1 a b.length c (bB b)) (hm:b.length≤500) (z1:∀ x∈b,x<256) (n:Nat) (g':Pg) (m0:newP g b=some (n,g')) :
  Calls Tryz.prog 46 #[.pointer (some ⟨R.p,0,none⟩),.slice a b.length c] w (Ret λ v w'=>v=.tuple #[.int .i64 (n:Int),.int .i64 0]∧RfAt K w' R g'∧ButS R.S w w'):=by
 have a0:=newP_new h.ok m0
 have d3:lowP g=n:=by
  unfold newP at m0;simp only at m0;split at m0
  ·cases m0
  ·cases m0;rfl
 have y1:=h.cnt;have p3:=a0.lt;have x0:=us_sl h.used y1;have hb:=h.blk;refine V.calls (args:=[_,_]) Tryz.func46 rfl Tryz.ntmps46 rfl rfl ?_;repeat refine aF ?_
 refine aX (S:=Nat) (λ i=>[(6,.int .i64 (i:Int)),(1,.slice a b.length c),(0,.pointer (some ⟨R.p,0,none⟩))]) (λ i w'=>i≤n∧w=w') (λ i=>n-i) 0 ⟨rfl,rfl,rfl,trivial⟩ ⟨Nat.zero_le _,rfl⟩ ?_;rintro i _ ⟨hi,rfl⟩;have e0:i<g.count:=by omega
 have l0:w.cell? (at' (some ⟨R.u,0,none⟩) i)=some (.bool (bK g i)):=x0.row.cell (us_at e0);by_cases r3:i<n
 ·have o2:bK g i=true:=lowP_used oM;rw [o2] at l0;repeat (first|(refine aH ?_;refine aC (j:=i) rfl rfl rfl e0 (Nat.mul_one _) ⟨_,_,x0⟩ rfl ?_)|refine yC ?_)
  exact aE (i+1) ⟨rfl,rfl,rfl,trivial⟩ ⟨oM,rfl⟩ oM
 obtain rfl:i=n:=by omega
 rw [a0.free] at l0;repeat (first|(refine aH ?_;refine aC (j:=i) rfl rfl rfl e0 (Nat.mul_one _) ⟨_,_,x0⟩ rfl ?_)|refine yC ?_)
 refine aB 125 ?_;refine aA rfl (rpage_c F i oM a c b _ hs hm z1) rfl ?_;rintro _ w2 ⟨u2,rfl,q0,b1⟩;have y2:=lR i b oM;obtain ⟨a2,c2,rfl,u0⟩:=aN q0;have u3:=u0.cap;obtain ⟨pg,u1⟩:∃ pg,pg=gS i b:=⟨_,rfl⟩
 rw [← u1] at y2 u0;have h2:=h.grow b1;have hl:=h.lts;have z2:=b1.size
 have s1:Sl (λ k=>w.heap.size≤k∧k<w2.heap.size) w2 1 (eM a2 c2 0 1) 256 c2 (bB (pg.take 256)):=by
  have:=(eX (l:=0) (h:=256) (mm:=c2) u0.tight oM oM oM (Nat.le_refl _)).mono (λ k hk=>(⟨hk.1.1,hk.2⟩:w.heap.size≤k∧k<w2.heap.size));simpa [bB,List.map_take] using this
 have s2:Sl (λ k=>w.heap.size≤k∧k<w2.heap.size) w2 1 (eM a2 c2 256 1) 256 (c2-256) (bB (pg.drop 256)):=by
  have:=(eX (l:=256) (h:=512) (mm:=c2) u0.tight oM oM oM (Nat.le_refl _)).mono (λ k hk=>(⟨hk.1.1,hk.2⟩:w.heap.size≤k∧k<w2.heap.size));rw [List.take_of_length_le (by rw [List.length_drop,bF];omega)] at this;simpa [bB,List.map_drop] using this
 have x2:=h2.blk;have x1:=h2.dsk;obtain ⟨cs,h1,i3,y0⟩:=h2.cache;repeat refine aF ?_
 apply T.any 8 [is (.pointer (some ⟨R.p,0,none⟩)),is (.pointer (some ⟨R.p,0,none⟩)),is (.pointer (some ⟨R.p,0,none⟩)),is (.pointer (some ⟨R.d,0,none⟩)),is (.int .i64 (i:Int)),is (.int .i64 ((2*i:Nat):Int)),is (.slice a2 512 c2),is (.slice (eM a2 c2 0 1) 256 c2)]
 ·rfl
 ·repeat' (first|exact aM|refine aK ?_ ?_)
  iterate 8
   ·refine yQ λ wq _ _ g3=>?_;repeat (first|(refine eN ?_;refine TL.mulN (a:=2) rfl rfl oM rfl ?_)|(refine cJ ?_;refine dH (l:=0) (h:=256) (mm:=c2) rfl (aP _) (bI rfl rfl) (aP _) (by intro h;cases h) oM oM oM oM oM rfl ?_)|refine yC ?_)
    exact aD rfl yG rfl
 intro w5 o3 t3 g0 _ _;((refine yT ?_))
 refine aB 126 ?_;refine aA rfl (rdwrite_c _ _ _ _ (2*g.count) (2*i) _ cs _ _ _ _ (x1.grow g0) (i3.grow g0) h1 oM oM (s1.grow g0)) rfl ?_;rintro _ w6 ⟨rfl,g6,q1,s0,r1,k0⟩;have z5:=g0.size;have z6:=k0.size;have w1:=cG k0 (x2.grow g0) h.ne.2.1;have g1:=cG k0 (x1.grow g0) h.ne.2.2.2.1;have p0:=cG k0 ((h2.used).grow g0) (Ne.symm h.ne.2.2.2.2.2);have t0:ButS R.S w w6:=(ButS.grow (b1.trans g0)).trans (ButS.but k0 (.inr (.inl rfl)));have j2:=((s2.grow g0).tight.keep (w':=w6) (λ k hk n0=>k0.block k n0 oM) z6)
 have g2:Carry K w2 K w6:=(Carry.grow g0).trans ⟨z6,λ k hk hl=>⟨hk,k0.block k hl (λ e=>h.kne k hk (.inr (.inl e)))⟩⟩;repeat refine aF ?_
 apply T.any 9 [is (.pointer (some ⟨R.p,0,none⟩)),is (.pointer (some ⟨R.p,0,none⟩)),is (.pointer (some ⟨R.p,0,none⟩)),is (.pointer (some ⟨R.d,0,none⟩)),is (.int .i64 (i:Int)),is (.int .i64 ((2*i:Nat):Int)),is (.int .i64 ((2*i+1:Nat):Int)),is (.slice a2 512 c2),is (.slice (eM a2 c2 256 1) 256 (c2-256))]
 ·rfl
 ·repeat' (first|exact aM|refine aK ?_ ?_)
  iterate 9
   ·refine yQ λ wq _ _ g3=>?_;repeat (first|(refine eN ?_;refine TL.mulN (a:=2) rfl rfl oM rfl ?_)|(refine cJ ?_;refine dH (l:=256) (h:=512) (mm:=c2) rfl (bI rfl rfl) (aP _) (aP _) (by intro h;rfl) oM oM oM oM oM rfl ?_)|refine yC ?_)
    exact aD rfl yG rfl
 intro w7 m3 s3 f0 _ _;((refine yT ?_))
 refine aB 126 ?_;refine aA rfl (rdwrite_c _ _ _ _ (2*g.count) (2*i+1) _ _ _ _ _ _ (g1.grow f0) (s0.grow f0) (by rw [List.length_set];exact h1) oM oM (j2.grow f0)) rfl ?_;rintro _ w8 ⟨rfl,g8,o1,j1,q2,j0⟩;have z7:=f0.size;have z8:=j0.size;have r2:=cG j0 (w1.grow f0) h.ne.2.1;have h3:=cG j0 (g1.grow f0) h.ne.2.2.2.1;have o0:=cG j0 (p0.grow f0) (Ne.symm h.ne.2.2.2.2.2);have m1:ButS R.S w w8:=t0.trans ((ButS.grow f0).trans (ButS.but j0 (.inr (.inl rfl))));have z0:=((r1.grow f0).tight.keep (w':=w8) (λ k hk n0=>j0.block k n0 oM) z8)
 have k3:Carry K w2 K w8:=g2.trans ((Carry.grow f0).trans ⟨z8,λ k hk hl=>⟨hk,j0.block k hl (λ e=>h.kne k hk (.inr (.inl e)))⟩⟩);have v0:=us_sl o0 y1;clear k0 j0 g0 f0 s0 r1 w1 g1 p0 t0 g2;repeat (first|(refine aH ?_;refine aC (j:=i) rfl rfl rfl e0 (Nat.mul_one _) ⟨_,_,v0⟩ rfl ?_;rw [show at' (some ⟨R.u,0,none⟩) i=⟨R.u,i,none⟩ by rw [at_some,Nat.zero_add]])|(refine bZ ?_;refine dR rfl rfl o0 rfl (by rw [nP];exact Nat.ble_eq_true_of_le e0) (us_new a0) ?_;intro w9 i0 j3 _)|refine yC ?_)
 have z9:=i0.size;have d2:Carry K w2 K w9:=k3.trans ⟨oM,λ k hk hl=>⟨hk,i0.block k (λ e=>h.kne k hk (.inr (.inr e)))⟩⟩;have n6:Sl K w9 1 (some ⟨g6,0,none⟩) 256 q1 (bB (pg.take 256)):=(z0.upd i0 (λ k hk=>by have:=hk.1;omega)).mono (λ k hk=>hK k (by have:=hk.1;omega));have n8:Sl K w9 1 (some ⟨g8,0,none⟩) 256 o1 (bB (pg.drop 256)):=(q2.upd i0 (λ k hk=>by omega)).mono (λ k hk=>hK k oM);refine eZ rfl rfl ⟨_,rfl,rfl,⟨?_,?_,j3,a0.ok,?_,?_,?_,h.kne,h.ne⟩,m1.trans (ButS.but (but_upd i0 (But.refl _ _)) (.inr (.inr rfl)))⟩
 ·rw [a0.count];exact r2.upd i0 h.ne.2.2.1
 ·rw [a0.count];exact h3.upd i0 h.ne.2.2.2.2.1
 ·refine ⟨_,by rw [a0.count,List.length_set,List.length_set];exact h1,j1.upd i0 h.ne.2.2.2.2.2,λ k hk=>?_⟩;rw [a0.used] at hk;by_cases h0:k=i
  ·subst h0;rw [a0.body,show padB b=dD b from rfl,pageB_body k b oM,← u1];exact ⟨⟨_,_,by rw [List.getElem?_set,if_neg oM,List.getElem?_set,if_pos rfl,if_pos oM],n6⟩,⟨_,_,by rw [List.getElem?_set,if_pos rfl,if_pos (by rw [List.length_set];omega)],n8⟩⟩
  ·have n0:bK g k=true:=by simpa [h0] using hk
   have q3:=dW n0;rw [a0.other k h0];obtain ⟨e1,e2⟩:=y0 k n0;obtain ⟨a1,c1,f1,f2⟩:=(e1.go d2).ex;obtain ⟨a3,c3,f3,f4⟩:=(e2.go d2).ex;exact ⟨⟨a1,c1,by rw [List.getElem?_set,if_neg oM,List.getElem?_set,if_neg oM];exact f1,f2⟩,⟨a3,c3,by rw [List.getElem?_set,if_neg oM,List.getElem?_set,if_neg oM];exact f3,f4⟩⟩
 ·intro k x hx;by_cases h0:k=i
  ·subst h0;rw [a0.body] at hx;exact body_lt z1 x hx
  ·rw [a0.other k h0] at hx;exact h.lt k x hx
 ·intro k hk;rw [a0.used] at hk;by_cases h0:k=i
  ·subst h0;rw [a0.body];exact jI b oM
  ·rw [a0.other k h0];exact h.bl k (by simpa [h0] using hk)
theorem grow_own {w w4 w5:World} {v:Value} {xs:List Value} {n e:Nat} (hg:Grow w w4) (ho:w4.ownsRow w.heap.size e 1 v n xs) (a0:w4.grownBy w5 v.ownBlock):Grow w w5 :=
 ⟨aL a0 hg.2 (λ k hk=>(aT ho hk).1) hg.1,by have:=hg.2;have:=a0.size;omega⟩
theorem own_full {w:World} {base el sz b c:Nat} {xs:List Value} (h:w.ownsRow base el sz (.slice (some ⟨b,0,none⟩) c c) c xs):base≤b∧Blk w b el xs:=by
 obtain ⟨hl,h|⟨g,e0,a0,e,h1,h2,h3,h4,h5,h6⟩⟩:=h
 ·cases h.1
 ·cases e;refine ⟨h1,?_⟩;unfold Blk;rw [List.take_of_length_le (by simp;omega)] at h6;rw [← h6];simpa using h2
theorem usedL_cons (g:Pg) (i:Nat):(List.range (i+1)).filter (λ n=>bK g n)=(List.range i).filter (λ n=>bK g n)++if bK g i then [i] else []:=by
 rw [List.range_succ,List.filter_append];congr 1
 cases h:bK g i<;>simp [h]
theorem rused_c {K:Nat→Prop} {w:World} {R:RL} {g:Pg} (h:RfAt K w R g) :
  Calls Tryz.prog 38 #[.pointer (some ⟨R.p,0,none⟩)] w (Ret λ v w'=>w'.ownsRow w.heap.size 3 1 v (usedL g).length (bC (usedL g))∧Grow w w'):=by
 have s0:=h.cnt;refine V.calls (args:=[_]) Tryz.func38 rfl Tryz.ntmps38 rfl rfl ?_;repeat refine aF ?_
 refine aX (S:=Value×Nat) (λ q=>[(4,.int .i64 (q.2:Int)),(3,q.1),(0,.pointer (some ⟨R.p,0,none⟩))])
  (λ q w2=>q.2≤g.count∧w2.ownsRow w.heap.size 3 1 q.1 ((List.range q.2).filter λ n=>bK g n).length (bC ((List.range q.2).filter λ n=>bK g n))∧Grow w w2)
  (λ q=>g.count-q.2) (.slice none 0 0,0) ⟨rfl,rfl,rfl,trivial⟩ ⟨Nat.zero_le _,World.ownsRow_nil _ _ _ _,Grow.refl _⟩ ?_
 rintro ⟨v,i⟩ w2 ⟨hi,e0,i0⟩;simp only at hi e0;have h2:=h.grow i0;have hb:=h2.blk;have k0:=us_sl h2.used s0;have z2:=i0.size;by_cases h0:i<g.count
 ·have f0:w2.cell? (at' (some ⟨R.u,0,none⟩) i)=some (.bool (bK g i)):=k0.row.cell (us_at h0);have a0:=usedL_cons g i;have n0:((List.range i).filter λ n=>bK g n).length≤i:=Nat.le_trans (List.length_filter_le _ _) sM
  cases hu:bK g i with
  | false =>
   rw [hu] at f0 a0;simp only [Bool.false_eq_true,if_false,List.append_nil] at a0;repeat (first|(refine aH ?_;refine aC (j:=i) rfl rfl rfl h0 (Nat.mul_one _) ⟨_,_,k0⟩ rfl ?_)|refine yC ?_)
   exact aE (v,i+1) ⟨rfl,rfl,rfl,trivial⟩ ⟨h0,by simp only;rw [a0];exact e0,i0⟩ (by simp only;omega)
  | true =>
   rw [hu] at f0 a0;simp only [if_true] at a0;repeat (first|(refine aH ?_;refine aC (j:=i) rfl rfl rfl h0 (Nat.mul_one _) ⟨_,_,k0⟩ rfl ?_)|refine yC ?_)
   refine TL.buildSlice rfl rfl rfl rfl rfl ?_;intro b' wa j0 t0 v0 u0 m0;have l0:Sl (λ _=>True) wa 1 (some ⟨b',0,none⟩) 1 1 (bC [i]):=(aU (sz:=1) (m:=1) t0 m0 dM).mono (λ _ _=>trivial);have q0:=j0.size;refine TL.append rfl rfl (aS e0 j0) l0 (gG _) (by unfold maxLen;omega) oM oM rfl ?_;intro v' wb g0 p0 _;have o0:Grow w wb:=grow_own (i0.trans j0) (aS e0 j0) p0;repeat refine aF ?_
   refine aE (v',i+1) ⟨rfl,rfl,rfl,trivial⟩ ⟨h0,?_,o0⟩ (by simp only;omega);simp only;rw [a0,List.length_append];have e:bC (((List.range i).filter λ n=>bK g n)++[i])=bC ((List.range i).filter λ n=>bK g n)++bC [i]:=by simp [bC]
   rw [e];exact g0
 ·obtain rfl:i=g.count:=by omega
  repeat refine aF ?_
  exact bA rfl ⟨_,rfl,e0,i0⟩
theorem rspare_c {K:Nat→Prop} {w:World} {R:RL} {g:Pg} (h:RfAt K w R g) :
  Calls Tryz.prog 106 #[.pointer (some ⟨R.p,0,none⟩)] w (Ret λ v w'=>v=.int .i64 (cR g:Int)∧Grow w w'):=by
 have k0:=h.cnt;have hb:=h.blk;have i0:=nH g;refine V.calls (args:=[_]) Tryz.func106 rfl Tryz.ntmps106 rfl rfl ?_;repeat refine aF ?_
 apply T.any 8 [is (.pointer (some ⟨R.p,0,none⟩)),is (.pointer (some ⟨R.p,0,none⟩)),is (.pointer (some ⟨R.p,1,none⟩)),is (.slice (some ⟨R.u,0,none⟩) g.count g.count),is (.int .i64 (g.count:Int)),is (.pointer (some ⟨R.p,0,none⟩)),own w.heap.size 3 1 (usedL g).length (bC (usedL g)),is (.int .i64 ((usedL g).length:Int))]
 ·rfl
 ·repeat' (first|exact aM|refine aK ?_ ?_)
  iterate 6
   ·refine yQ λ wq _ _ f0=>?_;repeat refine aF ?_
    exact aD rfl yG rfl
  ·refine yQ λ wq _ _ f0=>?_;have hq:=f0.size;refine aB 38 ?_;refine aA rfl (rused_c (h.grow f0)) rfl ?_;rintro v5 w5 ⟨a0,g0⟩;repeat refine aF ?_
   exact aD rfl yG (dX a0 hq)
  ·(((refine bR rfl rfl rfl ?_);( intro wq _ _ f0;(repeat (refine aJ rfl rfl ?_;intro vq e0;try (obtain rfl:=e0)));(refine aY ?_))))
   obtain ⟨a,c,rfl,_⟩:=aN e0;repeat refine aF ?_
   exact aD rfl yG rfl
 intro w5 h0 j0 g0 _ _;((((repeat (refine aJ rfl rfl ?_;intro vq e0;try (obtain rfl:=e0)));(refine aY ?_))))
 rw [usedL_len];repeat refine aF ?_
 refine bA rfl ⟨_,rfl,rfl,g0⟩
theorem us_keep {g:Pg} (a0:PgOk g) {qs:List Nat} (hq:∀ q∈qs,bK g q=true):us (jL g qs)=(List.range g.count).map λ n=>.bool (decide (n∈qs)):=by
 unfold us;show (List.range g.count).map _=_;apply List.map_congr_left;intro n _;rw [kH a0 hq]
def mkU (c:Nat) (l:List Nat):List Value:=(List.range c).map λ n=>.bool (decide (n∈l))
theorem length_mkU (c:Nat) (l:List Nat):(mkU c l).length=c:=by simp [mkU]
theorem mkU_set {c q:Nat} {l:List Nat} (h:q<c):(mkU c l).set q (.bool true)=mkU c (l++[q]):=by
 apply List.ext_getElem?;intro i;rw [List.getElem?_set];by_cases hi:q=i
 ·subst hi;rw [if_pos rfl,if_pos (by rw [length_mkU];exact h)];simp [mkU,h]
 ·rw [if_neg hi];simp only [mkU,List.getElem?_map,List.mem_append,List.mem_singleton];by_cases a0:i<c
  ·have:i≠q:=λ e=>hi e.symm;simp [a0,this]
  ·simp [a0]
theorem mkU_zero (c:Nat):(madeCells (Value.bool false).cells (c*1)).toList=mkU c []:=by
 have h0:∀ i:Nat,(Value.bool false).cells[i%(Value.bool false).cells.size]! = .bool false:=by
  intro i;rw [show i%(Value.bool false).cells.size=0 from Nat.mod_one i];rfl
 simp only [mkU,madeCells,Nat.mul_one,Array.toList_map,Array.toList_range,h0];simp
theorem rkeep_c {K F:Nat→Prop} {w:World} {R:RL} {g:Pg} (h:RfAt K w R g) {a:Option Addr} {n c:Nat} {qs:List Nat} (hs:Sl F w 1 a n c (bC qs)) (hF:∀ k,F k→k<w.heap.size) (hq:∀ q∈qs,bK g q=true) :
  Calls Tryz.prog 36 #[.pointer (some ⟨R.p,0,none⟩),.slice a n c] w (Ret λ v w'=>∃ u,w.heap.size≤u∧v=.tuple #[.int .i64 ((fR g:Int)-(fR (jL g qs):Int)),.int .i64 0]∧RfAt (λ k=>K k∧k≠u) w' ⟨R.p,R.d,R.b,R.c,u⟩ (jL g qs)∧ButS (λ k=>k=R.p) w w'):=by
 have f2:=h.cnt;have hb:=h.blk;have hl:=h.lts;have z1:=bU hs;refine V.calls (args:=[_,_]) Tryz.func36 rfl Tryz.ntmps36 rfl rfl ?_;repeat refine aF ?_
 refine TL.isMake ?_;refine jF (c:=g.count) rfl rfl oM (by unfold maxLen;omega) rfl ?_;intro u w1 r1 g0 x0;obtain ⟨b1,a0⟩:=own_full g0;rw [mkU_zero] at a0;have f1:=hs.le;have e1:∀ q∈qs,q<g.count:=λ q hm=>dW (hq q hm);clear g0;repeat refine aF ?_
 refine aX (S:=Nat) (λ i=>[(7,.int .i64 (i:Int)),(6,.slice (some ⟨u,0,none⟩) g.count g.count),(1,.slice a n c),(0,.pointer (some ⟨R.p,0,none⟩))]) (λ i w2=>i≤n∧Blk w2 u 4 (mkU g.count (qs.take i))∧Grow w w2) (λ i=>n-i) 0 ⟨rfl,rfl,rfl,rfl,trivial⟩ ⟨Nat.zero_le _,by simpa using a0,x0⟩ ?_;clear a0 x0;rintro i w2 ⟨hi,a0,h0⟩;have z2:=h0.size;have q1:=a0.lt;by_cases s0:i<n
 ·obtain ⟨q,n0⟩:∃ q,qs[i]? = some q:=⟨_,List.getElem?_eq_getElem oM⟩
  have p0:=List.mem_of_getElem? n0;have m0:=e1 q p0;have e2:w2.cell? (at' a i)=some (.int .i64 (q:Int)):=(hs.grow h0).row.cell (jT n0);have u0:=ris_c (h.grow h0) q oM;rw [hq q p0] at u0;have y0:Sl (λ k=>k=u) w2 1 (some ⟨u,0,none⟩) g.count g.count (mkU g.count (qs.take i)):=aU (sz:=1) (m:=g.count) a0 (by rw [length_mkU,Nat.mul_one]) (by unfold maxLen;omega);repeat (first|(refine aB 117 ?_;refine aA rfl (u0) rfl ?_;rintro _ _ ⟨rfl,rfl⟩)|(refine aH ?_;first|refine aC (j:=i) rfl rfl rfl s0 (Nat.mul_one _) ⟨F,_,hs.grow h0⟩ rfl ?_|(refine aC (j:=q) rfl rfl rfl m0 (Nat.mul_one _) ⟨_,_,y0⟩ rfl ?_;rw [show at' (some ⟨u,0,none⟩) q=⟨u,q,none⟩ by rw [at_some,Nat.zero_add]]))|(refine bZ ?_;refine dR rfl rfl a0 rfl (by rw [length_mkU];exact Nat.ble_eq_true_of_le m0) (mkU_set m0) ?_;intro w3 z0 o1 _)|refine yC ?_)
  refine aE (i+1) ⟨rfl,rfl,rfl,rfl,trivial⟩ ⟨s0,?_,aI z0 oM h0⟩ oM;rw [eA n0];exact o1
 obtain rfl:i=n:=by omega
 rw [List.take_of_length_le oM] at a0;have q0:=hb.grow h0;repeat refine aF ?_
 refine aB 38 ?_;refine aA rfl (rused_c (h.grow h0)) rfl ?_;rintro v3 w3 ⟨f0,l0⟩;obtain ⟨a3,c3,rfl,_⟩:=aN f0;have y1:=q0.grow l0;have e0:=h0.trans l0;have o0:=a0.grow l0;have z3:=l0.size;clear q0 a0 f0;rw [usedL_len];repeat (first|refine aF ?_|refine yJ λ w' hu m1 x1=>?_)
 have d2:(jL g qs).count=g.count:=rfl;have hz:=hu.size;have k0:=h.ne
 have hR:RfAt (λ k=>K k∧k≠u) w' ⟨R.p,R.d,R.b,R.c,u⟩ (jL g qs):=by
  obtain ⟨cs,h1,j1,i0⟩:=h.cache;have cc:Carry K w (λ k=>K k∧k≠u) w':=⟨oM,λ k hk g1=>⟨⟨hk,oM⟩,(hu.block k (λ e=>h.kne k hk (.inl e))).trans (e0.block k g1)⟩⟩
  refine ⟨m1,(h.dsk.grow e0).upd hu (Ne.symm k0.1),?_,keep_ok h.ok hq,⟨cs,h1,(j1.grow e0).upd hu (Ne.symm k0.2.1),λ k hk=>?_⟩,h.lt,λ k hk=>?_,λ k hk hS=>?_,?_⟩
  ·rw [us_keep h.ok hq];exact o0.upd hu (by show u≠R.p;omega)
  ·rw [kH h.ok hq] at hk;have t0:=hq k (of_decide_eq_true hk);exact ⟨(i0 k t0).1.go cc,(i0 k t0).2.go cc⟩
  ·rw [kH h.ok hq] at hk;exact h.bl k (hq k (of_decide_eq_true hk))
  ·have:=h.kne k hk.1;unfold RL.S at hS this;simp only at hS;omega
  ·exact ⟨k0.1,k0.2.1,by show R.p≠u;omega,k0.2.2.2.1,by show R.d≠u;omega,by show R.c≠u;omega⟩
 refine aB 38 ?_;refine aA rfl (rused_c (R:=⟨R.p,R.d,R.b,R.c,u⟩) hR) rfl ?_;rintro v4 w4 ⟨j0,v0⟩;obtain ⟨a4,c4,rfl,_⟩:=aN j0;rw [usedL_len];have u1:=nH g;have s1:=nH (jL g qs);repeat (first|(refine iV ?_;refine TL.subI rfl rfl oM oM rfl ?_)|refine yC ?_)
 refine eZ rfl rfl ⟨_,rfl,u,b1,rfl,hR.grow v0,?_⟩;exact ((ButS.grow e0).trans (ButS.but (S:=λ k=>k=R.p) (but_upd hu (But.refl _ _)) rfl)).trans (ButS.grow v0)
theorem made_of (z:Value) (h:z.cells = #[z]) (m:Nat):(madeCells z.cells (m*1)).toList=List.replicate m z:=by
 have h0:∀ x:Nat,z.cells[x%z.cells.size]! = z:=λ x=>by
  rw [h];simp [Nat.mod_one]
 simp only [madeCells,Nat.mul_one,Array.toList_map,Array.toList_range,h0];rw [List.map_const',List.length_range]
def mkS {B:Nat} (el:TypeId) (m:Nat) (cs:List Value):SFact B:={ G:=λ v lo hi w=>∃ b,v=.slice (some ⟨b,0,none⟩) m m∧B≤b∧Blk w b el cs,st:=λ v _ _ w w' g h=>by obtain ⟨b,h1,h2,h4⟩:=h;exact ⟨b,h1,h2,h4.grow g⟩ }
def dskA (B n:Nat) (v:Value) (w:World):Prop:=∃ b c,v=.agg #[.slice (some ⟨b,0,none⟩) (n*256) (n*256),.slice (some ⟨c,0,none⟩) n n]∧B≤b∧B≤c∧Blk w c 30 (List.replicate n (.slice none 0 0))
def dskF {B:Nat} (n:Nat):SFact B:={ G:=λ v _ _ w=>dskA B n v w,st:=λ v _ _ w w' g h=>by obtain ⟨b,c,h1,h2,h3,h4⟩:=h;exact ⟨b,c,h1,h2,h3,h4.grow g⟩ }
def dskP {B:Nat} (n:Nat):SFact B:={ G:=λ v _ _ w=>∃ d b c,v=.pointer (some ⟨d,0,none⟩)∧B≤d∧B≤b∧B≤c∧Blk w d 171 [.slice (some ⟨b,0,none⟩) (n*256) (n*256),.slice (some ⟨c,0,none⟩) n n]∧Blk w c 30 (List.replicate n (.slice none 0 0)),st:=λ v _ _ w w' g h=>by obtain ⟨d,b,c,h1,h2,h3,h4,h5,h6⟩:=h;exact ⟨d,b,c,h1,h2,h3,h4,h5.grow g,h6.grow g⟩ }
theorem rdisk_c (n:Nat) (w:World) (h1:1≤n) (h2:n≤16384) :
  Calls Tryz.prog 31 #[.int .i64 (n:Int)] w (Ret λ v w'=>∃ d b c,v=.tuple #[.pointer (some ⟨d,0,none⟩),.int .i64 0]∧w.heap.size≤d∧w.heap.size≤b∧w.heap.size≤c∧Blk w' d 171 [.slice (some ⟨b,0,none⟩) (n*256) (n*256),.slice (some ⟨c,0,none⟩) n n]∧Blk w' c 30 (List.replicate n (.slice none 0 0))∧Grow w w'):=by
 refine V.calls (args:=[_]) Tryz.func31 rfl Tryz.ntmps31 rfl rfl ?_;repeat refine aF ?_
 apply T.any 7 [is (.int .i64 (n:Int)),is (.int .i64 ((n*256:Nat):Int)),mkS 5 (n*256) (List.replicate (n*256) (.int .u8 0)),is (.int .i64 (n:Int)),mkS 30 n (List.replicate n (.slice none 0 0)),dskF n,dskP n]
 ·rfl
 ·repeat' (first|exact aM|refine aK ?_ ?_)
  ·refine yQ λ wq _ _ a0=>?_;repeat refine aF ?_
   exact aD rfl yG rfl
  ·refine yQ λ wq _ _ a0=>?_;refine TL.mulN (a:=n) (b:=256) rfl rfl oM rfl ?_;repeat refine aF ?_
   exact aD rfl yG rfl
  ·refine yQ λ wq _ _ a0=>?_;refine jF (c:=n*256) (z:=.int .u8 0) rfl rfl oM (by unfold maxLen;omega) rfl ?_;intro b w2 hb e0 k0;obtain ⟨h0,f0⟩:=own_full e0;rw [made_of _ rfl] at f0;have:=f0.lt;repeat refine aF ?_
   exact aD rfl yG ⟨b,rfl,Nat.le_trans a0.size h0,f0⟩
  ·refine yQ λ wq _ _ a0=>?_;repeat refine aF ?_
   exact aD rfl yG rfl
  ·refine yQ λ wq _ _ a0=>?_;refine jF (c:=n) (z:=.slice none 0 0) rfl rfl oM (by unfold maxLen;omega) rfl ?_;intro b w2 hb e0 k0;obtain ⟨h0,f0⟩:=own_full e0;rw [made_of _ rfl] at f0;have:=f0.lt;repeat refine aF ?_
   exact aD rfl yG ⟨b,rfl,Nat.le_trans a0.size h0,f0⟩
  ·refine bR rfl rfl rfl ?_;intro wq _ _ a0;refine aJ rfl rfl ?_;intro v2 h2;refine aJ rfl rfl ?_;intro v4 h4;refine aY ?_;obtain ⟨b2,rfl,l2,k2⟩:=h2;obtain ⟨b4,rfl,l4,k4⟩:=h4;repeat refine aF ?_
   exact aD rfl yG ⟨b2,b4,rfl,l2,l4,k4⟩
  ·(((refine bR rfl rfl rfl ?_);( intro wq _ _ a0;(repeat (refine aJ rfl rfl ?_;intro vq g0;try (obtain rfl:=g0)));(refine aY ?_))))
   obtain ⟨b,c,rfl,l2,l4,k4⟩:=g0;have hq:=a0.size;repeat (first|refine aF ?_|refine yI λ bk w' hg l0 n0 i0=>?_)
   exact aD rfl yG ⟨bk,b,c,rfl,oM,l2,l4,l0,yB⟩
 intro w5 m0 o0 j0 _ _;((((repeat (refine aJ rfl rfl ?_;intro vq g0;try (obtain rfl:=g0)));(refine aY ?_))))
 obtain ⟨d,b,c,rfl,q1,q2,q3,q4,q5⟩:=g0;repeat refine aF ?_
 exact eZ rfl rfl ⟨_,rfl,d,b,c,rfl,q1,q2,q3,q4,q5,j0⟩
instance ptrRDisk:PtrTy Tryz.prog 62:=⟨kR⟩
instance ptrRPages:PtrTy Tryz.prog 65:=⟨kR⟩
theorem us_pg0 (c:Nat):us (pg0 c)=List.replicate c (.bool false):=by
 unfold us;simp only [nK];show (List.range c).map (λ _=>Value.bool false)=_;rw [List.map_const',List.length_range]
theorem ropen_c (c d b cc:Nat) (w:World) (h1:1≤c) (h2:c≤8192) (hd:Blk w d 171 [.slice (some ⟨b,0,none⟩) ((2*c)*256) ((2*c)*256),.slice (some ⟨cc,0,none⟩) (2*c) (2*c)]) (hc:Blk w cc 30 (List.replicate (2*c) (.slice none 0 0))) (m0:d≠cc) :
  Calls Tryz.prog 32 #[.pointer (some ⟨d,0,none⟩),.slice none 0 0] w (Ret λ v w'=>∃ p u,v=.tuple #[.pointer (some ⟨p,0,none⟩),.int .i64 0]∧w.heap.size≤p∧w.heap.size≤u∧(∀ K:Nat→Prop,(∀ k,K k→¬ RL.S ⟨p,d,b,cc,u⟩ k)→RfAt K w' ⟨p,d,b,cc,u⟩ (pg0 c))∧Grow w w'):=by
 refine V.calls (args:=[_,_]) Tryz.func32 rfl Tryz.ntmps32 rfl rfl ?_;repeat (first|(refine aB 103 ?_;refine aA rfl (rsize_c d _ _ (2*c) _ _ hd) rfl ?_;rintro _ _ ⟨rfl,rfl⟩)|(refine kX 62 ?_;refine TL.eqNilP rfl rfl rfl ?_)|refine yC ?_)
 rw [show 2*c / 2=c by omega];refine TL.isMake ?_;refine jF (c:=c) (z:=.bool false) rfl rfl oM (by unfold maxLen;omega) rfl ?_;intro u w2 hu a0 e0;obtain ⟨j0,f0⟩:=own_full a0;rw [made_of _ rfl] at f0;have i0:=f0.lt;clear a0;have l0:=hd.lt;have n0:=hc.lt;have z2:=e0.size;repeat (first|refine aF ?_|refine yI λ bk w' hg h0 k0 g0=>?_)
 refine aX (S:=Nat) (λ _=>[(7,.int .i64 0),(6,.pointer (some ⟨bk,0,none⟩)),(1,.slice none 0 0)]) (λ i w3=>i=0∧w'=w3) (λ i=>i) 0 ⟨rfl,rfl,rfl,trivial⟩ ⟨rfl,rfl⟩ ?_;rintro _ _ ⟨rfl,rfl⟩;repeat refine aF ?_
 refine eZ rfl rfl ⟨_,rfl,bk,u,rfl,oM,oM,λ K hK=>?_,e0.trans hg⟩;refine ⟨h0,?_,by rw [us_pg0];exact f0.grow hg,pg0_ok c h2,⟨_,by rw [List.length_replicate];rfl,(hc.grow e0).grow hg,λ n hn=>(by rw [nK] at hn;cases hn)⟩,λ n x hx=>(by cases hx),λ n hn=>(by rw [nK] at hn;cases hn),hK,?_⟩
 ·rw [show 512*(pg0 c).count=2*c*256 by show 512*c=_;omega];exact (hd.grow e0).grow hg
 ·show bk≠d∧bk≠cc∧bk≠u∧d≠cc∧d≠u∧cc≠u;omega
theorem RfAt.tight {K:Nat→Prop} {w:World} {R:RL} {g:Pg} (h:RfAt K w R g):RfAt (λ k=>K k∧k<w.heap.size) w R g:=by
 obtain ⟨cs,h1,h2,h3⟩:=h.cache;have cc:Carry K w (λ k=>K k∧k<w.heap.size) w:=Carry.mono λ k hk hl=>⟨hk,hl⟩
 exact ⟨h.blk,h.dsk,h.used,h.ok,⟨cs,h1,h2,λ n hn=>⟨(h3 n hn).1.go cc,(h3 n hn).2.go cc⟩⟩,h.lt,h.bl,λ k hk=>h.kne k hk.1,h.ne⟩
theorem rnode_c {K:Nat→Prop} {w:World} {R:RL} {g:Pg} (h:RfAt K w R g) (n:Nat) (nd:Nd) (hn:cD g n=some nd) :
  Calls Tryz.prog 113 #[.pointer (some ⟨R.p,0,none⟩),.int .i64 (n:Int)] w (Ret λ v w'=>∃ x:NV,v=.tuple #[x.val,.int .i64 0]∧NdAt (λ k=>w.heap.size≤k) w' x nd∧Grow w w'):=by
 obtain ⟨m0,z,hz⟩:=nodeP_body h.lt hn;have hu:=dL hn;have o0:=h.bl n hu;refine V.calls (args:=[_,_]) Tryz.func113 rfl Tryz.ntmps113 rfl rfl ?_;repeat (first|refine aF ?_|refine yI λ bk w' hg h0 l0 k0=>?_)
 refine aB 166 ?_;refine aA rfl (rpread_c (h.grow hg) n hu) rfl ?_;rintro _ w2 ⟨u,rfl,a0,g0⟩;obtain ⟨a,c,rfl,hs⟩:=aN a0;have e0:Blk w2 bk 79 nil3:=Blk.grow g0 h0;have j0:=hg.trans g0;have z1:=g0.size;have z2:=j0.size;clear h0 hg g0 a0;repeat refine aF ?_
 refine aB 167 ?_;rw [← o0] at hs ⊢;refine aA rfl (rread_n _ a c nd z (g.body n) _ hz hs oM m0) rfl ?_;rintro _ w3 ⟨x,rfl,n0,f0⟩;have p0:=e0.grow f0;have i0:=j0.trans f0;have z3:=f0.size;clear e0 j0 f0 hs;repeat (first|refine aF ?_|refine yJ λ w' hu h0 l0=>?_)
 exact fP rfl (aW h0 rfl) rfl ⟨_,rfl,x,rfl,(n0.go (Carry.upd hu (λ k hk _=>by omega))).go (Carry.mono λ k hk _=>by omega),aI hu oM i0⟩
theorem rin_no (F:Nat→Prop) (a:Option Addr) (n c:Nat) (l:List Nat) (k:Nat) (w:World) (hs:Sl F w 1 a n c (bC l)) (hk:k∉l) :
  Calls Tryz.prog 209 #[.slice a n c,.int .i64 (k:Int)] w (Ret λ v w'=>v=.bool false∧w=w'):=by
 refine V.calls (args:=[_,_]) Tryz.func209 rfl Tryz.ntmps209 rfl rfl ?_;have hn:=bU hs;have f0:=hs.le;repeat refine aF ?_
 refine aX (S:=Nat) (λ i=>[(5,.int .i64 (i:Int)),(0,.slice a n c),(1,.int .i64 (k:Int))]) (λ i w'=>w=w'∧i≤n) (λ i=>n-i) 0 ⟨rfl,rfl,rfl,trivial⟩ ⟨rfl,Nat.zero_le _⟩ ?_;rintro i _ ⟨rfl,hi⟩;by_cases a0:i<n
 ·obtain ⟨p,hp⟩:∃ p,l[i]? = some p:=⟨_,List.getElem?_eq_getElem oM⟩
  have g0:w.cell? (at' a i)=some (.int .i64 (p:Int)):=hs.row.cell (jT hp);have e0:p≠k:=λ e=>hk (e▸List.mem_of_getElem? hp);repeat (first|(refine aH ?_;refine aC rfl rfl rfl a0 (Nat.mul_one _) ⟨F,_,hs⟩ rfl ?_)|refine yC ?_)
  exact aE (i+1) ⟨rfl,rfl,rfl,trivial⟩ ⟨rfl,oM⟩ oM
 ·repeat refine aF ?_
  exact bA rfl ⟨_,rfl,rfl,rfl⟩
theorem rwithin_c (F G H:Nat→Prop) (a b d:Option Addr) (c e f:Nat) (k fr to:Bs) (w:World) (hk:Sl F w 1 a k.length c (bB k)) (hf:Sl G w 1 b fr.length e (bB fr)) (ht:Sl H w 1 d to.length f (bB to)) (h1:fr=[]∨¬ eS k fr) (h2:to=[]∨eS k to) :
  Calls Tryz.prog 210 #[.slice a k.length c,.slice b fr.length e,.slice d to.length f] w (Ret λ v w'=>v=.bool true∧Grow w w'):=by
 refine V.calls (args:=[_,_,_]) Tryz.func210 rfl Tryz.ntmps210 rfl rfl ?_;by_cases f0:fr.length=0
 ·by_cases a0:to.length=0
  ·repeat refine aF ?_
   exact bA rfl ⟨_,rfl,rfl,yG⟩
  ·have c2:bY k to<0:=by
    rcases h2 with h2|h2
    ·rw [h2] at a0;simp at a0
    ·exact h2
   repeat (first|(refine aB 140 ?_;refine aA rfl (fE _ _ _ _ _ _ _ _ _ _ _ (hk.grow yG) (ht.grow yG)) rfl ?_;rintro _ _ ⟨rfl,g0⟩)|refine yC ?_)
   exact bA rfl ⟨_,rfl,rfl,yG⟩
 ·have c1:bY fr k≤0:=by
   rcases h1 with h1|h1
   ·rw [h1] at f0;simp at f0
   ·exact cmpB_le.2 h1
  by_cases a0:to.length=0
  ·repeat (first|(refine aB 140 ?_;refine aA rfl (fE _ _ _ _ _ _ _ _ _ _ _ (hf.grow yG) (hk.grow yG)) rfl ?_;rintro _ _ ⟨rfl,g0⟩)|refine yC ?_)
   exact bA rfl ⟨_,rfl,rfl,yG⟩
  ·have c2:bY k to<0:=by
    rcases h2 with h2|h2
    ·rw [h2] at a0;simp at a0
    ·exact h2
   repeat refine aF ?_
   refine aB 140 ?_;refine aA rfl (fE _ _ _ _ _ _ _ _ _ _ _ hf hk) rfl ?_;rintro _ w2 ⟨rfl,e0⟩;repeat refine aF ?_
   refine aB 140 ?_;refine aA rfl (fE _ _ _ _ _ _ _ _ _ _ _ (hk.grow e0) (ht.grow e0)) rfl ?_;rintro _ w3 ⟨rfl,h0⟩;repeat refine aF ?_
   exact bA rfl ⟨_,rfl,rfl,e0.trans h0⟩
structure WkTo (w w':World) (sb:Nat) (pv iv pv' iv':Value):Prop where
 os:w'.os=w.os
 tape:w'.tape=w.tape
 output:w'.output=w.output
 size:w.heap.size≤w'.heap.size
 block:∀ k,k<w.heap.size→k≠sb→pv.ownBlock≠some k→iv.ownBlock≠some k→w'.heap[k]? = w.heap[k]?
 np:∀ j,j<w.heap.size→pv.ownBlock≠some j→pv'.ownBlock≠some j
 ni:∀ j,j<w.heap.size→iv.ownBlock≠some j→iv'.ownBlock≠some j
def QF (sb:Nat) (pv iv:Value) (k:Nat):Prop:=k≠sb∧pv.ownBlock≠some k∧iv.ownBlock≠some k
section
variable {a b c w w' w0:World} {sb:Nat} {p i p1 i1 p2 i2 p' i':Value}
theorem WkTo.trans (h:WkTo a b sb p i p1 i1) (k:WkTo b c sb p1 i1 p2 i2):WkTo a c sb p i p2 i2 :=
 ⟨k.os.trans h.os,k.tape.trans h.tape,k.output.trans h.output,Nat.le_trans h.size k.size,
  λ j hj h1 h2 h3=>(k.block j (Nat.lt_of_lt_of_le hj h.size) h1 (h.np j hj h2) (h.ni j hj h3)).trans (h.block j hj h1 h2 h3),
  λ j hj h2=>k.np j (Nat.lt_of_lt_of_le hj h.size) (h.np j hj h2),λ j hj h2=>k.ni j (Nat.lt_of_lt_of_le hj h.size) (h.ni j hj h2)⟩
theorem WkTo.grow (g:Grow w w'):WkTo w w' sb p i p i:=⟨g.1.os,g.1.tape,g.1.output,g.2,λ k hk _ _ _=>g.block k hk,λ _ _ h=>h,λ _ _ h=>h⟩
theorem WkTo.upd (h:WkTo w0 w sb p i p1 i1) {d:Nat} (u:Upd d w w') (hd:d=sb∨w0.heap.size≤d):WkTo w0 w' sb p i p1 i1 :=
 ⟨u.os.trans h.os,u.tape.trans h.tape,u.output.trans h.output,by rw [u.size];exact h.size,λ k hk h1 h2 h3=>(u.block k (λ e=>by subst e;rcases hd with e|e<;>omega)).trans (h.block k hk h1 h2 h3),h.np,h.ni⟩
theorem WkTo.carry (h:WkTo w w' sb p i p' i') (G:Nat→Prop):Carry (λ k=>G k∧QF sb p i k) w (λ k=>G k∧QF sb p' i' k) w' :=
 ⟨h.size,λ k hk hl=>⟨⟨hk.1,hk.2.1,h.np k hl hk.2.2.1,h.ni k hl hk.2.2.2⟩,h.block k hl hk.2.1 hk.2.2.1 hk.2.2.2⟩⟩
theorem WkTo.carryQ (h:WkTo w w' sb p i p' i'):Carry (QF sb p i) w (QF sb p' i') w' :=
 ⟨h.size,λ k hk hl=>⟨⟨hk.1,h.np k hl hk.2.1,h.ni k hl hk.2.2⟩,h.block k hl hk.1 hk.2.1 hk.2.2⟩⟩
end
structure SeenAt (w:World) (sb B:Nat) (pv iv:Value) (P:List Nat) (I:bQ) (dep:Nat):Prop where
 blk:Blk w sb 191 [pv,iv,.int .i64 (dep:Int)]
 pg:w.ownsRow B 3 1 pv P.length (bC P)
 it:∃ cs,w.ownsRow B 58 2 iv I.length cs∧ItCells (λ j=>B≤j∧QF sb pv iv j) w cs I
 lt:sb<B
theorem own_apart {w:World} {B1 B2 e1 e2 s1 s2 n1 n2:Nat} {v u:Value} {xs ys:List Value} (h:w.ownsRow B1 e1 s1 v n1 xs) (k:w.ownsRow B2 e2 s2 u n2 ys) (he:e1≠e2):∀ j,v.ownBlock=some j→u.ownBlock≠some j:=by
 intro j hj hk;obtain ⟨_,⟨rfl,_⟩|⟨g,g0,f0,rfl,h1,h2,_⟩⟩:=h
 ·cases hj
 obtain ⟨_,⟨rfl,_⟩|⟨g',e0,a0,rfl,k1,k2,_⟩⟩:=k
 ·cases hk
 simp only [Value.ownBlock,Option.some.injEq] at hj hk;subst hj;subst hk;rw [h2] at k2;simp only [Option.some.injEq,Obj.cells.injEq] at k2;exact he k2.2.1
theorem SeenAt.pl {w:World} {sb B:Nat} {pv iv:Value} {P:List Nat} {I:bQ} {a0:Nat} (h:SeenAt w sb B pv iv P I a0):∀ j,pv.ownBlock=some j→B≤j∧j<w.heap.size:=h.pg.lt
theorem SeenAt.il {w:World} {sb B:Nat} {pv iv:Value} {P:List Nat} {I:bQ} {a0:Nat} (h:SeenAt w sb B pv iv P I a0):∀ j,iv.ownBlock=some j→B≤j∧j<w.heap.size:=by
 obtain ⟨cs,h1,_⟩:=h.it;exact h1.lt
theorem SeenAt.pi {w:World} {sb B:Nat} {pv iv:Value} {P:List Nat} {I:bQ} {a0:Nat} (h:SeenAt w sb B pv iv P I a0):∀ j,pv.ownBlock=some j→iv.ownBlock≠some j:=by
 obtain ⟨cs,h1,_⟩:=h.it;exact own_apart h.pg h1 dM
theorem SeenAt.grow {w w':World} {sb B:Nat} {pv iv:Value} {P:List Nat} {I:bQ} {a0:Nat} (h:SeenAt w sb B pv iv P I a0) (g:Grow w w'):SeenAt w' sb B pv iv P I a0:=by
 obtain ⟨cs,h1,h2⟩:=h.it;exact ⟨h.blk.grow g,aS h.pg g,⟨cs,aS h1 g,h2.go (Carry.grow g)⟩,h.lt⟩
theorem SeenAt.upd {w w':World} {sb B d:Nat} {pv iv:Value} {P:List Nat} {I:bQ} {a0:Nat} (h:SeenAt w sb B pv iv P I a0) (u:Upd d w w') (h1:d≠sb) (h2:w.heap.size≤d):SeenAt w' sb B pv iv P I a0:=by
 obtain ⟨cs,k1,k2⟩:=h.it;exact ⟨h.blk.upd u (Ne.symm h1),cN h.pg (λ k _ hk=>u.block k (by have:=h.pl k hk;omega)),⟨cs,cN k1 (λ k _ hk=>u.block k (by have:=h.il k hk;omega)),k2.go (Carry.upd u (λ k hk hl=>by omega))⟩,h.lt⟩
theorem RfAt.walk {K:Nat→Prop} {w w':World} {R:RL} {g:Pg} {sb B:Nat} {pv iv a0 e0:Value} {P:List Nat} {I:bQ} {f0:Nat} (h:RfAt K w R g) (hK:∀ k,K k→k<sb) (hR:R.p<sb∧R.d<sb∧R.c<sb∧R.u<sb) (s:SeenAt w sb B pv iv P I f0) (t:WkTo w w' sb pv iv a0 e0):RfAt K w' R g:=by
 have g0:=s.lt;have key:∀ k,k<sb→k<w.heap.size→w'.heap[k]? = w.heap[k]?:=λ k hk hl=>t.block k hl oM (λ e=>by have:=s.pl k e;omega) (λ e=>by have:=s.il k e;omega);exact h.keep ⟨t.size,λ k hk hl=>⟨hk,key k (hK k hk) hl⟩⟩ λ k hk=>key k oM (by have:=h.lts;omega)
theorem NdAt.tightN {F:Nat→Prop} {w:World} {x:NV} {nd:Nd} (h:NdAt F w x nd):NdAt (λ k=>F k∧k<w.heap.size) w x nd:=h.go (Carry.mono λ k hk hl=>⟨hk,hl⟩)
theorem its_cells {F:Nat→Prop} {w:World} {cs:List Value} {l:bQ} (h:ItCells F w cs l):∀ (i:Nat) (y:Bs×Bs),l[i]? = some y→∃ ka kc va vc,cs[i*2]? = some (.slice ka y.1.length kc)∧cs[i*2+1]? = some (.slice va y.2.length vc)∧Sl F w 1 ka y.1.length kc (bB y.1)∧Sl F w 1 va y.2.length vc (bB y.2):=λ i y hy=>by
 obtain ⟨k,v,g1,g2,b1,b2⟩:=h.at' hy;obtain ⟨ka,kc,rfl,s1⟩:=b1.sl;obtain ⟨va,vc,rfl,s2⟩:=b2.sl;exact ⟨ka,kc,va,vc,by rw [Nat.mul_comm];exact g1,by rw [Nat.mul_comm];exact g2,s1,s2⟩
def RwC (K:Nat→Prop) (R:RL) (g:Pg) (h:Nat):Prop:=∀ (w:World) (sb B:Nat) (pv iv:Value) (P:List Nat) (I:bQ) (dep n d:Nat) (nd:Nd) (l:bQ) (ps:List Nat) (top:Bool) (fa ta:Option Addr) (fc tc:Nat) (fr to:Bs),
 RfAt K w R g→(∀ k,K k→k<sb)→(R.p<sb∧R.d<sb∧R.c<sb∧R.u<sb)→cD g n=some nd→Vt g h nd l ps→(top=true∨4≤aR nd)→1≤aR nd→1≤d→d+h≤16→(dep=0∨dep=d+h)→(∀ p∈n::ps,p∉P)→SeenAt w sb B pv iv P I dep→B≤w.heap.size →
 Sl (QF sb pv iv) w 1 fa fr.length fc (bB fr)→Sl (QF sb pv iv) w 1 ta to.length tc (bB to)→(∀ x∈l,(fr=[]∨¬ eS x.1 fr)∧(to=[]∨eS x.1 to))→(P++n::ps).length≤100000→(I++l).length≤100000 →
 Calls Tryz.prog 168 #[.pointer (some ⟨R.p,0,none⟩),.pointer (some ⟨sb,0,none⟩),.int .i64 (n:Int),.int .i64 (d:Int),.bool top,.slice fa fr.length fc,.slice ta to.length tc] w (Ret λ v w'=>v=.bool true∧∃ pv' iv',SeenAt w' sb B pv' iv' (P++n::ps) (I++l) (d+h)∧WkTo w w' sb pv iv pv' iv')
theorem rwalk_of {K:Nat→Prop} {R:RL} {g:Pg} (h:Nat) (ih:∀ h',h=h'+1→RwC K R g h'):RwC K R g h:=by
 intro w sb B pv iv P I u2 n d nd l ps top fa ta fc tc fr to t4 hK hR hn hv l4 x1 r8 hd n5 j3 a0 hB s7 b7 f4 s5 g4;have f0:=a0.lt;have i6:=fG hn;have o8:=dW (dL hn);have s8:=t4.cnt;have p4:=a0.blk;have o7:n∉P:=j3 n sM;obtain ⟨pa,pc,rfl,k7⟩:=aN a0.pg;refine V.calls (args:=[_,_,_,_,_,_,_]) Tryz.func168 rfl Tryz.ntmps168 rfl rfl ?_;refine dT 4 (λ e w5=>∃ (bn:Nat) (x:NV) (h0:Value),Sub [(16,.int .i64 0),(15,.pointer (some ⟨bn,0,none⟩)),(6,.slice ta to.length tc),(5,.slice fa fr.length fc),(4,.bool top),(3,.int .i64 (d:Int)),(2,.int .i64 (n:Int)),(1,.pointer (some ⟨sb,0,none⟩)),(0,.pointer (some ⟨R.p,0,none⟩))] e∧w.heap.size≤bn∧Blk w5 bn 79 x.cs∧NdAt (λ k=>w.heap.size≤k∧QF sb h0 iv k) w5 x nd∧SeenAt w5 sb B h0 iv (P++[n]) I u2∧WkTo w w5 sb (.slice pa P.length pc) iv h0 iv∧QF sb h0 iv bn) ?_ ?_;rotate_left
 ·repeat (first|(refine aB 209 ?_;refine aA rfl (rin_no _ pa P.length pc P n _ k7 o7) rfl ?_;rintro _ _ ⟨rfl,rfl⟩)|refine yC ?_)
  refine TL.buildSlice rfl rfl rfl rfl rfl ?_;intro b1 w1 r2 q6 e1 e2 e3;have f6:Sl (λ _=>True) w1 1 (some ⟨b1,0,none⟩) 1 1 (bC [n]):=(aU (sz:=1) (m:=1) q6 e3 dM).mono (λ _ _=>trivial);have z1:=r2.size;have f8:P.length+1≤100000:=by simp only [List.length_append,List.length_cons] at s5;omega
  refine dU rfl rfl (aS a0.pg r2) f6 (gG _) (by unfold maxLen;omega) oM oM rfl ?_;intro h0 w2 d2 i0 m1;have t2:WkTo w w2 sb (.slice pa P.length pc) iv h0 iv:=(WkTo.grow r2).trans ⟨i0.os,i0.tape,i0.output,i0.size,λ k hk _ h2 _=>i0.block k hk (λ e=>h2 e.symm),λ j hj h2=>((m1 (λ k=>k=j)).blk j ⟨rfl,h2⟩ hj).1.2,λ _ _ h=>h⟩;have z2:=i0.size;have s4:Blk w2 sb 191 [.slice pa P.length pc,iv,.int .i64 (u2:Int)]:=dF i0 (λ e=>by have:=a0.pl sb e;omega) (p4.grow r2);obtain ⟨ci,e4,d4⟩:=a0.it;obtain ⟨z5,y5,rfl,_⟩:=aN d2;repeat (first|refine aF ?_|refine yJ λ w' hu t0 x1=>?_)
  obtain ⟨w3,rfl⟩:=yE w';have t3:=t2.upd hu (.inl rfl)
  have u0:SeenAt w3 sb B (.slice z5 (P.length+1) y5) iv (P++[n]) I u2:=by
   refine ⟨t0,?_,⟨ci,cN e4 (λ k _ hk=>?_),d4.go (t3.carry (λ j=>B≤j))⟩,f0⟩
   ·have:=gD d2 hu f0;simpa [bC] using this
   ·have r3:=a0.il k hk;exact (hu.block k oM).trans ((i0.block k oM (λ e=>a0.pi k e.symm hk)).trans (r2.block k r3.2))
  have j7:=t4.walk hK hR a0 t3;have l8:=t3.size;clear x1 hu t0 m1 i0 r2 q6 f6 s4 d2 t2 e4 d4;refine aB 113 ?_;refine aA rfl (rnode_c j7 n nd hn) rfl ?_;rintro _ w4 ⟨x,rfl,z0,n6⟩;have z4:=n6.size;repeat (first|refine aF ?_|refine yI λ bk w' hg t0 x1 d7=>?_|refine yJ λ w' hu t0 x1=>?_)
  obtain ⟨bn,rfl⟩:=yE bk;have h6:∀ k,w3.heap.size≤k→QF sb (.slice z5 (P.length+1) y5) iv k:=λ k hk=>⟨by have:=u0.blk.lt;omega,λ e=>by have:=u0.pl k e;omega,λ e=>by have:=u0.il k e;omega⟩
  have y3:Grow w3 w':=aI hu oM (n6.trans hg);refine ⟨bn,x,_,⟨rfl,rfl,rfl,rfl,rfl,rfl,rfl,rfl,rfl,trivial⟩,oM,t0,?_,u0.grow y3,t3.trans (WkTo.grow y3),h6 bn oM⟩;exact (z0.tightN.go ((Carry.grow hg).trans (Carry.upd hu (λ k hk _=>by have:=hk.2;omega)))).go (Carry.mono λ k hk _=>⟨by have:=hk.1;omega,h6 k hk.1⟩)
 rintro e w5 ⟨bn,x,h0,e0,x7,p6,z0,y0,t5,o0⟩;refine bD (e':=[(16,_),(15,_),(6,_),(5,_),(4,_),(3,_),(2,_),(1,_),(0,_)]) ?_ e0;clear e0;have h7:=t4.walk hK hR a0 t5;have j2:=s7.go t5.carryQ;have u1:=b7.go t5.carryQ;have c4:=z0.its.len;have k3:=bU z0.kids;have j6:=z0.kys.len;have r4:=y0.blk;have k8:=t5.size;have c7:aR nd≤8:=sizeN_le i6;have o4:x.n1+x.n2=aR nd:=by rw [c4,k3];rfl
 obtain ⟨a1,n1,c1,a2,n2,c2,a3,n3,c3⟩:=x;simp only at c4 k3 j6 o4;have q0:Blk w5 bn 79 [.slice a1 n1 c1,.slice a2 n2 c2,.slice a3 n3 c3]:=p6;clear p6;refine dT 1 (λ e w6=>Sub [(15,.pointer (some ⟨bn,0,none⟩)),(6,.slice ta to.length tc),(5,.slice fa fr.length fc),(3,.int .i64 (d:Int)),(2,.int .i64 (n:Int)),(1,.pointer (some ⟨sb,0,none⟩)),(0,.pointer (some ⟨R.p,0,none⟩))] e∧w5=w6) ?_ ?_;rotate_left
 ·cases top with
  | true =>
   repeat refine aF ?_
   exact ⟨⟨rfl,rfl,rfl,rfl,rfl,rfl,rfl,trivial⟩,rfl⟩
  | false =>
   have h4:4≤n2+n1∧4≤n1+n2:=by
    rcases l4 with h|h
    ·cases h
    ·omega
   repeat refine aF ?_
   exact ⟨⟨rfl,rfl,rfl,rfl,rfl,rfl,rfl,trivial⟩,rfl⟩
 rintro e _ ⟨e0,rfl⟩;refine bD (e':=[(15,_),(6,_),(5,_),(3,_),(2,_),(1,_),(0,_)]) ?_ e0;clear e0;have f5:=z0.its;have d5:=z0.kids;have c5:=z0.kys;obtain ⟨ci,e4,d4⟩:=y0.it
 cases h with
 | zero =>
  obtain ⟨rfl,rfl,e7,l6⟩:=hv;have h8:n2=0:=by rw [k3];rfl
  have r7:n1=l.length:=c4;obtain ⟨cs,o6,x0⟩:=f5.ex;simp only at o6 x0;have a4:=its_cells x0;have o5:u2=0∨u2=d:=by omega
  have t7:d≤100:=by omega
  rcases o5 with o5|o5
  all_goals
   repeat (first|(refine aB 114 ?_;refine aA rfl (rleaf_c ⟨a1,n1,c1,a2,n2,c2,a3,n3,c3⟩ true _ (by simp only;rw [h8];rfl)) rfl ?_;rintro _ _ ⟨rfl,s0⟩)|refine yC ?_|refine yJ λ w' hu t0 x1=>?_)
   obtain ⟨w6,rfl⟩:=yE w';have t6:WkTo w5 w6 sb h0 iv h0 iv:=(WkTo.grow s0).upd hu (.inl rfl);have r5:=(q0.grow s0).upd hu o0.1;have x4:=gD (aS y0.pg s0) hu f0;have k5:=gD (aS e4 s0) hu f0;have h5:=d4.go (t6.carry (λ j=>B≤j));have m5:=j2.go t6.carryQ;have n4:=u1.go t6.carryQ;have z3:=o6.go (t6.carry (λ k=>w.heap.size≤k));have j8:=t6.size;have q4:Blk w6 sb 191 [h0,iv,.int .i64 (d:Int)]:=t0;have l7:=y0.pl;have m6:=y0.il;have m7:=y0.pi;clear t0 hu x1 s0 q0 r4;refine aX (S:=Nat) (λ i=>[(17,.int .i64 (i:Int)),(15,.pointer (some ⟨bn,0,none⟩)),(6,.slice ta to.length tc),(5,.slice fa fr.length fc),(1,.pointer (some ⟨sb,0,none⟩))]) (λ i w7=>i≤n1∧Grow w6 w7) (λ i=>n1-i) 0 ⟨rfl,rfl,rfl,rfl,rfl,trivial⟩ ⟨Nat.zero_le _,Grow.refl _⟩ ?_;rintro i w7 ⟨hi,g0⟩;have o2:=r5.grow g0;by_cases v0:i<n1
   ·obtain ⟨y,hy⟩:∃ y,l[i]? = some y:=⟨_,List.getElem?_eq_getElem oM⟩
    obtain ⟨ka,kc,va,vc,g1,g2,s1,s2⟩:=a4 i y hy;obtain ⟨b1,b2⟩:=f4 y (List.mem_of_getElem? hy);have u6:=(s1.go (t6.carry (λ k=>w.heap.size≤k))).grow g0;have p0:=z3.grow g0;repeat (first|(refine aH ?_;refine aC (j:=i) rfl rfl rfl v0 rfl ⟨_,_,p0⟩ rfl ?_)|refine bJ rfl p0 g1 rfl ?_|(refine aO ?_;refine aQ rfl (p0.row.cell g1) rfl ?_)|(refine aB 210 ?_;refine aA rfl (rwithin_c _ _ _ ka fa ta kc fc tc y.1 fr to _ u6 (m5.grow g0) (n4.grow g0) b1 b2) rfl ?_;rintro _ _ ⟨rfl,s0⟩)|refine yC ?_)
    exact aE (i+1) ⟨rfl,rfl,rfl,rfl,rfl,trivial⟩ ⟨v0,yG⟩ oM
   obtain rfl:i=n1:=by omega
   have y1:=q4.grow g0;repeat refine aF ?_
   have p5:=(x0.go (t6.carry (λ k=>w.heap.size≤k))).go (Carry.grow g0);have p0:=z3.grow g0;have j5:=aS k5 g0;have g5:=h5.go (Carry.grow g0);have z7:=g0.size;have g8:I.length+l.length≤100000:=by rw [List.length_append] at g4;exact g4
   apply nD (λ wa wb=>wa.grownBy wb iv.ownBlock) 8 7 (λ wq=>Grow w7 wq) (λ wq=>w7.grownBy wq iv.ownBlock) (λ wq=>w7.grownBy wq iv.ownBlock)
    [hZ _,hZ _,hZ _,hZ _,hZ iv,hZ _,hZ _,ofA (λ u wq=>∃ x2,wq.ownsRow B 58 2 u (I.length+l.length) x2∧ItCells (λ j=>B≤j∧QF sb h0 u j) wq x2 (I++l)∧∀ j,j<w7.heap.size→iv.ownBlock≠some j→u.ownBlock≠some j) (by rintro u wa wb g ⟨x2,q1,q2,q3⟩;exact ⟨x2,aS q1 g,q2.go (Carry.grow g),q3⟩)]
   ·kernel_rfl
   ·exact Grow.refl _
   ·exact λ wq g=>⟨g.1.os,g.1.tape,g.1.output,g.2,λ k hk _=>g.block k hk⟩
   ·exact λ _ h=>h
   ·exact λ _ h=>h.size
   ·exact λ _ _ h g=>h.trans g
   ·exact λ _ _ h g=>⟨g.1.os.trans h.os,g.1.tape.trans h.tape,g.1.output.trans h.output,Nat.le_trans h.size g.2,λ k hk f2=>(g.block k (Nat.lt_of_lt_of_le hk h.size)).trans (h.block k hk f2)⟩
   ·exact λ _ _ h=>h.size
   ·repeat' (first|exact iT|refine gY ?_ ?_)
    iterate 7
     ·refine dA rfl rfl rfl rfl ?_;intro wq _ _ l0;have q1:=dF l0 (λ e=>by have:=m6 sb e;omega) y1;have q2:=dF l0 (λ e=>by have:=o0.2.2 e;exact this) o2;(refine yU ?_)
      repeat refine aF ?_
      exact bT rfl (Grow.refl _) rfl
    ·refine iS rfl rfl rfl rfl ?_;intro wq _ _ l0;(refine yU ?_)
     have zq:=l0.size;refine dU rfl rfl (aS j5 l0) (p0.grow l0) x0.one (by unfold maxLen;omega) oM oM rfl ?_;intro v' w8 f3 m0 j1;refine TL.nil ?_;have cA:Carry (λ j=>B≤j∧QF sb h0 iv j) wq (λ j=>B≤j∧QF sb h0 v' j) w8:=((Carry.mono λ j hj _=>⟨⟨hj.1,hj.2.1,hj.2.2.1⟩,hj.2.2.2⟩).trans (j1 (λ j=>B≤j∧j≠sb∧h0.ownBlock≠some j))).trans (Carry.mono λ j hj _=>⟨hj.1.1,hj.1.2.1,hj.1.2.2,hj.2⟩);refine bT rfl ⟨m0,⟨m0.os.trans l0.1.os,m0.tape.trans l0.1.tape,m0.output.trans l0.1.output,Nat.le_trans l0.2 m0.size,λ k hk f2=>(m0.block k oM f2).trans (l0.block k hk)⟩⟩ ⟨ci++cs,by rw [← r7];exact f3,?_,λ j hj f2=>((j1 (λ k=>k=j)).blk j ⟨rfl,f2⟩ oM).1.2⟩;exact ((g5.go (Carry.grow l0)).go cA).append (((p5.go (Carry.grow l0)).go (Carry.mono λ k hk _=>⟨oM,hk.2⟩)).go cA)
   ·rintro wT lo p8 o1 _ _;(((repeat (refine needA_cons rfl rfl ?_;intro vq d6;try (obtain rfl:=Eq.symm d6)));(refine needA_nil ?_)))
    obtain ⟨x2,q1,q2,q3⟩:=d6;have zT:=o1.size;have f7:=dF o1 (λ e=>by have:=m6 sb e;omega) y1;obtain ⟨qa,qc,rfl,_⟩:=aN q1;have u4:wT.ownsRow B 3 1 h0 (P++[n]).length (bC (P++[n])):=cN (aS x4 g0) (λ k _ hk=>o1.block k (by have:=l7 k hk;omega) (λ e=>m7 k hk e.symm));clear y1;repeat (first|refine aF ?_|refine yJ λ w' hu t0 x1=>?_)
    have i4:WkTo w w' sb (.slice pa P.length pc) iv h0 (.slice qa (I.length+l.length) qc):=(((t5.trans t6).trans (WkTo.grow g0)).trans ⟨o1.os,o1.tape,o1.output,o1.size,λ k hk _ _ h3=>o1.block k hk (λ e=>h3 e.symm),λ _ _ h=>h,q3⟩).upd hu (.inl rfl);refine bA rfl ⟨_,rfl,rfl,h0,_,⟨t0,gD u4 hu f0,⟨x2,?_,q2.go (Carry.upd hu λ k hk _=>hk.2.1)⟩,f0⟩,i4⟩;have:=gD q1 hu f0;rw [List.length_append];exact this
 | succ h =>
  have y4:=hv.notin hn;have i3:=hv.nodup;obtain ⟨ls,v1,v2,v3,v4,v5,v6,v7,v8⟩:=hv;have ok:=ndOk i6;have q7:n1=0:=by rw [c4,v1];rfl
  have a5:n2=ls.length:=by rw [k3,v2,List.length_map]
  have h2:2≤n2:=by
   have h3:=ok.ne1;rw [← k3] at h3;omega
  have p7:n3+1=n2:=by rw [j6,a5,v3]
  have f2:∀ x∈ls,x.its≠[]:=λ x hx=>by
   obtain ⟨a6,g1,g2,g3⟩:=v8 x hx;exact g3.ne oM
  obtain ⟨m8,x3,k0⟩:=c5.at';have t7:d≤100:=by omega
  repeat (first|(refine aB 114 ?_;refine aA rfl (rleaf_c ⟨a1,n1,c1,a2,n2,c2,a3,n3,c3⟩ false _ (by simp only;exact decide_eq_false oM)) rfl ?_;rintro _ _ ⟨rfl,s0⟩)|refine yC ?_)
  refine aX (S:=Nat) (λ i=>[(18,.int .i64 (i:Int)),(15,.pointer (some ⟨bn,0,none⟩)),(6,.slice ta to.length tc),(5,.slice fa fr.length fc),(3,.int .i64 (d:Int)),(1,.pointer (some ⟨sb,0,none⟩)),(0,.pointer (some ⟨R.p,0,none⟩))]) (λ i w7=>i≤n3∧Grow w5 w7) (λ i=>n3-i) 0 ⟨rfl,rfl,rfl,rfl,rfl,rfl,rfl,trivial⟩ ⟨Nat.zero_le _,s0⟩ ?_;clear s0;rintro i w7 ⟨hi,g0⟩;have o2:=q0.grow g0;by_cases v0:i<n3
  ·obtain ⟨y,hy⟩:∃ y,nd.keys[i]? = some y:=⟨_,List.getElem?_eq_getElem oM⟩
   obtain ⟨ka,kc,g1,s1⟩:=k0 i y hy;obtain ⟨⟨ya,x5,s6⟩,yb,u5,r6⟩:=key_between v3 v4 f2 (List.mem_of_getElem? hy);rw [← v6] at x5 u5;have b1:fr=[]∨¬ eS y fr:=(f4 ya x5).1.imp id λ q e=>q (eL s6 e);have b2:to=[]∨eS y to:=(f4 yb u5).2.imp id λ q=>klt_of_le r6 q;have f1:=x3.grow g0;repeat (first|(refine aH ?_;refine aC (j:=i) rfl rfl rfl v0 (Nat.mul_one _) ⟨_,_,f1⟩ rfl ?_)|(refine aO ?_;refine aQ rfl (f1.row.cell g1) rfl ?_)|(refine aB 210 ?_;refine aA rfl (rwithin_c _ _ _ ka fa ta kc fc tc y fr to _ (s1.grow g0) (j2.grow g0) (u1.grow g0) b1 b2) rfl ?_;rintro _ _ ⟨rfl,s0⟩)|refine yC ?_)
   exact aE (i+1) ⟨rfl,rfl,rfl,rfl,rfl,rfl,rfl,trivial⟩ ⟨v0,yG⟩ oM
  obtain rfl:i=n3:=by omega
  repeat refine aF ?_
  refine aX (S:=Nat) (λ j=>[(19,.int .i64 (j:Int)),(15,.pointer (some ⟨bn,0,none⟩)),(6,.slice ta to.length tc),(5,.slice fa fr.length fc),(3,.int .i64 (d:Int)),(1,.pointer (some ⟨sb,0,none⟩)),(0,.pointer (some ⟨R.p,0,none⟩))]) (λ j w8=>j≤n2∧∃ (pv2 r1:Value) (n0:Nat),SeenAt w8 sb B pv2 r1 (P++[n]++(ls.take j).flatMap (λ x:Sb=>x.page::x.ps)) (I++(ls.take j).flatMap (λ x:Sb=>x.its)) n0∧(n0=0∨n0=d+(h+1))∧(0<j→n0=d+(h+1))∧WkTo w5 w8 sb h0 iv pv2 r1) (λ j=>n2-j) 0 ⟨rfl,rfl,rfl,rfl,rfl,rfl,rfl,trivial⟩ ⟨Nat.zero_le _,h0,iv,u2,by simpa using y0.grow g0,n5,λ e=>by omega,WkTo.grow g0⟩ ?_;clear o2 g0 hi v0;rintro j w8 ⟨hj,pv2,r1,n0,b4,q8,u7,t8⟩;have c8:=t8.carry (λ k=>w.heap.size≤k);have y7:Blk w8 bn 79 [.slice a1 n1 c1,.slice a2 n2 c2,.slice a3 i c3]:=dO q0 (t8.block bn q0.lt o0.1 o0.2.1 o0.2.2);by_cases v0:j<n2;rotate_left
  ·obtain rfl:j=n2:=by omega
   rw [List.take_of_length_le oM] at b4;have:=u7 oM;subst this;repeat refine aF ?_
   refine bA rfl ⟨_,rfl,rfl,pv2,r1,?_,t5.trans t8⟩;have e:P++n::ps=P++[n]++ls.flatMap (λ x:Sb=>x.page::x.ps):=by rw [v7];simp
   rw [e,v6];exact b4
  obtain ⟨x,hx⟩:∃ x,ls[j]? = some x:=⟨_,List.getElem?_eq_getElem oM⟩
  have j4:=List.mem_of_getElem? hx;obtain ⟨a6,g1,g2,g3⟩:=v8 x j4;have z6:nd.kids[j]? = some x.page:=by rw [v2,List.getElem?_map,hx];rfl
  have k4:∀ y∈x.its,y∈l:=λ y hy=>by rw [v6];exact List.mem_flatMap.2 ⟨x,j4,hy⟩
  have y2:∀ p∈x.page::x.ps,p∈ps:=λ p hp=>by rw [v7];exact List.mem_flatMap.2 ⟨x,j4,hp⟩
  have d3:∀ p∈x.page::x.ps,p∉P++[n]++(ls.take j).flatMap (λ x:Sb=>x.page::x.ps):=by
   intro p hp hm;rcases List.mem_append.1 hm with hm|hm
   ·rcases List.mem_append.1 hm with hm|hm
    ·exact j3 p (List.mem_cons_of_mem _ (y2 p hp)) hm
    ·simp only [List.mem_singleton] at hm;subst hm;exact y4 (y2 p hp)
   ·rw [v7,split_at hx,List.flatMap_append] at i3;have:=(List.nodup_append.1 i3).2.2 p hm p (by simp only [List.flatMap_cons,List.mem_append];exact .inl hp);exact this rfl
  have g7:=h7.walk hK hR y0 t8;have n7:=jT z6;have u3:=d5.go c8;have j0:=x3.go c8;have l5:=j2.go t8.carryQ;have m4:=u1.go t8.carryQ;have z8:=t8.size;have n8:=b4.blk.lt;refine dT 1 (λ e w9=>Sub [(19,.int .i64 (j:Int)),(15,.pointer (some ⟨bn,0,none⟩)),(6,.slice ta to.length tc),(5,.slice fa fr.length fc),(3,.int .i64 (d:Int)),(1,.pointer (some ⟨sb,0,none⟩)),(0,.pointer (some ⟨R.p,0,none⟩))] e∧w8=w9) ?_ ?_;rotate_left
  ·repeat refine aF ?_
   exact ⟨⟨rfl,rfl,rfl,rfl,rfl,rfl,rfl,trivial⟩,rfl⟩
  rintro e _ ⟨e0,rfl⟩;refine bD (e':=[(19,_),(15,_),(6,_),(5,_),(3,_),(1,_),(0,_)]) ?_ e0;clear e0;refine T.seq (T.block ?_);refine dT 3 (λ e w9=>∃ (qa ua:Option Addr) (qc uc:Nat) (q u:Bs),Sub [(21,.slice ua u.length uc),(20,.slice qa q.length qc),(19,.int .i64 (j:Int)),(15,.pointer (some ⟨bn,0,none⟩)),(6,.slice ta to.length tc),(5,.slice fa fr.length fc),(3,.int .i64 (d:Int)),(1,.pointer (some ⟨sb,0,none⟩)),(0,.pointer (some ⟨R.p,0,none⟩))] e∧w8=w9∧Sl (QF sb pv2 r1) w8 1 qa q.length qc (bB q)∧Sl (QF sb pv2 r1) w8 1 ua u.length uc (bB u)∧∀ y∈x.its,(q=[]∨¬ eS y.1 q)∧(u=[]∨eS y.1 u)) ?_ ?_;rotate_left
  ·have m3:j=0∨∃ jj k,j=jj+1∧nd.keys[jj]? = some k:=by
    cases j with
    | zero=>exact .inl rfl
    | succ jj=>exact .inr ⟨jj,_,rfl,List.getElem?_eq_getElem oM⟩
   have h1:j=i∨∃ k,j<i∧nd.keys[j]? = some k:=by
    by_cases e:j=i
    ·exact .inl e
    ·exact .inr ⟨_,oM,List.getElem?_eq_getElem oM⟩
   have hL:∀ jj k,j=jj+1→nd.keys[jj]? = some k→∀ y∈x.its,¬ eS y.1 k:=λ jj k e hk y hy=>(toks_adj v3 v4 jj k hk).2 x (by rw [← e];exact hx) y hy;have hH:∀ k,nd.keys[j]? = some k→∀ y∈x.its,eS y.1 k:=λ k hk y hy=>(toks_adj v3 v4 j k hk).1 x hx y hy;have bq:=λ y hy=>f4 y (k4 y hy);rcases m3 with m3|⟨jj,kl,m3,r3⟩
   ·rcases h1 with h1|⟨kh,h1,s3⟩
    ·omega
    ·obtain ⟨ha,q5,gh,sh⟩:=k0 j kh s3;repeat (first|(refine aH ?_;refine aC (j:=j) rfl rfl rfl h1 (Nat.mul_one _) ⟨_,_,j0⟩ rfl ?_)|(refine aO ?_;refine aQ rfl (j0.row.cell gh) rfl ?_)|refine yC ?_)
     exact ⟨fa,ha,fc,q5,fr,kh,⟨rfl,rfl,rfl,rfl,rfl,rfl,rfl,rfl,rfl,trivial⟩,rfl,l5,(sh.go c8).mono (λ k hk=>hk.2),λ y hy=>⟨(bq y hy).1,.inr (hH kh s3 y hy)⟩⟩
   ·obtain ⟨la,c6,gl,sl⟩:=k0 jj kl r3;have k6:jj<i:=by omega
    rcases h1 with h1|⟨kh,h1,s3⟩
    ·repeat (first|(refine aH ?_;refine aC (j:=jj) rfl rfl oM k6 (Nat.mul_one _) ⟨_,_,j0⟩ rfl ?_)|(refine aO ?_;refine aQ rfl (j0.row.cell gl) rfl ?_)|refine yC ?_)
     exact ⟨la,ta,c6,tc,kl,to,⟨rfl,rfl,rfl,rfl,rfl,rfl,rfl,rfl,rfl,trivial⟩,rfl,(sl.go c8).mono (λ k hk=>hk.2),m4,λ y hy=>⟨.inr (hL jj kl m3 r3 y hy),(bq y hy).2⟩⟩
    ·obtain ⟨ha,q5,gh,sh⟩:=k0 j kh s3;repeat (first|(refine aH ?_;first|refine aC (j:=j) rfl rfl rfl h1 (Nat.mul_one _) ⟨_,_,j0⟩ rfl ?_|refine aC (j:=jj) rfl rfl oM k6 (Nat.mul_one _) ⟨_,_,j0⟩ rfl ?_)|(refine aO ?_;first|refine aQ rfl (j0.row.cell gh) rfl ?_|refine aQ rfl (j0.row.cell gl) rfl ?_)|refine yC ?_)
     exact ⟨la,ha,c6,q5,kl,kh,⟨rfl,rfl,rfl,rfl,rfl,rfl,rfl,rfl,rfl,trivial⟩,rfl,(sl.go c8).mono (λ k hk=>hk.2),(sh.go c8).mono (λ k hk=>hk.2),λ y hy=>⟨.inr (hL jj kl m3 r3 y hy),.inr (hH kh s3 y hy)⟩⟩
  rintro e _ ⟨qa,ua,qc,uc,q,u,e0,rfl,hq,a7,d8⟩;refine bD (e':=[(21,_),(20,_),(19,_),(15,_),(6,_),(5,_),(3,_),(1,_),(0,_)]) ?_ e0;clear e0
  have o3:(P++[n]++(ls.take j).flatMap (λ x:Sb=>x.page::x.ps)++x.page::x.ps).length≤100000:=by
   rw [v7,split_at hx] at s5;simp only [List.length_append,List.length_cons,List.flatMap_append,List.flatMap_cons,List.length_nil] at s5 ⊢;omega
  have p3:(I++(ls.take j).flatMap (λ x:Sb=>x.its)++x.its).length≤100000:=by
   rw [v6,split_at hx] at g4;simp only [List.length_append,List.flatMap_append,List.flatMap_cons] at g4 ⊢;omega
  repeat (first|(refine aH ?_;refine aC (j:=j) rfl rfl rfl v0 (Nat.mul_one _) ⟨_,_,u3⟩ rfl ?_)|(refine aO ?_;refine aQ rfl (u3.row.cell n7) rfl ?_)|refine yC ?_)
  refine aB 168 ?_;refine aA rfl (ih h rfl w8 sb B pv2 r1 _ _ n0 x.page (d+1) a6 x.its x.ps false qa ua qc uc q u g7 hK hR g1 g3 (.inr g2) oM oM oM oM d3 b4 oM hq a7 d8 o3 p3) rfl ?_;rintro _ w9 ⟨rfl,x6,y6,g6,t9⟩;repeat refine aF ?_
  refine aE (j+1) ⟨rfl,rfl,rfl,rfl,rfl,rfl,rfl,trivial⟩ ⟨v0,x6,y6,d+1+h,?_,.inr oM,λ _=>by omega,t8.trans t9⟩ oM;rw [eA hx,List.flatMap_append,List.flatMap_append];simp only [List.flatMap_cons,List.flatMap_nil,List.append_nil,← List.append_assoc] at g6 ⊢;exact g6
theorem rwalk_c {K:Nat→Prop} {R:RL} {g:Pg}:∀ h,RwC K R g h
 | 0=>rwalk_of 0 (λ h' e=>by cases e)
 | h+1=>rwalk_of (h+1) (λ h' e=>by cases e;exact rwalk_c h)
theorem rbegin_c (p:Nat) (root:Option Nat) (hr:∀ n,root=some n→n<9223372036854775808) (w:World) :
  Calls Tryz.prog 104 #[.pointer (some ⟨p,0,none⟩),.int .i64 (dC root)] w (Ret λ v w'=>v=.int .i64 0∧w=w'):=by
 refine V.calls (args:=[_,_]) Tryz.func104 rfl Tryz.ntmps104 rfl rfl ?_
 have h1 : -1≤dC root:=by
  cases root with
  | none=>show (-1:Int)≤-1;omega
  | some n=>show (-1:Int)≤(n:Int);omega
 repeat (first|(refine kX 65 ?_;refine TL.eqNilP rfl rfl rfl ?_)|refine yA ?_)
 exact bA rfl ⟨_,rfl,rfl,rfl⟩
theorem rwhole_c {K:Nat→Prop} {w:World} {R:RL} {g:Pg} (h:RfAt K w R g) {a0:Option Nat} {lv:Nat} {l:bQ} {ps:List Nat} (ht:TrAt g a0 lv l ps) (n0:lv≤16) (hl:l.length≤100000) :
  Calls Tryz.prog 116 #[.pointer (some ⟨R.p,0,none⟩),.int .i64 (dC a0)] w (Ret λ v w'=>∃ sb B pv iv,v=.tuple #[.pointer (some ⟨sb,0,none⟩),.int .i64 0]∧w.heap.size≤sb∧SeenAt w' sb B pv iv ps l lv∧Grow w w'):=by
 have hr:∀ n,a0=some n→n<9223372036854775808:=λ n e=>by
  subst e;have:=ht.lt h.ok;omega
 refine V.calls (args:=[_,_]) Tryz.func116 rfl Tryz.ntmps116 rfl rfl ?_;repeat (first|(refine aB 104 ?_;refine aA rfl (rbegin_c R.p a0 hr _) rfl ?_;rintro _ _ ⟨rfl,rfl⟩)|refine yC ?_|refine yI λ bk w' hg j0 k0 h0=>?_)
 have i0:=h.lts;have e0:SeenAt w' bk (bk+1) (.slice none 0 0) (.slice none 0 0) [] [] 0:=⟨j0,World.ownsRow_nil _ _ _ _,⟨[],World.ownsRow_nil _ _ _ _,trivial⟩,oM⟩
 cases a0 with
 | none =>
  obtain ⟨rfl,rfl,rfl⟩:=ht;have hm:dC none = -1:=rfl;rw [hm];repeat refine aF ?_
  exact eZ rfl rfl ⟨_,rfl,bk,bk+1,_,_,rfl,oM,e0,hg⟩
 | some n =>
  have hm:dC (some n)=(n:Int):=rfl;rw [hm];obtain ⟨hh,nd,f0,e1,e2,e3,e4,rfl⟩:=ht;have l0:=e3.pages;have m0:=dW (dL e2);have p0:=h.cnt;have g0:=(h.tight).grow hg;repeat refine aF ?_
  refine aB 168 ?_;refine aA rfl (rwalk_c hh w' bk (bk+1) _ _ [] [] 0 n 1 nd l f0 true none none 0 0 [] [] g0 (λ k hk=>by have:=hk.2;omega) oM e2 e3 (.inl rfl) e4 (Nat.le_refl _) oM (.inl rfl) (λ p _ hp=>by cases hp) e0 oM (Sl.nil_mk _ _ _) (Sl.nil_mk _ _ _) (λ x _=>⟨.inl rfl,.inl rfl⟩) (by simp only [List.nil_append,List.length_cons];omega) (by simpa using hl)) rfl ?_;rintro _ w2 ⟨rfl,pv,iv,hs,tt⟩;repeat refine aF ?_
  refine eZ rfl rfl ⟨_,rfl,bk,bk+1,pv,iv,rfl,oM,?_,?_⟩
  ·have e9:1+hh=lv:=by omega
   rw [e9] at hs;exact hs
  ·have o0:=tt.size;exact Grow.mk ⟨tt.os.trans hg.1.os,tt.tape.trans hg.1.tape,tt.output.trans hg.1.output,oM,λ k hk=>(tt.block k oM oM (by simp [Value.ownBlock]) (by simp [Value.ownBlock])).trans (hg.block k hk)⟩
def insN (x:Nat) (l:List Nat):List Nat:=l.take (l.takeWhile (λ y=>decide (y<x))).length++x::l.drop (l.takeWhile (λ y=>decide (y<x))).length
theorem insN_mem {x y:Nat} {l:List Nat}:y∈insN x l↔y=x∨y∈l:=by
 unfold insN;generalize (l.takeWhile (λ y=>decide (y<x))).length=k;rw [List.mem_append,List.mem_cons]
 have:y∈l↔y∈l.take k∨y∈l.drop k:=by
  conv=>lhs;rw [← List.take_append_drop k l]
  exact List.mem_append
 rw [this];constructor
 ·rintro (h|h|h)
  ·exact .inr (.inl h)
  ·exact .inl h
  ·exact .inr (.inr h)
 ·rintro (h|h|h)
  ·exact .inr (.inl h)
  ·exact .inl h
  ·exact .inr (.inr h)
theorem length_insN (x:Nat) (l:List Nat):(insN x l).length=l.length+1:=by
 unfold insN;generalize (l.takeWhile (λ y=>decide (y<x))).length=k;rw [List.length_append,List.length_cons,List.length_take,List.length_drop];omega
def srtN:List Nat→List Nat
 | []=>[]
 | x::l=>insN x (srtN l)
theorem srtN_mem {l:List Nat} {y:Nat}:y∈srtN l↔y∈l:=by
 induction l with
 | nil=>exact Iff.rfl
 | cons x l ih=>rw [srtN,insN_mem,ih,List.mem_cons]
theorem length_srtN (l:List Nat):(srtN l).length=l.length:=by
 induction l with
 | nil=>rfl
 | cons x l ih=>rw [srtN,length_insN,ih,List.length_cons]
theorem slAd_own {w:World} {base el sz n c:Nat} {a:Option Addr} {xs:List Value} (h:w.ownsRow base el sz (.slice a n c) n xs) (m:Nat):eM a m 0 sz=a:=by
 obtain ⟨_,⟨e,_⟩|⟨g,e0,a0,e,_⟩⟩:=h
 ·cases e;simp [eM]
 ·cases e;simp [eM,Addr.add_lit]
theorem rreach_c {K:Nat→Prop} {w:World} {R:RL} {g:Pg} (h:RfAt K w R g) {l0:Option Nat} {lv:Nat} {l:bQ} {ps:List Nat} (ht:TrAt g l0 lv l ps) (h2:lv≤16) (hl:l.length≤100000) :
  Calls Tryz.prog 35 #[.pointer (some ⟨R.p,0,none⟩),.int .i64 (dC l0)] w (Ret λ v w'=>∃ a c,v=.tuple #[.slice a ps.length c,.int .i64 0]∧Sl (λ k=>w.heap.size≤k) w' 1 a ps.length c (bC (srtN ps.reverse))∧Grow w w'):=by
 have d3:=ht.pages;refine V.calls (args:=[_,_]) Tryz.func35 rfl Tryz.ntmps35 rfl rfl ?_;repeat refine aF ?_
 refine aB 116 ?_;refine aA rfl (rwhole_c h ht h2 hl) rfl ?_;rintro _ w1 ⟨sb,B,pv,iv,rfl,x2,hs,s1⟩;obtain ⟨pa,pc,rfl,f2⟩:=aN hs.pg;have m1:=hs.blk;have z1:=s1.size;repeat refine aF ?_
 refine aX (S:=Value×Nat) (λ s=>[(9,.int .i64 (s.2:Int)),(8,s.1),(6,.pointer (some ⟨sb,0,none⟩))]) (λ s w2=>s.2≤ps.length∧w2.ownsRow w1.heap.size 3 1 s.1 s.2 (bC (srtN (ps.take s.2).reverse))∧Grow w1 w2) (λ s=>ps.length-s.2) (.slice none 0 0,0) ⟨rfl,rfl,rfl,trivial⟩ ⟨Nat.zero_le _,World.ownsRow_nil _ _ _ _,Grow.refl _⟩ ?_;rintro ⟨v,i⟩ w2 ⟨hi,h0,u0⟩;simp only at hi h0;have z2:=u0.size;have k0:=m1.grow u0;have p0:=f2.grow u0;by_cases t0:i<ps.length;rotate_left
 ·obtain rfl:i=ps.length:=by omega
  rw [List.take_length] at h0;obtain ⟨a,c,rfl,y0⟩:=aN h0;repeat refine aF ?_
  exact eZ rfl rfl ⟨_,rfl,a,c,rfl,y0.mono (λ k hk=>by have:=hk.1;omega),s1.trans u0⟩
 obtain ⟨x,hx⟩:∃ x,ps[i]? = some x:=⟨_,List.getElem?_eq_getElem t0⟩
 have gx:=jT hx;have i3:(srtN (ps.take i).reverse).length=i:=by rw [length_srtN,List.length_reverse,List.length_take];omega
 have r2:srtN (ps.take (i+1)).reverse=insN x (srtN (ps.take i).reverse):=by rw [eA hx,List.reverse_append];rfl
 generalize srtN (ps.take i).reverse=S at *;obtain ⟨a,c,rfl,y0⟩:=aN h0;have o0:Sl (λ k=>w1.heap.size≤k) w2 1 a i c (bC S):=y0.mono λ k hk=>hk.1;have j1:=y0.cap;refine dT 1 (λ e w3=>Sub [(9,.int .i64 (i:Int)),(8,.slice a i c),(6,.pointer (some ⟨sb,0,none⟩))] e∧w2=w3) ?_ ?_;rotate_left
 ·repeat refine aF ?_
  exact ⟨⟨rfl,rfl,rfl,trivial⟩,rfl⟩
 rintro e _ ⟨g0,rfl⟩;refine bD (e':=[(9,_),(8,_),(6,_)]) ?_ g0;clear g0;refine T.seq (T.block ?_);have o1:(S.takeWhile λ y=>decide (y<x)).length≤S.length:=dY _ _;refine dT 2 (λ e w3=>Sub [(10,.int .i64 (((S.takeWhile λ y=>decide (y<x)).length:Nat):Int)),(9,.int .i64 (i:Int)),(8,.slice a i c),(6,.pointer (some ⟨sb,0,none⟩))] e∧Grow w2 w3) ?_ ?_;rotate_left
 ·obtain ⟨t,n0⟩:∃ t,t=(S.takeWhile λ y=>decide (y<x)).length:=⟨_,rfl⟩
  rw [← n0] at o1 ⊢;repeat refine aF ?_
  refine aX (S:=Nat) (λ k=>[(10,.int .i64 (k:Int)),(9,.int .i64 (i:Int)),(8,.slice a i c),(6,.pointer (some ⟨sb,0,none⟩))]) (λ k w3=>k≤t∧Grow w2 w3) (λ k=>t-k) 0 ⟨rfl,rfl,rfl,rfl,trivial⟩ ⟨Nat.zero_le _,Grow.refl _⟩ ?_;rintro k w3 ⟨hk,i0⟩;have x0:=k0.grow i0;have a0:=p0.grow i0;have f0:=o0.grow i0;by_cases q1:k<i;rotate_left
  ·obtain rfl:k=i:=by omega
   obtain rfl:k=t:=by omega
   repeat refine aF ?_
   apply T.any 17 [is _,is _,is _,is _,is _,is _,is _,is _,is _,is _,is _,is _,is _,is _,is _,is _,is _];(· kernel_rfl);(· ((repeat' (first|exact aM|refine aK ?_ ?_));(iterate 17 (· (refine yQ λ wq _ _ e0=>?_;(repeat refine aF ?_);exact aD rfl yG rfl)))));(rintro _ _ _ r1 _ _;(refine yT ?_))
   repeat refine aF ?_
   exact ⟨⟨rfl,rfl,rfl,rfl,trivial⟩,yG⟩
  obtain ⟨y,hy⟩:∃ y,S[k]? = some y:=⟨_,List.getElem?_eq_getElem oM⟩
  have gy:=jT hy;by_cases j2:k<t
  ·have u1:y<x:=by
    have:=gF (λ y=>decide (y<x)) S k y oM hy;simpa using this
   repeat refine aF ?_
   apply T.any 17 [is _,is _,is _,is _,is _,is _,is _,is _,is _,is _,is _,is _,is _,is _,is _,is _,is _];(· kernel_rfl);(· ((repeat' (first|exact aM|refine aK ?_ ?_));(iterate 17 (· (refine yQ λ wq _ _ e0=>?_;(repeat (first|refine aF ?_|(refine aH ?_;first|refine aC (j:=k) rfl rfl rfl q1 (Nat.mul_one _) ⟨_,_,f0.grow (by assumption)⟩ rfl ?_|refine aC (j:=i) rfl rfl rfl t0 (Nat.mul_one _) ⟨_,_,a0.grow (by assumption)⟩ rfl ?_)|(refine aO ?_;first|refine aQ rfl ((f0.grow (by assumption)).row.cell gy) rfl ?_|refine aQ rfl ((a0.grow (by assumption)).row.cell gx) rfl ?_)));exact aD rfl yG rfl)))));(rintro _ _ _ r1 _ _;(refine yT ?_))
   repeat refine aF ?_
   exact aE (k+1) ⟨rfl,rfl,rfl,rfl,trivial⟩ ⟨j2,yG⟩ oM
  ·obtain rfl:k=t:=by omega
   have u1:¬ y<x:=by
    have:=jP (λ y=>decide (y<x)) S y (by rw [← n0];exact hy);simpa using this
   repeat refine aF ?_
   apply T.any 17 [is _,is _,is _,is _,is _,is _,is _,is _,is _,is _,is _,is _,is _,is _,is _,is _,is _];(· kernel_rfl);(· ((repeat' (first|exact aM|refine aK ?_ ?_));(iterate 17 (· (refine yQ λ wq _ _ e0=>?_;(repeat (first|refine aF ?_|(refine aH ?_;first|refine aC (j:=k) rfl rfl rfl q1 (Nat.mul_one _) ⟨_,_,f0.grow (by assumption)⟩ rfl ?_|refine aC (j:=i) rfl rfl rfl t0 (Nat.mul_one _) ⟨_,_,a0.grow (by assumption)⟩ rfl ?_)|(refine aO ?_;first|refine aQ rfl ((f0.grow (by assumption)).row.cell gy) rfl ?_|refine aQ rfl ((a0.grow (by assumption)).row.cell gx) rfl ?_)));exact aD rfl yG rfl)))));(rintro _ _ _ r1 _ _;(refine yT ?_))
   repeat refine aF ?_
   exact ⟨⟨rfl,rfl,rfl,rfl,trivial⟩,yG⟩
 rintro e w3 ⟨g0,i0⟩;refine bD (e':=[(10,_),(9,_),(8,_),(6,_)]) ?_ g0;clear g0;obtain ⟨t,n0⟩:∃ t,t=(S.takeWhile λ y=>decide (y<x)).length:=⟨_,rfl⟩
 have z0:insN x S=S.take t++x::S.drop t:=by rw [n0];rfl
 rw [← n0] at o1 ⊢;have j0:=aS h0 i0;have x0:=k0.grow i0;have a0:=p0.grow i0;have f0:=o0.grow i0;have z3:=i0.size;have h1:=u0.trans i0
 have x1:Sl (λ k=>w1.heap.size≤k) w3 1 (eM a c t 1) (i-t) (c-t) (bC (S.drop t)):=by
  have:=eX (l:=t) (h:=i) (mm:=c) f0 oM (Nat.le_refl _) j1 (Nat.le_refl _);rw [List.take_of_length_le (by rw [List.length_drop,length_ints'];omega),Nat.mul_one] at this;simpa [bC,List.map_drop] using this
 apply T.anyL 15 14 [is (.slice a i c),is (.int .i64 (t:Int)),is (.slice a t c),is (.pointer (some ⟨sb,0,none⟩)),is _,is _,is (.slice pa ps.length pc),is (.int .i64 (i:Int)),is _,is (.int .i64 (x:Int)),own w3.heap.size 3 1 1 (bC [x]),is (.slice a i c),is (.int .i64 (t:Int)),is (.slice (eM a c t 1) (i-t) (c-t)),own w3.heap.size 3 1 (1+(i-t)) (bC [x]++bC (S.drop t))]
 ·rfl
 ·rfl
 ·repeat' (first|exact aM|refine aK ?_ ?_)
  iterate 2
   ·refine yQ λ wq _ _ e0=>?_;repeat refine aF ?_
    exact aD rfl yG rfl
  ·refine yQ λ wq _ _ e0=>?_;refine cJ ?_;refine dH (l:=0) (h:=t) (mm:=c) rfl (aP _) (bI rfl rfl) (aP _) (by intro h;cases h) oM oM oM oM oM rfl ?_;rw [slAd_own j0 c];repeat refine aF ?_
   exact aD rfl yG rfl
  iterate 7
   ·refine yQ λ wq _ _ e0=>?_;repeat (first|(refine aH ?_;refine aC (j:=i) rfl rfl rfl t0 (Nat.mul_one _) ⟨_,_,a0.grow e0⟩ rfl ?_)|(refine aO ?_;refine aQ rfl ((a0.grow e0).row.cell gx) rfl ?_)|refine yC ?_)
    exact aD rfl yG rfl
  ·refine yQ λ wq _ _ e0=>?_;have zq:=e0.size;refine TL.buildSlice rfl rfl rfl rfl rfl ?_;intro b' wa h3 q2 y2 y1 u2;repeat refine aF ?_
   exact aD rfl yG (own_lit q2 oM rfl dM)
  iterate 2
   ·refine yQ λ wq _ _ e0=>?_;repeat refine aF ?_
    exact aD rfl yG rfl
  ·refine yQ λ wq _ _ e0=>?_;refine cJ ?_;refine dH (l:=t) (h:=i) (mm:=c) rfl (bI rfl rfl) (aP _) (aP _) (by intro h;rfl) oM oM oM oM oM rfl ?_;repeat refine aF ?_
   exact aD rfl yG rfl
  ·(((refine bR rfl rfl rfl ?_);( intro wq _ _ e0;(repeat (refine aJ rfl rfl ?_;intro vq m0;try (obtain rfl:=m0)));(refine aY ?_))))
   have zq:=e0.size;have ho:wq.ownsRow w3.heap.size 3 1 vq 1 (bC [x]):=m0;refine TL.append rfl rfl ho (x1.grow e0) (gG _) (by unfold maxLen;omega) oM oM rfl ?_;intro v' wr q0 o2 _;repeat refine aF ?_
   exact one_loose rfl (aL o2 zq (λ k hk=>(aT ho hk).1) (Below.refl _ _)) q0
 intro w5 s2 g3 f1 _ _;((((repeat (refine aJ rfl rfl ?_;intro vq m0;try (obtain rfl:=m0)));(refine aY ?_))))
 have g2:w5.ownsRow w3.heap.size 3 1 vq (1+(i-t)) (bC [x]++bC (S.drop t)):=m0;obtain ⟨qa,qc,rfl,d2⟩:=aN g2;have z5:=f1.size;obtain ⟨v',⟨a',c',e1,rfl⟩,v0,f3⟩:=own_cut (aS j0 f1) (show t≤i by omega);cases e1
 refine TL.append rfl rfl v0 d2 (λ u hu=>by
  rcases List.mem_append.1 hu with hu|hu
  ·exact gG _ u hu
  ·exact gG _ u hu) (by unfold maxLen;omega) oM oM rfl ?_
 intro v6 w6 s0 b1 _;have g1:Grow w1 w6:=grow_own (h1.trans f1) v0 b1;repeat refine aF ?_
 refine aE (v6,i+1) ⟨rfl,rfl,rfl,trivial⟩ ⟨t0,?_,g1⟩ (by simp only;omega);simp only;rw [r2,z0];have e2:bC (S.take t++x::S.drop t)=(bC S).take (t*1)++(bC [x]++bC (S.drop t)):=by simp [bC,List.map_take]
 rw [e2];rwa [show t+(1+(i-t))=i+1 by omega] at s0
end Go.Proofs.YtfpadnmdafiddaaGreatDoor
