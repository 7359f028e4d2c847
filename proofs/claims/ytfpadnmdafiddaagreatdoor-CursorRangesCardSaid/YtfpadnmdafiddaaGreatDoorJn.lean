import Derived.Test.YtfpadnmdafiddaaGreatDoorJ0
import Derived.Test.YtfpadnmdafiddaaGreatDoorJg
import Derived.Test.YtfpadnmdafiddaaGreatDoorJm
import Derived.Test.YtfpadnmdafiddaaGreatDoorJl
import Derived.Test.YtfpadnmdafiddaaGreatDoorJc
import Derived.Test.YtfpadnmdafiddaaGreatDoorJe
import Derived.Test.YtfpadnmdafiddaaGreatDoorJd
import Derived.Test.YtfpadnmdafiddaaGreatDoorJh
import Derived.Test.YtfpadnmdafiddaaGreatDoorJf
set_option linter.all false
set_option maxHeartbeats 16000000
set_option maxRecDepth 100000
namespace Go.Proofs.YtfpadnmdafiddaaGreatDoor
open Go Go.RowKit Go.V
theorem rbytes_c (s:St) (w:World):Calls Tryz.prog 216 #[.agg (s.l.map wB).toArray] w (Ret λ v w'=>v=.agg (bB (sumS s)).toArray∧Grow w w'):=by
 refine V.calls (args:=[_]) Tryz.func216 rfl Tryz.ntmps216 rfl rfl ?_;repeat (first|(refine fN ?_;refine eP 64 zero_64 rfl ?_;intro bk w' hg e0 k0 f0)|refine yC ?_|refine yI λ bk w' hg e0 k0 f0=>?_)
 rename_i b1 w1 u0 i0 q1 p0 b2 w2 t0 g0 q2 o0;have h0:Blk w' b1 295 (s.l.map wB):=by exact yB
 have a0:Blk w' b2 238 (bB (zs 64)):=by exact yB
 have n0:Grow w w':=by exact yG
 have hn:b1≠bk∧b2≠bk∧w.heap.size≤bk∧w.heap.size≤b2:=by omega
 clear u0 i0 q1 p0 t0 g0 q2 o0 hg k0 f0;refine aX (S:=Nat) (λ i=>[(4,.int .i64 (i:Int)),(3,.pointer (some ⟨bk,0,none⟩)),(2,.pointer (some ⟨b2,0,none⟩)),(1,.pointer (some ⟨b1,0,none⟩))]) (λ i w3=>i≤64∧Blk w3 bk 238 (bB (sumL s i))∧Blk w3 b1 295 (s.l.map wB)∧Blk w3 b2 238 (bB (zs 64))∧Grow w w3) (λ i=>64-i) 0 ⟨rfl,rfl,rfl,rfl,trivial⟩ ⟨oM,e0,h0,a0,n0⟩ ?_;clear e0 h0 a0 n0;rintro i w3 ⟨hi,e0,i0,g0,hg⟩;have m0:=sumL_len s i;by_cases s0:i<64
 ·have x0:s.l.length=8:=rfl;repeat (first|(refine aO ?_;refine aQ rfl (Blk.cell i0 (kE oM)) rfl ?_)|(refine aH ?_;refine TL.indexA1 (j:=i / 8) rfl rfl oM rfl ?_)|(refine eN ?_;refine TL.mulN (a:=8) rfl rfl oM rfl ?_)|(refine iV ?_;refine TL.subN (a:=56) (b:=8*(i%8)) rfl rfl oM oM rfl ?_)|(refine eR ?_;refine TL.shrS rfl rfl (by show 56-8*(i%8)≤64;omega) rfl ?_)|(refine dS ?_;refine iH rfl (M:=256) rfl rfl ?_)|refine yC ?_)
  have l0:(s.l.getD (i / 8) 0#64).toNat / 2^(56-8*(i%8))%256=sumB s i:=rfl;rw [l0];refine dR rfl rfl e0 rfl (by rw [bF,m0];exact Nat.ble_eq_true_of_le oM) (bys_set _ _ _) ?_;intro w7 j0 v0 y0;repeat refine aF ?_
  exact aE (i+1) ⟨rfl,rfl,rfl,rfl,trivial⟩ ⟨s0,v0,i0.upd j0 hn.1,g0.upd j0 hn.2.1,aI j0 hn.2.2.1 hg⟩ oM
 obtain rfl:i=64:=by omega
 rw [sumL_end] at e0;have hl:=kS s;generalize sumS s=l at *;clear m0;obtain ⟨z,hz⟩:∃ z,z=zs 64:=⟨_,rfl⟩
 have q0:z.length=64:=by rw [hz];exact cL _
 rw [← hz] at g0;clear hz;repeat (first|refine nY rfl e0 hl rfl ?_|(refine bZ ?_;refine fM rfl rfl g0 q0 hl ?_;intro w' hu a0 k0)|refine yC ?_)
 exact retC rfl (aW a0 (by rw [bF,hl];rfl)) ⟨_,rfl,rfl,aI hu hn.2.2.2 hg⟩
theorem rstart_c (w:World):Calls Tryz.prog 255 #[] w (Ret λ v w'=>v=.agg (startL.map wB).toArray∧Grow w w'):=by
 refine V.calls (args:=[]) Tryz.func255 rfl Tryz.ntmps255 rfl rfl ?_;repeat (first|refine dB ?_|refine yI λ bk w' hg f0 e0 a0=>?_|refine yJ λ w' hu f0 e0=>?_)
 exact retC rfl (aW (by assumption) rfl) ⟨_,rfl,rfl,yG⟩
theorem rjoin_c (F:Nat→Prop) (a:Option Addr) (n c:Nat) (e0:List Bs) (w:World) (h:KysAt F w a n c e0) (hn:e0.flatten.length≤100000) :
  Calls Tryz.prog 219 #[.slice a n c] w (Ret λ v w'=>w'.ownsRow w.heap.size 5 1 v e0.flatten.length (bB e0.flatten)∧Grow w w'):=by
 have m0:=h.len;obtain ⟨cs,hs,h0⟩:=h.at';have k0:=hs.le;refine V.calls (args:=[_]) Tryz.func219 rfl Tryz.ntmps219 rfl rfl ?_;repeat refine aF ?_
 refine aX (S:=Value×Nat) (λ s=>[(4,.int .i64 (s.2:Int)),(3,s.1),(0,.slice a n c)]) (λ s w3=>s.2≤n∧w3.ownsRow w.heap.size 5 1 s.1 (e0.take s.2).flatten.length (bB (e0.take s.2).flatten)∧Grow w w3) (λ s=>n-s.2) (.slice none 0 0,0) ⟨rfl,rfl,rfl,trivial⟩ ⟨sM,by simpa [bB] using lO,Grow.refl _⟩ ?_;rintro ⟨v,j⟩ w3 ⟨hj,a0,g0⟩;simp only at hj a0;have o0:=g0.size;have j0:=hs.grow g0;have p0:=flat_le e0 j;by_cases l0:j<n
 ·obtain ⟨p,hp⟩:∃ p,e0[j]? = some p:=⟨_,List.getElem?_eq_getElem oM⟩
  obtain ⟨ka,kc,g1,s1⟩:=h0 j p hp;have q0:w3.cell? (at' a j)=some (.slice ka p.length kc):=j0.row.cell g1;have i0:=flat_le e0 (j+1);rw [lY hp,List.length_append] at i0;repeat (first|(refine aH ?_;refine aC rfl rfl rfl l0 (Nat.mul_one _) ⟨F,_,j0⟩ rfl ?_)|refine yC ?_)
  refine TL.append rfl rfl a0 (s1.grow g0) (bP p) (by unfold maxLen;omega) oM oM rfl ?_;intro v' w4 f0 n0 _;repeat refine aF ?_
  refine aE (v',j+1) ⟨rfl,rfl,rfl,trivial⟩ ⟨by simp only;omega,?_,Grow.mk (aL n0 oM (λ k hk=>(aT a0 hk).1) g0.1)⟩ (by simp only;omega);simp only;rw [lY hp,dI,List.length_append];exact f0
 obtain rfl:j=n:=by omega
 rw [List.take_of_length_le oM] at a0;repeat refine aF ?_
 exact bA rfl ⟨_,rfl,a0,g0⟩
theorem be8_zero:be8 0=zs 8:=by decide
theorem rpad_c (F:Nat→Prop) (a:Option Addr) (c:Nat) (l:Bs) (w:World) (hs:Sl F w 1 a l.length c (bB l)) (hn:l.length≤100000) :
  Calls Tryz.prog 253 #[.slice a l.length c] w (Ret λ v w'=>w'.ownsRow w.heap.size 5 1 v (mM l).length (bB (mM l))∧Grow w w'):=by
 refine V.calls (args:=[_]) Tryz.func253 rfl Tryz.ntmps253 rfl rfl ?_;repeat (first|refine aF ?_|refine yI λ bk w' hg q1 s0 z0=>?_)
 refine TL.append rfl rfl (eI q1 (Nat.le_of_eq s0)) (hs.grow hg) (bP l) (by unfold maxLen;omega) oM oM rfl ?_;intro v1 w1 g0 v0 _;rw [Nat.zero_add,List.nil_append] at g0;have l0:Grow w w1:=Grow.mk (aL v0 oM (λ k hk=>by simp only [Value.ownBlock,Option.some.injEq] at hk;omega) hg.1);refine TL.buildSlice rfl rfl rfl rfl rfl ?_;intro b' wa f0 q0 e1 b1 n0;have m0:Sl (λ _=>True) wa 1 (some ⟨b',0,none⟩) 1 1 (bB [128]):=(aU (sz:=1) (m:=1) q0 n0 dM).mono (λ _ _=>trivial);have k0:=f0.size;have r1:=l0.size;refine TL.append rfl rfl (aS g0 f0) m0 (bP [128]) (by unfold maxLen;omega) oM oM rfl ?_;intro v' wb e0 p0 _;have o0:Grow w wb:=Grow.mk (aL p0 oM (λ k hk=>(aT (aS g0 f0) hk).1) (l0.trans f0).1);repeat refine aF ?_
 clear g0 hg p0 v0 f0 k0 m0 q0 e1 b1 n0 l0 r1 q1 s0 z0;obtain ⟨L,hL⟩:∃ L,L=l.length:=⟨_,rfl⟩
 rw [← hL] at e0 hn;refine aX (S:=Value×Nat) (λ s=>[(3,s.1),(0,.slice a l.length c)]) (λ s w3=>s.2≤kD L∧w3.ownsRow w.heap.size 5 1 s.1 (L+1+s.2) (bB (l++[128]++zs s.2))∧Grow w w3) (λ s=>kD L-s.2) (v',0) ⟨rfl,rfl,trivial⟩ ⟨by simp only;omega,by simp only [zs,List.replicate_zero,List.append_nil];rw [dI];exact e0,o0⟩ ?_;clear e0 o0;rintro ⟨v,z⟩ w3 ⟨hz,a0,j0⟩;simp only at hz a0;have s0:=j0.size;have z1:kD L=(239-L%128)%128:=rfl;have u1:kD L<128:=by unfold kD;omega
 obtain ⟨va,vc,rfl,h1⟩:=aN a0;by_cases d2:z<kD L
 ·have m1:(L+1+z)%128≠112:=by omega
  repeat refine aF ?_
  refine TL.buildSlice rfl rfl rfl rfl rfl ?_;intro b' wa f0 q0 e1 b1 n0;have m0:Sl (λ _=>True) wa 1 (some ⟨b',0,none⟩) 1 1 (bB [0]):=(aU (sz:=1) (m:=1) q0 n0 dM).mono (λ _ _=>trivial);have k0:=f0.size;refine TL.append rfl rfl (aS a0 f0) m0 (bP [0]) (by unfold maxLen;omega) oM oM rfl ?_;intro v' wb e0 p0 _;have o0:Grow w wb:=Grow.mk (aL p0 oM (λ k hk=>(aT (aS a0 f0) hk).1) (j0.trans f0).1);repeat refine aF ?_
  refine aE (v',z+1) ⟨rfl,rfl,trivial⟩ ⟨by simp only;omega,?_,o0⟩ (by simp only;omega);simp only;rw [show zs (z+1)=zs z++[0] by simp [zs,List.replicate_succ'],← List.append_assoc,dI];exact e0
 obtain rfl:z=kD L:=by omega
 have m1:(L+1+kD L)%128=112:=by omega
 obtain ⟨N,hN⟩:∃ N,N=L+1+kD L:=⟨_,rfl⟩
 rw [← hN] at a0 h1 m1;rw [← hN];have e2:N≤200000:=by omega
 repeat refine aF ?_
 refine eU ?_;refine TL.appendZ (zc:=.int .u8 0) (c:=8) rfl rfl rfl rfl a0 oM oM oM oM rfl ?_;intro v4 w4 i0 u0;have o1:Grow w w4:=Grow.mk (aL u0 oM (λ k hk=>(aT a0 hk).1) j0.1)
 have h0:w4.ownsRow w.heap.size 5 1 v4 (N+8) (bB (l++[128]++zs (kD L)++be8 0)):=by
  rw [be8_zero,dI];exact i0
 obtain ⟨x0,t0⟩:∃ x0,x0=l++[128]++zs (kD L)++be8 0:=⟨_,rfl⟩
 rw [← t0] at h0;clear a0 h1 i0 u0 j0 s0;repeat (refine yC ?_)
 have y0:=o1.size;refine aX (S:=Value×Nat) (λ s=>[(5,.int .i64 (7-(s.2:Int))),(4,.int .u64 ((8*L:Nat):Int)),(3,s.1)]) (λ s w5=>s.2≤8∧w5.ownsRow w.heap.size 5 1 s.1 (N+8+s.2) (bB (x0++(be8 (8*L)).take s.2))∧Grow w w5) (λ s=>8-s.2) (v4,0) ⟨rfl,by rw [hL,Nat.mul_comm];rfl,rfl,trivial⟩ ⟨by simp only;omega,by simpa using aS h0 yG,yG⟩ ?_;clear h0 o1 y0;rintro ⟨v,i⟩ w5 ⟨hi,a0,j0⟩;simp only at hi a0;have s0:=j0.size;obtain ⟨x,hx⟩:∃ x,x=8*L:=⟨_,rfl⟩
 rw [← hx] at a0;rw [← hx];have y1:x<18446744073709551616:=by omega
 by_cases f1:i<8
 ·have j1:(7-(i:Int))=((7-i:Nat):Int):=by omega
  rw [j1];repeat (first|(refine eN ?_;refine TL.mulN (a:=8) rfl rfl oM rfl ?_)|(refine eR ?_;refine TL.shrS rfl rfl (by show 8*(7-i)≤64;omega) rfl ?_)|(refine dS ?_;refine iH rfl (M:=256) rfl rfl ?_)|refine yC ?_)
  rw [show 8*(7-i)=56-8*i by omega];refine TL.buildSlice rfl rfl rfl rfl rfl ?_;intro b' wa f0 q0 e1 b1 n0;have m0:Sl (λ _=>True) wa 1 (some ⟨b',0,none⟩) 1 1 (bB [x / 2^(56-8*i)%256]):=(aU (sz:=1) (m:=1) q0 n0 dM).mono (λ _ _=>trivial);have k0:=f0.size;refine TL.append rfl rfl (aS a0 f0) m0 (bP [x / 2^(56-8*i)%256]) (by unfold maxLen;omega) oM oM rfl ?_;intro v' wb e0 p0 _;have o0:Grow w wb:=Grow.mk (aL p0 oM (λ k hk=>(aT (aS a0 f0) hk).1) (j0.trans f0).1);rw [← j1];repeat refine aF ?_
  refine aE (v',i+1) ⟨?_,by rw [hx];rfl,rfl,trivial⟩ ⟨by simp only;omega,?_,o0⟩ (by simp only;omega)
  ·show some (Value.int .i64 _)=some (Value.int .i64 _);congr 2
   simp only;omega
  ·simp only
   have s1:(be8 x).take (i+1)=(be8 x).take i++[x / 2^(56-8*i)%256]:=by
    rw [List.take_add_one];have:(be8 x)[i]? = some (x / 2^(56-8*i)%256):=by simp [be8,f1]
    rw [this];rfl
   rw [s1,← List.append_assoc,dI];exact e0
 obtain rfl:i=8:=by omega
 repeat refine aF ?_
 have g1:x0++(be8 x).take 8=mM l:=by
  rw [List.take_of_length_le (by rw [mF];omega),t0,hx];unfold mM;rw [hL]
 rw [g1] at a0;have x1:(mM l).length=N+8+8:=by rw [kU,← hL];omega
 exact bA rfl ⟨_,rfl,by rw [x1];exact a0,j0⟩
theorem rrun_c (F:Nat→Prop) (s:St) (a:Option Addr) (c:Nat) (l:Bs) (w:World) (hs:Sl F w 1 a l.length c (bB l)) (hn:l.length≤100000) (hb:∀ b∈l,b<256) :
  Calls Tryz.prog 217 #[.agg (s.l.map wB).toArray,.slice a l.length c] w (Ret λ v w'=>v=.agg ((kZ s l).l.map wB).toArray∧Grow w w'):=by
 refine V.calls (args:=[_,_]) Tryz.func217 rfl Tryz.ntmps217 rfl rfl ?_;repeat (first|refine aF ?_|refine yI λ bk w' hg a0 n0 v0=>?_)
 rename_i b0 w0 g0 k0 s0 b1;have l0:Grow w w':=by exact yG
 have t0:Blk w' b0 295 (s.l.map wB):=Blk.grow hg k0;have u0:=l0.size;have m0:Blk w' bk 295 ((List.replicate 8 0#64).map wB):=a0;have h1:bk≠b0:=by omega
 have z0:=a0.lt;clear a0;refine aB 253 ?_;refine aA rfl (rpad_c F a c l _ (hs.grow l0) hn) rfl ?_;rintro v w2 ⟨e0,i0⟩;have hm:=padS_mod l;have y0:=padS_lt hb;have j1:=kU l;have hz:kD l.length<128:=by unfold kD;omega
 unfold kZ;generalize (mM l).length / 128=m at *;generalize mM l=bs at *;rw [hm] at e0;obtain ⟨va,vc,rfl,x0⟩:=aN e0;obtain ⟨G,hG,o0⟩:∃ G:Nat→Prop,(∀ k,G k→w'.heap.size≤k∧k<w2.heap.size)∧Sl G w2 1 va (128*m) vc (bB bs):=⟨_,λ k hk=>⟨hk.1.1,hk.2⟩,x0.tight⟩
 have h3:=i0.size;have s1:=t0.lt;have q0:=o0.cap;repeat refine aF ?_
 refine aX (S:=Nat) (λ k=>[(6,.int .i64 ((128*k:Nat):Int)),(5,.slice va (128*m) vc),(4,.pointer (some ⟨bk,0,none⟩)),(2,.pointer (some ⟨b0,0,none⟩))]) (λ k w3=>k≤m∧Blk w3 b0 295 ((mA s bs k).l.map wB)∧Blk w3 bk 295 ((List.replicate 8 0#64).map wB)∧Sl G w3 1 va (128*m) vc (bB bs)∧Grow w w3) (λ k=>m-k) 0 ⟨rfl,rfl,rfl,rfl,trivial⟩ ⟨Nat.zero_le _,t0.grow i0,m0.grow i0,o0,l0.trans i0⟩ ?_;rintro k w3 ⟨hk,q1,q2,q3,q4⟩;have g1:=q4.size;by_cases m1:k<m
 ·repeat refine aF ?_
  apply T.any 7 [is (.agg ((mA s bs k).l.map wB).toArray),is (.slice va (128*m) vc),is (.int .i64 ((128*k:Nat):Int)),is (.int .i64 ((128*k:Nat):Int)),is (.int .i64 ((128*k+128:Nat):Int)),slF G 1 128 (vc-128*k) (bB ((bs.drop (128*k)).take 128)),is (.agg ((pieceB (mA s bs k) ((bs.drop (128*k)).take 128)).map wB).toArray)]
  ·rfl
  ·repeat' (first|exact aM|refine aK ?_ ?_)
   iterate 5
    ·refine yQ λ wq _ _ p0=>?_;repeat refine aF ?_
     exact aD rfl yG rfl
   ·refine yQ λ wq _ _ p0=>?_;refine TL.slice (l:=128*k) (h:=128*k+128) (mm:=vc) rfl (q3.grow yG) (bI rfl rfl) (bI rfl rfl) (aP _) (by intro h;rfl) oM oM oM oM rfl ?_;intro a' j0 _;repeat refine aF ?_
    rw [show 128*k+128-128*k=128 by omega] at *;refine aD rfl yG ⟨a',rfl,?_⟩;simpa [bB,List.map_take,List.map_drop] using j0
   ·(((refine bR rfl rfl rfl ?_);( intro wq _ _ p0;(repeat (refine aJ rfl rfl ?_;intro vq f0;try (obtain rfl:=f0)));(refine aY ?_))))
    obtain ⟨a',rfl,j0⟩:=f0;refine aB 254 ?_;refine aA rfl (rpiece_c G (mA s bs k) ((bs.drop (128*k)).take 128) ?_ ?_ a' _ _ j0) rfl ?_
    ·rw [List.length_take,List.length_drop];omega
    ·exact λ b hb=>y0 b (List.mem_of_mem_drop (List.mem_of_mem_take hb))
    rintro _ w8 ⟨rfl,r1⟩;repeat refine aF ?_
    exact aD rfl yG rfl
  ·intro w7 f1 o1 h0 _ _;((((repeat (refine aJ rfl rfl ?_;intro vq f0;try (obtain rfl:=f0)));(refine aY ?_))))
   have e1:=q1.grow h0;rw [← wordsB_l];repeat (first|refine aF ?_|refine yJ λ w' hu a0 n0=>?_)
   refine aE (k+1) ⟨by show some (Value.int .i64 _)=some (Value.int .i64 _);congr 2,rfl,rfl,rfl,trivial⟩ ⟨oM,a0,(q2.grow h0).upd hu oM,(q3.grow h0).upd hu (λ k hk=>by have:=hG k hk;omega),aI hu oM (q4.trans h0)⟩ oM
 ·obtain rfl:k=m:=by omega
  repeat (first|refine aF ?_|refine yJ λ w' hu a0 n0=>?_)
  exact retC rfl (aW a0 rfl) ⟨_,rfl,rfl,aI hu oM q4⟩
theorem rshort_c (w:World):Calls Tryz.prog 218 #[] w (Ret λ v w'=>v=.agg (shortS.l.map wB).toArray∧Grow w w'):=by
 refine V.calls (args:=[]) Tryz.func218 rfl Tryz.ntmps218 rfl rfl ?_;repeat (first|refine aF ?_|refine yI λ bk w' hg a0 f0 e0=>?_)
 refine aB 255 ?_;refine aA (vs:=[]) rfl (rstart_c _) rfl ?_;rintro _ w2 ⟨rfl,j0⟩;have i0:Blk w2 bk 295 ((List.replicate 8 0#64).map wB):=Blk.grow j0 a0;have j1:Grow w w2:=hg.trans j0;have x0:=j0.size;have v0:w.heap.size=bk:=f0;have s0:=e0;clear hg a0 f0 e0 j0;repeat (first|refine aF ?_|refine yI λ bk w' hg a0 f0 e0=>?_|refine yJ λ w' hu a0 f0=>?_)
 rename_i b0 wa wb o1 l0;have h0:Blk w' b0 295 ((List.replicate 8 0#64).map wB):=by exact yB
 have g0:Grow w w':=by exact yG
 have e1:b0≠bk:=by omega
 have m0:w.heap.size≤b0:=by omega
 have h1:w.heap.size≤bk:=by omega
 clear i0 j1 x0 v0 s0 hu f0 hg e0 o1 l0;refine aX (S:=Nat) (λ i=>[(2,.int .i64 (i:Int)),(1,.pointer (some ⟨bk,0,none⟩)),(0,.pointer (some ⟨b0,0,none⟩))]) (λ i w3=>i≤8∧Blk w3 bk 295 ((xorL i).map wB)∧Blk w3 b0 295 ((List.replicate 8 0#64).map wB)∧Grow w w3) (λ i=>8-i) 0 ⟨rfl,rfl,rfl,trivial⟩ ⟨oM,a0,h0,g0⟩ ?_;clear a0 h0 g0;rintro i w3 ⟨hi,a0,i0,hg⟩;have u0:=xorL_len i;by_cases f1:i<8
 ·repeat (first|(refine aO ?_;refine aQ rfl (Blk.cell a0 (kE oM)) rfl ?_)|refine jY (b:=xorK) rfl rfl rfl ?_|refine yC ?_)
  refine dR rfl rfl a0 rfl (by rw [List.length_map,u0];exact Nat.ble_eq_true_of_le oM) (map_set _ _ _) ?_;intro w7 t0 s1 z1;repeat refine aF ?_
  exact aE (i+1) ⟨rfl,rfl,rfl,trivial⟩ ⟨f1,s1,i0.upd t0 e1,aI t0 h1 hg⟩ oM
 obtain rfl:i=8:=by omega
 repeat (first|(refine aO ?_;refine iU rfl a0 (by rw [List.length_map,u0];rfl) rfl ?_)|refine yC ?_)
 refine TL.buildSlice rfl rfl rfl rfl rfl ?_;intro b1 w4 o0 u1 q1 q2 q3;have q0:Blk w4 b1 5 (bB mN):=u1;refine jO rfl q0 rfl (Nat.le_refl _) dM rfl ?_;intro w5 k0 z0;have s0:=hg.size;have r1:=i0.lt;have g1:w.heap.size≤b0:=m0;have y1:=o0.size;have x1:=k0.size;refine aB 217 ?_;have y0:(St.of (xorL 8)).l=xorL 8:=St.of_l (xorL_len 8);rw [← y0];refine aA rfl (rrun_c _ (St.of (xorL 8)) (some ⟨b1,0,none⟩) 11 mN _ z0 dM dM) rfl ?_;rintro _ w7 ⟨rfl,n0⟩;rw [show kZ (St.of (xorL 8)) mN=shortS from rfl];have w1:=n0.size;have p0:Blk w7 b0 295 ((List.replicate 8 0#64).map wB):=(((i0.grow o0).upd k0 oM).grow n0)
 have m1:Grow w w7:=((aI k0 oM (hg.trans o0)).trans n0)
 repeat (first|(refine bZ ?_;refine eJ rfl rfl p0 rfl rfl (by simp [Value.oneCell']) ?_;intro w' hu a0 f0)|refine yC ?_)
 exact retC rfl (aW a0 rfl) ⟨_,rfl,rfl,aI hu oM m1⟩
theorem rsum_c (F:Nat→Prop) (a:Option Addr) (n c:Nat) (e0:List Bs) (w:World) (h:KysAt F w a n c e0) (hn:e0.flatten.length≤100000) (hb:∀ b∈e0.flatten,b<256) :
  Calls Tryz.prog 172 #[.slice a n c] w (Ret λ v w'=>v=.agg (bB (shaB e0.flatten)).toArray∧Grow w w'):=by
 refine V.calls (args:=[_]) Tryz.func172 rfl Tryz.ntmps172 rfl rfl ?_;repeat (first|(refine fN ?_;refine eP 32 zero_dig rfl ?_;intro bk w' hg z0 u0 l0)|refine yC ?_)
 refine aB 218 ?_;refine aA (vs:=[]) rfl (rshort_c _) rfl ?_;rintro _ w2 ⟨rfl,k0⟩;repeat refine aF ?_
 refine aB 219 ?_;refine aA rfl (rjoin_c F a n c e0 _ (h.go (Carry.grow (hg.trans k0))) hn) rfl ?_;rintro vj w3 ⟨hj,p0⟩;obtain ⟨ja,jc,rfl,x0⟩:=aN hj;refine aB 217 ?_;refine aA rfl (rrun_c _ shortS ja jc e0.flatten _ x0 hn hb) rfl ?_;rintro _ w4 ⟨rfl,o0⟩;refine aB 216 ?_;refine aA rfl (rbytes_c _ _) rfl ?_;rintro _ w5 ⟨rfl,n0⟩;unfold shaB;have hl:=kS (kZ shortS e0.flatten);generalize sumS (kZ shortS e0.flatten)=l at *;have b1:Blk w5 bk 243 (bB (zs 32)):=((((z0.grow k0).grow p0).grow o0).grow n0)
 have g1:Grow w w5:=(((hg.trans k0).trans p0).trans o0).trans n0;have f1:w.heap.size≤bk:=by omega
 have w1:=b1.lt;clear hg z0 u0 l0 k0 p0 o0 n0 hj x0;repeat ((refine fN ?_;refine eP 64 zero_64 rfl ?_;intro b2 w6 y0 m1 q1 q2))
 refine bZ ?_;refine fM rfl rfl m1 (cL _) hl ?_;intro w7 t0 j1 q3;repeat (first|(refine fN ?_;refine eP 32 zero_dig rfl ?_;intro b3 w8 m0 h1 q4 q5)|refine yC ?_)
 apply T.any 2 [is (.slice (some ⟨b3,0,none⟩) 32 32),is (.slice (some ⟨b2,0,none⟩) 32 64)]
 ·rfl
 ·repeat' (first|exact aM|refine aK ?_ ?_)
  iterate 2
   ·refine yQ λ wq _ _ u1=>?_;repeat refine aF ?_
    exact aD rfl yG rfl
 intro w9 r1 s1 h0 _ _;((refine yT ?_))
 have v0:=jQ (o:=0) (m:=32) (c:=64) ((j1.grow m0).grow h0) oM oM dM;rw [List.drop_zero] at v0;refine TL.copyB (b:=b3) (o:=0) (m:=32) (c:=32) rfl rfl (h1.grow h0) v0 (bP _) (by rw [bF,cL];omega) rfl ?_;intro s0 f0 j0 e1;have a0:(l.take 32).length=32:=by rw [List.length_take];omega
 have o1:iN (bB (zs 32)) 0 ((bB (l.take 32)).take (min 32 32))=bB (l.take 32):=by
  rw [List.take_of_length_le (by rw [bF];omega),putAt_eq _ _ _ (by rw [bF,bF,cL];omega),bF,a0];simp [bB,zs]
 rw [o1] at j0;have z9:=h0.size;have g0:Grow w s0:=aI f0 oM ((aI t0 oM (g1.trans y0)).trans (m0.trans h0));have i0:Blk s0 bk 243 (bB (zs 32)):=((((b1.grow y0).upd t0 oM).grow m0).grow h0).upd f0 oM;repeat (first|refine nY rfl j0 a0 rfl ?_|(refine bZ ?_;refine fM rfl rfl i0 (cL _) a0 ?_;intro w' hu q0 u0)|refine yC ?_)
 exact retC rfl (aW q0 (by rw [bF,a0];rfl)) ⟨_,rfl,rfl,aI hu f1 g0⟩
theorem encL_small:∀ n:Fin 128,encL n.val=[n.val]:=by decide +kernel
theorem blkB_small {p:Bs} (h:p.length<128):bV p=p.length::p:=by
 unfold bV;rw [encL_small ⟨p.length,h⟩];rfl
theorem rroom_c (n:Nat) (hn:n<128) (w:World) :
  Calls Tryz.prog 265 #[.int .u64 (n:Int)] w (Ret λ v w'=>v=.int .i64 1∧w=w'):=by
 have h0:n / 2^7=0:=Nat.div_eq_of_lt oM;refine V.calls (args:=[_]) Tryz.func265 rfl Tryz.ntmps265 rfl rfl ?_;repeat refine aF ?_
 refine aX (S:=Nat) (λ _=>[(3,.int .i64 1),(0,.int .u64 (n:Int))]) (λ i w'=>i=0∧w=w') (λ i=>i) 0 ⟨rfl,rfl,trivial⟩ ⟨rfl,rfl⟩ ?_;rintro _ _ ⟨rfl,rfl⟩;repeat (first|(refine eR ?_;refine TL.shrS (s:=7) rfl rfl (by show 7≤64;omega) rfl ?_;rw [h0])|refine yC ?_)
 exact bA rfl ⟨_,rfl,rfl,rfl⟩
theorem own_copy {F:Nat→Prop} {w0 w w1:World} {v:Value} {l:Bs} (hg:Grow w0 w) (a0:w1.ownsRow w0.heap.size 5 1 v (0+l.length) ([]++bB l)) {b:Nat} (hb:w0.heap.size≤b) (e0:w.grownBy w1 (Value.slice (some ⟨b,0,none⟩) 0 0).ownBlock):w1.ownsRow w0.heap.size 5 1 v l.length (bB l)∧Grow w0 w1:=by
 rw [Nat.zero_add,List.nil_append] at a0;have:=hg.size;exact ⟨a0,Grow.mk (aL e0 oM (λ k hk=>by simp only [Value.ownBlock,Option.some.injEq] at hk;omega) hg.1)⟩
theorem rnum_c (F:Nat→Prop) (a:Option Addr) (c n:Nat) (l:Bs) (w:World) (hs:Sl F w 1 a l.length c (bB l)) (hl:l.length≤100000) (hn:n<128) :
  Calls Tryz.prog 247 #[.slice a l.length c,.int .u64 (n:Int)] w (Ret λ v w'=>w'.ownsRow w.heap.size 5 1 v (l.length+1) (bB (l++[n]))∧Grow w w'):=by
 refine V.calls (args:=[_,_]) Tryz.func247 rfl Tryz.ntmps247 rfl rfl ?_;repeat (first|refine aF ?_|refine yI λ bk w' hg k0 i0 l0=>?_)
 refine TL.append rfl rfl (eI k0 (Nat.le_of_eq i0)) (hs.grow hg) (bP l) (by unfold maxLen;omega) oM oM rfl ?_;intro v1 w1 a0 g0 _;obtain ⟨f0,j0⟩:=own_copy (F:=F) hg a0 (Nat.le_of_eq i0) g0;clear a0 g0 k0 hg i0;repeat (first|(refine aB 265 ?_;refine aA rfl (rroom_c n hn _) rfl ?_;rintro _ _ ⟨rfl,rfl⟩)|(refine eR ?_;refine TL.shrS (s:=0) rfl rfl (by show 0≤64;omega) rfl ?_;rw [show n / 2^0=n by simp])|refine yC ?_)
 rw [show 256-1*2^(9-1)+n=n by simp];refine TL.buildSlice rfl rfl rfl rfl rfl ?_;intro b' wa h0 s0 u0 t0 n0;have m0:Sl (λ _=>True) wa 1 (some ⟨b',0,none⟩) 1 1 (bB [n]):=(aU (sz:=1) (m:=1) s0 n0 dM).mono (λ _ _=>trivial);have q0:=h0.size;have z1:=j0.size;refine TL.append rfl rfl (aS f0 h0) m0 (bP [n]) (by unfold maxLen;omega) oM oM rfl ?_;intro v' wb e0 p0 _;have o0:Grow w wb:=Grow.mk (aL p0 oM (λ k hk=>(aT (aS f0 h0) hk).1) (j0.trans h0).1);repeat refine aF ?_
 refine aX (S:=Nat) (λ _=>[(7,.int .i64 (-1)),(5,v')]) (λ i w'=>i=0∧wb=w') (λ i=>i) 0 ⟨rfl,rfl,trivial⟩ ⟨rfl,rfl⟩ ?_;rintro _ _ ⟨rfl,rfl⟩;repeat refine aF ?_
 exact bA rfl ⟨_,rfl,by rw [dI];exact e0,o0⟩
theorem rblock_c (F G:Nat→Prop) (a b:Option Addr) (c d:Nat) (l p:Bs) (w:World) (hs:Sl F w 1 a l.length c (bB l)) (hp:Sl G w 1 b p.length d (bB p)) (hl:l.length≤100000) (hn:p.length<128) :
  Calls Tryz.prog 203 #[.slice a l.length c,.slice b p.length d] w (Ret λ v w'=>w'.ownsRow w.heap.size 5 1 v (l++bV p).length (bB (l++bV p))∧Grow w w'):=by
 refine V.calls (args:=[_,_]) Tryz.func203 rfl Tryz.ntmps203 rfl rfl ?_;repeat refine aF ?_
 refine aB 247 ?_;refine aA rfl (rnum_c F a c p.length l _ hs hl hn) rfl ?_;rintro v w1 ⟨e0,f0⟩;have z1:=f0.size;repeat refine aF ?_
 refine TL.append rfl rfl e0 (hp.grow f0) (bP p) (by unfold maxLen;omega) oM oM rfl ?_;intro v' wb a0 h0 _;have g0:Grow w wb:=Grow.mk (aL h0 oM (λ k hk=>(aT e0 hk).1) f0.1);have e:l++bV p=l++[p.length]++p:=by rw [blkB_small hn];simp
 have e2:(l++bV p).length=l.length+1+p.length:=by rw [e];simp;omega
 repeat refine aF ?_
 exact bA rfl ⟨_,rfl,by rw [e2,e,dI];exact a0,g0⟩
theorem wordL_eq (n:Nat):(List.range 4).map (λ j=>n / 2^(8*j)%256)=bS n:=by
 simp [List.range_succ,bS]
theorem rword_c (F:Nat→Prop) (a:Option Addr) (c n:Nat) (l:Bs) (w:World) (hs:Sl F w 1 a l.length c (bB l)) (hl:l.length≤100000) (hn:n<18446744073709551616) :
  Calls Tryz.prog 173 #[.slice a l.length c,.int .u64 (n:Int),.int .i64 4] w (Ret λ v w'=>w'.ownsRow w.heap.size 5 1 v (l.length+4) (bB (l++bS n))∧Grow w w'):=by
 refine V.calls (args:=[_,_,_]) Tryz.func173 rfl Tryz.ntmps173 rfl rfl ?_;repeat (first|refine aF ?_|refine yI λ bk w' hg l0 i0 m0=>?_)
 refine TL.append rfl rfl (eI l0 (Nat.le_of_eq i0)) (hs.grow hg) (bP l) (by unfold maxLen;omega) oM oM rfl ?_;intro v1 w1 e0 g0 _;obtain ⟨a0,k0⟩:=own_copy (F:=F) hg e0 (Nat.le_of_eq i0) g0;clear e0 g0 l0 hg i0;repeat refine aF ?_
 refine aX (S:=Value×Nat) (λ s=>[(8,.int .i64 (s.2:Int)),(7,s.1),(2,.int .i64 4),(1,.int .u64 (n:Int))]) (λ s w3=>s.2≤4∧w3.ownsRow w.heap.size 5 1 s.1 (l.length+s.2) (bB (l++(List.range s.2).map (λ j=>n / 2^(8*j)%256)))∧Grow w w3) (λ s=>4-s.2) (v1,0) ⟨rfl,rfl,rfl,rfl,trivial⟩ ⟨by simp only;omega,by simpa using a0,k0⟩ ?_;clear a0 k0;rintro ⟨v,i⟩ w3 ⟨hi,a0,j0⟩;simp only at hi a0;have z3:=j0.size;by_cases x0:i<4
 ·repeat (first|(refine eU ?_;first|refine lV (r:=4) rfl rfl dM rfl ?_|refine TL.minV (r:=4) rfl rfl dM rfl ?_)|(refine eN ?_;refine TL.mulN (a:=8) rfl rfl oM rfl ?_)|(refine eR ?_;refine TL.shrS rfl rfl (by show 8*i≤64;omega) rfl ?_)|(refine dS ?_;refine iH rfl (M:=256) rfl rfl ?_)|refine yC ?_)
  refine TL.buildSlice rfl rfl rfl rfl rfl ?_;intro b' wa h0 t0 v0 u0 o0;have n0:Sl (λ _=>True) wa 1 (some ⟨b',0,none⟩) 1 1 (bB [n / 2^(8*i)%256]):=(aU (sz:=1) (m:=1) t0 o0 dM).mono (λ _ _=>trivial);have s0:=h0.size;refine TL.append rfl rfl (aS a0 h0) n0 (bP [n / 2^(8*i)%256]) (by unfold maxLen;omega) oM oM rfl ?_;intro v' wb f0 q0 _;have p0:Grow w wb:=Grow.mk (aL q0 oM (λ k hk=>(aT (aS a0 h0) hk).1) (j0.trans h0).1);repeat refine aF ?_
  refine aE (v',i+1) ⟨rfl,rfl,rfl,rfl,trivial⟩ ⟨by simp only;omega,?_,p0⟩ (by simp only;omega);simp only;rw [List.range_succ,List.map_append,← List.append_assoc,dI];exact f0
 ·obtain rfl:i=4:=by omega
  rw [wordL_eq] at a0;repeat (first|(refine eU ?_;first|refine lV (r:=4) rfl rfl dM rfl ?_|refine TL.minV (r:=4) rfl rfl dM rfl ?_)|refine yC ?_)
  exact bA rfl ⟨_,rfl,a0,j0⟩
def RdR (B b:Nat) (r:Bs) (w:World):Prop:=∃ a c,Blk w b 289 [.slice a r.length c,.int .i64 0]∧Sl (λ k=>B≤k∧k<b) w 1 a r.length c (bB r)
theorem RdR.lt {B b:Nat} {r:Bs} {w:World} (h:RdR B b r w):b<w.heap.size:=by
 obtain ⟨a,c,h1,_⟩:=h;exact h1.lt
theorem RdR.grow {B b:Nat} {r:Bs} {w w':World} (h:RdR B b r w) (g:Grow w w'):RdR B b r w':=by
 obtain ⟨a,c,h1,h2⟩:=h;exact ⟨a,c,h1.grow g,h2.grow g⟩
theorem rread_c (F:Nat→Prop) (a:Option Addr) (c:Nat) (l:Bs) (w:World) (hs:Sl F w 1 a l.length c (bB l)) (hl:l.length≤100000) :
  Calls Tryz.prog 205 #[.slice a l.length c] w (Ret λ v w'=>∃ b,v=.pointer (some ⟨b,0,none⟩)∧w.heap.size≤b∧RdR w.heap.size b l w'∧Grow w w'):=by
 refine V.calls (args:=[_]) Tryz.func205 rfl Tryz.ntmps205 rfl rfl ?_;repeat (first|refine aF ?_|refine yI λ bk w' hg g0 f0 h0=>?_)
 refine TL.append rfl rfl (eI g0 (Nat.le_of_eq f0)) (hs.grow hg) (bP l) (by unfold maxLen;omega) oM oM rfl ?_;intro v1 w1 a0 e0 _;obtain ⟨i0,j0⟩:=own_copy (F:=F) hg a0 (Nat.le_of_eq f0) e0;clear a0 e0 g0 hg f0;obtain ⟨a1,c1,rfl,k0⟩:=aN i0;have z1:=j0.size;repeat (first|refine aF ?_|refine yI λ bk w' hg g0 f0 h0=>?_)
 exact bA rfl ⟨_,rfl,bk,rfl,oM,⟨a1,c1,g0,(k0.tight.grow hg).mono (λ k hk=>⟨hk.1.1,by have:=hk.2;omega⟩)⟩,j0.trans hg⟩
theorem rtake_c {B b:Nat} {r:Bs} {w:World} (h:RdR B b r w) (m:Nat) (hm:m≤r.length) (hl:r.length≤100000) :
  Calls Tryz.prog 206 #[.pointer (some ⟨b,0,none⟩),.int .i64 (m:Int)] w (Ret λ v w'=>∃ a c,v=.slice a m c∧Sl (λ k=>w.heap.size≤k) w' 1 a m c (bB (r.take m))∧RdR B b (r.drop m) w'∧Mut b w w'):=by
 have n0:=h.lt;obtain ⟨a,c,h1,h2⟩:=h;have h0:=h2.cap;refine V.calls (args:=[_,_]) Tryz.func206 rfl Tryz.ntmps206 rfl rfl ?_;repeat (first|(refine eU ?_;refine lV (r:=(m:Int)) rfl rfl (by split<;>omega) rfl ?_)|(refine cJ ?_;first|refine dH (l:=0) (h:=m) (mm:=c) rfl (aP _) (bI rfl rfl) (aP _) (by intro h;cases h) oM oM oM oM oM rfl ?_|refine dH (l:=m) (h:=r.length) (mm:=c) rfl (bI rfl rfl) (aP _) (aP _) (by intro h;rfl) oM oM oM oM oM rfl ?_)|refine yC ?_|refine yI λ bk w' hg i0 k0 j0=>?_|refine yJ λ w' hu i0 k0=>?_)
 rename_i w1 m0 q1;have f0:=hu;clear hu;have z1:=f0.size;have z2:=hg.size
 have s0:Sl (λ k=>B≤k∧k<b) w 1 (eM a c 0 1) m c (bB (r.take m)):=by
  have:=eX (l:=0) (h:=m) (mm:=c) h2 (Nat.zero_le _) hm oM (Nat.le_refl _);simpa [bB,List.map_take] using this
 have s1:Sl (λ k=>B≤k∧k<b) w 1 (eM a c m 1) (r.drop m).length (c-m) (bB (r.drop m)):=by
  have:=eX (l:=m) (h:=r.length) (mm:=c) h2 hm (Nat.le_refl _) h0 (Nat.le_refl _);rw [List.take_of_length_le (by rw [List.length_drop,bF];omega)] at this;simpa [bB,List.map_drop] using this
 have e1:(r.drop m).length=r.length-m:=List.length_drop;refine TL.append rfl rfl (eI (base:=w.heap.size) i0 oM) ((s0.upd f0 (λ k hk=>by omega)).grow hg) (bP _) (by unfold maxLen;omega) oM oM rfl ?_;intro v2 w2 e0 l0 _;have a0:w2.ownsRow w.heap.size 5 1 v2 m (bB (r.take m)):=by simpa using e0
 have g0:Grow w1 w2:=Grow.mk (aL l0 oM (λ k hk=>by simp only [Value.ownBlock,Option.some.injEq] at hk;omega) hg.1);obtain ⟨a2,c2,rfl,s2⟩:=aN a0;repeat refine aF ?_
 refine bA rfl ⟨_,rfl,a2,c2,rfl,s2.mono (λ k hk=>hk.1),⟨eM a c m 1,c-m,?_,(s1.upd f0 (λ k hk=>by omega)).grow g0⟩,(mut_upd f0).trans (iQ g0)⟩;rw [e1];exact Blk.grow g0 m0
theorem rnumber_c {B b n:Nat} {t:Bs} {w:World} (h:RdR B b (n::t) w) (hn:n<128) (hl:(n::t).length≤100000) :
  Calls Tryz.prog 248 #[.pointer (some ⟨b,0,none⟩)] w (Ret λ v w'=>v=.int .u64 (n:Int)∧RdR B b t w'∧Mut b w w'):=by
 have k0:=h.lt;obtain ⟨a,c,h1,h2⟩:=h;have e0:=h2.cap;have g0:(n::t).length=t.length+1:=rfl;have a0:w.cell? (at' a 0)=some (.int .u8 (n:Int)):=h2.row.cell rfl;have h0:n / 2^7=0:=Nat.div_eq_of_lt oM;have f0:n%128=n:=Nat.mod_eq_of_lt hn
 have s1:Sl (λ k=>B≤k∧k<b) w 1 (eM a c 1 1) t.length (c-1) (bB t):=by
  have:=eX (l:=1) (h:=(n::t).length) (mm:=c) h2 oM (Nat.le_refl _) e0 (Nat.le_refl _);rw [List.take_of_length_le (by simp [bF])] at this;simpa [bB] using this
 obtain ⟨N,hN⟩:∃ N,N=(n::t).length:=⟨_,rfl⟩
 rw [← hN] at h1 h2 e0 hl g0;refine V.calls (args:=[_]) Tryz.func248 rfl Tryz.ntmps248 rfl rfl ?_;repeat refine aF ?_
 refine aX (S:=Nat) (λ _=>[(3,.int .i64 1),(0,.pointer (some ⟨b,0,none⟩))]) (λ i w'=>i=0∧w=w') (λ i=>i) 0 ⟨rfl,rfl,trivial⟩ ⟨rfl,rfl⟩ ?_;rintro _ _ ⟨rfl,rfl⟩;repeat (first|(refine aH ?_;refine aC (j:=0) rfl rfl rfl oM (Nat.mul_one _) ⟨_,_,h2⟩ rfl ?_)|(refine eR ?_;refine TL.shrS (s:=7) rfl rfl (by show 7≤8;omega) rfl ?_;rw [h0])|refine aQ rfl a0 rfl ?_|(refine jZ ?_;refine TL.shlS (M:=18446744073709551616) (a:=1) (s:=7) rfl rfl rfl dM dM rfl ?_)|(refine TL.isRem ?_;first|(refine TL.remU (a:=n) (b:=128) rfl rfl oM rfl ?_;rw [f0])|refine TL.remU (a:=0) (b:=2) rfl rfl oM rfl ?_)|refine yC ?_)
 refine aX (S:=Nat) (λ _=>[(5,.int .i64 1),(4,.int .u64 (n:Int)),(3,.int .i64 1),(0,.pointer (some ⟨b,0,none⟩))]) (λ i w'=>i=0∧w=w') (λ i=>i) 0 ⟨rfl,rfl,rfl,rfl,trivial⟩ ⟨rfl,rfl⟩ ?_;rintro _ _ ⟨rfl,rfl⟩;repeat (first|(refine aB 265 ?_;refine aA rfl (rroom_c n hn _) rfl ?_;rintro _ _ ⟨rfl,rfl⟩)|(refine cJ ?_;refine dH (l:=1) (h:=N) (mm:=c) rfl (bI rfl rfl) (aP _) (aP _) (by intro h;rfl) oM oM oM oM oM rfl ?_)|refine yC ?_|refine yJ λ w' hu i0 j0=>?_)
 have e2:N-1=t.length:=by omega
 rw [e2] at i0;exact bA rfl ⟨_,rfl,rfl,⟨_,_,i0,s1.upd hu (λ k hk=>by omega)⟩,mut_upd hu⟩
theorem rdblock_c {B b:Nat} {p t:Bs} {w:World} (h:RdR B b (bV p++t) w) (hn:p.length<128) (hl:(bV p++t).length≤100000) :
  Calls Tryz.prog 207 #[.pointer (some ⟨b,0,none⟩)] w (Ret λ v w'=>∃ a c,v=.slice a p.length c∧Sl (λ k=>w.heap.size≤k) w' 1 a p.length c (bB p)∧RdR B b t w'∧Mut b w w'):=by
 have k0:=h.lt;rw [blkB_small hn,List.cons_append] at h hl;have h':=h;obtain ⟨a,c,h1,h2⟩:=h';refine V.calls (args:=[_]) Tryz.func207 rfl Tryz.ntmps207 rfl rfl ?_;repeat refine aF ?_
 refine aB 248 ?_;refine aA rfl (rnumber_c h hn hl) rfl ?_;rintro _ w1 ⟨rfl,f0,g0⟩;have a0:=f0;obtain ⟨a3,c3,h3,h4⟩:=a0;have j0:(p++t).length=p.length+t.length:=List.length_append;have i0:(p++t).length≤100000:=by simp only [List.length_cons] at hl;omega
 obtain ⟨N,hN⟩:∃ N,N=(p++t).length:=⟨_,rfl⟩
 have z1:=g0.size;rw [← hN] at h3;clear h1 h2 h;repeat refine aF ?_
 refine aB 206 ?_;refine aA rfl (rtake_c f0 p.length oM i0) rfl ?_;rintro _ w2 ⟨a5,c5,rfl,s5,e0,h0⟩;rw [List.take_left' rfl] at s5;rw [List.drop_left' rfl] at e0;repeat refine aF ?_
 exact bA rfl ⟨_,rfl,a5,c5,rfl,s5.mono (λ k hk=>by omega),e0,g0.trans h0⟩
def beW (r:Bs):Nat→Nat
 | 0=>0
 | i+1=>beW r i*256+r.getD (3-i) 0
theorem beW_word {k:Nat} (h:k<4294967296):beW (bS k) 4=k:=by
 simp [beW,bS];omega
theorem beW_lt {r:Bs} (hr:∀ x∈r,x<256):∀ i,beW r i<256^i
 | 0=>by simp [beW]
 | i+1=>by
  have ih:=beW_lt hr i
  have hg:r.getD (3-i) 0<256:=by
   rw [List.getD_eq_getElem?_getD]
   cases hx:r[3-i]? with
   | none=>simp
   | some x=>exact hr x (List.mem_of_getElem? hx)
  simp only [beW,Nat.pow_succ];omega
theorem rdword_c {B b k:Nat} {t:Bs} {w:World} (h:RdR B b (bS k++t) w) (hk:k<4294967296) (hl:(bS k++t).length≤100000) :
  Calls Tryz.prog 208 #[.pointer (some ⟨b,0,none⟩),.int .i64 4] w (Ret λ v w'=>v=.int .u64 (k:Int)∧RdR B b t w'∧Mut b w w'):=by
 have m0:=h.lt;refine V.calls (args:=[_,_]) Tryz.func208 rfl Tryz.ntmps208 rfl rfl ?_;repeat (first|(refine eU ?_;first|refine lV (r:=4) rfl rfl dM rfl ?_|refine TL.minV (r:=4) rfl rfl dM rfl ?_)|refine yC ?_)
 refine aB 206 ?_;refine aA rfl (rtake_c h 4 (by simp [bS]) hl) rfl ?_;rintro _ w2 ⟨a5,c5,rfl,s5,e0,h0⟩;have e4:(bS k++t).take 4=bS k:=List.take_left' rfl;have e5:(bS k++t).drop 4=t:=List.drop_left' rfl;rw [e4] at s5;rw [e5] at e0;have a0:∀ x∈bS k,x<256:=word4_lt k;repeat refine aF ?_
 refine aX (S:=Nat) (λ i=>[(7,.int .i64 (3-(i:Int))),(6,.int .u64 (beW (bS k) i:Int)),(5,.slice a5 4 c5)]) (λ i w'=>i≤4∧w2=w') (λ i=>4-i) 0 ⟨rfl,rfl,rfl,trivial⟩ ⟨oM,rfl⟩ ?_;rintro i _ ⟨hi,rfl⟩;by_cases i0:i<4
 ·have g0:(3-(i:Int))=((3-i:Nat):Int):=by omega
  have n0:=beW_lt a0 i;have j0:256^i≤256^3:=Nat.pow_le_pow_right oM oM
  have hg:(bS k)[3-i]? = some ((bS k).getD (3-i) 0):=by
   rw [List.getD_eq_getElem?_getD];rw [List.getElem?_eq_getElem (by show 3-i<4;omega)];rfl
  have k0:(bS k).getD (3-i) 0<256:=a0 _ (List.mem_of_getElem? hg);have l0:w2.cell? (at' a5 (3-i))=some (.int .u8 (((bS k).getD (3-i) 0:Nat):Int)):=s5.row.cell (bys_at hg);have f0:beW (bS k) (i+1)=beW (bS k) i*256+(bS k).getD (3-i) 0:=rfl;generalize beW (bS k) i=x at *;generalize (bS k).getD (3-i) 0=y at *;rw [g0];repeat (first|(refine aH ?_;refine aC (j:=3-i) rfl rfl rfl oM (Nat.mul_one _) ⟨_,_,s5⟩ rfl ?_)|refine yC ?_)
  refine aE (i+1) ⟨?_,?_,rfl,trivial⟩ ⟨i0,rfl⟩ oM
  ·show some (Value.int .i64 _)=some (Value.int .i64 _);congr 2
   omega
  ·rw [f0];rfl
 ·obtain rfl:i=4:=by omega
  rw [beW_word hk];repeat refine aF ?_
  exact bA rfl ⟨_,rfl,rfl,e0,h0⟩
theorem RdR.keep {B b:Nat} {r:Bs} {w w':World} (h:RdR B b r w) (hs:w.heap.size≤w'.heap.size) (hk:∀ k,k≤b→w'.heap[k]? = w.heap[k]?):RdR B b r w':=by
 obtain ⟨a,c,h1,h2⟩:=h;exact ⟨a,c,dO h1 (hk b (Nat.le_refl _)),h2.keep (λ k a0 _=>hk k oM) hs⟩
structure RdH (w w4:World) (B b bk bk2:Nat) (ha:Option Addr) (hc:Nat) (kd cnt:Nat):Prop where
 b2:Blk w4 bk2 79 nil3
 hd:Sl (λ k=>b<k∧k<bk) w4 1 ha 2 hc (bB [kd,cnt])
 g:Grow w w4
theorem RdH.go {w w4 w5:World} {B b bk a0:Nat} {ha:Option Addr} {hc kd cnt:Nat} (h:RdH w w4 B b bk a0 ha hc kd cnt) (hs:w4.heap.size≤w5.heap.size) (hg:Grow w w5) (g0:a0<b) (hk:∀ k,k<bk→k≠b→w5.heap[k]? = w4.heap[k]?) (f0:b<bk):RdH w w5 B b bk a0 ha hc kd cnt :=
 ⟨dO h.b2 (hk a0 oM oM),h.hd.keep (λ k e0 _=>hk k e0.2 oM) hs,hg⟩
theorem RdH.c0 {w w4:World} {B b bk a0:Nat} {ha:Option Addr} {hc kd cnt:Nat} (h:RdH w w4 B b bk a0 ha hc kd cnt):w4.cell? (at' ha 0)=some (.int .u8 (kd:Int)):=h.hd.row.cell rfl
theorem RdH.c1 {w w4:World} {B b bk a0:Nat} {ha:Option Addr} {hc kd cnt:Nat} (h:RdH w w4 B b bk a0 ha hc kd cnt):w4.cell? (at' ha 1)=some (.int .u8 (cnt:Int)):=h.hd.row.cell rfl
theorem bytesN_len {nd:Nd} (h:bE nd=true):(bM nd=true→dE nd=0::nd.items.length::nd.items.flatMap (λ x:Bs×Bs=>bV x.1++bV x.2))∧(bM nd=false→dE nd=1::nd.kids.length::(nd.kids.flatMap bS++nd.keys.flatMap bV)):=by
 refine ⟨λ hl=>?_,λ hl=>?_⟩
 ·unfold dE;rw [if_pos hl];rfl
 ·unfold dE;rw [if_neg (by rw [hl];simp)];simp
theorem rread_n (F:Nat→Prop) (a:Option Addr) (c:Nat) (nd:Nd) (z:Nat) (bs:Bs) (w:World) (x1:bs=dE nd++List.replicate z 0) (hs:Sl F w 1 a bs.length c (bB bs)) (hl:bs.length≤100000) (s4:bE nd=true) :
  Calls Tryz.prog 167 #[.slice a bs.length c] w (Ret λ v w'=>∃ x:NV,v=.tuple #[x.val,.int .i64 0]∧NdAt (λ k=>w.heap.size≤k) w' x nd∧Grow w w'):=by
 have ok:=ndOk s4;obtain ⟨v4,u2⟩:=bytesN_len s4
 obtain ⟨kd,cnt,rest,n0,r6,k6⟩:∃ kd cnt rest,bs=kd::cnt::rest∧kd≤1∧cnt≤8:=by
  cases hlf:bM nd with
  | true=>exact ⟨0,_,_,by rw [x1,v4 hlf];rfl,oM,ok.n1⟩
  | false=>exact ⟨1,_,_,by rw [x1,u2 hlf];rfl,oM,ok.n2⟩
 refine V.calls (args:=[_]) Tryz.func167 rfl Tryz.ntmps167 rfl rfl ?_;refine dT 5 (λ e w4=>∃ (B b bk l0:Nat) (ha:Option Addr) (hc:Nat),Sub [(6,.pointer (some ⟨bk,0,none⟩)),(5,.slice ha 2 hc),(4,.pointer (some ⟨b,0,none⟩)),(2,.pointer (some ⟨l0,0,none⟩))] e∧w.heap.size≤l0∧l0<b∧b<bk∧w4.heap.size=bk+1∧l0<B∧Blk w4 bk 79 nil3∧RdR B b rest w4∧RdH w w4 B b bk l0 ha hc kd cnt) ?_ ?_;rotate_left
 ·repeat (first|refine aF ?_|refine yI λ bk w' hg j0 x3 y4=>?_)
  obtain ⟨l0,rfl⟩:=yE bk;obtain ⟨w0,rfl⟩:=yE w';refine aB 205 ?_;refine aA rfl (rread_c F a c bs _ (hs.grow hg) hl) rfl ?_;rintro _ w1 ⟨b,rfl,u6,p5,t4⟩;have u5:Blk w1 l0 79 nil3:=Blk.grow t4 j0;have i6:=hg.trans t4;have z1:=t4.size;have y5:=p5.lt;clear j0 hg t4;repeat refine aF ?_
  refine aB 206 ?_;refine aA rfl (rtake_c p5 2 (by rw [n0];simp) hl) rfl ?_;rintro _ w2 ⟨ha,hc,rfl,hh,f4,o3⟩;rw [n0] at hh f4;simp only [List.take_succ_cons,List.take_zero,List.drop_succ_cons,List.drop_zero] at hh f4;have z2:=o3.size;have k5:=cG (dN o3) u5 oM;have h5:=gT (dN o3) oM i6;have l4:w2.cell? (at' ha 0)=some (.int .u8 (kd:Int)):=hh.row.cell rfl;have u4:w2.cell? (at' ha 1)=some (.int .u8 (cnt:Int)):=hh.row.cell rfl;obtain ⟨ra,rc,r4,_⟩:=id f4;have x5:=f4.lt;clear u5 o3;repeat (first|(refine aH ?_;first|refine aC (j:=0) rfl rfl rfl oM (Nat.mul_one _) ⟨_,_,hh⟩ rfl ?_|refine aC (j:=1) rfl rfl rfl oM (Nat.mul_one _) ⟨_,_,hh⟩ rfl ?_)|refine yC ?_|refine yI λ bk w' hg j0 x3 y4=>?_)
  exact ⟨w0.heap.size,b,bk,l0,ha,hc,⟨rfl,rfl,rfl,rfl,trivial⟩,oM,oM,oM,oM,oM,j0,f4.grow hg,⟨k5.grow hg,(hh.tight.grow hg).mono (λ k hk=>⟨by have:=hk.1;omega,by have:=hk.2;omega⟩),h5.trans hg⟩⟩
 rintro e w4 ⟨B,b,bk,l0,ha,hc,p0,q1,q2,q3,q4,q5,j2,e4,k4⟩;refine bD (e':=[(6,_),(5,_),(4,_),(2,_)]) ?_ p0;clear p0;refine dT 1 (λ e w5=>∃ (a1:Option Addr) (n1 c1:Nat) (a2:Option Addr) (n2 c2:Nat),Sub [(6,.pointer (some ⟨bk,0,none⟩)),(5,.slice ha 2 hc),(4,.pointer (some ⟨b,0,none⟩)),(2,.pointer (some ⟨l0,0,none⟩))] e∧bk<w5.heap.size∧Blk w5 bk 79 [.slice a1 n1 c1,.slice a2 n2 c2,.slice none 0 0]∧ItsAt (λ k=>bk+1≤k) w5 a1 n1 c1 nd.items∧Sl (λ k=>bk+1≤k) w5 1 a2 n2 c2 (bC nd.kids)∧RdR B b (nd.keys.flatMap bV++List.replicate z 0) w5∧RdH w w5 B b bk l0 ha hc kd cnt) ?_ ?_;rotate_left
 ·cases hlf:bM nd with
  | true =>
   have e1:=v4 hlf;rw [n0,e1] at x1;simp only [List.cons_append,List.cons.injEq] at x1;obtain ⟨rfl,rfl,rfl⟩:=x1;have w3:=bL.1 hlf
   have p3:nd.keys=[]:=by
    have:=ok.n3;rw [w3] at this;exact List.eq_nil_of_length_eq_zero this
   ·repeat refine aF ?_
    refine aX (S:=Value×Nat) (λ s=>[(7,.int .i64 (s.2:Int)),(6,.pointer (some ⟨bk,0,none⟩)),(5,.slice ha 2 hc),(4,.pointer (some ⟨b,0,none⟩)),(2,.pointer (some ⟨l0,0,none⟩))])
     (λ s w1=>s.2≤nd.items.length∧∃ (cells:List Value),Blk w1 bk 79 [s.1,.slice none 0 0,.slice none 0 0]∧w1.ownsRow (bk+1) 58 2 s.1 s.2 cells∧ItCells (λ k=>bk+1≤k∧s.1.ownBlock≠some k) w1 cells (nd.items.take s.2)∧RdR B b ((nd.items.drop s.2).flatMap (λ x:Bs×Bs=>bV x.1++bV x.2)++List.replicate z 0) w1∧((nd.items.drop s.2).flatMap (λ x:Bs×Bs=>bV x.1++bV x.2)++List.replicate z 0).length≤100000∧RdH w w1 B b bk l0 ha hc 0 nd.items.length)
     (λ s=>nd.items.length-s.2) (.slice none 0 0,0) ⟨rfl,rfl,rfl,rfl,rfl,trivial⟩ ⟨Nat.zero_le _,[],j2,lO,trivial,e4,by rw [n0] at hl;simp only [List.length_cons] at hl;simp only [List.drop_zero];omega,k4⟩ ?_
    clear j2 e4 k4;rintro ⟨v,i⟩ w1 ⟨hi,cells,j0,k0,f0,q0,i0,hh⟩;simp only at hi j0 k0 f0 q0 i0;refine bD (e':=[(7,.int .i64 (i:Int)),(6,.pointer (some ⟨bk,0,none⟩)),(5,.slice ha 2 hc),(4,.pointer (some ⟨b,0,none⟩)),(2,.pointer (some ⟨l0,0,none⟩))]) ?_ ⟨rfl,rfl,rfl,rfl,rfl,trivial⟩;have g4:=j0.lt;have l4:=hh.c0;have u4:=hh.c1;by_cases u1:i<nd.items.length;rotate_left
    ·obtain rfl:i=nd.items.length:=by omega
     repeat (first|(refine aH ?_;refine aC (j:=1) rfl rfl rfl oM (Nat.mul_one _) ⟨_,_,hh.hd⟩ rfl ?_)|refine yC ?_)
     obtain ⟨va,vc,rfl,u3⟩:=aN k0;rw [List.take_length] at f0;rw [List.drop_length] at q0;exact ⟨va,_,vc,none,0,0,⟨rfl,rfl,rfl,rfl,trivial⟩,g4,j0,⟨cells,u3.mono λ k hk=>hk.1,f0.go (Carry.mono λ k hk _=>hk.1)⟩,by rw [w3];exact Sl.nil_mk _ _ _,by rw [p3];exact q0,hh⟩
    obtain ⟨y,hy⟩:∃ y,nd.items[i]? = some y:=⟨_,List.getElem?_eq_getElem u1⟩
    obtain ⟨y1,y2⟩:=ok.it i y hy;have v5:=(eB y1).2;have o6:=gW y2
    have hd:(nd.items.drop i).flatMap (λ x:Bs×Bs=>bV x.1++bV x.2)++List.replicate z 0=bV y.1++(bV y.2++((nd.items.drop (i+1)).flatMap (λ x:Bs×Bs=>bV x.1++bV x.2)++List.replicate z 0)):=by
     rw [iI hy];simp
    rw [hd] at q0 i0;obtain ⟨rest,g0⟩:∃ r,r=(nd.items.drop (i+1)).flatMap (λ x:Bs×Bs=>bV x.1++bV x.2)++List.replicate z 0:=⟨_,rfl⟩
    rw [← g0] at q0 i0;have j3:=i0;have s0:(bV y.2++rest).length≤100000:=by rw [List.length_append] at j3;omega
    repeat (first|(refine aH ?_;first|refine aC (j:=0) rfl rfl rfl oM (Nat.mul_one _) ⟨_,_,hh.hd⟩ rfl ?_|refine aC (j:=1) rfl rfl rfl oM (Nat.mul_one _) ⟨_,_,hh.hd⟩ rfl ?_)|refine yC ?_)
    refine aB 207 ?_;refine aA rfl (rdblock_c q0 oM j3) rfl ?_;rintro _ w2 ⟨ka,kc,rfl,d6,c4,o3⟩;have g2:=dN o3;have r2:Blk w2 bk 79 [v,.slice none 0 0,.slice none 0 0]:=cG g2 j0 oM;have p6:=o3.size;repeat refine aF ?_
    apply nD (Mut b) 7 4 (λ w=>RdR B b (bV y.2++rest) w∧But b w2 w) (λ w=>RdR B b rest w∧But b w2 w) (λ w=>But b w2 w)
     [hZ _,hZ _,hZ _,hZ _,ofA (λ u w=>∃ a c,u=.slice a y.2.length c∧Sl (λ k=>w2.heap.size≤k) w 1 a y.2.length c (bB y.2)) (by rintro u w w' g ⟨a,c,h1,h2⟩;exact ⟨a,c,h1,h2.grow g⟩),
      ofA (λ u w=>∃ a c,u=.agg #[.slice ka y.1.length kc,.slice a y.2.length c]∧Sl (λ k=>w2.heap.size≤k) w 1 a y.2.length c (bB y.2)) (by rintro u w w' g ⟨a,c,h1,h2⟩;exact ⟨a,c,h1,h2.grow g⟩),
      ofA (λ u w=>∃ bb a c,u=.slice (some ⟨bb,0,none⟩) 1 1∧w2.heap.size≤bb∧Blk w bb 58 [.slice ka y.1.length kc,.slice a y.2.length c]∧Sl (λ k=>w2.heap.size≤k) w 1 a y.2.length c (bB y.2)) (by rintro u w w' g ⟨bb,a,c,h1,h0,h2,h3⟩;exact ⟨bb,a,c,h1,h0,h2.grow g,h3.grow g⟩)]
    ·kernel_rfl
    ·exact ⟨c4,But.refl _ _⟩
    ·exact λ _ h=>h.2
    ·exact λ _ h=>h.2
    ·exact λ _ h=>h.size
    ·exact λ _ _ h g=>⟨h.1.grow g,gH g h.2⟩
    ·exact λ _ _ h g=>⟨h.1.grow g,gH g h.2⟩
    ·exact λ _ _ h=>h.size
    ·repeat' (first|exact iT|refine gY ?_ ?_)
     iterate 4
      ·refine dA rfl rfl rfl rfl ?_;intro wq _ _ o0;have t5:=cG o0 r2 oM;(refine yU ?_)
       repeat refine aF ?_
       exact bT rfl (Grow.refl _) rfl
     ·refine iS rfl rfl rfl rfl ?_;intro wq _ _ o0;(refine yU ?_)
      refine aA rfl (rdblock_c o0.1 oM s0) rfl ?_;rintro _ w5 ⟨va,vc,rfl,j1,e2,i3⟩;repeat refine aF ?_
      have:=o0.2.size;exact bT rfl ⟨i3,e2,but_but (dN i3) o0.2⟩ ⟨va,vc,rfl,j1.mono λ k hk=>by omega⟩
     ·refine dA rfl rfl rfl rfl ?_;intro wq _ _ o0;(((repeat (refine needA_cons rfl rfl ?_;intro vq v0;try (obtain rfl:=Eq.symm v0)));(refine needA_nil ?_)))
      obtain ⟨va,vc,rfl,j1⟩:=v0;repeat refine aF ?_
      exact bT rfl (Grow.refl _) ⟨va,vc,rfl,j1⟩
     ·refine dA rfl rfl rfl rfl ?_;intro wq _ _ o0;(((repeat (refine needA_cons rfl rfl ?_;intro vq v0;try (obtain rfl:=Eq.symm v0)));(refine needA_nil ?_)))
      obtain ⟨va,vc,rfl,j1⟩:=v0;have:=o0.size;refine TL.buildSlice rfl rfl rfl rfl rfl ?_;intro bb w6 s2 o4 b4 a4 z3;repeat refine aF ?_
      exact bT rfl s2 ⟨bb,va,vc,rfl,oM,o4,j1.grow s2⟩
    ·rintro wT lo hi ⟨f2,u0⟩ _ _;(((repeat (refine needA_cons rfl rfl ?_;intro vq v0;try (obtain rfl:=Eq.symm v0)));(refine needA_nil ?_)))
     obtain ⟨bb,va,vc,rfl,n4,u2,j1⟩:=v0;have a0:=mQ (mQ k0 g2 oM) u0 oM;have z0:=cG u0 r2 oM;have m5:=u0.size;refine dU rfl rfl a0 (aU (sz:=2) (m:=1) u2 rfl dM) (by simp [Value.oneCell']) (by unfold maxLen;omega) oM oM rfl ?_;intro v' w7 m0 e0 y0;have s3:=dF e0 (λ e=>by have:=aT a0 e;omega) z0;have d4:RdR B b rest w7:=f2.keep e0.size (λ k h1=>e0.block k (by have:=f2.lt;omega) (λ e=>by have:=aT a0 e.symm;omega));have x0:Grow w w7:=Grow.mk (aL e0 oM (λ k hk=>by have:=aT a0 hk;omega) (gT u0 oM (gT g2 oM hh.g)).1);have r3:Carry (λ k=>bk+1≤k∧v.ownBlock≠some k) w2 (λ k=>bk+1≤k∧v'.ownBlock≠some k) w7:=(Carry.but u0 (λ k hk _=>by omega)).trans (y0 (λ k=>bk+1≤k));have s1:Carry (λ k=>bk+1≤k∧v.ownBlock≠some k) wT (λ k=>bk+1≤k∧v'.ownBlock≠some k) w7:=y0 (λ k=>bk+1≤k);have t0:=f0.go ((Carry.but g2 (λ k hk _=>by omega)).trans r3);have f6:=d6.go ((Carry.mono (λ k hk _=>⟨oM,λ e=>by have:=aT k0 e;omega⟩)).trans r3);have x4:=j1.go ((Carry.mono (λ k hk _=>⟨oM,λ e=>by have:=aT k0 e;omega⟩)).trans s1);have n5:=e0.size;have j4:RdH w w7 B b bk l0 ha hc 0 nd.items.length:=hh.go oM x0 q2 (λ k h1 h2=>(e0.block k oM (λ e=>by have:=aT a0 e.symm;omega)).trans ((u0.block k oM h2).trans (g2.block k oM h2))) q3;obtain ⟨d3,x2,rfl,y3⟩:=aN m0;clear y0 r3 s1 j0 r2 z0 f2 q0 c4 l4 u4 hh;repeat (first|refine aF ?_|refine yJ λ w' hu j0 x3=>?_)
     have j5:Carry (λ k=>bk+1≤k∧(Value.slice d3 (i+1) x2).ownBlock≠some k) w7 (λ k=>bk+1≤k∧(Value.slice d3 (i+1) x2).ownBlock≠some k) w':=Carry.upd hu (λ k hk _=>by omega);have hz:=hu.size;refine aE (.slice d3 (i+1) x2,i+1) ⟨rfl,rfl,rfl,rfl,rfl,trivial⟩ ⟨u1,cells++[.slice ka y.1.length kc,.slice va y.2.length vc],j0,gD m0 hu oM,?_,?_,?_,j4.go oM (aI hu oM x0) q2 (λ k h1 h2=>hu.block k oM) q3⟩ (by simp only;omega)
     ·simp only;rw [eA hy];exact (t0.append (show ItCells _ _ [_,_] [y] from ⟨⟨_,_,_,rfl,f6⟩,⟨_,_,_,rfl,x4⟩,trivial⟩)).go j5
     ·simp only;rw [← g0];exact d4.keep oM (λ k h1=>hu.block k oM)
     ·simp only;rw [← g0];rw [List.length_append] at s0;omega
  | false =>
   have e1:=u2 hlf;rw [n0,e1] at x1;simp only [List.cons_append,List.cons.injEq] at x1;obtain ⟨rfl,rfl,rfl⟩:=x1;have d5:nd.kids≠[]:=λ e=>by rw [bL.2 e] at hlf;cases hlf
   have h6:nd.items=[]:=by
    have h1:=ok.no;have h2:0<nd.kids.length:=List.length_pos_iff.2 d5;exact List.eq_nil_of_length_eq_zero (h1 h2)
   ·repeat refine aF ?_
    refine aX (S:=Value×Nat) (λ s=>[(7,.int .i64 (s.2:Int)),(6,.pointer (some ⟨bk,0,none⟩)),(5,.slice ha 2 hc),(4,.pointer (some ⟨b,0,none⟩)),(2,.pointer (some ⟨l0,0,none⟩))])
     (λ s w1=>s.2≤nd.kids.length∧Blk w1 bk 79 [.slice none 0 0,s.1,.slice none 0 0]∧w1.ownsRow (bk+1) 3 1 s.1 s.2 (bC (nd.kids.take s.2))∧RdR B b (((nd.kids.drop s.2).flatMap bS)++(nd.keys.flatMap bV++List.replicate z 0)) w1∧(((nd.kids.drop s.2).flatMap bS)++(nd.keys.flatMap bV++List.replicate z 0)).length≤100000∧RdH w w1 B b bk l0 ha hc 1 nd.kids.length)
     (λ s=>nd.kids.length-s.2) (.slice none 0 0,0) ⟨rfl,rfl,rfl,rfl,rfl,trivial⟩ ⟨Nat.zero_le _,j2,lO,by simpa using e4,by rw [n0] at hl;simp only [List.length_cons] at hl;simp only [List.drop_zero];simp only [List.append_assoc] at hl;omega,k4⟩ ?_
    clear j2 e4 k4;rintro ⟨v,i⟩ w1 ⟨hi,j0,k0,q0,i0,hh⟩;simp only at hi j0 k0 q0 i0;refine bD (e':=[(7,.int .i64 (i:Int)),(6,.pointer (some ⟨bk,0,none⟩)),(5,.slice ha 2 hc),(4,.pointer (some ⟨b,0,none⟩)),(2,.pointer (some ⟨l0,0,none⟩))]) ?_ ⟨rfl,rfl,rfl,rfl,rfl,trivial⟩;have g4:=j0.lt;have l4:=hh.c0;have u4:=hh.c1;by_cases u1:i<nd.kids.length;rotate_left
    ·obtain rfl:i=nd.kids.length:=by omega
     repeat (first|(refine aH ?_;refine aC (j:=1) rfl rfl rfl oM (Nat.mul_one _) ⟨_,_,hh.hd⟩ rfl ?_)|refine yC ?_)
     obtain ⟨va,vc,rfl,u3⟩:=aN k0;rw [List.take_length] at u3;rw [List.drop_length] at q0;exact ⟨none,0,0,va,_,vc,⟨rfl,rfl,rfl,rfl,trivial⟩,g4,j0,by rw [h6];exact ⟨[],Sl.nil_mk _ _ _,trivial⟩,u3.mono λ k hk=>hk.1,q0,hh⟩
    obtain ⟨y,hy⟩:∃ y,nd.kids[i]? = some y:=⟨_,List.getElem?_eq_getElem u1⟩
    have n6:=ok.kd i y hy
    have hd:(nd.kids.drop i).flatMap bS++(nd.keys.flatMap bV++List.replicate z 0)=bS y++((nd.kids.drop (i+1)).flatMap bS++(nd.keys.flatMap bV++List.replicate z 0)):=by
     rw [iI hy];simp
    rw [hd] at q0 i0;obtain ⟨rest,g0⟩:∃ r,r=(nd.kids.drop (i+1)).flatMap bS++(nd.keys.flatMap bV++List.replicate z 0):=⟨_,rfl⟩
    rw [← g0] at q0 i0;have s0:rest.length≤100000:=by rw [List.length_append] at i0;omega
    repeat (first|(refine aH ?_;first|refine aC (j:=0) rfl rfl rfl oM (Nat.mul_one _) ⟨_,_,hh.hd⟩ rfl ?_|refine aC (j:=1) rfl rfl rfl oM (Nat.mul_one _) ⟨_,_,hh.hd⟩ rfl ?_)|refine yC ?_)
    apply nD (Mut b) 6 3 (λ w=>RdR B b (bS y++rest) w∧But b w1 w) (λ w=>RdR B b rest w∧But b w1 w) (λ w=>But b w1 w)
     [hZ _,hZ _,hZ _,hZ (.int .u64 (y:Int)),hZ (.int .i64 (y:Int)),
      ofA (λ u w=>∃ bb,u=.slice (some ⟨bb,0,none⟩) 1 1∧w1.heap.size≤bb∧Blk w bb 3 [.int .i64 (y:Int)]) (by rintro u w w' g ⟨bb,h1,h0,h2⟩;exact ⟨bb,h1,h0,h2.grow g⟩)]
    ·kernel_rfl
    ·exact ⟨q0,But.refl _ _⟩
    ·exact λ _ h=>h.2
    ·exact λ _ h=>h.2
    ·exact λ _ h=>h.size
    ·exact λ _ _ h g=>⟨h.1.grow g,gH g h.2⟩
    ·exact λ _ _ h g=>⟨h.1.grow g,gH g h.2⟩
    ·exact λ _ _ h=>h.size
    ·repeat' (first|exact iT|refine gY ?_ ?_)
     iterate 3
      ·refine dA rfl rfl rfl rfl ?_;intro wq _ _ o0;have t5:=cG o0 j0 oM;(refine yU ?_)
       repeat refine aF ?_
       exact bT rfl (Grow.refl _) rfl
     ·refine iS rfl rfl rfl rfl ?_;intro wq _ _ o0;(refine yU ?_)
      refine aA rfl (rdword_c o0.1 oM i0) rfl ?_;rintro _ w5 ⟨rfl,e2,i3⟩;repeat refine aF ?_
      exact bT rfl ⟨i3,e2,but_but (dN i3) o0.2⟩ rfl
     ·refine dA rfl rfl rfl rfl ?_;intro wq _ _ o0;(refine yU ?_)
      repeat refine aF ?_
      exact bT rfl (Grow.refl _) rfl
     ·refine dA rfl rfl rfl rfl ?_;intro wq _ _ o0;(refine yU ?_)
      have:=o0.size;refine TL.buildSlice rfl rfl rfl rfl rfl ?_;intro bb w6 s2 o4 b4 a4 z3;repeat refine aF ?_
      exact bT rfl s2 ⟨bb,rfl,oM,o4⟩
    ·rintro wT lo hi ⟨f2,u0⟩ _ _;(((repeat (refine needA_cons rfl rfl ?_;intro vq v0;try (obtain rfl:=Eq.symm v0)));(refine needA_nil ?_)))
     obtain ⟨bb,rfl,n4,u2⟩:=v0;have a0:=mQ k0 u0 oM;have z0:=cG u0 j0 oM;have m5:=u0.size;refine dU rfl rfl a0 (aU (sz:=1) (m:=1) u2 rfl dM) (by simp [Value.oneCell']) (by unfold maxLen;omega) oM oM rfl ?_;intro v' w7 m0 e0 y0;have s3:=dF e0 (λ e=>by have:=aT a0 e;omega) z0;have d4:RdR B b rest w7:=f2.keep e0.size (λ k h1=>e0.block k (by have:=f2.lt;omega) (λ e=>by have:=aT a0 e.symm;omega));have x0:Grow w w7:=Grow.mk (aL e0 oM (λ k hk=>by have:=aT a0 hk;omega) (gT u0 oM hh.g).1);have n5:=e0.size;have j4:RdH w w7 B b bk l0 ha hc 1 nd.kids.length:=hh.go oM x0 q2 (λ k h1 h2=>(e0.block k oM (λ e=>by have:=aT a0 e.symm;omega)).trans (u0.block k oM h2)) q3;obtain ⟨d3,x2,rfl,y3⟩:=aN m0;clear y0 j0 z0 f2 q0 l4 u4 hh;repeat (first|refine aF ?_|refine yJ λ w' hu j0 x3=>?_)
     have hz:=hu.size;refine aE (.slice d3 (i+1) x2,i+1) ⟨rfl,rfl,rfl,rfl,rfl,trivial⟩ ⟨u1,j0,?_,?_,?_,j4.go oM (aI hu oM x0) q2 (λ k h1 h2=>hu.block k oM) q3⟩ (by simp only;omega)
     ·simp only;rw [eA hy];have:=gD m0 hu oM;simpa [bC] using this
     ·simp only;rw [← g0];exact d4.keep oM (λ k h1=>hu.block k oM)
     ·simp only;rw [← g0];exact s0
 rintro e w5 ⟨a1,n1,c1,a2,n2,c2,p0,z5,t3,g1,f1,a5,f5⟩;refine bD (e':=[(6,_),(5,_),(4,_),(2,_)]) ?_ p0;clear p0 j2 e4 k4;have d5:=bU f1;have o5:=ok.n3;have o2:=ok.n2;have q6:=g1.len;have o1:=ok.n1
 have s5:(nd.keys.flatMap bV++List.replicate z 0).length≤100000:=by
  cases hlf:bM nd with
  | true =>
   have w3:=bL.1 hlf
   have p3:nd.keys=[]:=by
    rw [w3] at o5;exact List.eq_nil_of_length_eq_zero o5
   have e1:=v4 hlf;rw [x1,e1] at hl;rw [p3];simp only [List.length_append,List.length_cons,List.flatMap_nil,List.length_nil] at hl ⊢;omega
  | false =>
   have e1:=u2 hlf;rw [x1,e1] at hl;simp only [List.length_append,List.length_cons] at hl ⊢;omega
 refine dT 1 (λ e w6=>∃ (a3:Option Addr) (n3 c3:Nat),Sub [(6,.pointer (some ⟨bk,0,none⟩)),(5,.slice ha 2 hc),(4,.pointer (some ⟨b,0,none⟩)),(2,.pointer (some ⟨l0,0,none⟩))] e∧bk<w6.heap.size∧Blk w6 bk 79 [.slice a1 n1 c1,.slice a2 n2 c2,.slice a3 n3 c3]∧NdAt (λ k=>bk+1≤k) w6 ⟨a1,n1,c1,a2,n2,c2,a3,n3,c3⟩ nd∧RdR B b (List.replicate z 0) w6∧RdH w w6 B b bk l0 ha hc kd cnt) ?_ ?_;rotate_left
 ·repeat refine aF ?_
  obtain ⟨H,hH⟩:∃ H,w5.heap.size=H:=⟨_,rfl⟩
  have t6:bk+1≤H:=by omega
  have r1:ItsAt (λ k=>bk+1≤k∧k<H) w5 a1 n1 c1 nd.items:=g1.go (Carry.mono λ k hk r5=>⟨hk,oM⟩);have m1:Sl (λ k=>bk+1≤k∧k<H) w5 1 a2 n2 c2 (bC nd.kids):=f1.tight.mono (λ k hk=>⟨hk.1,oM⟩)
  refine aX (S:=Value×Nat) (λ s=>[(9,.int .i64 ((s.2+1:Nat):Int)),(6,.pointer (some ⟨bk,0,none⟩)),(5,.slice ha 2 hc),(4,.pointer (some ⟨b,0,none⟩)),(2,.pointer (some ⟨l0,0,none⟩))])
   (λ s w1=>s.2≤nd.keys.length∧H≤w1.heap.size∧∃ (cells:List Value),Blk w1 bk 79 [.slice a1 n1 c1,.slice a2 n2 c2,s.1]∧ItsAt (λ k=>bk+1≤k∧k<H) w1 a1 n1 c1 nd.items∧Sl (λ k=>bk+1≤k∧k<H) w1 1 a2 n2 c2 (bC nd.kids)∧w1.ownsRow H 30 1 s.1 s.2 cells∧KyCells (λ k=>H≤k∧s.1.ownBlock≠some k) w1 cells (nd.keys.take s.2)∧RdR B b ((nd.keys.drop s.2).flatMap bV++List.replicate z 0) w1∧((nd.keys.drop s.2).flatMap bV++List.replicate z 0).length≤100000∧RdH w w1 B b bk l0 ha hc kd cnt)
   (λ s=>nd.keys.length-s.2) (.slice none 0 0,0) ⟨rfl,rfl,rfl,rfl,rfl,trivial⟩ ⟨Nat.zero_le _,oM,[],t3,r1,m1,lO,trivial,a5,s5,f5⟩ ?_
  clear t3 a5 f5 r1 m1 g1 f1 z5 hH;rintro ⟨v,i⟩ w1 ⟨hi,v6,cells,j0,r1,m1,k0,f0,q0,i0,hh⟩;simp only at hi j0 k0 f0 q0 i0;refine bD (e':=[(9,.int .i64 ((i+1:Nat):Int)),(6,.pointer (some ⟨bk,0,none⟩)),(5,.slice ha 2 hc),(4,.pointer (some ⟨b,0,none⟩)),(2,.pointer (some ⟨l0,0,none⟩))]) ?_ ⟨rfl,rfl,rfl,rfl,rfl,trivial⟩;have g4:=j0.lt;by_cases u1:i<nd.keys.length;rotate_left
  ·obtain rfl:i=nd.keys.length:=by omega
   repeat refine aF ?_
   obtain ⟨va,vc,rfl,u3⟩:=aN k0;rw [List.take_length] at f0;rw [List.drop_length] at q0;exact ⟨va,_,vc,⟨rfl,rfl,rfl,rfl,trivial⟩,g4,j0,⟨r1.go (Carry.mono λ k hk _=>hk.1),m1.mono λ k hk=>hk.1,⟨cells,u3.mono λ k hk=>by have:=hk.1;omega,f0.go (Carry.mono λ k hk _=>by have:=hk.1;omega)⟩⟩,q0,hh⟩
  obtain ⟨y,hy⟩:∃ y,nd.keys[i]? = some y:=⟨_,List.getElem?_eq_getElem u1⟩
  have v5:=(eB (ok.ky i y hy)).2
  have hd:(nd.keys.drop i).flatMap bV++List.replicate z 0=bV y++((nd.keys.drop (i+1)).flatMap bV++List.replicate z 0):=by
   rw [iI hy];simp
  rw [hd] at q0 i0;obtain ⟨b1,g0⟩:∃ r,r=(nd.keys.drop (i+1)).flatMap bV++List.replicate z 0:=⟨_,rfl⟩
  rw [← g0] at q0 i0;have s0:b1.length≤100000:=by rw [List.length_append] at i0;omega
  repeat refine aF ?_
  apply nD (Mut b) 5 3 (λ w=>RdR B b (bV y++b1) w∧But b w1 w) (λ w=>RdR B b b1 w∧But b w1 w) (λ w=>But b w1 w)
   [hZ _,hZ _,hZ _,ofA (λ u w=>∃ a c,u=.slice a y.length c∧Sl (λ k=>w1.heap.size≤k) w 1 a y.length c (bB y)) (by rintro u w w' g ⟨a,c,h1,h2⟩;exact ⟨a,c,h1,h2.grow g⟩),
    ofA (λ u w=>∃ bb a c,u=.slice (some ⟨bb,0,none⟩) 1 1∧w1.heap.size≤bb∧Blk w bb 30 [.slice a y.length c]∧Sl (λ k=>w1.heap.size≤k) w 1 a y.length c (bB y)) (by rintro u w w' g ⟨bb,a,c,h1,h0,h2,h3⟩;exact ⟨bb,a,c,h1,h0,h2.grow g,h3.grow g⟩)]
  ·kernel_rfl
  ·exact ⟨q0,But.refl _ _⟩
  ·exact λ _ h=>h.2
  ·exact λ _ h=>h.2
  ·exact λ _ h=>h.size
  ·exact λ _ _ h g=>⟨h.1.grow g,gH g h.2⟩
  ·exact λ _ _ h g=>⟨h.1.grow g,gH g h.2⟩
  ·exact λ _ _ h=>h.size
  ·repeat' (first|exact iT|refine gY ?_ ?_)
   iterate 3
    ·refine dA rfl rfl rfl rfl ?_;intro wq _ _ o0;have t5:=cG o0 j0 oM;(refine yU ?_)
     repeat refine aF ?_
     exact bT rfl (Grow.refl _) rfl
   ·refine iS rfl rfl rfl rfl ?_;intro wq _ _ o0;(refine yU ?_)
    refine aA rfl (rdblock_c o0.1 oM i0) rfl ?_;rintro _ w5 ⟨va,vc,rfl,j1,e2,i3⟩;repeat refine aF ?_
    have:=o0.2.size;exact bT rfl ⟨i3,e2,but_but (dN i3) o0.2⟩ ⟨va,vc,rfl,j1.mono λ k hk=>by omega⟩
   ·refine dA rfl rfl rfl rfl ?_;intro wq _ _ o0;(((repeat (refine needA_cons rfl rfl ?_;intro vq v0;try (obtain rfl:=Eq.symm v0)));(refine needA_nil ?_)))
    obtain ⟨va,vc,rfl,j1⟩:=v0;have:=o0.size;refine TL.buildSlice rfl rfl rfl rfl rfl ?_;intro bb w6 s2 o4 b4 a4 z3;repeat refine aF ?_
    exact bT rfl s2 ⟨bb,va,vc,rfl,oM,o4,j1.grow s2⟩
  ·rintro wT lo hi ⟨f2,u0⟩ _ _;(((repeat (refine needA_cons rfl rfl ?_;intro vq v0;try (obtain rfl:=Eq.symm v0)));(refine needA_nil ?_)))
   obtain ⟨bb,va,vc,rfl,n4,u2,j1⟩:=v0;have a0:=mQ k0 u0 oM;have z0:=cG u0 j0 oM;have m5:=u0.size;refine dU rfl rfl a0 (aU (sz:=1) (m:=1) u2 rfl dM) (by simp [Value.oneCell']) (by unfold maxLen;omega) oM oM rfl ?_;intro v' w7 m0 e0 y0;have s3:=dF e0 (λ e=>by have:=aT a0 e;omega) z0;have d4:RdR B b b1 w7:=f2.keep e0.size (λ k h1=>e0.block k (by have:=f2.lt;omega) (λ e=>by have:=aT a0 e.symm;omega));have x0:Grow w w7:=Grow.mk (aL e0 oM (λ k hk=>by have:=aT a0 hk;omega) (gT u0 oM hh.g).1);have s1:Carry (λ k=>H≤k∧v.ownBlock≠some k) wT (λ k=>H≤k∧v'.ownBlock≠some k) w7:=y0 (λ k=>H≤k);have t0:=f0.go ((Carry.but u0 (λ k hk _=>by omega)).trans s1);have x4:=j1.go ((Carry.mono (λ k hk _=>⟨oM,λ e=>by have:=aT k0 e;omega⟩)).trans s1);have n5:=e0.size;have d2:∀ k,k<w1.heap.size→k<H→k≠b→w7.heap[k]? = w1.heap[k]?:=λ k h0 h1 h2=>(e0.block k oM (λ e=>by have:=aT a0 e.symm;omega)).trans (u0.block k oM h2);have j4:RdH w w7 B b bk l0 ha hc kd cnt:=hh.go oM x0 q2 (λ k h1 h2=>d2 k oM oM h2) q3;have cH:Carry (λ k=>bk+1≤k∧k<H) w1 (λ k=>bk+1≤k∧k<H) w7:=⟨oM,λ k hk r5=>⟨hk,d2 k r5 hk.2 oM⟩⟩
   have i4:=r1.go cH;have h4:=m1.go cH;obtain ⟨d3,x2,rfl,y3⟩:=aN m0;clear y0 s1 j0 z0 f2 q0 hh r1 m1 cH d2;repeat (first|refine aF ?_|refine yJ λ w' hu j0 x3=>?_)
   have j5:Carry (λ k=>H≤k∧(Value.slice d3 (i+1) x2).ownBlock≠some k) w7 (λ k=>H≤k∧(Value.slice d3 (i+1) x2).ownBlock≠some k) w':=Carry.upd hu (λ k hk _=>by omega);have cu:Carry (λ k=>bk+1≤k∧k<H) w7 (λ k=>bk+1≤k∧k<H) w':=Carry.upd hu (λ k hk _=>by omega);have hz:=hu.size;refine aE (.slice d3 (i+1) x2,i+1) ⟨rfl,rfl,rfl,rfl,rfl,trivial⟩ ⟨u1,oM,cells++[.slice va y.length vc],j0,i4.go cu,h4.go cu,gD m0 hu oM,?_,?_,?_,j4.go oM (aI hu oM x0) q2 (λ k h1 h2=>hu.block k oM) q3⟩ (by simp only;omega)
   ·simp only;rw [eA hy];exact (t0.append (show KyCells _ _ [_] [y] from ⟨⟨_,_,_,rfl,x4⟩,trivial⟩)).go j5
   ·simp only;rw [← g0];exact d4.keep oM (λ k h1=>hu.block k oM)
   ·simp only;rw [← g0];exact s0
 rintro e w6 ⟨a3,n3,c3,p0,z6,m4,f3,z4,k3⟩;refine bD (e':=[(6,_),(5,_),(4,_),(2,_)]) ?_ p0;clear p0 t3 g1 f1 a5 f5 z5;have l4:=k3.c0;have s2:=k3.g;have p4:=k3.b2;obtain ⟨ra,rc,r4,m3⟩:=id z4;have y5:=z4.lt;have l5:(List.replicate z 0:Bs).length=z:=List.length_replicate;rw [l5] at r4 m3
 have m6:z≤100000:=by
  rw [List.length_append,l5] at s5;omega
 refine dT 1 (λ e w7=>Sub [(6,.pointer (some ⟨bk,0,none⟩)),(5,.slice ha 2 hc),(4,.pointer (some ⟨b,0,none⟩)),(2,.pointer (some ⟨l0,0,none⟩))] e∧Grow w6 w7) ?_ ?_;rotate_left
 ·cases hlf:bM nd with
  | true =>
   have w3:kd=0:=by
    have e1:=v4 hlf;rw [x1,e1] at n0;simp only [List.cons_append,List.cons.injEq] at n0;exact n0.1.symm
   subst w3;repeat (first|(refine aB 164 ?_;refine aA rfl (rcheck_c _ ⟨a1,n1,c1,a2,n2,c2,a3,n3,c3⟩ nd _ f3 s4) rfl ?_;rintro _ _ ⟨rfl,j6⟩)|(refine aH ?_;refine aC (j:=0) rfl rfl rfl oM (Nat.mul_one _) ⟨_,_,k3.hd.grow (by assumption)⟩ rfl ?_)|(refine aO ?_;refine aQ rfl ((k3.hd.grow (by assumption)).row.cell (show (bB [0,cnt])[0]? = some (.int .u8 0) from rfl)) rfl ?_)|refine yC ?_)
   exact ⟨⟨rfl,rfl,rfl,rfl,trivial⟩,by assumption⟩
  | false =>
   have g6:kd=1:=by
    have e1:=u2 hlf;rw [x1,e1] at n0;simp only [List.cons_append,List.cons.injEq] at n0;exact n0.1.symm
   subst g6
   have c6:n2≠0:=by
    rw [d5];intro e;rw [bL.2 (List.eq_nil_of_length_eq_zero e)] at hlf;cases hlf
   repeat (first|(refine aB 164 ?_;refine aA rfl (rcheck_c _ ⟨a1,n1,c1,a2,n2,c2,a3,n3,c3⟩ nd _ f3 s4) rfl ?_;rintro _ _ ⟨rfl,j6⟩)|(refine aH ?_;refine aC (j:=0) rfl rfl rfl oM (Nat.mul_one _) ⟨_,_,k3.hd.grow (by assumption)⟩ rfl ?_)|(refine aO ?_;refine aQ rfl ((k3.hd.grow (by assumption)).row.cell (show (bB [1,cnt])[0]? = some (.int .u8 1) from rfl)) rfl ?_)|refine yC ?_)
   exact ⟨⟨rfl,rfl,rfl,rfl,trivial⟩,by assumption⟩
 rintro e w7 ⟨p0,x0⟩;refine bD (e':=[(6,_),(5,_),(4,_),(2,_)]) ?_ p0;clear p0;have s3:=m4.grow x0;have l6:=p4.grow x0;have a6:=r4.grow x0;have g3:=m3.grow x0;have c5:=f3.go (Carry.grow x0);have g5:=s2.trans x0;have z7:=x0.size;clear m4 p4 r4 m3 f3 s2 x0 z4 k3;repeat refine aF ?_
 refine aX (S:=Nat) (λ i=>[(10,.int .i64 (i:Int)),(6,.pointer (some ⟨bk,0,none⟩)),(4,.pointer (some ⟨b,0,none⟩)),(2,.pointer (some ⟨l0,0,none⟩))]) (λ i w'=>i≤z∧w7=w') (λ i=>z-i) 0 ⟨rfl,rfl,rfl,rfl,trivial⟩ ⟨Nat.zero_le _,rfl⟩ ?_;rintro i _ ⟨hi,rfl⟩;by_cases u1:i<z
 ·have s6:w7.cell? (at' ra i)=some (.int .u8 0):=g3.row.cell (by
   have:(List.replicate z 0:Bs)[i]? = some 0:=by simp [u1]
   exact bys_at this)
  repeat (first|(refine aH ?_;refine aC (j:=i) rfl rfl rfl u1 (Nat.mul_one _) ⟨_,_,g3⟩ rfl ?_)|refine yC ?_)
  exact aE (i+1) ⟨rfl,rfl,rfl,rfl,trivial⟩ ⟨u1,rfl⟩ oM
 obtain rfl:i=z:=by omega
 repeat (first|refine aF ?_|refine yJ λ w' hu j0 x3=>?_)
 refine fP rfl (aW j0 rfl) rfl ⟨_,rfl,⟨a1,n1,c1,a2,n2,c2,a3,n3,c3⟩,rfl,(c5.go (Carry.upd hu (λ k hk _=>by omega))).go (Carry.mono λ k hk _=>by omega),aI hu oM g5⟩
theorem lQ {p:Bs} (h:p.length<128):(bV p).length=p.length+1:=by rw [blkB_small h];rfl
theorem its_len_le {l:bQ} (h:∀ (i:Nat) (y:Bs×Bs),l[i]? = some y→eF y.1=true∧fB y.2=true):∀ i,((l.take i).flatMap λ x:Bs×Bs=>bV x.1++bV x.2).length≤50*i
 | 0=>by simp
 | i+1=>by
  have ih:=its_len_le h i
  cases hy:l[i]? with
  | none=>rw [List.take_of_length_le (by have:=List.getElem?_eq_none_iff.1 hy;omega)];rw [List.take_of_length_le (by have:=List.getElem?_eq_none_iff.1 hy;omega)] at ih;omega
  | some y =>
   obtain ⟨h1,h2⟩:=h i y hy;have h3:=(eB h1).2;have h4:=gW h2;rw [eA hy,List.flatMap_append,List.length_append];simp only [List.flatMap_cons,List.flatMap_nil,List.append_nil,List.length_append];rw [lQ oM,lQ oM];omega
theorem kys_len_le {l:List Bs} (h:∀ (i:Nat) (y:Bs),l[i]? = some y→eF y=true):∀ i,((l.take i).flatMap bV).length≤50*i
 | 0=>by simp
 | i+1=>by
  have ih:=kys_len_le h i
  cases hy:l[i]? with
  | none=>rw [List.take_of_length_le (by have:=List.getElem?_eq_none_iff.1 hy;omega)];rw [List.take_of_length_le (by have:=List.getElem?_eq_none_iff.1 hy;omega)] at ih;omega
  | some y =>
   have h3:=(eB (h i y hy)).2;rw [eA hy,List.flatMap_append,List.length_append];simp only [List.flatMap_cons,List.flatMap_nil,List.append_nil];rw [lQ oM];omega
theorem kds_len (l:List Nat) (i:Nat):((l.take i).flatMap bS).length=4*(l.take i).length:=by
 generalize l.take i=m
 induction m with
 | nil=>rfl
 | cons a r ih=>simp only [List.flatMap_cons,List.length_append,List.length_cons,ih,lP];omega
theorem rbytesN_c (F:Nat→Prop) (x:NV) (nd:Nd) (w:World) (h:NdAt F w x nd) (u1:bE nd=true) :
  Calls Tryz.prog 165 #[x.val] w (Ret λ v w'=>∃ u,v=.tuple #[u,.int .i64 0]∧w'.ownsRow w.heap.size 5 1 u (dE nd).length (bB (dE nd))∧Grow w w'):=by
 have ok:=ndOk u1;obtain ⟨r2,u2⟩:=bytesN_len u1;have x1:=h.its.len;have e1:=bU h.kids;have d2:=h.kys.len;obtain ⟨cs,hs,t0⟩:=h.its.at';obtain ⟨ds,q1,l0⟩:=h.kys.at';have r1:=h.kids;have s0:=λ w' (g:Grow w w')=>rcheck_c F x nd w' (h.go (Carry.grow g)) u1;obtain ⟨a1,n1,c1,a2,n2,c2,a3,n3,c3⟩:=x;simp only at x1 e1 d2 hs q1 r1 t0 l0;show Calls Tryz.prog 165 #[.agg #[.slice a1 n1 c1,.slice a2 n2 c2,.slice a3 n3 c3]] w _;replace s0:∀ w',Grow w w'→Calls Tryz.prog 164 #[.agg #[.slice a1 n1 c1,.slice a2 n2 c2,.slice a3 n3 c3]] w' (Ret λ v f2=>v=.int .i64 0∧Grow w' f2):=s0;have o1:=ok.n1;have o2:=ok.n2;have o5:=ok.n3;rw [← x1] at o1;rw [← e1] at o2 o5;rw [← d2] at o5;refine V.calls (args:=[_]) Tryz.func165 rfl Tryz.ntmps165 rfl rfl ?_
 cases hlf:bM nd with
 | true =>
  have d3:n2=0:=by rw [e1,bL.1 hlf];rfl
  rw [r2 hlf];rw [← x1];repeat (first|(refine aB 164 ?_;refine aA rfl (s0 _ yG) rfl ?_;rintro _ _ ⟨rfl,f1⟩)|(refine aB 114 ?_;refine aA rfl (rleaf_c ⟨a1,n1,c1,a2,n2,c2,a3,n3,c3⟩ true _ (by simp only;rw [d3];rfl)) rfl ?_;rintro _ _ ⟨rfl,f1⟩)|refine yC ?_|refine yI λ bk w' hg z1 j2 m1=>?_)
  rename_i wz;have n0:Blk wz bk 79 [.slice a1 n1 c1,.slice a2 n2 c2,.slice a3 n3 c3]:=by exact yB
  have v0:Grow w wz:=by exact yG
  have z0:=v0.size;refine TL.buildSlice rfl rfl rfl rfl rfl ?_;intro b w3 x0 j1 e3 e4 e5;have h0:w3.ownsRow w.heap.size 5 1 (.slice (some ⟨b,0,none⟩) 2 2) 2 (bB [0,n1]):=own_lit j1 oM rfl dM;have k0:=v0.trans x0;have m0:=n0.grow x0;clear f1 z1 n0 x0 j1 v0;repeat refine aF ?_
  refine aX (S:=Value×Nat) (λ s=>[(5,.int .i64 (s.2:Int)),(4,s.1),(1,.pointer (some ⟨bk,0,none⟩))]) (λ s w2=>s.2≤n1∧w2.ownsRow w.heap.size 5 1 s.1 (0::n1::(nd.items.take s.2).flatMap λ x:Bs×Bs=>bV x.1++bV x.2).length (bB (0::n1::(nd.items.take s.2).flatMap λ x:Bs×Bs=>bV x.1++bV x.2))∧Blk w2 bk 79 [.slice a1 n1 c1,.slice a2 n2 c2,.slice a3 n3 c3]∧Grow w w2) (λ s=>n1-s.2) (.slice (some ⟨b,0,none⟩) 2 2,0) ⟨rfl,rfl,rfl,trivial⟩ ⟨Nat.zero_le _,h0,m0,k0⟩ ?_;clear h0 m0 k0;rintro ⟨u,i⟩ w2 ⟨hi,a0,g0,e0⟩;simp only at hi a0;have u0:=its_len_le ok.it i;have z2:=e0.size;have h1:=g0.lt;by_cases q0:i<n1;rotate_left
  ·obtain rfl:i=n1:=by omega
   rw [List.take_of_length_le oM] at a0;repeat refine aF ?_
   exact eZ rfl rfl ⟨_,rfl,u,rfl,a0,e0⟩
  obtain ⟨y,hy⟩:∃ y,nd.items[i]? = some y:=⟨_,List.getElem?_eq_getElem oM⟩
  obtain ⟨ka,kc,va,vc,g1,g2,s1,s2⟩:=t0 i y hy;obtain ⟨k1,k2⟩:=ok.it i y hy;have h2:=(eB k1).2;have h3:=gW k2;have g3:=lQ (p:=y.1) oM;have e6:(nd.items.take (i+1)).flatMap (λ x:Bs×Bs=>bV x.1++bV x.2)=(nd.items.take i).flatMap (λ x:Bs×Bs=>bV x.1++bV x.2)++bV y.1++bV y.2:=by rw [eA hy];simp
  obtain ⟨Lx,p0⟩:∃ Lx,Lx=0::n1::(nd.items.take i).flatMap λ x:Bs×Bs=>bV x.1++bV x.2:=⟨_,rfl⟩
  have e7:(0::n1::(nd.items.take (i+1)).flatMap λ x:Bs×Bs=>bV x.1++bV x.2)=Lx++bV y.1++bV y.2:=by rw [p0,e6];simp
  have y2:Lx.length≤1000:=by rw [p0];simp only [List.length_cons];omega
  rw [← p0] at a0;obtain ⟨ua,uc,rfl,b1⟩:=aN a0;repeat refine aF ?_
  apply T.any 15 [is (.slice ua Lx.length uc),is (.pointer (some ⟨bk,0,none⟩)),is (.slice a1 n1 c1),is (.int .i64 (i:Int)),is _,is _,is (.slice ka y.1.length kc),own w2.heap.size 5 1 (Lx++bV y.1).length (bB (Lx++bV y.1)),is (.pointer (some ⟨bk,0,none⟩)),is (.slice a1 n1 c1),is (.int .i64 (i:Int)),is _,is _,is (.slice va y.2.length vc),own w2.heap.size 5 1 (Lx++bV y.1++bV y.2).length (bB (Lx++bV y.1++bV y.2))]
  ·rfl
  ·repeat' (first|exact aM|refine aK ?_ ?_)
   iterate 7
    ·refine yQ λ wq _ _ i0=>?_;repeat (first|(refine aH ?_;refine aC (j:=i) rfl rfl rfl q0 rfl ⟨F,_,hs.grow (e0.trans i0)⟩ rfl ?_)|(refine bN ?_;refine bJ rfl (hs.grow (e0.trans i0)) g1 rfl ?_)|(refine aO ?_;refine aQ rfl ((hs.grow (e0.trans i0)).row.cell g1) rfl ?_)|refine yC ?_)
     exact aD rfl yG rfl
   ·refine yQ λ wq _ _ i0=>?_;have zq:=i0.size;refine aB 203 ?_;refine aA rfl (rblock_c _ F ua ka uc kc Lx y.1 _ (b1.grow i0) (s1.grow (e0.trans i0)) oM oM) rfl ?_;rintro v5 w5 ⟨f0,o0⟩;repeat refine aF ?_
    exact aD rfl yG (dX f0 zq)
   iterate 6
    ·refine yQ λ wq _ _ i0=>?_;repeat (first|(refine aH ?_;refine aC (j:=i) rfl rfl rfl q0 rfl ⟨F,_,hs.grow (e0.trans i0)⟩ rfl ?_)|(refine bN ?_;refine bJ rfl (hs.grow (e0.trans i0)) g1 rfl ?_)|(refine aO ?_;refine aQ rfl ((hs.grow (e0.trans i0)).row.cell g2) rfl ?_)|refine yC ?_)
     exact aD rfl yG rfl
   ·(((refine bR rfl rfl rfl ?_);( intro wq _ _ i0;(repeat (refine aJ rfl rfl ?_;intro vq y0;try (obtain rfl:=y0)));(refine aY ?_))))
    have zq:=i0.size;have j0:wq.ownsRow w2.heap.size 5 1 vq (Lx++bV y.1).length (bB (Lx++bV y.1)):=y0;obtain ⟨qa,qc,rfl,q2⟩:=aN j0;refine aB 203 ?_;refine aA rfl (rblock_c _ F qa va qc vc (Lx++bV y.1) y.2 _ q2 (s2.grow (e0.trans i0)) (by rw [List.length_append];omega) oM) rfl ?_;rintro v5 w5 ⟨f0,o0⟩;repeat refine aF ?_
    exact aD rfl yG (dX f0 zq)
  intro w5 f3 j3 o0 _ _;((((repeat (refine aJ rfl rfl ?_;intro vq y0;try (obtain rfl:=y0)));(refine aY ?_))))
  have j0:w5.ownsRow w2.heap.size 5 1 vq (Lx++bV y.1++bV y.2).length (bB (Lx++bV y.1++bV y.2)):=y0;repeat refine aF ?_
  refine aE (vq,i+1) ⟨rfl,rfl,rfl,trivial⟩ ⟨q0,?_,g0.grow o0,e0.trans o0⟩ (by simp only;omega);simp only;rw [e7];exact dX j0 z2
 | false =>
  have w1:n2≠0:=by
   rw [e1];intro e;rw [bL.2 (List.eq_nil_of_length_eq_zero e)] at hlf;cases hlf
  rw [u2 hlf];rw [← e1];repeat (first|(refine aB 164 ?_;refine aA rfl (s0 _ yG) rfl ?_;rintro _ _ ⟨rfl,f1⟩)|(refine aB 114 ?_;refine aA rfl (rleaf_c ⟨a1,n1,c1,a2,n2,c2,a3,n3,c3⟩ false _ (by simp [w1])) rfl ?_;rintro _ _ ⟨rfl,f1⟩)|refine yC ?_|refine yI λ bk w' hg z1 j2 m1=>?_)
  rename_i wz;have n0:Blk wz bk 79 [.slice a1 n1 c1,.slice a2 n2 c2,.slice a3 n3 c3]:=by exact yB
  have v0:Grow w wz:=by exact yG
  have z0:=v0.size;refine TL.buildSlice rfl rfl rfl rfl rfl ?_;intro b w3 x0 j1 e3 e4 e5;have h0:w3.ownsRow w.heap.size 5 1 (.slice (some ⟨b,0,none⟩) 2 2) 2 (bB [1,n2]):=own_lit j1 oM rfl dM;have k0:=v0.trans x0;have m0:=n0.grow x0;clear f1 z1 n0 x0 j1 v0;repeat refine aF ?_
  refine aX (S:=Value×Nat) (λ s=>[(7,.int .i64 (s.2:Int)),(6,s.1),(1,.pointer (some ⟨bk,0,none⟩))]) (λ s w2=>s.2≤n2∧w2.ownsRow w.heap.size 5 1 s.1 (1::n2::(nd.kids.take s.2).flatMap bS).length (bB (1::n2::(nd.kids.take s.2).flatMap bS))∧Blk w2 bk 79 [.slice a1 n1 c1,.slice a2 n2 c2,.slice a3 n3 c3]∧Grow w w2) (λ s=>n2-s.2) (.slice (some ⟨b,0,none⟩) 2 2,0) ⟨rfl,rfl,rfl,trivial⟩ ⟨Nat.zero_le _,h0,m0,k0⟩ ?_;clear h0 m0 k0;rintro ⟨u,i⟩ w2 ⟨hi,a0,g0,e0⟩;simp only at hi a0;have u0:=kds_len nd.kids i;have y1:(nd.kids.take i).length≤i:=by rw [List.length_take];omega
  have z2:=e0.size;have h1:=g0.lt;obtain ⟨Lx,p0⟩:∃ Lx,Lx=1::n2::(nd.kids.take i).flatMap bS:=⟨_,rfl⟩
  have y2:Lx.length≤1000:=by rw [p0];simp only [List.length_cons];omega
  by_cases q0:i<n2
  ·obtain ⟨y,hy⟩:∃ y,nd.kids[i]? = some y:=⟨_,List.getElem?_eq_getElem oM⟩
   have i3:=ok.kd i y hy;have g1:=jT hy;have e7:(1::n2::(nd.kids.take (i+1)).flatMap bS)=Lx++bS y:=by rw [p0,eA hy];simp
   rw [← p0] at a0;obtain ⟨ua,uc,rfl,b1⟩:=aN a0;repeat (first|(refine aH ?_;refine aC (j:=i) rfl rfl rfl q0 (Nat.mul_one _) ⟨F,_,r1.grow e0⟩ rfl ?_)|(refine aO ?_;refine aQ rfl ((r1.grow e0).row.cell g1) rfl ?_)|refine yC ?_)
   refine aB 173 ?_;refine aA rfl (rword_c _ ua uc y Lx _ b1 oM oM) rfl ?_;rintro v5 w5 ⟨f0,o0⟩;repeat refine aF ?_
   refine aE (v5,i+1) ⟨rfl,rfl,rfl,trivial⟩ ⟨q0,?_,g0.grow o0,e0.trans o0⟩ (by simp only;omega);simp only;rw [e7,List.length_append,lP];exact dX f0 z2
  obtain rfl:i=n2:=by omega
  rw [List.take_of_length_le oM] at p0;rw [List.take_of_length_le oM,← p0] at a0;have e8:1::i::(nd.kids.flatMap bS++nd.keys.flatMap bV)=Lx++nd.keys.flatMap bV:=by rw [p0];simp
  rw [e8];clear u0 y1;repeat refine aF ?_
  refine aX (S:=Value×Nat) (λ s=>[(8,.int .i64 (s.2:Int)),(6,s.1),(1,.pointer (some ⟨bk,0,none⟩))]) (λ s w2=>s.2≤n3∧w2.ownsRow w.heap.size 5 1 s.1 (Lx++(nd.keys.take s.2).flatMap bV).length (bB (Lx++(nd.keys.take s.2).flatMap bV))∧Blk w2 bk 79 [.slice a1 n1 c1,.slice a2 i c2,.slice a3 n3 c3]∧Grow w w2) (λ s=>n3-s.2) (u,0) ⟨rfl,rfl,rfl,trivial⟩ ⟨Nat.zero_le _,by simpa using a0,g0,e0⟩ ?_;clear a0 g0 e0 z2 h1;rintro ⟨u,j⟩ w2 ⟨hj,a0,g0,e0⟩;simp only at hj a0;have u0:=kys_len_le ok.ky j;have z2:=e0.size;by_cases q0:j<n3
  ·obtain ⟨y,hy⟩:∃ y,nd.keys[j]? = some y:=⟨_,List.getElem?_eq_getElem oM⟩
   obtain ⟨ka,kc,g1,s1⟩:=l0 j y hy;have h2:=(eB (ok.ky j y hy)).2;have e7:Lx++(nd.keys.take (j+1)).flatMap bV=Lx++(nd.keys.take j).flatMap bV++bV y:=by rw [eA hy];simp
   obtain ⟨Ly,e2⟩:∃ Ly,Ly=Lx++(nd.keys.take j).flatMap bV:=⟨_,rfl⟩
   have x2:Ly.length≤3000:=by rw [e2,List.length_append];omega
   rw [← e2] at a0 e7;obtain ⟨ua,uc,rfl,b1⟩:=aN a0;repeat (first|(refine aH ?_;refine aC (j:=j) rfl rfl rfl q0 (Nat.mul_one _) ⟨F,_,q1.grow e0⟩ rfl ?_)|(refine aO ?_;refine aQ rfl ((q1.grow e0).row.cell g1) rfl ?_)|refine yC ?_)
   refine aB 203 ?_;refine aA rfl (rblock_c _ F ua ka uc kc Ly y _ b1 (s1.grow e0) oM oM) rfl ?_;rintro v5 w5 ⟨f0,o0⟩;repeat refine aF ?_
   refine aE (v5,j+1) ⟨rfl,rfl,rfl,trivial⟩ ⟨q0,?_,g0.grow o0,e0.trans o0⟩ (by simp only;omega);simp only;rw [e7];exact dX f0 z2
  obtain rfl:j=n3:=by omega
  rw [List.take_of_length_le oM] at a0;repeat refine aF ?_
  exact eZ rfl rfl ⟨_,rfl,u,rfl,a0,e0⟩
theorem rfind_c (F G:Nat→Prop) (x:NV) (nd:Nd) (b:Option Addr) (m d:Nat) (key:Bs) (w:World) (h:NdAt F w x nd) (hk:Sl G w 1 b m d (bB key)) (k0:bE nd=true) (hl:bM nd=true) :
  Calls Tryz.prog 108 #[x.val,.slice b m d] w (Ret λ v w'=>v=.tuple #[.int .i64 (dP nd.items key:Int),.bool (fS nd.items key)]∧Grow w w'):=by
 have ok:=ndOk k0;have m0:=h.its.len;have l0:=bU h.kids;obtain ⟨cs,hs,a0⟩:=h.its.at';have e0:=λ w' (g:Grow w w')=>rcheck_c F x nd w' (h.go (Carry.grow g)) k0;obtain ⟨a1,n1,c1,a2,n2,c2,a3,n3,c3⟩:=x;simp only at m0 l0 hs a0;show Calls Tryz.prog 108 #[.agg #[.slice a1 n1 c1,.slice a2 n2 c2,.slice a3 n3 c3],.slice b m d] w _;replace e0:∀ w',Grow w w'→Calls Tryz.prog 164 #[.agg #[.slice a1 n1 c1,.slice a2 n2 c2,.slice a3 n3 c3]] w' (Ret λ v p0=>v=.int .i64 0∧Grow w' p0):=e0;have o1:=ok.n1;rw [← m0] at o1;have t0:n2=0:=by rw [l0,bL.1 hl];rfl
 refine V.calls (args:=[_,_]) Tryz.func108 rfl Tryz.ntmps108 rfl rfl ?_;repeat (first|(refine aB 164 ?_;refine aA rfl (e0 _ yG) rfl ?_;rintro _ _ ⟨rfl,g0⟩)|(refine aB 114 ?_;refine aA rfl (rleaf_c ⟨a1,n1,c1,a2,n2,c2,a3,n3,c3⟩ true _ (by simp only;rw [t0];rfl)) rfl ?_;rintro _ _ ⟨rfl,g0⟩)|refine yC ?_|refine yI λ bk w' hg o0 u0 q0=>?_)
 rename_i wz;have i0:Blk wz bk 79 [.slice a1 n1 c1,.slice a2 n2 c2,.slice a3 n3 c3]:=by exact yB
 have n0:Grow w wz:=by exact yG
 clear o0 hg g0;refine aX (S:=Nat) (λ i=>[(6,.int .i64 (i:Int)),(1,.slice b m d),(2,.pointer (some ⟨bk,0,none⟩))]) (λ i w1=>Blk w1 bk 79 [.slice a1 n1 c1,.slice a2 n2 c2,.slice a3 n3 c3]∧Grow w w1∧i≤n1∧∀ j y,j<i→nd.items[j]? = some y→eS y.1 key) (λ i=>n1-i) 0 ⟨rfl,rfl,rfl,trivial⟩ ⟨i0,n0,oM,λ j y hj=>by omega⟩ ?_;clear i0 n0;rintro i w1 ⟨o0,v0,hi,f0⟩;by_cases j0:i<n1;rotate_left
 ·have he:dP nd.items key=n1:=findN_eq (λ j y hj hy=>f0 j y oM hy) (λ y hy=>by rw [List.getElem?_eq_none oM] at hy;cases hy) oM;have ht:fS nd.items key=false:=by unfold fS;rw [he,List.getElem?_eq_none oM]
  obtain rfl:i=n1:=by omega
  rw [he,ht];repeat refine aF ?_
  exact eZ rfl rfl ⟨_,rfl,rfl,yG⟩
 obtain ⟨y,hy⟩:∃ y,nd.items[i]? = some y:=⟨_,List.getElem?_eq_getElem oM⟩
 obtain ⟨ka,kc,va,vc,g1,g2,s1,s2⟩:=a0 i y hy;by_cases hc:bY y.1 key<0
 ·repeat (first|(refine aH ?_;refine aC (j:=i) rfl rfl rfl j0 rfl ⟨F,_,hs.grow yG⟩ rfl ?_)|(refine bN ?_;refine bJ rfl (hs.grow yG) g1 rfl ?_)|(refine aO ?_;refine aQ rfl ((hs.grow yG).row.cell g1) rfl ?_)|(refine aB 140 ?_;refine aA rfl (fE _ _ _ _ _ _ _ _ _ _ _ (s1.grow yG) (hk.grow yG)) rfl ?_;rintro _ _ ⟨rfl,g0⟩)|refine yC ?_)
  exact aE (i+1) ⟨rfl,rfl,rfl,trivial⟩ ⟨yB,yG,oM,λ j z hj hz=>by
   by_cases s0:j=i
   ·subst s0;rw [hy] at hz;cases hz;exact hc
   ·exact f0 j z oM hz⟩ oM
 ·have he:dP nd.items key=i:=findN_eq f0 (λ z hz=>by rw [hy] at hz;cases hz;exact hc) oM;have ht:fS nd.items key=decide (bY y.1 key=0):=by unfold fS;rw [he,hy]
  rw [he,ht];by_cases h0:bY y.1 key=0
  ·rw [decide_eq_true h0];repeat (first|(refine aH ?_;refine aC (j:=i) rfl rfl rfl j0 rfl ⟨F,_,hs.grow yG⟩ rfl ?_)|(refine bN ?_;refine bJ rfl (hs.grow yG) g1 rfl ?_)|(refine aO ?_;refine aQ rfl ((hs.grow yG).row.cell g1) rfl ?_)|(refine aB 140 ?_;refine aA rfl (fE _ _ _ _ _ _ _ _ _ _ _ (s1.grow yG) (hk.grow yG)) rfl ?_;rintro _ _ ⟨rfl,g0⟩)|refine yC ?_)
   exact eZ rfl rfl ⟨_,rfl,rfl,yG⟩
  ·rw [decide_eq_false h0];repeat (first|(refine aH ?_;refine aC (j:=i) rfl rfl rfl j0 rfl ⟨F,_,hs.grow yG⟩ rfl ?_)|(refine bN ?_;refine bJ rfl (hs.grow yG) g1 rfl ?_)|(refine aO ?_;refine aQ rfl ((hs.grow yG).row.cell g1) rfl ?_)|(refine aB 140 ?_;refine aA rfl (fE _ _ _ _ _ _ _ _ _ _ _ (s1.grow yG) (hk.grow yG)) rfl ?_;rintro _ _ ⟨rfl,g0⟩)|refine yC ?_)
   exact eZ rfl rfl ⟨_,rfl,rfl,yG⟩
theorem rkid_c (F G:Nat→Prop) (x:NV) (nd:Nd) (b:Option Addr) (m d:Nat) (key:Bs) (w:World) (h:NdAt F w x nd) (hk:Sl G w 1 b m d (bB key)) (k0:bE nd=true) (hl:bM nd=false) :
  Calls Tryz.prog 115 #[x.val,.slice b m d] w (Ret λ v w'=>v=.int .i64 (gB nd.keys key:Int)∧Grow w w'):=by
 have ok:=ndOk k0;have j0:=bU h.kids;have l0:=h.kys.len;obtain ⟨cs,hs,a0⟩:=h.kys.at';have e0:=λ w' (g:Grow w w')=>rcheck_c F x nd w' (h.go (Carry.grow g)) k0;obtain ⟨a1,n1,c1,a2,n2,c2,a3,n3,c3⟩:=x;simp only at l0 j0 hs a0;show Calls Tryz.prog 115 #[.agg #[.slice a1 n1 c1,.slice a2 n2 c2,.slice a3 n3 c3],.slice b m d] w _;replace e0:∀ w',Grow w w'→Calls Tryz.prog 164 #[.agg #[.slice a1 n1 c1,.slice a2 n2 c2,.slice a3 n3 c3]] w' (Ret λ v p0=>v=.int .i64 0∧Grow w' p0):=e0;have o2:=ok.n2;have o5:=ok.n3;rw [← j0] at o2 o5;rw [← l0] at o5
 have i0:n2≠0:=by
  rw [j0];intro e;rw [bL.2 (List.eq_nil_of_length_eq_zero e)] at hl;cases hl
 refine V.calls (args:=[_,_]) Tryz.func115 rfl Tryz.ntmps115 rfl rfl ?_;repeat (first|(refine aB 164 ?_;refine aA rfl (e0 _ yG) rfl ?_;rintro _ _ ⟨rfl,h0⟩)|(refine aB 114 ?_;refine aA rfl (rleaf_c ⟨a1,n1,c1,a2,n2,c2,a3,n3,c3⟩ false _ (by simp [i0])) rfl ?_;rintro _ _ ⟨rfl,h0⟩)|refine yC ?_|refine yI λ bk w' hg o0 t0 q0=>?_)
 rename_i wz;have g0:Blk wz bk 79 [.slice a1 n1 c1,.slice a2 n2 c2,.slice a3 n3 c3]:=by exact yB
 have n0:Grow w wz:=by exact yG
 clear o0 hg h0;refine aX (S:=Nat) (λ i=>[(5,.int .i64 (i:Int)),(1,.slice b m d),(2,.pointer (some ⟨bk,0,none⟩))]) (λ i w1=>Blk w1 bk 79 [.slice a1 n1 c1,.slice a2 n2 c2,.slice a3 n3 c3]∧Grow w w1∧i≤n3∧∀ j y,j<i→nd.keys[j]? = some y→bY y key≤0) (λ i=>n3-i) 0 ⟨rfl,rfl,rfl,trivial⟩ ⟨g0,n0,oM,λ j y hj=>by omega⟩ ?_;clear g0 n0;rintro i w1 ⟨o0,u0,hi,f0⟩;by_cases m0:i<n3;rotate_left
 ·have he:gB nd.keys key=n3:=kidN_eq (λ j y hj hy=>f0 j y oM hy) (λ y hy=>by rw [List.getElem?_eq_none oM] at hy;cases hy) oM;obtain rfl:i=n3:=by omega
  rw [he];repeat refine aF ?_
  exact bA rfl ⟨_,rfl,rfl,yG⟩
 obtain ⟨y,hy⟩:∃ y,nd.keys[i]? = some y:=⟨_,List.getElem?_eq_getElem oM⟩
 obtain ⟨ka,kc,g1,s1⟩:=a0 i y hy;by_cases hc:bY y key≤0
 ·repeat (first|(refine aH ?_;refine aC (j:=i) rfl rfl rfl m0 (Nat.mul_one _) ⟨F,_,hs.grow yG⟩ rfl ?_)|(refine aO ?_;refine aQ rfl ((hs.grow yG).row.cell g1) rfl ?_)|(refine aB 140 ?_;refine aA rfl (fE _ _ _ _ _ _ _ _ _ _ _ (s1.grow yG) (hk.grow yG)) rfl ?_;rintro _ _ ⟨rfl,h0⟩)|refine yC ?_)
  exact aE (i+1) ⟨rfl,rfl,rfl,trivial⟩ ⟨yB,yG,oM,λ j z hj hz=>by
   by_cases s0:j=i
   ·subst s0;rw [hy] at hz;cases hz;exact hc
   ·exact f0 j z oM hz⟩ oM
 ·have he:gB nd.keys key=i:=kidN_eq f0 (λ z hz=>by rw [hy] at hz;cases hz;exact hc) oM;rw [he];repeat (first|(refine aH ?_;refine aC (j:=i) rfl rfl rfl m0 (Nat.mul_one _) ⟨F,_,hs.grow yG⟩ rfl ?_)|(refine aO ?_;refine aQ rfl ((hs.grow yG).row.cell g1) rfl ?_)|(refine aB 140 ?_;refine aA rfl (fE _ _ _ _ _ _ _ _ _ _ _ (s1.grow yG) (hk.grow yG)) rfl ?_;rintro _ _ ⟨rfl,h0⟩)|refine yC ?_)
  exact bA rfl ⟨_,rfl,rfl,yG⟩
end Go.Proofs.YtfpadnmdafiddaaGreatDoor
