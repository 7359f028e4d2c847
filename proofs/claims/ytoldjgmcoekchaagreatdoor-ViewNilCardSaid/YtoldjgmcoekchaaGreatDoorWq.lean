import Derived.Test.YtoldjgmcoekchaaGreatDoorWp
import Derived.Test.YtoldjgmcoekchaaGreatDoorWh
import Derived.Test.YtoldjgmcoekchaaGreatDoorWj
import Derived.Test.YtoldjgmcoekchaaGreatDoorWm
import Derived.Test.YtoldjgmcoekchaaGreatDoorWe
import Derived.Test.YtoldjgmcoekchaaGreatDoorWd
import Derived.Test.YtoldjgmcoekchaaGreatDoorWf
import Derived.ControlIn
import Derived.Test.YtoldjgmcoekchaaGreatDoorWg
import Derived.Test.YtoldjgmcoekchaaGreatDoorWn
set_option linter.all false
set_option maxHeartbeats 16000000
set_option maxRecDepth 100000
namespace Go.Proofs.YtoldjgmcoekchaaGreatDoor
open Go Go.RowKit Go.V
def psN (ws:List Nat):Nat→Nat
 | 0=>0
 | i+1=>psN ws i+gd ws i*2^offN i
def pvN (ws:List Nat) (i k:Nat):Nat:=psN ws i+gd ws i%2^k*2^offN i
theorem tight_at {ws:List Nat} (h:Tight ws) {i:Nat} (hi:i<10):gd ws i<2^bitsN i:=by
 obtain ⟨w0,w1,w2,w3,w4,w5,w6,w7,w8,w9,rfl⟩:=ten h.good.len
 unfold Tight at h
 obtain ⟨h0,h1,h2,h3,h4,h5,h6,h7,h8,h9⟩:=h
 obtain rfl|rfl|rfl|rfl|rfl|rfl|rfl|rfl|rfl|rfl:i=0∨i=1∨i=2∨i=3∨i=4∨i=5∨i=6∨i=7∨i=8∨i=9:=by omega
 ·exact h0
 ·exact h1
 ·exact h2
 ·exact h3
 ·exact h4
 ·exact h5
 ·exact h6
 ·exact h7
 ·exact h8
 ·exact h9
theorem fill_lt {x y a b:Nat} (hx:x<2^a) (hy:y<2^b):x+y*2^a<2^(a+b):=by
 have h1:y*2^a+2^a≤2^b*2^a:=by
  have:=Nat.mul_le_mul_right (2^a) (show y+1≤2^b from hy)
  rw [Nat.add_mul,Nat.one_mul] at this
  exact this
 rw [Nat.pow_add,Nat.mul_comm (2^a)]
 omega
theorem ps_lt {ws:List Nat} (h:Tight ws):∀ {i:Nat},i≤10→psN ws i<2^offN i
 | 0,_=>by unfold psN;exact Nat.two_pow_pos _
 | i+1,hi=>by
  unfold psN
  rw [offN_succ]
  exact fill_lt (ps_lt h (by omega)) (tight_at h (by omega))
theorem pv_lt {ws:List Nat} (h:Tight ws) {i:Nat} (hi:i<10) (k:Nat):pvN ws i k<2^(offN i+k) :=
 fill_lt (ps_lt h (by omega)) (Nat.mod_lt _ (Nat.two_pow_pos k))
theorem pv_bit {ws:List Nat} {i k b:Nat} (hb:gd ws i / 2^k%2=b):pvN ws i (k+1)=pvN ws i k+b*2^(offN i+k):=by
 unfold pvN
 rw [mod_bit,hb,Nat.add_mul,Nat.mul_assoc,← Nat.pow_add,Nat.add_comm k,Nat.add_assoc]
theorem pv_zero (ws:List Nat) (i:Nat):pvN ws i 0=psN ws i:=by unfold pvN;rw [Nat.pow_zero,Nat.mod_one,Nat.zero_mul,Nat.add_zero]
theorem pv_next {ws:List Nat} (h:Tight ws) {i:Nat} (hi:i<10):pvN ws i (bitsN i)=pvN ws (i+1) 0:=by
 rw [pv_zero]
 unfold pvN
 rw [Nat.mod_eq_of_lt (tight_at h hi)]
 rfl
theorem ps_val {ws:List Nat} (h:ws.length=10):psN ws 10=V10 ws:=by
 obtain ⟨w0,w1,w2,w3,w4,w5,w6,w7,w8,w9,rfl⟩:=ten h
 have:psN [w0,w1,w2,w3,w4,w5,w6,w7,w8,w9] 10=0+w0*1+w1*67108864+w2*2251799813685248+w3*151115727451828646838272+w4*5070602400912917605986812821504+w5*340282366920938463463374607431768211456+w6*11417981541647679048466287755595961091061972992+w7*766247770432944429179173513575154591809369561091801088+w8*25711008708143844408671393477458601640355247900524685364822016+w9*1725436586697640946858688965569256363112777243042596638790631055949824:=rfl
 rw [this]
 simp only [V10]
 omega
theorem below_first {V:Nat} (hV:V<57896044618658097711785492504343953926634992332820282019728792003956564819968) (h:byteN V 0<237):V<p25519:=by
 have:V / 1%256<237:=h
 unfold p25519;omega
theorem below_last {V:Nat} (hV:V<57896044618658097711785492504343953926634992332820282019728792003956564819968) (h:byteN V 31≠127):V<p25519:=by
 have:V / 452312848583266388373324160190187140051835877600158453279131187530910662656%256≠127:=h
 unfold p25519;omega
theorem all_ones:∀ i,i<31→1≤i→226156424291633194186662080095093570025917938800079226639565593765455331327 / 256^(i-1)%256=255:=by decide +kernel
theorem high_is {V i:Nat} (h1:p25519≤V) (h2:V<57896044618658097711785492504343953926634992332820282019728792003956564819968) (hi:1≤i) (hi2:i<31):byteN V i=255:=by
 have e:V / 256=226156424291633194186662080095093570025917938800079226639565593765455331327:=by unfold p25519 at h1;omega
 unfold byteN
 rw [show i=1+(i-1) by omega,Nat.pow_add,← Nat.div_div_eq_div_mul,show 256^1=256 from rfl,e]
 exact all_ones i hi2 hi
theorem below_mid {V i:Nat} (h2:V<57896044618658097711785492504343953926634992332820282019728792003956564819968) (hi:1≤i) (hi2:i<31) (h:byteN V i≠255):V<p25519:=by
 rcases Nat.lt_or_ge V p25519 with h1|h1
 ·exact h1
 ·exact absurd (high_is h1 h2 hi hi2) h
theorem div_256 (V i:Nat):V / 256^i=V / 256^(i+1)*256+byteN V i:=by
 unfold byteN
 rw [Nat.pow_succ,← Nat.div_div_eq_div_mul]
 omega
theorem all_in {V:Nat} (h2:V<57896044618658097711785492504343953926634992332820282019728792003956564819968) (h31:byteN V 31=127) (hm:∀ i,1≤i→i<31→byteN V i=255):V / 256=226156424291633194186662080095093570025917938800079226639565593765455331327:=by
 have key:∀ k,k≤30→V / 256^(31-k)=128*256^k-1:=by
  intro k
  induction k with
  | zero =>
   intro _
   have:V / 452312848583266388373324160190187140051835877600158453279131187530910662656%256=127:=h31
   show V / 452312848583266388373324160190187140051835877600158453279131187530910662656=127
   omega
  | succ k ih =>
   intro hk
   have h1:=ih (by omega)
   have h3:=div_256 V (31-(k+1))
   rw [show 31-(k+1)+1=31-k by omega,h1,hm _ (by omega) (by omega)] at h3
   rw [h3,Nat.pow_succ]
   have:0<256^k:=Nat.pow_pos (by decide)
   omega
 exact key 30 (by omega)
theorem above_all {V:Nat} (h2:V<57896044618658097711785492504343953926634992332820282019728792003956564819968) (h0:237≤byteN V 0) (h31:byteN V 31=127) (hm:∀ i,1≤i→i<31→byteN V i=255):V%p25519=byteN V 0-237:=by
 have e:=all_in h2 h31 hm
 have h3:byteN V 0=V%256:=by unfold byteN;rw [Nat.pow_zero,Nat.div_one]
 rw [h3] at h0 ⊢
 unfold p25519
 omega
theorem zeros_at (x:Nat):∀ {i:Nat},i<31→[B1 x,B1 0,B1 0,B1 0,B1 0,B1 0,B1 0,B1 0,B1 0,B1 0,B1 0,B1 0,B1 0,B1 0,B1 0,B1 0,B1 0,B1 0,B1 0,B1 0,B1 0,B1 0,B1 0,B1 0,B1 0,B1 0,B1 0,B1 0,B1 0,B1 0,B1 0,B1 0][i+1]? = some (B1 0)
 | 0,_=>rfl
 | 1,_=>rfl
 | 2,_=>rfl
 | 3,_=>rfl
 | 4,_=>rfl
 | 5,_=>rfl
 | 6,_=>rfl
 | 7,_=>rfl
 | 8,_=>rfl
 | 9,_=>rfl
 | 10,_=>rfl
 | 11,_=>rfl
 | 12,_=>rfl
 | 13,_=>rfl
 | 14,_=>rfl
 | 15,_=>rfl
 | 16,_=>rfl
 | 17,_=>rfl
 | 18,_=>rfl
 | 19,_=>rfl
 | 20,_=>rfl
 | 21,_=>rfl
 | 22,_=>rfl
 | 23,_=>rfl
 | 24,_=>rfl
 | 25,_=>rfl
 | 26,_=>rfl
 | 27,_=>rfl
 | 28,_=>rfl
 | 29,_=>rfl
 | 30,_=>rfl
 | _+31,h=>absurd h (by omega)
theorem numL_small {x:Nat} (h:x<256):[B1 x,B1 0,B1 0,B1 0,B1 0,B1 0,B1 0,B1 0,B1 0,B1 0,B1 0,B1 0,B1 0,B1 0,B1 0,B1 0,B1 0,B1 0,B1 0,B1 0,B1 0,B1 0,B1 0,B1 0,B1 0,B1 0,B1 0,B1 0,B1 0,B1 0,B1 0,B1 0]=numL x:=numL_ext rfl λ i hi=>by
 have hx:byteN x 0=x:=by unfold byteN;rw [Nat.pow_zero,Nat.div_one,Nat.mod_eq_of_lt h]
 rcases i with _|i
 ·rw [hx];rfl
 ·have hz:byteN x (i+1)=0:=by unfold byteN;rw [Nat.pow_succ,Nat.mul_comm,← Nat.div_div_eq_div_mul,Nat.div_eq_of_lt h,Nat.zero_div]
  rw [hz]
  have hi':i<31:=by omega
  clear hi hz hx h
  exact zeros_at x hi'
theorem close_c (us:List Nat) (hgood:Good us) (w:World) :
  Calls Tryz.prog 318 #[tenV us] w (Ret λ v w'=>v=num (V10 us%p25519)∧Grow w w'):=by
 refine V.calls (args:=[_]) Tryz.func318 rfl Tryz.ntmps318 rfl rfl ?_
 obtain ⟨hws,hval⟩:=carry4 hgood
 have q0:=hgood.len
 have q1:=good_tight hgood
 have q2:=good_tight q1.good
 have q3:=good_tight q2.good
 have g0:=bd_good (B:=67109120) (by decide) hgood.gd
 have g1:=bd_good (B:=67109120) (by decide) q1.good.gd
 have g2:=bd_good (B:=67109120) (by decide) q2.good.gd
 have g3:=bd_good (B:=67109120) (by decide) q3.good.gd
 have y0:(wL us).length=10:=by rw [wL_len,q0]
 generalize hws':carryL (carryL (carryL (carryL us)))=ws at hws hval
 have y4:(wL ws).length=10:=by rw [wL_len,hws.good.len]
 rw [← hval]
 refine T.cutAt 4 (λ e v=>∃ b1 b2 b3,Sub [(4,.int .i64 0),(1,.pointer (some ⟨b1,0,none⟩)),(2,.pointer (some ⟨b2,0,none⟩)),(3,.pointer (some ⟨b3,0,none⟩))] e∧Blk v b1 391 (wL ws)∧Blk v b2 269 (numL 0)∧Blk v b3 269 (numL 0)∧w.heap.size≤b1∧w.heap.size≤b2∧w.heap.size≤b3∧b1≠b2∧b1≠b3∧b2≠b3∧Grow w v) ?_ ?_
 rotate_left
 ·repeat (first|refine TL.nil ?_|refine T.region ?_|(refine TL.isBox ?_;(refine TL.boxA rfl rfl ?_;intro bk w' hg hbk hsz hsz'))|(refine TL.isAlloc ?_;(refine TL.alloc rfl rfl ?_;intro bk w' hg hbk hsz hsz'))|refine uptoQ_normal ?_|refine upto_seq ?_|(refine TL.isLoad ?_;refine TL.loadW rfl yB (by rw [y0];rfl) rfl ?_))
  rename_i b1 w1 gg1 k1 s1 t1
  obtain ⟨b2,rfl⟩:∃ b,b=bk:=⟨_,rfl⟩
  have k2:Blk w' b2 269 (numL 0):=hbk
  have hne:b1≠b2:=by omega
  have hw1:w.heap.size≤b1:=by omega
  have hw2:w.heap.size≤b2:=by have:=gg1.2;omega
  have hb2:b2<w'.heap.size:=by omega
  clear hbk hsz hsz' s1 t1
  refine TL.call rfl (carry_c _ q0 g0 _) rfl ?_
  rintro _ _ ⟨rfl,ha1⟩
  refine TL.call rfl (carry_c _ q1.good.len g1 _) rfl ?_
  rintro _ _ ⟨rfl,ha2⟩
  refine TL.call rfl (carry_c _ q2.good.len g2 _) rfl ?_
  rintro _ _ ⟨rfl,ha3⟩
  refine TL.call rfl (carry_c _ q3.good.len g3 _) rfl ?_
  rintro _ v4 ⟨rfl,ha4⟩
  rw [hws']
  have hs4:w'.heap.size≤v4.heap.size:=by have:=ha1.2;have:=ha2.2;have:=ha3.2;have:=ha4.2;omega
  have k2':Blk v4 b2 269 (numL 0):=by exact yB
  have k1':Blk v4 b1 391 (wL us):=by exact yB
  have kG:Grow w v4:=by exact yG
  clear k1 k2 gg1 hg ha1 ha2 ha3 ha4
  have l1:=k1'.lt
  repeat (first|(refine TL.isAsg ?_;refine TL.pure rfl rfl ?_)|refine TL.nil ?_|refine T.region ?_|(refine TL.isAlloc ?_;(refine TL.alloc rfl rfl ?_;intro bk w' hg hbk hsz hsz'))|refine uptoQ_normal ?_|refine upto_seq ?_|refine upto_end ?_|(refine TL.isStore ?_;refine TL.storeWh rfl rfl yB (by rw [y4];rfl) (by rw [y0];rfl) (wL_one _) ?_;intro w' hu hbk hsz))
  have k3:Blk w' bk 269 (numL 0):=hbk
  clear hbk
  exact ⟨b1,b2,bk,⟨rfl,rfl,rfl,rfl,trivial⟩,yB,yB,k3,hw1,hw2,by omega,hne,by omega,by omega,yG⟩
 rintro e w1 ⟨b1,b2,b3,hsub,m1,m2,m3,hw1,hw2,hw3,ne12,ne13,ne23,hG⟩
 refine T.weaken (e':=[(4,_),(1,_),(2,_),(3,_)]) ?_ hsub
 clear hsub q0 q1 q2 q3 g0 g1 g2 g3 y0 hws' hval
 have hlt255:=tight_lt hws
 refine T.cutAt 1 (λ e v=>Sub [(1,.pointer (some ⟨b1,0,none⟩)),(2,.pointer (some ⟨b2,0,none⟩)),(3,.pointer (some ⟨b3,0,none⟩))] e∧Blk v b1 391 (wL ws)∧Blk v b2 269 (numL 0)∧Blk v b3 269 (numL (V10 ws))∧Grow w v) ?_ ?_
 rotate_left
 ·repeat (first|(refine TL.isAsg ?_;refine TL.pure rfl rfl ?_)|refine TL.nil ?_|refine thenQ_normal ?_|refine T.seq ?_|refine T.region ?_|refine T.block ?_|refine upto_seq ?_)
  refine T.loop (S:=Nat) (λ i=>[(5,.int .i64 (i:Int)),(4,.int .i64 (offN i:Int)),(1,.pointer (some ⟨b1,0,none⟩)),(2,.pointer (some ⟨b2,0,none⟩)),(3,.pointer (some ⟨b3,0,none⟩))])
   (λ i v=>i≤10∧Blk v b1 391 (wL ws)∧Blk v b2 269 (numL 0)∧Blk v b3 269 (numL (pvN ws i 0))∧Grow w v) (λ i=>10-i) 0 ⟨rfl,rfl,rfl,rfl,rfl,trivial⟩
   ⟨by omega,m1,m2,by rw [pv_zero];exact m3,hG⟩ ?_
  clear m1 m2 m3 hG w1
  rintro i w1 ⟨hi,m1,m2,m3,hG⟩
  have n1:=m1.lt
  have n2:=m2.lt
  have n3:=m3.lt
  rcases Nat.lt_or_ge i 10 with hlt|hge
  ·have hbl:=bitsN_le i
   have hto:offN i+bitsN i≤255:=by
    have:offN (i+1)≤offN 10:=by unfold offN;omega
    rw [offN_succ] at this
    exact this
   have hwi:=tight_at hws hlt
   have hwi2:2^bitsN i≤2^26:=Nat.pow_le_pow_right (by decide) (by omega)
   repeat (first|(refine TL.isMove ?_;refine TL.pure rfl rfl ?_)|(refine TL.isAsg ?_;refine TL.pure rfl rfl ?_)|refine TL.nil ?_|refine thenQ_normal ?_|refine T.seq ?_|refine T.region ?_|refine T.block ?_|(refine TL.isBin ?_;refine TL.pureT rfl yD rfl ?_)|refine T.cond_true rfl ?_|refine T.skip ?_)
   refine T.loop (S:=Nat) (λ k=>[(6,.int .i64 (k:Int)),(5,.int .i64 (i:Int)),(4,.int .i64 (offN i:Int)),(1,.pointer (some ⟨b1,0,none⟩)),(2,.pointer (some ⟨b2,0,none⟩)),(3,.pointer (some ⟨b3,0,none⟩))])
    (λ k v=>k≤bitsN i∧Blk v b1 391 (wL ws)∧Blk v b2 269 (numL 0)∧Blk v b3 269 (numL (pvN ws i k))∧Grow w v) (λ k=>bitsN i-k) 0 ⟨rfl,rfl,rfl,rfl,rfl,rfl,trivial⟩
    ⟨by omega,m1,m2,m3,hG⟩ ?_
   clear m1 m2 m3 hG n1 n2 n3 w1
   rintro k w1 ⟨hk,m1,m2,m3,hG⟩
   have n1:=m1.lt
   have n2:=m2.lt
   have n3:=m3.lt
   have hwl:ws.length=10:=hws.good.len
   rcases Nat.lt_or_ge k (bitsN i) with hkl|hkl
   ·rcases Nat.mod_two_eq_zero_or_one (gd ws i / 2^k) with hb|hb
    ·have hpb:=pv_bit (ws:=ws) (i:=i) hb
     simp only [Nat.zero_mul,Nat.add_zero] at hpb
     rw [← hpb] at m3
     repeat (first|(refine TL.isMove ?_;refine TL.pure rfl rfl ?_)|(refine TL.isAsg ?_;refine TL.pure rfl rfl ?_)|(refine TL.isIndex ?_;refine TL.indexA1 rfl rfl (by omega) rfl ?_)|(refine TL.isAdd ?_;refine TL.addN rfl rfl (by omega) rfl ?_)|refine TL.nil ?_|refine thenQ_normal ?_|refine T.seq ?_|refine T.region ?_|refine T.block ?_|refine blockQ_normal ?_|(refine TL.isShr ?_;refine TL.shrS rfl rfl (by (simp only [IntKind.bits];omega)) rfl ?_)|(refine TL.isRem ?_;refine TL.remU rfl rfl (by omega) rfl ?_)|(refine TL.isBin ?_;first|refine TL.pureT rfl yD rfl ?_|refine TL.pureF rfl yD rfl ?_)|(refine TL.isConv ?_;first|refine TL.convU rfl rfl (by omega) rfl ?_|refine TL.convN rfl (by omega) rfl ?_)|refine T.cond_true rfl ?_|refine T.cond_false rfl ?_|refine T.skip ?_|(refine TL.isFn 370 ?_;refine TL.call rfl (bits_c i (by omega) _) rfl ?_;rintro _ _ ⟨rfl,rfl⟩)|(refine TL.isLoad ?_;refine TL.load1 rfl (Blk.cell yB (wL_at (by omega))) rfl ?_))
     exact loopQ_normal (k+1) ⟨rfl,rfl,rfl,rfl,rfl,rfl,trivial⟩ ⟨by omega,yB,yB,yB,yG⟩ (by omega)
    ·have hpb:=pv_bit (ws:=ws) (i:=i) hb
     rw [Nat.one_mul] at hpb
     have hpl:=pv_lt hws hlt k
     have hs:=put_small hpl
     have h2:=pow8_lt (Nat.mod_lt (offN i+k) (show 0<8 by decide))
     have h3:1*2^((offN i+k)%8)<256:=by omega
     repeat (first|(refine TL.isMove ?_;refine TL.pure rfl rfl ?_)|(refine TL.isIndex ?_;refine TL.indexA1 rfl rfl (by omega) rfl ?_)|(refine TL.isAdd ?_;first|refine TL.addN rfl rfl (by omega) rfl ?_|refine TL.addU rfl rfl rfl (by omega) rfl ?_)|refine TL.nil ?_|refine thenQ_normal ?_|refine T.seq ?_|refine T.region ?_|refine T.block ?_|(refine TL.isShl ?_;refine TL.shlS rfl rfl rfl (by (simp only [IntKind.bits];omega)) (by omega) rfl ?_)|(refine TL.isShr ?_;refine TL.shrS rfl rfl (by (simp only [IntKind.bits];omega)) rfl ?_)|(refine TL.isRem ?_;refine TL.remU rfl rfl (by omega) rfl ?_)|(refine TL.isQuo ?_;refine TL.quoN rfl rfl (by omega) (by omega) rfl ?_)|(refine TL.isBin ?_;refine TL.pureT rfl yD rfl ?_)|(refine TL.isConv ?_;first|refine TL.convU rfl rfl (by omega) rfl ?_|refine TL.convN rfl (by omega) rfl ?_)|refine T.cond_true rfl ?_|refine T.skip ?_|(refine TL.isFn 370 ?_;refine TL.call rfl (bits_c i (by omega) _) rfl ?_;rintro _ _ ⟨rfl,rfl⟩)|(refine TL.isLoad ?_;first|refine TL.load1 rfl (Blk.cell yB (wL_at (by omega))) rfl ?_|refine TL.load1 rfl (Blk.cell yB (numL_at (by omega))) rfl ?_))
     refine TL.storeS rfl rfl yB (by exact rfl) (by rw [numL_len];omega) ?_
     intro w3 hu3 hbk3 hsz3
     rw [Nat.one_mul,put_bit (by omega) hpl,← hpb] at hbk3
     repeat (first|(refine TL.isMove ?_;refine TL.pure rfl rfl ?_)|(refine TL.isAsg ?_;refine TL.pure rfl rfl ?_)|(refine TL.isAdd ?_;refine TL.addN rfl rfl (by omega) rfl ?_)|refine TL.nil ?_|refine thenQ_normal ?_|refine T.region ?_|refine blockQ_normal ?_)
     exact loopQ_normal (k+1) ⟨rfl,rfl,rfl,rfl,rfl,rfl,trivial⟩ ⟨by omega,yB,yB,hbk3,yG⟩ (by omega)
   ·obtain rfl:k=bitsN i:=by omega
    rw [pv_next hws hlt] at m3
    repeat (first|(refine TL.isMove ?_;refine TL.pure rfl rfl ?_)|(refine TL.isAsg ?_;refine TL.pure rfl rfl ?_)|(refine TL.isAdd ?_;refine TL.addN rfl rfl (by omega) rfl ?_)|refine TL.nil ?_|refine thenQ_normal ?_|refine T.seq ?_|refine T.region ?_|refine blockQ_normal ?_|(refine TL.isBin ?_;refine TL.pureF rfl yD rfl ?_)|(refine TL.isConv ?_;refine TL.convN rfl (by omega) rfl ?_)|refine T.cond_false rfl ?_|refine T.exit ?_|refine thenQ_exit ?_|refine blockQ_hit ?_|refine loopQ_exit ?_|(refine TL.isFn 370 ?_;refine TL.call rfl (bits_c i (by omega) _) rfl ?_;rintro _ _ ⟨rfl,rfl⟩))
    exact loopQ_normal (i+1) ⟨rfl,by rw [offN_succ];rfl,rfl,rfl,rfl,trivial⟩ ⟨by omega,yB,yB,yB,yG⟩ (by omega)
  ·obtain rfl:i=10:=by omega
   rw [pv_zero,ps_val hws.good.len] at m3
   repeat (first|(refine TL.isMove ?_;refine TL.pure rfl rfl ?_)|refine TL.nil ?_|refine thenQ_normal ?_|refine T.seq ?_|refine T.region ?_|(refine TL.isBin ?_;refine TL.pureF rfl yD rfl ?_)|refine T.cond_false rfl ?_|refine T.exit ?_|refine thenQ_exit ?_|refine blockQ_hit ?_|refine loopQ_exit ?_|refine uptoQ_normal ?_|refine upto_end ?_)
   exact ⟨⟨rfl,rfl,rfl,trivial⟩,yB,yB,yB,yG⟩
 clear m1 m2 m3 hG w1
 rintro e w1 ⟨hsub,m1,m2,m3,hG⟩
 refine T.weaken (e':=[(1,_),(2,_),(3,_)]) ?_ hsub
 clear hsub
 generalize V10 ws=V at *
 have n1:=m1.lt
 have n2:=m2.lt
 have n3:=m3.lt
 have e0:q0 V%256=byteN V 0:=by show q0 V%256=V / 1%256;unfold q0;omega
 have e31:q3 V / 72057594037927936%256=byteN V 31:=by show q3 V / 72057594037927936%256=V / 452312848583266388373324160190187140051835877600158453279131187530910662656%256;unfold q3;omega
 have hb0:=byteN_lt V 0
 rcases Nat.lt_or_ge (byteN V 0) 237 with h0|h0
 ·have hV:=below_first hlt255 h0
  rw [Nat.mod_eq_of_lt hV]
  repeat (first|refine TL.guard_skip rfl rfl rfl ?_|(refine TL.isMove ?_;refine TL.pure rfl rfl ?_)|(refine TL.isLoad ?_;first|refine TL.load1 rfl yM rfl ?_|refine TL.loadW rfl yB (by exact rfl) rfl ?_)|(refine TL.isIndex ?_;refine TL.indexA1 rfl rfl (by omega) rfl ?_)|refine TL.nil ?_|refine thenQ_normal ?_|refine T.seq ?_|refine T.region ?_|(refine TL.isBin ?_;refine TL.pureT rfl yD rfl ?_)|(refine TL.isStore ?_;(refine TL.storeWh rfl rfl yB (by exact rfl) (by exact rfl) (by exact rfl) ?_;intro w' hu hbk hsz))|refine T.cond_true rfl ?_|refine T.ret ?_|refine thenQ_ret ?_|refine TL.pure rfl rfl ?_)
  exact retC rfl (load_whole (by assumption) rfl) ⟨_,rfl,rfl,yG⟩
 by_cases h31:byteN V 31=127
 rotate_left
 ·have hV:=below_last hlt255 h31
  rw [Nat.mod_eq_of_lt hV]
  repeat (first|refine TL.guard_run rfl rfl rfl ?_|(refine TL.isMove ?_;refine TL.pure rfl rfl ?_)|(refine TL.isLoad ?_;first|refine TL.load1 rfl yM rfl ?_|refine TL.loadW rfl yB (by exact rfl) rfl ?_)|(refine TL.isIndex ?_;refine TL.indexA1 rfl rfl (by omega) rfl ?_)|refine TL.nil ?_|refine thenQ_normal ?_|refine T.seq ?_|refine T.region ?_|(refine TL.isBin ?_;first|refine TL.pureT rfl yD rfl ?_|refine TL.pureF rfl yD rfl ?_)|(refine TL.isStore ?_;(refine TL.storeWh rfl rfl yB (by exact rfl) (by exact rfl) (by exact rfl) ?_;intro w' hu hbk hsz))|refine T.cond_true rfl ?_|refine T.ret ?_|refine thenQ_ret ?_|refine TL.pure rfl rfl ?_)
  exact retC rfl (load_whole (by assumption) rfl) ⟨_,rfl,rfl,yG⟩
 repeat (first|refine TL.guard_run rfl rfl rfl ?_|(refine TL.isMove ?_;refine TL.pure rfl rfl ?_)|(refine TL.isAsg ?_;refine TL.pure rfl rfl ?_)|refine TL.load1 rfl yM rfl ?_|(refine TL.isIndex ?_;refine TL.indexA1 rfl rfl (by omega) rfl ?_)|refine TL.nil ?_|refine thenQ_normal ?_|refine T.seq ?_|refine T.region ?_|refine T.block ?_|(refine TL.isBin ?_;refine TL.pureF rfl yD rfl ?_)|refine T.cond_false rfl ?_|refine T.skip ?_|refine TL.pure rfl rfl ?_)
 refine T.loop (S:=Nat) (λ i=>[(7,.int .i64 (i:Int)),(1,.pointer (some ⟨b1,0,none⟩)),(2,.pointer (some ⟨b2,0,none⟩)),(3,.pointer (some ⟨b3,0,none⟩))])
  (λ i v=>(1≤i∧i≤31∧∀ j,1≤j→j<i→byteN V j=255)∧Blk v b1 391 (wL ws)∧Blk v b2 269 (numL 0)∧Blk v b3 269 (numL V)∧Grow w v) (λ i=>31-i) 1 ⟨rfl,rfl,rfl,rfl,trivial⟩
  ⟨⟨by omega,by omega,λ j h1 h2=>by omega⟩,m1,m2,m3,hG⟩ ?_
 clear m1 m2 m3 hG n1 n2 n3 w1
 rintro i w1 ⟨⟨hi1,hi2,hall⟩,m1,m2,m3,hG⟩
 have n1:=m1.lt
 have n2:=m2.lt
 have n3:=m3.lt
 rcases Nat.lt_or_ge i 31 with hlt|hge
 ·by_cases hb:byteN V i=255
  ·repeat (first|(refine TL.isMove ?_;refine TL.pure rfl rfl ?_)|(refine TL.isAsg ?_;refine TL.pure rfl rfl ?_)|(refine TL.isIndex ?_;refine TL.indexA1 rfl rfl (by omega) rfl ?_)|(refine TL.isAdd ?_;refine TL.addN rfl rfl (by omega) rfl ?_)|refine TL.nil ?_|refine thenQ_normal ?_|refine T.seq ?_|refine T.region ?_|refine T.block ?_|refine blockQ_normal ?_|(refine TL.isBin ?_;first|refine TL.pureT rfl yD rfl ?_|refine TL.pureF rfl yD rfl ?_)|refine T.cond_true rfl ?_|refine T.cond_false rfl ?_|refine T.skip ?_|(refine TL.isLoad ?_;refine TL.load1 rfl (Blk.cell yB (numL_at (by omega))) rfl ?_))
   exact loopQ_normal (i+1) ⟨rfl,rfl,rfl,rfl,trivial⟩ ⟨⟨by omega,by omega,λ j h1 h2=>by
    by_cases hj:j=i
    ·rw [hj];exact hb
    ·exact hall j h1 (by omega)⟩,yB,yB,yB,yG⟩ (by omega)
  ·have hV:=below_mid hlt255 hi1 hlt hb
   rw [Nat.mod_eq_of_lt hV]
   repeat (first|(refine TL.isMove ?_;refine TL.pure rfl rfl ?_)|(refine TL.isLoad ?_;refine TL.loadW rfl yB (by exact rfl) rfl ?_)|(refine TL.isIndex ?_;refine TL.indexA1 rfl rfl (by omega) rfl ?_)|refine TL.nil ?_|refine thenQ_normal ?_|refine T.seq ?_|refine T.region ?_|refine T.block ?_|(refine TL.isBin ?_;refine TL.pureT rfl yD rfl ?_)|(refine TL.isStore ?_;(refine TL.storeWh rfl rfl yB (by exact rfl) (by exact rfl) (by exact rfl) ?_;intro w' hu hbk hsz))|refine T.cond_true rfl ?_|refine T.ret ?_|refine T.skip ?_|refine thenQ_ret ?_|refine blockQ_ret ?_|refine loopQ_ret ?_|(refine TL.isLoad ?_;refine TL.load1 rfl (Blk.cell yB (numL_at (by omega))) rfl ?_))
   exact retC rfl (load_whole (by assumption) rfl) ⟨_,rfl,rfl,yG⟩
 ·obtain rfl:i=31:=by omega
  have hm:=above_all hlt255 h0 h31 hall
  rw [hm,← e0]
  rw [← e0] at h0 hb0
  repeat (first|(refine TL.isMove ?_;refine TL.pure rfl rfl ?_)|refine TL.load1 rfl yM rfl ?_|(refine TL.isIndex ?_;refine TL.indexA1 rfl rfl (by omega) rfl ?_)|(refine TL.isSub ?_;refine TL.subU rfl rfl rfl (by omega) (by omega) rfl ?_)|refine TL.nil ?_|refine thenQ_normal ?_|refine T.seq ?_|refine T.region ?_|(refine TL.isBin ?_;refine TL.pureF rfl yD rfl ?_)|(refine TL.isStore ?_;(refine TL.storeWh rfl rfl yB (by exact rfl) (by exact rfl) (by exact rfl) ?_;intro w' hu hbk hsz))|refine TL.buildArr rfl rfl rfl ?_|refine T.cond_false rfl ?_|refine T.ret ?_|refine T.exit ?_|refine thenQ_exit ?_|refine blockQ_hit ?_|refine loopQ_exit ?_)
  exact retC rfl (load_whole (by assumption) rfl) ⟨_,rfl,congrArg (λ l:List Value=>Value.agg l.toArray) (numL_small (by omega)),yG⟩
end Go.Proofs.YtoldjgmcoekchaaGreatDoor
namespace Go.Proofs.YtoldjgmcoekchaaGreatDoor
open Go Go.V
def Rep (ws:List Nat) (A:Nat):Prop:=Good ws∧V10 ws%p25519=A%p25519
def updL (xs zs:List Nat) (i:Nat):List Nat:=(List.range 10).map λ j=>if j<i then gd zs j else gd xs j
theorem updL_len (xs zs:List Nat) (i:Nat):(updL xs zs i).length=10:=by unfold updL;simp
theorem updL_gd (xs zs:List Nat) (i:Nat) {j:Nat} (hj:j<10):gd (updL xs zs i) j=if j<i then gd zs j else gd xs j:=by
 unfold gd updL
 rw [List.getD_eq_getElem?_getD,List.getElem?_map,List.getElem?_range hj]
 rfl
theorem updL_0 {xs zs:List Nat} (h:xs.length=10):updL xs zs 0=xs:=ten_ext (updL_len _ _ _) h λ j hj=>by rw [updL_gd _ _ _ hj,if_neg (by omega)]
theorem updL_10 {xs zs:List Nat} (h:zs.length=10):updL xs zs 10=zs:=ten_ext (updL_len _ _ _) h λ j hj=>by rw [updL_gd _ _ _ hj,if_pos hj]
theorem updL_at (xs zs:List Nat) {i:Nat} (hi:i<10):gd (updL xs zs i) i=gd xs i:=by rw [updL_gd _ _ _ hi,if_neg (by omega)]
theorem updL_set (xs zs:List Nat) {i:Nat} (hi:i<10):(updL xs zs i).set i (gd zs i)=updL xs zs (i+1):=by
 refine ten_ext (by simp [updL_len]) (updL_len _ _ _) λ j hj=>?_
 rw [gd_set (by rw [updL_len];exact hi),updL_gd _ _ _ hj,updL_gd _ _ _ hj]
 by_cases h:j=i
 ·subst h;rw [if_pos rfl,if_pos (by omega)]
 ·rw [if_neg h]
  by_cases h2:j<i
  ·rw [if_pos h2,if_pos (by omega)]
  ·rw [if_neg h2,if_neg (by omega)]
def mapL (f:Nat→Nat):List Nat:=(List.range 10).map f
theorem mapL_len (f:Nat→Nat):(mapL f).length=10:=by unfold mapL;simp
theorem mapL_gd (f:Nat→Nat) {j:Nat} (hj:j<10):gd (mapL f) j=f j:=by
 unfold gd mapL
 rw [List.getD_eq_getElem?_getD,List.getElem?_map,List.getElem?_range hj]
 rfl
theorem gd_ge {ws:List Nat} {i:Nat} (h:ws.length≤i):gd ws i=0:=by
 unfold gd;rw [List.getD_eq_getElem?_getD,List.getElem?_eq_none h];rfl
def addW (xs ys:List Nat):List Nat:=mapL λ j=>gd xs j+gd ys j
def pj (j:Nat):Nat:=if j=0 then 67108845 else 2^bitsN j-1
def subW (xs ys:List Nat):List Nat:=mapL λ j=>gd xs j+4*pj j-gd ys j
def plusW (xs ys:List Nat):List Nat:=carryL (addW xs ys)
def minusW (xs ys:List Nat):List Nat:=carryL (subW xs ys)
theorem addW_lt {xs ys:List Nat} (hx:Good xs) (hy:Good ys) (i:Nat):gd (addW xs ys) i<268435456:=by
 rcases Nat.lt_or_ge i 10 with hi|hi
 ·unfold addW;rw [mapL_gd _ hi]
  have:=hx.gd i;have:=hy.gd i;omega
 ·rw [gd_ge (by unfold addW;rw [mapL_len];exact hi)];decide
theorem pj_le (j:Nat):pj j≤67108863∧33554431≤pj j:=by
 unfold pj
 split
 ·omega
 ·rcases pow_bits j with h|h<;>rw [h]<;>omega
theorem sub_ok {ys:List Nat} (hy:Good ys) (j:Nat):gd ys j≤4*pj j:=by have:=hy.gd j;have:=pj_le j;omega
theorem subW_lt {xs ys:List Nat} (hx:Good xs) (hy:Good ys) (i:Nat):gd (subW xs ys) i<402653184:=by
 rcases Nat.lt_or_ge i 10 with hi|hi
 ·unfold subW;rw [mapL_gd _ hi]
  have:=hx.gd i;have:=hy.gd i;have:=pj_le i;omega
 ·rw [gd_ge (by unfold subW;rw [mapL_len];exact hi)];decide
theorem addW_val {xs ys:List Nat} (hx:xs.length=10) (hy:ys.length=10):V10 (addW xs ys)=V10 xs+V10 ys:=by
 obtain ⟨x0,x1,x2,x3,x4,x5,x6,x7,x8,x9,rfl⟩:=ten hx
 obtain ⟨y0,y1,y2,y3,y4,y5,y6,y7,y8,y9,rfl⟩:=ten hy
 have:addW [x0,x1,x2,x3,x4,x5,x6,x7,x8,x9] [y0,y1,y2,y3,y4,y5,y6,y7,y8,y9]=[x0+y0,x1+y1,x2+y2,x3+y3,x4+y4,x5+y5,x6+y6,x7+y7,x8+y8,x9+y9]:=rfl
 rw [this];simp only [V10];omega
theorem subW_val {xs ys:List Nat} (hx:Good xs) (hy:Good ys):V10 (subW xs ys)+V10 ys=V10 xs+p25519*4:=by
 have l:=hx.len
 have m:=hy.len
 obtain ⟨x0,x1,x2,x3,x4,x5,x6,x7,x8,x9,rfl⟩:=ten l
 obtain ⟨y0,y1,y2,y3,y4,y5,y6,y7,y8,y9,rfl⟩:=ten m
 have:subW [x0,x1,x2,x3,x4,x5,x6,x7,x8,x9] [y0,y1,y2,y3,y4,y5,y6,y7,y8,y9]=[x0+268435380-y0,x1+134217724-y1,x2+268435452-y2,x3+134217724-y3,x4+268435452-y4,x5+134217724-y5,x6+268435452-y6,x7+134217724-y7,x8+268435452-y8,x9+134217724-y9]:=rfl
 rw [this];simp only [V10];unfold p25519
 unfold Good at hy
 obtain ⟨h0,h1,h2,h3,h4,h5,h6,h7,h8,h9⟩:=hy
 clear l m hx this
 have k:∀ {x c y:Nat},y<c→∃ z,x+c-y=z∧z+y=x+c:=λ h=>⟨_,rfl,by omega⟩
 obtain ⟨z0,e0,f0⟩:=k (x:=x0) (c:=268435380) (y:=y0) (by omega)
 obtain ⟨z1,e1,f1⟩:=k (x:=x1) (c:=134217724) (y:=y1) (by omega)
 obtain ⟨z2,e2,f2⟩:=k (x:=x2) (c:=268435452) (y:=y2) (by omega)
 obtain ⟨z3,e3,f3⟩:=k (x:=x3) (c:=134217724) (y:=y3) (by omega)
 obtain ⟨z4,e4,f4⟩:=k (x:=x4) (c:=268435452) (y:=y4) (by omega)
 obtain ⟨z5,e5,f5⟩:=k (x:=x5) (c:=134217724) (y:=y5) (by omega)
 obtain ⟨z6,e6,f6⟩:=k (x:=x6) (c:=268435452) (y:=y6) (by omega)
 obtain ⟨z7,e7,f7⟩:=k (x:=x7) (c:=134217724) (y:=y7) (by omega)
 obtain ⟨z8,e8,f8⟩:=k (x:=x8) (c:=268435452) (y:=y8) (by omega)
 obtain ⟨z9,e9,f9⟩:=k (x:=x9) (c:=134217724) (y:=y9) (by omega)
 rw [e0,e1,e2,e3,e4,e5,e6,e7,e8,e9]
 clear e0 e1 e2 e3 e4 e5 e6 e7 e8 e9 h0 h1 h2 h3 h4 h5 h6 h7 h8 h9 k
 omega
theorem carry_good3 {ws:List Nat} (h:ws.length=10) (hb:∀ i,gd ws i<402653184):Good (carryL ws):=by
 obtain ⟨w0,w1,w2,w3,w4,w5,w6,w7,w8,w9,rfl⟩:=ten h
 obtain ⟨c0,c1,c2,c3,c4,c5,c6,c7,c8,c9,r0,r1,r2,r3,r4,r5,r6,r7,r8,r9,e,⟨e0,e1,e2,e3,e4,e5,e6,e7,e8,e9⟩,l0,l1,l2,l3,l4,l5,l6,l7,l8,l9⟩:=carry_spec w0 w1 w2 w3 w4 w5 w6 w7 w8 w9
 rw [e]
 have b0:w0<402653184:=hb 0
 have b1:w1<402653184:=hb 1
 have b2:w2<402653184:=hb 2
 have b3:w3<402653184:=hb 3
 have b4:w4<402653184:=hb 4
 have b5:w5<402653184:=hb 5
 have b6:w6<402653184:=hb 6
 have b7:w7<402653184:=hb 7
 have b8:w8<402653184:=hb 8
 have b9:w9<402653184:=hb 9
 have k0:c0≤12:=kb (c:=0) (B:=402653184) e0 b0 (by decide) (by decide)
 have k1:c1≤12:=kb e1 b1 k0 (by decide)
 have k2:c2≤12:=kb e2 b2 k1 (by decide)
 have k3:c3≤12:=kb e3 b3 k2 (by decide)
 have k4:c4≤12:=kb e4 b4 k3 (by decide)
 have k5:c5≤12:=kb e5 b5 k4 (by decide)
 have k6:c6≤12:=kb e6 b6 k5 (by decide)
 have k7:c7≤12:=kb e7 b7 k6 (by decide)
 have k8:c8≤12:=kb e8 b8 k7 (by decide)
 have k9:c9≤12:=kb e9 b9 k8 (by decide)
 clear e0 e1 e2 e3 e4 e5 e6 e7 e8 e9
 unfold Good
 refine ⟨by omega,l1,l2,l3,l4,l5,l6,l7,l8,l9⟩
theorem rep_plus {xs ys:List Nat} {A B:Nat} (hx:Rep xs A) (hy:Rep ys B):Rep (plusW xs ys) (A+B):=by
 refine ⟨carry_good (mapL_len _) (addW_lt hx.1 hy.1),?_⟩
 unfold plusW
 rw [carry_val (show (addW xs ys).length=10 from mapL_len _),addW_val hx.1.len hy.1.len,Nat.add_mod,hx.2,hy.2,← Nat.add_mod]
theorem rep_minus {xs ys:List Nat} {A B:Nat} (hx:Rep xs A) (hy:Rep ys B):Rep (minusW xs ys) (A+(p25519-B%p25519)):=by
 refine ⟨carry_good3 (mapL_len _) (subW_lt hx.1 hy.1),?_⟩
 unfold minusW
 rw [carry_val (show (subW xs ys).length=10 from mapL_len _)]
 have h:=subW_val hx.1 hy.1
 have h1:=hx.2
 have h2:=hy.2
 generalize V10 (subW xs ys)=Z at *
 generalize V10 xs=X at *
 generalize V10 ys=Y at *
 have hB:B%p25519<p25519:=Nat.mod_lt _ (by decide)
 have h3:(Z+Y)%p25519=X%p25519:=by rw [h,Nat.add_mul_mod_self_left]
 unfold p25519 at *
 omega
theorem rep_mod {ws:List Nat} {A B:Nat} (h:Rep ws A) (e:A%p25519=B%p25519):Rep ws B:=⟨h.1,h.2.trans e⟩
theorem rep_open {N:Nat} (hN:N<115792089237316195423570985008687907853269984665640564039457584007913129639936):Rep (carryL (opL N 10 0)) N :=
 ⟨opL_good N,by rw [carry_val (opL_len _ _ _),opL_val hN]⟩
def termW (xs ys:List Nat) (i k:Nat):Nat :=
 let p:=gd xs i*gd ys k
 let q:=if i%2=1∧k%2=1 then 2*p else p
 if 9<i+k then 19*q else q
def rowW (xs ys:List Nat) (i:Nat):Nat→List Nat→List Nat
 | 0,out=>out
 | k+1,out=>(rowW xs ys i k out).set ((i+k)%10) (gd (rowW xs ys i k out) ((i+k)%10)+termW xs ys i k)
def allW (xs ys:List Nat):Nat→List Nat
 | 0=>[0,0,0,0,0,0,0,0,0,0]
 | i+1=>rowW xs ys i 10 (allW xs ys i)
def timesW (xs ys:List Nat):List Nat:=carryL (carryL (allW xs ys 10))
theorem rowW_len (xs ys:List Nat) (i:Nat) {out:List Nat} (h:out.length=10):∀ k,(rowW xs ys i k out).length=10
 | 0=>h
 | k+1=>by unfold rowW;rw [List.length_set];exact rowW_len xs ys i h k
theorem allW_len (xs ys:List Nat):∀ i,(allW xs ys i).length=10
 | 0=>rfl
 | i+1=>rowW_len xs ys i (allW_len xs ys i) 10
theorem termW_le {xs ys:List Nat} (hx:Good xs) (hy:Good ys) (i k:Nat):termW xs ys i k≤171138287554625318:=by
 have h1:=hx.gd i
 have h2:=hy.gd k
 have h3:gd xs i*gd ys k≤67109119*67109119:=Nat.mul_le_mul (by omega) (by omega)
 unfold termW
 simp only
 split<;>split<;>omega
theorem rowW_le {xs ys:List Nat} (hx:Good xs) (hy:Good ys) {i:Nat} (hi:i<10) {out:List Nat} (hl:out.length=10) {M:Nat} (h:∀ j,gd out j≤M) :
  ∀ k,k≤10→(∀ j,gd (rowW xs ys i k out) j≤M+171138287554625318)∧∀ k',k≤k'→k'<10→gd (rowW xs ys i k out) ((i+k')%10)≤M
 | 0,_=>⟨λ j=>Nat.le_trans (h j) (Nat.le_add_right _ _),λ k' _ _=>h _⟩
 | k+1,hk=>by
  obtain ⟨h1,h2⟩:=rowW_le hx hy hi hl h k (by omega)
  have hlen:=rowW_len xs ys i hl k
  have ht:=termW_le hx hy i k
  have h3:=h2 k (Nat.le_refl _) (by omega)
  unfold rowW
  refine ⟨λ j=>?_,λ k' hk' hk2=>?_⟩
  ·rw [gd_set (by omega)]
   split
   ·omega
   ·exact h1 j
  ·rw [gd_set (by omega),if_neg (by omega)]
   exact h2 k' (by omega) hk2
theorem allW_le {xs ys:List Nat} (hx:Good xs) (hy:Good ys):∀ i,i≤10→∀ j,gd (allW xs ys i) j≤i*171138287554625318
 | 0,_,j=>by
  rcases Nat.lt_or_ge j 10 with hj|hj
  ·obtain rfl|rfl|rfl|rfl|rfl|rfl|rfl|rfl|rfl|rfl:j=0∨j=1∨j=2∨j=3∨j=4∨j=5∨j=6∨j=7∨j=8∨j=9:=by omega
   all_goals exact Nat.zero_le _
  ·rw [gd_ge (by exact hj)];exact Nat.zero_le _
 | i+1,hi,j=>by
  unfold allW
  have:=(rowW_le hx hy (show i<10 by omega) (allW_len xs ys i) (allW_le hx hy i (by omega)) 10 (Nat.le_refl _)).1 j
  omega
theorem allW_lt {xs ys:List Nat} (hx:Good xs) (hy:Good ys) (j:Nat):gd (allW xs ys 10) j<2305843009213693952:=by
 have:=allW_le hx hy 10 (Nat.le_refl _) j
 omega
theorem times_good {xs ys:List Nat} (hx:Good xs) (hy:Good ys):Good (timesW xs ys):=(carry2_good (allW_len _ _ _) (allW_lt hx hy)).2
theorem times_val {xs ys:List Nat} (hx:xs.length=10) (hy:ys.length=10):V10 (timesW xs ys)%p25519=V10 (allW xs ys 10)%p25519:=by
 unfold timesW
 rw [carry_val (carry_len (allW_len _ _ _)),carry_val (allW_len _ _ _)]
theorem V10_add {l:List Nat} (hl:l.length=10) {j:Nat} (hj:j<10) (t:Nat):V10 (l.set j (gd l j+t))=V10 l+t*2^offN j:=by
 obtain ⟨l0,l1,l2,l3,l4,l5,l6,l7,l8,l9,rfl⟩:=ten hl
 obtain rfl|rfl|rfl|rfl|rfl|rfl|rfl|rfl|rfl|rfl:j=0∨j=1∨j=2∨j=3∨j=4∨j=5∨j=6∨j=7∨j=8∨j=9:=by omega
 ·have e:V10 [l0+t,l1,l2,l3,l4,l5,l6,l7,l8,l9]=V10 [l0,l1,l2,l3,l4,l5,l6,l7,l8,l9]+t*1:=by simp only [V10];omega
  exact e
 ·have e:V10 [l0,l1+t,l2,l3,l4,l5,l6,l7,l8,l9]=V10 [l0,l1,l2,l3,l4,l5,l6,l7,l8,l9]+t*67108864:=by simp only [V10];omega
  exact e
 ·have e:V10 [l0,l1,l2+t,l3,l4,l5,l6,l7,l8,l9]=V10 [l0,l1,l2,l3,l4,l5,l6,l7,l8,l9]+t*2251799813685248:=by simp only [V10];omega
  exact e
 ·have e:V10 [l0,l1,l2,l3+t,l4,l5,l6,l7,l8,l9]=V10 [l0,l1,l2,l3,l4,l5,l6,l7,l8,l9]+t*151115727451828646838272:=by simp only [V10];omega
  exact e
 ·have e:V10 [l0,l1,l2,l3,l4+t,l5,l6,l7,l8,l9]=V10 [l0,l1,l2,l3,l4,l5,l6,l7,l8,l9]+t*5070602400912917605986812821504:=by simp only [V10];omega
  exact e
 ·have e:V10 [l0,l1,l2,l3,l4,l5+t,l6,l7,l8,l9]=V10 [l0,l1,l2,l3,l4,l5,l6,l7,l8,l9]+t*340282366920938463463374607431768211456:=by simp only [V10];omega
  exact e
 ·have e:V10 [l0,l1,l2,l3,l4,l5,l6+t,l7,l8,l9]=V10 [l0,l1,l2,l3,l4,l5,l6,l7,l8,l9]+t*11417981541647679048466287755595961091061972992:=by simp only [V10];omega
  exact e
 ·have e:V10 [l0,l1,l2,l3,l4,l5,l6,l7+t,l8,l9]=V10 [l0,l1,l2,l3,l4,l5,l6,l7,l8,l9]+t*766247770432944429179173513575154591809369561091801088:=by simp only [V10];omega
  exact e
 ·have e:V10 [l0,l1,l2,l3,l4,l5,l6,l7,l8+t,l9]=V10 [l0,l1,l2,l3,l4,l5,l6,l7,l8,l9]+t*25711008708143844408671393477458601640355247900524685364822016:=by simp only [V10];omega
  exact e
 ·have e:V10 [l0,l1,l2,l3,l4,l5,l6,l7,l8,l9+t]=V10 [l0,l1,l2,l3,l4,l5,l6,l7,l8,l9]+t*1725436586697640946858688965569256363112777243042596638790631055949824:=by simp only [V10];omega
  exact e
theorem high_mod (Z:Nat):19*Z%p25519=57896044618658097711785492504343953926634992332820282019728792003956564819968*Z%p25519:=by
 have:57896044618658097711785492504343953926634992332820282019728792003956564819968*Z=19*Z+p25519*Z:=by unfold p25519;omega
 rw [this,Nat.add_mul_mod_self_left]
theorem term_val (xs ys:List Nat) {i k:Nat} (hi:i<10) (hk:k<10):termW xs ys i k*2^offN ((i+k)%10)%p25519=gd xs i*2^offN i*(gd ys k*2^offN k)%p25519:=by
 have e1:gd xs i*2^offN i*(gd ys k*2^offN k)=(if i%2=1∧k%2=1 then 2*(gd xs i*gd ys k) else gd xs i*gd ys k)*2^offN (i+k):=by
  have e2:gd xs i*2^offN i*(gd ys k*2^offN k)=gd xs i*gd ys k*2^(offN i+offN k):=by rw [Nat.pow_add];grind
  rw [e2]
  split
  ·rename_i h
   have:offN i+offN k=offN (i+k)+1:=by unfold offN;omega
   rw [this,Nat.pow_succ];grind
  ·rename_i h
   have:offN i+offN k=offN (i+k):=by unfold offN;omega
   rw [this]
 rw [e1]
 unfold termW
 simp only
 generalize (if i%2=1∧k%2=1 then 2*(gd xs i*gd ys k) else gd xs i*gd ys k)=q
 split
 ·rename_i h
  have h2:offN (i+k)=255+offN ((i+k)%10):=by unfold offN;omega
  rw [h2,Nat.pow_add,Nat.mul_assoc,high_mod]
  congr 1
  rw [show (57896044618658097711785492504343953926634992332820282019728792003956564819968:Nat)=2^255 from by decide]
  grind
 ·rename_i h
  rw [Nat.mod_eq_of_lt (show i+k<10 by omega)]
theorem add_modc {a b c d p:Nat} (h1:a%p=b%p) (h2:c%p=d%p):(a+c)%p=(b+d)%p:=by rw [Nat.add_mod,h1,h2,← Nat.add_mod]
theorem rowW_val (xs ys:List Nat) {i:Nat} (hi:i<10) {out:List Nat} (hl:out.length=10):∀ k,k≤10→V10 (rowW xs ys i k out)%p25519=(V10 out+gd xs i*2^offN i*psN ys k)%p25519
 | 0,_=>by unfold rowW psN;rw [Nat.mul_zero,Nat.add_zero]
 | k+1,hk=>by
  unfold rowW psN
  rw [V10_add (rowW_len xs ys i hl k) (Nat.mod_lt _ (by decide)),Nat.mul_add,← Nat.add_assoc]
  exact add_modc (rowW_val xs ys hi hl k (by omega)) (term_val xs ys hi (by omega))
theorem allW_val' (xs ys:List Nat):∀ i,i≤10→V10 (allW xs ys i)%p25519=psN xs i*psN ys 10%p25519
 | 0,_=>by unfold allW psN;rw [Nat.zero_mul];rfl
 | i+1,hi=>by
  unfold allW
  rw [rowW_val xs ys (by omega) (allW_len xs ys i) 10 (Nat.le_refl _)]
  show _=(psN xs i+gd xs i*2^offN i)*psN ys 10%p25519
  rw [Nat.add_mul]
  exact add_modc (allW_val' xs ys i (by omega)) rfl
theorem rep_times {xs ys:List Nat} {A B:Nat} (hx:Rep xs A) (hy:Rep ys B):Rep (timesW xs ys) (A*B):=by
 refine ⟨times_good hx.1 hy.1,?_⟩
 rw [times_val hx.1.len hy.1.len,allW_val' _ _ 10 (Nat.le_refl _),ps_val hx.1.len,ps_val hy.1.len,Nat.mul_mod,hx.2,hy.2,← Nat.mul_mod]
theorem addW_len (xs ys:List Nat):(addW xs ys).length=10:=mapL_len _
theorem subW_len (xs ys:List Nat):(subW xs ys).length=10:=mapL_len _
theorem addW_gd (xs ys:List Nat) {i:Nat} (h:i<10):gd (addW xs ys) i=gd xs i+gd ys i:=mapL_gd _ h
theorem subW_gd (xs ys:List Nat) {i:Nat} (h:i<10):gd (subW xs ys) i=gd xs i+4*pj i-gd ys i:=mapL_gd _ h
attribute [irreducible] termW rowW allW timesW addW subW plusW minusW updL mapL
end Go.Proofs.YtoldjgmcoekchaaGreatDoor
namespace Go.Proofs.YtoldjgmcoekchaaGreatDoor
open Go Go.RowKit Go.V
theorem plus_w (xs ys:List Nat) (hx:Good xs) (hy:Good ys) (w:World) :
  Calls Tryz.prog 372 #[tenV xs,tenV ys] w (Ret λ v w'=>v=tenV (plusW xs ys)∧Grow w w'):=by
 refine V.calls (args:=[_,_]) Tryz.func372 rfl Tryz.ntmps372 rfl rfl ?_
 have lx:=hx.len
 have ly:=hy.len
 have lz:(addW xs ys).length=10:=addW_len _ _
 have yz:(wL (addW xs ys)).length=10:=by rw [wL_len,lz]
 have yp:(wL (plusW xs ys)).length=10:=by rw [wL_len];unfold plusW;exact carry_len lz
 have hcar:∀ v,Calls Tryz.prog 371 #[tenV (addW xs ys)] v (Ret λ u v'=>u=tenV (plusW xs ys)∧Grow v v'):=λ v=>by unfold plusW;exact carry_c _ lz (bd_good (B:=268435456) (by decide) (addW_lt hx hy)) v
 repeat (first|(refine TL.isAsg ?_;refine TL.pure rfl rfl ?_)|refine TL.nil ?_|refine thenQ_normal ?_|refine T.seq ?_|refine T.region ?_|refine T.block ?_|(refine TL.isBox ?_;(refine TL.boxA rfl rfl ?_;intro bk w' hg hbk hsz hsz'))|(refine TL.isAlloc ?_;(refine TL.alloc rfl rfl ?_;intro bk w' hg hbk hsz hsz')))
 rename_i b1 w1 gg1 k1 s1 t1 b2 w2 gg2 k2 s2 t2
 have k3:Blk w' bk 391 [I1 0,I1 0,I1 0,I1 0,I1 0,I1 0,I1 0,I1 0,I1 0,I1 0]:=hbk
 clear hbk
 refine T.loop (S:=Nat) (λ i=>[(5,.int .i64 (i:Int)),(2,.pointer (some ⟨b1,0,none⟩)),(3,.pointer (some ⟨b2,0,none⟩)),(4,.pointer (some ⟨bk,0,none⟩))])
  (λ i v=>i≤10∧Blk v b1 391 (wL (updL xs (addW xs ys) i))∧Blk v b2 391 (wL ys)∧Blk v bk 391 [I1 0,I1 0,I1 0,I1 0,I1 0,I1 0,I1 0,I1 0,I1 0,I1 0]∧Grow w v) (λ i=>10-i) 0 ⟨rfl,rfl,rfl,rfl,trivial⟩
  ⟨by omega,by rw [updL_0 lx];exact yB,yB,k3,yG⟩ ?_
 have:=gg1.2
 have:=gg2.2
 have hw1:w.heap.size≤b1:=by omega
 have hw3:w.heap.size≤bk:=by omega
 have ne12:b1≠b2:=by omega
 have ne13:b1≠bk:=by omega
 have ne23:b2≠bk:=by omega
 clear k1 k2 k3 gg1 gg2 hg s1 t1 s2 t2 hsz hsz'
 rintro i v ⟨hi,m1,m2,m3,hG⟩
 have n1:=m1.lt
 have n2:=m2.lt
 have n3:=m3.lt
 rcases Nat.lt_or_ge i 10 with hlt|hge
 ·have g1:=hx.gd i
  have g2:=hy.gd i
  have lu:=updL_len xs (addW xs ys) i
  have eu:=updL_at xs (addW xs ys) hlt
  have hza:gd (addW xs ys) i=gd xs i+gd ys i:=addW_gd _ _ hlt
  have hload:(wL (updL xs (addW xs ys) i))[i]? = some (I1 (gd xs i)):=by rw [wL_at (by omega),eu]
  repeat (first|(refine TL.isMove ?_;refine TL.pure rfl rfl ?_)|refine TL.nil ?_|refine thenQ_normal ?_|refine T.seq ?_|refine T.region ?_|refine T.block ?_|(refine TL.isBin ?_;refine TL.pureT rfl yD rfl ?_)|refine T.cond_true rfl ?_|refine T.skip ?_)
  apply T.any 8 [is _,is _,is _,is _,is _,is _,is _,is _];(· kernel_rfl);(· ((repeat' (first|exact allDo_end|refine allDo_cons ?_ ?_));(iterate 8 (· ((refine does_mk0 rfl rfl rfl ?_);( intro wq _ _ hgq;(repeat (refine need_cons rfl rfl ?_;intro vq hvq;try (obtain rfl:=hvq)));(refine need_nil ?_));(repeat (first|(refine TL.isMove ?_;refine TL.pure rfl rfl ?_)|(refine TL.isIndex ?_;refine TL.indexA1 rfl rfl (by omega) rfl ?_)|(refine TL.isAdd ?_;refine TL.addN rfl rfl (by omega) rfl ?_)|refine TL.nil ?_|(refine TL.isLoad ?_;first|refine TL.load1 rfl (Blk.cell yB hload) rfl ?_|refine TL.load1 rfl (Blk.cell yB (wL_at (by omega))) rfl ?_)));exact one_end rfl yG rfl)))));(rintro _ _ _ hgr _ _;(repeat (refine need_cons rfl rfl ?_;intro vq hvq;try (obtain rfl:=hvq)));(refine need_nil ?_))
  repeat ((refine TL.isIndex ?_;refine TL.indexA1 rfl rfl (by omega) rfl ?_))
  refine TL.storeS rfl rfl yB (by exact rfl) (by rw [wL_len];omega) ?_
  intro w3 hu3 hbk3 hsz3
  rw [← hza,wL_set,updL_set _ _ hlt] at hbk3
  repeat (first|(refine TL.isMove ?_;refine TL.pure rfl rfl ?_)|(refine TL.isAsg ?_;refine TL.pure rfl rfl ?_)|(refine TL.isAdd ?_;refine TL.addN rfl rfl (by omega) rfl ?_)|refine TL.nil ?_|refine thenQ_normal ?_|refine T.region ?_|refine blockQ_normal ?_)
  exact loopQ_normal (i+1) ⟨rfl,rfl,rfl,rfl,trivial⟩ ⟨by omega,hbk3,yB,yB,yG⟩ (by omega)
 ·obtain rfl:i=10:=by omega
  rw [updL_10 lz] at m1
  repeat (first|(refine TL.isMove ?_;refine TL.pure rfl rfl ?_)|refine TL.nil ?_|refine thenQ_normal ?_|refine T.seq ?_|refine T.region ?_|(refine TL.isBin ?_;refine TL.pureF rfl yD rfl ?_)|refine T.cond_false rfl ?_|refine T.ret ?_|refine T.exit ?_|refine thenQ_exit ?_|refine blockQ_hit ?_|refine loopQ_exit ?_|(refine TL.isLoad ?_;refine TL.loadW rfl yB (by rw [yz];rfl) rfl ?_)|(refine TL.isFn 371 ?_;refine TL.call rfl (hcar _) rfl ?_;rintro _ _ ⟨rfl,hgc⟩)|(refine TL.isStore ?_;refine TL.storeWh rfl rfl yB (by rw [yp];rfl) (by exact rfl) (wL_one _) ?_;intro w' hu hbk hsz))
  exact retC rfl (load_whole (by assumption) (by rw [yp];rfl)) ⟨_,rfl,rfl,yG⟩
theorem minus_w (xs ys:List Nat) (hx:Good xs) (hy:Good ys) (w:World) :
  Calls Tryz.prog 369 #[tenV xs,tenV ys] w (Ret λ v w'=>v=tenV (minusW xs ys)∧Grow w w'):=by
 refine V.calls (args:=[_,_]) Tryz.func369 rfl Tryz.ntmps369 rfl rfl ?_
 have lx:=hx.len
 have ly:=hy.len
 have lz:(subW xs ys).length=10:=subW_len _ _
 have yz:(wL (subW xs ys)).length=10:=by rw [wL_len,lz]
 have yp:(wL (minusW xs ys)).length=10:=by rw [wL_len];unfold minusW;exact carry_len lz
 have hcar:∀ v,Calls Tryz.prog 371 #[tenV (subW xs ys)] v (Ret λ u v'=>u=tenV (minusW xs ys)∧Grow v v'):=λ v=>by unfold minusW;exact carry_c _ lz (bd_good (B:=402653184) (by decide) (subW_lt hx hy)) v
 repeat (first|(refine TL.isAsg ?_;refine TL.pure rfl rfl ?_)|refine TL.nil ?_|refine thenQ_normal ?_|refine T.seq ?_|refine T.region ?_|refine T.block ?_|(refine TL.isBox ?_;(refine TL.boxA rfl rfl ?_;intro bk w' hg hbk hsz hsz'))|(refine TL.isAlloc ?_;(refine TL.alloc rfl rfl ?_;intro bk w' hg hbk hsz hsz')))
 rename_i b1 w1 gg1 k1 s1 t1 b2 w2 gg2 k2 s2 t2
 have k3:Blk w' bk 391 [I1 0,I1 0,I1 0,I1 0,I1 0,I1 0,I1 0,I1 0,I1 0,I1 0]:=hbk
 clear hbk
 refine T.loop (S:=Nat) (λ i=>[(5,.int .i64 (i:Int)),(2,.pointer (some ⟨b1,0,none⟩)),(3,.pointer (some ⟨b2,0,none⟩)),(4,.pointer (some ⟨bk,0,none⟩))])
  (λ i v=>i≤10∧Blk v b1 391 (wL (updL xs (subW xs ys) i))∧Blk v b2 391 (wL ys)∧Blk v bk 391 [I1 0,I1 0,I1 0,I1 0,I1 0,I1 0,I1 0,I1 0,I1 0,I1 0]∧Grow w v) (λ i=>10-i) 0 ⟨rfl,rfl,rfl,rfl,trivial⟩
  ⟨by omega,by rw [updL_0 lx];exact yB,yB,k3,yG⟩ ?_
 have:=gg1.2
 have:=gg2.2
 have hw1:w.heap.size≤b1:=by omega
 have hw3:w.heap.size≤bk:=by omega
 have ne12:b1≠b2:=by omega
 have ne13:b1≠bk:=by omega
 have ne23:b2≠bk:=by omega
 clear k1 k2 k3 gg1 gg2 hg s1 t1 s2 t2 hsz hsz'
 rintro i v ⟨hi,m1,m2,m3,hG⟩
 have n1:=m1.lt
 have n2:=m2.lt
 have n3:=m3.lt
 rcases Nat.lt_or_ge i 10 with hlt|hge
 ·have g1:=hx.gd i
  have g2:=hy.gd i
  have g3:=pj_le i
  have g4:=sub_ok hy i
  have lu:=updL_len xs (subW xs ys) i
  have eu:=updL_at xs (subW xs ys) hlt
  have hza:gd (subW xs ys) i=gd xs i+4*pj i-gd ys i:=subW_gd _ _ hlt
  have hload:(wL (updL xs (subW xs ys) i))[i]? = some (I1 (gd xs i)):=by rw [wL_at (by omega),eu]
  have hbl:=bitsN_le i
  have hpw:1*2^bitsN i<9223372036854775808∧33554432≤1*2^bitsN i:=by rcases pow_bits i with h|h<;>rw [h]<;>omega
  obtain ⟨hpw1,hpw2⟩:=hpw
  rcases Nat.eq_zero_or_pos i with h0|h0
  ·have hpj:1*2^bitsN i-1-18=pj i:=by subst h0;rfl
   repeat (first|(refine TL.isMove ?_;refine TL.pure rfl rfl ?_)|(refine TL.isAsg ?_;refine TL.pure rfl rfl ?_)|(refine TL.isSub ?_;refine TL.subN rfl rfl (by omega) (by omega) rfl ?_)|refine TL.nil ?_|refine thenQ_normal ?_|refine T.seq ?_|refine T.region ?_|refine T.block ?_|(refine TL.isShl ?_;refine TL.shlN rfl rfl (by omega) (by omega) rfl ?_)|(refine TL.isBin ?_;refine TL.pureT rfl yD rfl ?_)|refine T.cond_true rfl ?_|refine T.skip ?_|(refine TL.isFn 370 ?_;refine TL.call rfl (bits_c i (by omega) _) rfl ?_;rintro _ _ ⟨rfl,rfl⟩))
   rw [hpj]
   apply T.any 11 [is _,is _,is _,is _,is _,is _,is _,is _,is _,is _,is _];(· kernel_rfl);(· ((repeat' (first|exact allDo_end|refine allDo_cons ?_ ?_));(iterate 11 (· ((refine does_mk0 rfl rfl rfl ?_);( intro wq _ _ hgq;(repeat (refine need_cons rfl rfl ?_;intro vq hvq;try (obtain rfl:=hvq)));(refine need_nil ?_));(repeat (first|(refine TL.isMove ?_;refine TL.pure rfl rfl ?_)|(refine TL.isIndex ?_;refine TL.indexA1 rfl rfl (by omega) rfl ?_)|(refine TL.isAdd ?_;refine TL.addN rfl rfl (by omega) rfl ?_)|(refine TL.isSub ?_;refine TL.subN rfl rfl (by omega) (by omega) rfl ?_)|(refine TL.isMul ?_;refine TL.mulN rfl rfl (by omega) rfl ?_)|refine TL.nil ?_|(refine TL.isLoad ?_;first|refine TL.load1 rfl (Blk.cell yB hload) rfl ?_|refine TL.load1 rfl (Blk.cell yB (wL_at (by omega))) rfl ?_)));exact one_end rfl yG rfl)))));(rintro _ _ _ hgr _ _;(repeat (refine need_cons rfl rfl ?_;intro vq hvq;try (obtain rfl:=hvq)));(refine need_nil ?_))
   repeat ((refine TL.isIndex ?_;refine TL.indexA1 rfl rfl (by omega) rfl ?_))
   refine TL.storeS rfl rfl yB (by exact rfl) (by rw [wL_len];omega) ?_
   intro w3 hu3 hbk3 hsz3
   rw [← hza,wL_set,updL_set _ _ hlt] at hbk3
   repeat (first|(refine TL.isMove ?_;refine TL.pure rfl rfl ?_)|(refine TL.isAsg ?_;refine TL.pure rfl rfl ?_)|(refine TL.isAdd ?_;refine TL.addN rfl rfl (by omega) rfl ?_)|refine TL.nil ?_|refine thenQ_normal ?_|refine T.region ?_|refine blockQ_normal ?_)
   exact loopQ_normal (i+1) ⟨rfl,rfl,rfl,rfl,trivial⟩ ⟨by omega,hbk3,yB,yB,yG⟩ (by omega)
  ·have hpj:1*2^bitsN i-1=pj i:=by unfold pj;rw [if_neg (by omega),Nat.one_mul]
   repeat (first|(refine TL.isMove ?_;refine TL.pure rfl rfl ?_)|(refine TL.isAsg ?_;refine TL.pure rfl rfl ?_)|(refine TL.isSub ?_;refine TL.subN rfl rfl (by omega) (by omega) rfl ?_)|refine TL.nil ?_|refine thenQ_normal ?_|refine T.seq ?_|refine T.region ?_|refine T.block ?_|(refine TL.isShl ?_;refine TL.shlN rfl rfl (by omega) (by omega) rfl ?_)|(refine TL.isBin ?_;first|refine TL.pureT rfl yD rfl ?_|refine TL.pureF rfl yD rfl ?_)|refine T.cond_true rfl ?_|refine T.cond_false rfl ?_|refine T.skip ?_|(refine TL.isFn 370 ?_;refine TL.call rfl (bits_c i (by omega) _) rfl ?_;rintro _ _ ⟨rfl,rfl⟩))
   rw [hpj]
   apply T.any 11 [is _,is _,is _,is _,is _,is _,is _,is _,is _,is _,is _];(· kernel_rfl);(· ((repeat' (first|exact allDo_end|refine allDo_cons ?_ ?_));(iterate 11 (· ((refine does_mk0 rfl rfl rfl ?_);( intro wq _ _ hgq;(repeat (refine need_cons rfl rfl ?_;intro vq hvq;try (obtain rfl:=hvq)));(refine need_nil ?_));(repeat (first|(refine TL.isMove ?_;refine TL.pure rfl rfl ?_)|(refine TL.isIndex ?_;refine TL.indexA1 rfl rfl (by omega) rfl ?_)|(refine TL.isAdd ?_;refine TL.addN rfl rfl (by omega) rfl ?_)|(refine TL.isSub ?_;refine TL.subN rfl rfl (by omega) (by omega) rfl ?_)|(refine TL.isMul ?_;refine TL.mulN rfl rfl (by omega) rfl ?_)|refine TL.nil ?_|(refine TL.isLoad ?_;first|refine TL.load1 rfl (Blk.cell yB hload) rfl ?_|refine TL.load1 rfl (Blk.cell yB (wL_at (by omega))) rfl ?_)));exact one_end rfl yG rfl)))));(rintro _ _ _ hgr _ _;(repeat (refine need_cons rfl rfl ?_;intro vq hvq;try (obtain rfl:=hvq)));(refine need_nil ?_))
   repeat ((refine TL.isIndex ?_;refine TL.indexA1 rfl rfl (by omega) rfl ?_))
   refine TL.storeS rfl rfl yB (by exact rfl) (by rw [wL_len];omega) ?_
   intro w3 hu3 hbk3 hsz3
   rw [← hza,wL_set,updL_set _ _ hlt] at hbk3
   repeat (first|(refine TL.isMove ?_;refine TL.pure rfl rfl ?_)|(refine TL.isAsg ?_;refine TL.pure rfl rfl ?_)|(refine TL.isAdd ?_;refine TL.addN rfl rfl (by omega) rfl ?_)|refine TL.nil ?_|refine thenQ_normal ?_|refine T.region ?_|refine blockQ_normal ?_)
   exact loopQ_normal (i+1) ⟨rfl,rfl,rfl,rfl,trivial⟩ ⟨by omega,hbk3,yB,yB,yG⟩ (by omega)
 ·obtain rfl:i=10:=by omega
  rw [updL_10 lz] at m1
  repeat (first|(refine TL.isMove ?_;refine TL.pure rfl rfl ?_)|refine TL.nil ?_|refine thenQ_normal ?_|refine T.seq ?_|refine T.region ?_|(refine TL.isBin ?_;refine TL.pureF rfl yD rfl ?_)|refine T.cond_false rfl ?_|refine T.ret ?_|refine T.exit ?_|refine thenQ_exit ?_|refine blockQ_hit ?_|refine loopQ_exit ?_|(refine TL.isLoad ?_;refine TL.loadW rfl yB (by rw [yz];rfl) rfl ?_)|(refine TL.isFn 371 ?_;refine TL.call rfl (hcar _) rfl ?_;rintro _ _ ⟨rfl,hgc⟩)|(refine TL.isStore ?_;refine TL.storeWh rfl rfl yB (by rw [yp];rfl) (by exact rfl) (wL_one _) ?_;intro w' hu hbk hsz))
  exact retC rfl (load_whole (by assumption) (by rw [yp];rfl)) ⟨_,rfl,rfl,yG⟩
theorem prod_lt {xs ys:List Nat} (hx:Good xs) (hy:Good ys) (i k:Nat):gd xs i*gd ys k<9007199254740992:=by
 have h1:=hx.gd i
 have h2:=hy.gd k
 have h3:gd xs i*gd ys k≤67109119*67109119:=Nat.mul_le_mul (by omega) (by omega)
 omega
theorem times_w (xs ys:List Nat) (hx:Good xs) (hy:Good ys) (w:World) :
  Calls Tryz.prog 319 #[tenV xs,tenV ys] w (Ret λ v w'=>v=tenV (timesW xs ys)∧Grow w w'):=by
 refine V.calls (args:=[_,_]) Tryz.func319 rfl Tryz.ntmps319 rfl rfl ?_
 have lx:=hx.len
 have ly:=hy.len
 have hcar:=carry_c (allW xs ys 10) (allW_len _ _ _) (bd_good (B:=2305843009213693952) (by decide) (allW_lt hx hy))
 have hcar2:=carry_c (carryL (allW xs ys 10)) (carry_len (allW_len _ _ _)) (bd_good (B:=4398046511104) (by decide) (carry2_good (allW_len _ _ _) (allW_lt hx hy)).1)
 have et:timesW xs ys=carryL (carryL (allW xs ys 10)):=by unfold timesW;rfl
 rw [← et] at hcar2
 have yz:(wL (allW xs ys 10)).length=10:=by rw [wL_len];exact allW_len _ _ _
 have yp:(wL (timesW xs ys)).length=10:=by rw [wL_len,et];exact carry_len (carry_len (allW_len _ _ _))
 repeat (first|(refine TL.isAsg ?_;refine TL.pure rfl rfl ?_)|refine TL.nil ?_|refine thenQ_normal ?_|refine T.seq ?_|refine T.region ?_|refine T.block ?_|(refine TL.isBox ?_;(refine TL.boxA rfl rfl ?_;intro bk w' hg hbk hsz hsz'))|(refine TL.isAlloc ?_;(refine TL.alloc rfl rfl ?_;intro bk w' hg hbk hsz hsz')))
 rename_i b1 w1 gg1 k1 s1 t1 b2 w2 gg2 k2 s2 t2 b4 w4 gg4 k4 s4 t4
 have k3:Blk w' bk 391 (wL (allW xs ys 0)):=by unfold allW;rw [wL_zero];exact hbk
 have k4':Blk w' b4 391 [I1 0,I1 0,I1 0,I1 0,I1 0,I1 0,I1 0,I1 0,I1 0,I1 0]:=by exact yB
 clear hbk
 refine T.loop (S:=Nat) (λ i=>[(6,.int .i64 (i:Int)),(2,.pointer (some ⟨b1,0,none⟩)),(3,.pointer (some ⟨b2,0,none⟩)),(5,.pointer (some ⟨bk,0,none⟩)),(4,.pointer (some ⟨b4,0,none⟩))])
  (λ i v=>i≤10∧Blk v b1 391 (wL xs)∧Blk v b2 391 (wL ys)∧Blk v bk 391 (wL (allW xs ys i))∧Blk v b4 391 [I1 0,I1 0,I1 0,I1 0,I1 0,I1 0,I1 0,I1 0,I1 0,I1 0]∧Grow w v) (λ i=>10-i) 0 ⟨rfl,rfl,rfl,rfl,rfl,trivial⟩
  ⟨by omega,yB,yB,k3,k4',yG⟩ ?_
 have:=gg1.2
 have:=gg2.2
 have:=gg4.2
 have hw4:w.heap.size≤b4:=by omega
 have hw3:w.heap.size≤bk:=by omega
 have ne13:b1≠bk:=by omega
 have ne23:b2≠bk:=by omega
 have ne43:b4≠bk:=by omega
 clear k1 k2 k3 k4 k4' gg1 gg2 gg4 hg s1 t1 s2 t2 s4 t4 hsz hsz'
 rintro i v ⟨hi,m1,m2,m3,m4,hG⟩
 have n1:=m1.lt
 have n2:=m2.lt
 have n3:=m3.lt
 have n4:=m4.lt
 rcases Nat.lt_or_ge i 10 with hlt|hge
 ·repeat (first|(refine TL.isMove ?_;refine TL.pure rfl rfl ?_)|(refine TL.isAsg ?_;refine TL.pure rfl rfl ?_)|refine TL.nil ?_|refine thenQ_normal ?_|refine T.seq ?_|refine T.region ?_|refine T.block ?_|(refine TL.isBin ?_;refine TL.pureT rfl yD rfl ?_)|refine T.cond_true rfl ?_|refine T.skip ?_)
  refine T.loop (S:=Nat) (λ k=>[(7,.int .i64 (k:Int)),(6,.int .i64 (i:Int)),(2,.pointer (some ⟨b1,0,none⟩)),(3,.pointer (some ⟨b2,0,none⟩)),(5,.pointer (some ⟨bk,0,none⟩)),(4,.pointer (some ⟨b4,0,none⟩))])
   (λ k v=>k≤10∧Blk v b1 391 (wL xs)∧Blk v b2 391 (wL ys)∧Blk v bk 391 (wL (rowW xs ys i k (allW xs ys i)))∧Blk v b4 391 [I1 0,I1 0,I1 0,I1 0,I1 0,I1 0,I1 0,I1 0,I1 0,I1 0]∧Grow w v) (λ k=>10-k) 0 ⟨rfl,rfl,rfl,rfl,rfl,rfl,trivial⟩
   ⟨by omega,yB,yB,by unfold rowW;exact m3,yB,yG⟩ ?_
  clear m1 m2 m3 m4 hG n1 n2 n3 n4 v
  rintro k v ⟨hk,m1,m2,m3,m4,hG⟩
  have n1:=m1.lt
  have n2:=m2.lt
  have n3:=m3.lt
  have n4:=m4.lt
  rcases Nat.lt_or_ge k 10 with hkl|hkl
  ·have lr:=rowW_len xs ys i (allW_len xs ys i) k
   have hle:=(rowW_le hx hy hlt (allW_len xs ys i) (allW_le hx hy i (by omega)) k (by omega)).1 ((i+k)%10)
   have hpl:=prod_lt hx hy i k
   have hstep:rowW xs ys i (k+1) (allW xs ys i)=(rowW xs ys i k (allW xs ys i)).set ((i+k)%10) (gd (rowW xs ys i k (allW xs ys i)) ((i+k)%10)+termW xs ys i k):=by
    rw [rowW]
   generalize rowW xs ys i k (allW xs ys i)=out at *
   have hterm:termW xs ys i k=(if 9<i+k then 19*(if i%2=1∧k%2=1 then 2*(gd xs i*gd ys k) else gd xs i*gd ys k) else (if i%2=1∧k%2=1 then 2*(gd xs i*gd ys k) else gd xs i*gd ys k)):=by unfold termW;rfl
   have finish:∀ v' t,t=termW xs ys i k→∀ {v1},Grow v v1→Upd bk v1 v'→Blk v' bk 391 ((wL out).set ((i+k)%10) (I1 (gd out ((i+k)%10)+t)))→Blk v' b1 391 (wL xs)∧Blk v' b2 391 (wL ys)∧Blk v' bk 391 (wL (rowW xs ys i (k+1) (allW xs ys i)))∧Blk v' b4 391 [I1 0,I1 0,I1 0,I1 0,I1 0,I1 0,I1 0,I1 0,I1 0,I1 0]∧Grow w v':=by
    rintro v' t rfl v1 hgv hu hb
    rw [wL_set,← hstep] at hb
    exact ⟨yB,yB,hb,yB,yG⟩
   rcases Nat.lt_or_ge 9 (i+k) with hik|hik
   ·rcases Nat.mod_two_eq_zero_or_one i with hpi|hpi
    ·have hodd:¬ (i%2=1∧k%2=1):=by omega
     rw [if_pos hik,if_neg hodd] at hterm
     repeat (first|(refine TL.isMove ?_;refine TL.pure rfl rfl ?_)|refine TL.nil ?_|refine thenQ_normal ?_|refine T.seq ?_|refine T.region ?_|refine T.block ?_|(refine TL.isBin ?_;refine TL.pureT rfl yD rfl ?_)|refine T.cond_true rfl ?_|refine T.skip ?_)
     apply T.any 7 [is _,is _,is _,is _,is _,is _,is _];(· kernel_rfl);(· ((repeat' (first|exact allDo_end|refine allDo_cons ?_ ?_));(iterate 7 (· ((refine does_mk0 rfl rfl rfl ?_);( intro wq _ _ hgq;(repeat (refine need_cons rfl rfl ?_;intro vq hvq;try (obtain rfl:=hvq)));(refine need_nil ?_));(repeat (first|(refine TL.isMove ?_;refine TL.pure rfl rfl ?_)|(refine TL.isIndex ?_;refine TL.indexA1 rfl rfl (by omega) rfl ?_)|(refine TL.isMul ?_;refine TL.mulN rfl rfl (by omega) rfl ?_)|refine TL.nil ?_|(refine TL.isLoad ?_;refine TL.load1 rfl (Blk.cell yB (wL_at (by omega))) rfl ?_)));exact one_end rfl yG rfl)))));(rintro _ _ _ hgr _ _;(repeat (refine need_cons rfl rfl ?_;intro vq hvq;try (obtain rfl:=hvq)));(refine need_nil ?_))
     repeat (first|refine TL.guard_skip rfl rfl rfl ?_|(refine TL.isMove ?_;refine TL.pure rfl rfl ?_)|(refine TL.isAsg ?_;refine TL.pure rfl rfl ?_)|(refine TL.isIndex ?_;refine TL.indexA1 rfl rfl (by omega) rfl ?_)|(refine TL.isAdd ?_;refine TL.addN rfl rfl (by omega) rfl ?_)|(refine TL.isMul ?_;refine TL.mulN rfl rfl (by omega) rfl ?_)|refine TL.nil ?_|refine thenQ_normal ?_|refine T.seq ?_|refine T.region ?_|(refine TL.isRem ?_;refine TL.remU rfl rfl (by omega) rfl ?_)|(refine TL.isBin ?_;first|refine TL.pureT rfl yD rfl ?_|refine TL.pureF rfl yD rfl ?_)|refine T.cond_true rfl ?_|refine T.cond_false rfl ?_|refine T.skip ?_|refine TL.pure rfl rfl ?_|(refine TL.isLoad ?_;refine TL.load1 rfl (Blk.cell yB (wL_at (by omega))) rfl ?_))
     refine TL.storeS rfl rfl yB (by exact rfl) (by rw [wL_len];omega) ?_
     intro w3 hu3 hbk3 hsz3
     have hfin:=finish w3 _ hterm.symm hgr hu3 hbk3
     repeat (first|(refine TL.isMove ?_;refine TL.pure rfl rfl ?_)|(refine TL.isAsg ?_;refine TL.pure rfl rfl ?_)|(refine TL.isAdd ?_;refine TL.addN rfl rfl (by omega) rfl ?_)|refine TL.nil ?_|refine thenQ_normal ?_|refine T.region ?_|refine blockQ_normal ?_)
     exact loopQ_normal (k+1) ⟨rfl,rfl,rfl,rfl,rfl,rfl,trivial⟩ ⟨by omega,hfin⟩ (by omega)
    ·rcases Nat.mod_two_eq_zero_or_one k with hpk|hpk
     ·have hodd:¬ (i%2=1∧k%2=1):=by omega
      rw [if_pos hik,if_neg hodd] at hterm
      repeat (first|(refine TL.isMove ?_;refine TL.pure rfl rfl ?_)|refine TL.nil ?_|refine thenQ_normal ?_|refine T.seq ?_|refine T.region ?_|refine T.block ?_|(refine TL.isBin ?_;refine TL.pureT rfl yD rfl ?_)|refine T.cond_true rfl ?_|refine T.skip ?_)
      apply T.any 7 [is _,is _,is _,is _,is _,is _,is _];(· kernel_rfl);(· ((repeat' (first|exact allDo_end|refine allDo_cons ?_ ?_));(iterate 7 (· ((refine does_mk0 rfl rfl rfl ?_);( intro wq _ _ hgq;(repeat (refine need_cons rfl rfl ?_;intro vq hvq;try (obtain rfl:=hvq)));(refine need_nil ?_));(repeat (first|(refine TL.isMove ?_;refine TL.pure rfl rfl ?_)|(refine TL.isIndex ?_;refine TL.indexA1 rfl rfl (by omega) rfl ?_)|(refine TL.isMul ?_;refine TL.mulN rfl rfl (by omega) rfl ?_)|refine TL.nil ?_|(refine TL.isLoad ?_;refine TL.load1 rfl (Blk.cell yB (wL_at (by omega))) rfl ?_)));exact one_end rfl yG rfl)))));(rintro _ _ _ hgr _ _;(repeat (refine need_cons rfl rfl ?_;intro vq hvq;try (obtain rfl:=hvq)));(refine need_nil ?_))
      repeat (first|refine TL.guard_run rfl rfl rfl ?_|(refine TL.isMove ?_;refine TL.pure rfl rfl ?_)|(refine TL.isAsg ?_;refine TL.pure rfl rfl ?_)|(refine TL.isIndex ?_;refine TL.indexA1 rfl rfl (by omega) rfl ?_)|(refine TL.isAdd ?_;refine TL.addN rfl rfl (by omega) rfl ?_)|(refine TL.isMul ?_;refine TL.mulN rfl rfl (by omega) rfl ?_)|refine TL.nil ?_|refine thenQ_normal ?_|refine T.seq ?_|refine T.region ?_|(refine TL.isRem ?_;refine TL.remU rfl rfl (by omega) rfl ?_)|(refine TL.isBin ?_;first|refine TL.pureT rfl yD rfl ?_|refine TL.pureF rfl yD rfl ?_)|refine T.cond_true rfl ?_|refine T.cond_false rfl ?_|refine T.skip ?_|refine TL.pure rfl rfl ?_|(refine TL.isLoad ?_;refine TL.load1 rfl (Blk.cell yB (wL_at (by omega))) rfl ?_))
      refine TL.storeS rfl rfl yB (by exact rfl) (by rw [wL_len];omega) ?_
      intro w3 hu3 hbk3 hsz3
      have hfin:=finish w3 _ hterm.symm hgr hu3 hbk3
      repeat (first|(refine TL.isMove ?_;refine TL.pure rfl rfl ?_)|(refine TL.isAsg ?_;refine TL.pure rfl rfl ?_)|(refine TL.isAdd ?_;refine TL.addN rfl rfl (by omega) rfl ?_)|refine TL.nil ?_|refine thenQ_normal ?_|refine T.region ?_|refine blockQ_normal ?_)
      exact loopQ_normal (k+1) ⟨rfl,rfl,rfl,rfl,rfl,rfl,trivial⟩ ⟨by omega,hfin⟩ (by omega)
     ·have hodd:i%2=1∧k%2=1:=by omega
      rw [if_pos hik,if_pos hodd] at hterm
      repeat (first|(refine TL.isMove ?_;refine TL.pure rfl rfl ?_)|refine TL.nil ?_|refine thenQ_normal ?_|refine T.seq ?_|refine T.region ?_|refine T.block ?_|(refine TL.isBin ?_;refine TL.pureT rfl yD rfl ?_)|refine T.cond_true rfl ?_|refine T.skip ?_)
      apply T.any 7 [is _,is _,is _,is _,is _,is _,is _];(· kernel_rfl);(· ((repeat' (first|exact allDo_end|refine allDo_cons ?_ ?_));(iterate 7 (· ((refine does_mk0 rfl rfl rfl ?_);( intro wq _ _ hgq;(repeat (refine need_cons rfl rfl ?_;intro vq hvq;try (obtain rfl:=hvq)));(refine need_nil ?_));(repeat (first|(refine TL.isMove ?_;refine TL.pure rfl rfl ?_)|(refine TL.isIndex ?_;refine TL.indexA1 rfl rfl (by omega) rfl ?_)|(refine TL.isMul ?_;refine TL.mulN rfl rfl (by omega) rfl ?_)|refine TL.nil ?_|(refine TL.isLoad ?_;refine TL.load1 rfl (Blk.cell yB (wL_at (by omega))) rfl ?_)));exact one_end rfl yG rfl)))));(rintro _ _ _ hgr _ _;(repeat (refine need_cons rfl rfl ?_;intro vq hvq;try (obtain rfl:=hvq)));(refine need_nil ?_))
      repeat (first|refine TL.guard_run rfl rfl rfl ?_|(refine TL.isMove ?_;refine TL.pure rfl rfl ?_)|(refine TL.isAsg ?_;refine TL.pure rfl rfl ?_)|(refine TL.isIndex ?_;refine TL.indexA1 rfl rfl (by omega) rfl ?_)|(refine TL.isAdd ?_;refine TL.addN rfl rfl (by omega) rfl ?_)|(refine TL.isMul ?_;refine TL.mulN rfl rfl (by omega) rfl ?_)|refine TL.nil ?_|refine thenQ_normal ?_|refine T.seq ?_|refine T.region ?_|(refine TL.isRem ?_;refine TL.remU rfl rfl (by omega) rfl ?_)|(refine TL.isBin ?_;refine TL.pureT rfl yD rfl ?_)|refine T.cond_true rfl ?_|refine TL.pure rfl rfl ?_|(refine TL.isLoad ?_;refine TL.load1 rfl (Blk.cell yB (wL_at (by omega))) rfl ?_))
      refine TL.storeS rfl rfl yB (by exact rfl) (by rw [wL_len];omega) ?_
      intro w3 hu3 hbk3 hsz3
      have hfin:=finish w3 _ hterm.symm hgr hu3 hbk3
      repeat (first|(refine TL.isMove ?_;refine TL.pure rfl rfl ?_)|(refine TL.isAsg ?_;refine TL.pure rfl rfl ?_)|(refine TL.isAdd ?_;refine TL.addN rfl rfl (by omega) rfl ?_)|refine TL.nil ?_|refine thenQ_normal ?_|refine T.region ?_|refine blockQ_normal ?_)
      exact loopQ_normal (k+1) ⟨rfl,rfl,rfl,rfl,rfl,rfl,trivial⟩ ⟨by omega,hfin⟩ (by omega)
   ·rcases Nat.mod_two_eq_zero_or_one i with hpi|hpi
    ·have hodd:¬ (i%2=1∧k%2=1):=by omega
     rw [if_neg (Nat.not_lt.2 hik),if_neg hodd] at hterm
     repeat (first|(refine TL.isMove ?_;refine TL.pure rfl rfl ?_)|refine TL.nil ?_|refine thenQ_normal ?_|refine T.seq ?_|refine T.region ?_|refine T.block ?_|(refine TL.isBin ?_;refine TL.pureT rfl yD rfl ?_)|refine T.cond_true rfl ?_|refine T.skip ?_)
     apply T.any 7 [is _,is _,is _,is _,is _,is _,is _];(· kernel_rfl);(· ((repeat' (first|exact allDo_end|refine allDo_cons ?_ ?_));(iterate 7 (· ((refine does_mk0 rfl rfl rfl ?_);( intro wq _ _ hgq;(repeat (refine need_cons rfl rfl ?_;intro vq hvq;try (obtain rfl:=hvq)));(refine need_nil ?_));(repeat (first|(refine TL.isMove ?_;refine TL.pure rfl rfl ?_)|(refine TL.isIndex ?_;refine TL.indexA1 rfl rfl (by omega) rfl ?_)|(refine TL.isMul ?_;refine TL.mulN rfl rfl (by omega) rfl ?_)|refine TL.nil ?_|(refine TL.isLoad ?_;refine TL.load1 rfl (Blk.cell yB (wL_at (by omega))) rfl ?_)));exact one_end rfl yG rfl)))));(rintro _ _ _ hgr _ _;(repeat (refine need_cons rfl rfl ?_;intro vq hvq;try (obtain rfl:=hvq)));(refine need_nil ?_))
     repeat (first|refine TL.guard_skip rfl rfl rfl ?_|(refine TL.isMove ?_;refine TL.pure rfl rfl ?_)|(refine TL.isAsg ?_;refine TL.pure rfl rfl ?_)|(refine TL.isIndex ?_;refine TL.indexA1 rfl rfl (by omega) rfl ?_)|(refine TL.isAdd ?_;refine TL.addN rfl rfl (by omega) rfl ?_)|refine TL.nil ?_|refine thenQ_normal ?_|refine T.seq ?_|refine T.region ?_|(refine TL.isRem ?_;refine TL.remU rfl rfl (by omega) rfl ?_)|(refine TL.isBin ?_;refine TL.pureF rfl yD rfl ?_)|refine T.cond_false rfl ?_|refine T.skip ?_|refine TL.pure rfl rfl ?_|(refine TL.isLoad ?_;refine TL.load1 rfl (Blk.cell yB (wL_at (by omega))) rfl ?_))
     refine TL.storeS rfl rfl yB (by exact rfl) (by rw [wL_len];omega) ?_
     intro w3 hu3 hbk3 hsz3
     have hfin:=finish w3 _ hterm.symm hgr hu3 hbk3
     repeat (first|(refine TL.isMove ?_;refine TL.pure rfl rfl ?_)|(refine TL.isAsg ?_;refine TL.pure rfl rfl ?_)|(refine TL.isAdd ?_;refine TL.addN rfl rfl (by omega) rfl ?_)|refine TL.nil ?_|refine thenQ_normal ?_|refine T.region ?_|refine blockQ_normal ?_)
     exact loopQ_normal (k+1) ⟨rfl,rfl,rfl,rfl,rfl,rfl,trivial⟩ ⟨by omega,hfin⟩ (by omega)
    ·rcases Nat.mod_two_eq_zero_or_one k with hpk|hpk
     ·have hodd:¬ (i%2=1∧k%2=1):=by omega
      rw [if_neg (Nat.not_lt.2 hik),if_neg hodd] at hterm
      repeat (first|(refine TL.isMove ?_;refine TL.pure rfl rfl ?_)|refine TL.nil ?_|refine thenQ_normal ?_|refine T.seq ?_|refine T.region ?_|refine T.block ?_|(refine TL.isBin ?_;refine TL.pureT rfl yD rfl ?_)|refine T.cond_true rfl ?_|refine T.skip ?_)
      apply T.any 7 [is _,is _,is _,is _,is _,is _,is _];(· kernel_rfl);(· ((repeat' (first|exact allDo_end|refine allDo_cons ?_ ?_));(iterate 7 (· ((refine does_mk0 rfl rfl rfl ?_);( intro wq _ _ hgq;(repeat (refine need_cons rfl rfl ?_;intro vq hvq;try (obtain rfl:=hvq)));(refine need_nil ?_));(repeat (first|(refine TL.isMove ?_;refine TL.pure rfl rfl ?_)|(refine TL.isIndex ?_;refine TL.indexA1 rfl rfl (by omega) rfl ?_)|(refine TL.isMul ?_;refine TL.mulN rfl rfl (by omega) rfl ?_)|refine TL.nil ?_|(refine TL.isLoad ?_;refine TL.load1 rfl (Blk.cell yB (wL_at (by omega))) rfl ?_)));exact one_end rfl yG rfl)))));(rintro _ _ _ hgr _ _;(repeat (refine need_cons rfl rfl ?_;intro vq hvq;try (obtain rfl:=hvq)));(refine need_nil ?_))
      repeat (first|refine TL.guard_run rfl rfl rfl ?_|(refine TL.isMove ?_;refine TL.pure rfl rfl ?_)|(refine TL.isAsg ?_;refine TL.pure rfl rfl ?_)|(refine TL.isIndex ?_;refine TL.indexA1 rfl rfl (by omega) rfl ?_)|(refine TL.isAdd ?_;refine TL.addN rfl rfl (by omega) rfl ?_)|refine TL.nil ?_|refine thenQ_normal ?_|refine T.seq ?_|refine T.region ?_|(refine TL.isRem ?_;refine TL.remU rfl rfl (by omega) rfl ?_)|(refine TL.isBin ?_;first|refine TL.pureT rfl yD rfl ?_|refine TL.pureF rfl yD rfl ?_)|refine T.cond_false rfl ?_|refine T.skip ?_|refine TL.pure rfl rfl ?_|(refine TL.isLoad ?_;refine TL.load1 rfl (Blk.cell yB (wL_at (by omega))) rfl ?_))
      refine TL.storeS rfl rfl yB (by exact rfl) (by rw [wL_len];omega) ?_
      intro w3 hu3 hbk3 hsz3
      have hfin:=finish w3 _ hterm.symm hgr hu3 hbk3
      repeat (first|(refine TL.isMove ?_;refine TL.pure rfl rfl ?_)|(refine TL.isAsg ?_;refine TL.pure rfl rfl ?_)|(refine TL.isAdd ?_;refine TL.addN rfl rfl (by omega) rfl ?_)|refine TL.nil ?_|refine thenQ_normal ?_|refine T.region ?_|refine blockQ_normal ?_)
      exact loopQ_normal (k+1) ⟨rfl,rfl,rfl,rfl,rfl,rfl,trivial⟩ ⟨by omega,hfin⟩ (by omega)
     ·have hodd:i%2=1∧k%2=1:=by omega
      rw [if_neg (Nat.not_lt.2 hik),if_pos hodd] at hterm
      repeat (first|(refine TL.isMove ?_;refine TL.pure rfl rfl ?_)|refine TL.nil ?_|refine thenQ_normal ?_|refine T.seq ?_|refine T.region ?_|refine T.block ?_|(refine TL.isBin ?_;refine TL.pureT rfl yD rfl ?_)|refine T.cond_true rfl ?_|refine T.skip ?_)
      apply T.any 7 [is _,is _,is _,is _,is _,is _,is _];(· kernel_rfl);(· ((repeat' (first|exact allDo_end|refine allDo_cons ?_ ?_));(iterate 7 (· ((refine does_mk0 rfl rfl rfl ?_);( intro wq _ _ hgq;(repeat (refine need_cons rfl rfl ?_;intro vq hvq;try (obtain rfl:=hvq)));(refine need_nil ?_));(repeat (first|(refine TL.isMove ?_;refine TL.pure rfl rfl ?_)|(refine TL.isIndex ?_;refine TL.indexA1 rfl rfl (by omega) rfl ?_)|(refine TL.isMul ?_;refine TL.mulN rfl rfl (by omega) rfl ?_)|refine TL.nil ?_|(refine TL.isLoad ?_;refine TL.load1 rfl (Blk.cell yB (wL_at (by omega))) rfl ?_)));exact one_end rfl yG rfl)))));(rintro _ _ _ hgr _ _;(repeat (refine need_cons rfl rfl ?_;intro vq hvq;try (obtain rfl:=hvq)));(refine need_nil ?_))
      repeat (first|refine TL.guard_run rfl rfl rfl ?_|(refine TL.isMove ?_;refine TL.pure rfl rfl ?_)|(refine TL.isAsg ?_;refine TL.pure rfl rfl ?_)|(refine TL.isIndex ?_;refine TL.indexA1 rfl rfl (by omega) rfl ?_)|(refine TL.isAdd ?_;refine TL.addN rfl rfl (by omega) rfl ?_)|(refine TL.isMul ?_;refine TL.mulN rfl rfl (by omega) rfl ?_)|refine TL.nil ?_|refine thenQ_normal ?_|refine T.seq ?_|refine T.region ?_|(refine TL.isRem ?_;refine TL.remU rfl rfl (by omega) rfl ?_)|(refine TL.isBin ?_;first|refine TL.pureT rfl yD rfl ?_|refine TL.pureF rfl yD rfl ?_)|refine T.cond_true rfl ?_|refine T.cond_false rfl ?_|refine T.skip ?_|refine TL.pure rfl rfl ?_|(refine TL.isLoad ?_;refine TL.load1 rfl (Blk.cell yB (wL_at (by omega))) rfl ?_))
      refine TL.storeS rfl rfl yB (by exact rfl) (by rw [wL_len];omega) ?_
      intro w3 hu3 hbk3 hsz3
      have hfin:=finish w3 _ hterm.symm hgr hu3 hbk3
      repeat (first|(refine TL.isMove ?_;refine TL.pure rfl rfl ?_)|(refine TL.isAsg ?_;refine TL.pure rfl rfl ?_)|(refine TL.isAdd ?_;refine TL.addN rfl rfl (by omega) rfl ?_)|refine TL.nil ?_|refine thenQ_normal ?_|refine T.region ?_|refine blockQ_normal ?_)
      exact loopQ_normal (k+1) ⟨rfl,rfl,rfl,rfl,rfl,rfl,trivial⟩ ⟨by omega,hfin⟩ (by omega)
  ·obtain rfl:k=10:=by omega
   have:rowW xs ys i 10 (allW xs ys i)=allW xs ys (i+1):=by rw [allW]
   rw [this] at m3
   repeat (first|(refine TL.isMove ?_;refine TL.pure rfl rfl ?_)|(refine TL.isAsg ?_;refine TL.pure rfl rfl ?_)|(refine TL.isAdd ?_;refine TL.addN rfl rfl (by omega) rfl ?_)|refine TL.nil ?_|refine thenQ_normal ?_|refine T.seq ?_|refine T.region ?_|refine blockQ_normal ?_|(refine TL.isBin ?_;refine TL.pureF rfl yD rfl ?_)|refine T.cond_false rfl ?_|refine T.exit ?_|refine thenQ_exit ?_|refine blockQ_hit ?_|refine loopQ_exit ?_)
   exact loopQ_normal (i+1) ⟨rfl,rfl,rfl,rfl,rfl,trivial⟩ ⟨by omega,yB,yB,yB,yB,yG⟩ (by omega)
 ·obtain rfl:i=10:=by omega
  repeat (first|(refine TL.isMove ?_;refine TL.pure rfl rfl ?_)|refine TL.nil ?_|refine thenQ_normal ?_|refine T.seq ?_|refine T.region ?_|(refine TL.isBin ?_;refine TL.pureF rfl yD rfl ?_)|refine T.cond_false rfl ?_|refine T.exit ?_|refine thenQ_exit ?_|refine blockQ_hit ?_|refine loopQ_exit ?_|(refine TL.isLoad ?_;refine TL.loadW rfl yB (by rw [yz];rfl) rfl ?_))
  refine TL.call rfl (hcar _) rfl ?_
  rintro _ v1 ⟨rfl,hc1⟩
  refine TL.call rfl (hcar2 _) rfl ?_
  rintro _ v2 ⟨rfl,hc2⟩
  repeat (first|refine TL.nil ?_|refine thenQ_normal ?_|refine T.ret ?_|(refine TL.isStore ?_;refine TL.storeWh rfl rfl yB (by rw [yp];rfl) (by exact rfl) (wL_one _) ?_;intro w' hu hbk hsz))
  exact retC rfl (load_whole (by assumption) (by rw [yp];rfl)) ⟨_,rfl,rfl,yG⟩
end Go.Proofs.YtoldjgmcoekchaaGreatDoor
namespace Go.Proofs.YtoldjgmcoekchaaGreatDoor
open Go Go.RowKit Go.V
def LN:Nat:=7237005577332262213973186563042994240857116359379907606001950938285454250989
def ctd:Nat→Value
 | 0=>.int .i64 (-1)
 | k+1=>.int .i64 (k:Int)
theorem ctd_at (k:Nat):some (Value.int .i64 ((k:Int)-1))=some (ctd k):=by
 cases k with
 | zero=>rfl
 | succ k=>exact congrArg (λ z=>some (Value.int .i64 z)) (by omega)
theorem div_step (A k:Nat):A / 256^k=A / 256^(k+1)*256+byteN A k:=by
 unfold byteN
 rw [Nat.pow_succ,← Nat.div_div_eq_div_mul];omega
theorem lt_of_byte {A B k:Nat} (h:A / 256^(k+1)=B / 256^(k+1)) (hne:byteN A k≠byteN B k):(byteN A k<byteN B k)↔A<B:=by
 have h1:=div_step A k
 have h2:=div_step B k
 rw [h] at h1
 have hp:0<256^k:=Nat.pow_pos (by decide)
 constructor
 ·intro h3
  have:A / 256^k<B / 256^k:=by omega
  rw [Nat.div_lt_iff_lt_mul hp] at this
  exact Nat.lt_of_lt_of_le this (Nat.div_mul_le_self B (256^k))
 ·intro h3
  have:A / 256^k≤B / 256^k:=Nat.div_le_div_right (Nat.le_of_lt h3)
  omega
theorem below_c (A B:Nat) (hA:A<115792089237316195423570985008687907853269984665640564039457584007913129639936) (hB:B<115792089237316195423570985008687907853269984665640564039457584007913129639936) (w:World):Calls Tryz.prog 323 #[num A,num B] w (Ret λ v w'=>v=.bool (decide (A<B))∧Grow w w'):=by
 refine V.calls (args:=[_,_]) Tryz.func323 rfl Tryz.ntmps323 rfl rfl ?_
 repeat (first|(refine TL.isAsg ?_;refine TL.pure rfl rfl ?_)|refine TL.nil ?_|refine thenQ_normal ?_|refine T.seq ?_|refine T.region ?_|refine T.block ?_|(refine TL.isBox ?_;(refine TL.boxA rfl rfl ?_;intro bk w' hg hbk hsz hsz')))
 rename_i b2 w2 g2 k2 s2 t2
 obtain ⟨b3,rfl⟩:∃ q,q=bk:=⟨_,rfl⟩
 have m2:Blk w' b2 269 (numL A):=by exact yB
 have m3:Blk w' b3 269 (numL B):=hbk
 have hG:Grow w w':=by exact yG
 clear k2 hbk g2 hg
 refine T.loop (S:=Nat) (λ k=>[(5,ctd k),(2,.pointer (some ⟨b2,0,none⟩)),(3,.pointer (some ⟨b3,0,none⟩))])
  (λ k v=>k≤32∧A / 256^k=B / 256^k∧Blk v b2 269 (numL A)∧Blk v b3 269 (numL B)∧Grow w v) (λ k=>k) 32 ⟨rfl,rfl,rfl,trivial⟩
  ⟨by omega,by rw [Nat.div_eq_of_lt (show A<256^32 from hA),Nat.div_eq_of_lt (show B<256^32 from hB)],m2,m3,hG⟩ ?_
 clear m2 m3 hG
 rintro k v ⟨hk,he,m2,m3,hG⟩
 have l2:=m2.lt
 have l3:=m3.lt
 cases k with
 | zero =>
  refine T.weaken (e':=[(5,.int .i64 (-1)),(2,_),(3,_)]) ?_ ⟨rfl,rfl,rfl,trivial⟩
  repeat (first|(refine TL.isMove ?_;refine TL.pure rfl rfl ?_)|(refine TL.isAsg ?_;refine TL.pure rfl rfl ?_)|refine TL.nil ?_|refine thenQ_normal ?_|refine T.seq ?_|refine T.region ?_|(refine TL.isBin ?_;refine TL.pureF rfl yD rfl ?_)|refine T.cond_false rfl ?_|refine T.ret ?_|refine T.exit ?_|refine thenQ_exit ?_|refine blockQ_hit ?_|refine loopQ_exit ?_)
  simp only [Nat.pow_zero,Nat.div_one] at he
  exact ret1 rfl ⟨_,rfl,by rw [decide_eq_false (by omega)],yG⟩
 | succ k =>
  refine T.weaken (e':=[(5,.int .i64 (k:Int)),(2,_),(3,_)]) ?_ ⟨rfl,rfl,rfl,trivial⟩
  have ha:=byteN_lt A k
  have hb:=byteN_lt B k
  have hk32:k<32:=by omega
  repeat (first|(refine TL.isMove ?_;refine TL.pure rfl rfl ?_)|refine TL.nil ?_|refine thenQ_normal ?_|refine T.seq ?_|refine T.region ?_|refine T.block ?_|(refine TL.isBin ?_;refine TL.pureT rfl yD rfl ?_)|refine T.cond_true rfl ?_|refine T.skip ?_)
  apply T.any 7 [is _,is _,is _,is _,is _,is _,is _];(· kernel_rfl);(· ((repeat' (first|exact allDo_end|refine allDo_cons ?_ ?_));(iterate 7 (· ((refine does_mk0 rfl rfl rfl ?_);( intro wq _ _ hgq;(repeat (refine need_cons rfl rfl ?_;intro vq hvq;try (obtain rfl:=hvq)));(refine need_nil ?_));(repeat (first|(refine TL.isMove ?_;refine TL.pure rfl rfl ?_)|(refine TL.isIndex ?_;refine TL.indexA1 rfl rfl (by omega) rfl ?_)|refine TL.nil ?_|(refine TL.isBin ?_;refine TL.pure rfl rfl ?_)|(refine TL.isLoad ?_;refine TL.load1 rfl (Blk.cell yB (numL_at hk32)) rfl ?_)));exact one_end rfl yG rfl)))));(rintro _ _ _ hgr _ _;(repeat (refine need_cons rfl rfl ?_;intro vq hvq;try (obtain rfl:=hvq)));(refine need_nil ?_))
  by_cases hne:byteN A k=byteN B k
  ·repeat (first|(refine TL.isMove ?_;refine TL.pure rfl rfl ?_)|(refine TL.isAsg ?_;refine TL.pure rfl rfl ?_)|(refine TL.isSub ?_;refine TL.subI rfl rfl (by omega) (by omega) rfl ?_)|refine TL.nil ?_|refine thenQ_normal ?_|refine T.region ?_|refine blockQ_normal ?_|refine T.cond_no rfl yD ?_|refine T.skip ?_)
   exact loopQ_normal k ⟨ctd_at k,rfl,rfl,trivial⟩ ⟨by omega,by rw [div_step A,div_step B,he,hne],yB,yB,yG⟩ (by omega)
  ·repeat (first|refine TL.nil ?_|refine thenQ_normal ?_|refine T.seq ?_|refine T.cond_yes rfl yD ?_)
   apply T.any 8 [is _,is _,is _,is _,is _,is _,is _,is _];(· kernel_rfl);(· ((repeat' (first|exact allDo_end|refine allDo_cons ?_ ?_));(iterate 8 (· ((refine does_mk0 rfl rfl rfl ?_);( intro wq _ _ hgq;(repeat (refine need_cons rfl rfl ?_;intro vq hvq;try (obtain rfl:=hvq)));(refine need_nil ?_));(repeat (first|(refine TL.isMove ?_;refine TL.pure rfl rfl ?_)|(refine TL.isAsg ?_;refine TL.pure rfl rfl ?_)|(refine TL.isIndex ?_;refine TL.indexA1 rfl rfl (by omega) rfl ?_)|refine TL.nil ?_|(refine TL.isBin ?_;refine TL.pure rfl rfl ?_)|(refine TL.isLoad ?_;refine TL.load1 rfl (Blk.cell yB (numL_at hk32)) rfl ?_)));exact one_end rfl yG rfl)))));(rintro _ _ _ hgr _ _;(repeat (refine need_cons rfl rfl ?_;intro vq hvq;try (obtain rfl:=hvq)));(refine need_nil ?_))
   repeat (first|refine TL.nil ?_|refine thenQ_normal ?_|refine T.ret ?_|refine thenQ_ret ?_|refine blockQ_ret ?_|refine loopQ_ret ?_)
   exact ret1 rfl ⟨_,rfl,congrArg Value.bool (decide_eq_decide.2 (by rw [← lt_of_byte he hne];exact Int.ofNat_lt)),yG⟩
theorem l_c (w:World):Calls Tryz.prog 324 #[] w (Ret λ v w'=>v=num LN∧Grow w w'):=by
 refine V.calls (args:=[]) Tryz.func324 rfl Tryz.ntmps324 rfl rfl ?_
 repeat (first|refine TL.nil ?_|refine thenQ_normal ?_|refine T.seq ?_|refine T.region ?_|(refine TL.isStore ?_;(refine TL.storeWh rfl rfl yB (by exact rfl) (by exact rfl) (by exact rfl) ?_;intro w' hu hbk hsz))|(refine TL.isAlloc ?_;(refine TL.alloc rfl rfl ?_;intro bk w' hg hbk hsz hsz'))|refine TL.buildArr rfl rfl rfl ?_|refine T.ret ?_)
 exact retC rfl (load_whole (by assumption) rfl) ⟨_,rfl,rfl,yG⟩
theorem pow256 (k:Nat):0<256^k:=Nat.pow_pos (by decide)
theorem low_byte {S k j:Nat} (hj:j<k):byteN (S%256^k) j=byteN S j:=by
 unfold byteN
 obtain ⟨d,rfl⟩:∃ d,k=j+(d+1):=⟨k-j-1,by omega⟩
 rw [Nat.pow_add,Nat.mod_mul_right_div_self,Nat.pow_succ,Nat.mul_comm (256^d) 256,Nat.mod_mul_right_mod]
theorem high_byte {S k j:Nat} (hj:k≤j):byteN (S%256^k) j=0:=by
 unfold byteN
 rw [Nat.div_eq_of_lt (Nat.lt_of_lt_of_le (Nat.mod_lt _ (pow256 k)) (Nat.pow_le_pow_right (by decide) hj))]
def cryN (A B k:Nat):Nat:=(A%256^k+B%256^k) / 256^k
theorem cry_le (A B k:Nat):cryN A B k≤1:=by
 unfold cryN
 have h1:=Nat.mod_lt A (pow256 k)
 have h2:=Nat.mod_lt B (pow256 k)
 have:(A%256^k+B%256^k) / 256^k<2:=by
  rw [Nat.div_lt_iff_lt_mul (pow256 k)];omega
 omega
theorem sum_split (A B k:Nat):(A+B) / 256^k=A / 256^k+B / 256^k+cryN A B k:=by
 unfold cryN
 rw [Nat.add_div (pow256 k)]
 congr 1
 have h1:=Nat.mod_lt A (pow256 k)
 have h2:=Nat.mod_lt B (pow256 k)
 split
 ·rename_i h
  exact (Nat.div_eq_of_lt_le (by omega) (by omega)).symm
 ·rename_i h
  rw [Nat.div_eq_of_lt (by omega)]
theorem sum_byte (A B k:Nat):(cryN A B k+byteN A k+byteN B k)%256=byteN (A+B) k:=by
 have h:=sum_split A B k
 unfold byteN at *
 rw [h]
 omega
theorem sum_next (A B k:Nat):(cryN A B k+byteN A k+byteN B k) / 256=cryN A B (k+1):=by
 have h:=sum_split A B k
 have h2:=sum_split A B (k+1)
 have e1:∀ X:Nat,X / 256^(k+1)=X / 256^k / 256:=λ X=>by rw [Nat.pow_succ,Nat.div_div_eq_div_mul]
 rw [e1,e1,e1,h] at h2
 unfold byteN
 omega
theorem put_low {S k:Nat} (hk:k<32) {x:Nat} (hx:x=byteN S k):(numL (S%256^k)).set k (B1 x)=numL (S%256^(k+1)):=by
 refine numL_set hk (by rw [hx,low_byte (Nat.lt_succ_self k)]) λ j hj hne=>?_
 rcases Nat.lt_or_ge j k with h|h
 ·rw [low_byte (by omega),low_byte h]
 ·rw [high_byte (by omega),high_byte h]
def bwN (S L k:Nat):Nat:=if S%256^k<L%256^k then 1 else 0
theorem bw_le (S L k:Nat):bwN S L k≤1:=by unfold bwN;split<;>omega
def mixN (D S k:Nat):Nat:=D%256^k+256^k*(S / 256^k)
theorem mix_0 (D S:Nat):mixN D S 0=S:=by unfold mixN;simp [Nat.mod_one]
theorem mix_32 {D S:Nat} (hD:D<115792089237316195423570985008687907853269984665640564039457584007913129639936) (hS:S<115792089237316195423570985008687907853269984665640564039457584007913129639936):mixN D S 32=D:=by
 unfold mixN;rw [Nat.mod_eq_of_lt (show D<256^32 from hD),Nat.div_eq_of_lt (show S<256^32 from hS)];rfl
theorem mix_low {D S k j:Nat} (hj:j<k):byteN (mixN D S k) j=byteN D j:=by
 rw [← low_byte (S:=mixN D S k) hj,← low_byte (S:=D) hj]
 unfold mixN
 rw [Nat.add_mul_mod_self_left,Nat.mod_mod]
theorem mix_high {D S k j:Nat} (hj:k≤j):byteN (mixN D S k) j=byteN S j:=by
 unfold byteN mixN
 obtain ⟨d,rfl⟩:∃ d,j=k+d:=⟨j-k,by omega⟩
 rw [Nat.pow_add,← Nat.div_div_eq_div_mul,← Nat.div_div_eq_div_mul,Nat.add_mul_div_left _ _ (pow256 k),Nat.div_eq_of_lt (Nat.mod_lt _ (pow256 k)),Nat.zero_add]
theorem put_mix {D S k:Nat} (hk:k<32) {x:Nat} (hx:x=byteN D k):(numL (mixN D S k)).set k (B1 x)=numL (mixN D S (k+1)):=by
 refine numL_set hk (by rw [hx,mix_low (Nat.lt_succ_self k)]) λ j hj hne=>?_
 rcases Nat.lt_or_ge j k with h|h
 ·rw [mix_low (by omega),mix_low h]
 ·rw [mix_high (by omega),mix_high h]
theorem dif_split {S L:Nat} (h:L≤S) (k:Nat):S / 256^k=(S-L) / 256^k+L / 256^k+bwN S L k:=by
 have:=sum_split (S-L) L k
 rw [show S-L+L=S by omega] at this
 rw [this]
 congr 1
 unfold cryN bwN
 have h1:=Nat.mod_lt (S-L) (pow256 k)
 have h2:=Nat.mod_lt L (pow256 k)
 have h3:S%256^k=((S-L)%256^k+L%256^k)%256^k:=by rw [← Nat.add_mod,show S-L+L=S by omega]
 generalize (S-L)%256^k=x at *
 generalize L%256^k=y at *
 generalize 256^k=p at *
 rcases Nat.lt_or_ge (x+y) p with hc|hc
 ·rw [Nat.mod_eq_of_lt hc] at h3
  rw [Nat.div_eq_of_lt hc,if_neg (by omega)]
 ·have h4:(x+y)%p=x+y-p:=by rw [Nat.mod_eq_sub_mod hc,Nat.mod_eq_of_lt (by omega)]
  rw [h4] at h3
  rw [Nat.div_eq_of_lt_le (k:=1) (by omega) (by omega),if_pos (by omega)]
theorem dif_byte {S L:Nat} (h:L≤S) (k:Nat):(byteN S k+256-byteN L k-bwN S L k)%256=byteN (S-L) k∧(bwN S L (k+1)=if byteN S k<byteN L k+bwN S L k then 1 else 0):=by
 have h1:=dif_split h k
 have h2:=dif_split h (k+1)
 have e1:∀ X:Nat,X / 256^(k+1)=X / 256^k / 256:=λ X=>by rw [Nat.pow_succ,Nat.div_div_eq_div_mul]
 rw [e1,e1,e1] at h2
 have b1:=bw_le S L k
 have b2:=bw_le S L (k+1)
 unfold byteN
 generalize S / 256^k=s at *
 generalize (S-L) / 256^k=d at *
 generalize L / 256^k=l at *
 generalize bwN S L k=b at *
 generalize bwN S L (k+1)=b' at *
 constructor
 ·omega
 ·split<;>omega
attribute [irreducible] mixN bwN cryN LN
end Go.Proofs.YtoldjgmcoekchaaGreatDoor
namespace Go.Proofs.YtoldjgmcoekchaaGreatDoor
open Go Go.RowKit Go.V
theorem mix_at {D S k:Nat} (hk:k<32):(numL (mixN D S k))[k]? = some (B1 (byteN S k)):=by rw [numL_at hk,mix_high (Nat.le_refl k)]
theorem plus_s (A B:Nat) (hA:A<LN) (hB:B<LN) (w:World):Calls Tryz.prog 241 #[num A,num B] w (Ret λ v w'=>v=num ((A+B)%LN)∧Grow w w'):=by
 refine V.calls (args:=[_,_]) Tryz.func241 rfl Tryz.ntmps241 rfl rfl ?_
 have hLn:LN<14474011154664524427946373126085988481714232718759815212003901876570908501978:=by unfold LN;decide
 have hS:A+B<115792089237316195423570985008687907853269984665640564039457584007913129639936:=by omega
 repeat (first|(refine TL.isAsg ?_;refine TL.pure rfl rfl ?_)|refine TL.nil ?_|refine thenQ_normal ?_|refine T.seq ?_|refine T.region ?_|refine T.block ?_|(refine TL.isBox ?_;(refine TL.boxA rfl rfl ?_;intro bk w' hg hbk hsz hsz'))|(refine TL.isAlloc ?_;(refine TL.alloc rfl rfl ?_;intro bk w' hg hbk hsz hsz')))
 rename_i b2 w2 g2 k2 s2 t2 b3 w3 g3 k3 s3 t3 b4 w4 g4 k4 s4 t4
 obtain ⟨b5,rfl⟩:∃ q,q=bk:=⟨_,rfl⟩
 have m2:Blk w' b2 269 (numL A):=by exact yB
 have m3:Blk w' b3 269 (numL B):=by exact yB
 have m4:Blk w' b4 269 zeros:=by exact yB
 have m5:Blk w' b5 269 (numL ((A+B)%256^0)):=by rw [Nat.pow_zero,Nat.mod_one];exact hbk
 have hG:Grow w w':=by exact yG
 have n25:b2≠b5:=by omega
 have n35:b3≠b5:=by omega
 have n45:b4≠b5:=by omega
 have hw4:w.heap.size≤b4:=by omega
 have hw5:w.heap.size≤b5:=by omega
 clear k2 k3 k4 hbk g2 g3 g4 hg
 refine T.loop (S:=Nat) (λ k=>[(6,.int .i64 (cryN A B k:Int)),(7,.int .i64 (k:Int)),(2,.pointer (some ⟨b2,0,none⟩)),(3,.pointer (some ⟨b3,0,none⟩)),(4,.pointer (some ⟨b4,0,none⟩)),(5,.pointer (some ⟨b5,0,none⟩))])
  (λ k v=>k≤32∧Blk v b2 269 (numL A)∧Blk v b3 269 (numL B)∧Blk v b4 269 zeros∧Blk v b5 269 (numL ((A+B)%256^k))∧Grow w v) (λ k=>32-k) 0 ⟨by rw [show cryN A B 0=0 by unfold cryN;simp [Nat.mod_one]];rfl,rfl,rfl,rfl,rfl,rfl,trivial⟩
  ⟨by omega,m2,m3,m4,m5,hG⟩ ?_
 clear m2 m3 m4 m5 hG s2 t2 s3 t3 s4 t4 hsz hsz'
 rintro k v ⟨hk,m2,m3,m4,m5,hG⟩
 have l2:=m2.lt
 have l3:=m3.lt
 have l4:=m4.lt
 have l5:=m5.lt
 rcases Nat.lt_or_ge k 32 with hk32|hge
 ·have ha:=byteN_lt A k
  have hb:=byteN_lt B k
  have hc:=cry_le A B k
  repeat (first|(refine TL.isMove ?_;refine TL.pure rfl rfl ?_)|refine TL.nil ?_|refine thenQ_normal ?_|refine T.seq ?_|refine T.region ?_|refine T.block ?_|(refine TL.isBin ?_;refine TL.pureT rfl yD rfl ?_)|refine T.cond_true rfl ?_|refine T.skip ?_)
  apply T.any 11 [is _,is _,is _,is _,is _,is _,is _,is _,is _,is _,is _];(· kernel_rfl);(· ((repeat' (first|exact allDo_end|refine allDo_cons ?_ ?_));(iterate 11 (· ((refine does_mk0 rfl rfl rfl ?_);( intro wq _ _ hgq;(repeat (refine need_cons rfl rfl ?_;intro vq hvq;try (obtain rfl:=hvq)));(refine need_nil ?_));(repeat (first|(refine TL.isMove ?_;refine TL.pure rfl rfl ?_)|(refine TL.isIndex ?_;refine TL.indexA1 rfl rfl (by omega) rfl ?_)|(refine TL.isAdd ?_;refine TL.addN rfl rfl (by omega) rfl ?_)|refine TL.nil ?_|(refine TL.isConv ?_;refine TL.convN rfl (by omega) rfl ?_)|(refine TL.isLoad ?_;refine TL.load1 rfl (Blk.cell yB (numL_at hk32)) rfl ?_)));exact one_end rfl yG rfl)))));(rintro _ _ _ hgr _ _;(repeat (refine need_cons rfl rfl ?_;intro vq hvq;try (obtain rfl:=hvq)));(refine need_nil ?_))
  repeat (first|(refine TL.isMove ?_;refine TL.pure rfl rfl ?_)|(refine TL.isAsg ?_;refine TL.pure rfl rfl ?_)|(refine TL.isIndex ?_;refine TL.indexA1 rfl rfl (by omega) rfl ?_)|refine TL.nil ?_|refine thenQ_normal ?_|refine T.seq ?_|refine T.region ?_|(refine TL.isRem ?_;refine TL.remU rfl rfl (by omega) rfl ?_)|(refine TL.isConv ?_;refine TL.convU rfl rfl (by omega) rfl ?_))
  refine TL.storeS rfl rfl yB (by exact rfl) (by rw [numL_len];omega) ?_
  intro w3 hu3 hbk3 hsz3
  replace hbk3:=(put_low hk32 (sum_byte A B k))▸hbk3
  repeat (first|(refine TL.isMove ?_;refine TL.pure rfl rfl ?_)|(refine TL.isAsg ?_;refine TL.pure rfl rfl ?_)|(refine TL.isAdd ?_;refine TL.addN rfl rfl (by omega) rfl ?_)|refine TL.nil ?_|refine thenQ_normal ?_|refine T.region ?_|refine blockQ_normal ?_|(refine TL.isQuo ?_;refine TL.quoN rfl rfl (by omega) (by omega) rfl ?_))
  exact loopQ_normal (k+1) ⟨by rw [← sum_next];rfl,rfl,rfl,rfl,rfl,rfl,trivial⟩ ⟨by omega,yB,yB,yB,hbk3,yG⟩ (by omega)
 obtain rfl:k=32:=by omega
 replace m5:Blk v b5 269 (numL (A+B)):=by rw [Nat.mod_eq_of_lt (show A+B<256^32 from hS)] at m5;exact m5
 clear hk hge
 generalize cryN A B 32=cc at *
 repeat (first|(refine TL.isMove ?_;refine TL.pure rfl rfl ?_)|refine TL.nil ?_|refine thenQ_normal ?_|refine T.seq ?_|refine T.region ?_|(refine TL.isBin ?_;refine TL.pureF rfl yD rfl ?_)|refine T.cond_false rfl ?_|refine T.exit ?_|refine thenQ_exit ?_|refine blockQ_hit ?_|refine loopQ_exit ?_)
 apply T.any 3 [is _,is _,is _];(· kernel_rfl);(· ((repeat' (first|exact allDo_end|refine allDo_cons ?_ ?_));(iterate 3 (· ((refine does_mk0 rfl rfl rfl ?_);( intro wq _ _ hgq;(repeat (refine need_cons rfl rfl ?_;intro vq hvq;try (obtain rfl:=hvq)));(refine need_nil ?_));(repeat (first|(refine TL.isLoad ?_;refine TL.loadW rfl yB (by exact rfl) rfl ?_)|refine TL.nil ?_|(refine TL.isFn 324 ?_;refine TL.call rfl (l_c _) rfl ?_;rintro _ _ ⟨rfl,hgc⟩)|(refine TL.isFn 323 ?_;refine TL.call rfl (below_c (A+B) LN hS (by unfold LN;decide) _) rfl ?_;rintro _ _ ⟨rfl,hgc⟩)));exact one_end rfl yG rfl)))));(rintro _ _ _ hgr _ _;(repeat (refine need_cons rfl rfl ?_;intro vq hvq;try (obtain rfl:=hvq)));(refine need_nil ?_))
 by_cases hlt:A+B<LN
 ·repeat (first|(refine TL.isLoad ?_;refine TL.loadW rfl yB (by exact rfl) rfl ?_)|refine TL.nil ?_|refine thenQ_normal ?_|refine T.seq ?_|refine T.region ?_|(refine TL.isStore ?_;(refine TL.storeWh rfl rfl yB (by exact rfl) (by exact rfl) (by exact rfl) ?_;intro w' hu hbk hsz))|refine T.cond_yes rfl yD ?_|refine T.ret ?_|refine thenQ_ret ?_)
  exact retC rfl (load_whole (by assumption) rfl) ⟨_,rfl,by rw [Nat.mod_eq_of_lt hlt],yG⟩
 repeat (first|(refine TL.isAsg ?_;refine TL.pure rfl rfl ?_)|refine TL.nil ?_|refine thenQ_normal ?_|refine T.seq ?_|refine T.region ?_|refine T.block ?_|(refine TL.isStore ?_;(refine TL.storeWh rfl rfl yB (by exact rfl) (by exact rfl) (by exact rfl) ?_;intro w' hu hbk hsz))|(refine TL.isAlloc ?_;(refine TL.alloc rfl rfl ?_;intro bk w' hg hbk hsz hsz'))|refine T.cond_no rfl yD ?_|refine T.skip ?_|(refine TL.isFn 324 ?_;refine TL.call rfl (l_c _) rfl ?_;rintro _ _ ⟨rfl,hgc⟩))
 obtain ⟨b8,rfl⟩:∃ q,q=bk:=⟨_,rfl⟩
 have hle:LN≤A+B:=by omega
 have hgv:=hgr.2
 have q4:Blk w' b4 269 zeros:=by exact yB
 have q5:Blk w' b5 269 (numL (mixN (A+B-LN) (A+B) 0)):=by rw [mix_0];exact yB
 have q8:Blk w' b8 269 (numL LN):=hbk
 have hG2:Grow w w':=by exact yG
 have n85:b8≠b5:=by have:=hgc.2;omega
 clear m2 m3 m4 m5 hG hgr hbk l2 l3 l4 l5
 have hneg:Value.int .i64 (0:Int)=.int .i64 (-((bwN (A+B) LN 0:Nat):Int)):=by rw [show bwN (A+B) LN 0=0 by unfold bwN;rw [if_neg (by simp [Nat.mod_one])]];rfl
 refine T.loop (S:=Nat) (λ k=>[(6,.int .i64 (-((bwN (A+B) LN k:Nat):Int))),(9,.int .i64 (k:Int)),(4,.pointer (some ⟨b4,0,none⟩)),(5,.pointer (some ⟨b5,0,none⟩)),(8,.pointer (some ⟨b8,0,none⟩))])
  (λ k v=>k≤32∧Blk v b4 269 zeros∧Blk v b5 269 (numL (mixN (A+B-LN) (A+B) k))∧Blk v b8 269 (numL LN)∧Grow w v) (λ k=>32-k) 0 ⟨by rw [← hneg];rfl,rfl,rfl,rfl,rfl,trivial⟩
  ⟨by omega,q4,q5,q8,hG2⟩ ?_
 clear q4 q5 q8 hG2 hneg
 rintro k v ⟨hk,m4,m5,m8,hG⟩
 have l4:=m4.lt
 have l5:=m5.lt
 have l8:=m8.lt
 rcases Nat.lt_or_ge k 32 with hk32|hge
 ·have ha:=byteN_lt (A+B) k
  have hb:=byteN_lt LN k
  have hc:=bw_le (A+B) LN k
  obtain ⟨d1,d2⟩:=dif_byte hle k
  repeat (first|(refine TL.isMove ?_;refine TL.pure rfl rfl ?_)|refine TL.nil ?_|refine thenQ_normal ?_|refine T.seq ?_|refine T.region ?_|refine T.block ?_|(refine TL.isBin ?_;refine TL.pureT rfl yD rfl ?_)|refine T.cond_true rfl ?_|refine T.skip ?_)
  apply T.any 11 [is _,is _,is _,is _,is _,is _,is _,is _,is _,is _,is _];(· kernel_rfl);(· ((repeat' (first|exact allDo_end|refine allDo_cons ?_ ?_));(iterate 11 (· ((refine does_mk0 rfl rfl rfl ?_);( intro wq _ _ hgq;(repeat (refine need_cons rfl rfl ?_;intro vq hvq;try (obtain rfl:=hvq)));(refine need_nil ?_));(repeat (first|(refine TL.isMove ?_;refine TL.pure rfl rfl ?_)|(refine TL.isIndex ?_;refine TL.indexA1 rfl rfl (by omega) rfl ?_)|(refine TL.isAdd ?_;refine TL.addI rfl rfl (by omega) (by omega) rfl ?_)|(refine TL.isSub ?_;refine TL.subI rfl rfl (by omega) (by omega) rfl ?_)|refine TL.nil ?_|(refine TL.isConv ?_;refine TL.convN rfl (by omega) rfl ?_)|(refine TL.isLoad ?_;refine TL.load1 rfl (Blk.cell yB (mix_at (D:=A+B-LN) (S:=A+B) hk32)) rfl ?_)|(refine TL.isLoad ?_;refine TL.load1 rfl (Blk.cell yB (numL_at (N:=LN) hk32)) rfl ?_)));exact one_end rfl yG rfl)))));(rintro _ _ _ hgr _ _;(repeat (refine need_cons rfl rfl ?_;intro vq hvq;try (obtain rfl:=hvq)));(refine need_nil ?_))
  obtain ⟨n,hn⟩:∃ n:Nat,n=byteN (A+B) k+256-byteN LN k-bwN (A+B) LN k:=⟨_,rfl⟩
  rw [← hn] at d1
  rw [show ((byteN (A+B) k:Nat):Int)-((byteN LN k:Nat):Int) + -((bwN (A+B) LN k:Nat):Int)=(n:Int)-256 by omega]
  have hn2:n<512:=by omega
  repeat (first|(refine TL.isMove ?_;refine TL.pure rfl rfl ?_)|(refine TL.isAsg ?_;refine TL.pure rfl rfl ?_)|(refine TL.isAdd ?_;refine TL.addI rfl rfl (by omega) (by omega) rfl ?_)|refine TL.nil ?_|refine thenQ_normal ?_|refine T.seq ?_|refine T.region ?_)
  rw [show ((n:Int)-256+256)=(n:Int) by omega]
  repeat (first|(refine TL.isIndex ?_;refine TL.indexA1 rfl rfl (by omega) rfl ?_)|(refine TL.isRem ?_;refine TL.remU rfl rfl (by omega) rfl ?_)|(refine TL.isConv ?_;refine TL.convU rfl rfl (by omega) rfl ?_))
  refine TL.storeS rfl rfl yB (by exact rfl) (by rw [numL_len];omega) ?_
  intro w3 hu3 hbk3 hsz3
  replace hbk3:=(put_mix hk32 d1)▸hbk3
  by_cases hlt2:n<256
  ·repeat (first|(refine TL.isMove ?_;refine TL.pure rfl rfl ?_)|(refine TL.isAsg ?_;refine TL.pure rfl rfl ?_)|(refine TL.isAdd ?_;refine TL.addN rfl rfl (by omega) rfl ?_)|refine TL.nil ?_|refine thenQ_normal ?_|refine T.seq ?_|refine T.region ?_|refine blockQ_normal ?_|(refine TL.isBin ?_;refine TL.pureT rfl yD rfl ?_)|refine T.cond_true rfl ?_)
   exact loopQ_normal (k+1) ⟨by rw [d2,if_pos (by omega)];rfl,rfl,rfl,rfl,rfl,trivial⟩ ⟨by omega,yB,hbk3,yB,yG⟩ (by omega)
  ·repeat (first|(refine TL.isMove ?_;refine TL.pure rfl rfl ?_)|(refine TL.isAsg ?_;refine TL.pure rfl rfl ?_)|(refine TL.isAdd ?_;refine TL.addN rfl rfl (by omega) rfl ?_)|refine TL.nil ?_|refine thenQ_normal ?_|refine T.seq ?_|refine T.region ?_|refine blockQ_normal ?_|(refine TL.isBin ?_;refine TL.pureF rfl yD rfl ?_)|refine T.cond_false rfl ?_)
   exact loopQ_normal (k+1) ⟨by rw [d2,if_neg (by omega)];rfl,rfl,rfl,rfl,rfl,trivial⟩ ⟨by omega,yB,hbk3,yB,yG⟩ (by omega)
 obtain rfl:k=32:=by omega
 replace m5:Blk v b5 269 (numL (A+B-LN)):=by rw [mix_32 (by omega) hS] at m5;exact m5
 clear hk hge
 generalize bwN (A+B) LN 32=cc at *
 repeat (first|(refine TL.isMove ?_;refine TL.pure rfl rfl ?_)|(refine TL.isLoad ?_;refine TL.loadW rfl yB (by exact rfl) rfl ?_)|refine TL.nil ?_|refine thenQ_normal ?_|refine T.seq ?_|refine T.region ?_|(refine TL.isBin ?_;refine TL.pureF rfl yD rfl ?_)|(refine TL.isStore ?_;(refine TL.storeWh rfl rfl yB (by exact rfl) (by exact rfl) (by exact rfl) ?_;intro w' hu hbk hsz))|refine T.cond_false rfl ?_|refine T.ret ?_|refine T.exit ?_|refine thenQ_exit ?_|refine blockQ_hit ?_|refine loopQ_exit ?_)
 exact retC rfl (load_whole (by assumption) rfl) ⟨_,rfl,by rw [Nat.mod_eq_sub_mod hle,Nat.mod_eq_of_lt (by omega)],yG⟩
end Go.Proofs.YtoldjgmcoekchaaGreatDoor
namespace Go.Proofs.YtoldjgmcoekchaaGreatDoor
open Go Go.RowKit Go.V Go.E
set_option maxRecDepth 100000
theorem numL_bJ (N:Nat):numL N=bcells 32 N:=by
 letI:Gl:=glI
 apply List.ext_getElem?
 intro i
 rcases Nat.lt_or_ge i 32 with h|h
 ·rw [numL_at h,bcells_get h];rfl
 ·rw [List.getElem?_eq_none (by rw [numL_len];exact h),List.getElem?_eq_none (by rw [length_bcells];exact h)]
def pmJ:Nat→Nat→Nat→Nat
 | 0,_,_=>1
 | f+1,a,e=>bif Nat.beq (Nat.mod e 2) 1 then Nat.mod (Nat.mul (pmJ f (Nat.mod (Nat.mul a a) p25519) (Nat.div e 2)) a) p25519 else pmJ f (Nat.mod (Nat.mul a a) p25519) (Nat.div e 2)
theorem pmJ_eq:∀ (f a e:Nat),e<2^f→pmJ f a e=a^e%p25519
 | 0,a,e,h=>by
  have:e=0:=by simpa using h
  subst this
  rfl
 | f+1,a,e,h=>by
  have ih:=pmJ_eq f (a*a%p25519) (e / 2) (by rw [Nat.pow_succ] at h;omega)
  have e0:(a*a%p25519)^(e / 2)%p25519=(a*a)^(e / 2)%p25519:=by rw [← Nat.pow_mod]
  have e1:(a*a)^(e / 2)=a^(2*(e / 2)):=by rw [Nat.pow_mul,Nat.pow_two]
  rw [e0,e1] at ih
  show (bif Nat.beq (e%2) 1 then pmJ f (a*a%p25519) (e / 2)*a%p25519 else pmJ f (a*a%p25519) (e / 2))=_
  rw [ih]
  cases hb:Nat.beq (e%2) 1 with
  | true =>
   have h2:=Nat.eq_of_beq_eq_true hb
   rw [cond_true,Nat.mod_mul_mod,← Nat.pow_succ]
   congr 2
   omega
  | false =>
   have h2:=Nat.ne_of_beq_eq_false hb
   rw [cond_false]
   congr 2
   omega
def wdRow (n:Nat):Ex→List Value→Prop
 | .f 255 (.c a) _,cs=>n=10∧∃ ws,Rep ws a∧cs=wL ws
 | _,_=>False
theorem wdRow_len (n:Nat) (x:Ex) (cs:List Value) (h:wdRow n x cs):cs.length=n:=by
 unfold wdRow at h
 split at h
 ·obtain ⟨rfl,ws,hr,rfl⟩:=h
  rw [wL_len];exact hr.1.len
 ·exact h.elim
theorem wdRow_one (n:Nat) (x:Ex) (cs:List Value) (h:wdRow n x cs):∀ v∈cs,v.oneCell'=true:=by
 unfold wdRow at h
 split at h
 ·obtain ⟨rfl,ws,hr,rfl⟩:=h
  intro v hv
  unfold wL at hv
  obtain ⟨x,_,rfl⟩:=List.mem_map.1 hv
  rfl
 ·exact h.elim
@[reducible] def glW:Gl:={ tab:=glTab,den:=λ e=>match e with|.c s=>s|_=>1208925819614629174706176,den_c:=λ _=>rfl,cmp:=λ _ _=>none,cmp_ok:=(λ _ _ _ h=>by cases h),row:=wdRow,row_len:=wdRow_len,row_one:=wdRow_one }
attribute [local instance] glW
def goodB:List Nat→Bool
 | [w0,w1,w2,w3,w4,w5,w6,w7,w8,w9]=>two (two (two (Nat.blt w0 67109120) (Nat.blt w1 33554432)) (two (Nat.blt w2 67108864) (Nat.blt w3 33554432))) (two (two (two (Nat.blt w4 67108864) (Nat.blt w5 33554432)) (two (Nat.blt w6 67108864) (Nat.blt w7 33554432))) (two (Nat.blt w8 67108864) (Nat.blt w9 33554432)))
 | _=>false
theorem goodB_ok {ws:List Nat} (h:goodB ws=true):Good ws:=by
 unfold goodB at h
 split at h
 ·have t:∀ {a b:Bool},two a b=true→a=true∧b=true:=by intro a b h;cases a<;>simp_all [two]
  have l:∀ {a b:Nat},Nat.blt a b=true→a<b:=λ h=>Nat.le_of_ble_eq_true h
  obtain ⟨h1,h2⟩:=t h
  obtain ⟨h3,h4⟩:=t h1
  obtain ⟨h5,h6⟩:=t h2
  obtain ⟨a1,a2⟩:=t h3
  obtain ⟨a3,a4⟩:=t h4
  obtain ⟨h7,h8⟩:=t h5
  obtain ⟨a5,a6⟩:=t h7
  obtain ⟨a7,a8⟩:=t h8
  obtain ⟨a9,a10⟩:=t h6
  exact ⟨l a1,l a2,l a3,l a4,l a5,l a6,l a7,l a8,l a9,l a10⟩
 ·cases h
def intsB:List A→Option (List Nat)
 | []=>some []
 | .int .i64 n::l=>match intsB l with|some r=>bif Nat.blt n 9223372036854775808 then some (n::r) else none|none=>none
 | _=>none
def tenOf:V→Option Nat
 | .agg (.op n (.f 255 (.c a) _))=>bif Nat.beq n 10 then some a else none
 | .agg r=>bif Nat.beq r.len 10 then (match r.atoms 10 0 with
  | some l=>(match intsB l with|some ws=>bif goodB ws then some (Nat.mod (V10 ws) p25519) else none|none=>none)
  | none=>none) else none
 | _=>none
section
variable [LoopTab]
theorem atoms_get {ρ : Plc} {r:Rope} {cs:List Value} (h:RR ρ r cs):∀ (n i:Nat) (l:List A),r.atoms n i=some l→l.length=n∧∀ (j:Nat) a,l[j]? = some a→∃ v,cs[i+j]? = some v∧AR ρ a v
 | 0,i,l,e=>by cases e;exact ⟨rfl,λ j a h=>by simp at h⟩
 | n+1,i,l,e=>by
  unfold Rope.atoms at e
  split at e
  ·rename_i a ha
   split at e
   ·rename_i l' hl
    cases e
    obtain ⟨h1,h2⟩:=atoms_get h n (Nat.succ i) l' hl
    refine ⟨by simp [h1],λ j b hb=>?_⟩
    cases j with
    | zero =>
     cases hb
     obtain ⟨v,hv,hav⟩:=h.get ha
     exact ⟨v,hv,hav⟩
    | succ j =>
     obtain ⟨v,hv,hav⟩:=h2 j b (by simpa using hb)
     exact ⟨v,by rw [show i+(j+1)=Nat.succ i+j by show i+(j+1)=i+1+j;omega];exact hv,hav⟩
   ·cases e
  ·cases e
theorem intsB_get:∀ {l:List A} {ws:List Nat},intsB l=some ws→∀ {cs:List Value},cs.length=l.length→∀ {ρ : Plc},(∀ (j:Nat) a,l[j]? = some a→∃ v,cs[j]? = some v∧AR ρ a v)→cs=wL ws
 | [],ws,e,cs,hl,ρ,h=>by
  cases e
  have:cs=[]:=List.eq_nil_of_length_eq_zero (by simpa using hl)
  subst this
  unfold wL;rfl
 | a::l,ws,e,cs,hl,ρ,h=>by
  unfold intsB at e
  split at e<;>first|(cases e;done)|skip
  ·rename_i he;cases he
  ·rename_i n l' he
   cases he
   split at e
   ·rename_i r hr
    cases hn:Nat.blt n 9223372036854775808 with
    | false=>rw [hn] at e;cases e
    | true =>
     rw [hn] at e
     cases e
     cases cs with
     | nil=>simp at hl
     | cons c cs =>
      obtain ⟨v,hv,hav⟩:=h 0 _ rfl
      cases hv
      have ih:=intsB_get hr (cs:=cs) (by simpa using hl) (ρ:=ρ) λ j a hj=>by simpa using h (j+1) a (by simpa using hj)
      have hlt:n<9223372036854775808:=Nat.le_of_ble_eq_true hn
      cases hav with
      | int _ _ hh =>
       rw [wrap_lo (k:=.i64) hlt,ih]
       unfold wL;rfl
   ·cases e
theorem tenOf_ok {v:V} {a:Nat} (h:tenOf v=some a) {ρ : Plc} {y:Value} (hv:VR ρ v y):∃ ws,y=tenV ws∧Rep ws a:=by
 unfold tenOf at h
 split at h
 ·rename_i n b c
  cases hn:Nat.beq n 10 with
  | false=>rw [hn] at h;cases h
  | true =>
   rw [hn] at h
   cases h
   cases hv with
   | agg _ cs hr =>
    cases hr with
    | ops _ _ hlt =>
     cases Nat.eq_of_beq_eq_true hn
     exact absurd (show (1208925819614629174706176:Nat)<256^10 from hlt) (by decide)
    | wds _ _ _ hw hrow =>
     obtain ⟨_,ws,h1,rfl⟩:=hrow
     exact ⟨ws,rfl,h1⟩
 ·rename_i r hne
  cases hn:Nat.beq r.len 10 with
  | false=>rw [hn] at h;cases h
  | true =>
   rw [hn,cond_true] at h
   split at h
   ·rename_i l hl
    split at h
    ·rename_i ws hws
     cases hg:goodB ws with
     | false=>rw [hg] at h;cases h
     | true =>
      rw [hg] at h
      cases h
      cases hv with
      | agg _ cs hr =>
       obtain ⟨h1,h2⟩:=atoms_get hr 10 0 l hl
       have hlen:cs.length=l.length:=by rw [h1,← hr.len];exact Nat.eq_of_beq_eq_true hn
       have hcs:=intsB_get hws hlen (ρ:=ρ) λ j a hj=>by simpa using h2 j a hj
       refine ⟨ws,by rw [hcs],goodB_ok hg,?_⟩
       exact (Nat.mod_mod _ _).symm
    ·cases h
   ·cases h
 ·cases h
def nB:V→Option Nat
 | .agg r=>match r.bytes with
  | some (n,s)=>bif Nat.beq n 32 then some s else none
  | none=>none
 | _=>none
theorem nB_ok {v:V} {s:Nat} (h:nB v=some s) {ρ : Plc} {y:Value} (hv:VR ρ v y):y=num s∧s<115792089237316195423570985008687907853269984665640564039457584007913129639936:=by
 unfold nB at h
 split at h
 ·rename_i r
  split at h
  ·rename_i n s' hb
   cases h1:Nat.beq n 32 with
   | false=>rw [h1] at h;cases h
   | true =>
    rw [h1] at h
    cases h
    cases Nat.eq_of_beq_eq_true h1
    cases hv with
    | agg _ cs hr =>
     obtain ⟨rfl,hlt⟩:=rope_bytes hr hb
     exact ⟨by rw [← numL_bJ],hlt⟩
  ·cases h
 ·cases h
theorem by_vr {n:Nat} (h:n<115792089237316195423570985008687907853269984665640564039457584007913129639936) (ρ : Plc):VR ρ (.agg (.by 32 n)) (num n):=by
 rw [show num n=.agg (bcells 32 n).toArray by rw [← numL_bJ]]
 exact .agg _ _ (.bys 32 n h)
noncomputable def conNum (g:List V→Option Nat) (out:Nat→V):Con:=⟨λ bad vs h _ _ nx k=>match g vs with
 | some n=>E.nK n λ n=>k (out n) h nx
 | none=>bad⟩
def NumOk (f:FuncId) (g:List V→Option Nat) (out:Nat→V):Prop:=∀ vs n,g vs=some n→∀ ρ xs w,VRs ρ vs xs→Calls Tryz.prog f xs.toArray w (Ret λ x w'=>VR ρ (out n) x∧Grow w w')
theorem conNum_ok {f:FuncId} {fi:FI} (hf:E.FnOk Tryz.prog f fi) {g:List V→Option Nat} {out:Nat→V} (hg:NumOk f g out):ConOk Tryz.prog f (conNum g out):=by
 intro R bad fl fd hfl vs h nx k
 show Out bad (match g vs with|some n=>E.nK n λ n=>k (out n) h nx|none=>bad) _
 cases hv:g vs with
 | none=>exact .inl rfl
 | some n =>
  dsimp only
  rw [E.nK_eq]
  refine .inr ⟨out n,h,nx,λ ρ w xs c hc hvs hr=>?_,rfl⟩
  cases hc
  show Res _ _ ((callFunc f xs.toArray).run _ w)
  rw [enters_of hf]
  exact Calls.mono (hg vs n hv ρ xs w hvs) λ en w' ⟨x,h1,h2,h3⟩=>⟨x,h1,ρ,h2,Stp.ofGrow hr h3⟩
theorem conNum_p (g:List V→Option Nat) (out:Nat→V):S.ConP (conNum g out):=by
 intro vs h fl fd nx
 show S.Par λ k:S.Out3→Bool=>match g vs with|some n=>E.nK n λ n=>k (out n,h,nx)|none=>false
 cases g vs with
 | none=>exact S.Par.bad
 | some n=>simp only [E.nK_eq];exact S.Par.pure (α:=S.Out3) _
def two2 (p:V→Option Nat) (F:Nat→Nat→Nat):List V→Option Nat
 | [u,v]=>match p u,p v with
  | some s,some t=>some (F s t)
  | _,_=>none
 | _=>none
def one1 (p:V→Option Nat) (F:Nat→Nat):List V→Option Nat
 | [u]=>match p u with
  | some s=>some (F s)
  | none=>none
 | _=>none
abbrev byO (n:Nat):V:=.agg (.by 32 n)
abbrev wdO (n:Nat):V:=.agg (.op 10 (.f 255 (.c n) (.c 0)))
theorem wdO_vr {n:Nat} {ws:List Nat} (h:Rep ws n) (ρ : Plc):VR ρ (wdO n) (tenV ws):=.agg _ _ (.wds _ _ _ rfl ⟨rfl,ws,h,rfl⟩)
theorem p_big:p25519<115792089237316195423570985008687907853269984665640564039457584007913129639936:=by decide
theorem mod_b (a:Nat):Nat.mod a p25519<115792089237316195423570985008687907853269984665640564039457584007913129639936:=Nat.lt_trans (Nat.mod_lt _ (by decide)) p_big
theorem n2_ok {f:FuncId} {F:Nat→Nat→Nat} (hb:∀ a b,F a b<115792089237316195423570985008687907853269984665640564039457584007913129639936)
  (h:∀ N M,N<115792089237316195423570985008687907853269984665640564039457584007913129639936→M<115792089237316195423570985008687907853269984665640564039457584007913129639936→∀ w,Calls Tryz.prog f #[num N,num M] w (Ret λ v w'=>v=num (F N M)∧Grow w w')):NumOk f (two2 nB F) byO:=by
 intro vs n hv ρ xs w hvs
 unfold two2 at hv
 split at hv
 ·split at hv
  ·rename_i s t hx hy
   cases hv
   obtain ⟨a,b,rfl,ha,hbb⟩:=hvs.two
   obtain ⟨rfl,l1⟩:=nB_ok hx ha
   obtain ⟨rfl,l2⟩:=nB_ok hy hbb
   exact (h _ _ l1 l2 w).mono λ en w' ⟨v,e1,e2,e3⟩=>⟨v,e1,by rw [e2];exact by_vr (hb _ _) ρ,e3⟩
  ·cases hv
 ·cases hv
theorem pow_ok:NumOk 332 (two2 nB λ a e=>pmJ 256 a e) byO:=by
 intro vs n hv ρ xs w hvs
 unfold two2 at hv
 split at hv
 ·split at hv
  ·rename_i s t hx hy
   cases hv
   obtain ⟨a,b,rfl,ha,hbb⟩:=hvs.two
   obtain ⟨rfl,l1⟩:=nB_ok hx ha
   obtain ⟨rfl,l2⟩:=nB_ok hy hbb
   show Calls _ _ _ w (Ret λ x w'=>VR ρ (byO (pmJ 256 s t)) x∧Grow w w')
   rw [pmJ_eq 256 s t l2]
   exact (pow_c s t l1 l2 w).mono λ en w' ⟨v,e1,e2,e3⟩=>⟨v,e1,by rw [e2,pw_def];exact by_vr (Nat.lt_trans (Nat.mod_lt _ (by decide)) p_big) ρ,e3⟩
  ·cases hv
 ·cases hv
theorem w2_ok {f:FuncId} {F:Nat→Nat→Nat} {W:List Nat→List Nat→List Nat} (hr:∀ xs ys a b,Rep xs a→Rep ys b→Rep (W xs ys) (F a b))
  (h:∀ xs ys,Good xs→Good ys→∀ w,Calls Tryz.prog f #[tenV xs,tenV ys] w (Ret λ v w'=>v=tenV (W xs ys)∧Grow w w')):NumOk f (two2 tenOf F) wdO:=by
 intro vs n hv ρ xs w hvs
 unfold two2 at hv
 split at hv
 ·split at hv
  ·rename_i s t hx hy
   cases hv
   obtain ⟨a,b,rfl,ha,hbb⟩:=hvs.two
   obtain ⟨us,rfl,l1⟩:=tenOf_ok hx ha
   obtain ⟨ys,rfl,l2⟩:=tenOf_ok hy hbb
   exact (h _ _ l1.1 l2.1 w).mono λ en w' ⟨v,e1,e2,e3⟩=>⟨v,e1,by rw [e2];exact wdO_vr (hr _ _ _ _ l1 l2) ρ,e3⟩
  ·cases hv
 ·cases hv
theorem open_ok:NumOk 312 (one1 nB λ a=>Nat.mod a p25519) wdO:=by
 intro vs n hv ρ xs w hvs
 unfold one1 at hv
 split at hv
 ·split at hv
  ·rename_i s hx
   cases hv
   obtain ⟨a,rfl,ha⟩:=hvs.one
   obtain ⟨rfl,l1⟩:=nB_ok hx ha
   exact (open_c s w).mono λ en w' ⟨v,e1,e2,e3⟩=>⟨v,e1,by rw [e2];exact wdO_vr (rep_mod (rep_open l1) (Nat.mod_mod _ _).symm) ρ,e3⟩
  ·cases hv
 ·cases hv
theorem close_ok:NumOk 318 (one1 tenOf λ a=>Nat.mod a p25519) byO:=by
 intro vs n hv ρ xs w hvs
 unfold one1 at hv
 split at hv
 ·split at hv
  ·rename_i s hx
   cases hv
   obtain ⟨a,rfl,ha⟩:=hvs.one
   obtain ⟨us,rfl,l1⟩:=tenOf_ok hx ha
   exact (close_c us l1.1 w).mono λ en w' ⟨v,e1,e2,e3⟩=>⟨v,e1,by rw [e2,l1.2];exact by_vr (mod_b _) ρ,e3⟩
  ·cases hv
 ·cases hv
theorem LN_lt:LN<115792089237316195423570985008687907853269984665640564039457584007913129639936:=by unfold LN;decide
def plusL (u v:Nat):Option Nat:=bif two (Nat.blt u LN) (Nat.blt v LN) then some (Nat.mod (Nat.add u v) LN) else none
def gPlus4:List V→Option Nat
 | [u,v]=>match nB u,nB v with
  | some s,some t=>plusL s t
  | _,_=>none
 | _=>none
theorem plus4_ok:NumOk 241 gPlus4 byO:=by
 intro vs n hv ρ xs w hvs
 unfold gPlus4 at hv
 split at hv
 ·split at hv
  ·rename_i s t hx hy
   unfold plusL at hv
   cases hc:two (Nat.blt s LN) (Nat.blt t LN) with
   | false=>rw [hc] at hv;cases hv
   | true =>
    rw [hc] at hv
    cases hv
    obtain ⟨h1,h2⟩:s<LN∧t<LN:=by
     have:Nat.blt s LN=true∧Nat.blt t LN=true:=by revert hc;cases Nat.blt s LN<;>simp_all [two]
     exact ⟨Nat.le_of_ble_eq_true this.1,Nat.le_of_ble_eq_true this.2⟩
    obtain ⟨a,b,rfl,ha,hbb⟩:=hvs.two
    obtain ⟨rfl,l1⟩:=nB_ok hx ha
    obtain ⟨rfl,l2⟩:=nB_ok hy hbb
    exact (plus_s s t h1 h2 w).mono λ en w' ⟨v,e1,e2,e3⟩=>⟨v,e1,by rw [e2];exact by_vr (Nat.lt_trans (Nat.mod_lt _ (by unfold LN;decide)) LN_lt) ρ,e3⟩
  ·cases hv
 ·cases hv
end
theorem conPow_ok [LoopTab]:ConOk Tryz.prog 332 (conNum (two2 nB λ a e=>pmJ 256 a e) byO):=conNum_ok fn332 pow_ok
theorem conMul_ok [LoopTab]:ConOk Tryz.prog 247 (conNum (two2 nB λ a b=>Nat.mod (Nat.mul a b) p25519) byO):=conNum_ok fn247 (n2_ok (λ a b=>mod_b _) mul_c)
theorem conAdd_ok [LoopTab]:ConOk Tryz.prog 250 (conNum (two2 nB λ a b=>Nat.mod (Nat.add a b) p25519) byO):=conNum_ok fn250 (n2_ok (λ a b=>mod_b _) add_c)
theorem conSub_ok [LoopTab]:ConOk Tryz.prog 248 (conNum (two2 nB λ a b=>Nat.mod (Nat.add a (Nat.sub p25519 (Nat.mod b p25519))) p25519) byO):=conNum_ok fn248 (n2_ok (λ a b=>mod_b _) sub_c)
theorem conOpen_ok [LoopTab]:ConOk Tryz.prog 312 (conNum (one1 nB λ a=>Nat.mod a p25519) wdO):=conNum_ok fn312 open_ok
theorem conClose_ok [LoopTab]:ConOk Tryz.prog 318 (conNum (one1 tenOf λ a=>Nat.mod a p25519) byO):=conNum_ok fn318 close_ok
theorem conPlus_ok [LoopTab]:ConOk Tryz.prog 372 (conNum (two2 tenOf λ a b=>Nat.mod (Nat.add a b) p25519) wdO):=conNum_ok fn372 (w2_ok (λ xs ys a b h1 h2=>rep_mod (rep_plus h1 h2) (Nat.mod_mod _ _).symm) plus_w)
theorem conMinus_ok [LoopTab]:ConOk Tryz.prog 369 (conNum (two2 tenOf λ a b=>Nat.mod (Nat.add a (Nat.sub p25519 (Nat.mod b p25519))) p25519) wdO):=conNum_ok fn369 (w2_ok (λ xs ys a b h1 h2=>rep_mod (rep_minus h1 h2) (Nat.mod_mod _ _).symm) minus_w)
theorem conTimes_ok [LoopTab]:ConOk Tryz.prog 319 (conNum (two2 tenOf λ a b=>Nat.mod (Nat.mul a b) p25519) wdO):=conNum_ok fn319 (w2_ok (λ xs ys a b h1 h2=>rep_mod (rep_times h1 h2) (Nat.mod_mod _ _).symm) times_w)
theorem conPlus4_ok [LoopTab]:ConOk Tryz.prog 241 (conNum gPlus4 byO):=conNum_ok fn241 plus4_ok
end Go.Proofs.YtoldjgmcoekchaaGreatDoor
namespace Go.V
open Go Go.RowKit
theorem callsD {P:Program} {w:World} {f:FuncId} {fn:Func} {c:Code} {args:List Value} {rs:List ResultVar} {R:Ending→World→Prop} {n:Nat} (u:FrameMode)
  (hf:P.funcs[f]? = some fn) (hb:fn.body=some c) (hn:fn.ntmps=n) (hrs:fn.results=rs.toArray) (ha:Nat.ble args.length n=true)
  (h:T P n c (argsFrom 0 args) w (retQ P rs R)):CallsDIn Fence.wide 0 P f args.toArray u w λ e u' w'=>u'=u∧R e w':=by
 have hle:args.length≤n:=Nat.le_of_ble_eq_true ha
 unfold T at h
 refine callsDIn_of_wp hf hb trivial (wpIn_wide.2 (wp_mono (h _ ⟨rfl,?_,?_⟩) ?_))
 ·simp [hn];omega
 ·intro t v hv
  obtain ⟨_,h2⟩:=find_argsFrom args 0 t v hv
  have h3:t<args.length:=by
   rcases Nat.lt_or_ge t args.length with h|h
   ·exact h
   ·simp [List.getElem?_eq_none h] at h2
  simp only [Nat.sub_zero] at h2
  simp only [Array.getD_eq_getD_getElem?]
  rw [Array.getElem?_append_left (by simpa using h3)]
  simp [h2]
 ·intro x a w ⟨e,he,hq⟩
  unfold retQ at hq
  cases x with
  | normal=>obtain ⟨vs,h1,h2⟩:=hq;exact ⟨he.defers,_,results_run he hrs h1,h2⟩
  | ret=>obtain ⟨vs,h1,h2⟩:=hq;exact ⟨he.defers,_,results_run he hrs h1,h2⟩
  | panic ch=>exact ⟨he.defers,hq⟩
  | outgrown=>exact hq
  | exit i=>exact hq
  | goto l=>exact hq
end Go.V
namespace Go.Proofs.YtoldjgmcoekchaaGreatDoor
open Go Go.RowKit Go.V Go.E
set_option maxRecDepth 20000
def dfE:List A→H→Bool
 | [.ptr b o,_,_,_],h=>(match h.get b with
  | some (.cells _ r)=>(match r.get o with|some (.int .i64 n)=>Nat.beq n 0|_=>false)
  | _=>false)
 | _,_=>false
theorem dfE_walk (w:World) (p:Addr) (x1 x2 x3:Value) (hp:w.cell? p=some (.int .i64 0)):CallsDIn Fence.wide 0 Tryz.prog 42 [.pointer (some p),x1,x2,x3].toArray .returning w λ e u' w'=>u'=.returning∧Ret (λ v w'=>Grow w w') e w':=by
 refine callsD .returning Tryz.func42 rfl Tryz.ntmps42 rfl rfl ?_
 repeat (first|(refine TL.isGuard ?_;first|refine TL.guard_skip rfl rfl rfl ?_|refine TL.guard_run rfl rfl rfl ?_|refine TL.guard_yes rfl rfl yD rfl ?_|refine TL.guard_no rfl rfl yD rfl ?_)|(refine TL.isMove ?_;refine TL.pure rfl rfl ?_)|(refine TL.isAsg ?_;refine TL.pure rfl rfl ?_)|(refine TL.isLoad ?_;first|refine TL.load1 rfl yM rfl ?_|refine TL.loadW rfl yB (by exact rfl) rfl ?_|refine TL.loadN rfl yB (by exact rfl) (by exact rfl) rfl ?_)|(refine TL.isIndex ?_;first|refine TL.indexArr rfl rfl (by omega) rfl rfl ?_|refine TL.indexAt rfl rfl (by omega) rfl rfl ?_)|refine TL.fieldAddr rfl rfl ?_|(refine TL.isAdd ?_;first|refine TL.addI rfl rfl (by omega) (by omega) rfl ?_|refine TL.addU rfl rfl rfl (by omega) rfl ?_|refine TL.addW rfl rfl rfl rfl ?_|refine TL.pure rfl rfl ?_)|(refine TL.isSub ?_;first|refine TL.subI rfl rfl (by omega) (by omega) rfl ?_|refine TL.subU rfl rfl rfl (by omega) (by omega) rfl ?_|refine TL.pure rfl rfl ?_)|(refine TL.isMul ?_;first|refine TL.mulI rfl rfl (by omega) (by omega) rfl ?_|refine TL.mulU rfl rfl rfl (by omega) rfl ?_|refine TL.mulW rfl rfl rfl rfl ?_|refine TL.pure rfl rfl ?_)|(refine TL.isAnd ?_;refine TL.andU rfl rfl rfl rfl (by omega) (by omega) rfl ?_)|refine TL.nil ?_|refine thenQ_normal ?_|refine T.seq ?_|refine T.region ?_|refine T.block ?_|refine blockQ_normal ?_|(refine TL.isOr ?_;first|refine TL.orM rfl rfl rfl rfl rfl (by omega) (by omega) rfl rfl ?_|refine TL.orMW rfl rfl rfl rfl rfl (by omega) rfl rfl ?_|refine TL.orL rfl rfl rfl rfl rfl (by omega) rfl rfl ?_)|(refine TL.isShl ?_;first|refine TL.shlU rfl rfl rfl rfl rfl (by omega) rfl ?_|refine TL.shlW rfl rfl rfl rfl rfl rfl ?_)|refine TL.shrU rfl rfl rfl rfl rfl rfl ?_|(refine TL.isBin ?_;first|refine TL.pure rfl rfl ?_|refine TL.eqNil rfl rfl rfl ?_|refine TL.neNil rfl rfl rfl ?_)|(refine TL.isConv ?_;first|refine TL.convU rfl rfl (by omega) rfl ?_|refine TL.convI rfl (by omega) (by omega) rfl ?_|refine TL.convW rfl rfl rfl ?_)|(refine TL.isStore ?_;first|(refine TL.store1 rfl rfl yB (by exact rfl) (by exact rfl) (by exact rfl) ?_;intro w' hu hbk hsz)|(refine TL.storeWh rfl rfl yB (by exact rfl) (by exact rfl) (by exact rfl) ?_;intro w' hu hbk hsz)|(refine TL.storeN rfl rfl yB (by exact rfl) (by exact rfl) (by exact rfl) (by exact rfl) ?_;intro w' hu hbk hsz))|(refine TL.isBox ?_;(refine TL.box rfl rfl rfl ?_;intro bk w' hg hbk hsz hsz'))|(refine TL.isAlloc ?_;(refine TL.alloc rfl rfl ?_;intro bk w' hg hbk hsz hsz'))|(refine TL.isSlice ?_;first|refine TL.sliceArr rfl (bnd_lit rfl) (bnd_lit rfl) (by omega) (by omega) (by omega) rfl rfl ?_|refine TL.sliceArr rfl (bnd_none _) (bnd_lit rfl) (by omega) (by omega) (by omega) rfl rfl ?_|refine TL.sliceArr rfl (bnd_lit rfl) (bnd_none _) (by omega) (by omega) (by omega) rfl rfl ?_|refine TL.sliceArr rfl (bnd_none _) (bnd_none _) (by omega) (by omega) (by omega) rfl rfl ?_)|(refine TL.isBuild ?_;first|refine TL.build rfl rfl rfl ?_|refine TL.buildArr rfl rfl rfl ?_)|refine TL.nilCheck rfl rfl ?_|(refine TL.isBuildS ?_;(refine TL.buildSlice0 rfl ?_;intro bk w' hg hbk hsz hsz'))|(refine TL.isCall ?_;first|refine TL.len_slice rfl rfl ?_|refine TL.min2 rfl rfl rfl ?_)|refine T.cond_true rfl ?_|refine T.cond_false rfl ?_|refine T.cond_yes rfl yD ?_|refine T.cond_no rfl yD ?_|refine T.ret ?_|refine T.skip ?_|refine T.exit ?_|refine thenQ_ret ?_|refine thenQ_exit ?_|refine blockQ_hit ?_|refine blockQ_miss rfl ?_|refine blockQ_ret ?_|refine loopQ_ret ?_|refine loopQ_exit ?_|refine TL.pure rfl rfl ?_|refine TL.load1 rfl hp rfl ?_)
 exact retQ_normal (vs:=[]) rfl rfl ⟨_,rfl,yG⟩
theorem dfE_ok [Gl]:DfOk Tryz.prog 42 dfE:=by
 intro i cs h hc ρ xs w nx hxs hr
 unfold dfE at hc
 split at hc
 ·rename_i b o a1 a2 a3
  split at hc
  ·rename_i t r hb
   split at hc
   ·rename_i n hg
    cases Nat.eq_of_beq_eq_true hc
    obtain ⟨x0,xs,rfl,h0,hxs⟩:∃ x0 ys,xs=x0::ys∧VR ρ (.at (.ptr b o)) x0∧VRs ρ (atL [a1,a2,a3]) ys:=by
     cases hxs with|cons _ x _ ys h1 h2=>exact ⟨x,ys,rfl,h1,h2⟩
    obtain ⟨x1,xs,rfl,h1,hxs⟩:∃ x0 ys,xs=x0::ys∧VR ρ (.at a1) x0∧VRs ρ (atL [a2,a3]) ys:=by
     cases hxs with|cons _ x _ ys h1 h2=>exact ⟨x,ys,rfl,h1,h2⟩
    obtain ⟨x2,x3,rfl,h2,h3⟩:=hxs.two
    have h0:=h0.atom
    cases h0 with
    | ptr _ _ p hp =>
     obtain ⟨arr,fr,cs,k1,k2,k3,k4,k5⟩:=hr.cells hb hp
     obtain ⟨v,g1,g2⟩:=k3.get hg
     have hv:v=.int .i64 0:=by
      cases g2 with
      | int _ _ _=>rfl
     have hcell:w.cell? ⟨p.blk,p.sh+o,none⟩=some (.int .i64 0):=by
      have:=k4 _ _ g1
      rw [hv] at this
      simp [World.cell?,k1,this]
     refine ⟨enters_of fn42 _ w,(dfE_walk w _ x1 x2 x3 hcell).mono λ e u w' ⟨hu,hret⟩=>?_⟩
     cases e with
     | returned v=>obtain ⟨x,hx,hg⟩:=hret;exact ⟨⟨v,rfl⟩,hu,hg⟩
     | panicked ch=>obtain ⟨x,hx,_⟩:=hret;cases hx
     | outgrown=>obtain ⟨x,hx,_⟩:=hret;cases hx
   ·cases hc
  ·cases hc
 ·cases hc
end Go.Proofs.YtoldjgmcoekchaaGreatDoor
namespace Go.E
open Go Go.RowKit Go.V
noncomputable def conSb:Con:=⟨λ bad vs h _ _ nx k=>match vs with
 | [.at (.int .u64 a),.at (.int .u64 b),.at (.int .u64 c)]=>okK bad (Nat.ble c 1) (nK (Nat.mod (Nat.sub (Nat.sub (Nat.add a 18446744073709551616) b) c) 18446744073709551616) λ x=>nK (bif Nat.blt a (Nat.add b c) then 1 else 0) λ y=>k (.tup [.at (.int .u64 x),.at (.int .u64 y)]) h nx)
 | _=>bad⟩
def subF:Array Value→Sem Value:=λ args=>do
 let (x,y,b) ← Extern.MathBitsCarry.three "Sub64" args
 pure (Extern.MathBitsCarry.pair ((x+Extern.MathBitsCarry.m64-y-b)%Extern.MathBitsCarry.m64) (if x<y+b then 1 else 0))
theorem sub_row:Extern.allRows.lookup "math/bits.Sub64" = some subF:=by kernel_rfl
theorem u64_wrap {n:Nat} (h:n<18446744073709551616):IntKind.u64.wrap (n:Int)=(n:Int):=wrap_lo (k:=.u64) h
theorem conSb_ok [LoopTab] [Gl] {P:Program} {f:FuncId} {fn:Func} (hf:P.funcs[f]? = some fn) (hname:(fn.name=="runtime.NumGoroutine")=false) (hb:fn.body.isNone=true) (hn:Extern.findNext fn=none) (he:Extern.find fn=some subF):ConOk P f conSb:=by
 intro R bad fl fd hfl vs h nx k
 unfold conSb
 dsimp only
 split
 ·rename_i a b c
  refine out_if λ hc=>?_
  have hc:c≤1:=Nat.le_of_ble_eq_true hc
  rw [nK_eq,nK_eq]
  refine .inr ⟨_,h,nx,λ ρ w xs g0 hg0 hxs hrel=>?_,rfl⟩
  cases hg0
  obtain ⟨xa,xs,rfl,ha,hxs⟩:∃ x ys,xs=x::ys∧VR ρ (.at (.int .u64 a)) x∧VRs ρ [.at (.int .u64 b),.at (.int .u64 c)] ys:=by
   cases hxs with|cons _ x _ ys h1 h2=>exact ⟨x,ys,rfl,h1,h2⟩
  obtain ⟨xb,xc,rfl,hb',hc'⟩:=hxs.two
  have ha:=ha.atom
  have hb':=hb'.atom
  have hc':=hc'.atom
  cases ha with
  | int _ _ la =>
  cases hb' with
  | int _ _ lb =>
  cases hc' with
  | int _ _ lc =>
  have la:a<18446744073709551616:=la
  have lb:b<18446744073709551616:=lb
  have lc:c<18446744073709551616:=lc
  rw [u64_wrap la,u64_wrap lb,u64_wrap lc]
  show Res P _ ((callFunc f #[.int .u64 (a:Int),.int .u64 (b:Int),.int .u64 (c:Int)]).run P w)
  have hm:Extern.MathBitsCarry.m64=18446744073709551616:=by decide
  have hrun:(callFunc f #[.int .u64 (a:Int),.int .u64 (b:Int),.int .u64 (c:Int)]).run P w=.ok (.value (Extern.MathBitsCarry.pair ((a+Extern.MathBitsCarry.m64-b-c)%Extern.MathBitsCarry.m64) (if a<b+c then 1 else 0))) w:=by
   rw [run_callFunc_extern hf hname hb hn he]
   have h3:¬ (c > 1):=by omega
   have e3:∀ x y z:Value,Extern.MathBitsCarry.three "Sub64" #[x,y,z]=(do
     let c:=(← asInt z).toNat
     if c > 1 then unsupported (.noEntry ("extern/math/bits."++"Sub64"++": a carry that is neither 0 nor 1"))
     pure ((← asInt x).toNat,(← asInt y).toNat,c)):=λ _ _ _=>rfl
   have hi:∀ n:Nat,(asInt (.int .u64 (n:Int))).run P w=.ok (n:Int) w:=λ n=>by simp [asInt,asIntOf]
   unfold subF
   rw [e3]
   simp only [Sem.run_bind,hi,Result.andThen_ok,Int.toNat_natCast,if_neg h3,Sem.run_pure]
  rw [hm] at hrun
  rw [hrun]
  refine ⟨ρ,VR.tup [.at (.int .u64 _),.at (.int .u64 _)] [.int .u64 (Int.ofNat _),.int .u64 (Int.ofNat _)] rfl (λ j v' x' hj hx=>?_),Stp.refl hrel⟩
  match j with
  | 0 =>
   cases hj;cases hx
   have hl:(a+18446744073709551616-b-c)%18446744073709551616<18446744073709551616:=Nat.mod_lt _ (by decide)
   have:=AR.int (ρ:=ρ) .u64 _ hl
   rw [u64_wrap hl] at this
   exact .at _ _ this
  | 1 =>
   cases hj;cases hx
   have e:(bif Nat.blt a (Nat.add b c) then 1 else 0:Nat)=if a<b+c then 1 else 0:=by
    cases hb2:Nat.blt a (Nat.add b c) with
    | true=>have:a<b+c:=Nat.le_of_ble_eq_true hb2;rw [if_pos this];rfl
    | false => have : ¬ a < b + c := fun hl => by rw [show Nat.blt a (Nat.add b c) = true from Nat.ble_eq_true_of_le hl] at hb2; cases hb2
               rw [if_neg this];rfl
   have hl:(if a<b+c then 1 else 0:Nat)<18446744073709551616:=by split<;>decide
   have:=AR.int (ρ:=ρ) .u64 _ hl
   rw [u64_wrap hl] at this
   rw [e]
   exact .at _ _ this
  | j+2=>cases hj
 ·exact .inl rfl
theorem conSb_p [Gl]:S.ConP conSb:=by
 intro vs h fl fd nx
 unfold conSb
 dsimp only
 split
 ·rename_i a b c
  simp only [nK_eq]
  exact S.okK_par (F:=λ k:S.Out3→Bool=>k (V.tup [.at (.int .u64 _),.at (.int .u64 _)],h,nx)) _ (S.Par.pure (α:=S.Out3) _)
 ·exact S.Par.bad
end Go.E
