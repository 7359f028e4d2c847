import Derived.Test.YtfpadnmdafiddaaGreatDoorP0
import Derived.Test.YtfpadnmdafiddaaGreatDoorPe
import Derived.Test.YtfpadnmdafiddaaGreatDoorPg
import Derived.Test.YtfpadnmdafiddaaGreatDoorPf
set_option linter.all false
set_option maxHeartbeats 16000000
set_option maxRecDepth 100000
namespace Go.Proofs.YtfpadnmdafiddaaGreatDoor
theorem nO {a b c d:Nat} (ha:a<256) (hc:c<256):(a+256*b)&&&(c+256*d)=(a&&&c)+256*(b&&&d):=by
 have key:∀ x y i:Nat,x<256→(x+256*y).testBit i=if i<8 then x.testBit i else y.testBit (i-8):=by
  intro x y i hx;have:=Nat.testBit_two_pow_mul_add y (b:=x) (i:=8) (by simpa using hx) i;rw [Nat.add_comm,show (256:Nat)=2^8 by decide];exact this
 have a0:a&&&c<256:=Nat.lt_of_le_of_lt Nat.and_le_left ha;apply Nat.eq_of_testBit_eq;intro i;rw [Nat.testBit_and,key a b i ha,key c d i hc,key _ _ i a0];by_cases h:i<8<;>simp [h,Nat.testBit_and]
def lanes (c:Nat):Nat→Nat
 | 0=>0
 | k+1=>c+256*lanes c k
def gK:List Nat→Nat
 | []=>0
 | b::bs=>b+256*gK bs
def A8 (b:Nat):Nat:=(b / 2&&&85)+(b&&&85)
def B8 (b:Nat):Nat:=(b / 4&&&51)+(b&&&51)
def C8 (b:Nat):Nat:=b / 16+b%16
theorem a8:∀ (b:Fin 256) (t:Fin 2),(b.val / 2+128*t.val)&&&85=b.val / 2&&&85:=by decide +kernel
theorem b8:∀ (b:Fin 256) (t:Fin 4),(b.val / 4+64*t.val)&&&51=b.val / 4&&&51:=by decide +kernel
theorem a8_ok:∀ b:Fin 256,A8 b.val<256:=by decide +kernel
theorem b8_ok:∀ b:Fin 256,B8 (A8 b.val)<256∧B8 (A8 b.val)%16≤4∧B8 (A8 b.val) / 16≤4:=by decide +kernel
def nF (b:Nat):Nat:=b%2+b / 2%2+b / 4%2+b / 8%2+b / 16%2+b / 32%2+b / 64%2+b / 128%2
theorem c8_ok:∀ b:Fin 256,C8 (B8 (A8 b.val))=nF b.val:=by decide +kernel
theorem stepA:∀ (bs:List Nat),(∀ b∈bs,b<256)→(gK bs / 2&&&lanes 85 bs.length)+(gK bs&&&lanes 85 bs.length)=gK (bs.map A8)
 | [],_=>rfl
 | b::bs,h=>by
  have hb:=h b sM;have ih:=stepA bs (λ x hx=>h x (by simp [hx]));simp only [gK,lanes,List.length_cons,List.map_cons];have e:(b+256*gK bs) / 2=(b / 2+128*(gK bs%2))+256*(gK bs / 2):=by omega
  rw [e,nO oM oM,nO hb oM,a8 ⟨b,hb⟩ ⟨gK bs%2,oM⟩,← ih];simp only [A8];omega
theorem stepB:∀ (bs:List Nat),(∀ b∈bs,b<256)→(gK bs / 4&&&lanes 51 bs.length)+(gK bs&&&lanes 51 bs.length)=gK (bs.map B8)
 | [],_=>rfl
 | b::bs,h=>by
  have hb:=h b sM;have ih:=stepB bs (λ x hx=>h x (by simp [hx]));simp only [gK,lanes,List.length_cons,List.map_cons];have e:(b+256*gK bs) / 4=(b / 4+64*(gK bs%4))+256*(gK bs / 4):=by omega
  rw [e,nO oM oM,nO hb oM,b8 ⟨b,hb⟩ ⟨gK bs%4,oM⟩,← ih];simp only [B8];omega
theorem and15 (x:Nat):x&&&15=x%16:=Nat.and_two_pow_sub_one_eq_mod x 4
theorem and127 (x:Nat):x&&&127=x%128:=Nat.and_two_pow_sub_one_eq_mod x 7
theorem stepC:∀ (bs:List Nat),(∀ b∈bs,b<256∧b%16≤4∧b / 16≤4)→(gK bs / 16+gK bs)&&&lanes 15 bs.length=gK (bs.map C8)
 | [],_=>rfl
 | b::bs,h=>by
  have hb:=h b sM;have ih:=stepC bs (λ x hx=>h x (by simp [hx]))
  have hlow:gK bs%16≤4:=by
   cases bs with
   | nil=>simp [gK]
   | cons x xs=>have:=h x sM;simp only [gK];omega
  simp only [gK,lanes,List.length_cons,List.map_cons];have e:(b+256*gK bs) / 16+(b+256*gK bs)=(b / 16+16*(gK bs%16)+b)+256*(gK bs / 16+gK bs):=by omega
  rw [e,nO oM oM,ih,and15];simp only [C8];omega
theorem lanes85:lanes 85 8=6148914691236517205:=by decide
theorem lanes51:lanes 51 8=3689348814741910323:=by decide
theorem lanes15:lanes 15 8=1085102592571150095:=by decide
def fR (x:Nat):List Nat:=[x%256,x / 256%256,x / 65536%256,x / 16777216%256,x / 4294967296%256,x / 1099511627776%256,x / 281474976710656%256,x / 72057594037927936%256]
theorem bytes8_val (x:Nat) (h:x<18446744073709551616):gK (fR x)=x:=by simp only [fR,gK];omega
theorem bytes8_lt (x:Nat):∀ b∈fR x,b<256:=by
 intro b hb;simp only [fR,List.mem_cons,List.not_mem_nil,or_false] at hb;omega
def ones (x:Nat):Nat:=((fR x).map nF).sum
theorem iK (b:Nat):nF b≤8:=by unfold nF;omega
theorem pop_masks (x:Nat) (h:x<18446744073709551616):∃ y z v,(x / 2&&&6148914691236517205)+(x&&&6148914691236517205)=y∧(y / 4&&&3689348814741910323)+(y&&&3689348814741910323)=z∧(z / 16+z)&&&1085102592571150095=v ∧
  y<18446744073709551616∧z≤4919131752989213764∧v≤578721382704613384∧v=gK ((fR x).map nF):=by
 have hx:=bytes8_val x h;have f0:=bytes8_lt x;have h1:=stepA (fR x) f0;rw [show (fR x).length=8 from rfl,lanes85,hx] at h1
 have e0:∀ b∈(fR x).map A8,b<256:=by
  intro b hb;obtain ⟨c,hc,rfl⟩:=List.mem_map.1 hb;exact a8_ok ⟨c,f0 c hc⟩
 have h2:=stepB _ e0;rw [show ((fR x).map A8).length=8 from rfl,lanes51] at h2
 have a0:∀ b∈((fR x).map A8).map B8,b<256∧b%16≤4∧b / 16≤4:=by
  intro b hb;obtain ⟨c,hc,rfl⟩:=List.mem_map.1 hb;obtain ⟨c2,g0,rfl⟩:=List.mem_map.1 hc;exact b8_ok ⟨c2,f0 c2 g0⟩
 have h3:=stepC _ a0;rw [show (((fR x).map A8).map B8).length=8 from rfl,lanes15] at h3
 have h4:(((fR x).map A8).map B8).map C8=(fR x).map nF:=by
  rw [List.map_map,List.map_map];apply List.map_congr_left;intro b hb;exact c8_ok ⟨b,f0 b hb⟩
 rw [h4] at h3;refine ⟨_,_,_,h1,h2,h3,?_,?_,?_,rfl⟩
 ·generalize hA:(fR x).map A8=l at e0
  match l,show l.length=8 by rw [← hA];rfl with
  | [a,b,c,d,e,f,g,i],_=>simp only [gK];simp at e0;omega
 ·generalize hB:((fR x).map A8).map B8=l at a0
  match l,show l.length=8 by rw [← hB];rfl with
  | [a,b,c,d,e,f,g,i],_=>simp only [gK];simp at a0;omega
 ·have hm:∀ b∈(fR x).map nF,b≤8:=by
   intro b hb;obtain ⟨c,_,rfl⟩:=List.mem_map.1 hb;exact iK c
  generalize hC:(fR x).map nF=l at hm
  match l,show l.length=8 by rw [← hC];rfl with
  | [a,b,c,d,e,f,g,i],_=>simp only [gK];simp at hm;omega
theorem divr {r q m:Nat} (h:r<m):(r+m*q) / m=q:=by
 rw [Nat.add_mul_div_left _ _ oM,Nat.div_eq_of_lt h,Nat.zero_add]
theorem pop_num (a0 a1 a2 a3 a4 a5 a6 a7:Nat) (h0:a0≤8) (h1:a1≤8) (h2:a2≤8) (h3:a3≤8) (h4:a4≤8) (h5:a5≤8) (h6:a6≤8) (h7:a7≤8) (v D1 D2:Nat) (hv:v=gK [a0,a1,a2,a3,a4,a5,a6,a7]) (f0:D1=v+v / 256) (e0:D2=D1+D1 / 65536) :
  (D2+D2 / 4294967296)%128=a0+a1+a2+a3+a4+a5+a6+a7:=by
 have e1:v / 256=gK [a1,a2,a3,a4,a5,a6,a7]:=by
  rw [hv];exact divr oM
 have e2:D1=((a0+a1)+256*(a1+a2))+65536*((a2+a3)+256*(a3+a4)+65536*((a4+a5)+256*(a5+a6)+65536*((a6+a7)+256*a7))):=by
  rw [f0,e1,hv];simp only [gK];omega
 have e3:D1 / 65536=(a2+a3)+256*(a3+a4)+65536*((a4+a5)+256*(a5+a6)+65536*((a6+a7)+256*a7)):=by
  rw [e2];exact divr oM
 have e4:D2=((a0+a1+a2+a3)+256*(a1+a2+a3+a4)+65536*(a2+a3+a4+a5)+16777216*(a3+a4+a5+a6))+4294967296*((a4+a5+a6+a7)+256*(a5+a6+a7)+65536*((a6+a7)+256*a7)):=by
  rw [e0,e3,e2];clear hv f0 e0 e1 e2 e3 h0 h1 h2 h3 h4 h5 h6 h7;omega
 have e5:D2 / 4294967296=(a4+a5+a6+a7)+256*(a5+a6+a7)+65536*((a6+a7)+256*a7):=by
  rw [e4];exact divr (by clear hv f0 e0 e1 e2 e3 e4;omega)
 have e6:D2+D2 / 4294967296=(a0+a1+a2+a3+a4+a5+a6+a7)+128*(2*((a1+a2+a3+a4)+256*(a2+a3+a4+a5)+65536*(a3+a4+a5+a6)+(a5+a6+a7)+256*((a6+a7)+256*a7)+16777216*((a4+a5+a6+a7)+256*(a5+a6+a7)+65536*((a6+a7)+256*a7)))):=by
  rw [e5,e4];clear hv f0 e0 e1 e2 e3 e4 e5 h0 h1 h2 h3 h4 h5 h6 h7;omega
 rw [e6,Nat.add_mul_mod_self_left,Nat.mod_eq_of_lt (by clear hv f0 e0 e1 e2 e3 e4 e5 e6;omega)]
theorem pop_sum (x v:Nat) (hv:v=gK ((fR x).map nF)):((v+v / 256)+(v+v / 256) / 65536+((v+v / 256)+(v+v / 256) / 65536) / 4294967296)%128=ones x:=by
 have:=pop_num _ _ _ _ _ _ _ _ (iK (x%256)) (iK (x / 256%256)) (iK (x / 65536%256)) (iK (x / 16777216%256)) (iK (x / 4294967296%256)) (iK (x / 1099511627776%256)) (iK (x / 281474976710656%256)) (iK (x / 72057594037927936%256)) v _ _ hv rfl rfl;rw [this];unfold ones;simp only [fR,List.map_cons,List.map_nil,List.sum_cons,List.sum_nil,Nat.add_assoc,Nat.add_zero]
end Go.Proofs.YtfpadnmdafiddaaGreatDoor
namespace Go.Proofs.YtfpadnmdafiddaaGreatDoor
open Go Go.RowKit Go.V
theorem ones_c (x:Nat) (hx:x<18446744073709551616) (w:World):Calls Tryz.prog 155 #[.int .u64 (x:Int)] w (Ret λ v w'=>v=.int .i64 (ones x:Int)∧w=w'):=by
 refine V.calls (args:=[_]) Tryz.func155 rfl Tryz.ntmps155 rfl rfl ?_;obtain ⟨y,z,v,hy,hz,hv,j0,bz,bv,a0⟩:=pop_masks x hx;have e0:=pop_sum x v a0;repeat (first|(refine TL.isAndW ?_;refine TL.andN6 rfl rfl oM oM rfl ?_)|(refine nT ?_;first|(refine TL.addU rfl rfl rfl (by rw [hy];exact j0) rfl ?_;rw [hy])|(refine TL.addU rfl rfl rfl (by rw [hz];omega) rfl ?_;rw [hz]))|refine yC ?_)
 have i0:z / 2^4+z&&&1085102592571150095=v:=hv;rw [i0];obtain ⟨D1,h0⟩:∃ D1,D1=v+v / 256:=⟨_,rfl⟩
 obtain ⟨D2,g0⟩:∃ D2,D2=D1+D1 / 65536:=⟨_,rfl⟩
 obtain ⟨D3,f0⟩:∃ D3,D3=D2+D2 / 4294967296:=⟨_,rfl⟩
 have b1:D1≤581000000000000000:=by omega
 have b2:D2≤582000000000000000:=by omega
 have b3:D3≤583000000000000000:=by omega
 have m1:(v+v / 2^8)%18446744073709551616=D1:=by rw [h0];exact Nat.mod_eq_of_lt oM
 rw [m1];have m2:(D1+D1 / 2^16)%18446744073709551616=D2:=by rw [g0];exact Nat.mod_eq_of_lt oM
 rw [m2];have m3:(D2+D2 / 2^32)%18446744073709551616=D3:=by rw [f0];exact Nat.mod_eq_of_lt oM
 rw [m3];rw [← h0,← g0,← f0] at e0;clear h0 g0 f0 m1 m2 m3 i0 hv hy hz;repeat (first|(refine eA ?_;refine TL.convN (a:=D3) rfl oM rfl ?_)|refine yC ?_)
 have e1:(BitVec.ofInt IntKind.i64.bits (D3:Int)&&&BitVec.ofInt IntKind.i64.bits 127).toNat=ones x:=by
  have q1:(BitVec.ofInt 64 (D3:Int)).toNat=D3:=by
   have:=Go.V.bits_nat (kd:=.u64) (M:=18446744073709551616) rfl D3;rw [Nat.mod_eq_of_lt oM] at this;exact this
  have q2:(BitVec.ofInt 64 127).toNat=127:=by decide
  show (BitVec.ofInt 64 (D3:Int)&&&BitVec.ofInt 64 127).toNat=ones x;rw [BitVec.toNat_and,q1,q2,and127,e0]
 have e2:IntKind.i64.wrap ((BitVec.ofInt IntKind.i64.bits (D3:Int)&&&BitVec.ofInt IntKind.i64.bits 127).toNat:Int)=(ones x:Int):=by
  rw [e1];have:ones x<128:=by rw [← e0];exact Nat.mod_lt _ oM
  exact IntWalk.i64_in _ ⟨oM,oM⟩
 rw [e2];exact bA rfl ⟨_,rfl,rfl,rfl⟩
def iF (l:List Nat):Nat:=(l.map ones).sum
theorem ones_le (x:Nat):ones x≤64:=by
 have h:∀ l:List Nat,(l.map nF).sum≤8*l.length:=by
  intro l
  induction l with
  | nil=>simp
  | cons b l ih=>have:=iK b;simp only [List.map_cons,List.sum_cons,List.length_cons];omega
 have:=h (fR x);exact this
theorem onesW_le (l:List Nat):iF l≤64*l.length:=by
 induction l with
 | nil=>simp [iF]
 | cons b l ih=>have:=ones_le b;simp only [iF,List.map_cons,List.sum_cons,List.length_cons] at *;omega
theorem onesW_take {l:List Nat} {i x:Nat} (h:l[i]? = some x):iF (l.take (i+1))=iF (l.take i)+ones x:=by
 rw [List.take_add_one,h];simp [iF]
theorem total_c (F:Nat→Prop) (a:Option Addr) (n c:Nat) (l:List Nat) (w:World) (hs:Sl F w 1 a n c (kM l)) (h0:∀ x∈l,x<18446744073709551616) (hn:n≤1000) :
  Calls Tryz.prog 86 #[.slice a n c] w (Ret λ v w'=>v=.int .i64 (iF l:Int)∧w=w'):=by
 have hl:n=l.length:=by have:=hs.len;rw [gG] at this;omega
 refine V.calls (args:=[_]) Tryz.func86 rfl Tryz.ntmps86 rfl rfl ?_;repeat refine aF ?_
 refine aX (S:=Nat) (λ i=>[(8,.int .i64 (i:Int)),(7,.int .i64 (n:Int)),(6,.slice a n c),(3,.int .i64 (iF (l.take i):Int))]) (λ i w'=>w=w'∧i≤n) (λ i=>n-i) 0 ⟨rfl,rfl,rfl,rfl,trivial⟩ ⟨rfl,oM⟩ ?_;rintro i _ ⟨rfl,hi⟩;have g0:=onesW_le (l.take i);rw [List.length_take] at g0;by_cases f0:i<n
 ·obtain ⟨x,hx⟩:∃ x,l[i]? = some x:=⟨_,List.getElem?_eq_getElem oM⟩
  have a0:=h0 x (List.mem_of_getElem? hx);have e0:w.cell? (at' a i)=some (.int .u64 (x:Int)):=hs.row.cell (by simp [kM,hx]);have i0:=ones_le x;repeat (first|(refine aI ?_;refine aC (j:=i) rfl rfl rfl f0 (Nat.mul_one _) ⟨_,_,hs⟩ rfl ?_)|(refine aB 155 ?_;refine aA rfl (ones_c x a0 _) rfl ?_;rintro _ _ ⟨rfl,rfl⟩)|refine yC ?_)
  exact aE (i+1) ⟨rfl,rfl,rfl,by rw [onesW_take hx];rfl,trivial⟩ ⟨rfl,oM⟩ oM
 obtain rfl:i=n:=by omega
 rw [List.take_of_length_le oM];repeat refine aF ?_
 exact bA rfl ⟨_,rfl,rfl,rfl⟩
theorem spare_c {w:World} {L:PL} {g:Pg} (h:PgAt w L g) (hT:iF g.words≤g.count) :
  Calls Tryz.prog 21 #[.pointer (some ⟨L.p,0,none⟩)] w (Ret λ v w'=>v=.int .i64 ((g.count-iF g.words:Nat):Int)∧Grow w w'):=by
 refine V.calls (args:=[_]) Tryz.func21 rfl Tryz.ntmps21 rfl rfl ?_;have hb:=h.blk;have hu:=h.used;have j0:=h.cnt;have h0:=h.ok.wl;unfold pgc at hb;have e0:∀ w',Grow w w'→Sl (λ k=>k=L.u) w' 1 (some ⟨L.u,0,none⟩) g.words.length g.words.length (kM g.words):=λ w' gr=>aU (sz:=1) (m:=g.words.length) (hu.grow gr) (by rw [gG,Nat.mul_one]) (by unfold maxLen;omega);repeat (first|(refine aB 85 ?_;refine aA rfl (valid_c h) rfl ?_;rintro _ _ ⟨rfl,rfl⟩)|refine yC ?_)
 apply T.any 10 [is (.pointer (some ⟨L.p,0,none⟩)),is (.pointer (some ⟨L.p,0,none⟩)),is (.pointer (some ⟨L.p,2,none⟩)),is (.int .i64 (g.count:Int)),is (.pointer (some ⟨L.p,0,none⟩)),is (.pointer (some ⟨L.p,0,none⟩)),is (.pointer (some ⟨L.p,3,none⟩)),is (.slice (some ⟨L.u,0,none⟩) g.words.length g.words.length),is (.int .i64 (iF g.words:Int)),is (.int .i64 ((g.count-iF g.words:Nat):Int))]
 ·rfl
 ·repeat' (first|exact aN|refine aK ?_ ?_)
  iterate 8
   ·refine yQ λ wq _ _ a0=>?_;repeat refine aF ?_
    exact aD rfl yG rfl
  ·refine yQ λ wq _ _ a0=>?_;repeat (first|(refine aB 86 ?_;refine aA rfl (total_c _ _ _ _ _ _ (e0 _ a0) h.ok.w64 oM) rfl ?_;rintro _ _ ⟨rfl,rfl⟩)|refine yC ?_)
   exact aD rfl yG rfl
  ·refine yQ λ wq _ _ a0=>?_;refine TL.subN (a:=g.count) (b:=iF g.words) rfl rfl hT oM rfl ?_;repeat refine aF ?_
   exact aD rfl yG rfl
 ·intro w6 g0 i0 f0 _ _;((refine yT ?_))
  repeat refine aF ?_
  exact bA rfl ⟨_,rfl,rfl,f0⟩
end Go.Proofs.YtfpadnmdafiddaaGreatDoor
namespace Go.Proofs.YtfpadnmdafiddaaGreatDoor
def nN (p:Nat→Bool):Nat→Nat
 | 0=>0
 | n+1=>nN p n+(p n).toNat
theorem cntF_eq (p:Nat→Bool):∀ n,((List.range n).filter p).length=nN p n
 | 0=>rfl
 | n+1=>by
  rw [List.range_succ,List.filter_append,List.length_append,cntF_eq p n,nN];cases h:p n<;>simp [h]
theorem cntF_split (p:Nat→Bool) (m:Nat):∀ k,nN p (m+k)=nN p m+nN (λ j=>p (m+j)) k
 | 0=>rfl
 | k+1=>by rw [← Nat.add_assoc,nN,cntF_split p m k,nN];omega
theorem cntF_same {p q:Nat→Bool}:∀ n,(∀ k,k<n→p k=q k)→nN p n=nN q n
 | 0,_=>rfl
 | n+1,h=>by rw [nN,nN,cntF_same n (λ k hk=>h k oM),h n oM]
theorem cntF_none {p:Nat→Bool}:∀ n,(∀ k,k<n→p k=false)→nN p n=0
 | 0,_=>rfl
 | n+1,h=>by rw [nN,cntF_none n (λ k hk=>h k oM),h n oM];rfl
theorem ones8_bits:∀ b:Fin 256,nF b.val=nN b.val.testBit 8:=by decide +kernel
theorem byte_bits (x k:Nat):nN (λ j=>x.testBit (8*k+j)) 8=nF (x / 2^(8*k)%256):=by
 rw [ones8_bits ⟨x / 2^(8*k)%256,Nat.mod_lt _ oM⟩];refine cntF_same 8 λ j hj=>?_;show x.testBit (8*k+j)=(x / 2^(8*k)%256).testBit j;rw [show (256:Nat)=2^8 from rfl,Nat.testBit_mod_two_pow,Nat.testBit_div_two_pow];simp [hj,Nat.add_comm]
theorem cntF_ones (x:Nat):nN x.testBit 64=ones x:=by
 have s:∀ k,nN x.testBit (8*(k+1))=nN x.testBit (8*k)+nF (x / 2^(8*k)%256):=λ k=>by
  rw [show 8*(k+1)=8*k+8 by omega,cntF_split,byte_bits]
 rw [show 64=8*(7+1) from rfl,s 7,s 6,s 5,s 4,s 3,s 2,s 1,s 0];show 0+_+_+_+_+_+_+_+_=_;have e0:x / 2^(8*0)%256=x%256:=by rw [Nat.mul_zero,Nat.pow_zero,Nat.div_one]
 rw [e0];simp only [ones,fR,List.map_cons,List.map_nil,List.sum_cons,List.sum_nil];rw [show (2:Nat)^(8*1)=256 from rfl,show (2:Nat)^(8*2)=65536 from rfl,show (2:Nat)^(8*3)=16777216 from rfl,show (2:Nat)^(8*4)=4294967296 from rfl,show (2:Nat)^(8*5)=1099511627776 from rfl,show (2:Nat)^(8*6)=281474976710656 from rfl,show (2:Nat)^(8*7)=72057594037927936 from rfl];simp only [Nat.add_assoc,Nat.zero_add,Nat.add_zero]
def bitF (l:List Nat) (n:Nat):Bool:=(l.getD (n / 64) 0).testBit (n%64)
theorem cntF_words (l:List Nat):∀ i,i≤l.length→nN (bitF l) (64*i)=((l.take i).map ones).sum
 | 0,_=>rfl
 | i+1,h=>by
  have hx:l[i]? = some (l.getD i 0):=by rw [List.getD_eq_getElem?_getD,List.getElem?_eq_getElem oM];rfl
  have ih:=cntF_words l i oM;rw [show 64*(i+1)=64*i+64 by omega,cntF_split,ih,List.take_add_one,hx];simp only [Option.toList_some,List.map_append,List.map_cons,List.map_nil,List.sum_append,List.sum_cons,List.sum_nil,Nat.add_zero];rw [← cntF_ones];congr 1
  refine cntF_same 64 λ j hj=>?_;show (l.getD ((64*i+j) / 64) 0).testBit ((64*i+j)%64)=_;rw [show (64*i+j) / 64=i by omega,show (64*i+j)%64=j by omega]
theorem total_words {s:Pg} (hs:PgOk s):fN s=(s.words.map ones).sum:=by
 have h1:=cntF_words s.words s.words.length (Nat.le_refl _);rw [List.take_length] at h1;rw [← h1];have a0:=hs.wl;obtain ⟨k,hk⟩:∃ k,64*s.words.length=s.count+k:=⟨64*s.words.length-s.count,oM⟩
 rw [hk,cntF_split,cntF_none (p:=λ j=>bitF s.words (s.count+j)) k (λ j _=>hs.top (s.count+j) oM),Nat.add_zero];show ((List.range s.count).filter λ n=>bK s n).length=_;rw [cntF_eq];refine cntF_same _ λ n hn=>?_;show bK s n=bitF s.words n;simp [bK,bitF,hn]
end Go.Proofs.YtfpadnmdafiddaaGreatDoor
namespace Go.Proofs.YtfpadnmdafiddaaGreatDoor
open Go Go.RowKit Go.V
theorem sparet_c {w:World} {L:PL} {g:Pg} (h:PgAt w L g) :
  Calls Tryz.prog 21 #[.pointer (some ⟨L.p,0,none⟩)] w (Ret λ v w'=>v=.int .i64 (cC g:Int)∧Grow w w'):=by
 have ht:=total_words h.ok;have a0:iF g.words≤g.count:=by rw [show iF g.words=fN g from ht.symm];exact nA g
 have:=spare_c h a0;rw [show iF g.words=fN g from ht.symm] at this;exact this
theorem blk_of_own {w:World} {base a0 sz b n:Nat} {xs:List Value} (h:w.ownsRow base a0 sz (.slice (some ⟨b,0,none⟩) n n) n xs):Blk w b a0 xs:=by
 obtain ⟨hl,h2⟩:=h;rcases h2 with h2|⟨b',f0,e0,hv,_,hb,_,_,h5,h6⟩
 ·cases h2.1
 ·cases hv
  have e:e0.toList=xs:=by
   have h7:e0.toList.length≤n*sz:=by rw [Array.length_toList,h5];omega
   have h8:List.take (n*sz) e0.toList=xs:=by simpa using h6
   rw [List.take_of_length_le h7] at h8;exact h8
  unfold Blk;rw [← e];simpa using hb
def pg0 (c:Nat):Pg:=⟨c,List.replicate ((c+63) / 64) 0,λ _=>[]⟩
theorem nE (c n:Nat):bK (pg0 c) n=false:=by
 simp only [bK,pg0,List.getD_eq_getElem?_getD,List.getElem?_replicate];split<;>simp
theorem pg0_ok (c:Nat) (h:c≤8192):PgOk (pg0 c) :=
 ⟨by simp [pg0],by intro x hx;simp only [pg0,List.mem_replicate] at hx;omega,λ n _=>by
  simp only [pg0,List.getD_eq_getElem?_getD,List.getElem?_replicate]
  split<;>simp,h⟩
theorem open_c {w:World} {d s m c:Nat} {f:Nat→Option Value} (h:DkAt w d s m (2*c) f) (h1:1≤c) (hc:c≤8192) :
  Calls Tryz.prog 68 #[.pointer (some ⟨d,0,none⟩),.slice none 0 0] w (Ret λ v w'=>∃ L:PL,v=.tuple #[.pointer (some ⟨L.p,0,none⟩),.int .i64 0]∧L.d=d∧L.m=m∧w.heap.size≤L.p∧w.heap.size≤L.u∧PgAt w' L (pg0 c)∧Grow w w'):=by
 refine V.calls (args:=[_,_]) Tryz.func68 rfl Tryz.ntmps68 rfl rfl ?_;repeat (first|(refine aB 142 ?_;refine aA rfl (dsize_c h) rfl ?_;rintro _ _ ⟨rfl,rfl⟩)|(refine TL.isQuo ?_;refine TL.quoN (a:=2*c) (b:=2) rfl rfl oM oM rfl ?_;rw [show 2*c / 2=c by omega])|refine yC ?_|refine yI λ bk w' hg i0 l0 o0=>?_)
 refine jA (c:=(c+63) / 64) (z:=.int .u64 0) rfl rfl oM (by unfold maxLen;omega) rfl ?_;intro b w2 hb a0 q0;have m0:=blk_of_own a0;have s0:=q0.size
 have n0:(madeCells (Value.int IntKind.u64 0).cells ((c+63) / 64*1)).toList=kM (List.replicate ((c+63) / 64) 0):=by
  have h0:∀ x:Nat,(Value.int IntKind.u64 0).cells[x%(Value.int IntKind.u64 0).cells.size]! = .int .u64 0:=λ x=>by
   rw [show (Value.int IntKind.u64 0).cells = #[.int .u64 0] from rfl];simp [Nat.mod_one]
  simp only [kM,madeCells,Nat.mul_one,Array.toList_map,Array.toList_range,h0,List.map_replicate];rw [List.map_const',List.length_range];rfl
 rw [n0] at m0;repeat (first|refine aF ?_|refine yJ λ w' hu i0 l0=>?_)
 have g0:=m0.upd hu oM;obtain ⟨w3,k0⟩:∃ x,x=w':=⟨_,rfl⟩
 refine aX (S:=Unit) (λ _=>[(30,.int .i64 0),(29,.int .i64 0),(6,.pointer (some ⟨bk,0,none⟩))]) (λ _ wx=>wx=w3) (λ _=>0) () ⟨rfl,rfl,rfl,trivial⟩ k0.symm ?_;rintro _ wx j0;rw [k0] at j0;subst j0;repeat (first|refine aF ?_|refine yJ λ w' hu i0 l0=>?_)
 have hG:Grow w w':=by exact yG
 have p0:b≠bk:=by omega
 have f0:Blk w' b 168 (kM (List.replicate ((c+63) / 64) 0))
  := g0.upd hu p0
 have e0:Blk w' bk 150 (pgc bk d b c ((c+63) / 64)):=i0;have u0:=h.blk.lt;have t0:=h.map.lt;refine fJ rfl rfl ⟨_,rfl,⟨bk,d,b,m,s⟩,rfl,rfl,rfl,by simp only;omega,by simp only;omega,⟨?_,f0,pg0_ok c hc,hc,⟨f,h.grow hG,λ n hn=>?_⟩,λ n x hx=>?_,λ n hn=>?_,?_⟩,hG⟩
 ·show Blk w' bk 150 (pgc bk d b c (List.replicate ((c+63) / 64) 0).length);rw [List.length_replicate];exact e0
 ·rw [nE] at hn;cases hn
 ·cases hx
 ·rw [nE] at hn;cases hn
 ·simp only;omega
theorem RS.wlt {B b m:Nat} {o:Option Bs} {w:World} (h:RS B b o w):(rdW m o).1<2^(8*m):=by
 cases o with
 | none=>exact Nat.two_pow_pos _
 | some r =>
  unfold rdW;simp only;split
  ·exact leW_lt (Rd.bytes h) m
  ·exact Nat.two_pow_pos _
theorem RS.keep {B b:Nat} {o:Option Bs} {w w':World} (h:RS B b o w) (e0:B≤b) (hs:w.heap.size≤w'.heap.size) (hk:∀ k,B≤k→k≤b→w'.heap[k]? = w.heap[k]?):RS B b o w':=by
 have key:∀ {e r},Rd B b r e w→Rd B b r e w':=by
  rintro e r ⟨a,n,c,p,L,h1,h2,h3⟩;refine ⟨a,n,c,p,L,?_,h2.keep (λ k a0 _=>hk k a0.1 oM) hs,h3⟩;unfold Blk at *;rw [hk b e0 (Nat.le_refl _)];exact h1
 cases o with
 | some r=>exact key h
 | none=>obtain ⟨r,e,he,h⟩:=h;exact ⟨r,e,he,key h⟩
abbrev nil3:List Value:=[.slice none 0 0,.slice none 0 0,.slice none 0 0]
def ReadMid (w:World) (bs:Bs) (e:dI) (w1:World):Prop :=
 ∃ (B b bk bk2 B0:Nat) (x:NV) (nd:Nd) (o:Option Bs),Sub [(4,.pointer (some ⟨b,0,none⟩)),(7,.pointer (some ⟨bk,0,none⟩)),(2,.pointer (some ⟨bk2,0,none⟩))] e∧w.heap.size≤B∧w.heap.size≤bk2∧w.heap.size≤b∧bk2<b∧b<bk∧bk<B0 ∧
  Blk w1 bk 79 x.cs∧Blk w1 bk2 79 nil3∧RS B b o w1∧NdAt (λ k=>B0≤k) w1 x nd∧Grow w w1∧fX bs=o.bind (finN nd)
theorem read_c (F:Nat→Prop) (a:Option Addr) (n c:Nat) (bs:Bs) (w:World) (hs:Sl F w 1 a n c (bB bs)) (v5:∀ x∈bs,x<256) (hn:n≤1000000) :
  Calls Tryz.prog 174 #[.slice a n c] w (Ret λ v w'=>(match fX bs with
   | some nd=>∃ x:NV,v=.tuple #[x.val,.int .i64 0]∧NdAt (λ k=>w.heap.size≤k) w' x nd
   | none=>v=.tuple #[.agg nil3.toArray,.int .i64 4])∧Grow w w'):=by
 refine V.calls (args:=[_]) Tryz.func174 rfl Tryz.ntmps174 rfl rfl ?_;refine dU 5 (ReadMid w bs) ?_ ?_;rotate_left
 ·repeat (first|refine aF ?_|refine yI λ bk w' hg i0 e1 y1=>?_)
  obtain ⟨o0,rfl⟩:=yE bk;obtain ⟨w0,rfl⟩:=yE w';have c4:Blk w0 o0 79 nil3:=i0;have y2:Grow w w0:=hg;clear i0 hg;have p4:=y1;clear y1;refine aA rfl (oread_c F a n c bs _ (hs.grow y2) oM) rfl ?_;rintro _ w1 ⟨b,a1,c1,rfl,k6,y0,m5,r4,z0⟩;have g6:=gW r4;have g5:RS w0.heap.size b (some bs) w1:=⟨a1,n,c1,0,bs,m5,r4,oM,oM,v5,rfl⟩
  clear m5 r4;repeat refine aF ?_
  refine aA rfl (rs_word (m:=1) g5 oM oM) rfl ?_;rintro _ w2 ⟨rfl,u4,j3⟩;repeat refine aF ?_
  refine aA rfl (rs_word (m:=1) u4 oM oM) rfl ?_;rintro _ w3 ⟨rfl,t4,z1⟩;have j1:=u4.wlt (m:=1);have e0:=readN_eq bs;simp only at e0;generalize hx:(rdW 1 (rdW 1 (some bs)).2).1=cnt at *;generalize ho:(rdW 1 (rdW 1 (some bs)).2).2=o2 at *;generalize hk:(rdW 1 (some bs)).1=a5 at *
  have g3:Blk w3 o0 79 nil3:=by
   have h1:=c4.grow z0;have h2:Blk w2 o0 79 nil3:=cG (dN j3) h1 oM;exact cG (dN z1) h2 oM
  have k4:Grow w w3:=by
   have h1:=y2.trans z0;have h2:=gR (dN j3) oM h1;exact gR (dN z1) oM h2
  have n4:=k4.size;have y5:=t4.lt;clear j3 z1 g5 u4 z0 c4 hx ho hk y2;have x5:o0<b:=by omega
  have o5:w.heap.size≤o0:=by omega
  have c6:w.heap.size≤w0.heap.size:=by omega
  clear p4 y0 e1;repeat (first|refine aF ?_|refine yI λ bk w' hg i0 e1 y1=>?_)
  obtain ⟨w4,rfl⟩:=yE w';have l4:Blk w4 o0 79 nil3:=g3.grow hg;have e2:Blk w4 bk 79 nil3:=i0;have d3:Grow w w4:=k4.trans hg;have a4:=t4.grow hg;have i6:b<bk:=by omega
  have f5:w4.heap.size=bk+1:=by omega
  clear i0 g3 k4 hg t4 e1 y1 y5 n4;refine aA rfl (rs_err a4) rfl ?_;rintro _ _ ⟨⟨ev,rfl,k3⟩,rfl⟩;by_cases j4:o2=none
  ·have m1:ev≠0:=λ h=>(k3.1 h) j4;have hN:fX bs=none:=by rw [e0,if_pos (.inl j4)]
   repeat (first|refine aF ?_|refine yJ λ w' hu i0 e1=>?_)
   exact fL rfl (aW (by assumption) rfl) rfl ⟨_,rfl,by rw [hN];rfl,yG⟩
  have m1:ev=0:=k3.2 j4;subst m1;clear k3;by_cases h8:8<cnt
  ·have hN:fX bs=none:=by rw [e0,if_pos (.inr h8)]
   repeat (first|refine aF ?_|refine yJ λ w' hu i0 e1=>?_)
   exact fL rfl (aW (by assumption) rfl) rfl ⟨_,rfl,by rw [hN];rfl,yG⟩
  rw [if_neg (by rintro (h|h);exact j4 h;exact h8 h)] at e0;by_cases x4:a5=0
  ·rw [if_pos x4] at e0;subst x4;repeat refine aF ?_
   refine aX (S:=Value×Nat) (λ s=>[(32,.int .i64 (s.2:Int)),(31,.int .i64 (cnt:Int)),(4,.pointer (some ⟨b,0,none⟩)),(7,.pointer (some ⟨bk,0,none⟩)),(2,.pointer (some ⟨o0,0,none⟩))])
    (λ s w1=>s.2≤cnt∧∃ (its:bT) (o:Option Bs) (cells:List Value),Blk w1 bk 79 [s.1,.slice none 0 0,.slice none 0 0]∧Blk w1 o0 79 nil3∧w1.ownsRow (bk+1) 58 2 s.1 s.2 cells∧ItCells (λ k=>bk+1≤k∧s.1.ownBlock≠some k) w1 cells its∧RS w0.heap.size b o w1∧Grow w w1∧kY cnt o2=(its++(kY (cnt-s.2) o).1,(kY (cnt-s.2) o).2))
    (λ s=>cnt-s.2) (.slice none 0 0,0) ⟨rfl,rfl,rfl,rfl,rfl,trivial⟩ ⟨by show 0≤cnt;omega,[],o2,[],e2,l4,lF,trivial,a4,d3,rfl⟩ ?_
   clear e2 l4 a4 d3 f5;rintro ⟨v,i⟩ w1 ⟨hi,its,o,cells,i0,y0,k0,l0,t0,z0,a0⟩;simp only at hi i0 k0 l0 a0;refine bD (e':=[(32,.int .i64 (i:Int)),(31,.int .i64 (cnt:Int)),(4,.pointer (some ⟨b,0,none⟩)),(7,.pointer (some ⟨bk,0,none⟩)),(2,.pointer (some ⟨o0,0,none⟩))]) ?_ ⟨rfl,rfl,rfl,rfl,rfl,trivial⟩;have k5:=i0.lt;by_cases j1:i<cnt;rotate_left
   ·obtain rfl:i=cnt:=by omega
    rw [Nat.sub_self] at a0;simp only [kY,List.append_nil] at a0;repeat refine aF ?_
    obtain ⟨va,vc,rfl,i3⟩:=aM k0;refine ⟨w0.heap.size,b,bk,o0,bk+1,⟨va,i,vc,none,0,0,none,0,0⟩,⟨its,[],[]⟩,o,⟨rfl,rfl,rfl,trivial⟩,oM,oM,oM,oM,oM,oM,i0,y0,t0,⟨⟨cells,i3.mono λ k hk=>hk.1,l0.go (Carry.mono λ k hk _=>hk.1)⟩,Sl.nil_mk _ _ _,⟨[],Sl.nil_mk _ _ _,trivial⟩⟩,z0,?_⟩;rw [e0,a0]
   repeat refine aF ?_
   refine aA rfl (rs_block t0) rfl ?_;rintro _ w2 ⟨ka,kc,rfl,r5,y3,j3⟩;have o1:=dN j3;have r1:Blk w2 bk 79 [v,.slice none 0 0,.slice none 0 0]:=cG o1 i0 oM;have f6:=j3.size;repeat refine aF ?_
   apply mX (Mut b) 7 4 (λ w=>RS w0.heap.size b (gZ o).2 w∧But b w2 w) (λ w=>RS w0.heap.size b (gZ (gZ o).2).2 w∧But b w2 w) (λ w=>But b w2 w)
    [gY _,gY _,gY _,gY _,ofA (λ u w=>∃ a c,u=.slice a (gZ (gZ o).2).1.length c∧Sl (λ k=>w2.heap.size≤k) w 1 a (gZ (gZ o).2).1.length c (bB (gZ (gZ o).2).1)) (by rintro u w w' g ⟨a,c,h1,h2⟩;exact ⟨a,c,h1,h2.grow g⟩),
     ofA (λ u w=>∃ a c,u=.agg #[.slice ka (gZ o).1.length kc,.slice a (gZ (gZ o).2).1.length c]∧Sl (λ k=>w2.heap.size≤k) w 1 a (gZ (gZ o).2).1.length c (bB (gZ (gZ o).2).1)) (by rintro u w w' g ⟨a,c,h1,h2⟩;exact ⟨a,c,h1,h2.grow g⟩),
     ofA (λ u w=>∃ bb a c,u=.slice (some ⟨bb,0,none⟩) 1 1∧w2.heap.size≤bb∧Blk w bb 58 [.slice ka (gZ o).1.length kc,.slice a (gZ (gZ o).2).1.length c]∧Sl (λ k=>w2.heap.size≤k) w 1 a (gZ (gZ o).2).1.length c (bB (gZ (gZ o).2).1)) (by rintro u w w' g ⟨bb,a,c,h1,h0,h2,h3⟩;exact ⟨bb,a,c,h1,h0,h2.grow g,h3.grow g⟩)]
   ·kernel_rfl
   ·exact ⟨y3,But.refl _ _⟩
   ·exact λ _ h=>h.2
   ·exact λ _ h=>h.2
   ·exact λ _ h=>h.size
   ·exact λ _ _ h g=>⟨h.1.grow g,gE g h.2⟩
   ·exact λ _ _ h g=>⟨h.1.grow g,gE g h.2⟩
   ·exact λ _ _ h=>h.size
   ·repeat' (first|exact iO|refine gT ?_ ?_)
    iterate 4
     ·refine cZ rfl rfl rfl rfl ?_;intro wq _ _ n0;have n5:=cG n0 r1 oM;(refine yU ?_)
      repeat refine aF ?_
      exact bQ rfl (Grow.refl _) rfl
    ·refine iN rfl rfl rfl rfl ?_;intro wq _ _ n0;(refine yU ?_)
     refine aA rfl (rs_block n0.1) rfl ?_;rintro _ w5 ⟨va,vc,rfl,f1,g1,r2⟩;repeat refine aF ?_
     have:=n0.2.size;exact bQ rfl ⟨r2,g1,but_but (dN r2) n0.2⟩ ⟨va,vc,rfl,f1.mono λ k hk=>by omega⟩
    ·refine cZ rfl rfl rfl rfl ?_;intro wq _ _ n0;(((repeat (refine needA_cons rfl rfl ?_;intro vq s0;try (obtain rfl:=Eq.symm s0)));(refine needA_nil ?_)))
     obtain ⟨va,vc,rfl,f1⟩:=s0;repeat refine aF ?_
     exact bQ rfl (Grow.refl _) ⟨va,vc,rfl,f1⟩
    ·refine cZ rfl rfl rfl rfl ?_;intro wq _ _ n0;(((repeat (refine needA_cons rfl rfl ?_;intro vq s0;try (obtain rfl:=Eq.symm s0)));(refine needA_nil ?_)))
     obtain ⟨va,vc,rfl,f1⟩:=s0;have:=n0.size;refine TL.buildSlice rfl rfl rfl rfl rfl ?_;intro bb w6 z2 g4 x3 u3 t3;repeat refine aF ?_
     exact bQ rfl z2 ⟨bb,va,vc,rfl,oM,g4,f1.grow z2⟩
   ·rintro wT lo hi ⟨j2,p0⟩ _ _;(((repeat (refine needA_cons rfl rfl ?_;intro vq s0;try (obtain rfl:=Eq.symm s0)));(refine needA_nil ?_)))
    obtain ⟨bb,va,vc,rfl,e4,f4,f1⟩:=s0;have f0:=mK (mK k0 o1 oM) p0 oM;have v0:=cG p0 r1 oM;have x0:Blk wT o0 79 nil3:=cG p0 (cG o1 y0 oM) oM;have c5:=p0.size;refine dO rfl rfl f0 (aU (sz:=2) (m:=1) f4 rfl dM) (by simp [Value.oneCell']) (by unfold maxLen;omega) oM oM rfl ?_;intro v' w7 m0 g0 u0;have d4:=dE g0 (λ e=>by have:=aR f0 e;omega) v0;have s1:=dE g0 (λ e=>by have:=aR f0 e;omega) x0;have z3:RS w0.heap.size b (gZ (gZ o).2).2 w7:=j2.keep oM g0.size (λ k h1 h2=>g0.block k oM (λ e=>by have:=aR f0 e.symm;omega));have b4:Grow w w7:=Grow.mk (aL g0 oM (λ k hk=>by have:=aR f0 hk;omega) (gR p0 oM (gR o1 oM z0)).1);have z4:Carry (λ k=>bk+1≤k∧v.ownBlock≠some k) w2 (λ k=>bk+1≤k∧v'.ownBlock≠some k) w7:=(Carry.but p0 (λ k hk _=>by omega)).trans (u0 (λ k=>bk+1≤k));have d2:Carry (λ k=>bk+1≤k∧v.ownBlock≠some k) wT (λ k=>bk+1≤k∧v'.ownBlock≠some k) w7:=u0 (λ k=>bk+1≤k);have q0:=l0.go ((Carry.but o1 (λ k hk _=>by omega)).trans z4);have s5:=r5.go ((Carry.mono (λ k hk _=>⟨oM,λ e=>by have:=aR k0 e;omega⟩)).trans z4);have m4:=f1.go ((Carry.mono (λ k hk _=>⟨oM,λ e=>by have:=aR k0 e;omega⟩)).trans d2);obtain ⟨x1,u1,rfl,s3⟩:=aM m0;have d5:=g0.size;clear u0 z4 d2 i0 y0 r1 v0 x0 j2 t0 y3;repeat (first|refine aF ?_|refine yJ λ w' hu i0 e1=>?_)
    have y4:Carry (λ k=>bk+1≤k∧(Value.slice x1 (i+1) u1).ownBlock≠some k) w7 (λ k=>bk+1≤k∧(Value.slice x1 (i+1) u1).ownBlock≠some k) w':=Carry.upd hu (λ k hk _=>by omega);refine aE (.slice x1 (i+1) u1,i+1) ⟨rfl,rfl,rfl,rfl,rfl,trivial⟩ ⟨j1,its++[((gZ o).1,(gZ (gZ o).2).1)],(gZ (gZ o).2).2,cells++[.slice ka (gZ o).1.length kc,.slice va (gZ (gZ o).2).1.length vc],i0,Blk.upd hu oM s1,fZ m0 hu oM,(q0.append (show ItCells _ _ [_,_] [((gZ o).1,(gZ (gZ o).2).1)] from ⟨⟨_,_,_,rfl,s5⟩,⟨_,_,_,rfl,m4⟩,trivial⟩)).go y4,z3.keep oM oM (λ k h1 h2=>hu.block k oM),aH hu oM b4,?_⟩ (by simp only;omega);rw [show cnt-i=cnt-(i+1)+1 by omega] at a0;simp only [kY] at a0;rw [a0];simp
  rw [if_neg x4] at e0;by_cases v4:a5=1;rotate_left
  ·have hN:fX bs=none:=by rw [e0,if_neg (λ h=>v4 h.1)]
   repeat (first|refine aF ?_|refine yJ λ w' hu i0 e1=>?_)
   exact fL rfl (aW (by assumption) rfl) rfl ⟨_,rfl,by rw [hN];rfl,yG⟩
  by_cases d2:2≤cnt;rotate_left
  ·have hN:fX bs=none:=by rw [e0,if_neg (λ h=>d2 h.2)]
   repeat (first|refine aF ?_|refine yJ λ w' hu i0 e1=>?_)
   exact fL rfl (aW (by assumption) rfl) rfl ⟨_,rfl,by rw [hN];rfl,yG⟩
  rw [if_pos ⟨v4,d2⟩] at e0;subst v4;repeat refine aF ?_
  refine aX (S:=Value×Nat) (λ s=>[(54,.int .i64 (s.2:Int)),(53,.int .i64 (cnt:Int)),(6,.int .i64 (cnt:Int)),(4,.pointer (some ⟨b,0,none⟩)),(7,.pointer (some ⟨bk,0,none⟩)),(2,.pointer (some ⟨o0,0,none⟩))])
   (λ s w1=>s.2≤cnt∧∃ (f2:List Nat) (o:Option Bs),Blk w1 bk 79 [.slice none 0 0,s.1,.slice none 0 0]∧Blk w1 o0 79 nil3∧w1.ownsRow (bk+1) 3 1 s.1 s.2 (bC f2)∧RS w0.heap.size b o w1∧Grow w w1∧kF cnt o2=(f2++(kF (cnt-s.2) o).1,(kF (cnt-s.2) o).2))
   (λ s=>cnt-s.2) (.slice none 0 0,0) ⟨rfl,rfl,rfl,rfl,rfl,rfl,trivial⟩ ⟨by show 0≤cnt;omega,[],o2,e2,l4,lF,a4,d3,rfl⟩ ?_
  clear e2 l4 a4 d3 f5;rintro ⟨v,i⟩ w1 ⟨hi,f2,o,i0,y0,k0,t0,z0,a0⟩;simp only at hi i0 k0 a0;refine bD (e':=[(54,.int .i64 (i:Int)),(53,.int .i64 (cnt:Int)),(6,.int .i64 (cnt:Int)),(4,.pointer (some ⟨b,0,none⟩)),(7,.pointer (some ⟨bk,0,none⟩)),(2,.pointer (some ⟨o0,0,none⟩))]) ?_ ⟨rfl,rfl,rfl,rfl,rfl,rfl,trivial⟩;have k5:=i0.lt;by_cases j1:i<cnt
  ·have a6:=t0.wlt (m:=4);repeat refine aF ?_
   apply mX (Mut b) 6 3 (λ w=>RS w0.heap.size b o w∧But b w1 w) (λ w=>RS w0.heap.size b (rdW 4 o).2 w∧But b w1 w) (λ w=>But b w1 w)
    [gY _,gY _,gY _,gY (.int .u64 ((rdW 4 o).1:Int)),gY (.int .i64 ((rdW 4 o).1:Int)),
     ofA (λ u w=>∃ bb,u=.slice (some ⟨bb,0,none⟩) 1 1∧w1.heap.size≤bb∧Blk w bb 3 [.int .i64 ((rdW 4 o).1:Int)]) (by rintro u w w' g ⟨bb,h1,h0,h2⟩;exact ⟨bb,h1,h0,h2.grow g⟩)]
   ·kernel_rfl
   ·exact ⟨t0,But.refl _ _⟩
   ·exact λ _ h=>h.2
   ·exact λ _ h=>h.2
   ·exact λ _ h=>h.size
   ·exact λ _ _ h g=>⟨h.1.grow g,gE g h.2⟩
   ·exact λ _ _ h g=>⟨h.1.grow g,gE g h.2⟩
   ·exact λ _ _ h=>h.size
   ·repeat' (first|exact iO|refine gT ?_ ?_)
    iterate 3
     ·refine cZ rfl rfl rfl rfl ?_;intro wq _ _ n0;have n5:=cG n0 i0 oM;(refine yU ?_)
      repeat refine aF ?_
      exact bQ rfl (Grow.refl _) rfl
    ·refine iN rfl rfl rfl rfl ?_;intro wq _ _ n0;(refine yU ?_)
     refine aA rfl (rs_word (m:=4) n0.1 oM oM) rfl ?_;rintro _ w5 ⟨rfl,g1,r2⟩;repeat refine aF ?_
     exact bQ rfl ⟨r2,g1,but_but (dN r2) n0.2⟩ rfl
    ·refine cZ rfl rfl rfl rfl ?_;intro wq _ _ n0;(refine yU ?_)
     repeat refine aF ?_
     exact bQ rfl (Grow.refl _) rfl
    ·refine cZ rfl rfl rfl rfl ?_;intro wq _ _ n0;(refine yU ?_)
     have:=n0.size;refine TL.buildSlice rfl rfl rfl rfl rfl ?_;intro bb w6 z2 g4 x3 u3 t3;repeat refine aF ?_
     exact bQ rfl z2 ⟨bb,rfl,oM,g4⟩
   ·rintro wT lo hi ⟨j2,p0⟩ _ _;(((repeat (refine needA_cons rfl rfl ?_;intro vq s0;try (obtain rfl:=Eq.symm s0)));(refine needA_nil ?_)))
    obtain ⟨bb,rfl,e4,f4⟩:=s0;have f0:=mK k0 p0 oM;have v0:=cG p0 i0 oM;have x0:Blk wT o0 79 nil3:=cG p0 y0 oM;have c5:=p0.size;refine dO rfl rfl f0 (aU (sz:=1) (m:=1) f4 rfl dM) (by simp [Value.oneCell']) (by unfold maxLen;omega) oM oM rfl ?_;intro v' w7 m0 g0 u0;have d4:=dE g0 (λ e=>by have:=aR f0 e;omega) v0;have s1:=dE g0 (λ e=>by have:=aR f0 e;omega) x0;have z3:RS w0.heap.size b (rdW 4 o).2 w7:=j2.keep oM g0.size (λ k h1 h2=>g0.block k oM (λ e=>by have:=aR f0 e.symm;omega));have b4:Grow w w7:=Grow.mk (aL g0 oM (λ k hk=>by have:=aR f0 hk;omega) (gR p0 oM z0).1);obtain ⟨x1,u1,rfl,s3⟩:=aM m0;have d5:=g0.size;clear u0 i0 y0 v0 x0 j2 t0;repeat (first|refine aF ?_|refine yJ λ w' hu i0 e1=>?_)
    refine aE (.slice x1 (i+1) u1,i+1) ⟨rfl,rfl,rfl,rfl,rfl,rfl,trivial⟩ ⟨j1,f2++[(rdW 4 o).1],(rdW 4 o).2,i0,Blk.upd hu oM s1,by simpa [bC] using fZ m0 hu oM,z3.keep oM oM (λ k h1 h2=>hu.block k oM),aH hu oM b4,?_⟩ (by simp only;omega);rw [show cnt-i=cnt-(i+1)+1 by omega] at a0;simp only [kF] at a0;rw [a0];simp
  obtain rfl:i=cnt:=by omega
  rw [Nat.sub_self] at a0;simp only [kF,List.append_nil] at a0;obtain ⟨p3,o3,rfl,i3⟩:=aM k0;obtain ⟨H,hH⟩:∃ H,w1.heap.size=H:=⟨_,rfl⟩
  have j6:bk+1≤H:=by omega
  have u2:Sl (λ k=>bk+1≤k∧k<H) w1 1 p3 i o3 (bC f2):=i3.tight.mono (λ k hk=>⟨hk.1.1,oM⟩);rw [a0] at e0;simp only at e0;clear k0 i3;repeat refine aF ?_
  refine aX (S:=Value×Nat) (λ s=>[(67,.int .i64 (s.2:Int)),(66,.int .i64 ((i-1:Nat):Int)),(4,.pointer (some ⟨b,0,none⟩)),(7,.pointer (some ⟨bk,0,none⟩)),(2,.pointer (some ⟨o0,0,none⟩))])
   (λ s w1=>s.2≤i-1∧H≤w1.heap.size∧∃ (m3:List Bs) (o4:Option Bs) (cells:List Value),Blk w1 bk 79 [.slice none 0 0,.slice p3 i o3,s.1]∧Blk w1 o0 79 nil3∧Sl (λ k=>bk+1≤k∧k<H) w1 1 p3 i o3 (bC f2)∧w1.ownsRow H 30 1 s.1 s.2 cells∧KyCells (λ k=>H≤k∧s.1.ownBlock≠some k) w1 cells m3∧RS w0.heap.size b o4 w1∧Grow w w1∧kX (i-1) o=(m3++(kX (i-1-s.2) o4).1,(kX (i-1-s.2) o4).2))
   (λ s=>i-1-s.2) (.slice none 0 0,0) ⟨rfl,rfl,rfl,rfl,rfl,trivial⟩ ⟨by show 0≤i-1;omega,oM,[],o,[],i0,y0,u2,lF,trivial,t0,z0,rfl⟩ ?_
  clear i0 y0 u2 t0 z0 hH;rintro ⟨v,j⟩ w1 ⟨hj,l6,m3,o4,cells,i0,y0,u2,k0,l0,t0,z0,j0⟩;simp only at hj i0 k0 l0 j0;refine bD (e':=[(67,.int .i64 (j:Int)),(66,.int .i64 ((i-1:Nat):Int)),(4,.pointer (some ⟨b,0,none⟩)),(7,.pointer (some ⟨bk,0,none⟩)),(2,.pointer (some ⟨o0,0,none⟩))]) ?_ ⟨rfl,rfl,rfl,rfl,rfl,trivial⟩;have k5:=i0.lt;by_cases j1:j<i-1;rotate_left
  ·obtain rfl:j=i-1:=by omega
   rw [Nat.sub_self] at j0;simp only [kX,List.append_nil] at j0;repeat refine aF ?_
   obtain ⟨va,vc,rfl,i3⟩:=aM k0;refine ⟨w0.heap.size,b,bk,o0,bk+1,⟨none,0,0,p3,i,o3,va,i-1,vc⟩,⟨[],f2,m3⟩,o4,⟨rfl,rfl,rfl,trivial⟩,oM,oM,oM,oM,oM,oM,i0,y0,t0,⟨⟨[],Sl.nil_mk _ _ _,trivial⟩,u2.mono λ k hk=>hk.1,⟨cells,i3.mono λ k hk=>by have:=hk.1;omega,l0.go (Carry.mono λ k hk _=>by have:=hk.1;omega)⟩⟩,z0,?_⟩;rw [e0,j0]
  ·repeat refine aF ?_
   apply mX (Mut b) 5 3 (λ w=>RS w0.heap.size b o4 w∧But b w1 w) (λ w=>RS w0.heap.size b (gZ o4).2 w∧But b w1 w) (λ w=>But b w1 w)
    [gY _,gY _,gY _,ofA (λ u w=>∃ a c,u=.slice a (gZ o4).1.length c∧Sl (λ k=>w1.heap.size≤k) w 1 a (gZ o4).1.length c (bB (gZ o4).1)) (by rintro u w w' g ⟨a,c,h1,h2⟩;exact ⟨a,c,h1,h2.grow g⟩),
     ofA (λ u w=>∃ bb a c,u=.slice (some ⟨bb,0,none⟩) 1 1∧w1.heap.size≤bb∧Blk w bb 30 [.slice a (gZ o4).1.length c]∧Sl (λ k=>w1.heap.size≤k) w 1 a (gZ o4).1.length c (bB (gZ o4).1)) (by rintro u w w' g ⟨bb,a,c,h1,h0,h2,h3⟩;exact ⟨bb,a,c,h1,h0,h2.grow g,h3.grow g⟩)]
   ·kernel_rfl
   ·exact ⟨t0,But.refl _ _⟩
   ·exact λ _ h=>h.2
   ·exact λ _ h=>h.2
   ·exact λ _ h=>h.size
   ·exact λ _ _ h g=>⟨h.1.grow g,gE g h.2⟩
   ·exact λ _ _ h g=>⟨h.1.grow g,gE g h.2⟩
   ·exact λ _ _ h=>h.size
   ·repeat' (first|exact iO|refine gT ?_ ?_)
    iterate 3
     ·refine cZ rfl rfl rfl rfl ?_;intro wq _ _ n0;have n5:=cG n0 i0 oM;(refine yU ?_)
      repeat refine aF ?_
      exact bQ rfl (Grow.refl _) rfl
    ·refine iN rfl rfl rfl rfl ?_;intro wq _ _ n0;(refine yU ?_)
     refine aA rfl (rs_block n0.1) rfl ?_;rintro _ w5 ⟨va,vc,rfl,f1,g1,r2⟩;repeat refine aF ?_
     have:=n0.2.size;exact bQ rfl ⟨r2,g1,but_but (dN r2) n0.2⟩ ⟨va,vc,rfl,f1.mono λ k hk=>by omega⟩
    ·refine cZ rfl rfl rfl rfl ?_;intro wq _ _ n0;(((repeat (refine needA_cons rfl rfl ?_;intro vq s0;try (obtain rfl:=Eq.symm s0)));(refine needA_nil ?_)))
     obtain ⟨va,vc,rfl,f1⟩:=s0;have:=n0.size;refine TL.buildSlice rfl rfl rfl rfl rfl ?_;intro bb w6 z2 g4 x3 u3 t3;repeat refine aF ?_
     exact bQ rfl z2 ⟨bb,va,vc,rfl,oM,g4,f1.grow z2⟩
   ·rintro wT lo hi ⟨j2,p0⟩ _ _;(((repeat (refine needA_cons rfl rfl ?_;intro vq s0;try (obtain rfl:=Eq.symm s0)));(refine needA_nil ?_)))
    obtain ⟨bb,va,vc,rfl,e4,f4,f1⟩:=s0;have f0:=mK k0 p0 oM;have v0:=cG p0 i0 oM;have x0:Blk wT o0 79 nil3:=cG p0 y0 oM;have l5:=u2.go (Carry.but p0 (λ k hk _=>by omega));have c5:=p0.size;refine dO rfl rfl f0 (aU (sz:=1) (m:=1) f4 rfl dM) (by simp [Value.oneCell']) (by unfold maxLen;omega) oM oM rfl ?_;intro v' w7 m0 g0 u0;have d4:=dE g0 (λ e=>by have:=aR f0 e;omega) v0;have s1:=dE g0 (λ e=>by have:=aR f0 e;omega) x0;have t5:Sl (λ k=>bk+1≤k∧k<H) w7 1 p3 i o3 (bC f2):=l5.keep (λ k hk u2=>g0.block k u2 (λ e=>by have:=aR f0 e.symm;omega)) g0.size;have z3:RS w0.heap.size b (gZ o4).2 w7:=j2.keep oM g0.size (λ k h1 h2=>g0.block k oM (λ e=>by have:=aR f0 e.symm;omega));have b4:Grow w w7:=Grow.mk (aL g0 oM (λ k hk=>by have:=aR f0 hk;omega) (gR p0 oM z0).1);have d2:Carry (λ k=>H≤k∧v.ownBlock≠some k) wT (λ k=>H≤k∧v'.ownBlock≠some k) w7:=u0 (λ k=>H≤k);have q0:=l0.go ((Carry.but p0 (λ k hk _=>by omega)).trans d2);have m4:=f1.go ((Carry.mono (λ k hk _=>⟨oM,λ e=>by have:=aR k0 e;omega⟩)).trans d2);obtain ⟨x1,u1,rfl,s3⟩:=aM m0;have d5:=g0.size;clear u0 d2 i0 y0 v0 x0 j2 t0 u2 l5;repeat (first|refine aF ?_|refine yJ λ w' hu i0 e1=>?_)
    have y4:Carry (λ k=>H≤k∧(Value.slice x1 (j+1) u1).ownBlock≠some k) w7 (λ k=>H≤k∧(Value.slice x1 (j+1) u1).ownBlock≠some k) w':=Carry.upd hu (λ k hk _=>by omega);refine aE (.slice x1 (j+1) u1,j+1) ⟨rfl,rfl,rfl,rfl,rfl,trivial⟩ ⟨j1,oM,m3++[(gZ o4).1],(gZ o4).2,cells++[.slice va (gZ o4).1.length vc],i0,Blk.upd hu oM s1,t5.go (Carry.upd hu (λ k hk _=>by omega)),fZ m0 hu oM,(q0.append (show KyCells _ _ [_] [(gZ o4).1] from ⟨⟨_,_,_,rfl,m4⟩,trivial⟩)).go y4,z3.keep oM oM (λ k h1 h2=>hu.block k oM),aH hu oM b4,?_⟩ (by simp only;omega);rw [show i-1-j=i-1-(j+1)+1 by omega] at j0;simp only [kX] at j0;rw [j0];simp
 rintro e w1 ⟨B,b,bk,o0,B0,x,nd,o,r3,q1,q2,q3,q4,q5,q6,i0,y0,t0,j5,z0,a0⟩;refine bD (e':=[(4,_),(7,_),(2,_)]) ?_ r3;clear r3;obtain ⟨m,hm,s2,g2⟩:=rs_rest t0;have p5:=i0.lt;repeat refine aF ?_
 refine aA rfl s2 rfl ?_;rintro _ w2 ⟨rfl,f3⟩;repeat refine aF ?_
 refine aA rfl (g2 w2 (t0.grow f3) f3) rfl ?_;rintro _ w3 ⟨ta,tc,rfl,i4,s4,z1⟩;have g3:Blk w3 bk 79 x.cs:=cG (dN z1) (i0.grow f3) oM;have z5:Blk w3 o0 79 nil3:=cG (dN z1) (y0.grow f3) oM;have x2:NdAt (λ k=>B0≤k) w3 x nd:=j5.go ((Carry.grow f3).trans (Carry.but (dN z1) (λ k hk _=>by omega)));have k4:Grow w w3:=gR (dN z1) oM (z0.trans f3);clear i0 y0 j5 t0 s2 g2 f3 z1 z0;repeat refine aF ?_
 have d6:=i4.le;refine aX (S:=Nat) (λ i=>[(82,.int .i64 (i:Int)),(81,.int .i64 ((o.getD []).length:Int)),(80,.slice ta (o.getD []).length tc),(4,.pointer (some ⟨b,0,none⟩)),(7,.pointer (some ⟨bk,0,none⟩)),(2,.pointer (some ⟨o0,0,none⟩))]) (λ i w'=>i≤(o.getD []).length∧w3=w'∧∀ j,j<i→(o.getD [])[j]? = some 0) (λ i=>(o.getD []).length-i) 0 ⟨rfl,rfl,rfl,rfl,rfl,rfl,trivial⟩ ⟨oM,rfl,λ j hj=>by omega⟩ ?_;rintro i _ ⟨hi,rfl,h4⟩;by_cases j1:i<(o.getD []).length
 ·obtain ⟨p,hp⟩:∃ p,(o.getD [])[i]? = some p:=⟨_,List.getElem?_eq_getElem oM⟩
  have h6:w3.cell? (at' ta i)=some (.int .u8 (p:Int)):=i4.row.cell (bys_at hp);by_cases h5:p=0
  ·subst h5;repeat (first|(refine aI ?_;refine aC rfl rfl rfl j1 (Nat.mul_one _) ⟨_,_,i4⟩ rfl ?_)|refine yC ?_)
   exact aE (i+1) ⟨rfl,rfl,rfl,rfl,rfl,rfl,trivial⟩ ⟨j1,rfl,λ j hj=>by
    by_cases u5:j=i
    ·subst u5;exact hp
    ·exact h4 j oM⟩ oM
  ·have hN:fX bs=none:=by
    rw [a0]
    cases o with
    | none=>rfl
    | some r =>
     have:r.all (λ x=>x==0)=false:=by
      rw [← Bool.not_eq_true,List.all_eq_true];intro h;have:=h p (List.mem_of_getElem? hp);simp at this;exact h5 this
     simp [finN,this]
   repeat (first|(refine aI ?_;refine aC rfl rfl rfl j1 (Nat.mul_one _) ⟨_,_,i4⟩ rfl ?_)|refine yC ?_|refine yJ λ w' hu i0 e1=>?_)
   exact fL rfl (aW (by assumption) rfl) rfl ⟨_,rfl,by rw [hN];rfl,yG⟩
 repeat refine aF ?_
 refine aA rfl (rs_err s4) rfl ?_;rintro _ _ ⟨⟨ev,rfl,k3⟩,rfl⟩
 cases o with
 | none =>
  have m1:ev≠0:=λ h=>(k3.1 h) rfl;have hN:fX bs=none:=a0;repeat (first|refine aF ?_|refine yJ λ w' hu i0 e1=>?_)
  exact fL rfl (aW (by assumption) rfl) rfl ⟨_,rfl,by rw [hN];rfl,yG⟩
 | some r =>
  have m1:ev=0:=k3.2 sM;subst m1
  have hz:r.all (λ x=>x==0)=true:=by
   rw [List.all_eq_true];intro y hy;obtain ⟨j,hj,rfl⟩:=List.mem_iff_getElem.1 hy;have:=h4 j (by simp at j1;omega);simp only [Option.getD_some] at this;rw [List.getElem?_eq_getElem hj] at this;simpa using this
  cases hok:bF nd with
  | false =>
   have hN:fX bs=none:=by rw [a0];simp [finN,hok]
   repeat refine aF ?_
   refine aA rfl (check_bad x2 hok) rfl ?_;rintro _ w4 ⟨rfl,d3⟩;repeat (first|refine aF ?_|refine yJ λ w' hu i0 e1=>?_)
   exact fL rfl (aW (by assumption) rfl) rfl ⟨_,rfl,by rw [hN];rfl,yG⟩
  | true =>
   have hN:fX bs=some nd:=by rw [a0];simp only [Option.bind_some,finN,hz,hok];rfl
   repeat refine aF ?_
   refine aA rfl (check_ok x2 hok) rfl ?_;rintro _ w4 ⟨rfl,d3⟩;repeat (first|refine aF ?_|refine yJ λ w' hu i0 e1=>?_)
   refine fL rfl (aW (by assumption) rfl) rfl ⟨_,rfl,?_,yG⟩;rw [hN];exact ⟨x,rfl,x2.go ((Carry.grow d3).trans ((Carry.upd hu (λ k hk _=>by omega)).trans (Carry.mono (λ k hk _=>by omega))))⟩
end Go.Proofs.YtfpadnmdafiddaaGreatDoor
namespace Go.V
open Go Go.RowKit
section
variable [Rn]
variable {P:Program} {n:Nat} {e:dI} {w:World} {Q:dA} {ops:Array Oper} {rest:List Oper} {d:Nat} {ty:TypeId} {pos:String} {aft:Array Edge}
theorem TL.eqNilP {t t2:TypeId} {x y:Operand} {a:Addr} [ht:PtrTy P t] (hx:val e x=some (.pointer (some a))) (hy:val e y=some (.pointer none)) (hd:Nat.blt d n=true)
  (k:TL P n ops rest ((d,.bool false)::e) w Q):TL P n ops (⟨some d,.binOp .eql t x y t2,ty,pos,aft,none⟩::rest) e w Q :=
 TL.run (λ r hr=>by
  have hg:eqGuard .eql t x y (.pointer (some a)) (.pointer none)=Pure.pure ():=rfl;simp only [execOp,hr.eval hx,hr.eval hy,hg];simp only [binOp]
  simp [Op.equal,Op.maxDepth,run_equalIn_nil 9999 ht]) hd k
end
end Go.V
namespace Go.Proofs.YtfpadnmdafiddaaGreatDoor
open Go Go.RowKit Go.V
theorem ready_c {w:World} {L:PL} {g:Pg} (h:PgAt w L g) (r:Int) (hr : -1≤r) (a0:r≤9223372036854775807) :
  Calls Tryz.prog 93 #[.pointer (some ⟨L.p,0,none⟩),.int .i64 r] w (Ret λ v w'=>v=.int .i64 0∧w=w'):=by
 refine V.calls (args:=[_,_]) Tryz.func93 rfl Tryz.ntmps93 rfl rfl ?_;have ht:decide (r < -1)=false:=decide_eq_false oM;repeat (first|(refine iR 25 ?_;refine TL.eqNilP rfl rfl rfl ?_)|(refine aB 50 ?_;refine aA rfl (read_neg h) rfl ?_;rintro _ _ ⟨rfl,rfl⟩)|refine yA ?_)
 exact bA rfl ⟨_,rfl,rfl,rfl⟩
theorem size_nd (x:NV) (w:World) (h1:x.n1≤1000000) (h2:x.n2≤1000000) :
  Calls Tryz.prog 83 #[x.val] w (Ret λ v w'=>v=.int .i64 ((x.n1+x.n2:Nat):Int)∧Grow w w'):=by
 refine V.calls (args:=[_]) Tryz.func83 rfl Tryz.ntmps83 rfl rfl ?_;repeat (first|refine aF ?_|refine yI λ bk w' hg f0 e0 a0=>?_)
 exact bA rfl ⟨_,rfl,rfl,yG⟩
theorem node_c {w:World} {L:PL} {g:Pg} (h:PgAt w L g) (n:Nat) (hn:n<4294967296) (hu:bK g n=true) :
  Calls Tryz.prog 127 #[.pointer (some ⟨L.p,0,none⟩),.int .i64 (n:Int)] w (Ret λ v w'=>(match fX (g.body n) with
   | some nd=>∃ x:NV,v=.tuple #[x.val,.int .i64 0]∧NdAt (λ k=>w.heap.size≤k) w' x nd
   | none=>v=.tuple #[.agg nil3.toArray,.int .i64 4])∧Grow w w'):=by
 refine V.calls (args:=[_,_]) Tryz.func127 rfl Tryz.ntmps127 rfl rfl ?_;repeat (first|refine dD ?_|refine yI λ bk w' hg a0 h0 j0=>?_)
 have g0:Grow w w':=by exact yG
 have o0:=g0.size;refine aB 50 ?_;refine aA rfl (pread_c (h.grow g0) n hn hu) rfl ?_;rintro _ w2 ⟨u,rfl,e0,f0⟩;obtain ⟨a,c,rfl,k0⟩:=aM e0;have n0:=f0.size;repeat refine dD ?_
 refine aB 174 ?_;refine aA rfl (read_c _ a 500 c (g.body n) _ k0 (h.lt n) oM) rfl ?_;rintro v w3 ⟨hv,i0⟩;have q0:=a0.lt;have m0:=(a0.grow f0).grow i0;have p0:=(g0.trans f0).trans i0
 cases hr:fX (g.body n) with
 | none =>
  rw [hr] at hv;simp only at hv;subst hv;repeat (first|refine dD ?_|refine yJ λ w' hu a0 h0=>?_)
  exact fL rfl (aW (by assumption) rfl) rfl ⟨_,rfl,rfl,yG⟩
 | some nd =>
  rw [hr] at hv;obtain ⟨x,rfl,l0⟩:=hv;repeat (first|refine dD ?_|refine yJ λ w' hu a0 h0=>?_)
  refine fL rfl (aW (by assumption) rfl) rfl ⟨_,rfl,⟨x,rfl,?_⟩,yG⟩;have h4:=l0.go (Carry.upd (by assumption) (λ k hk _=>by omega));exact h4.go (Carry.mono (λ k hk _=>by omega))
theorem back_c (a:Option Addr) (n c:Nat) (w:World) :
  Calls Tryz.prog 79 #[.slice a n c] w (Ret λ v w'=>∃ b1,v=.func (.func 151) #[] #[.pointer (some ⟨b1,0,none⟩)] ∧
   w.heap.size≤b1∧Blk w' b1 136 [.slice a n c]∧Grow w w'):=by
 refine V.calls (args:=[_]) Tryz.func79 rfl Tryz.ntmps79 rfl rfl ?_;repeat (first|(refine mW ?_;refine TL.makeFunc (xs:=[]) (cs:=[_]) rfl rfl rfl ?_)|refine yA ?_|refine yI λ bk w' hg f0 e0 a0=>?_)
 exact bA rfl ⟨_,rfl,_,rfl,oM,yB,yG⟩
theorem backs_c (G:Nat→Prop) (l b1 m:Nat) (a:Option Addr) (c:Nat) (cs:List Value) (J:Nat→World→Prop) (Fin:World→Prop) (hm:m≤1000000)
  (e0:∀ k w,J k w→Blk w b1 136 [.slice a m c]∧Sl G w 4 a m c cs)
  (a0:∀ k w,k<m→J (k+1) w→Yld Tryz.prog l [.int .i64 (k:Int),.agg ((cs.drop (k*4)).take 4).toArray] w (λ v w'=>(v=.bool true∧J k w')∨(v=.bool false∧Fin w')))
  (w:World) (h0:J m w) :
  Calls Tryz.prog 151 #[.func (.yield l) #[] #[],.pointer (some ⟨b1,0,none⟩)] w (Ret λ _ w'=>J 0 w'∨Fin w'):=by
 refine V.calls (args:=[_,_]) Tryz.func151 rfl Tryz.ntmps151 rfl rfl ?_;obtain ⟨g0,hs⟩:=e0 m w h0;repeat (first|(refine iQ ?_;refine TL.subI rfl rfl oM oM rfl ?_)|refine yC ?_)
 refine aX (S:=Nat) (λ k=>[(3,.int .i64 ((k:Int)-1)),(1,.pointer (some ⟨b1,0,none⟩)),(0,.func (.yield l) #[] #[])]) (λ k w1=>k≤m∧J k w1) (λ k=>k) m ⟨rfl,rfl,rfl,trivial⟩ ⟨Nat.le_refl _,h0⟩ ?_;clear h0 g0 hs;rintro k w1 ⟨hk,hj⟩;obtain ⟨g0,hs⟩:=e0 k w1 hj
 cases k with
 | zero =>
  repeat refine aF ?_
  exact dK (vs:=[]) rfl rfl ⟨_,rfl,.inl hj⟩
 | succ k =>
  rw [show (((k+1:Nat):Int)-1)=(k:Int) by omega];have i0:=hs.len;have k0:((cs.drop (k*4)).take 4).length=4:=by rw [List.length_take,List.length_drop];omega
  repeat (first|(refine aI ?_;refine aC (j:=k) rfl rfl rfl oM rfl ⟨_,_,hs⟩ rfl ?_)|(refine aQ ?_;refine dJ rfl hs (λ j v hj=>by rw [List.getElem?_take] at hj;split at hj<;>first|(rw [List.getElem?_drop] at hj;exact hj)|cases hj) k0 rfl ?_)|refine yC ?_)
  refine TL.yield rfl rfl (a0 k _ oM hj) rfl ?_;rintro v w7 (⟨rfl,f0⟩|⟨rfl,j0⟩)
  ·obtain ⟨l0,m0⟩:=e0 k _ f0;repeat (first|(refine iQ ?_;refine TL.subI rfl rfl oM oM rfl ?_)|refine yC ?_)
   exact aE k ⟨rfl,rfl,rfl,trivial⟩ ⟨oM,f0⟩ oM
  ·repeat refine aF ?_
   exact eF (vs:=[]) rfl rfl ⟨_,rfl,.inr j0⟩
structure WkAt (w:World) (b p m:Nat) (f:Nat→Option Value):Prop where
 blk:Blk w b 226 [.pointer (some ⟨p,0,none⟩),.map (some m)]
 map:MapF w m f
 ne:b≠m
theorem walk_new (p:Nat) (w:World) :
  Calls Tryz.prog 87 #[.pointer (some ⟨p,0,none⟩)] w (Ret λ v w'=>∃ b m,v=.pointer (some ⟨b,0,none⟩)∧w.heap.size≤b∧w.heap.size≤m∧WkAt w' b p m (λ _=>none)∧Grow w w'):=by
 refine V.calls (args:=[_]) Tryz.func87 rfl Tryz.ntmps87 rfl rfl ?_;repeat (first|(refine TL.isMakeMap ?_;refine TL.makeMapF rfl ?_;intro m w1 j0 e0 i0 h0)|refine yA ?_|refine yI λ bk w' hg f0 g0 a0=>?_)
 exact bA rfl ⟨_,rfl,bk,m,rfl,oM,oM,⟨f0,e0.grow hg,oM⟩,yG⟩
theorem write_c {w:World} {L:PL} {g g':Pg} (h:PgAt w L g) (ht:TabAt w) (F:Nat→Prop) (x:NV) (nd:Nd) (h0:NdAt F w x nd) (e0:bF nd=true) (m0:∀ b∈dC nd,b<256) (n:Nat) (hw:newP g (dC nd)=some (n,g')) :
  Calls Tryz.prog 84 #[.pointer (some ⟨L.p,0,none⟩),x.val] w (Ret λ v w'=>v=.tuple #[.int .i64 (n:Int),.int .i64 0]∧PgAt w' L g'∧ButS L.S w w'):=by
 have o0:∀ w1,Grow w w1→Calls Tryz.prog 154 #[x.val] w1 (Ret λ v w'=>∃ u,v=.tuple #[u,.int .i64 0]∧w'.ownsRow w1.heap.size 5 1 u (dC nd).length (bB (dC nd))∧Grow w1 w'):=λ w1 gr=>by
  cases hl:bN nd with
  | true=>exact bytes_leaf F x nd w1 (h0.go (Carry.grow gr)) e0 hl
  | false=>exact bytes_branch F x nd w1 (h0.go (Carry.grow gr)) e0 hl
 have f0:=length_bytesN e0;refine V.calls (args:=[_,_]) Tryz.func84 rfl Tryz.ntmps84 rfl rfl ?_;repeat (first|refine dD ?_|refine yI λ bk w' hg s0 q0 j0=>?_)
 have i0:Grow w w':=by exact yG
 refine aB 154 ?_;refine aA rfl (o0 _ i0) rfl ?_;rintro _ w2 ⟨u,rfl,a0,n0⟩;obtain ⟨a,c,rfl,k0⟩:=aM a0;have g0:=i0.trans n0;repeat refine dD ?_
 refine aB 45 ?_;refine aA rfl (new_c (h.grow g0) (ht.grow g0) _ a (dC nd).length c (dC nd) k0 f0 m0 n g' hw) rfl ?_;rintro _ w3 ⟨rfl,l0,p0⟩;repeat refine dD ?_
 exact fJ rfl rfl ⟨_,rfl,rfl,l0,(ButS.grow g0).trans p0⟩
theorem tready_c {w:World} {L:PL} {g:Pg} (h:PgAt w L g) (r:Int) (hr : -1≤r) (e0:r≤9223372036854775807) (F F':Nat→Prop) (a a':Option Addr) (n c n' c':Nat) (k v:Bs) (hk:Sl F w 1 a n c (bB k)) (hv:Sl F' w 1 a' n' c' (bB v)) (f0:dW k=true) (a0:eR v=true) (g0:32≤cC g) :
  Calls Tryz.prog 77 #[.pointer (some ⟨L.p,0,none⟩),.int .i64 r,.slice a n c,.slice a' n' c'] w (Ret λ u w'=>u=.int .i64 0∧Grow w w'):=by
 refine V.calls (args:=[_,_,_,_]) Tryz.func77 rfl Tryz.ntmps77 rfl rfl ?_;have i0:=h.cnt;repeat (first|(refine aB 93 ?_;refine aA rfl (ready_c h r hr e0) rfl ?_;rintro _ _ ⟨rfl,rfl⟩)|(refine aB 94 ?_;refine aA rfl (key_t hk f0) rfl ?_;rintro _ _ ⟨rfl,rfl⟩)|(refine aB 148 ?_;refine aA rfl (value_t hv a0) rfl ?_;rintro _ _ ⟨rfl,rfl⟩)|(refine aB 21 ?_;refine aA rfl (sparet_c h) rfl ?_;rintro _ _ ⟨rfl,h0⟩)|refine yC ?_)
 exact bA rfl ⟨_,rfl,rfl,yG⟩
end Go.Proofs.YtfpadnmdafiddaaGreatDoor
