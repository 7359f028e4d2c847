import Derived.Test.YtfpadnmdafiddaaGreatDoorP0
import Derived.Test.YtfpadnmdafiddaaGreatDoorPf
import Derived.Test.YtfpadnmdafiddaaGreatDoorPd
import Derived.Test.YtfpadnmdafiddaaGreatDoorPe
set_option linter.all false
set_option maxHeartbeats 16000000
set_option maxRecDepth 100000
namespace Go.Proofs.YtfpadnmdafiddaaGreatDoor
open Go Go.RowKit Go.V
def be (l:List Nat):BitVec 64:=l.foldl (λ x b=>(x<<<8)|||BitVec.ofNat 64 b) 0#64
def part (bs:List Nat) (i:Nat):List (BitVec 64):=(List.range 80).map λ j=>be (((bs.take i).drop (8*j)).take 8)
theorem jL (bs:List Nat) (i:Nat):(part bs i).length=80:=by simp [part]
theorem part_at (bs:List Nat) (i:Nat) {j:Nat} (h:j<80):(part bs i).getD j 0#64=be (((bs.take i).drop (8*j)).take 8):=by
 rw [List.getD_eq_getElem?_getD,part,List.getElem?_map,List.getElem?_range h];rfl
theorem part_zero (bs:List Nat):part bs 0=List.replicate 80 0#64:=by
 apply List.ext_getElem?;intro j;by_cases h:j<80
 ·rw [part,List.getElem?_map,List.getElem?_range h,List.getElem?_replicate,if_pos h];simp [be]
 ·rw [List.getElem?_eq_none (by rw [jL];omega),List.getElem?_eq_none (by simp;omega)]
theorem part_step {bs:List Nat} {i:Nat} (hi:i<128) (hl:bs.length=128):(part bs i).set (i / 8) (((part bs i).getD (i / 8) 0#64<<<8)|||BitVec.ofNat 64 (bs.getD i 0))=part bs (i+1):=by
 apply List.ext_getElem?;intro j;have e0:bs.take (i+1)=bs.take i++[bs.getD i 0]:=by rw [List.getD_eq_getElem?_getD,List.getElem?_eq_getElem oM];simp only [Option.getD_some];exact (List.take_append_getElem oM).symm
 by_cases h:j<80
 ·have e2:(part bs (i+1))[j]? = some (be (((bs.take (i+1)).drop (8*j)).take 8)):=by rw [part,List.getElem?_map,List.getElem?_range h];rfl
  have e1:(part bs i)[j]? = some (be (((bs.take i).drop (8*j)).take 8)):=by rw [part,List.getElem?_map,List.getElem?_range h];rfl
  have a0:(bs.take i).length=i:=by rw [List.length_take];omega
  rw [e2];by_cases hj:i / 8=j
  ·subst hj;rw [List.getElem?_set_self (by rw [jL];omega),part_at _ _ h,e0,List.drop_append_of_le_length oM];have h1:((bs.take i).drop (8*(i / 8))).length≤7:=by rw [List.length_drop,a0];omega
   rw [List.take_of_length_le (l:=(bs.take i).drop (8*(i / 8))) oM,List.take_of_length_le (l:=(bs.take i).drop (8*(i / 8))++[bs.getD i 0]) (by rw [List.length_append];simp only [List.length_singleton];omega)];simp only [be,List.foldl_append,List.foldl_cons,List.foldl_nil]
  ·rw [List.getElem?_set_ne hj,e1,e0];rcases Nat.lt_or_gt_of_ne hj with hj|hj
   ·rw [List.drop_eq_nil_of_le (by rw [a0];omega),List.drop_eq_nil_of_le (by rw [List.length_append,a0];simp only [List.length_singleton];omega)]
   ·rw [List.drop_append_of_le_length oM,List.take_append_of_le_length (by rw [List.length_drop,a0];omega)]
 ·rw [List.getElem?_eq_none (by rw [List.length_set,jL];omega),List.getElem?_eq_none (by rw [jL];omega)]
attribute [irreducible] part
def sg0 (x:BitVec 64):BitVec 64:=rotl x (kP (-1)) ^^^ rotl x (kP (-8)) ^^^ (x>>>7)
def sg1 (x:BitVec 64):BitVec 64:=rotl x (kP (-19)) ^^^ rotl x (kP (-61)) ^^^ (x>>>6)
def nextW (r:List (BitVec 64)) (t:Nat):BitVec 64:=r.getD (t-16) 0#64+sg0 (r.getD (t-15) 0#64)+r.getD (t-7) 0#64+sg1 (r.getD (t-2) 0#64)
def lR:Nat→List (BitVec 64)→List (BitVec 64)
 | 0,ws=>ws
 | n+1,ws=>(lR n ws).set (n+16) (nextW (lR n ws) (n+16))
theorem sched_len (n:Nat) (ws:List (BitVec 64)):(lR n ws).length=ws.length:=by induction n<;>simp [lR, *]
theorem jU {ws:List (BitVec 64)} {j:Nat} (h:j<ws.length):(ws.map wB)[j]? = some (wB (ws.getD j 0#64)):=by
 simp [List.getD_eq_getElem?_getD,h]
theorem map_set (ws:List (BitVec 64)) (j:Nat) (x:BitVec 64):(ws.map wB).set j (wB x)=(ws.set j x).map wB:=by rw [List.map_set]
def pbs (bs:List Nat):List Value:=bs.map λ (b:Nat)=>Value.int .u8 (b:Int)
theorem pbs_at {bs:List Nat} {j:Nat} (h:j<bs.length):(pbs bs)[j]? = some (.int .u8 ((bs.getD j 0:Nat):Int)):=by
 simp [pbs,List.getD_eq_getElem?_getD,h]
instance:Zero Tryz.prog 340 (.agg ((List.replicate 80 0#64).map wB).toArray):=⟨kR⟩
theorem schedule_c (bs:List Nat) (hl:bs.length=128) (hb:∀ b∈bs,b<256) (w:World):Calls Tryz.prog 268 #[.agg (pbs bs).toArray] w
  (Ret λ v w'=>v=.agg ((lR 64 (part bs 128)).map wB).toArray∧Grow w w'):=by
 refine V.calls (args:=[_]) Tryz.func268 rfl Tryz.ntmps268 rfl rfl ?_;have j1:(pbs bs).length=128:=by simp [pbs,hl]
 repeat (first|refine aF ?_|refine yI λ bk w' hg q1 r2 z0=>?_)
 refine iP rfl yB (by rw [j1];rfl) rfl ?_;rename_i bp wp h2 j2 y0 n0 br wr a0 o1 d2 m0;have w2:bk≠br∧w.heap.size≤br∧w.heap.size≤bk:=by omega
 have u0:=o1.grow hg;replace hg:Grow w w':=by exact yG
 clear h2 a0 j2 o1;have u1:Blk w' bk 340 ((part bs 0).map wB):=by rw [part_zero];exact q1
 repeat refine aF ?_
 refine aX (S:=Nat) (λ i=>[(12,.int .i64 (i:Int)),(11,.agg (pbs bs).toArray),(3,.pointer (some ⟨bk,0,none⟩)),(2,.pointer (some ⟨br,0,none⟩))])
  (λ i w6=>i≤128∧Blk w6 bk 340 ((part bs i).map wB)∧w6.heap.size=w'.heap.size∧Grow w w6∧Upd bk w' w6) (λ i=>128-i) 0 ⟨rfl,rfl,rfl,rfl,trivial⟩ ⟨Nat.zero_le _,u1,rfl,hg,Upd.refl _ _⟩ ?_
 rintro i w6 ⟨hi,k0,e2,o0,l0⟩;by_cases e1:i<128
 ·have ht:(decide ((i:Int)<128))=true:=decide_eq_true oM;have m1:=jL bs i;have r1:bs.getD i 0<256:=by rw [List.getD_eq_getElem?_getD,List.getElem?_eq_getElem oM];exact hb _ (List.getElem_mem _)
  have h1:=part_step e1 hl;repeat refine aF ?_
  refine TL.indexV rfl rfl oM rfl (pbs_at oM) rfl ?_;generalize bs.getD i 0=bi at *;repeat (first|(refine aQ ?_;refine aS rfl (Blk.cell k0 (jU oM)) rfl ?_)|(refine jR ?_;refine TL.shlB6 rfl rfl dM rfl ?_)|refine TL.convW8 rfl r1 rfl ?_|refine TL.orB6 rfl rfl rfl ?_|refine yC ?_)
  (refine dR rfl rfl k0 rfl (by rw [List.length_map,m1];exact Nat.ble_eq_true_of_le oM) (map_set _ _ _) ?_;intro w7 x0 i0 u2)
  rw [h1] at i0;clear h1 m1 r1;replace o0:=aH x0 oM o0;replace l0:=l0.trans x0;clear x0 k0;repeat refine aF ?_
  exact aE (i+1) ⟨rfl,rfl,rfl,rfl,trivial⟩ ⟨e1,i0,oM,o0,l0⟩ oM
 ·obtain rfl:i=128:=by omega
  have ht:(decide (((128:Nat):Int)<128))=false:=by decide
  have s0:=u0.upd l0 oM;clear u1 u0 l0 hi e1;have g0:=jL bs 128;obtain ⟨ws,w1⟩:∃ ws,ws=part bs 128:=⟨_,rfl⟩
  rw [← w1] at k0 g0 ⊢;repeat refine aF ?_
  refine aX (S:=Nat) (λ t=>[(6,.int .i64 ((t+16:Nat):Int)),(3,.pointer (some ⟨bk,0,none⟩)),(2,.pointer (some ⟨br,0,none⟩))])
   (λ t w7=>t≤64∧Blk w7 bk 340 ((lR t ws).map wB)∧Blk w7 br 340 (Value.agg ((List.replicate 80 0#64).map wB).toArray).cells.toList∧Grow w w7) (λ t=>64-t) 0 ⟨rfl,rfl,rfl,trivial⟩ ⟨Nat.zero_le _,k0,s0,o0⟩ ?_
  clear k0 o0 s0 e2 q1 hg y0 n0 m0 z0 hb ht j1;rintro t w7 ⟨q2,i0,h0,e0⟩;by_cases y1:t<64
  ·have z1:(decide (((t+16:Nat):Int)<80))=true:=decide_eq_true oM;have j0:(lR t ws).length=80:=by rw [sched_len,g0]
   repeat refine aF ?_
   apply T.any 10 [is _,is _,is _,is _,is _,is _,is _,is _,is _,is _];(· kernel_rfl);(· ((repeat' (first|exact aN|refine aK ?_ ?_));(iterate 10 (· (refine yQ λ wq _ _ g2=>?_;(repeat (first|refine aF ?_|(refine aQ ?_;refine aS rfl (Blk.cell yB (jU oM)) rfl ?_)));exact aD rfl yG rfl)))));(rintro _ _ _ a0 _ _;(refine yT ?_))
   have v0:=i0.grow a0;have q0:=h0.grow a0;replace e0:=e0.trans a0;clear a0 i0 h0;repeat (first|(refine aB 270 ?_;refine aA rfl (rotl_c _ _ _) rfl ?_;rintro _ _ ⟨rfl,rfl⟩)|refine jQ rfl rfl rfl ?_|(refine eS ?_;refine TL.shrB6 rfl rfl dM rfl ?_)|refine yC ?_)
   apply T.any 14 [is _,is _,is _,is _,is _,is _,is _,is _,is _,is _,is _,is _,is _,is _];(· kernel_rfl);(· ((repeat' (first|exact aN|refine aK ?_ ?_));(iterate 14 (· (refine yQ λ wq _ _ g2=>?_;(repeat (first|(refine aQ ?_;refine aS rfl (Blk.cell yB (jU oM)) rfl ?_)|refine jS rfl rfl rfl ?_|refine yC ?_));exact aD rfl yG rfl)))));(rintro _ _ _ a0 _ _;(refine yT ?_))
   have s1:=v0.grow a0;have p0:=q0.grow a0;replace e0:=e0.trans a0;clear a0 v0 q0;repeat (first|(refine bZ ?_;refine dR rfl rfl s1 rfl (by rw [List.length_map,j0];exact Nat.ble_eq_true_of_le oM) (map_set _ _ _) ?_;intro o2 f0 f1 f2;have t0:=p0.upd f0 oM;replace e0:=aH f0 oM e0;clear f0 s1 p0)|refine yC ?_)
   refine aE (t+1) ⟨rfl,rfl,rfl,trivial⟩ ⟨y1,?_,t0,e0⟩ oM;simp only [lR,nextW,sg0,sg1];exact f1
  ·obtain rfl:t=64:=by omega
   have z1:(decide (((64+16:Nat):Int)<80))=false:=by decide
   have j0:(lR 64 ws).length=80:=by rw [sched_len,g0]
   obtain ⟨sw,g1⟩:∃ sw,sw=lR 64 ws:=⟨_,rfl⟩
   rw [← g1] at i0 j0;repeat (first|(refine aQ ?_;refine iP rfl i0 (by rw [List.length_map,j0];rfl) rfl ?_)|(refine bZ ?_;refine eG rfl rfl h0 (by rw [List.length_map,j0];rfl) rfl (by simp [Value.oneCell']) ?_;intro w8 x1 v0 s2)|refine yC ?_)
   rw [← g1];exact retC rfl (aW v0 (by rw [List.length_map,j0];rfl)) ⟨_,rfl,rfl,aH x1 oM e0⟩
set_option maxRecDepth 20000
def Kw:List (BitVec 64):=[0x428a2f98d728ae22#64,0x7137449123ef65cd#64,0xb5c0fbcfec4d3b2f#64,0xe9b5dba58189dbbc#64,0x3956c25bf348b538#64,0x59f111f1b605d019#64,0x923f82a4af194f9b#64,0xab1c5ed5da6d8118#64,0xd807aa98a3030242#64,0x12835b0145706fbe#64,0x243185be4ee4b28c#64,0x550c7dc3d5ffb4e2#64,0x72be5d74f27b896f#64,0x80deb1fe3b1696b1#64,0x9bdc06a725c71235#64,0xc19bf174cf692694#64,0xe49b69c19ef14ad2#64,0xefbe4786384f25e3#64,0x0fc19dc68b8cd5b5#64,0x240ca1cc77ac9c65#64,0x2de92c6f592b0275#64,0x4a7484aa6ea6e483#64,0x5cb0a9dcbd41fbd4#64,0x76f988da831153b5#64,0x983e5152ee66dfab#64,0xa831c66d2db43210#64,0xb00327c898fb213f#64,0xbf597fc7beef0ee4#64,0xc6e00bf33da88fc2#64,0xd5a79147930aa725#64,0x06ca6351e003826f#64,0x142929670a0e6e70#64,0x27b70a8546d22ffc#64,0x2e1b21385c26c926#64,0x4d2c6dfc5ac42aed#64,0x53380d139d95b3df#64,0x650a73548baf63de#64,0x766a0abb3c77b2a8#64,0x81c2c92e47edaee6#64,0x92722c851482353b#64,0xa2bfe8a14cf10364#64,0xa81a664bbc423001#64,0xc24b8b70d0f89791#64,0xc76c51a30654be30#64,0xd192e819d6ef5218#64,0xd69906245565a910#64,0xf40e35855771202a#64,0x106aa07032bbd1b8#64,0x19a4c116b8d2d0c8#64,0x1e376c085141ab53#64,0x2748774cdf8eeb99#64,0x34b0bcb5e19b48a8#64,0x391c0cb3c5c95a63#64,0x4ed8aa4ae3418acb#64,0x5b9cca4f7763e373#64,0x682e6ff3d6b2b8a3#64,0x748f82ee5defb2fc#64,0x78a5636f43172f60#64,0x84c87814a1f0ab72#64,0x8cc702081a6439ec#64,0x90befffa23631e28#64,0xa4506cebde82bde9#64,0xbef9a3f7b2c67915#64,0xc67178f2e372532b#64,0xca273eceea26619c#64,0xd186b8c721c0c207#64,0xeada7dd6cde0eb1e#64,0xf57d4f7fee6ed178#64,0x06f067aa72176fba#64,0x0a637dc5a2c898a6#64,0x113f9804bef90dae#64,0x1b710b35131c471b#64,0x28db77f523047d84#64,0x32caab7b40c72493#64,0x3c9ebe0a15c9bebc#64,0x431d67c49c100d4c#64,0x4cc5d4becb3e42b6#64,0x597f299cfc657e2a#64,0x5fcb6fab3ad6faec#64,0x6c44198c4a475817#64]
theorem K_c (w:World):Calls Tryz.prog 269 #[] w (Ret λ v w'=>v=.agg (Kw.map wB).toArray∧Grow w w'):=by
 refine V.calls (args:=[]) Tryz.func269 rfl Tryz.ntmps269 rfl rfl ?_;refine T.seq ?_;refine nU ?_;refine TL.alloc rfl rfl ?_;intro bk w1 f0 h0 i0 e0;refine TL.nil ?_;refine eP ?_;refine T.seq ?_;refine nU ?_;refine mU (cs:=Kw.map wB) rfl kR rfl ?_;(refine eG rfl rfl h0 rfl rfl rfl ?_;intro w2 a0 g0 j0)
 refine TL.nil ?_;refine eP ?_;refine T.ret ?_;exact retC rfl (aW g0 rfl) ⟨_,rfl,rfl,aH a0 oM f0⟩
structure St where
 (a b c d e f g h:BitVec 64)
def bs0 (x:BitVec 64):BitVec 64:=rotl x (kP (-28)) ^^^ rotl x (kP (-34)) ^^^ rotl x (kP (-39))
def bs1 (x:BitVec 64):BitVec 64:=rotl x (kP (-14)) ^^^ rotl x (kP (-18)) ^^^ rotl x (kP (-41))
def tOne (s:St) (k w:BitVec 64):BitVec 64:=s.h+bs1 s.e+((s.e&&&s.f) ^^^ (~~~s.e&&&s.g))+k+w
def tTwo (s:St):BitVec 64:=bs0 s.a+((s.a&&&s.b) ^^^ (s.a&&&s.c) ^^^ (s.b&&&s.c))
def rnd (s:St) (k w:BitVec 64):St:=⟨tOne s k w+tTwo s,s.a,s.b,s.c,s.d+tOne s k w,s.e,s.f,s.g⟩
def rnK (ks ws:List (BitVec 64)) (s:St):Nat→St
 | 0=>s
 | t+1=>rnd (rnK ks ws s t) (ks.getD t 0#64) (ws.getD t 0#64)
def rn (ws:List (BitVec 64)) (s:St):Nat→St:=rnK Kw ws s
def St.l (s:St):List (BitVec 64):=[s.a,s.b,s.c,s.d,s.e,s.f,s.g,s.h]
def addL (st s:List (BitVec 64)):Nat→List (BitVec 64)
 | 0=>st
 | q+1=>(addL st s q).set q ((addL st s q).getD q 0#64+s.getD q 0#64)
theorem addL_len (st s:List (BitVec 64)) (q:Nat):(addL st s q).length=st.length:=by induction q<;>simp [addL, *]
def pieceB (s:St) (bs:List Nat):List (BitVec 64):=addL s.l (rn (lR 64 (part bs 128)) s 80).l 8
theorem piece_c (s:St) (bs:List Nat) (hl:bs.length=128) (hb:∀ b∈bs,b<256) (w:World):Calls Tryz.prog 251 #[.agg (s.l.map wB).toArray,.agg (pbs bs).toArray] w
  (Ret λ v w'=>v=.agg ((pieceB s bs).map wB).toArray∧Grow w w'):=by
 refine V.calls (args:=[_,_]) Tryz.func251 rfl Tryz.ntmps251 rfl rfl ?_;have e1:(pbs bs).length=128:=by simp [pbs,hl]
 obtain ⟨ws,i0⟩:∃ ws,ws=lR 64 (part bs 128):=⟨_,rfl⟩
 have x1:ws.length=80:=by rw [i0,sched_len,jL]
 obtain ⟨ks,j0⟩:∃ ks,ks=Kw:=⟨_,rfl⟩
 have j2:ks.length=80:=by rw [j0];rfl
 have y0:∀ w,Calls Tryz.prog 268 #[.agg (pbs bs).toArray] w (Ret λ v w'=>v=.agg (ws.map wB).toArray∧Grow w w'):=by rw [i0];exact schedule_c bs hl hb
 have g1:∀ w,Calls Tryz.prog 269 #[] w (Ret λ v w'=>v=.agg (ks.map wB).toArray∧Grow w w'):=by rw [j0];exact K_c
 have g2:pieceB s bs=addL s.l (rnK ks ws s 80).l 8:=by rw [i0,j0];rfl
 have x0:(ws.map wB).all Value.oneCell'=true:=by simp [Value.oneCell']
 have f1:(ks.map wB).all Value.oneCell'=true:=by simp [Value.oneCell']
 repeat (first|(refine aQ ?_;refine iP rfl yB (by rw [e1];rfl) rfl ?_)|(refine aB 268 ?_;refine aA rfl (y0 _) rfl ?_;rintro _ _ ⟨rfl,k0⟩)|(refine aB 269 ?_;refine aA rfl (g1 _) rfl ?_;rintro _ _ ⟨rfl,k0⟩)|(refine bZ ?_;refine eG rfl rfl yB (by rw [List.length_map,x1];rfl) rfl x0 ?_;intro w' hu e0 t0)|(refine bZ ?_;refine eG rfl rfl yB (by rw [List.length_map,j2];rfl) rfl f1 ?_;intro w' hu e0 t0)|refine yC ?_|refine yI λ bk w' hg e0 t0 s0=>?_)
 rename_i b2 w2 r2 y2 w1 o0 b3 w3 q2 x2 u1 n0 b4 w4 o2 m1 s1 m0 w5 v0 w6 b5 w7 j1 u2 r1 l0 w8 s2 q1 w9 f0 g0 o1;have q0:=v0.2;have p0:=k0.2;have h2:Blk w' b2 295 (s.l.map wB):=by exact yB
 have h5:Blk w' b5 340 (ws.map wB):=by exact yB
 have h4:=((((((m1.grow v0).grow k0).grow j1).grow hg).upd f0 oM).upd hu oM)
 have z2:w.heap.size≤b2∧w.heap.size≤b4∧b2≠b4∧b2<b5∧b5<bk:=by omega
 have hG:Grow w w':=by exact yG
 clear r2 y2 w1 o0 q2 x2 u1 n0 o2 m1 s1 m0 v0 k0 j1 u2 r1 l0 hg s2 q1 f0 g0 o1 hu t0 s0 q0 p0 i0 y0 j0 g1 x0 f1 hl hb e1;refine bD (e':=[(2,.pointer (some ⟨b2,0,none⟩)),(4,.pointer (some ⟨b4,0,none⟩)),(5,.pointer (some ⟨b5,0,none⟩)),(6,.pointer (some ⟨bk,0,none⟩))]) ?_ ⟨rfl,rfl,rfl,rfl,trivial⟩;repeat refine aF ?_
 apply T.any 12 [is _,is _,is _,is _,is _,is _,is _,is _,is _,is _,is _,is _];(· kernel_rfl);(· ((repeat' (first|exact aN|refine aK ?_ ?_));(iterate 12 (· (refine yQ λ wq _ _ h1=>?_;(repeat refine aF ?_);exact aD rfl yG rfl)))));(rintro _ _ _ a0 _ _;(refine yT ?_))
 replace h2:=h2.grow a0;replace h4:=h4.grow a0;replace h5:=h5.grow a0;replace e0:=e0.grow a0;replace hG:=hG.trans a0;clear a0;repeat refine aF ?_
 apply T.any 12 [is _,is _,is _,is _,is _,is _,is _,is _,is _,is _,is _,is _];(· kernel_rfl);(· ((repeat' (first|exact aN|refine aK ?_ ?_));(iterate 12 (· (refine yQ λ wq _ _ h1=>?_;(repeat refine aF ?_);exact aD rfl yG rfl)))));(rintro _ _ _ a0 _ _;(refine yT ?_))
 replace h2:=h2.grow a0;replace h4:=h4.grow a0;replace h5:=h5.grow a0;replace e0:=e0.grow a0;replace hG:=hG.trans a0;clear a0;rename_i wA _ _;repeat refine aF ?_
 refine aX (S:=Nat×St) (λ q=>[(41,.int .i64 (q.1:Int)),(14,wB q.2.h),(13,wB q.2.g),(12,wB q.2.f),(11,wB q.2.e),(10,wB q.2.d),(9,wB q.2.c),(8,wB q.2.b),(7,wB q.2.a),(6,.pointer (some ⟨bk,0,none⟩)),(5,.pointer (some ⟨b5,0,none⟩)),(4,.pointer (some ⟨b4,0,none⟩)),(2,.pointer (some ⟨b2,0,none⟩))])
  (λ q w7=>q.1≤80∧q.2=rnK ks ws s q.1∧Blk w7 b2 295 (s.l.map wB)∧Blk w7 b4 295 (List.replicate 8 (wB 0#64))∧Blk w7 b5 340 (ws.map wB)∧Blk w7 bk 340 (ks.map wB)∧Grow w w7) (λ q=>80-q.1) (0,s) ⟨rfl,rfl,rfl,rfl,rfl,rfl,rfl,rfl,rfl,rfl,rfl,rfl,rfl,trivial⟩ ⟨Nat.zero_le _,rfl,h2,h4,h5,e0,hG⟩ ?_
 clear h2 h4 h5 e0 hG;rintro ⟨t,s'⟩ w7 ⟨ht,u0,h2,h4,h5,e0,hG⟩;simp only at ht u0;by_cases y1:t<80
 ·have z1:(decide ((t:Int)<80))=true:=decide_eq_true oM;repeat refine aF ?_
  repeat (first|(refine aB 270 ?_;refine aA rfl (rotl_c _ _ _) rfl ?_;rintro _ _ ⟨rfl,rfl⟩)|refine jQ rfl rfl rfl ?_|refine yC ?_)
  apply T.any 20 [is _,is _,is _,is _,is _,is _,is _,is _,is _,is _,is _,is _,is _,is _,is _,is _,is _,is _,is _,is _];(· kernel_rfl);(· ((repeat' (first|exact aN|refine aK ?_ ?_));(iterate 20 (· (refine yQ λ wq _ _ h1=>?_;(repeat (first|(refine aQ ?_;first|refine aS rfl (Blk.cell (b:=b5) yB (jU oM)) rfl ?_|refine aS rfl (Blk.cell (b:=bk) yB (jU oM)) rfl ?_)|refine jQ rfl rfl rfl ?_|refine jS rfl rfl rfl ?_|refine TL.andB6 rfl rfl rfl ?_|refine TL.notB6 rfl rfl ?_|refine yC ?_));exact aD rfl yG rfl)))));(rintro _ _ _ a0 _ _;(refine yT ?_))
  replace h2:=h2.grow a0;replace h4:=h4.grow a0;replace h5:=h5.grow a0;replace e0:=e0.grow a0;replace hG:=hG.trans a0;clear a0;repeat (first|(refine aB 270 ?_;refine aA rfl (rotl_c _ _ _) rfl ?_;rintro _ _ ⟨rfl,rfl⟩)|refine jQ rfl rfl rfl ?_|refine jS rfl rfl rfl ?_|refine TL.andB6 rfl rfl rfl ?_|refine yC ?_)
  exact aE (t+1,rnd s' (ks.getD t 0#64) (ws.getD t 0#64)) ⟨rfl,rfl,rfl,rfl,rfl,rfl,rfl,rfl,rfl,rfl,rfl,rfl,rfl,trivial⟩ ⟨y1,by rw [u0];rfl,h2,h4,h5,e0,hG⟩ (by simp only;omega)
 ·obtain rfl:t=80:=by omega
  have z1:(decide (((80:Nat):Int)<80))=false:=by decide
  repeat refine aF ?_
  refine aX (S:=Nat) (λ q=>[(115,.int .i64 (q:Int)),(114,.agg (s'.l.map wB).toArray),(4,.pointer (some ⟨b4,0,none⟩)),(2,.pointer (some ⟨b2,0,none⟩))])
   (λ q w8=>q≤8∧Blk w8 b2 295 ((addL s.l s'.l q).map wB)∧Blk w8 b4 295 (List.replicate 8 (wB 0#64))∧Grow w w8) (λ q=>8-q) 0 ⟨rfl,rfl,rfl,rfl,trivial⟩ ⟨Nat.zero_le _,h2,h4,hG⟩ ?_
  clear h2 h4 h5 e0 hG;rintro q w8 ⟨hq,h2,h4,hG⟩;have h0:(addL s.l s'.l q).length=8:=by rw [addL_len];rfl
  by_cases e2:q<8
  ·have f2:(decide ((q:Int)<8))=true:=decide_eq_true oM;repeat (first|(refine TL.isIndexV ?_;refine TL.indexV rfl rfl oM rfl (jU (by show q<8;omega)) rfl ?_)|(refine aQ ?_;refine aS rfl (Blk.cell h2 (jU oM)) rfl ?_)|refine jS rfl rfl rfl ?_|refine yC ?_)
   (refine dR rfl rfl h2 rfl (by rw [List.length_map,h0];exact Nat.ble_eq_true_of_le oM) (map_set _ _ _) ?_;intro w9 f0 g0 d2)
   replace h4:=h4.upd f0 oM;replace hG:=aH f0 oM hG;clear f0 h2;repeat refine aF ?_
   exact aE (q+1) ⟨rfl,rfl,rfl,rfl,trivial⟩ ⟨e2,g0,h4,hG⟩ oM
  ·obtain rfl:q=8:=by omega
   have f2:(decide (((8:Nat):Int)<8))=false:=by decide
   obtain ⟨rl,z0⟩:∃ rl,rl=addL s.l s'.l 8:=⟨_,rfl⟩
   rw [← z0] at h2 h0;repeat (first|(refine aQ ?_;refine iP rfl h2 (by rw [List.length_map,h0];rfl) rfl ?_)|(refine bZ ?_;refine eG rfl rfl h4 (by rw [List.length_map,h0];rfl) rfl (by simp [Value.oneCell']) ?_;intro w9 f0 g0 d2)|refine yC ?_)
   exact retC rfl (aW g0 (by rw [List.length_map,h0];rfl)) ⟨_,rfl,by rw [g2,z0,u0],aH f0 oM hG⟩
def St.of (l:List (BitVec 64)):St:=⟨l.getD 0 0,l.getD 1 0,l.getD 2 0,l.getD 3 0,l.getD 4 0,l.getD 5 0,l.getD 6 0,l.getD 7 0⟩
theorem St.of_l {l:List (BitVec 64)} (h:l.length=8):(St.of l).l=l:=by
 match l,h with
 | [a,b,c,d,e,f,g,i],_=>rfl
theorem pieceB_len (s:St) (bs:List Nat):(pieceB s bs).length=8:=by
 unfold pieceB;rw [addL_len];rfl
def lP (s:St) (bs:Bs):Nat→St
 | 0=>s
 | k+1=>St.of (pieceB (lP s bs k) ((bs.drop (128*k)).take 128))
theorem wordsB_l (s:St) (bs:Bs) (k:Nat):(lP s bs (k+1)).l=pieceB (lP s bs k) ((bs.drop (128*k)).take 128):=St.of_l (pieceB_len _ _)
theorem padS_mod (l:Bs):(mG l).length=128*((mG l).length / 128):=by
 have:=kJ l;have hz:jT l.length=(239-l.length%128)%128:=rfl;omega
theorem padS_lt {l:Bs} (h:∀ b∈l,b<256):∀ b∈mG l,b<256:=by
 intro b hb;simp only [mG,List.mem_append,List.mem_singleton,zs,List.mem_replicate,be8,List.mem_map] at hb;rcases hb with (((hb|hb)|hb)|⟨i,_,hb⟩)|⟨i,_,hb⟩
 ·exact h b hb
 ·omega
 ·omega
 ·omega
 ·omega
def kN (s:St) (l:Bs):St:=lP s (mG l) ((mG l).length / 128)
theorem whole_c (F:Nat→Prop) (s:St) (a:Option Addr) (n c:Nat) (e0:List Bs) (w:World) (h:KysAt F w a n c e0) (hn:e0.flatten.length≤100000) (hb:∀ b∈e0.flatten,b<256) :
  Calls Tryz.prog 212 #[.agg (s.l.map wB).toArray,.slice a n c] w (Ret λ v w'=>v=.agg ((kN s e0.flatten).l.map wB).toArray∧Grow w w'):=by
 refine V.calls (args:=[_,_]) Tryz.func212 rfl Tryz.ntmps212 rfl rfl ?_;repeat (first|refine T.seqR ?_|refine yA ?_|refine yI λ bk w' hg h0 e1 x1=>?_)
 rename_i b0 w0 g0 k0 s0 z2;have p0:Grow w w':=by exact yG
 have r1:Blk w' b0 295 (s.l.map wB):=Blk.grow hg k0;have w1:=p0.size;have v0:Blk w' bk 295 ((List.replicate 8 0#64).map wB):=h0;have g2:bk≠b0:=by omega
 have y2:=h0.lt;clear h0;refine aB 250 ?_;refine aA rfl (padded_c F a n c e0 _ (h.go (Carry.grow p0)) hn) rfl ?_;rintro v w2 ⟨j0,o0⟩;have hm:=padS_mod e0.flatten;have o2:=padS_lt hb;have g3:=kJ e0.flatten;have hz:jT e0.flatten.length<128:=by unfold jT;omega
 unfold kN;generalize (mG e0.flatten).length / 128=m at *;generalize mG e0.flatten=bs at *;rw [hm] at j0;obtain ⟨va,vc,rfl,y1⟩:=aM j0;obtain ⟨G,hG,z1⟩:∃ G:Nat→Prop,(∀ k,G k→w'.heap.size≤k∧k<w2.heap.size)∧Sl G w2 1 va (128*m) vc (bB bs):=⟨_,λ k hk=>⟨hk.1.1,hk.2⟩,y1.tight⟩
 refine aB 249 ?_;refine aA rfl (chunk_c va _ vc _) rfl ?_;rintro _ w3 ⟨b1,b2,rfl,h1,h2,o1,m1,j1⟩;repeat refine dD ?_
 refine iI (T2.range (ps:=[9]) (lb:=[_,_]) rfl (Nat.zero_le _) rfl ?_);intro rc w4 r2 e2 u0 f1 s1;have h3:=o0.size;have h4:=j1.size;have j3:=r1.lt;have x2:=o1.lt;have u2:=m1.lt;obtain ⟨D,hD⟩:∃ D,D=w3.heap.size:=⟨_,rfl⟩
 rw [← hD] at f1 s1 e2 ⊢
 refine Calls.mono (chunks_c G (D+1) b1 b2 m va vc bs (λ k w'=>Blk w' b0 295 ((lP s bs k).l.map wB)∧Blk w' b1 30 [.slice va (128*m) vc]∧Blk w' b2 3 [.int .i64 128] ∧
   Sl G w' 1 va (128*m) vc (bB bs)∧w'.heap[D+1]? = some (.loop (rc .ready none))∧w'.heap[D]? = some (.deferred (some []))∧Grow w w'∧Blk w' bk 295 ((List.replicate 8 0#64).map wB)) hm oM (λ k w' h=>⟨h.2.1,h.2.2.1,h.2.2.2.1⟩) ?_ ?_ _ ?_) ?_
 ·rintro k w5 w6 ⟨q1,q2,q3,q4,q5,q6,q7,q8⟩ hg;exact ⟨q1.grow hg,q2.grow hg,q3.grow hg,q4.grow hg,(hg.block _ (Array.getElem?_eq_some_iff.1 q5).1).trans q5,(hg.block _ (Array.getElem?_eq_some_iff.1 q6).1).trans q6,q7.trans hg,q8.grow hg⟩
 ·rintro k w5 a' hk ⟨q1,q2,q3,q4,q5,q6,q7,q8⟩ f2;refine yld_of r2 q5 rfl rfl λ I=>?_;repeat refine dD ?_
  refine ⟨q5,λ w6 a0 t0=>?_⟩;have x0:=q1.upd a0 oM;have d2:=f2.upd a0 (λ k hk=>by have:=hG k hk;omega);repeat refine dD ?_
  apply T.any 4 [is (.agg ((lP s bs k).l.map wB).toArray),is (.slice a' 128 128),is (.pointer a'),is (.agg (bB ((bs.drop (128*k)).take 128)).toArray)]
  ·rfl
  ·repeat' (first|exact aN|refine aK ?_ ?_)
   iterate 2
    ·refine yQ λ wq _ _ g1=>?_;repeat refine dD ?_
     exact aD rfl yG rfl
   ·refine yQ λ wq _ _ g1=>?_;refine TL.arrayAt rfl (Nat.le_refl _) rfl ?_;repeat refine dD ?_
    exact aD rfl yG rfl
   ·refine yQ λ wq _ _ g1=>?_;refine TL.loadAll rfl (d2.grow yG) rfl rfl ?_;repeat refine dD ?_
    exact aD rfl yG rfl
  ·intro w7 f3 i3 n0 _ _;((refine yT ?_))
   refine aB 251 ?_;refine aA rfl (piece_c (lP s bs k) _ ?_ ?_ _) rfl ?_
   ·rw [List.length_take,List.length_drop];omega
   ·exact λ b hb=>o2 b (List.mem_of_mem_drop (List.mem_of_mem_take hb))
   rintro _ w8 ⟨rfl,m0⟩;have u1:=x0.grow (n0.trans m0);rw [← wordsB_l];repeat (first|refine dD ?_|refine yJ λ w' hu h0 e1=>?_)
   have z7:=n0.size;have z8:=m0.size;have zu:=a0.size;rename_i wf hu h0 _;refine ⟨?_,λ wz i0 j2=>?_⟩
   ·rw [hu.block _ oM,m0.block _ (by have:=(Array.getElem?_eq_some_iff.1 t0).1;omega),n0.block _ (Array.getElem?_eq_some_iff.1 t0).1];exact t0
   ·have keep:∀ x,x≠b0→x≠D+1→x<w5.heap.size→wz.heap[x]? = w5.heap[x]?:=λ x hx z0 y0 =>
     (i0.block x z0).trans ((hu.block x hx).trans ((m0.block x oM).trans ((n0.block x oM).trans (a0.block x z0))))
    have q0:w5.heap.size≤wz.heap.size:=by have:=hu.size;have:=i0.size;omega
    have s2:Grow w wz:=aH i0 (by have:=q7.size;omega) (aH hu oM ((aH a0 oM q7).trans (n0.trans m0)));refine ⟨rfl,h0.upd i0 oM,?_,?_,q4.keep (λ x hx y0=>keep x (by have:=hG x hx;omega) (by have:=hG x hx;omega) y0) q0,j2,?_,s2,?_⟩
    ·have l0:=q2.lt;unfold Blk at q2 ⊢;rw [keep b1 oM oM l0];exact q2
    ·have l0:=q3.lt;unfold Blk at q3 ⊢;rw [keep b2 oM oM l0];exact q3
    ·rw [keep D oM oM (Array.getElem?_eq_some_iff.1 q6).1];exact q6
    ·have l0:=q8.lt;unfold Blk at q8 ⊢;rw [keep bk g2 oM l0];exact q8
 ·have f0:Grow w2 w4:=j1.trans u0;exact ⟨(r1.grow (o0.trans f0)),o1.grow u0,m1.grow u0,z1.grow f0,f1,s1,p0.trans (o0.trans f0),v0.grow (o0.trans f0)⟩
 ·rintro _ w5 ⟨v,rfl,q1,q2,q3,q4,q5,q6,q7,q8⟩;refine ⟨v,rfl,q6,.inl ⟨q5,λ I w6 a0=>?_⟩⟩;have x0:=q1.upd a0 oM;have d3:=q8.upd a0 oM;repeat (first|refine dD ?_|refine yJ λ w' hu h0 e1=>?_)
  refine ⟨?_,λ wz i0=>?_⟩
  ·rw [hu.block _ oM,a0.block _ oM];exact q6
  ·exact retC rfl (aW (h0.upd i0 oM) rfl) ⟨_,rfl,rfl,aH i0 (by have:=q7.size;have:=p0.size;omega) (aH hu oM (aH a0 oM q7))⟩
end Go.Proofs.YtfpadnmdafiddaaGreatDoor
namespace Go.V
open Go Go.RowKit
section
variable [Rn]
variable {P:Program} {n:Nat} {e:dI} {w:World} {Q:dA} {ops:Array Oper} {rest:List Oper} {d:Nat} {ty:TypeId} {pos:String} {aft:Array Edge}
theorem gU {t a0 size bytes b m c:Nat} {x:Operand} {t0:TypeId} {cs:List Value} [ht:SliceTy P t a0 size bytes] [h8:IntTy P a0 .u8] (hx:val e x=some (.slice (some ⟨b,0,none⟩) m c)) (hb:Blk w b t0 cs) (hm:cs.length=m) (hc:m≤c) (h0:c≤maxLen) (hd:Nat.blt d n=true)
  (k:∀ w',Upd b w w'→Sl (λ k=>k=b) w' 1 (some ⟨b,0,none⟩) m c cs→TL P n ops rest ((d,.slice (some ⟨b,0,none⟩) m c)::e) w' Q):TL P n ops (⟨some d,.convert t t x,ty,pos,aft,none⟩::rest) e w Q:=by
 have g0:=hb.lt;have e0:w.heap[b]? = some (.cells cs.toArray t0 (0,0)):=by unfold Blk at hb;exact hb
 have hs:w.shape? b=some (t0,cs.toArray.size):=by simp [World.shape?,e0]
 refine TL.run (w':=w.freeze ⟨b,cs.toArray.size,none⟩ 1) (λ r hr=>?_) hd (k _ ⟨rfl,rfl,rfl,by simp [World.freeze],λ k hk=>?_⟩ ⟨oM,hc,h0,(λ h=>by cases h),λ _=>⟨rfl,rfl,by simpa [World.freeze] using g0,λ j v hj=>?_⟩⟩)
 ·have m1:(markStringish ⟨b,0,none⟩).run P w=.ok () (w.freeze ⟨b,cs.toArray.size,none⟩ 1):=by simp [markStringish,shape,freeze,Sem.run,hs]
  simp [execOp,hr.eval hx,convert,underlying,ht.und,h8.und,m1]
 ·simp only [World.freeze,Nat.one_ne_zero,if_false,Array.getElem?_modify,if_neg (Ne.symm hk)]
 ·have f0:(w.freeze ⟨b,cs.toArray.size,none⟩ 1).heap[b]? = some (.cells cs.toArray t0 (if ((0:Nat),(0:Nat)).1==((0:Nat),(0:Nat)).2 then (cs.toArray.size,cs.toArray.size+1) else (min 0 cs.toArray.size,max 0 (cs.toArray.size+1)))):=by
   simp only [World.freeze,Nat.one_ne_zero,if_false,Array.getElem?_modify,if_true,e0,Option.map_some]
  simp only [World.cell?,f0,Nat.zero_add];simpa using hj
end
end Go.V
namespace Go.Proofs.YtfpadnmdafiddaaGreatDoor
open Go Go.RowKit Go.V
def startL:List (BitVec 64):=[7640891576956012808#64,13503953896175478587#64,4354685564936845355#64,11912009170470909681#64,5840696475078001361#64,11170449401992604703#64,2270897969802886507#64,6620516959819538809#64]
def xorK:BitVec 64:=11936128518282651045#64
def xorL:Nat→List (BitVec 64)
 | 0=>startL
 | q+1=>(xorL q).set q ((xorL q).getD q 0#64 ^^^ xorK)
theorem xorL_len (q:Nat):(xorL q).length=8:=by induction q with|zero=>rfl|succ q ih=>simp [xorL,ih]
def mH:Bs:=[83,72,65,45,53,49,50,47,50,53,54]
def shortS:St:=kN (St.of (xorL 8)) mH
theorem start_c (w:World):Calls Tryz.prog 252 #[] w (Ret λ v w'=>v=.agg (startL.map wB).toArray∧Grow w w'):=by
 refine V.calls (args:=[]) Tryz.func252 rfl Tryz.ntmps252 rfl rfl ?_;repeat (first|refine dD ?_|refine yI λ bk w' hg f0 e0 a0=>?_|refine yJ λ w' hu f0 e0=>?_)
 exact retC rfl (aW (by assumption) rfl) ⟨_,rfl,rfl,yG⟩
theorem short_c (w:World):Calls Tryz.prog 213 #[] w (Ret λ v w'=>v=.agg (shortS.l.map wB).toArray∧Grow w w'):=by
 refine V.calls (args:=[]) Tryz.func213 rfl Tryz.ntmps213 rfl rfl ?_;repeat (first|refine aF ?_|refine yI λ bk w' hg a0 f0 e0=>?_)
 refine aB 252 ?_;refine aA (vs:=[]) rfl (start_c _) rfl ?_;rintro _ w2 ⟨rfl,k0⟩;have i0:Blk w2 bk 295 ((List.replicate 8 0#64).map wB):=Blk.grow k0 a0;have s1:Grow w w2:=hg.trans k0;have y0:=k0.size;have x0:w.heap.size=bk:=f0;have t0:=e0;clear hg a0 f0 e0 k0;repeat (first|refine aF ?_|refine yI λ bk w' hg a0 f0 e0=>?_|refine yJ λ w' hu a0 f0=>?_)
 rename_i b0 wa wb w1 m0;have h0:Blk w' b0 295 ((List.replicate 8 0#64).map wB):=by exact yB
 have g0:Grow w w':=by exact yG
 have g1:b0≠bk:=by omega
 have n0:w.heap.size≤b0:=by omega
 have m1:w.heap.size≤bk:=by omega
 clear i0 s1 y0 x0 t0 hu f0 hg e0 w1 m0;refine aX (S:=Nat) (λ i=>[(4,.int .i64 (i:Int)),(1,.pointer (some ⟨bk,0,none⟩)),(0,.pointer (some ⟨b0,0,none⟩))]) (λ i w3=>i≤8∧Blk w3 bk 295 ((xorL i).map wB)∧Blk w3 b0 295 ((List.replicate 8 0#64).map wB)∧Grow w w3) (λ i=>8-i) 0 ⟨rfl,rfl,rfl,trivial⟩ ⟨oM,a0,h0,g0⟩ ?_;clear a0 h0 g0;rintro i w3 ⟨hi,a0,i0,hg⟩;have v0:=xorL_len i;by_cases h1:i<8
 ·repeat (first|(refine aQ ?_;refine aS rfl (Blk.cell a0 (jU oM)) rfl ?_)|refine jQ (b:=xorK) rfl rfl rfl ?_|refine yC ?_)
  refine dR rfl rfl a0 rfl (by rw [List.length_map,v0];exact Nat.ble_eq_true_of_le oM) (map_set _ _ _) ?_;intro w7 u0 y1 j2;repeat refine aF ?_
  exact aE (i+1) ⟨rfl,rfl,rfl,trivial⟩ ⟨h1,y1,i0.upd u0 g1,aH u0 m1 hg⟩ oM
 obtain rfl:i=8:=by omega
 repeat (first|(refine aQ ?_;refine iP rfl a0 (by rw [List.length_map,v0];rfl) rfl ?_)|refine yC ?_)
 refine TL.buildSlice rfl rfl rfl rfl rfl ?_;intro b1 w4 p0 d2 q1 q2 q3;have s0:Blk w4 b1 5 (bB mH):=d2;refine gU rfl s0 rfl (Nat.le_refl _) dM rfl ?_;intro w5 l0 e1;refine TL.buildSlice rfl rfl rfl rfl rfl ?_;intro b2 w6 j0 z1 r1 r2 r3;have t0:=hg.size;have x1:=i0.lt;have j1:w.heap.size≤b0:=n0;have h2:=p0.size;have g2:=l0.size;have f2:=j0.size;have f1:Sl (λ k=>k=b2∨k=b1) w6 1 (some ⟨b2,0,none⟩) 1 1 [.slice (some ⟨b1,0,none⟩) 11 11]:=(aU (sz:=1) (m:=1) z1 r3 dM).mono (λ k hk=>.inl hk);have o1:KysAt (λ k=>k=b2∨k=b1) w6 (some ⟨b2,0,none⟩) 1 1 [mH]:=⟨_,f1,⟨_,_,_,rfl,(e1.grow j0).mono (λ k hk=>.inr hk)⟩,trivial⟩
 refine aB 212 ?_;have z0:(St.of (xorL 8)).l=xorL 8:=St.of_l (xorL_len 8);rw [← z0];refine aA rfl (whole_c _ (St.of (xorL 8)) _ 1 1 [mH] _ o1 dM dM) rfl ?_;rintro _ w7 ⟨rfl,o0⟩;rw [show kN (St.of (xorL 8)) [mH].flatten=shortS from rfl];have e2:=o0.size;have q0:Blk w7 b0 295 ((List.replicate 8 0#64).map wB):=((((i0.grow p0).upd l0 oM).grow j0).grow o0)
 have u1:Grow w w7:=(((aH l0 oM (hg.trans p0)).trans j0).trans o0)
 repeat (first|(refine bZ ?_;refine eG rfl rfl q0 rfl rfl (by simp [Value.oneCell']) ?_;intro w' hu a0 f0)|refine yC ?_)
 exact retC rfl (aW a0 rfl) ⟨_,rfl,rfl,aH hu oM u1⟩
def sumB (s:St) (i:Nat):Nat:=(s.l.getD (i / 8) 0#64).toNat / 2^(56-8*(i%8))%256
def sumS (s:St):Bs:=(List.range 64).map (sumB s)
def sumL (s:St):Nat→Bs
 | 0=>zs 64
 | i+1=>(sumL s i).set i (sumB s i)
theorem sumL_len (s:St) (i:Nat):(sumL s i).length=64:=by induction i with|zero=>rfl|succ i ih=>simp [sumL,ih]
theorem sumL_at (s:St):∀ (i:Nat),i≤64→∀ j,j<i→(sumL s i)[j]? = some (sumB s j)
 | 0,_,j,h=>by omega
 | i+1,hi,j,h=>by
  simp only [sumL];have hl:=sumL_len s i;by_cases hj:j=i
  ·subst hj;rw [List.getElem?_set_self oM]
  ·rw [List.getElem?_set_ne oM];exact sumL_at s i oM j oM
theorem sumL_end (s:St):sumL s 64=sumS s:=by
 apply List.ext_getElem?;intro j;by_cases hj:j<64
 ·rw [sumL_at s 64 (Nat.le_refl _) j hj];simp [sumS,hj]
 ·rw [List.getElem?_eq_none (by rw [sumL_len];omega),List.getElem?_eq_none (by simp [sumS];omega)]
theorem kH (s:St):(sumS s).length=64:=by simp [sumS]
def shaB (l:Bs):Bs:=(sumS (kN shortS l)).take 32
theorem kI (l:Bs):(shaB l).length=32:=by simp [shaB,kH]
theorem bys_set (l:Bs) (i x:Nat):(bB l).set i (.int .u8 (x:Int))=bB (l.set i x):=by simp [bB,List.map_set]
theorem zero_64:(Tryz.prog.info? 238).bind (·.zero)=some (.agg (bB (zs 64)).toArray):=by kernel_rfl
theorem sum_c (s:St) (w:World):Calls Tryz.prog 211 #[.agg (s.l.map wB).toArray] w (Ret λ v w'=>v=.agg (bB (sumS s)).toArray∧Grow w w'):=by
 refine V.calls (args:=[_]) Tryz.func211 rfl Tryz.ntmps211 rfl rfl ?_;repeat (first|(refine fI ?_;refine eO 64 zero_64 rfl ?_;intro bk w' hg e0 k0 f0)|refine yC ?_|refine yI λ bk w' hg e0 k0 f0=>?_)
 rename_i b1 w1 u0 i0 q1 p0 b2 w2 t0 g0 q2 o0;have h0:Blk w' b1 295 (s.l.map wB):=by exact yB
 have a0:Blk w' b2 238 (bB (zs 64)):=by exact yB
 have n0:Grow w w':=by exact yG
 have hn:b1≠bk∧b2≠bk∧w.heap.size≤bk∧w.heap.size≤b2:=by omega
 clear u0 i0 q1 p0 t0 g0 q2 o0 hg k0 f0;refine aX (S:=Nat) (λ i=>[(5,.int .i64 (i:Int)),(3,.pointer (some ⟨bk,0,none⟩)),(2,.pointer (some ⟨b2,0,none⟩)),(1,.pointer (some ⟨b1,0,none⟩))]) (λ i w3=>i≤64∧Blk w3 bk 238 (bB (sumL s i))∧Blk w3 b1 295 (s.l.map wB)∧Blk w3 b2 238 (bB (zs 64))∧Grow w w3) (λ i=>64-i) 0 ⟨rfl,rfl,rfl,rfl,trivial⟩ ⟨oM,e0,h0,a0,n0⟩ ?_;clear e0 h0 a0 n0;rintro i w3 ⟨hi,e0,i0,g0,hg⟩;have m0:=sumL_len s i;by_cases s0:i<64
 ·have x0:s.l.length=8:=rfl;repeat (first|(refine aQ ?_;refine aS rfl (Blk.cell i0 (jU oM)) rfl ?_)|(refine aI ?_;refine TL.indexA1 (j:=i / 8) rfl rfl oM rfl ?_)|(refine eM ?_;refine TL.mulN (a:=8) rfl rfl oM rfl ?_)|(refine iQ ?_;refine TL.subN (a:=56) (b:=8*(i%8)) rfl rfl oM oM rfl ?_)|(refine eS ?_;refine TL.shrS rfl rfl (by show 56-8*(i%8)≤64;omega) rfl ?_)|(refine eA ?_;refine iC rfl (M:=256) rfl rfl ?_)|refine yC ?_)
  have l0:(s.l.getD (i / 8) 0#64).toNat / 2^(56-8*(i%8))%256=sumB s i:=rfl;rw [l0];refine dR rfl rfl e0 rfl (by rw [bE,m0];exact Nat.ble_eq_true_of_le oM) (bys_set _ _ _) ?_;intro w7 j0 v0 y0;repeat refine aF ?_
  exact aE (i+1) ⟨rfl,rfl,rfl,rfl,trivial⟩ ⟨s0,v0,i0.upd j0 hn.1,g0.upd j0 hn.2.1,aH j0 hn.2.2.1 hg⟩ oM
 obtain rfl:i=64:=by omega
 rw [sumL_end] at e0;have hl:=kH s;generalize sumS s=l at *;clear m0;obtain ⟨z,hz⟩:∃ z,z=zs 64:=⟨_,rfl⟩
 have q0:z.length=64:=by rw [hz];exact cN _
 rw [← hz] at g0;clear hz;repeat (first|refine nS rfl e0 hl rfl ?_|(refine bZ ?_;refine fH rfl rfl g0 q0 hl ?_;intro w' hu a0 k0)|refine yC ?_)
 exact retC rfl (aW a0 (by rw [bE,hl];rfl)) ⟨_,rfl,rfl,aH hu hn.2.2.2 hg⟩
theorem sha_c (F:Nat→Prop) (a:Option Addr) (n c:Nat) (a0:List Bs) (w:World) (h:KysAt F w a n c a0) (hn:a0.flatten.length≤100000) (hb:∀ b∈a0.flatten,b<256) :
  Calls Tryz.prog 169 #[.slice a n c] w (Ret λ v w'=>v=.agg (bB (shaB a0.flatten)).toArray∧Grow w w'):=by
 refine V.calls (args:=[_]) Tryz.func169 rfl Tryz.ntmps169 rfl rfl ?_;repeat (first|(refine fI ?_;refine eO 32 zero_dig rfl ?_;intro bk w' hg n0 q0 f0)|refine yC ?_)
 refine aB 213 ?_;refine aA (vs:=[]) rfl (short_c _) rfl ?_;rintro _ w2 ⟨rfl,e0⟩;repeat refine aF ?_
 refine aB 212 ?_;refine aA rfl (whole_c F shortS a n c a0 _ (h.go (Carry.grow (hg.trans e0))) hn hb) rfl ?_;rintro _ w3 ⟨rfl,h0⟩;refine aB 211 ?_;refine aA rfl (sum_c _ _) rfl ?_;rintro _ w4 ⟨rfl,g0⟩;unfold shaB;have hl:=kH (kN shortS a0.flatten);generalize sumS (kN shortS a0.flatten)=l at *;have o0:Blk w4 bk 243 (bB (zs 32)):=((n0.grow e0).grow h0).grow g0;have t0:Grow w w4:=((hg.trans e0).trans h0).trans g0;have s0:w.heap.size≤bk:=by omega
 have y0:=o0.lt;clear hg n0 q0 f0 e0 h0 g0;repeat (first|(refine fI ?_;refine eO 64 zero_64 rfl ?_;intro b2 w5 m0 x0 q1 q2)|(refine bZ ?_;refine fH rfl rfl x0 (cN _) hl ?_;intro w6 j0 v0 q3)|refine yC ?_)
 have i0:Blk w6 bk 243 (bB (zs 32)):=(o0.grow m0).upd j0 oM;have k0:Sl (λ k=>k=b2) w6 1 (some ⟨b2,0,none⟩) 32 64 (bB ((l.drop 0).take 32)):=jJ (o:=0) (m:=32) (c:=64) v0 oM oM dM;rw [List.drop_zero] at k0;refine TL.arrayAt (a:=some ⟨b2,0,none⟩) (n:=11) rfl (Nat.le_refl 32) rfl ?_;refine TL.loadAll rfl k0 rfl rfl ?_;have l0:(l.take 32).length=32:=by rw [List.length_take,hl];rfl
 generalize l.take 32=l2 at *;refine fH rfl rfl i0 (cN _) l0 ?_;intro w7 p0 u0 _;repeat refine aF ?_
 exact retC rfl (aW u0 (by rw [bE,l0];rfl)) ⟨_,rfl,rfl,aH p0 s0 (aH j0 oM (t0.trans m0))⟩
def dB (b:Bs):Bs:=b++zs (500-b.length)
def gP (n:Nat) (b:Bs):Bs:=(shaB (bP n++dB b)).take 12++dB b
theorem jD (b:Bs) (h:b.length≤500):(dB b).length=500:=by simp [dB,cN];omega
theorem lI (n:Nat) (b:Bs) (h:b.length≤500):(gP n b).length=512:=by
 unfold gP;rw [List.length_append,List.length_take,kI,jD b h];rfl
theorem lG (n:Nat):(bP n).length=4:=rfl
theorem word4_lt (n:Nat):∀ b∈bP n,b<256:=by
 intro b hb;simp only [bP,List.mem_cons,List.not_mem_nil,or_false] at hb;omega
theorem body_lt {b:Bs} (h:∀ x∈b,x<256):∀ x∈dB b,x<256:=by
 intro x hx;simp only [dB,zs,List.mem_append,List.mem_replicate] at hx;rcases hx with hx|hx
 ·exact h x hx
 ·omega
def kyF {B:Nat} (m:Nat) (l:List Bs):SFact B:={ G:=λ v _ _ w=>∃ a c,v=.slice a m c∧KysAt (λ _=>True) w a m c l,st:=λ v _ _ w w' g h=>by obtain ⟨a,c,h1,h2⟩:=h;exact ⟨a,c,h1,h2.go (Carry.grow g)⟩ }
theorem page_c (F:Nat→Prop) (n:Nat) (hn:n<4294967296) (a:Option Addr) (m c:Nat) (b:Bs) (w:World) (hs:Sl F w 1 a m c (bB b)) (hm:m≤500) (hb:∀ x∈b,x<256) :
  Calls Tryz.prog 123 #[.int .i64 (n:Int),.slice a m c] w (Ret λ v w'=>v=.agg (bB (gP n b)).toArray∧Grow w w'):=by
 have t3:=gW hs;refine V.calls (args:=[_,_]) Tryz.func123 rfl Tryz.ntmps123 rfl rfl ?_;repeat (first|(refine fI ?_;refine eO 512 zero_page rfl ?_;intro bk w' hg u2 f3 q0)|refine yC ?_)
 rename_i b4 w1 g1 y2 q1 q2;have p0:=hg.size;refine TL.copyB (b:=bk) (o:=12) (m:=500) (c:=500) rfl rfl u2 (hs.grow (g1.trans hg)) (bO b) (by rw [bE,cN];omega) rfl ?_;intro w2 n0 k0 d3
 have z2:iJ (bB (zs 512)) 12 ((bB b).take (min m 500))=bB (zs 12++dB b):=by
  rw [List.take_of_length_le (by rw [bE];omega),putAt_eq _ _ _ (by rw [bE,bE,cN];omega),bE];unfold dB bB zs;rw [← List.append_assoc];simp only [List.map_append,List.map_replicate,List.take_replicate,List.drop_replicate];rw [show min 12 512=12 from rfl,show 512-(12+b.length)=500-b.length by omega]
 rw [z2] at k0;have h0:Blk w2 b4 197 (bB (zs 512)):=(y2.grow hg).upd n0 oM;have s2:Grow w w2:=aH n0 oM (g1.trans hg);have t0:b4≠bk∧w.heap.size≤bk∧w.heap.size≤b4:=by omega
 have i0:=jD b oM;have u0:=body_lt hb;have j2:gP n b=(shaB (bP n++dB b)).take 12++dB b:=rfl;rw [j2];generalize dB b=B at *;clear u2 y2 g1 hg q1 q2 f3 q0 p0 n0 d3 z2 j2;repeat refine aF ?_
 apply T.any 7 [is (.int .i64 (n:Int)),is (.int .u64 (n:Int)),own w2.heap.size 5 1 4 (bB (bP n)),is (.slice (some ⟨bk,12,none⟩) 500 500),kyF 2 [bP n,B],is (.agg (bB (shaB (bP n++B))).toArray),newB 243 (bB (zs 32))]
 ·rfl
 ·repeat' (first|exact aN|refine aK ?_ ?_)
  ·refine yQ λ wq _ _ a0=>?_;repeat refine aF ?_
   exact aD rfl yG rfl
  ·refine yQ λ wq _ _ a0=>?_;repeat refine aF ?_
   exact aD rfl yG rfl
  ·refine yQ λ wq _ _ a0=>?_;refine aB 170 ?_;refine aA rfl (word_c n oM _) rfl ?_;rintro v w4 ⟨s0,g0⟩;repeat refine aF ?_
   exact aD rfl yG (eB s0 a0.size)
  ·refine yQ λ wq _ _ a0=>?_;repeat refine aF ?_
   exact aD rfl yG rfl
  ·(((refine bW rfl rfl rfl ?_);( intro wq _ _ a0;(repeat (refine aJ rfl rfl ?_;intro vq f0;try (obtain rfl:=f0)));(refine aZ ?_))))
   obtain ⟨a1,c1,rfl,h3⟩:=aM f0;have i3:=k0.grow a0;have g2:Sl (λ _=>True) _ 1 (some ⟨bk,12,none⟩) 500 500 (bB (((zs 12++B).drop 12).take 500)):=(jJ (o:=12) (m:=500) (c:=500) i3 (by rw [List.length_append,cN,i0];omega) (Nat.le_refl _) dM).mono (λ _ _=>trivial);rw [List.drop_left' (cN 12),List.take_of_length_le oM] at g2;refine TL.buildSlice rfl rfl rfl rfl rfl ?_;intro b3 w4 g0 k3 r1 r2 r3;repeat refine aF ?_
   have g3:Sl (λ _=>True) w4 1 (some ⟨b3,0,none⟩) 2 2 [.slice a1 4 c1,.slice (some ⟨bk,12,none⟩) 500 500]:=(aU (sz:=1) (m:=2) k3 r3 dM).mono (λ _ _=>trivial);exact aD rfl yG ⟨_,_,rfl,⟨_,g3,⟨_,_,_,rfl,(h3.grow g0).mono (λ _ _=>trivial)⟩,⟨_,_,_,rfl,g2.grow g0⟩,trivial⟩⟩
  ·refine bW rfl rfl rfl ?_;intro wq _ _ a0;refine aJ rfl rfl ?_;intro v4 h4;refine aJ rfl rfl ?_;intro v2 h2;refine aZ ?_;obtain ⟨a4,c4,rfl,h4⟩:=h4;refine aB 169 ?_
   refine aA rfl (sha_c _ a4 2 c4 [bP n,B] _ h4 (by simp [lG,i0]) (by
    intro x hx;simp only [List.flatten_cons,List.flatten_nil,List.append_nil,List.mem_append] at hx;rcases hx with hx|hx
    ·exact word4_lt n x hx
    ·exact u0 x hx)) rfl ?_
   rintro _ w4 ⟨rfl,g0⟩;rw [show [bP n,B].flatten=bP n++B by simp];repeat refine aF ?_
   exact aD rfl yG rfl
  ·refine yQ λ wq _ _ a0=>?_;refine eO 32 zero_dig rfl ?_;intro b5 w4 g0 m1 q1 q2;repeat refine aF ?_
   exact aD rfl yG ⟨b5,rfl,oM,oM,m1⟩
 ·intro w6 l0 o2 f1 _ _;iterate 7 (refine aJ rfl rfl ?_;intro vq f0;try (obtain rfl:=f0))
  refine aZ ?_;obtain ⟨b5,rfl,o3,y3,m1⟩:=f0;have hD:=kI (bP n++B);generalize shaB (bP n++B)=D at *;have y1:=k0.grow f1;have u1:=h0.grow f1;have z0:=s2.trans f1;have w3:=k0.lt;have u3:=h0.lt;have e2:=‹∀ (i:Nat),i<7→w2.heap.size≤l0 i∧l0 i≤o2 i∧o2 i≤w6.heap.size› 6 oM;have m3:l0 6≤b5:=o3;have e0:bk≠b5∧b4≠b5∧w.heap.size≤b5:=by have:=s2.size;omega
  repeat (first|(refine bZ ?_;refine fH rfl rfl m1 (cN _) hD ?_;intro w7 m0 j3 _)|refine yC ?_)
  have x1:=y1.upd m0 e0.1;have s1:=u1.upd m0 e0.2.1;have y0:Grow w w7:=aH m0 e0.2.2 z0;apply T.any 2 [is (.slice (some ⟨bk,0,none⟩) 12 512),is (.slice (some ⟨b5,0,none⟩) 32 32)]
  ·rfl
  ·repeat' (first|exact aN|refine aK ?_ ?_)
   iterate 2
    ·refine yQ λ wq _ _ a0=>?_;repeat refine aF ?_
     exact aD rfl yG rfl
  ·intro w8 q3 x3 j0 _ _;((refine yT ?_))
   have j1:=j3.grow j0;have f2:=jJ (o:=0) (m:=32) (c:=32) j1 oM (Nat.le_refl _) dM;rw [List.drop_zero,List.take_of_length_le oM] at f2;refine TL.copyB (b:=bk) (o:=0) (m:=12) (c:=512) rfl rfl (x1.grow j0) f2 (bO D) (by rw [bE,List.length_append,cN,i0];omega) rfl ?_;intro w9 d2 x2 s3
   have h1:iJ (bB (zs 12++B)) 0 ((bB D).take (min 32 12))=bB (D.take 12++B):=by
    rw [show min 32 12=12 from rfl,show (bB D).take 12=bB (D.take 12) by simp [bB,List.map_take],putAt_bys (by rw [List.length_take,List.length_append,cN];omega)];have e1:(D.take 12).length=12:=by rw [List.length_take,hD];rfl
    rw [e1,List.take_zero,List.nil_append,Nat.zero_add,List.drop_left' (cN 12)]
   rw [h1] at x2;have v0:(D.take 12++B).length=512:=by rw [List.length_append,List.length_take,hD,i0];rfl
   have o1:=(s1.grow j0).upd d2 t0.1;have x0:Grow w w9:=aH d2 t0.2.1 (y0.trans j0);generalize D.take 12++B=R at *;repeat (first|refine nS rfl x2 v0 rfl ?_|(refine bZ ?_;refine fH rfl rfl o1 (cN _) v0 ?_;intro p3 o0 z1 _)|refine yC ?_)
   exact retC rfl (aW z1 (by rw [bE,v0];rfl)) ⟨_,rfl,rfl,aH o0 t0.2.2 x0⟩
def kM (l:List Nat):List Value:=l.map λ (x:Nat)=>.int .u64 (x:Int)
theorem gG (l:List Nat):(kM l).length=l.length:=by simp [kM]
theorem ws64_at {l:List Nat} {i:Nat} (h:i<l.length):(kM l)[i]? = some (.int .u64 ((l.getD i 0:Nat):Int)):=by
 simp [kM,List.getD_eq_getElem?_getD,h]
instance:PtrTy Tryz.prog 25:=⟨kR⟩
def pgc (p d u c W:Nat):List Value:=[.pointer (some ⟨p,0,none⟩),.pointer (some ⟨d,0,none⟩),.int .i64 (c:Int),.slice (some ⟨u,0,none⟩) W W]
structure PL where
 p:Nat
 d:Nat
 u:Nat
 m:Nat
 s:Nat
structure PgAt (w:World) (L:PL) (g:Pg):Prop where
 blk:Blk w L.p 150 (pgc L.p L.d L.u g.count g.words.length)
 used:Blk w L.u 168 (kM g.words)
 ok:PgOk g
 cnt:g.count≤8192
 f:∃ f:Nat→Option Value,DkAt w L.d L.s L.m (2*g.count) f∧∀ n,bK g n=true→f (2*n)=some (.agg (bB ((gP n (g.body n)).take 256)).toArray)∧f (2*n+1)=some (.agg (bB ((gP n (g.body n)).drop 256)).toArray)
 lt:∀ n,∀ x∈g.body n,x<256
 bl:∀ n,bK g n=true→(g.body n).length=500
 ne:L.p≠L.u∧L.p≠L.m∧L.u≠L.m∧L.d≠L.u∧L.d≠L.p
theorem valid_c {w:World} {L:PL} {g:Pg} (h:PgAt w L g) :
  Calls Tryz.prog 85 #[.pointer (some ⟨L.p,0,none⟩)] w (Ret λ v w'=>v=.bool true∧w=w'):=by
 refine V.calls (args:=[_]) Tryz.func85 rfl Tryz.ntmps85 rfl rfl ?_;have hb:=h.blk;unfold pgc at hb;repeat (first|(refine TL.isNeT 25 ?_;refine TL.neNilP rfl rfl rfl ?_)|(refine iR 25 ?_;refine TL.eqSame rfl rfl rfl ?_)|refine yA ?_)
 exact bA rfl ⟨_,rfl,rfl,rfl⟩
theorem has_c {w:World} {L:PL} {g:Pg} (h:PgAt w L g) (n:Nat) (hn:n<9223372036854775808) :
  Calls Tryz.prog 91 #[.pointer (some ⟨L.p,0,none⟩),.int .i64 (n:Int)] w (Ret λ v w'=>v=.bool (bK g n)∧w=w'):=by
 refine V.calls (args:=[_,_]) Tryz.func91 rfl Tryz.ntmps91 rfl rfl ?_;have hb:=h.blk;have hu:=h.used;have j0:=h.cnt;unfold pgc at hb;by_cases e0:n<g.count
 ·have f0:=used_div h.ok e0;have g0:Sl (λ k=>k=L.u) w 1 (some ⟨L.u,0,none⟩) g.words.length g.words.length (kM g.words):=aU (sz:=1) (m:=g.words.length) hu (by rw [gG,Nat.mul_one]) (by unfold maxLen;have:=h.ok.wl;omega);have h0:w.cell? (at' (some ⟨L.u,0,none⟩) (n / 64))=some (.int .u64 ((g.words.getD (n / 64) 0:Nat):Int)):=g0.row.cell (ws64_at f0);have a0:bK g n=(g.words.getD (n / 64) 0).testBit (n%64):=by simp [bK,e0]
  rw [a0,Nat.testBit_eq_decide_div_mod_eq]
  have i0:g.words.getD (n / 64) 0<18446744073709551616:=by
   rw [List.getD_eq_getElem?_getD,List.getElem?_eq_getElem f0];exact h.ok.w64 _ (List.getElem_mem _)
  generalize g.words.getD (n / 64) 0=x at *;have hq:x / 2^(n%64)<18446744073709551616:=Nat.lt_of_le_of_lt (Nat.div_le_self ..) i0;have hr:x / 2^(n%64)%2=1∨x / 2^(n%64)%2=0:=by omega
  repeat (first|(refine aI ?_;refine aC (j:=n / 64) rfl rfl oM f0 (Nat.mul_one _) ⟨_,_,g0⟩ rfl ?_)|(refine TL.isAnd ?_;refine TL.andU rfl rfl rfl rfl hq oM rfl ?_)|refine yC ?_)
  exact bA rfl ⟨_,rfl,by
   congr 1
   rcases hr with hr|hr<;>rw [hr]<;>rfl,rfl⟩
 ·have a0:bK g n=false:=by simp [bK,e0]
  rw [a0];repeat (refine yC ?_)
  exact bA rfl ⟨_,rfl,rfl,rfl⟩
theorem has_neg {w:World} {L:PL} (p':List Value) :
  Calls Tryz.prog 91 #[.pointer (some ⟨L.p,0,none⟩),.int .i64 (-1)] w (Ret λ v w'=>v=.bool false∧w=w'):=by
 refine V.calls (args:=[_,_]) Tryz.func91 rfl Tryz.ntmps91 rfl rfl ?_;repeat (refine yA ?_)
 exact bA rfl ⟨_,rfl,rfl,rfl⟩
theorem pcheck_c {w:World} {L:PL} {g:Pg} (h:PgAt w L g) (n:Nat) (hn:n<9223372036854775808) :
  Calls Tryz.prog 128 #[.pointer (some ⟨L.p,0,none⟩),.int .i64 (n:Int)] w (Ret λ v w'=>v=.int .i64 (if bK g n=true then 0 else 6)∧w=w'):=by
 refine V.calls (args:=[_,_]) Tryz.func128 rfl Tryz.ntmps128 rfl rfl ?_;repeat (first|(refine aB 85 ?_;refine aA rfl (valid_c h) rfl ?_;rintro _ _ ⟨rfl,rfl⟩)|(refine aB 91 ?_;refine aA rfl (has_c h n hn) rfl ?_;rintro _ _ ⟨rfl,rfl⟩)|refine yA ?_)
 cases hu:bK g n with
 | true =>
  repeat refine dD ?_
  exact bA rfl ⟨_,rfl,rfl,rfl⟩
 | false =>
  repeat refine dD ?_
  exact bA rfl ⟨_,rfl,rfl,rfl⟩
theorem pcheck_neg {w:World} {L:PL} {g:Pg} (h:PgAt w L g) :
  Calls Tryz.prog 128 #[.pointer (some ⟨L.p,0,none⟩),.int .i64 (-1)] w (Ret λ v w'=>v=.int .i64 6∧w=w'):=by
 refine V.calls (args:=[_,_]) Tryz.func128 rfl Tryz.ntmps128 rfl rfl ?_;repeat (first|(refine aB 85 ?_;refine aA rfl (valid_c h) rfl ?_;rintro _ _ ⟨rfl,rfl⟩)|(refine aB 91 ?_;refine aA rfl (has_neg []) rfl ?_;rintro _ _ ⟨rfl,rfl⟩)|refine yA ?_)
 exact bA rfl ⟨_,rfl,rfl,rfl⟩
end Go.Proofs.YtfpadnmdafiddaaGreatDoor
namespace Go.V
open Go Go.RowKit
section
variable [Rn]
variable {P:Program} {n:Nat} {e:dI} {w:World} {Q:dA} {ops:Array Oper} {rest:List Oper} {d:Nat} {ty:TypeId} {pos:String} {aft:Array Edge}
theorem TL.orN6 {x y:Operand} {a b:Nat} {zx zy:Int} {t1 t2:TypeId} (hx:val e x=some (.int .u64 zx)) [ix:Lit zx a] (hy:val e y=some (.int .u64 zy)) [iy:Lit zy b] (ha:a<18446744073709551616) (hb:b<18446744073709551616) (hd:Nat.blt d n=true)
  (k:TL P n ops rest ((d,.int .u64 ((a|||b:Nat):Int))::e) w Q):TL P n ops (⟨some d,.binOp .or t1 x y t2,ty,pos,aft,none⟩::rest) e w Q :=
 TL.run (λ r hr=>by
  rw [ix.h] at hx;rw [iy.h] at hy
  have e1:((BitVec.ofInt IntKind.u64.bits (a:Int))|||(BitVec.ofInt IntKind.u64.bits (b:Int))).toNat=a|||b:=by
   rw [BitVec.toNat_or,bits_nat (M:=18446744073709551616) rfl,bits_nat (M:=18446744073709551616) rfl,Nat.mod_eq_of_lt ha,Nat.mod_eq_of_lt hb]
  have e2:=eT (kd:=.u64) (M:=18446744073709551616) rfl (show a|||b<18446744073709551616 from Nat.or_lt_two_pow (n:=64) ha hb);rw [← e1] at e2
  have hb:binOp .or t1 (.int .u64 (a:Int)) (.int .u64 (b:Int))=Pure.pure (.int .u64 ((a|||b:Nat):Int)):=by
   simp only [binOp,Op.intBits,ne_eq,not_true_eq_false,if_false];rw [e2,e1]
  simp only [execOp,bG,hr.eval hx,hr.eval hy,hb]
  rfl) hd k
end
end Go.V
namespace Go.Proofs.YtfpadnmdafiddaaGreatDoor
open Go Go.RowKit Go.V
theorem ws64_set (l:List Nat) (i x:Nat):(kM l).set i (.int .u64 (x:Int))=kM (l.set i x):=by simp [kM,List.map_set]
theorem pow_lt64 (n:Nat):2^(n%64)<18446744073709551616:=by
 have:n%64<64:=Nat.mod_lt _ oM
 calc 2^(n%64)<2^64:=Nat.pow_lt_pow_right oM this
  _=18446744073709551616:=by decide
theorem mark_c {w:World} {p u W:Nat} {x0 x1 x2:Value} {l:List Nat} (hb:Blk w p 150 [x0,x1,x2,.slice (some ⟨u,0,none⟩) W W]) (hu:Blk w u 168 (kM l)) (hW:l.length=W) (m0:∀ x∈l,x<18446744073709551616) (n:Nat) (hn:n / 64<W) (p0:W≤1000) :
  Calls Tryz.prog 92 #[.pointer (some ⟨p,0,none⟩),.int .i64 (n:Int)] w (Ret λ v w'=>Blk w' u 168 (kM (gX l n))∧But u w w'):=by
 refine V.calls (args:=[_,_]) Tryz.func92 rfl Tryz.ntmps92 rfl rfl ?_;subst hW
 have f0:l.getD (n / 64) 0<18446744073709551616:=by
  rw [List.getD_eq_getElem?_getD,List.getElem?_eq_getElem hn];exact m0 _ (List.getElem_mem _)
 have e0:=pow_lt64 n;have k0:gX l n=l.set (n / 64) (l.getD (n / 64) 0|||2^(n%64)):=rfl;rw [k0];have hg:=ws64_at hn;generalize l.getD (n / 64) 0=x at *;generalize hpw:2^(n%64)=y at *;have h0:∀ w',Grow w w'→Sl (λ k=>k=u) w' 1 (some ⟨u,0,none⟩) l.length l.length (kM l):=λ w' g=>aU (sz:=1) (m:=l.length) (hu.grow g) (by rw [gG,Nat.mul_one]) (by unfold maxLen;omega);have g0:∀ w',Grow w w'→w'.cell? (at' (some ⟨u,0,none⟩) (n / 64))=some (.int .u64 (x:Int)):=λ w' g=>(h0 w' g).row.cell hg;repeat refine aF ?_
 apply T.any 12 [is (.pointer (some ⟨p,0,none⟩)),is (.pointer (some ⟨p,0,none⟩)),is (.pointer (some ⟨p,3,none⟩)),is (.slice (some ⟨u,0,none⟩) l.length l.length),is (.int .i64 (n:Int)),is (.int .i64 ((n / 64:Nat):Int)),is (.pointer (some (at' (some ⟨u,0,none⟩) (n / 64)))),is (.int .u64 (x:Int)),is (.int .i64 (n:Int)),is (.int .i64 ((n%64:Nat):Int)),is (.int .u64 (y:Int)),is (.int .u64 ((x|||y:Nat):Int))]
 ·rfl
 ·repeat' (first|exact aN|refine aK ?_ ?_)
  iterate 6
   ·refine yQ λ wq _ _ a0=>?_;repeat refine aF ?_
    exact aD rfl yG rfl
  ·refine yQ λ wq _ _ a0=>?_;refine aC (j:=n / 64) rfl rfl rfl hn (Nat.mul_one _) ⟨_,_,h0 _ a0⟩ rfl ?_;repeat refine aF ?_
   exact aD rfl yG rfl
  ·refine yQ λ wq _ _ a0=>?_;refine aS rfl (g0 _ a0) rfl ?_;repeat refine aF ?_
   exact aD rfl yG rfl
  iterate 2
   ·refine yQ λ wq _ _ a0=>?_;repeat refine aF ?_
    exact aD rfl yG rfl
  ·refine yQ λ wq _ _ a0=>?_;refine TL.shlS (a:=1) (M:=18446744073709551616) rfl rfl rfl (by show n%64≤64;omega) (by rw [Nat.one_mul,hpw];exact e0) rfl ?_;rw [Nat.one_mul,hpw];repeat refine aF ?_
   exact aD rfl yG rfl
  ·refine yQ λ wq _ _ a0=>?_;refine TL.orN6 rfl rfl f0 e0 rfl ?_;repeat refine aF ?_
   exact aD rfl yG rfl
 ·intro w6 n0 o0 i0 _ _;((refine yT ?_))
  refine aC (j:=n / 64) rfl rfl rfl hn (Nat.mul_one _) ⟨_,_,h0 _ i0⟩ rfl ?_;rw [show at' (some ⟨u,0,none⟩) (n / 64)=⟨u,n / 64,none⟩ by rw [at_some,Nat.zero_add]];repeat refine aF ?_
  refine dR rfl rfl (hu.grow i0) rfl (by rw [gG];exact Nat.ble_eq_true_of_le hn) (ws64_set _ _ _) ?_;intro w7 j0 l0 _;repeat refine aF ?_
  exact dK (vs:=[]) rfl rfl ⟨_,rfl,l0,but_upd j0 (but_grow' i0)⟩
end Go.Proofs.YtfpadnmdafiddaaGreatDoor
namespace Go.V
open Go Go.RowKit
section
variable [Rn]
variable {P:Program} {n:Nat} {e:dI} {w:World} {Q:dA} {ops:Array Oper} {rest:List Oper} {d:Nat} {ty:TypeId} {pos:String} {aft:Array Edge}
theorem TL.andN6 {x y:Operand} {a b:Nat} {zx zy:Int} {t1 t2:TypeId} (hx:val e x=some (.int .u64 zx)) [ix:Lit zx a] (hy:val e y=some (.int .u64 zy)) [iy:Lit zy b] (ha:a<18446744073709551616) (hb:b<18446744073709551616) (hd:Nat.blt d n=true)
  (k:TL P n ops rest ((d,.int .u64 ((a&&&b:Nat):Int))::e) w Q):TL P n ops (⟨some d,.binOp .and t1 x y t2,ty,pos,aft,none⟩::rest) e w Q :=
 TL.run (λ r hr=>by
  rw [ix.h] at hx;rw [iy.h] at hy
  have e1:((BitVec.ofInt IntKind.u64.bits (a:Int))&&&(BitVec.ofInt IntKind.u64.bits (b:Int))).toNat=a&&&b:=by
   rw [BitVec.toNat_and,bits_nat (M:=18446744073709551616) rfl,bits_nat (M:=18446744073709551616) rfl,Nat.mod_eq_of_lt ha,Nat.mod_eq_of_lt hb]
  have e2:=eT (kd:=.u64) (M:=18446744073709551616) rfl (show a&&&b<18446744073709551616 from Nat.lt_of_le_of_lt Nat.and_le_left ha);rw [← e1] at e2
  have hb:binOp .and t1 (.int .u64 (a:Int)) (.int .u64 (b:Int))=Pure.pure (.int .u64 ((a&&&b:Nat):Int)):=by
   simp only [binOp,Op.intBits,ne_eq,not_true_eq_false,if_false];rw [e2,e1]
  simp only [execOp,bG,hr.eval hx,hr.eval hy,hb]
  rfl) hd k
theorem TL.negN6 {x:Operand} {a:Nat} {zx:Int} {t1:TypeId} (hx:val e x=some (.int .u64 zx)) [ix:Lit zx a] (h0:0<a) (ha:a<18446744073709551616) (hd:Nat.blt d n=true)
  (k:TL P n ops rest ((d,.int .u64 ((18446744073709551616-a:Nat):Int))::e) w Q):TL P n ops (⟨some d,.unOp .neg t1 x,ty,pos,aft,none⟩::rest) e w Q :=
 TL.pure (by
  rw [ix.h] at hx;simp only [pureOp,hx]
  have e1:IntKind.u64.wrap (0-(a:Int))=((18446744073709551616-a:Nat):Int):=by
   simp only [IntKind.wrap,IntKind.signed,IntKind.bits];simp;omega
  rw [e1]) hd k
theorem TL.isAndW {x y:Operand} {t1 t2:TypeId} {d:Option Nat} (h:TL P n ops (⟨d,.binOp .and t1 x y t2,ty,pos,aft,none⟩::rest) e w Q):TL P n ops (⟨d,.binOp .and t1 x y t2,ty,pos,aft,none⟩::rest) e w Q:=h
theorem TL.notN6 {x:Operand} {a:Nat} {zx:Int} {t1:TypeId} (hx:val e x=some (.int .u64 zx)) [ix:Lit zx a] (ha:a<18446744073709551616) (hd:Nat.blt d n=true)
  (k:TL P n ops rest ((d,.int .u64 ((18446744073709551615-a:Nat):Int))::e) w Q):TL P n ops (⟨some d,.unOp .xor t1 x,ty,pos,aft,none⟩::rest) e w Q :=
 TL.run (λ r hr=>by
  rw [ix.h] at hx
  have e1:(BitVec.ofInt IntKind.u64.bits (18446744073709551615:Int) ^^^ BitVec.ofInt IntKind.u64.bits (a:Int)).toNat=18446744073709551615-a:=by
   have h1:BitVec.ofInt IntKind.u64.bits (18446744073709551615:Int)=(BitVec.allOnes 64:BitVec 64):=(by decide:BitVec.ofInt 64 18446744073709551615=BitVec.allOnes 64)
   rw [h1];show (BitVec.allOnes 64 ^^^ BitVec.ofInt 64 (a:Int)).toNat=_;rw [BitVec.allOnes_xor,BitVec.toNat_not]
   have h2:(BitVec.ofInt 64 (a:Int)).toNat=a:=by
    have:=bits_nat (kd:=.u64) (M:=18446744073709551616) rfl a;rw [Nat.mod_eq_of_lt ha] at this;exact this
   rw [h2]
  have e2:=eT (kd:=.u64) (M:=18446744073709551616) rfl (show 18446744073709551615-a<18446744073709551616 by omega);rw [← e1] at e2
  have hb:Op.intBits .xor .u64 18446744073709551615 (a:Int)=Pure.pure (.int .u64 ((18446744073709551615-a:Nat):Int)):=by
   simp only [Op.intBits,ne_eq,not_true_eq_false,if_false];rw [e2,e1]
  have hs:(if IntKind.u64.signed=true then (-1:Int) else IntKind.u64.max)=18446744073709551615:=by decide
  simp only [execOp,hr.eval hx,Op.unary];rw [hs,hb]
  rfl) hd k
end
end Go.V
namespace Go.Proofs.YtfpadnmdafiddaaGreatDoor
open Go Go.RowKit Go.V
theorem odd_split:∀ (x:Nat),x≠0→∃ k m,x=2^k*(2*m+1):=by
 intro x
 induction x using Nat.strongRecOn with
 | _ x ih =>
  intro h;by_cases h2:x%2=1
  ·exact ⟨0,x / 2,oM⟩
  ·obtain ⟨k,m,hk⟩:=ih (x / 2) oM oM;exact ⟨k+1,m,by rw [Nat.pow_succ,Nat.mul_comm (2^k) 2,Nat.mul_assoc,← hk];omega⟩
theorem mQ (k m i:Nat):(2^k*(2*m+1)).testBit i=if i<k then false else if i=k then true else m.testBit (i-k-1):=by
 have h:=Nat.testBit_two_pow_mul_add (2*m+1) (b:=0) (i:=k) (Nat.two_pow_pos k) i;rw [Nat.add_zero] at h;rw [h];by_cases h1:i<k
 ·simp [h1]
 ·rw [if_neg h1,if_neg h1];by_cases h2:i=k
  ·subst h2;simp
  ·rw [if_neg h2];obtain ⟨t,ht⟩:∃ t,i-k=t+1:=⟨i-k-1,oM⟩
   rw [ht,Nat.testBit_succ,show (2*m+1) / 2=m by omega];rfl
theorem bit_pred (k m i:Nat):(2^k*(2*m+1)-1).testBit i=if i<k then true else if i=k then false else m.testBit (i-k-1):=by
 have hp:=Nat.two_pow_pos k;have e:2^k*(2*m+1)-1=2^k*(2*m)+(2^k-1):=by rw [Nat.mul_add,Nat.mul_one];omega
 rw [e,Nat.testBit_two_pow_mul_add (2*m) (b:=2^k-1) (i:=k) oM i];by_cases h1:i<k
 ·simp [h1,Nat.testBit_two_pow_sub_one]
 ·rw [if_neg h1,if_neg h1];by_cases h2:i=k
  ·subst h2;simp
  ·rw [if_neg h2];obtain ⟨t,ht⟩:∃ t,i-k=t+1:=⟨i-k-1,oM⟩
   rw [ht,Nat.testBit_succ,show (2*m) / 2=m by omega];rfl
theorem low_bit (k m:Nat) (h:2^k*(2*m+1)<18446744073709551616):(2^k*(2*m+1))&&&(18446744073709551616-2^k*(2*m+1))=2^k:=by
 apply Nat.eq_of_testBit_eq;intro i;have hp:=Nat.two_pow_pos k;have a0:0<2^k*(2*m+1):=Nat.mul_pos hp oM
 have e:18446744073709551616-2^k*(2*m+1)=2^64-((2^k*(2*m+1)-1)+1):=by
  rw [Nat.sub_add_cancel a0]
 rw [Nat.testBit_and,e,Nat.testBit_two_pow_sub_succ oM,mQ,bit_pred,Nat.testBit_two_pow]
 have e0:k<64:=by
  rcases Nat.lt_or_ge k 64 with h1|h1
  ·exact h1
  ·have h2:2^64≤2^k:=Nat.pow_le_pow_right oM h1;have h3:2^k*1≤2^k*(2*m+1):=Nat.mul_le_mul_left _ oM;have h4:(2:Nat)^64=18446744073709551616:=by decide
   omega
 by_cases h1:i<k
 ·simp [h1];omega
 ·by_cases h2:i=k
  ·subst h2;simp [e0]
  ·simp only [h1,h2,if_false];cases m.testBit (i-k-1)<;>simp<;>omega
def tabB:Bs:=[0,1,56,2,57,49,28,3,61,58,42,50,38,29,17,4,62,47,59,36,45,43,51,22,53,39,33,30,24,18,12,5,63,55,48,27,60,41,37,16,46,35,44,21,52,32,23,11,54,26,40,15,34,20,31,10,25,14,19,9,13,8,7,6]
def TabAt (w:World):Prop:=0<w.heap.size∧∀ (j x:Nat),tabB[j]? = some x→w.cell? ⟨0,j,none⟩=some (.int .u8 (x:Int))
theorem TabAt.keep {w w':World} (h:TabAt w) (h0:w'.heap[0]? = w.heap[0]?) (hs:w.heap.size≤w'.heap.size):TabAt w' :=
 ⟨Nat.lt_of_lt_of_le h.1 hs,λ j x hj=>(World.cell?_of_block (w:=w) (a:=⟨0,j,none⟩) h0).trans (h.2 j x hj)⟩
theorem TabAt.grow {w w':World} (h:TabAt w) (g:Grow w w'):TabAt w':=h.keep (g.block 0 h.1) g.size
theorem TabAt.but {w w':World} {b:Nat} (h:TabAt w) (u:But b w w') (hb:b≠0):TabAt w':=h.keep (u.block 0 h.1 oM) u.size
theorem tab_at:∀ k:Fin 64,2^k.val*285870213051353865%18446744073709551616 / 288230376151711744<64∧tabB[2^k.val*285870213051353865%18446744073709551616 / 288230376151711744]? = some k.val:=by decide +kernel
theorem tz0_c (w:World):Calls Tryz.prog 102 #[.int .u64 0] w (Ret λ v w'=>v=.int .i64 64∧w=w'):=by
 refine V.calls (args:=[_]) Tryz.func102 rfl Tryz.ntmps102 rfl rfl ?_;repeat refine dD ?_
 exact bA rfl ⟨_,rfl,rfl,rfl⟩
theorem tz_c (k m:Nat) (h:2^k*(2*m+1)<18446744073709551616) (hk:k<64) (w:World) (ht:TabAt w):Calls Tryz.prog 102 #[.int .u64 ((2^k*(2*m+1):Nat):Int)] w (Ret λ v w'=>v=.int .i64 (k:Int)∧w=w'):=by
 refine V.calls (args:=[_]) Tryz.func102 rfl Tryz.ntmps102 rfl rfl ?_;have h0:=low_bit k m h;have f0:0<2^k*(2*m+1):=Nat.mul_pos (Nat.two_pow_pos k) oM;have a0:=tab_at ⟨k,hk⟩;simp only at a0;generalize 2^k*(2*m+1)=x at *;generalize hi:2^k*285870213051353865%18446744073709551616 / 288230376151711744=i at a0;have g0:2^k*285870213051353865%18446744073709551616 / 2^58=i:=hi;have e0:w.cell? ⟨0,i,none⟩=some (.int .u8 (k:Int)):=ht.2 i k a0.2;repeat (first|(refine TL.isUn ?_;refine TL.negN6 rfl f0 h rfl ?_)|(refine TL.isAndW ?_;refine TL.andN6 rfl rfl h oM rfl ?_;rw [h0])|refine yC ?_)
 rw [g0];repeat (first|refine aS rfl e0 rfl ?_|refine yC ?_)
 exact bA rfl ⟨_,rfl,rfl,rfl⟩
theorem word_low (x:Nat) (h:x<18446744073709551616):x=18446744073709551615∨∃ k m,18446744073709551615-x=2^k*(2*m+1)∧k<64∧x.testBit k=false∧∀ i,i<k→x.testBit i=true:=by
 by_cases hx:x=18446744073709551615
 ·exact .inl hx
 ·right;obtain ⟨k,m,hk⟩:=odd_split (18446744073709551615-x) oM
  have hb:∀ i,i<64→x.testBit i = !(2^k*(2*m+1)).testBit i:=by
   intro i hi;have e:2^k*(2*m+1)=2^64-(x+1):=by rw [← hk];omega
   rw [e,Nat.testBit_two_pow_sub_succ oM];simp [hi]
  have a0:k<64:=by
   rcases Nat.lt_or_ge k 64 with h1|h1
   ·exact h1
   ·have h2:2^64≤2^k:=Nat.pow_le_pow_right oM h1;have h3:2^k*1≤2^k*(2*m+1):=Nat.mul_le_mul_left _ oM;have h4:(2:Nat)^64=18446744073709551616:=by decide
    omega
  refine ⟨k,m,hk,a0,?_,λ i hi=>?_⟩
  ·rw [hb k a0,mQ];simp
  ·rw [hb i oM,mQ];simp [hi]
theorem ones_bit (i:Nat) (h:i<64):(18446744073709551615:Nat).testBit i=true:=by
 have:=Nat.testBit_two_pow_sub_one 64 i;rw [show (2:Nat)^64-1=18446744073709551615 by decide] at this;rw [this];simp [h]
theorem lowP_eq {g:Pg} {v:Nat} (hv:v≤g.count) (h1:∀ k,k<v→bK g k=true) (h2:v=g.count∨bK g v=false):lowP g=v:=by
 rcases Nat.lt_trichotomy (lowP g) v with h|h|h
 ·have:=lowP_free (s:=g) oM;rw [h1 _ h] at this;cases this.2
 ·exact h
 ·have:=lowP_le g;rcases h2 with h2|h2
  ·omega
  ·rw [lowP_used h] at h2;cases h2
theorem used_word {g:Pg} {i k:Nat} (hk:k<64) (h:64*i+k<g.count):bK g (64*i+k)=(g.words.getD i 0).testBit k:=by
 have e1:(64*i+k) / 64=i:=by omega
 have e2:(64*i+k)%64=k:=by omega
 simp [bK,h,e1,e2]
theorem lowest_c {w:World} {L:PL} {g:Pg} (h:PgAt w L g) (ht:TabAt w) :
  Calls Tryz.prog 122 #[.pointer (some ⟨L.p,0,none⟩)] w (Ret λ v w'=>v=.int .i64 (lowP g:Int)∧w=w'):=by
 refine V.calls (args:=[_]) Tryz.func122 rfl Tryz.ntmps122 rfl rfl ?_;have hb:=h.blk;have hu:=h.used;have t0:=h.cnt;have s0:=h.ok.wl;unfold pgc at hb;have m0:Sl (λ k=>k=L.u) w 1 (some ⟨L.u,0,none⟩) g.words.length g.words.length (kM g.words):=aU (sz:=1) (m:=g.words.length) hu (by rw [gG,Nat.mul_one]) (by unfold maxLen;omega);repeat refine aF ?_
 refine aX (S:=Nat) (λ i=>[(11,.int .i64 (i:Int)),(10,.int .i64 (g.words.length:Int)),(9,.slice (some ⟨L.u,0,none⟩) g.words.length g.words.length),(0,.pointer (some ⟨L.p,0,none⟩))]) (λ i w'=>w=w'∧i≤g.words.length∧∀ j,j<i→g.words.getD j 0=18446744073709551615) (λ i=>g.words.length-i) 0 ⟨rfl,rfl,rfl,rfl,trivial⟩ ⟨rfl,oM,λ j hj=>by omega⟩ ?_;rintro i _ ⟨rfl,hi,j0⟩
 have a0:∀ k,k<64*i→k<g.count→bK g k=true:=λ k hk hc=>by
  have:=used_word (g:=g) (i:=k / 64) (k:=k%64) oM oM;rw [show 64*(k / 64)+k%64=k by omega,j0 (k / 64) oM,ones_bit _ oM] at this;exact this
 by_cases l0:i<g.words.length;rotate_left
 ·have f0:lowP g=g.count:=lowP_eq (Nat.le_refl _) (λ k hk=>a0 k oM hk) (.inl rfl);rw [f0];repeat refine aF ?_
  exact bA rfl ⟨_,rfl,rfl,rfl⟩
 have e0:g.words.getD i 0<18446744073709551616:=by
  rw [List.getD_eq_getElem?_getD,List.getElem?_eq_getElem l0];exact h.ok.w64 _ (List.getElem_mem _)
 have i0:w.cell? (at' (some ⟨L.u,0,none⟩) i)=some (.int .u64 ((g.words.getD i 0:Nat):Int)):=m0.row.cell (ws64_at l0);have k0:=λ k (hk:k<64) (hc:64*i+k<g.count)=>used_word (g:=g) (i:=i) hk hc;obtain ⟨x,hx⟩:∃ x,x=g.words.getD i 0:=⟨_,rfl⟩
 rw [← hx] at i0 e0 k0;rcases word_low x e0 with h0|⟨k,m,hk,g0,p0,o0⟩
 ·subst h0;repeat (first|(refine aI ?_;refine aC (j:=i) rfl rfl rfl l0 (Nat.mul_one _) ⟨_,_,m0⟩ rfl ?_)|(refine TL.isUn ?_;refine TL.notN6 rfl e0 rfl ?_)|(refine aB 102 ?_;refine aA rfl (tz0_c _) rfl ?_;rintro _ _ ⟨rfl,rfl⟩)|(refine eM ?_;refine TL.mulN (a:=64) rfl rfl oM rfl ?_)|refine yC ?_)
  exact aE (i+1) ⟨rfl,rfl,rfl,rfl,trivial⟩ ⟨rfl,oM,λ j hj=>by
   by_cases q0:j=i
   ·subst q0;exact hx.symm
   ·exact j0 j oM⟩ oM
 ·have f0:lowP g=min (64*i+k) g.count:=by
   by_cases hc:64*i+k<g.count
   ·rw [Nat.min_eq_left oM];refine lowP_eq oM (λ j hj=>?_) (.inr ?_)
    ·by_cases n0:j<64*i
     ·exact a0 j n0 oM
     ·have:=k0 (j-64*i) oM oM;rw [show 64*i+(j-64*i)=j by omega,o0 _ oM] at this;exact this
    ·rw [k0 k g0 hc,p0]
   ·rw [Nat.min_eq_right oM];refine lowP_eq (Nat.le_refl _) (λ j hj=>?_) (.inl rfl);by_cases n0:j<64*i
    ·exact a0 j n0 hj
    ·have:=k0 (j-64*i) oM oM;rw [show 64*i+(j-64*i)=j by omega,o0 _ oM] at this;exact this
  rw [f0];repeat (first|(refine aI ?_;refine aC (j:=i) rfl rfl rfl l0 (Nat.mul_one _) ⟨_,_,m0⟩ rfl ?_)|(refine TL.isUn ?_;refine TL.notN6 rfl e0 rfl ?_;rw [hk])|(refine aB 102 ?_;refine aA rfl (tz_c k m oM g0 _ ht) rfl ?_;rintro _ _ ⟨rfl,rfl⟩)|(refine eM ?_;refine TL.mulN (a:=64) rfl rfl oM rfl ?_)|(refine eU ?_;refine TL.minV (r:=((min (64*i+k) g.count:Nat):Int)) rfl rfl (by split<;>omega) rfl ?_)|refine yC ?_)
  exact bA rfl ⟨_,rfl,rfl,rfl⟩
structure ButS (S:Nat→Prop) (w w':World):Prop where
 os:w'.os=w.os
 tape:w'.tape=w.tape
 output:w'.output=w.output
 size:w.heap.size≤w'.heap.size
 block:∀ k,k<w.heap.size→¬ S k→w'.heap[k]? = w.heap[k]?
theorem ButS.refl (S:Nat→Prop) (w:World):ButS S w w:=⟨rfl,rfl,rfl,Nat.le_refl _,λ _ _ _=>rfl⟩
theorem ButS.trans {S:Nat→Prop} {a b c:World} (h:ButS S a b) (k:ButS S b c):ButS S a c :=
 ⟨k.os.trans h.os,k.tape.trans h.tape,k.output.trans h.output,Nat.le_trans h.size k.size,λ i hi hs=>(k.block i (Nat.lt_of_lt_of_le hi h.size) hs).trans (h.block i hi hs)⟩
theorem ButS.grow {S:Nat→Prop} {w w':World} (g:Grow w w'):ButS S w w':=⟨g.1.os,g.1.tape,g.1.output,g.2,λ k hk _=>g.block k hk⟩
theorem ButS.but {S:Nat→Prop} {w w':World} {b:Nat} (u:But b w w') (hb:S b):ButS S w w':=⟨u.os,u.tape,u.output,u.size,λ k hk hs=>u.block k hk (λ e=>hs (e▸hb))⟩
theorem ButS.upd {S:Nat→Prop} {w0 w w':World} {b:Nat} (h:ButS S w0 w) (u:Upd b w w') (hb:w0.heap.size≤b):ButS S w0 w' :=
 ⟨u.os.trans h.os,u.tape.trans h.tape,u.output.trans h.output,by rw [u.size];exact h.size,λ k hk hs=>(u.block k oM).trans (h.block k hk hs)⟩
theorem Carry.buts {S F:Nat→Prop} {w w':World} (u:ButS S w w') (hb:∀ k,F k→k<w.heap.size→¬ S k):Carry F w F w':=⟨u.size,λ k hk h=>⟨hk,u.block k h (hb k hk h)⟩⟩
theorem bX {S:Nat→Prop} {w w':World} {b:Nat} {t:TypeId} {cs:List Value} (h:Blk w b t cs) (u:ButS S w w') (hb:¬ S b):Blk w' b t cs:=by
 have hl:=h.lt;unfold Blk at *;rw [u.block b hl hb];exact h
theorem TabAt.buts {S:Nat→Prop} {w w':World} (h:TabAt w) (u:ButS S w w') (hb:¬ S 0):TabAt w':=h.keep (u.block 0 h.1 hb) u.size
def PL.S (L:PL) (k:Nat):Prop:=k=L.u∨k=L.m∨k=L.p
theorem PgAt.grow {w w':World} {L:PL} {g:Pg} (h:PgAt w L g) (gr:Grow w w'):PgAt w' L g:=by
 obtain ⟨f,h1,h2⟩:=h.f;exact ⟨h.blk.grow gr,h.used.grow gr,h.ok,h.cnt,⟨f,h1.grow gr,h2⟩,h.lt,h.bl,h.ne⟩
theorem PgAt.upd {w w':World} {L:PL} {g:Pg} {b:Nat} (h:PgAt w L g) (u:Upd b w w') (hb:b≠L.p∧b≠L.d∧b≠L.u∧b≠L.m):PgAt w' L g:=by
 obtain ⟨f,h1,h2⟩:=h.f;exact ⟨h.blk.upd u (Ne.symm hb.1),h.used.upd u (Ne.symm hb.2.2.1),h.ok,h.cnt,⟨f,h1.keep (u.block _ (Ne.symm hb.2.1)) (u.block _ (Ne.symm hb.2.2.2)),h2⟩,h.lt,h.bl,h.ne⟩
theorem PgAt.lts {w:World} {L:PL} {g:Pg} (h:PgAt w L g):L.p<w.heap.size∧L.d<w.heap.size∧L.u<w.heap.size∧L.m<w.heap.size:=by
 obtain ⟨f,h1,h2⟩:=h.f;exact ⟨h.blk.lt,h1.blk.lt,h.used.lt,h1.map.lt⟩
theorem body500_idem (b:Bs) (h:b.length≤500):dB (dB b)=dB b:=by
 have hl:=jD b h;rw [show dB (dB b)=dB b++zs (500-(dB b).length) from rfl,hl];exact List.append_nil _
theorem pageB_body (n:Nat) (b:Bs) (h:b.length≤500):gP n (dB b)=gP n b:=by
 unfold gP;rw [body500_idem b h]
theorem new_c {w:World} {L:PL} {g:Pg} (h:PgAt w L g) (ht:TabAt w) (F:Nat→Prop) (a:Option Addr) (m c:Nat) (b:Bs) (hs:Sl F w 1 a m c (bB b)) (hm:m≤500) (u1:∀ x∈b,x<256) (n:Nat) (g':Pg) (e0:newP g b=some (n,g')) :
  Calls Tryz.prog 45 #[.pointer (some ⟨L.p,0,none⟩),.slice a m c] w (Ret λ v w'=>v=.tuple #[.int .i64 (n:Int),.int .i64 0]∧PgAt w' L g'∧ButS L.S w w'):=by
 have a0:=newP_new h.ok e0;have e2:=gW hs
 have z0:lowP g=n:=by
  unfold newP at e0;simp only at e0;split at e0
  ·cases e0
  ·cases e0;rfl
 have s1:g'.words=gX g.words n:=by
  unfold newP at e0;simp only at e0;split at e0
  ·cases e0
  ·cases e0;rfl
 have z2:=h.cnt;have d2:=a0.lt;have e1:=lowest_c h ht;rw [z0] at e1;refine V.calls (args:=[_,_]) Tryz.func45 rfl Tryz.ntmps45 rfl rfl ?_;have hb:=h.blk;unfold pgc at hb;repeat (first|(refine aB 85 ?_;refine aA rfl (valid_c h) rfl ?_;rintro _ _ ⟨rfl,rfl⟩)|(refine aB 122 ?_;refine aA rfl (e1) rfl ?_;rintro _ _ ⟨rfl,rfl⟩)|refine yC ?_)
 refine aB 123 ?_;refine aA rfl (page_c F n oM a m c b _ hs hm u1) rfl ?_;rintro _ w2 ⟨rfl,s0⟩;have r1:=lI n b oM;obtain ⟨pg,o1⟩:∃ pg,pg=gP n b:=⟨_,rfl⟩
 rw [← o1] at r1 ⊢;refine fI ?_;refine eO 512 zero_page rfl ?_;intro b7 w3 f1 x1 q1 q2;refine fH rfl rfl x1 (cN _) r1 ?_;intro w4 v0 g0 q3;have h3:=h.grow (s0.trans f1);have hl:=h.lts;have u2:=s0.size;have h4:=h3.upd v0 oM;have n0:ButS L.S w w4:=(ButS.grow (s0.trans f1)).upd v0 oM;have z1:b7≠L.p∧b7≠L.d∧b7≠L.u∧b7≠L.m:=by omega
 clear x1 f1 s0 v0 hb h3 e1;have hb:=h4.blk;unfold pgc at hb;obtain ⟨f,hd,hf⟩:=h4.f;repeat refine aF ?_
 apply T.any 7 [is (.pointer (some ⟨L.p,0,none⟩)),is (.pointer (some ⟨L.p,0,none⟩)),is (.pointer (some ⟨L.p,1,none⟩)),is (.pointer (some ⟨L.d,0,none⟩)),is (.int .i64 (n:Int)),is (.int .i64 ((2*n:Nat):Int)),is (.slice (some ⟨b7,0,none⟩) 256 512)]
 ·rfl
 ·repeat' (first|exact aN|refine aK ?_ ?_)
  iterate 5
   ·refine yQ λ wq _ _ k0=>?_;repeat refine aF ?_
    exact aD rfl yG rfl
  ·refine yQ λ wq _ _ k0=>?_;refine TL.mulN (a:=2) rfl rfl oM rfl ?_;repeat refine aF ?_
   exact aD rfl yG rfl
  ·refine yQ λ wq _ _ k0=>?_;repeat refine aF ?_
   exact aD rfl yG rfl
 intro w5 s2 y2 h0 _ _;((refine yT ?_))
 have y0:=jJ (o:=0) (m:=256) (c:=512) (g0.grow h0) oM oM dM;rw [List.drop_zero] at y0;refine aB 124 ?_;refine aA rfl (dwrite_c (hd.grow h0) (2*n) oM _ _ 512 _ y0) rfl ?_;rintro v6 w6 ⟨j2,j0⟩;have y1:=cG j0 (hb.grow h0) h.ne.2.1;have o0:=cG j0 (g0.grow h0) z1.2.2.2;have i0:=cG j0 (h4.used.grow h0) h.ne.2.2.1;have m0:ButS L.S w w6:=n0.trans ((ButS.grow h0).trans (ButS.but j0 (.inr (.inl rfl))));clear g0 y0 j0 n0;repeat refine aF ?_
 apply T.any 8 [is (.pointer (some ⟨L.p,0,none⟩)),is (.pointer (some ⟨L.p,0,none⟩)),is (.pointer (some ⟨L.p,1,none⟩)),is (.pointer (some ⟨L.d,0,none⟩)),is (.int .i64 (n:Int)),is (.int .i64 ((2*n:Nat):Int)),is (.int .i64 ((2*n+1:Nat):Int)),is (.slice (some ⟨b7,256,none⟩) 256 256)]
 ·rfl
 ·repeat' (first|exact aN|refine aK ?_ ?_)
  iterate 5
   ·refine yQ λ wq _ _ k0=>?_;repeat refine aF ?_
    exact aD rfl yG rfl
  ·refine yQ λ wq _ _ k0=>?_;refine TL.mulN (a:=2) rfl rfl oM rfl ?_;repeat refine aF ?_
   exact aD rfl yG rfl
  iterate 2
   ·refine yQ λ wq _ _ k0=>?_;repeat refine aF ?_
    exact aD rfl yG rfl
 intro w7 r2 x2 l0 _ _;((refine yT ?_))
 have x0:=jJ (o:=256) (m:=256) (c:=256) (o0.grow l0) oM oM dM;rw [List.take_of_length_le (by rw [List.length_drop];omega)] at x0;refine aB 124 ?_;refine aA rfl (dwrite_c (j2.grow l0) (2*n+1) oM _ _ 256 _ x0) rfl ?_;rintro v8 w8 ⟨g1,q0⟩;have w1:=cG q0 (y1.grow l0) h.ne.2.1;have u0:=cG q0 (i0.grow l0) h.ne.2.2.1;have m1:ButS L.S w w8:=m0.trans ((ButS.grow l0).trans (ButS.but q0 (.inr (.inl rfl))));clear x0 q0 m0 o0 y1 i0;have g2:=used_div h.ok d2;repeat refine aF ?_
 refine aB 92 ?_;refine aA rfl (mark_c w1 u0 rfl h.ok.w64 n g2 (by have:=h.ok.wl;omega)) rfl ?_;rintro v9 w9 ⟨t0,p0⟩;have o2:=cG p0 w1 h.ne.1;have j1:ButS L.S w w9:=m1.trans (ButS.but p0 (.inl rfl));have h2:DkAt w9 L.d L.s L.m (2*g.count) _:=g1.keep (p0.block _ g1.blk.lt h.ne.2.2.2.1) (p0.block _ g1.map.lt (Ne.symm h.ne.2.2.1));repeat refine aF ?_
 refine fJ rfl rfl ⟨_,rfl,rfl,⟨?_,?_,a0.ok,by rw [a0.count];exact h.cnt,⟨_,by rw [a0.count];exact h2,?_⟩,?_,?_,h.ne⟩,j1⟩
 ·unfold pgc;rw [a0.count,s1,show (gX g.words n).length=g.words.length by simp [gX]];exact o2
 ·rw [s1];exact t0
 ·intro k hk;rw [a0.used] at hk;by_cases f0:k=n
  ·subst f0;rw [a0.body,show padB b=dB b from rfl,pageB_body k b oM,← o1];constructor
   ·simp [upF]
   ·simp [upF]
  ·have f2:bK g k=true:=by simpa [f0] using hk
   rw [a0.other k f0];have h1:=hf k f2;constructor
   ·simp only [upF];rw [if_neg oM,if_neg oM];exact h1.1
   ·simp only [upF];rw [if_neg oM,if_neg oM];exact h1.2
 ·intro k x hx;by_cases f0:k=n
  ·subst f0;rw [a0.body] at hx;exact body_lt u1 x hx
  ·rw [a0.other k f0] at hx;exact h.lt k x hx
 ·intro k hk;rw [a0.used] at hk;by_cases f0:k=n
  ·subst f0;rw [a0.body];exact jD b oM
  ·rw [a0.other k f0];exact h.bl k (by simpa [f0] using hk)
theorem bclone_c (F:Nat→Prop) (ad:Addr) (m c:Nat) (l:Bs) (w:World) (hs:Sl F w 1 (some ad) m c (bB l)) (hm:m≤100000) :
  Calls Tryz.prog 130 #[.slice (some ad) m c] w (Ret λ v w'=>w'.ownsRow w.heap.size 5 1 v m (bB l)∧Grow w w'):=by
 refine V.calls (args:=[_]) Tryz.func130 rfl Tryz.ntmps130 rfl rfl ?_;repeat (first|refine dD ?_|refine yI λ bk w' hg f0 g0 e0=>?_)
 refine kU rfl rfl (eI (base:=w.heap.size) f0 oM) (hs.grow yG) (bO l) oM oM rfl ?_;intro v w2 a0 h0;repeat refine dD ?_
 exact bA rfl ⟨_,rfl,a0,yG⟩
theorem read_neg {w:World} {L:PL} {g:Pg} (h:PgAt w L g) :
  Calls Tryz.prog 50 #[.pointer (some ⟨L.p,0,none⟩),.int .i64 (-1)] w (Ret λ v w'=>v=.tuple #[.slice none 0 0,.int .i64 6]∧w=w'):=by
 refine V.calls (args:=[_,_]) Tryz.func50 rfl Tryz.ntmps50 rfl rfl ?_;repeat (first|(refine aB 128 ?_;refine aA rfl (pcheck_neg h) rfl ?_;rintro _ _ ⟨rfl,rfl⟩)|refine yA ?_)
 exact fJ rfl rfl ⟨_,rfl,rfl,rfl⟩
theorem same_bys:∀ (l l':Bs),l.length=l'.length→kE (bB l) (bB l')
 | [],[],_=>trivial
 | [],_::_,h=>by cases h
 | _::_,[],h=>by cases h
 | x::l,y::l',h=>⟨rfl,same_bys l l' (by simpa using h)⟩
def readB (p:Bs) (i:Nat):Bs:=p.take (256*i)++zs (512-256*i)
theorem readB_step (p:Bs) (hl:p.length=512) (i:Nat) (hi:i<2):((p.drop (256*i)).take 256).length=256∧iJ (bB (readB p i)) (i*256) (bB ((p.drop (256*i)).take 256))=bB (readB p (i+1)):=by
 have e:((p.drop (256*i)).take 256).length=256:=by rw [List.length_take,List.length_drop,hl];omega
 have e2:(p.take (256*i)).length=i*256:=by rw [List.length_take,hl];omega
 refine ⟨e,?_⟩;rw [putAt_bys (by rw [e];simp only [readB,List.length_append,cN,e2];omega),e];have e3:(readB p i).take (i*256)=p.take (256*i):=List.take_left' e2
 have e4:(readB p i).drop (i*256+256)=zs (512-256*(i+1)):=by
  unfold readB zs;rw [List.drop_append,List.drop_eq_nil_of_le oM,List.nil_append,List.drop_replicate,e2];have e5:512-256*i-(i*256+256-i*256)=512-256*(i+1):=by omega
  rw [e5]
 rw [e3,e4,← List.take_add,show 256*i+256=256*(i+1) by omega];rfl
theorem pread_c {w:World} {L:PL} {g:Pg} (h:PgAt w L g) (n:Nat) (hn:n<4294967296) (hu:bK g n=true) :
  Calls Tryz.prog 50 #[.pointer (some ⟨L.p,0,none⟩),.int .i64 (n:Int)] w (Ret λ v w'=>∃ u,v=.tuple #[u,.int .i64 0]∧w'.ownsRow w.heap.size 5 1 u 500 (bB (g.body n))∧Grow w w'):=by
 have hc:=pcheck_c h n oM;rw [hu] at hc;simp only [if_true] at hc
 have y1:n<g.count:=by
  rcases Nat.lt_or_ge n g.count with h1|h1
  ·exact h1
  ·simp [bK,Nat.not_lt.2 h1] at hu
 have f2:=h.cnt;have s1:=h.bl n hu;have e0:=lI n (g.body n) oM;refine V.calls (args:=[_,_]) Tryz.func50 rfl Tryz.ntmps50 rfl rfl ?_;repeat (first|(refine aB 128 ?_;refine aA rfl (hc) rfl ?_;rintro _ _ ⟨rfl,rfl⟩)|(refine fI ?_;refine eO 512 zero_page rfl ?_;intro b7 w1 m1 f0 q1 q2)|refine yC ?_)
 have p0:gP n (g.body n)=(gP n (g.body n)).take 12++g.body n:=by
  have e1:gP n (g.body n)=(shaB (bP n++dB (g.body n))).take 12++dB (g.body n):=rfl
  have e2:dB (g.body n)=g.body n:=by
   show g.body n++zs (500-(g.body n).length)=g.body n;rw [s1];exact List.append_nil _
  rw [e1,e2,List.take_left' (by rw [List.length_take,kI];rfl)]
 obtain ⟨f,hd,hf⟩:=h.f;obtain ⟨t0,s0⟩:=hf n hu;have a0:=λ w F a c hs=>page_c F n oM a 500 c (g.body n) w hs (Nat.le_refl _) (h.lt n);obtain ⟨p,hp⟩:∃ p,p=gP n (g.body n):=⟨_,rfl⟩
 rw [← hp] at t0 s0 e0 p0 a0;have hl:=h.lts;refine aX (S:=Nat) (λ i=>[(17,.int .i64 (i:Int)),(7,.pointer (some ⟨b7,0,none⟩)),(1,.int .i64 (n:Int)),(0,.pointer (some ⟨L.p,0,none⟩))]) (λ i w2=>i≤2∧Blk w2 b7 197 (bB (readB p i))∧Grow w w2) (λ i=>2-i) 0 ⟨rfl,rfl,rfl,rfl,trivial⟩ ⟨oM,by simpa [readB] using f0,m1⟩ ?_;clear f0;rintro i w2 ⟨hi,f0,g0⟩;have u0:=g0.size;have h2:=h.grow g0;have hb:=h2.blk;unfold pgc at hb;have o0:(readB p i).length=512:=by simp [readB,cN,e0];omega
 by_cases f1:i<2
 ·obtain ⟨x0,z0⟩:=readB_step p e0 i f1
  have v0:f (2*n+i)=some (.agg (bB ((p.drop (256*i)).take 256)).toArray):=by
   obtain rfl|rfl:i=0∨i=1:=by omega
   ·exact t0
   ·have:(p.drop (256*1)).take 256=p.drop 256:=List.take_of_length_le (by rw [List.length_drop,e0];omega);rw [this];exact s0
  generalize (p.drop (256*i)).take 256=vs at *;repeat (first|(refine eM ?_;refine TL.mulN (a:=2) rfl rfl oM rfl ?_)|refine yC ?_)
  refine aB 129 ?_;refine aA rfl (dread_c (hd.grow g0) (2*n+i) oM vs v0 x0) rfl ?_;rintro _ w3 ⟨bs,rfl,r1,m0,q0⟩;repeat (first|(refine eM ?_;refine TL.mulN (a:=i) (b:=256) rfl rfl oM rfl ?_)|(refine eM ?_;refine TL.mulN (a:=i+1) (b:=256) rfl rfl oM rfl ?_)|refine yC ?_)
  refine TL.copyB (b:=b7) (o:=0+i*256*1) (m:=(i+1)*256-i*256) rfl rfl (f0.grow q0) m0 (bO vs) (by rw [bE,o0];omega) rfl ?_;rw [show 0+i*256*1=i*256 by omega,show min 256 ((i+1)*256-i*256)=256 by omega,List.take_of_length_le (by rw [bE];omega),z0];intro w4 y0 n0 _;repeat refine aF ?_
  exact aE (i+1) ⟨rfl,rfl,rfl,rfl,trivial⟩ ⟨oM,n0,aH y0 oM (g0.trans q0)⟩ oM
 obtain rfl:i=2:=by omega
 have h0:readB p 2=p:=by
  simp only [readB];rw [List.take_of_length_le oM];exact List.append_nil _
 rw [h0] at f0;clear hb o0 h0;repeat refine aF ?_
 have j0:=jJ (o:=12) (m:=500) (c:=500) f0 oM (Nat.le_refl _) dM
 have o1:(p.drop 12).take 500=g.body n:=by
  rw [List.take_of_length_le (by rw [List.length_drop];omega)];have u1:(p.take 12).length=12:=by rw [List.length_take,e0];rfl
  have:=congrArg (List.drop 12) p0;rw [List.drop_left' u1] at this;exact this
 rw [o1] at j0;apply T.any 4 [is (.agg (bB p).toArray),is (.int .i64 (n:Int)),is (.slice (some ⟨b7,12,none⟩) 500 500),is (.agg (bB p).toArray)]
 ·rfl
 ·repeat' (first|exact aN|refine aK ?_ ?_)
  ·refine yQ λ wq _ _ i0=>?_;refine nS rfl (f0.grow i0) e0 rfl ?_;repeat refine aF ?_
   exact aD rfl yG rfl
  iterate 2
   ·refine yQ λ wq _ _ i0=>?_;repeat refine aF ?_
    exact aD rfl yG rfl
  ·refine yQ λ wq _ _ i0=>?_;refine aB 123 ?_;refine aA rfl (a0 _ _ _ _ (j0.grow i0)) rfl ?_;rintro _ w4 ⟨rfl,d2⟩;repeat refine aF ?_
   exact aD rfl yG rfl
 intro w5 x1 z1 l0 _ _;((refine yT ?_))
 refine TL.neArr true rfl rfl rfl (same_bys p p rfl) (by rw [bE,e0]) sM rfl ?_;repeat refine aF ?_
 refine aB 130 ?_;refine aA rfl (bclone_c _ _ 500 500 (g.body n) _ (j0.grow l0) oM) rfl ?_;rintro v w6 ⟨k0,j1⟩;have g1:Grow w w6:=(g0.trans l0).trans j1;have:=l0.size;have u0:=g0.size;repeat refine aF ?_
 exact fJ rfl rfl ⟨_,rfl,v,rfl,eB k0 oM,g1⟩
end Go.Proofs.YtfpadnmdafiddaaGreatDoor
