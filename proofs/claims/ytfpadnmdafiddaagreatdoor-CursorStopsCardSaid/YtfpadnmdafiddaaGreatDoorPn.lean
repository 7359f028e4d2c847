import Derived.Test.YtfpadnmdafiddaaGreatDoorP0
import Derived.Test.YtfpadnmdafiddaaGreatDoorPm
import Derived.Test.YtfpadnmdafiddaaGreatDoorPc
import Derived.Test.YtfpadnmdafiddaaGreatDoorPl
import Derived.Test.YtfpadnmdafiddaaGreatDoorPe
import Derived.Test.YtfpadnmdafiddaaGreatDoorPd
import Derived.Test.YtfpadnmdafiddaaGreatDoorPh
import Derived.Test.YtfpadnmdafiddaaGreatDoorPf
set_option linter.all false
set_option maxHeartbeats 16000000
set_option maxRecDepth 100000
namespace Go.Proofs.YtfpadnmdafiddaaGreatDoor
open Go Go.RowKit Go.V
theorem rtake_c {B b:Nat} {r:Bs} {w:World} (h:RdR B b r w) (m:Nat) (hm:m≤r.length) (hl:r.length≤100000) :
  Calls Tryz.prog 206 #[.pointer (some ⟨b,0,none⟩),.int .i64 (m:Int)] w (Ret λ v w'=>∃ a c,v=.slice a m c∧Sl (λ k=>w.heap.size≤k) w' 1 a m c (bB (r.take m))∧RdR B b (r.drop m) w'∧Mut b w w'):=by
 have n0:=h.lt;obtain ⟨a,c,h1,h2⟩:=h;have h0:=h2.cap;refine V.calls (args:=[_,_]) Tryz.func206 rfl Tryz.ntmps206 rfl rfl ?_;repeat (first|(refine eU ?_;refine lK (r:=(m:Int)) rfl rfl (by split<;>omega) rfl ?_)|(refine cL ?_;first|refine dF (l:=0) (h:=m) (mm:=c) rfl (aP _) (bI rfl rfl) (aP _) (by intro h;cases h) oM oM oM oM oM rfl ?_|refine dF (l:=m) (h:=r.length) (mm:=c) rfl (bI rfl rfl) (aP _) (aP _) (by intro h;rfl) oM oM oM oM oM rfl ?_)|refine yC ?_|refine yI λ bk w' hg i0 k0 j0=>?_|refine yJ λ w' hu i0 k0=>?_)
 rename_i w1 m0 q1;have f0:=hu;clear hu;have z1:=f0.size;have z2:=hg.size
 have s0:Sl (λ k=>B≤k∧k<b) w 1 (eL a c 0 1) m c (bB (r.take m)):=by
  have:=eW (l:=0) (h:=m) (mm:=c) h2 (Nat.zero_le _) hm oM (Nat.le_refl _);simpa [bB,List.map_take] using this
 have s1:Sl (λ k=>B≤k∧k<b) w 1 (eL a c m 1) (r.drop m).length (c-m) (bB (r.drop m)):=by
  have:=eW (l:=m) (h:=r.length) (mm:=c) h2 hm (Nat.le_refl _) h0 (Nat.le_refl _);rw [List.take_of_length_le (by rw [List.length_drop,bE];omega)] at this;simpa [bB,List.map_drop] using this
 have e1:(r.drop m).length=r.length-m:=List.length_drop;refine TL.append rfl rfl (eI (base:=w.heap.size) i0 oM) ((s0.upd f0 (λ k hk=>by omega)).grow hg) (bO _) (by unfold maxLen;omega) oM oM rfl ?_;intro v2 w2 e0 l0 _;have a0:w2.ownsRow w.heap.size 5 1 v2 m (bB (r.take m)):=by simpa using e0
 have g0:Grow w1 w2:=Grow.mk (aL l0 oM (λ k hk=>by simp only [Value.ownBlock,Option.some.injEq] at hk;omega) hg.1);obtain ⟨a2,c2,rfl,s2⟩:=aM a0;repeat refine aF ?_
 refine bA rfl ⟨_,rfl,a2,c2,rfl,s2.mono (λ k hk=>hk.1),⟨eL a c m 1,c-m,?_,(s1.upd f0 (λ k hk=>by omega)).grow g0⟩,(mut_upd f0).trans (iM g0)⟩;rw [e1];exact Blk.grow g0 m0
theorem rnumber_c {B b n:Nat} {t:Bs} {w:World} (h:RdR B b (n::t) w) (hn:n<128) (hl:(n::t).length≤100000) :
  Calls Tryz.prog 248 #[.pointer (some ⟨b,0,none⟩)] w (Ret λ v w'=>v=.int .u64 (n:Int)∧RdR B b t w'∧Mut b w w'):=by
 have k0:=h.lt;obtain ⟨a,c,h1,h2⟩:=h;have e0:=h2.cap;have g0:(n::t).length=t.length+1:=rfl;have a0:w.cell? (at' a 0)=some (.int .u8 (n:Int)):=h2.row.cell rfl;have h0:n / 2^7=0:=Nat.div_eq_of_lt oM;have f0:n%128=n:=Nat.mod_eq_of_lt hn
 have s1:Sl (λ k=>B≤k∧k<b) w 1 (eL a c 1 1) t.length (c-1) (bB t):=by
  have:=eW (l:=1) (h:=(n::t).length) (mm:=c) h2 oM (Nat.le_refl _) e0 (Nat.le_refl _);rw [List.take_of_length_le (by simp [bE])] at this;simpa [bB] using this
 obtain ⟨N,hN⟩:∃ N,N=(n::t).length:=⟨_,rfl⟩
 rw [← hN] at h1 h2 e0 hl g0;refine V.calls (args:=[_]) Tryz.func248 rfl Tryz.ntmps248 rfl rfl ?_;repeat refine aF ?_
 refine aX (S:=Nat) (λ _=>[(3,.int .i64 1),(0,.pointer (some ⟨b,0,none⟩))]) (λ i w'=>i=0∧w=w') (λ i=>i) 0 ⟨rfl,rfl,trivial⟩ ⟨rfl,rfl⟩ ?_;rintro _ _ ⟨rfl,rfl⟩;repeat (first|(refine aI ?_;refine aC (j:=0) rfl rfl rfl oM (Nat.mul_one _) ⟨_,_,h2⟩ rfl ?_)|(refine eS ?_;refine TL.shrS (s:=7) rfl rfl (by show 7≤8;omega) rfl ?_;rw [h0])|refine aS rfl a0 rfl ?_|(refine jR ?_;refine TL.shlS (M:=18446744073709551616) (a:=1) (s:=7) rfl rfl rfl dM dM rfl ?_)|(refine TL.isRem ?_;first|(refine TL.remU (a:=n) (b:=128) rfl rfl oM rfl ?_;rw [f0])|refine TL.remU (a:=0) (b:=2) rfl rfl oM rfl ?_)|refine yC ?_)
 refine aX (S:=Nat) (λ _=>[(5,.int .i64 1),(4,.int .u64 (n:Int)),(3,.int .i64 1),(0,.pointer (some ⟨b,0,none⟩))]) (λ i w'=>i=0∧w=w') (λ i=>i) 0 ⟨rfl,rfl,rfl,rfl,trivial⟩ ⟨rfl,rfl⟩ ?_;rintro _ _ ⟨rfl,rfl⟩;repeat (first|(refine aB 265 ?_;refine aA rfl (rroom_c n hn _) rfl ?_;rintro _ _ ⟨rfl,rfl⟩)|(refine cL ?_;refine dF (l:=1) (h:=N) (mm:=c) rfl (bI rfl rfl) (aP _) (aP _) (by intro h;rfl) oM oM oM oM oM rfl ?_)|refine yC ?_|refine yJ λ w' hu i0 j0=>?_)
 have e2:N-1=t.length:=by omega
 rw [e2] at i0;exact bA rfl ⟨_,rfl,rfl,⟨_,_,i0,s1.upd hu (λ k hk=>by omega)⟩,mut_upd hu⟩
theorem rdblock_c {B b:Nat} {p t:Bs} {w:World} (h:RdR B b (bS p++t) w) (hn:p.length<128) (hl:(bS p++t).length≤100000) :
  Calls Tryz.prog 207 #[.pointer (some ⟨b,0,none⟩)] w (Ret λ v w'=>∃ a c,v=.slice a p.length c∧Sl (λ k=>w.heap.size≤k) w' 1 a p.length c (bB p)∧RdR B b t w'∧Mut b w w'):=by
 have k0:=h.lt;rw [blkB_small hn,List.cons_append] at h hl;have h':=h;obtain ⟨a,c,h1,h2⟩:=h';refine V.calls (args:=[_]) Tryz.func207 rfl Tryz.ntmps207 rfl rfl ?_;repeat refine aF ?_
 refine aB 248 ?_;refine aA rfl (rnumber_c h hn hl) rfl ?_;rintro _ w1 ⟨rfl,f0,g0⟩;have a0:=f0;obtain ⟨a3,c3,h3,h4⟩:=a0;have j0:(p++t).length=p.length+t.length:=List.length_append;have i0:(p++t).length≤100000:=by simp only [List.length_cons] at hl;omega
 obtain ⟨N,hN⟩:∃ N,N=(p++t).length:=⟨_,rfl⟩
 have z1:=g0.size;rw [← hN] at h3;clear h1 h2 h;repeat refine aF ?_
 refine aB 206 ?_;refine aA rfl (rtake_c f0 p.length oM i0) rfl ?_;rintro _ w2 ⟨a5,c5,rfl,s5,e0,h0⟩;rw [List.take_left' rfl] at s5;rw [List.drop_left' rfl] at e0;repeat refine aF ?_
 exact bA rfl ⟨_,rfl,a5,c5,rfl,s5.mono (λ k hk=>by omega),e0,g0.trans h0⟩
def beW (r:Bs):Nat→Nat
 | 0=>0
 | i+1=>beW r i*256+r.getD (3-i) 0
theorem beW_word {k:Nat} (h:k<4294967296):beW (bP k) 4=k:=by
 simp [beW,bP];omega
theorem beW_lt {r:Bs} (hr:∀ x∈r,x<256):∀ i,beW r i<256^i
 | 0=>by simp [beW]
 | i+1=>by
  have ih:=beW_lt hr i
  have hg:r.getD (3-i) 0<256:=by
   rw [List.getD_eq_getElem?_getD]
   cases hx:r[3-i]? with
   | none=>simp
   | some x=>exact hr x (List.mem_of_getElem? hx)
  simp only [beW,Nat.pow_succ];omega
theorem rdword_c {B b k:Nat} {t:Bs} {w:World} (h:RdR B b (bP k++t) w) (hk:k<4294967296) (hl:(bP k++t).length≤100000) :
  Calls Tryz.prog 208 #[.pointer (some ⟨b,0,none⟩),.int .i64 4] w (Ret λ v w'=>v=.int .u64 (k:Int)∧RdR B b t w'∧Mut b w w'):=by
 have m0:=h.lt;refine V.calls (args:=[_,_]) Tryz.func208 rfl Tryz.ntmps208 rfl rfl ?_;repeat (first|(refine eU ?_;first|refine lK (r:=4) rfl rfl dM rfl ?_|refine TL.minV (r:=4) rfl rfl dM rfl ?_)|refine yC ?_)
 refine aB 206 ?_;refine aA rfl (rtake_c h 4 (by simp [bP]) hl) rfl ?_;rintro _ w2 ⟨a5,c5,rfl,s5,e0,h0⟩;have e4:(bP k++t).take 4=bP k:=List.take_left' rfl;have e5:(bP k++t).drop 4=t:=List.drop_left' rfl;rw [e4] at s5;rw [e5] at e0;have a0:∀ x∈bP k,x<256:=word4_lt k;repeat refine aF ?_
 refine aX (S:=Nat) (λ i=>[(7,.int .i64 (3-(i:Int))),(6,.int .u64 (beW (bP k) i:Int)),(5,.slice a5 4 c5)]) (λ i w'=>i≤4∧w2=w') (λ i=>4-i) 0 ⟨rfl,rfl,rfl,trivial⟩ ⟨oM,rfl⟩ ?_;rintro i _ ⟨hi,rfl⟩;by_cases i0:i<4
 ·have g0:(3-(i:Int))=((3-i:Nat):Int):=by omega
  have n0:=beW_lt a0 i;have j0:256^i≤256^3:=Nat.pow_le_pow_right oM oM
  have hg:(bP k)[3-i]? = some ((bP k).getD (3-i) 0):=by
   rw [List.getD_eq_getElem?_getD];rw [List.getElem?_eq_getElem (by show 3-i<4;omega)];rfl
  have k0:(bP k).getD (3-i) 0<256:=a0 _ (List.mem_of_getElem? hg);have l0:w2.cell? (at' a5 (3-i))=some (.int .u8 (((bP k).getD (3-i) 0:Nat):Int)):=s5.row.cell (bys_at hg);have f0:beW (bP k) (i+1)=beW (bP k) i*256+(bP k).getD (3-i) 0:=rfl;generalize beW (bP k) i=x at *;generalize (bP k).getD (3-i) 0=y at *;rw [g0];repeat (first|(refine aI ?_;refine aC (j:=3-i) rfl rfl rfl oM (Nat.mul_one _) ⟨_,_,s5⟩ rfl ?_)|refine yC ?_)
  refine aE (i+1) ⟨?_,?_,rfl,trivial⟩ ⟨i0,rfl⟩ oM
  ·show some (Value.int .i64 _)=some (Value.int .i64 _);congr 2
   omega
  ·rw [f0];rfl
 ·obtain rfl:i=4:=by omega
  rw [beW_word hk];repeat refine aF ?_
  exact bA rfl ⟨_,rfl,rfl,e0,h0⟩
theorem RdR.keep {B b:Nat} {r:Bs} {w w':World} (h:RdR B b r w) (hs:w.heap.size≤w'.heap.size) (hk:∀ k,k≤b→w'.heap[k]? = w.heap[k]?):RdR B b r w':=by
 obtain ⟨a,c,h1,h2⟩:=h;exact ⟨a,c,cJ h1 (hk b (Nat.le_refl _)),h2.keep (λ k a0 _=>hk k oM) hs⟩
structure RdH (w w4:World) (B b bk bk2:Nat) (ha:Option Addr) (hc:Nat) (kd cnt:Nat):Prop where
 b2:Blk w4 bk2 79 nil3
 hd:Sl (λ k=>b<k∧k<bk) w4 1 ha 2 hc (bB [kd,cnt])
 g:Grow w w4
theorem RdH.go {w w4 w5:World} {B b bk a0:Nat} {ha:Option Addr} {hc kd cnt:Nat} (h:RdH w w4 B b bk a0 ha hc kd cnt) (hs:w4.heap.size≤w5.heap.size) (hg:Grow w w5) (g0:a0<b) (hk:∀ k,k<bk→k≠b→w5.heap[k]? = w4.heap[k]?) (f0:b<bk):RdH w w5 B b bk a0 ha hc kd cnt :=
 ⟨cJ h.b2 (hk a0 oM oM),h.hd.keep (λ k e0 _=>hk k e0.2 oM) hs,hg⟩
theorem RdH.c0 {w w4:World} {B b bk a0:Nat} {ha:Option Addr} {hc kd cnt:Nat} (h:RdH w w4 B b bk a0 ha hc kd cnt):w4.cell? (at' ha 0)=some (.int .u8 (kd:Int)):=h.hd.row.cell rfl
theorem RdH.c1 {w w4:World} {B b bk a0:Nat} {ha:Option Addr} {hc kd cnt:Nat} (h:RdH w w4 B b bk a0 ha hc kd cnt):w4.cell? (at' ha 1)=some (.int .u8 (cnt:Int)):=h.hd.row.cell rfl
theorem bytesN_len {nd:Nd} (h:bF nd=true):(bN nd=true→dC nd=0::nd.items.length::nd.items.flatMap (λ x:Bs×Bs=>bS x.1++bS x.2))∧(bN nd=false→dC nd=1::nd.kids.length::(nd.kids.flatMap bP++nd.keys.flatMap bS)):=by
 refine ⟨λ hl=>?_,λ hl=>?_⟩
 ·unfold dC;rw [if_pos hl];rfl
 ·unfold dC;rw [if_neg (by rw [hl];simp)];simp
theorem rread_n (F:Nat→Prop) (a:Option Addr) (c:Nat) (nd:Nd) (z:Nat) (bs:Bs) (w:World) (d2:bs=dC nd++List.replicate z 0) (hs:Sl F w 1 a bs.length c (bB bs)) (hl:bs.length≤100000) (t4:bF nd=true) :
  Calls Tryz.prog 167 #[.slice a bs.length c] w (Ret λ v w'=>∃ x:NV,v=.tuple #[x.val,.int .i64 0]∧NdAt (λ k=>w.heap.size≤k) w' x nd∧Grow w w'):=by
 have ok:=ndOk t4;obtain ⟨x4,x2⟩:=bytesN_len t4
 obtain ⟨kd,cnt,rest,n0,s6,l6⟩:∃ kd cnt rest,bs=kd::cnt::rest∧kd≤1∧cnt≤8:=by
  cases hlf:bN nd with
  | true=>exact ⟨0,_,_,by rw [d2,x4 hlf];rfl,oM,ok.n1⟩
  | false=>exact ⟨1,_,_,by rw [d2,x2 hlf];rfl,oM,ok.n2⟩
 refine V.calls (args:=[_]) Tryz.func167 rfl Tryz.ntmps167 rfl rfl ?_;refine dU 5 (λ e w4=>∃ (B b bk l0:Nat) (ha:Option Addr) (hc:Nat),Sub [(6,.pointer (some ⟨bk,0,none⟩)),(5,.slice ha 2 hc),(4,.pointer (some ⟨b,0,none⟩)),(2,.pointer (some ⟨l0,0,none⟩))] e∧w.heap.size≤l0∧l0<b∧b<bk∧w4.heap.size=bk+1∧l0<B∧Blk w4 bk 79 nil3∧RdR B b rest w4∧RdH w w4 B b bk l0 ha hc kd cnt) ?_ ?_;rotate_left
 ·repeat (first|refine aF ?_|refine yI λ bk w' hg j0 y3 z4=>?_)
  obtain ⟨l0,rfl⟩:=yE bk;obtain ⟨w0,rfl⟩:=yE w';refine aB 205 ?_;refine aA rfl (rread_c F a c bs _ (hs.grow hg) hl) rfl ?_;rintro _ w1 ⟨b,rfl,v6,r5,u4⟩;have v5:Blk w1 l0 79 nil3:=Blk.grow u4 j0;have j6:=hg.trans u4;have z1:=u4.size;have a6:=r5.lt;clear j0 hg u4;repeat refine aF ?_
  refine aB 206 ?_;refine aA rfl (rtake_c r5 2 (by rw [n0];simp) hl) rfl ?_;rintro _ w2 ⟨ha,hc,rfl,hh,g4,p3⟩;rw [n0] at hh g4;simp only [List.take_succ_cons,List.take_zero,List.drop_succ_cons,List.drop_zero] at hh g4;have z2:=p3.size;have l5:=cG (dN p3) v5 oM;have j5:=gR (dN p3) oM j6;have m4:w2.cell? (at' ha 0)=some (.int .u8 (kd:Int)):=hh.row.cell rfl;have v4:w2.cell? (at' ha 1)=some (.int .u8 (cnt:Int)):=hh.row.cell rfl;obtain ⟨ra,rc,s4,_⟩:=id g4;have y5:=g4.lt;clear v5 p3;repeat (first|(refine aI ?_;first|refine aC (j:=0) rfl rfl rfl oM (Nat.mul_one _) ⟨_,_,hh⟩ rfl ?_|refine aC (j:=1) rfl rfl rfl oM (Nat.mul_one _) ⟨_,_,hh⟩ rfl ?_)|refine yC ?_|refine yI λ bk w' hg j0 y3 z4=>?_)
  exact ⟨w0.heap.size,b,bk,l0,ha,hc,⟨rfl,rfl,rfl,rfl,trivial⟩,oM,oM,oM,oM,oM,j0,g4.grow hg,⟨l5.grow hg,(hh.tight.grow hg).mono (λ k hk=>⟨by have:=hk.1;omega,by have:=hk.2;omega⟩),j5.trans hg⟩⟩
 rintro e w4 ⟨B,b,bk,l0,ha,hc,p0,q1,q2,q3,q4,q5,r2,f4,l4⟩;refine bD (e':=[(6,_),(5,_),(4,_),(2,_)]) ?_ p0;clear p0;refine dU 1 (λ e w5=>∃ (a1:Option Addr) (n1 c1:Nat) (a2:Option Addr) (n2 c2:Nat),Sub [(6,.pointer (some ⟨bk,0,none⟩)),(5,.slice ha 2 hc),(4,.pointer (some ⟨b,0,none⟩)),(2,.pointer (some ⟨l0,0,none⟩))] e∧bk<w5.heap.size∧Blk w5 bk 79 [.slice a1 n1 c1,.slice a2 n2 c2,.slice none 0 0]∧ItsAt (λ k=>bk+1≤k) w5 a1 n1 c1 nd.items∧Sl (λ k=>bk+1≤k) w5 1 a2 n2 c2 (bC nd.kids)∧RdR B b (nd.keys.flatMap bS++List.replicate z 0) w5∧RdH w w5 B b bk l0 ha hc kd cnt) ?_ ?_;rotate_left
 ·cases hlf:bN nd with
  | true =>
   have e1:=x4 hlf;rw [n0,e1] at d2;simp only [List.cons_append,List.cons.injEq] at d2;obtain ⟨rfl,rfl,rfl⟩:=d2;have x3:=bL.1 hlf
   have r3:nd.keys=[]:=by
    have:=ok.n3;rw [x3] at this;exact List.eq_nil_of_length_eq_zero this
   ·repeat refine aF ?_
    refine aX (S:=Value×Nat) (λ s=>[(7,.int .i64 (s.2:Int)),(6,.pointer (some ⟨bk,0,none⟩)),(5,.slice ha 2 hc),(4,.pointer (some ⟨b,0,none⟩)),(2,.pointer (some ⟨l0,0,none⟩))])
     (λ s w1=>s.2≤nd.items.length∧∃ (cells:List Value),Blk w1 bk 79 [s.1,.slice none 0 0,.slice none 0 0]∧w1.ownsRow (bk+1) 58 2 s.1 s.2 cells∧ItCells (λ k=>bk+1≤k∧s.1.ownBlock≠some k) w1 cells (nd.items.take s.2)∧RdR B b ((nd.items.drop s.2).flatMap (λ x:Bs×Bs=>bS x.1++bS x.2)++List.replicate z 0) w1∧((nd.items.drop s.2).flatMap (λ x:Bs×Bs=>bS x.1++bS x.2)++List.replicate z 0).length≤100000∧RdH w w1 B b bk l0 ha hc 0 nd.items.length)
     (λ s=>nd.items.length-s.2) (.slice none 0 0,0) ⟨rfl,rfl,rfl,rfl,rfl,trivial⟩ ⟨Nat.zero_le _,[],r2,lF,trivial,f4,by rw [n0] at hl;simp only [List.length_cons] at hl;simp only [List.drop_zero];omega,l4⟩ ?_
    clear r2 f4 l4;rintro ⟨v,i⟩ w1 ⟨hi,cells,j0,k0,f0,q0,i0,hh⟩;simp only at hi j0 k0 f0 q0 i0;refine bD (e':=[(7,.int .i64 (i:Int)),(6,.pointer (some ⟨bk,0,none⟩)),(5,.slice ha 2 hc),(4,.pointer (some ⟨b,0,none⟩)),(2,.pointer (some ⟨l0,0,none⟩))]) ?_ ⟨rfl,rfl,rfl,rfl,rfl,trivial⟩;have h4:=j0.lt;have m4:=hh.c0;have v4:=hh.c1;by_cases x1:i<nd.items.length;rotate_left
    ·obtain rfl:i=nd.items.length:=by omega
     repeat (first|(refine aI ?_;refine aC (j:=1) rfl rfl rfl oM (Nat.mul_one _) ⟨_,_,hh.hd⟩ rfl ?_)|refine yC ?_)
     obtain ⟨va,vc,rfl,w3⟩:=aM k0;rw [List.take_length] at f0;rw [List.drop_length] at q0;exact ⟨va,_,vc,none,0,0,⟨rfl,rfl,rfl,rfl,trivial⟩,h4,j0,⟨cells,w3.mono λ k hk=>hk.1,f0.go (Carry.mono λ k hk _=>hk.1)⟩,by rw [x3];exact Sl.nil_mk _ _ _,by rw [r3];exact q0,hh⟩
    obtain ⟨y,hy⟩:∃ y,nd.items[i]? = some y:=⟨_,List.getElem?_eq_getElem x1⟩
    obtain ⟨y1,y2⟩:=ok.it i y hy;have x5:=(eK y1).2;have p6:=iD y2
    have hd:(nd.items.drop i).flatMap (λ x:Bs×Bs=>bS x.1++bS x.2)++List.replicate z 0=bS y.1++(bS y.2++((nd.items.drop (i+1)).flatMap (λ x:Bs×Bs=>bS x.1++bS x.2)++List.replicate z 0)):=by
     rw [iE hy];simp
    rw [hd] at q0 i0;obtain ⟨rest,g0⟩:∃ r,r=(nd.items.drop (i+1)).flatMap (λ x:Bs×Bs=>bS x.1++bS x.2)++List.replicate z 0:=⟨_,rfl⟩
    rw [← g0] at q0 i0;have k3:=i0;have s0:(bS y.2++rest).length≤100000:=by rw [List.length_append] at k3;omega
    repeat (first|(refine aI ?_;first|refine aC (j:=0) rfl rfl rfl oM (Nat.mul_one _) ⟨_,_,hh.hd⟩ rfl ?_|refine aC (j:=1) rfl rfl rfl oM (Nat.mul_one _) ⟨_,_,hh.hd⟩ rfl ?_)|refine yC ?_)
    refine aB 207 ?_;refine aA rfl (rdblock_c q0 oM k3) rfl ?_;rintro _ w2 ⟨ka,kc,rfl,f6,d4,p3⟩;have j2:=dN p3;have s2:Blk w2 bk 79 [v,.slice none 0 0,.slice none 0 0]:=cG j2 j0 oM;have q6:=p3.size;repeat refine aF ?_
    apply mX (Mut b) 7 4 (λ w=>RdR B b (bS y.2++rest) w∧But b w2 w) (λ w=>RdR B b rest w∧But b w2 w) (λ w=>But b w2 w)
     [gY _,gY _,gY _,gY _,ofA (λ u w=>∃ a c,u=.slice a y.2.length c∧Sl (λ k=>w2.heap.size≤k) w 1 a y.2.length c (bB y.2)) (by rintro u w w' g ⟨a,c,h1,h2⟩;exact ⟨a,c,h1,h2.grow g⟩),
      ofA (λ u w=>∃ a c,u=.agg #[.slice ka y.1.length kc,.slice a y.2.length c]∧Sl (λ k=>w2.heap.size≤k) w 1 a y.2.length c (bB y.2)) (by rintro u w w' g ⟨a,c,h1,h2⟩;exact ⟨a,c,h1,h2.grow g⟩),
      ofA (λ u w=>∃ bb a c,u=.slice (some ⟨bb,0,none⟩) 1 1∧w2.heap.size≤bb∧Blk w bb 58 [.slice ka y.1.length kc,.slice a y.2.length c]∧Sl (λ k=>w2.heap.size≤k) w 1 a y.2.length c (bB y.2)) (by rintro u w w' g ⟨bb,a,c,h1,h0,h2,h3⟩;exact ⟨bb,a,c,h1,h0,h2.grow g,h3.grow g⟩)]
    ·kernel_rfl
    ·exact ⟨d4,But.refl _ _⟩
    ·exact λ _ h=>h.2
    ·exact λ _ h=>h.2
    ·exact λ _ h=>h.size
    ·exact λ _ _ h g=>⟨h.1.grow g,gE g h.2⟩
    ·exact λ _ _ h g=>⟨h.1.grow g,gE g h.2⟩
    ·exact λ _ _ h=>h.size
    ·repeat' (first|exact iO|refine gT ?_ ?_)
     iterate 4
      ·refine cZ rfl rfl rfl rfl ?_;intro wq _ _ o0;have u5:=cG o0 s2 oM;(refine yU ?_)
       repeat refine aF ?_
       exact bQ rfl (Grow.refl _) rfl
     ·refine iN rfl rfl rfl rfl ?_;intro wq _ _ o0;(refine yU ?_)
      refine aA rfl (rdblock_c o0.1 oM s0) rfl ?_;rintro _ w5 ⟨va,vc,rfl,m1,f2,j3⟩;repeat refine aF ?_
      have:=o0.2.size;exact bQ rfl ⟨j3,f2,but_but (dN j3) o0.2⟩ ⟨va,vc,rfl,m1.mono λ k hk=>by omega⟩
     ·refine cZ rfl rfl rfl rfl ?_;intro wq _ _ o0;(((repeat (refine needA_cons rfl rfl ?_;intro vq v0;try (obtain rfl:=Eq.symm v0)));(refine needA_nil ?_)))
      obtain ⟨va,vc,rfl,m1⟩:=v0;repeat refine aF ?_
      exact bQ rfl (Grow.refl _) ⟨va,vc,rfl,m1⟩
     ·refine cZ rfl rfl rfl rfl ?_;intro wq _ _ o0;(((repeat (refine needA_cons rfl rfl ?_;intro vq v0;try (obtain rfl:=Eq.symm v0)));(refine needA_nil ?_)))
      obtain ⟨va,vc,rfl,m1⟩:=v0;have:=o0.size;refine TL.buildSlice rfl rfl rfl rfl rfl ?_;intro bb w6 u2 p4 c4 b4 a4;repeat refine aF ?_
      exact bQ rfl u2 ⟨bb,va,vc,rfl,oM,p4,m1.grow u2⟩
    ·rintro wT lo hi ⟨g2,u0⟩ _ _;(((repeat (refine needA_cons rfl rfl ?_;intro vq v0;try (obtain rfl:=Eq.symm v0)));(refine needA_nil ?_)))
     obtain ⟨bb,va,vc,rfl,o4,x2,m1⟩:=v0;have a0:=mK (mK k0 j2 oM) u0 oM;have z0:=cG u0 s2 oM;have n5:=u0.size;refine dO rfl rfl a0 (aU (sz:=2) (m:=1) x2 rfl dM) (by simp [Value.oneCell']) (by unfold maxLen;omega) oM oM rfl ?_;intro v' w7 m0 e0 y0;have t3:=dE e0 (λ e=>by have:=aR a0 e;omega) z0;have e4:RdR B b rest w7:=g2.keep e0.size (λ k h1=>e0.block k (by have:=g2.lt;omega) (λ e=>by have:=aR a0 e.symm;omega));have x0:Grow w w7:=Grow.mk (aL e0 oM (λ k hk=>by have:=aR a0 hk;omega) (gR u0 oM (gR j2 oM hh.g)).1);have s3:Carry (λ k=>bk+1≤k∧v.ownBlock≠some k) w2 (λ k=>bk+1≤k∧v'.ownBlock≠some k) w7:=(Carry.but u0 (λ k hk _=>by omega)).trans (y0 (λ k=>bk+1≤k));have u1:Carry (λ k=>bk+1≤k∧v.ownBlock≠some k) wT (λ k=>bk+1≤k∧v'.ownBlock≠some k) w7:=y0 (λ k=>bk+1≤k);have t0:=f0.go ((Carry.but j2 (λ k hk _=>by omega)).trans s3);have g6:=f6.go ((Carry.mono (λ k hk _=>⟨oM,λ e=>by have:=aR k0 e;omega⟩)).trans s3);have y4:=m1.go ((Carry.mono (λ k hk _=>⟨oM,λ e=>by have:=aR k0 e;omega⟩)).trans u1);have p5:=e0.size;have k4:RdH w w7 B b bk l0 ha hc 0 nd.items.length:=hh.go oM x0 q2 (λ k h1 h2=>(e0.block k oM (λ e=>by have:=aR a0 e.symm;omega)).trans ((u0.block k oM h2).trans (j2.block k oM h2))) q3;obtain ⟨f3,d3,rfl,z3⟩:=aM m0;clear y0 s3 u1 j0 s2 z0 g2 q0 d4 m4 v4 hh;repeat (first|refine aF ?_|refine yJ λ w' hu j0 y3=>?_)
     have k5:Carry (λ k=>bk+1≤k∧(Value.slice f3 (i+1) d3).ownBlock≠some k) w7 (λ k=>bk+1≤k∧(Value.slice f3 (i+1) d3).ownBlock≠some k) w':=Carry.upd hu (λ k hk _=>by omega);have hz:=hu.size;refine aE (.slice f3 (i+1) d3,i+1) ⟨rfl,rfl,rfl,rfl,rfl,trivial⟩ ⟨x1,cells++[.slice ka y.1.length kc,.slice va y.2.length vc],j0,fZ m0 hu oM,?_,?_,?_,k4.go oM (aH hu oM x0) q2 (λ k h1 h2=>hu.block k oM) q3⟩ (by simp only;omega)
     ·simp only;rw [dZ hy];exact (t0.append (show ItCells _ _ [_,_] [y] from ⟨⟨_,_,_,rfl,g6⟩,⟨_,_,_,rfl,y4⟩,trivial⟩)).go k5
     ·simp only;rw [← g0];exact e4.keep oM (λ k h1=>hu.block k oM)
     ·simp only;rw [← g0];rw [List.length_append] at s0;omega
  | false =>
   have e1:=x2 hlf;rw [n0,e1] at d2;simp only [List.cons_append,List.cons.injEq] at d2;obtain ⟨rfl,rfl,rfl⟩:=d2;have f5:nd.kids≠[]:=λ e=>by rw [bL.2 e] at hlf;cases hlf
   have i6:nd.items=[]:=by
    have h1:=ok.no;have h2:0<nd.kids.length:=List.length_pos_iff.2 f5;exact List.eq_nil_of_length_eq_zero (h1 h2)
   ·repeat refine aF ?_
    refine aX (S:=Value×Nat) (λ s=>[(7,.int .i64 (s.2:Int)),(6,.pointer (some ⟨bk,0,none⟩)),(5,.slice ha 2 hc),(4,.pointer (some ⟨b,0,none⟩)),(2,.pointer (some ⟨l0,0,none⟩))])
     (λ s w1=>s.2≤nd.kids.length∧Blk w1 bk 79 [.slice none 0 0,s.1,.slice none 0 0]∧w1.ownsRow (bk+1) 3 1 s.1 s.2 (bC (nd.kids.take s.2))∧RdR B b (((nd.kids.drop s.2).flatMap bP)++(nd.keys.flatMap bS++List.replicate z 0)) w1∧(((nd.kids.drop s.2).flatMap bP)++(nd.keys.flatMap bS++List.replicate z 0)).length≤100000∧RdH w w1 B b bk l0 ha hc 1 nd.kids.length)
     (λ s=>nd.kids.length-s.2) (.slice none 0 0,0) ⟨rfl,rfl,rfl,rfl,rfl,trivial⟩ ⟨Nat.zero_le _,r2,lF,by simpa using f4,by rw [n0] at hl;simp only [List.length_cons] at hl;simp only [List.drop_zero];simp only [List.append_assoc] at hl;omega,l4⟩ ?_
    clear r2 f4 l4;rintro ⟨v,i⟩ w1 ⟨hi,j0,k0,q0,i0,hh⟩;simp only at hi j0 k0 q0 i0;refine bD (e':=[(7,.int .i64 (i:Int)),(6,.pointer (some ⟨bk,0,none⟩)),(5,.slice ha 2 hc),(4,.pointer (some ⟨b,0,none⟩)),(2,.pointer (some ⟨l0,0,none⟩))]) ?_ ⟨rfl,rfl,rfl,rfl,rfl,trivial⟩;have h4:=j0.lt;have m4:=hh.c0;have v4:=hh.c1;by_cases x1:i<nd.kids.length;rotate_left
    ·obtain rfl:i=nd.kids.length:=by omega
     repeat (first|(refine aI ?_;refine aC (j:=1) rfl rfl rfl oM (Nat.mul_one _) ⟨_,_,hh.hd⟩ rfl ?_)|refine yC ?_)
     obtain ⟨va,vc,rfl,w3⟩:=aM k0;rw [List.take_length] at w3;rw [List.drop_length] at q0;exact ⟨none,0,0,va,_,vc,⟨rfl,rfl,rfl,rfl,trivial⟩,h4,j0,by rw [i6];exact ⟨[],Sl.nil_mk _ _ _,trivial⟩,w3.mono λ k hk=>hk.1,q0,hh⟩
    obtain ⟨y,hy⟩:∃ y,nd.kids[i]? = some y:=⟨_,List.getElem?_eq_getElem x1⟩
    have o6:=ok.kd i y hy
    have hd:(nd.kids.drop i).flatMap bP++(nd.keys.flatMap bS++List.replicate z 0)=bP y++((nd.kids.drop (i+1)).flatMap bP++(nd.keys.flatMap bS++List.replicate z 0)):=by
     rw [iE hy];simp
    rw [hd] at q0 i0;obtain ⟨rest,g0⟩:∃ r,r=(nd.kids.drop (i+1)).flatMap bP++(nd.keys.flatMap bS++List.replicate z 0):=⟨_,rfl⟩
    rw [← g0] at q0 i0;have s0:rest.length≤100000:=by rw [List.length_append] at i0;omega
    repeat (first|(refine aI ?_;first|refine aC (j:=0) rfl rfl rfl oM (Nat.mul_one _) ⟨_,_,hh.hd⟩ rfl ?_|refine aC (j:=1) rfl rfl rfl oM (Nat.mul_one _) ⟨_,_,hh.hd⟩ rfl ?_)|refine yC ?_)
    apply mX (Mut b) 6 3 (λ w=>RdR B b (bP y++rest) w∧But b w1 w) (λ w=>RdR B b rest w∧But b w1 w) (λ w=>But b w1 w)
     [gY _,gY _,gY _,gY (.int .u64 (y:Int)),gY (.int .i64 (y:Int)),
      ofA (λ u w=>∃ bb,u=.slice (some ⟨bb,0,none⟩) 1 1∧w1.heap.size≤bb∧Blk w bb 3 [.int .i64 (y:Int)]) (by rintro u w w' g ⟨bb,h1,h0,h2⟩;exact ⟨bb,h1,h0,h2.grow g⟩)]
    ·kernel_rfl
    ·exact ⟨q0,But.refl _ _⟩
    ·exact λ _ h=>h.2
    ·exact λ _ h=>h.2
    ·exact λ _ h=>h.size
    ·exact λ _ _ h g=>⟨h.1.grow g,gE g h.2⟩
    ·exact λ _ _ h g=>⟨h.1.grow g,gE g h.2⟩
    ·exact λ _ _ h=>h.size
    ·repeat' (first|exact iO|refine gT ?_ ?_)
     iterate 3
      ·refine cZ rfl rfl rfl rfl ?_;intro wq _ _ o0;have u5:=cG o0 j0 oM;(refine yU ?_)
       repeat refine aF ?_
       exact bQ rfl (Grow.refl _) rfl
     ·refine iN rfl rfl rfl rfl ?_;intro wq _ _ o0;(refine yU ?_)
      refine aA rfl (rdword_c o0.1 oM i0) rfl ?_;rintro _ w5 ⟨rfl,f2,j3⟩;repeat refine aF ?_
      exact bQ rfl ⟨j3,f2,but_but (dN j3) o0.2⟩ rfl
     ·refine cZ rfl rfl rfl rfl ?_;intro wq _ _ o0;(refine yU ?_)
      repeat refine aF ?_
      exact bQ rfl (Grow.refl _) rfl
     ·refine cZ rfl rfl rfl rfl ?_;intro wq _ _ o0;(refine yU ?_)
      have:=o0.size;refine TL.buildSlice rfl rfl rfl rfl rfl ?_;intro bb w6 u2 p4 c4 b4 a4;repeat refine aF ?_
      exact bQ rfl u2 ⟨bb,rfl,oM,p4⟩
    ·rintro wT lo hi ⟨g2,u0⟩ _ _;(((repeat (refine needA_cons rfl rfl ?_;intro vq v0;try (obtain rfl:=Eq.symm v0)));(refine needA_nil ?_)))
     obtain ⟨bb,rfl,o4,x2⟩:=v0;have a0:=mK k0 u0 oM;have z0:=cG u0 j0 oM;have n5:=u0.size;refine dO rfl rfl a0 (aU (sz:=1) (m:=1) x2 rfl dM) (by simp [Value.oneCell']) (by unfold maxLen;omega) oM oM rfl ?_;intro v' w7 m0 e0 y0;have t3:=dE e0 (λ e=>by have:=aR a0 e;omega) z0;have e4:RdR B b rest w7:=g2.keep e0.size (λ k h1=>e0.block k (by have:=g2.lt;omega) (λ e=>by have:=aR a0 e.symm;omega));have x0:Grow w w7:=Grow.mk (aL e0 oM (λ k hk=>by have:=aR a0 hk;omega) (gR u0 oM hh.g).1);have p5:=e0.size;have k4:RdH w w7 B b bk l0 ha hc 1 nd.kids.length:=hh.go oM x0 q2 (λ k h1 h2=>(e0.block k oM (λ e=>by have:=aR a0 e.symm;omega)).trans (u0.block k oM h2)) q3;obtain ⟨f3,d3,rfl,z3⟩:=aM m0;clear y0 j0 z0 g2 q0 m4 v4 hh;repeat (first|refine aF ?_|refine yJ λ w' hu j0 y3=>?_)
     have hz:=hu.size;refine aE (.slice f3 (i+1) d3,i+1) ⟨rfl,rfl,rfl,rfl,rfl,trivial⟩ ⟨x1,j0,?_,?_,?_,k4.go oM (aH hu oM x0) q2 (λ k h1 h2=>hu.block k oM) q3⟩ (by simp only;omega)
     ·simp only;rw [dZ hy];have:=fZ m0 hu oM;simpa [bC] using this
     ·simp only;rw [← g0];exact e4.keep oM (λ k h1=>hu.block k oM)
     ·simp only;rw [← g0];exact s0
 rintro e w5 ⟨a1,n1,c1,a2,n2,c2,p0,z5,u3,j1,g1,c5,g5⟩;refine bD (e':=[(6,_),(5,_),(4,_),(2,_)]) ?_ p0;clear p0 r2 f4 l4;have f5:=bR g1;have o5:=ok.n3;have o2:=ok.n2;have r6:=j1.len;have o1:=ok.n1
 have t5:(nd.keys.flatMap bS++List.replicate z 0).length≤100000:=by
  cases hlf:bN nd with
  | true =>
   have x3:=bL.1 hlf
   have r3:nd.keys=[]:=by
    rw [x3] at o5;exact List.eq_nil_of_length_eq_zero o5
   have e1:=x4 hlf;rw [d2,e1] at hl;rw [r3];simp only [List.length_append,List.length_cons,List.flatMap_nil,List.length_nil] at hl ⊢;omega
  | false =>
   have e1:=x2 hlf;rw [d2,e1] at hl;simp only [List.length_append,List.length_cons] at hl ⊢;omega
 refine dU 1 (λ e w6=>∃ (a3:Option Addr) (n3 c3:Nat),Sub [(6,.pointer (some ⟨bk,0,none⟩)),(5,.slice ha 2 hc),(4,.pointer (some ⟨b,0,none⟩)),(2,.pointer (some ⟨l0,0,none⟩))] e∧bk<w6.heap.size∧Blk w6 bk 79 [.slice a1 n1 c1,.slice a2 n2 c2,.slice a3 n3 c3]∧NdAt (λ k=>bk+1≤k) w6 ⟨a1,n1,c1,a2,n2,c2,a3,n3,c3⟩ nd∧RdR B b (List.replicate z 0) w6∧RdH w w6 B b bk l0 ha hc kd cnt) ?_ ?_;rotate_left
 ·repeat refine aF ?_
  obtain ⟨H,hH⟩:∃ H,w5.heap.size=H:=⟨_,rfl⟩
  have u6:bk+1≤H:=by omega
  have s1:ItsAt (λ k=>bk+1≤k∧k<H) w5 a1 n1 c1 nd.items:=j1.go (Carry.mono λ k hk s5=>⟨hk,oM⟩);have r1:Sl (λ k=>bk+1≤k∧k<H) w5 1 a2 n2 c2 (bC nd.kids):=g1.tight.mono (λ k hk=>⟨hk.1,oM⟩)
  refine aX (S:=Value×Nat) (λ s=>[(9,.int .i64 ((s.2+1:Nat):Int)),(6,.pointer (some ⟨bk,0,none⟩)),(5,.slice ha 2 hc),(4,.pointer (some ⟨b,0,none⟩)),(2,.pointer (some ⟨l0,0,none⟩))])
   (λ s w1=>s.2≤nd.keys.length∧H≤w1.heap.size∧∃ (cells:List Value),Blk w1 bk 79 [.slice a1 n1 c1,.slice a2 n2 c2,s.1]∧ItsAt (λ k=>bk+1≤k∧k<H) w1 a1 n1 c1 nd.items∧Sl (λ k=>bk+1≤k∧k<H) w1 1 a2 n2 c2 (bC nd.kids)∧w1.ownsRow H 30 1 s.1 s.2 cells∧KyCells (λ k=>H≤k∧s.1.ownBlock≠some k) w1 cells (nd.keys.take s.2)∧RdR B b ((nd.keys.drop s.2).flatMap bS++List.replicate z 0) w1∧((nd.keys.drop s.2).flatMap bS++List.replicate z 0).length≤100000∧RdH w w1 B b bk l0 ha hc kd cnt)
   (λ s=>nd.keys.length-s.2) (.slice none 0 0,0) ⟨rfl,rfl,rfl,rfl,rfl,trivial⟩ ⟨Nat.zero_le _,oM,[],u3,s1,r1,lF,trivial,c5,t5,g5⟩ ?_
  clear u3 c5 g5 s1 r1 j1 g1 z5 hH;rintro ⟨v,i⟩ w1 ⟨hi,x6,cells,j0,s1,r1,k0,f0,q0,i0,hh⟩;simp only at hi j0 k0 f0 q0 i0;refine bD (e':=[(9,.int .i64 ((i+1:Nat):Int)),(6,.pointer (some ⟨bk,0,none⟩)),(5,.slice ha 2 hc),(4,.pointer (some ⟨b,0,none⟩)),(2,.pointer (some ⟨l0,0,none⟩))]) ?_ ⟨rfl,rfl,rfl,rfl,rfl,trivial⟩;have h4:=j0.lt;by_cases x1:i<nd.keys.length;rotate_left
  ·obtain rfl:i=nd.keys.length:=by omega
   repeat refine aF ?_
   obtain ⟨va,vc,rfl,w3⟩:=aM k0;rw [List.take_length] at f0;rw [List.drop_length] at q0;exact ⟨va,_,vc,⟨rfl,rfl,rfl,rfl,trivial⟩,h4,j0,⟨s1.go (Carry.mono λ k hk _=>hk.1),r1.mono λ k hk=>hk.1,⟨cells,w3.mono λ k hk=>by have:=hk.1;omega,f0.go (Carry.mono λ k hk _=>by have:=hk.1;omega)⟩⟩,q0,hh⟩
  obtain ⟨y,hy⟩:∃ y,nd.keys[i]? = some y:=⟨_,List.getElem?_eq_getElem x1⟩
  have x5:=(eK (ok.ky i y hy)).2
  have hd:(nd.keys.drop i).flatMap bS++List.replicate z 0=bS y++((nd.keys.drop (i+1)).flatMap bS++List.replicate z 0):=by
   rw [iE hy];simp
  rw [hd] at q0 i0;obtain ⟨f1,g0⟩:∃ r,r=(nd.keys.drop (i+1)).flatMap bS++List.replicate z 0:=⟨_,rfl⟩
  rw [← g0] at q0 i0;have s0:f1.length≤100000:=by rw [List.length_append] at i0;omega
  repeat refine aF ?_
  apply mX (Mut b) 5 3 (λ w=>RdR B b (bS y++f1) w∧But b w1 w) (λ w=>RdR B b f1 w∧But b w1 w) (λ w=>But b w1 w)
   [gY _,gY _,gY _,ofA (λ u w=>∃ a c,u=.slice a y.length c∧Sl (λ k=>w1.heap.size≤k) w 1 a y.length c (bB y)) (by rintro u w w' g ⟨a,c,h1,h2⟩;exact ⟨a,c,h1,h2.grow g⟩),
    ofA (λ u w=>∃ bb a c,u=.slice (some ⟨bb,0,none⟩) 1 1∧w1.heap.size≤bb∧Blk w bb 30 [.slice a y.length c]∧Sl (λ k=>w1.heap.size≤k) w 1 a y.length c (bB y)) (by rintro u w w' g ⟨bb,a,c,h1,h0,h2,h3⟩;exact ⟨bb,a,c,h1,h0,h2.grow g,h3.grow g⟩)]
  ·kernel_rfl
  ·exact ⟨q0,But.refl _ _⟩
  ·exact λ _ h=>h.2
  ·exact λ _ h=>h.2
  ·exact λ _ h=>h.size
  ·exact λ _ _ h g=>⟨h.1.grow g,gE g h.2⟩
  ·exact λ _ _ h g=>⟨h.1.grow g,gE g h.2⟩
  ·exact λ _ _ h=>h.size
  ·repeat' (first|exact iO|refine gT ?_ ?_)
   iterate 3
    ·refine cZ rfl rfl rfl rfl ?_;intro wq _ _ o0;have u5:=cG o0 j0 oM;(refine yU ?_)
     repeat refine aF ?_
     exact bQ rfl (Grow.refl _) rfl
   ·refine iN rfl rfl rfl rfl ?_;intro wq _ _ o0;(refine yU ?_)
    refine aA rfl (rdblock_c o0.1 oM i0) rfl ?_;rintro _ w5 ⟨va,vc,rfl,m1,f2,j3⟩;repeat refine aF ?_
    have:=o0.2.size;exact bQ rfl ⟨j3,f2,but_but (dN j3) o0.2⟩ ⟨va,vc,rfl,m1.mono λ k hk=>by omega⟩
   ·refine cZ rfl rfl rfl rfl ?_;intro wq _ _ o0;(((repeat (refine needA_cons rfl rfl ?_;intro vq v0;try (obtain rfl:=Eq.symm v0)));(refine needA_nil ?_)))
    obtain ⟨va,vc,rfl,m1⟩:=v0;have:=o0.size;refine TL.buildSlice rfl rfl rfl rfl rfl ?_;intro bb w6 u2 p4 c4 b4 a4;repeat refine aF ?_
    exact bQ rfl u2 ⟨bb,va,vc,rfl,oM,p4,m1.grow u2⟩
  ·rintro wT lo hi ⟨g2,u0⟩ _ _;(((repeat (refine needA_cons rfl rfl ?_;intro vq v0;try (obtain rfl:=Eq.symm v0)));(refine needA_nil ?_)))
   obtain ⟨bb,va,vc,rfl,o4,x2,m1⟩:=v0;have a0:=mK k0 u0 oM;have z0:=cG u0 j0 oM;have n5:=u0.size;refine dO rfl rfl a0 (aU (sz:=1) (m:=1) x2 rfl dM) (by simp [Value.oneCell']) (by unfold maxLen;omega) oM oM rfl ?_;intro v' w7 m0 e0 y0;have t3:=dE e0 (λ e=>by have:=aR a0 e;omega) z0;have e4:RdR B b f1 w7:=g2.keep e0.size (λ k h1=>e0.block k (by have:=g2.lt;omega) (λ e=>by have:=aR a0 e.symm;omega));have x0:Grow w w7:=Grow.mk (aL e0 oM (λ k hk=>by have:=aR a0 hk;omega) (gR u0 oM hh.g).1);have u1:Carry (λ k=>H≤k∧v.ownBlock≠some k) wT (λ k=>H≤k∧v'.ownBlock≠some k) w7:=y0 (λ k=>H≤k);have t0:=f0.go ((Carry.but u0 (λ k hk _=>by omega)).trans u1);have y4:=m1.go ((Carry.mono (λ k hk _=>⟨oM,λ e=>by have:=aR k0 e;omega⟩)).trans u1);have p5:=e0.size;have e2:∀ k,k<w1.heap.size→k<H→k≠b→w7.heap[k]? = w1.heap[k]?:=λ k h0 h1 h2=>(e0.block k oM (λ e=>by have:=aR a0 e.symm;omega)).trans (u0.block k oM h2);have k4:RdH w w7 B b bk l0 ha hc kd cnt:=hh.go oM x0 q2 (λ k h1 h2=>e2 k oM oM h2) q3;have cH:Carry (λ k=>bk+1≤k∧k<H) w1 (λ k=>bk+1≤k∧k<H) w7:=⟨oM,λ k hk s5=>⟨hk,e2 k s5 hk.2 oM⟩⟩
   have j4:=s1.go cH;have i4:=r1.go cH;obtain ⟨f3,d3,rfl,z3⟩:=aM m0;clear y0 u1 j0 z0 g2 q0 hh s1 r1 cH e2;repeat (first|refine aF ?_|refine yJ λ w' hu j0 y3=>?_)
   have k5:Carry (λ k=>H≤k∧(Value.slice f3 (i+1) d3).ownBlock≠some k) w7 (λ k=>H≤k∧(Value.slice f3 (i+1) d3).ownBlock≠some k) w':=Carry.upd hu (λ k hk _=>by omega);have cu:Carry (λ k=>bk+1≤k∧k<H) w7 (λ k=>bk+1≤k∧k<H) w':=Carry.upd hu (λ k hk _=>by omega);have hz:=hu.size;refine aE (.slice f3 (i+1) d3,i+1) ⟨rfl,rfl,rfl,rfl,rfl,trivial⟩ ⟨x1,oM,cells++[.slice va y.length vc],j0,j4.go cu,i4.go cu,fZ m0 hu oM,?_,?_,?_,k4.go oM (aH hu oM x0) q2 (λ k h1 h2=>hu.block k oM) q3⟩ (by simp only;omega)
   ·simp only;rw [dZ hy];exact (t0.append (show KyCells _ _ [_] [y] from ⟨⟨_,_,_,rfl,y4⟩,trivial⟩)).go k5
   ·simp only;rw [← g0];exact e4.keep oM (λ k h1=>hu.block k oM)
   ·simp only;rw [← g0];exact s0
 rintro e w6 ⟨a3,n3,c3,p0,z6,n4,g3,a5,m3⟩;refine bD (e':=[(6,_),(5,_),(4,_),(2,_)]) ?_ p0;clear p0 u3 j1 g1 c5 g5 z5;have m4:=m3.c0;have u2:=m3.g;have r4:=m3.b2;obtain ⟨ra,rc,s4,o3⟩:=id a5;have a6:=a5.lt;have m5:(List.replicate z 0:Bs).length=z:=List.length_replicate;rw [m5] at s4 o3
 have n6:z≤100000:=by
  rw [List.length_append,m5] at t5;omega
 refine dU 1 (λ e w7=>Sub [(6,.pointer (some ⟨bk,0,none⟩)),(5,.slice ha 2 hc),(4,.pointer (some ⟨b,0,none⟩)),(2,.pointer (some ⟨l0,0,none⟩))] e∧Grow w6 w7) ?_ ?_;rotate_left
 ·cases hlf:bN nd with
  | true =>
   have x3:kd=0:=by
    have e1:=x4 hlf;rw [d2,e1] at n0;simp only [List.cons_append,List.cons.injEq] at n0;exact n0.1.symm
   subst x3;repeat (first|(refine aB 164 ?_;refine aA rfl (rcheck_c _ ⟨a1,n1,c1,a2,n2,c2,a3,n3,c3⟩ nd _ g3 t4) rfl ?_;rintro _ _ ⟨rfl,k6⟩)|(refine aI ?_;refine aC (j:=0) rfl rfl rfl oM (Nat.mul_one _) ⟨_,_,m3.hd.grow (by assumption)⟩ rfl ?_)|(refine aQ ?_;refine aS rfl ((m3.hd.grow (by assumption)).row.cell (show (bB [0,cnt])[0]? = some (.int .u8 0) from rfl)) rfl ?_)|refine yC ?_)
   exact ⟨⟨rfl,rfl,rfl,rfl,trivial⟩,by assumption⟩
  | false =>
   have h6:kd=1:=by
    have e1:=x2 hlf;rw [d2,e1] at n0;simp only [List.cons_append,List.cons.injEq] at n0;exact n0.1.symm
   subst h6
   have d6:n2≠0:=by
    rw [f5];intro e;rw [bL.2 (List.eq_nil_of_length_eq_zero e)] at hlf;cases hlf
   repeat (first|(refine aB 164 ?_;refine aA rfl (rcheck_c _ ⟨a1,n1,c1,a2,n2,c2,a3,n3,c3⟩ nd _ g3 t4) rfl ?_;rintro _ _ ⟨rfl,k6⟩)|(refine aI ?_;refine aC (j:=0) rfl rfl rfl oM (Nat.mul_one _) ⟨_,_,m3.hd.grow (by assumption)⟩ rfl ?_)|(refine aQ ?_;refine aS rfl ((m3.hd.grow (by assumption)).row.cell (show (bB [1,cnt])[0]? = some (.int .u8 1) from rfl)) rfl ?_)|refine yC ?_)
   exact ⟨⟨rfl,rfl,rfl,rfl,trivial⟩,by assumption⟩
 rintro e w7 ⟨p0,x0⟩;refine bD (e':=[(6,_),(5,_),(4,_),(2,_)]) ?_ p0;clear p0;have t3:=n4.grow x0;have m6:=r4.grow x0;have c6:=s4.grow x0;have i3:=o3.grow x0;have d5:=g3.go (Carry.grow x0);have h5:=u2.trans x0;have z7:=x0.size;clear n4 r4 s4 o3 g3 u2 x0 a5 m3;repeat refine aF ?_
 refine aX (S:=Nat) (λ i=>[(10,.int .i64 (i:Int)),(6,.pointer (some ⟨bk,0,none⟩)),(4,.pointer (some ⟨b,0,none⟩)),(2,.pointer (some ⟨l0,0,none⟩))]) (λ i w'=>i≤z∧w7=w') (λ i=>z-i) 0 ⟨rfl,rfl,rfl,rfl,trivial⟩ ⟨Nat.zero_le _,rfl⟩ ?_;rintro i _ ⟨hi,rfl⟩;by_cases x1:i<z
 ·have t6:w7.cell? (at' ra i)=some (.int .u8 0):=i3.row.cell (by
   have:(List.replicate z 0:Bs)[i]? = some 0:=by simp [x1]
   exact bys_at this)
  repeat (first|(refine aI ?_;refine aC (j:=i) rfl rfl rfl x1 (Nat.mul_one _) ⟨_,_,i3⟩ rfl ?_)|refine yC ?_)
  exact aE (i+1) ⟨rfl,rfl,rfl,rfl,trivial⟩ ⟨x1,rfl⟩ oM
 obtain rfl:i=z:=by omega
 repeat (first|refine aF ?_|refine yJ λ w' hu j0 y3=>?_)
 refine fL rfl (aW j0 rfl) rfl ⟨_,rfl,⟨a1,n1,c1,a2,n2,c2,a3,n3,c3⟩,rfl,(d5.go (Carry.upd hu (λ k hk _=>by omega))).go (Carry.mono λ k hk _=>by omega),aH hu oM h5⟩
theorem lH {p:Bs} (h:p.length<128):(bS p).length=p.length+1:=by rw [blkB_small h];rfl
theorem its_len_le {l:bT} (h:∀ (i:Nat) (y:Bs×Bs),l[i]? = some y→dW y.1=true∧eR y.2=true):∀ i,((l.take i).flatMap λ x:Bs×Bs=>bS x.1++bS x.2).length≤50*i
 | 0=>by simp
 | i+1=>by
  have ih:=its_len_le h i
  cases hy:l[i]? with
  | none=>rw [List.take_of_length_le (by have:=List.getElem?_eq_none_iff.1 hy;omega)];rw [List.take_of_length_le (by have:=List.getElem?_eq_none_iff.1 hy;omega)] at ih;omega
  | some y =>
   obtain ⟨h1,h2⟩:=h i y hy;have h3:=(eK h1).2;have h4:=iD h2;rw [dZ hy,List.flatMap_append,List.length_append];simp only [List.flatMap_cons,List.flatMap_nil,List.append_nil,List.length_append];rw [lH oM,lH oM];omega
theorem kys_len_le {l:List Bs} (h:∀ (i:Nat) (y:Bs),l[i]? = some y→dW y=true):∀ i,((l.take i).flatMap bS).length≤50*i
 | 0=>by simp
 | i+1=>by
  have ih:=kys_len_le h i
  cases hy:l[i]? with
  | none=>rw [List.take_of_length_le (by have:=List.getElem?_eq_none_iff.1 hy;omega)];rw [List.take_of_length_le (by have:=List.getElem?_eq_none_iff.1 hy;omega)] at ih;omega
  | some y =>
   have h3:=(eK (h i y hy)).2;rw [dZ hy,List.flatMap_append,List.length_append];simp only [List.flatMap_cons,List.flatMap_nil,List.append_nil];rw [lH oM];omega
theorem kds_len (l:List Nat) (i:Nat):((l.take i).flatMap bP).length=4*(l.take i).length:=by
 generalize l.take i=m
 induction m with
 | nil=>rfl
 | cons a r ih=>simp only [List.flatMap_cons,List.length_append,List.length_cons,ih,lG];omega
theorem rbytesN_c (F:Nat→Prop) (x:NV) (nd:Nd) (w:World) (h:NdAt F w x nd) (w1:bF nd=true) :
  Calls Tryz.prog 165 #[x.val] w (Ret λ v w'=>∃ u,v=.tuple #[u,.int .i64 0]∧w'.ownsRow w.heap.size 5 1 u (dC nd).length (bB (dC nd))∧Grow w w'):=by
 have ok:=ndOk w1;obtain ⟨u2,x2⟩:=bytesN_len w1;have y1:=h.its.len;have f1:=bR h.kids;have e2:=h.kys.len;obtain ⟨cs,hs,t0⟩:=h.its.at';obtain ⟨ds,r1,l0⟩:=h.kys.at';have u1:=h.kids;have s0:=λ w' (g:Grow w w')=>rcheck_c F x nd w' (h.go (Carry.grow g)) w1;obtain ⟨a1,n1,c1,a2,n2,c2,a3,n3,c3⟩:=x;simp only at y1 f1 e2 hs r1 u1 t0 l0;show Calls Tryz.prog 165 #[.agg #[.slice a1 n1 c1,.slice a2 n2 c2,.slice a3 n3 c3]] w _;replace s0:∀ w',Grow w w'→Calls Tryz.prog 164 #[.agg #[.slice a1 n1 c1,.slice a2 n2 c2,.slice a3 n3 c3]] w' (Ret λ v h2=>v=.int .i64 0∧Grow w' h2):=s0;have o1:=ok.n1;have o2:=ok.n2;have o5:=ok.n3;rw [← y1] at o1;rw [← f1] at o2 o5;rw [← e2] at o5;refine V.calls (args:=[_]) Tryz.func165 rfl Tryz.ntmps165 rfl rfl ?_
 cases hlf:bN nd with
 | true =>
  have f3:n2=0:=by rw [f1,bL.1 hlf];rfl
  rw [u2 hlf];rw [← y1];repeat (first|(refine aB 164 ?_;refine aA rfl (s0 _ yG) rfl ?_;rintro _ _ ⟨rfl,h1⟩)|(refine aB 114 ?_;refine aA rfl (rleaf_c ⟨a1,n1,c1,a2,n2,c2,a3,n3,c3⟩ true _ (by simp only;rw [f3];rfl)) rfl ?_;rintro _ _ ⟨rfl,h1⟩)|refine yC ?_|refine yI λ bk w' hg d2 q2 q1=>?_)
  rename_i wz;have n0:Blk wz bk 79 [.slice a1 n1 c1,.slice a2 n2 c2,.slice a3 n3 c3]:=by exact yB
  have v0:Grow w wz:=by exact yG
  have z0:=v0.size;refine TL.buildSlice rfl rfl rfl rfl rfl ?_;intro b w3 x0 m1 e3 e4 e5;have h0:w3.ownsRow w.heap.size 5 1 (.slice (some ⟨b,0,none⟩) 2 2) 2 (bB [0,n1]):=own_lit m1 oM rfl dM;have k0:=v0.trans x0;have m0:=n0.grow x0;clear h1 d2 n0 x0 m1 v0;repeat refine aF ?_
  refine aX (S:=Value×Nat) (λ s=>[(5,.int .i64 (s.2:Int)),(4,s.1),(1,.pointer (some ⟨bk,0,none⟩))]) (λ s w2=>s.2≤n1∧w2.ownsRow w.heap.size 5 1 s.1 (0::n1::(nd.items.take s.2).flatMap λ x:Bs×Bs=>bS x.1++bS x.2).length (bB (0::n1::(nd.items.take s.2).flatMap λ x:Bs×Bs=>bS x.1++bS x.2))∧Blk w2 bk 79 [.slice a1 n1 c1,.slice a2 n2 c2,.slice a3 n3 c3]∧Grow w w2) (λ s=>n1-s.2) (.slice (some ⟨b,0,none⟩) 2 2,0) ⟨rfl,rfl,rfl,trivial⟩ ⟨Nat.zero_le _,h0,m0,k0⟩ ?_;clear h0 m0 k0;rintro ⟨u,i⟩ w2 ⟨hi,a0,g0,e0⟩;simp only at hi a0;have u0:=its_len_le ok.it i;have z2:=e0.size;have j1:=g0.lt;by_cases q0:i<n1;rotate_left
  ·obtain rfl:i=n1:=by omega
   rw [List.take_of_length_le oM] at a0;repeat refine aF ?_
   exact fJ rfl rfl ⟨_,rfl,u,rfl,a0,e0⟩
  obtain ⟨y,hy⟩:∃ y,nd.items[i]? = some y:=⟨_,List.getElem?_eq_getElem oM⟩
  obtain ⟨ka,kc,va,vc,g1,g2,s1,s2⟩:=t0 i y hy;obtain ⟨k1,k2⟩:=ok.it i y hy;have j2:=(eK k1).2;have i3:=iD k2;have h3:=lH (p:=y.1) oM;have e6:(nd.items.take (i+1)).flatMap (λ x:Bs×Bs=>bS x.1++bS x.2)=(nd.items.take i).flatMap (λ x:Bs×Bs=>bS x.1++bS x.2)++bS y.1++bS y.2:=by rw [dZ hy];simp
  obtain ⟨Lx,p0⟩:∃ Lx,Lx=0::n1::(nd.items.take i).flatMap λ x:Bs×Bs=>bS x.1++bS x.2:=⟨_,rfl⟩
  have e7:(0::n1::(nd.items.take (i+1)).flatMap λ x:Bs×Bs=>bS x.1++bS x.2)=Lx++bS y.1++bS y.2:=by rw [p0,e6];simp
  have d3:Lx.length≤1000:=by rw [p0];simp only [List.length_cons];omega
  rw [← p0] at a0;obtain ⟨ua,uc,rfl,e1⟩:=aM a0;repeat refine aF ?_
  apply T.any 15 [is (.slice ua Lx.length uc),is (.pointer (some ⟨bk,0,none⟩)),is (.slice a1 n1 c1),is (.int .i64 (i:Int)),is _,is _,is (.slice ka y.1.length kc),own w2.heap.size 5 1 (Lx++bS y.1).length (bB (Lx++bS y.1)),is (.pointer (some ⟨bk,0,none⟩)),is (.slice a1 n1 c1),is (.int .i64 (i:Int)),is _,is _,is (.slice va y.2.length vc),own w2.heap.size 5 1 (Lx++bS y.1++bS y.2).length (bB (Lx++bS y.1++bS y.2))]
  ·rfl
  ·repeat' (first|exact aN|refine aK ?_ ?_)
   iterate 7
    ·refine yQ λ wq _ _ i0=>?_;repeat (first|(refine aI ?_;refine aC (j:=i) rfl rfl rfl q0 rfl ⟨F,_,hs.grow (e0.trans i0)⟩ rfl ?_)|(refine bM ?_;refine bJ rfl (hs.grow (e0.trans i0)) g1 rfl ?_)|(refine aQ ?_;refine aS rfl ((hs.grow (e0.trans i0)).row.cell g1) rfl ?_)|refine yC ?_)
     exact aD rfl yG rfl
   ·refine yQ λ wq _ _ i0=>?_;have zq:=i0.size;refine aB 203 ?_;refine aA rfl (rblock_c _ F ua ka uc kc Lx y.1 _ (e1.grow i0) (s1.grow (e0.trans i0)) oM oM) rfl ?_;rintro v5 w5 ⟨f0,o0⟩;repeat refine aF ?_
    exact aD rfl yG (eB f0 zq)
   iterate 6
    ·refine yQ λ wq _ _ i0=>?_;repeat (first|(refine aI ?_;refine aC (j:=i) rfl rfl rfl q0 rfl ⟨F,_,hs.grow (e0.trans i0)⟩ rfl ?_)|(refine bM ?_;refine bJ rfl (hs.grow (e0.trans i0)) g1 rfl ?_)|(refine aQ ?_;refine aS rfl ((hs.grow (e0.trans i0)).row.cell g2) rfl ?_)|refine yC ?_)
     exact aD rfl yG rfl
   ·(((refine bW rfl rfl rfl ?_);( intro wq _ _ i0;(repeat (refine aJ rfl rfl ?_;intro vq y0;try (obtain rfl:=y0)));(refine aZ ?_))))
    have zq:=i0.size;have j0:wq.ownsRow w2.heap.size 5 1 vq (Lx++bS y.1).length (bB (Lx++bS y.1)):=y0;obtain ⟨qa,qc,rfl,r2⟩:=aM j0;refine aB 203 ?_;refine aA rfl (rblock_c _ F qa va qc vc (Lx++bS y.1) y.2 _ r2 (s2.grow (e0.trans i0)) (by rw [List.length_append];omega) oM) rfl ?_;rintro v5 w5 ⟨f0,o0⟩;repeat refine aF ?_
    exact aD rfl yG (eB f0 zq)
  intro w5 g3 k3 o0 _ _;((((repeat (refine aJ rfl rfl ?_;intro vq y0;try (obtain rfl:=y0)));(refine aZ ?_))))
  have j0:w5.ownsRow w2.heap.size 5 1 vq (Lx++bS y.1++bS y.2).length (bB (Lx++bS y.1++bS y.2)):=y0;repeat refine aF ?_
  refine aE (vq,i+1) ⟨rfl,rfl,rfl,trivial⟩ ⟨q0,?_,g0.grow o0,e0.trans o0⟩ (by simp only;omega);simp only;rw [e7];exact eB j0 z2
 | false =>
  have x1:n2≠0:=by
   rw [f1];intro e;rw [bL.2 (List.eq_nil_of_length_eq_zero e)] at hlf;cases hlf
  rw [x2 hlf];rw [← f1];repeat (first|(refine aB 164 ?_;refine aA rfl (s0 _ yG) rfl ?_;rintro _ _ ⟨rfl,h1⟩)|(refine aB 114 ?_;refine aA rfl (rleaf_c ⟨a1,n1,c1,a2,n2,c2,a3,n3,c3⟩ false _ (by simp [x1])) rfl ?_;rintro _ _ ⟨rfl,h1⟩)|refine yC ?_|refine yI λ bk w' hg d2 q2 q1=>?_)
  rename_i wz;have n0:Blk wz bk 79 [.slice a1 n1 c1,.slice a2 n2 c2,.slice a3 n3 c3]:=by exact yB
  have v0:Grow w wz:=by exact yG
  have z0:=v0.size;refine TL.buildSlice rfl rfl rfl rfl rfl ?_;intro b w3 x0 m1 e3 e4 e5;have h0:w3.ownsRow w.heap.size 5 1 (.slice (some ⟨b,0,none⟩) 2 2) 2 (bB [1,n2]):=own_lit m1 oM rfl dM;have k0:=v0.trans x0;have m0:=n0.grow x0;clear h1 d2 n0 x0 m1 v0;repeat refine aF ?_
  refine aX (S:=Value×Nat) (λ s=>[(7,.int .i64 (s.2:Int)),(6,s.1),(1,.pointer (some ⟨bk,0,none⟩))]) (λ s w2=>s.2≤n2∧w2.ownsRow w.heap.size 5 1 s.1 (1::n2::(nd.kids.take s.2).flatMap bP).length (bB (1::n2::(nd.kids.take s.2).flatMap bP))∧Blk w2 bk 79 [.slice a1 n1 c1,.slice a2 n2 c2,.slice a3 n3 c3]∧Grow w w2) (λ s=>n2-s.2) (.slice (some ⟨b,0,none⟩) 2 2,0) ⟨rfl,rfl,rfl,trivial⟩ ⟨Nat.zero_le _,h0,m0,k0⟩ ?_;clear h0 m0 k0;rintro ⟨u,i⟩ w2 ⟨hi,a0,g0,e0⟩;simp only at hi a0;have u0:=kds_len nd.kids i;have z1:(nd.kids.take i).length≤i:=by rw [List.length_take];omega
  have z2:=e0.size;have j1:=g0.lt;obtain ⟨Lx,p0⟩:∃ Lx,Lx=1::n2::(nd.kids.take i).flatMap bP:=⟨_,rfl⟩
  have d3:Lx.length≤1000:=by rw [p0];simp only [List.length_cons];omega
  by_cases q0:i<n2
  ·obtain ⟨y,hy⟩:∃ y,nd.kids[i]? = some y:=⟨_,List.getElem?_eq_getElem oM⟩
   have j3:=ok.kd i y hy;have g1:=jM hy;have e7:(1::n2::(nd.kids.take (i+1)).flatMap bP)=Lx++bP y:=by rw [p0,dZ hy];simp
   rw [← p0] at a0;obtain ⟨ua,uc,rfl,e1⟩:=aM a0;repeat (first|(refine aI ?_;refine aC (j:=i) rfl rfl rfl q0 (Nat.mul_one _) ⟨F,_,u1.grow e0⟩ rfl ?_)|(refine aQ ?_;refine aS rfl ((u1.grow e0).row.cell g1) rfl ?_)|refine yC ?_)
   refine aB 173 ?_;refine aA rfl (rword_c _ ua uc y Lx _ e1 oM oM) rfl ?_;rintro v5 w5 ⟨f0,o0⟩;repeat refine aF ?_
   refine aE (v5,i+1) ⟨rfl,rfl,rfl,trivial⟩ ⟨q0,?_,g0.grow o0,e0.trans o0⟩ (by simp only;omega);simp only;rw [e7,List.length_append,lG];exact eB f0 z2
  obtain rfl:i=n2:=by omega
  rw [List.take_of_length_le oM] at p0;rw [List.take_of_length_le oM,← p0] at a0;have e8:1::i::(nd.kids.flatMap bP++nd.keys.flatMap bS)=Lx++nd.keys.flatMap bS:=by rw [p0];simp
  rw [e8];clear u0 z1;repeat refine aF ?_
  refine aX (S:=Value×Nat) (λ s=>[(8,.int .i64 (s.2:Int)),(6,s.1),(1,.pointer (some ⟨bk,0,none⟩))]) (λ s w2=>s.2≤n3∧w2.ownsRow w.heap.size 5 1 s.1 (Lx++(nd.keys.take s.2).flatMap bS).length (bB (Lx++(nd.keys.take s.2).flatMap bS))∧Blk w2 bk 79 [.slice a1 n1 c1,.slice a2 i c2,.slice a3 n3 c3]∧Grow w w2) (λ s=>n3-s.2) (u,0) ⟨rfl,rfl,rfl,trivial⟩ ⟨Nat.zero_le _,by simpa using a0,g0,e0⟩ ?_;clear a0 g0 e0 z2 j1;rintro ⟨u,j⟩ w2 ⟨hj,a0,g0,e0⟩;simp only at hj a0;have u0:=kys_len_le ok.ky j;have z2:=e0.size;by_cases q0:j<n3
  ·obtain ⟨y,hy⟩:∃ y,nd.keys[j]? = some y:=⟨_,List.getElem?_eq_getElem oM⟩
   obtain ⟨ka,kc,g1,s1⟩:=l0 j y hy;have j2:=(eK (ok.ky j y hy)).2;have e7:Lx++(nd.keys.take (j+1)).flatMap bS=Lx++(nd.keys.take j).flatMap bS++bS y:=by rw [dZ hy];simp
   obtain ⟨Ly,f2⟩:∃ Ly,Ly=Lx++(nd.keys.take j).flatMap bS:=⟨_,rfl⟩
   have y2:Ly.length≤3000:=by rw [f2,List.length_append];omega
   rw [← f2] at a0 e7;obtain ⟨ua,uc,rfl,e1⟩:=aM a0;repeat (first|(refine aI ?_;refine aC (j:=j) rfl rfl rfl q0 (Nat.mul_one _) ⟨F,_,r1.grow e0⟩ rfl ?_)|(refine aQ ?_;refine aS rfl ((r1.grow e0).row.cell g1) rfl ?_)|refine yC ?_)
   refine aB 203 ?_;refine aA rfl (rblock_c _ F ua ka uc kc Ly y _ e1 (s1.grow e0) oM oM) rfl ?_;rintro v5 w5 ⟨f0,o0⟩;repeat refine aF ?_
   refine aE (v5,j+1) ⟨rfl,rfl,rfl,trivial⟩ ⟨q0,?_,g0.grow o0,e0.trans o0⟩ (by simp only;omega);simp only;rw [e7];exact eB f0 z2
  obtain rfl:j=n3:=by omega
  rw [List.take_of_length_le oM] at a0;repeat refine aF ?_
  exact fJ rfl rfl ⟨_,rfl,u,rfl,a0,e0⟩
theorem rfind_c (F G:Nat→Prop) (x:NV) (nd:Nd) (b:Option Addr) (m d:Nat) (key:Bs) (w:World) (h:NdAt F w x nd) (hk:Sl G w 1 b m d (bB key)) (k0:bF nd=true) (hl:bN nd=true) :
  Calls Tryz.prog 108 #[x.val,.slice b m d] w (Ret λ v w'=>v=.tuple #[.int .i64 (dP nd.items key:Int),.bool (fP nd.items key)]∧Grow w w'):=by
 have ok:=ndOk k0;have m0:=h.its.len;have l0:=bR h.kids;obtain ⟨cs,hs,a0⟩:=h.its.at';have e0:=λ w' (g:Grow w w')=>rcheck_c F x nd w' (h.go (Carry.grow g)) k0;obtain ⟨a1,n1,c1,a2,n2,c2,a3,n3,c3⟩:=x;simp only at m0 l0 hs a0;show Calls Tryz.prog 108 #[.agg #[.slice a1 n1 c1,.slice a2 n2 c2,.slice a3 n3 c3],.slice b m d] w _;replace e0:∀ w',Grow w w'→Calls Tryz.prog 164 #[.agg #[.slice a1 n1 c1,.slice a2 n2 c2,.slice a3 n3 c3]] w' (Ret λ v p0=>v=.int .i64 0∧Grow w' p0):=e0;have o1:=ok.n1;rw [← m0] at o1;have t0:n2=0:=by rw [l0,bL.1 hl];rfl
 refine V.calls (args:=[_,_]) Tryz.func108 rfl Tryz.ntmps108 rfl rfl ?_;repeat (first|(refine aB 164 ?_;refine aA rfl (e0 _ yG) rfl ?_;rintro _ _ ⟨rfl,g0⟩)|(refine aB 114 ?_;refine aA rfl (rleaf_c ⟨a1,n1,c1,a2,n2,c2,a3,n3,c3⟩ true _ (by simp only;rw [t0];rfl)) rfl ?_;rintro _ _ ⟨rfl,g0⟩)|refine yC ?_|refine yI λ bk w' hg o0 u0 q0=>?_)
 rename_i wz;have i0:Blk wz bk 79 [.slice a1 n1 c1,.slice a2 n2 c2,.slice a3 n3 c3]:=by exact yB
 have n0:Grow w wz:=by exact yG
 clear o0 hg g0;refine aX (S:=Nat) (λ i=>[(6,.int .i64 (i:Int)),(1,.slice b m d),(2,.pointer (some ⟨bk,0,none⟩))]) (λ i w1=>Blk w1 bk 79 [.slice a1 n1 c1,.slice a2 n2 c2,.slice a3 n3 c3]∧Grow w w1∧i≤n1∧∀ j y,j<i→nd.items[j]? = some y→fQ y.1 key) (λ i=>n1-i) 0 ⟨rfl,rfl,rfl,trivial⟩ ⟨i0,n0,oM,λ j y hj=>by omega⟩ ?_;clear i0 n0;rintro i w1 ⟨o0,v0,hi,f0⟩;by_cases j0:i<n1;rotate_left
 ·have he:dP nd.items key=n1:=findN_eq (λ j y hj hy=>f0 j y oM hy) (λ y hy=>by rw [List.getElem?_eq_none oM] at hy;cases hy) oM;have ht:fP nd.items key=false:=by unfold fP;rw [he,List.getElem?_eq_none oM]
  obtain rfl:i=n1:=by omega
  rw [he,ht];repeat refine aF ?_
  exact fJ rfl rfl ⟨_,rfl,rfl,yG⟩
 obtain ⟨y,hy⟩:∃ y,nd.items[i]? = some y:=⟨_,List.getElem?_eq_getElem oM⟩
 obtain ⟨ka,kc,va,vc,g1,g2,s1,s2⟩:=a0 i y hy;by_cases hc:bY y.1 key<0
 ·repeat (first|(refine aI ?_;refine aC (j:=i) rfl rfl rfl j0 rfl ⟨F,_,hs.grow yG⟩ rfl ?_)|(refine bM ?_;refine bJ rfl (hs.grow yG) g1 rfl ?_)|(refine aQ ?_;refine aS rfl ((hs.grow yG).row.cell g1) rfl ?_)|(refine aB 140 ?_;refine aA rfl (fA _ _ _ _ _ _ _ _ _ _ _ (s1.grow yG) (hk.grow yG)) rfl ?_;rintro _ _ ⟨rfl,g0⟩)|refine yC ?_)
  exact aE (i+1) ⟨rfl,rfl,rfl,trivial⟩ ⟨yB,yG,oM,λ j z hj hz=>by
   by_cases s0:j=i
   ·subst s0;rw [hy] at hz;cases hz;exact hc
   ·exact f0 j z oM hz⟩ oM
 ·have he:dP nd.items key=i:=findN_eq f0 (λ z hz=>by rw [hy] at hz;cases hz;exact hc) oM;have ht:fP nd.items key=decide (bY y.1 key=0):=by unfold fP;rw [he,hy]
  rw [he,ht];by_cases h0:bY y.1 key=0
  ·rw [decide_eq_true h0];repeat (first|(refine aI ?_;refine aC (j:=i) rfl rfl rfl j0 rfl ⟨F,_,hs.grow yG⟩ rfl ?_)|(refine bM ?_;refine bJ rfl (hs.grow yG) g1 rfl ?_)|(refine aQ ?_;refine aS rfl ((hs.grow yG).row.cell g1) rfl ?_)|(refine aB 140 ?_;refine aA rfl (fA _ _ _ _ _ _ _ _ _ _ _ (s1.grow yG) (hk.grow yG)) rfl ?_;rintro _ _ ⟨rfl,g0⟩)|refine yC ?_)
   exact fJ rfl rfl ⟨_,rfl,rfl,yG⟩
  ·rw [decide_eq_false h0];repeat (first|(refine aI ?_;refine aC (j:=i) rfl rfl rfl j0 rfl ⟨F,_,hs.grow yG⟩ rfl ?_)|(refine bM ?_;refine bJ rfl (hs.grow yG) g1 rfl ?_)|(refine aQ ?_;refine aS rfl ((hs.grow yG).row.cell g1) rfl ?_)|(refine aB 140 ?_;refine aA rfl (fA _ _ _ _ _ _ _ _ _ _ _ (s1.grow yG) (hk.grow yG)) rfl ?_;rintro _ _ ⟨rfl,g0⟩)|refine yC ?_)
   exact fJ rfl rfl ⟨_,rfl,rfl,yG⟩
theorem rkid_c (F G:Nat→Prop) (x:NV) (nd:Nd) (b:Option Addr) (m d:Nat) (key:Bs) (w:World) (h:NdAt F w x nd) (hk:Sl G w 1 b m d (bB key)) (k0:bF nd=true) (hl:bN nd=false) :
  Calls Tryz.prog 115 #[x.val,.slice b m d] w (Ret λ v w'=>v=.int .i64 (fW nd.keys key:Int)∧Grow w w'):=by
 have ok:=ndOk k0;have j0:=bR h.kids;have l0:=h.kys.len;obtain ⟨cs,hs,a0⟩:=h.kys.at';have e0:=λ w' (g:Grow w w')=>rcheck_c F x nd w' (h.go (Carry.grow g)) k0;obtain ⟨a1,n1,c1,a2,n2,c2,a3,n3,c3⟩:=x;simp only at l0 j0 hs a0;show Calls Tryz.prog 115 #[.agg #[.slice a1 n1 c1,.slice a2 n2 c2,.slice a3 n3 c3],.slice b m d] w _;replace e0:∀ w',Grow w w'→Calls Tryz.prog 164 #[.agg #[.slice a1 n1 c1,.slice a2 n2 c2,.slice a3 n3 c3]] w' (Ret λ v p0=>v=.int .i64 0∧Grow w' p0):=e0;have o2:=ok.n2;have o5:=ok.n3;rw [← j0] at o2 o5;rw [← l0] at o5
 have i0:n2≠0:=by
  rw [j0];intro e;rw [bL.2 (List.eq_nil_of_length_eq_zero e)] at hl;cases hl
 refine V.calls (args:=[_,_]) Tryz.func115 rfl Tryz.ntmps115 rfl rfl ?_;repeat (first|(refine aB 164 ?_;refine aA rfl (e0 _ yG) rfl ?_;rintro _ _ ⟨rfl,h0⟩)|(refine aB 114 ?_;refine aA rfl (rleaf_c ⟨a1,n1,c1,a2,n2,c2,a3,n3,c3⟩ false _ (by simp [i0])) rfl ?_;rintro _ _ ⟨rfl,h0⟩)|refine yC ?_|refine yI λ bk w' hg o0 t0 q0=>?_)
 rename_i wz;have g0:Blk wz bk 79 [.slice a1 n1 c1,.slice a2 n2 c2,.slice a3 n3 c3]:=by exact yB
 have n0:Grow w wz:=by exact yG
 clear o0 hg h0;refine aX (S:=Nat) (λ i=>[(5,.int .i64 (i:Int)),(1,.slice b m d),(2,.pointer (some ⟨bk,0,none⟩))]) (λ i w1=>Blk w1 bk 79 [.slice a1 n1 c1,.slice a2 n2 c2,.slice a3 n3 c3]∧Grow w w1∧i≤n3∧∀ j y,j<i→nd.keys[j]? = some y→bY y key≤0) (λ i=>n3-i) 0 ⟨rfl,rfl,rfl,trivial⟩ ⟨g0,n0,oM,λ j y hj=>by omega⟩ ?_;clear g0 n0;rintro i w1 ⟨o0,u0,hi,f0⟩;by_cases m0:i<n3;rotate_left
 ·have he:fW nd.keys key=n3:=kidN_eq (λ j y hj hy=>f0 j y oM hy) (λ y hy=>by rw [List.getElem?_eq_none oM] at hy;cases hy) oM;obtain rfl:i=n3:=by omega
  rw [he];repeat refine aF ?_
  exact bA rfl ⟨_,rfl,rfl,yG⟩
 obtain ⟨y,hy⟩:∃ y,nd.keys[i]? = some y:=⟨_,List.getElem?_eq_getElem oM⟩
 obtain ⟨ka,kc,g1,s1⟩:=a0 i y hy;by_cases hc:bY y key≤0
 ·repeat (first|(refine aI ?_;refine aC (j:=i) rfl rfl rfl m0 (Nat.mul_one _) ⟨F,_,hs.grow yG⟩ rfl ?_)|(refine aQ ?_;refine aS rfl ((hs.grow yG).row.cell g1) rfl ?_)|(refine aB 140 ?_;refine aA rfl (fA _ _ _ _ _ _ _ _ _ _ _ (s1.grow yG) (hk.grow yG)) rfl ?_;rintro _ _ ⟨rfl,h0⟩)|refine yC ?_)
  exact aE (i+1) ⟨rfl,rfl,rfl,trivial⟩ ⟨yB,yG,oM,λ j z hj hz=>by
   by_cases s0:j=i
   ·subst s0;rw [hy] at hz;cases hz;exact hc
   ·exact f0 j z oM hz⟩ oM
 ·have he:fW nd.keys key=i:=kidN_eq f0 (λ z hz=>by rw [hy] at hz;cases hz;exact hc) oM;rw [he];repeat (first|(refine aI ?_;refine aC (j:=i) rfl rfl rfl m0 (Nat.mul_one _) ⟨F,_,hs.grow yG⟩ rfl ?_)|(refine aQ ?_;refine aS rfl ((hs.grow yG).row.cell g1) rfl ?_)|(refine aB 140 ?_;refine aA rfl (fA _ _ _ _ _ _ _ _ _ _ _ (s1.grow yG) (hk.grow yG)) rfl ?_;rintro _ _ ⟨rfl,h0⟩)|refine yC ?_)
  exact bA rfl ⟨_,rfl,rfl,yG⟩
structure RL where
 p:Nat
 d:Nat
 b:Nat
 c:Nat
 u:Nat
def us (g:Pg):List Value:=(List.range g.count).map λ n=>.bool (bK g n)
theorem nI (g:Pg):(us g).length=g.count:=by simp [us]
theorem us_at {g:Pg} {n:Nat} (h:n<g.count):(us g)[n]? = some (.bool (bK g n)):=by simp [us,h]
def RL.S (R:RL) (k:Nat):Prop:=k=R.p∨k=R.c∨k=R.u
structure SecAt (K:Nat→Prop) (w:World) (cs:List Value) (j:Nat) (l:Bs):Prop where
 ex:∃ a c,cs[j]? = some (.slice (some a) 256 c)∧Sl K w 1 (some a) 256 c (bB l)
theorem SecAt.go {K K':Nat→Prop} {w w':World} {cs:List Value} {j:Nat} {l:Bs} (h:SecAt K w cs j l) (g:Carry K w K' w'):SecAt K' w' cs j l:=by
 obtain ⟨a,c,h1,h2⟩:=h.ex;exact ⟨a,c,h1,h2.go g⟩
structure RfAt (K:Nat→Prop) (w:World) (R:RL) (g:Pg):Prop where
 blk:Blk w R.p 174 [.pointer (some ⟨R.d,0,none⟩),.slice (some ⟨R.u,0,none⟩) g.count g.count]
 dsk:Blk w R.d 171 [.slice (some ⟨R.b,0,none⟩) (512*g.count) (512*g.count),.slice (some ⟨R.c,0,none⟩) (2*g.count) (2*g.count)]
 used:Blk w R.u 4 (us g)
 ok:PgOk g
 cache:∃ cs,cs.length=2*g.count∧Blk w R.c 30 cs∧∀ n,bK g n=true→SecAt K w cs (2*n) ((gP n (g.body n)).take 256)∧SecAt K w cs (2*n+1) ((gP n (g.body n)).drop 256)
 lt:∀ n,∀ x∈g.body n,x<256
 bl:∀ n,bK g n=true→(g.body n).length=500
 kne:∀ k,K k→¬ R.S k
 ne:R.p≠R.d∧R.p≠R.c∧R.p≠R.u∧R.d≠R.c∧R.d≠R.u∧R.c≠R.u
theorem RfAt.cnt {K:Nat→Prop} {w:World} {R:RL} {g:Pg} (h:RfAt K w R g):g.count≤8192:=h.ok.cnt
theorem RfAt.lts {K:Nat→Prop} {w:World} {R:RL} {g:Pg} (h:RfAt K w R g):R.p<w.heap.size∧R.d<w.heap.size∧R.c<w.heap.size∧R.u<w.heap.size:=by
 obtain ⟨cs,_,h1,_⟩:=h.cache;exact ⟨h.blk.lt,h.dsk.lt,h1.lt,h.used.lt⟩
theorem RfAt.keep {K:Nat→Prop} {w w':World} {R:RL} {g:Pg} (h:RfAt K w R g) (c:Carry K w K w') (hb:∀ k,k=R.p∨k=R.d∨k=R.c∨k=R.u→w'.heap[k]? = w.heap[k]?):RfAt K w' R g:=by
 obtain ⟨cs,h1,h2,h3⟩:=h.cache;exact ⟨cJ h.blk (hb _ sM),cJ h.dsk (hb _ sM),cJ h.used (hb _ sM),h.ok,⟨cs,h1,cJ h2 (hb _ sM),λ n hn=>⟨(h3 n hn).1.go c,(h3 n hn).2.go c⟩⟩,h.lt,h.bl,h.kne,h.ne⟩
theorem RfAt.grow {K:Nat→Prop} {w w':World} {R:RL} {g:Pg} (h:RfAt K w R g) (gr:Grow w w'):RfAt K w' R g :=
 h.keep (Carry.grow gr) λ k hk=>gr.block k (by have:=h.lts;omega)
theorem RfAt.buts {K S:Nat→Prop} {w w':World} {R:RL} {g:Pg} (h:RfAt K w R g) (u:ButS S w w') (h1:∀ k,K k→¬ S k) (h2:∀ k,k=R.p∨k=R.d∨k=R.c∨k=R.u→¬ S k):RfAt K w' R g :=
 h.keep (Carry.buts u λ k hk _=>h1 k hk) λ k hk=>u.block k (by have:=h.lts;omega) (h2 k hk)
theorem RfAt.upd {K:Nat→Prop} {w w':World} {R:RL} {g:Pg} {b:Nat} (h:RfAt K w R g) (u:Upd b w w') (h1:¬ K b∨w.heap.size≤b) (h2:b≠R.p∧b≠R.d∧b≠R.c∧b≠R.u):RfAt K w' R g :=
 h.keep ⟨Nat.le_of_eq u.size.symm,λ k hk hl=>⟨hk,u.block k (λ e=>by subst e;rcases h1 with h1|h1<;>first|exact h1 hk|omega)⟩⟩ λ k hk=>u.block k oM
theorem rsize_c (d:Nat) (bv:Value) (ca:Option Addr) (m c:Nat) (w:World) (h:Blk w d 171 [bv,.slice ca m c]) :
  Calls Tryz.prog 103 #[.pointer (some ⟨d,0,none⟩)] w (Ret λ v w'=>v=.int .i64 (m:Int)∧w=w'):=by
 refine V.calls (args:=[_]) Tryz.func103 rfl Tryz.ntmps103 rfl rfl ?_;repeat refine dD ?_
 exact bA rfl ⟨_,rfl,rfl,rfl⟩
theorem rdread_c (K:Nat→Prop) (d b c m j:Nat) (bl:Nat) (cs:List Value) (l:Bs) (w:World) (h:Blk w d 171 [.slice (some ⟨b,0,none⟩) bl bl,.slice (some ⟨c,0,none⟩) m m]) (hc:Blk w c 30 cs) (m0:cs.length=m) (hm:m≤100000) (hj:j<m) (hl:l.length=256) (hs:SecAt K w cs j l) :
  Calls Tryz.prog 204 #[.pointer (some ⟨d,0,none⟩),.int .i64 (j:Int)] w (Ret λ v w'=>∃ u,v=.tuple #[u,.int .i64 0]∧w'.ownsRow w.heap.size 5 1 u 256 (bB l)∧Grow w w'):=by
 obtain ⟨a,cc,h1,h2⟩:=hs.ex;have g0:Sl (λ k=>k=c) w 1 (some ⟨c,0,none⟩) m m cs:=aU (sz:=1) (m:=m) hc oM (by unfold maxLen;omega);have h0:w.cell? (at' (some ⟨c,0,none⟩) j)=some (.slice (some a) 256 cc):=g0.row.cell h1;refine V.calls (args:=[_,_]) Tryz.func204 rfl Tryz.ntmps204 rfl rfl ?_;repeat (first|(refine aB 103 ?_;refine aA rfl (rsize_c d _ _ m _ _ h) rfl ?_;rintro _ _ ⟨rfl,rfl⟩)|(refine aI ?_;refine aC (j:=j) rfl rfl rfl hj (Nat.mul_one _) ⟨_,_,g0.grow yG⟩ rfl ?_)|refine yC ?_|refine yI λ bk w' hg k0 l0 i0=>?_)
 refine TL.append rfl rfl (eI (base:=w.heap.size) k0 oM) (h2.grow yG) (bO l) (by unfold maxLen;omega) oM oM rfl ?_;intro v1 w1 e0 f0 _;have a0:w1.ownsRow w.heap.size 5 1 v1 256 (bB l):=by simpa using e0
 have j0:Grow w w1:=Grow.mk (aL f0 oM (λ k hk=>by simp only [Value.ownBlock,Option.some.injEq] at hk;omega) hg.1);repeat refine aF ?_
 exact fJ rfl rfl ⟨_,rfl,v1,rfl,a0,j0⟩
theorem rdwrite_c (F:Nat→Prop) (d b c m j:Nat) (bl:Nat) (cs:List Value) (a:Option Addr) (ac:Nat) (l:Bs) (w:World) (h:Blk w d 171 [.slice (some ⟨b,0,none⟩) bl bl,.slice (some ⟨c,0,none⟩) m m]) (hc:Blk w c 30 cs) (q0:cs.length=m) (hm:m≤100000) (hj:j<m) (hs:Sl F w 1 a 256 ac (bB l)) :
  Calls Tryz.prog 126 #[.pointer (some ⟨d,0,none⟩),.int .i64 (j:Int),.slice a 256 ac] w (Ret λ v w'=>v=.int .i64 0∧∃ g i0,Blk w' c 30 (cs.set j (.slice (some ⟨g,0,none⟩) 256 i0))∧Sl (λ k=>w.heap.size≤k) w' 1 (some ⟨g,0,none⟩) 256 i0 (bB l)∧But c w w'):=by
 have x0:=gW hs;have m0:Sl (λ k=>k=c) w 1 (some ⟨c,0,none⟩) m m cs:=aU (sz:=1) (m:=m) hc oM (by unfold maxLen;omega);refine V.calls (args:=[_,_,_]) Tryz.func126 rfl Tryz.ntmps126 rfl rfl ?_;repeat (first|(refine aB 103 ?_;refine aA rfl (rsize_c d _ _ m _ _ h) rfl ?_;rintro _ _ ⟨rfl,rfl⟩)|refine yC ?_)
 apply T.anyL 8 7 [is (.pointer (some ⟨d,0,none⟩)),is (.pointer (some ⟨d,0,none⟩)),is (.pointer (some ⟨d,1,none⟩)),is (.slice (some ⟨c,0,none⟩) m m),is (.int .i64 (j:Int)),own w.heap.size 5 1 0 [],is (.slice a 256 ac),own w.heap.size 5 1 256 (bB l)]
 ·rfl
 ·rfl
 ·repeat' (first|exact aN|refine aK ?_ ?_)
  iterate 5
   ·refine yQ λ wq _ _ a0=>?_;repeat refine aF ?_
    exact aD rfl yG rfl
  ·refine yQ λ wq _ _ a0=>?_;have h4:=a0.size;repeat (first|refine aF ?_|refine yI λ bk w' hg s0 v0 n0=>?_)
   exact aD rfl yG (eI s0 oM)
  ·refine yQ λ wq _ _ a0=>?_;repeat refine aF ?_
   exact aD rfl yG rfl
  ·(((refine bW rfl rfl rfl ?_);( intro wq _ _ a0;(repeat (refine aJ rfl rfl ?_;intro vq e0;try (obtain rfl:=e0)));(refine aZ ?_))))
   have h4:=a0.size;have h0:World.ownsRow _ _ _ _ vq 0 []:=e0;refine TL.append rfl rfl h0 (hs.grow a0) (bO l) (by unfold maxLen;omega) oM oM rfl ?_;intro v' w3 g0 p0 _;repeat refine aF ?_
   exact one_loose rfl (aL p0 h4 (λ k hk=>(aR h0 hk).1) (Below.refl _ _)) (show w3.ownsRow w.heap.size 5 1 v' 256 (bB l) by simpa using g0)
 ·intro w9 u0 y0 j0 _ _;((((repeat (refine aJ rfl rfl ?_;intro vq e0;try (obtain rfl:=e0)));(refine aZ ?_))))
  have z0:=hc.lt;have l0:w9.ownsRow w.heap.size 5 1 vq 256 (bB l):=e0;obtain ⟨g,i0,e1,rfl,o1,o2,o3,o4,o5,o6⟩:=own_blk l0 oM;obtain ⟨a',c',e',o0⟩:=aM l0;cases e';refine aC (j:=j) rfl rfl rfl hj (Nat.mul_one _) ⟨_,_,m0.grow j0⟩ rfl ?_;rw [show at' (some ⟨c,0,none⟩) j=⟨c,j,none⟩ by rw [at_some,Nat.zero_add]];refine dR rfl rfl (hc.grow j0) rfl (by rw [q0];exact Nat.ble_eq_true_of_le hj) rfl ?_;intro t0 f0 k0 _;repeat refine aF ?_
  exact bA rfl ⟨_,rfl,rfl,g,i0,k0,(o0.mono (λ k hk=>hk.1)).upd f0 (λ k hk=>by omega),but_upd f0 (but_grow' j0)⟩
theorem rpage_c (F:Nat→Prop) (n:Nat) (hn:n<2147483648) (a:Option Addr) (c:Nat) (b:Bs) (w:World) (hs:Sl F w 1 a b.length c (bB b)) (hm:b.length≤500) (hb:∀ x∈b,x<256) :
  Calls Tryz.prog 125 #[.int .i64 (n:Int),.slice a b.length c] w (Ret λ v w'=>∃ u,v=.tuple #[u,.int .i64 0]∧w'.ownsRow w.heap.size 5 1 u 512 (bB (gP n b))∧Grow w w'):=by
 refine V.calls (args:=[_,_]) Tryz.func125 rfl Tryz.ntmps125 rfl rfl ?_;refine dU 3 (λ e w3=>∃ v3,Sub [(6,v3),(0,.int .i64 (n:Int))] e∧w3.ownsRow w.heap.size 5 1 v3 500 (bB (dB b))∧Grow w w3) ?_ ?_;rotate_left
 ·repeat (first|refine aF ?_|refine yI λ bk w' hg v0 x1 k0=>?_)
  refine TL.append rfl rfl (eI (base:=w.heap.size) v0 oM) (hs.grow yG) (bO b) (by unfold maxLen;omega) oM oM rfl ?_;intro v1 w1 g0 s0 _;have a0:w1.ownsRow w.heap.size 5 1 v1 b.length (bB b):=by simpa using g0
  have s1:Grow w w1:=Grow.mk (aL s0 oM (λ k hk=>by simp only [Value.ownBlock,Option.some.injEq] at hk;omega) hg.1);have z2:=s1.size;clear g0 s0 v0 hg x1 k0;repeat refine aF ?_
  refine eU ?_;by_cases j0:b.length=500
  ·obtain ⟨a1,c1,rfl,o2⟩:=aM a0;have x0:dB b=b:=by unfold dB;rw [j0];simp [zs]
   have w2:=o2.cap;rw [show 500-b.length=0 by omega];refine TL.appendZ0 rfl rfl w2 rfl ?_;repeat refine aF ?_
   exact ⟨_,⟨rfl,rfl,trivial⟩,by rw [x0];rw [j0] at a0;rw [j0];exact a0,s1⟩
  ·refine TL.appendZ (zc:=.int .u8 0) (c:=500-b.length) rfl rfl rfl rfl a0 oM oM oM oM rfl ?_;intro v4 w4 e0 g1;repeat refine aF ?_
   refine ⟨v4,⟨rfl,rfl,trivial⟩,?_,Grow.mk (aL g1 oM (λ k hk=>(aR a0 hk).1) s1.1)⟩;have e5:bB (dB b)=bB b++List.replicate (500-b.length) (.int .u8 0):=by simp [dB,bB,zs]
   rw [e5];have:=e0;rwa [show b.length+(500-b.length)=500 by omega] at this
 rintro e w3 ⟨v3,l0,i0,o1⟩;refine bD (e':=[(6,_),(0,_)]) ?_ l0;clear l0;have s2:=jD b hm;have n0:=body_lt hb;obtain ⟨B,hB⟩:∃ B,B=dB b:=⟨_,rfl⟩
 have e2:gP n b=(shaB (bP n++B)).take 12++B:=by rw [hB];rfl
 rw [e2];rw [← hB] at s2 n0 i0;clear e2 hB;obtain ⟨a3,c3,rfl,e1⟩:=aM i0;have z3:=o1.size;repeat refine aF ?_
 refine aB 173 ?_;refine aA rfl (rword_c (λ _=>True) none 0 n [] _ (Sl.nil_mk _ _ _) sM oM) rfl ?_;rintro v4 w4 ⟨e0,u0⟩;obtain ⟨a4,c4,rfl,d2⟩:=aM e0;repeat refine aF ?_
 refine TL.buildSlice rfl rfl rfl rfl rfl ?_;intro b5 w5 t0 x0 r1 r2 r3;have f2:KysAt (λ _=>True) w5 (some ⟨b5,0,none⟩) 2 2 [bP n,B]:=⟨_,(aU (sz:=1) (m:=2) x0 r3 dM).mono (λ _ _=>trivial),⟨_,_,_,rfl,(d2.grow t0).mono (λ _ _=>trivial)⟩,⟨_,_,_,rfl,((e1.grow u0).grow t0).mono (λ _ _=>trivial)⟩,trivial⟩
 have ef:([bP n,B]:List Bs).flatten=bP n++B:=by simp
 refine aB 172 ?_
 refine aA rfl (rsum_c _ _ 2 2 [bP n,B] _ f2 (by rw [ef,List.length_append,lG];omega) (by
  rw [ef];intro x hx;rcases List.mem_append.1 hx with hx|hx
  ·exact word4_lt n x hx
  ·exact n0 x hx)) rfl ?_
 rintro _ w6 ⟨rfl,m1⟩;rw [ef];have hD:(shaB (bP n++B)).length=32:=kI _;generalize shaB (bP n++B)=D at *;have p0:Grow w w6:=(o1.trans u0).trans (t0.trans m1);have y1:=((e1.grow u0).grow t0).grow m1;clear o1 u0 t0 m1 e1 d2 x0 f2 i0 e0;have z6:=p0.size;repeat ((refine fI ?_;refine eO 32 zero_dig rfl ?_;intro b7 w7 j1 g2 q1 q2))
 refine fH rfl rfl g2 (cN _) hD ?_;intro w8 y0 x2 q3;have o0:Grow w w8:=aH y0 oM (p0.trans j1);have z0:Sl (λ k=>w.heap.size≤k∧k<w6.heap.size) w8 1 a3 500 c3 (bB B):=((y1.tight.mono (λ k hk=>⟨hk.1.1,hk.2⟩)).grow j1).upd y0 (λ k hk=>by omega);clear j1 g2 y0 y1;repeat (first|refine aF ?_|refine yI λ bk w' hg v0 x1 k0=>?_)
 have z8:=o0.size;have z1:=jJ (o:=0) (m:=12) (c:=32) (x2.grow hg) oM oM dM;rw [List.drop_zero] at z1;refine TL.append rfl rfl (eI (base:=w.heap.size) v0 oM) z1 (bO _) (by unfold maxLen;omega) oM oM rfl ?_;intro v9 w9 m0 f1 _;have f0:w9.ownsRow w.heap.size 5 1 v9 12 (bB (D.take 12)):=by simpa using m0
 have h1:Grow w8 w9:=Grow.mk (aL f1 oM (λ k hk=>by simp only [Value.ownBlock,Option.some.injEq] at hk;omega) hg.1);have z9:=h1.size;repeat refine aF ?_
 have u2:(D.take 12).length=12:=by rw [List.length_take];omega
 refine TL.append rfl rfl f0 (z0.grow h1) (bO _) (by unfold maxLen;omega) oM oM rfl ?_;intro j2 h2 h0 q0 _;have u1:Grow w h2:=Grow.mk (aL q0 oM (λ k hk=>(aR f0 hk).1) (o0.trans h1).1);repeat refine aF ?_
 exact fJ rfl rfl ⟨_,rfl,j2,rfl,by rw [dH];exact h0,u1⟩
theorem us_sl {w:World} {u:Nat} {g:Pg} (h:Blk w u 4 (us g)) (hc:g.count≤8192):Sl (λ k=>k=u) w 1 (some ⟨u,0,none⟩) g.count g.count (us g) :=
 aU (sz:=1) (m:=g.count) h (by rw [nI,Nat.mul_one]) (by unfold maxLen;omega)
theorem ris_c {K:Nat→Prop} {w:World} {R:RL} {g:Pg} (h:RfAt K w R g) (n:Nat) (hn:n<9223372036854775808) :
  Calls Tryz.prog 117 #[.pointer (some ⟨R.p,0,none⟩),.int .i64 (n:Int)] w (Ret λ v w'=>v=.bool (bK g n)∧w=w'):=by
 have hb:=h.blk;have e0:=us_sl h.used h.cnt;have h0:=h.cnt;refine V.calls (args:=[_,_]) Tryz.func117 rfl Tryz.ntmps117 rfl rfl ?_;by_cases a0:n<g.count
 ·have f0:w.cell? (at' (some ⟨R.u,0,none⟩) n)=some (.bool (bK g n)):=e0.row.cell (us_at a0);repeat (first|(refine aI ?_;refine aC (j:=n) rfl rfl rfl a0 (Nat.mul_one _) ⟨_,_,e0⟩ rfl ?_)|refine yC ?_)
  exact bA rfl ⟨_,rfl,rfl,rfl⟩
 ·have g0:bK g n=false:=by simp [bK,a0]
  rw [g0];repeat (refine yC ?_)
  exact bA rfl ⟨_,rfl,rfl,rfl⟩
theorem rpread_c {K:Nat→Prop} {w:World} {R:RL} {g:Pg} (h:RfAt K w R g) (n:Nat) (hu:bK g n=true) :
  Calls Tryz.prog 166 #[.pointer (some ⟨R.p,0,none⟩),.int .i64 (n:Int)] w (Ret λ v w'=>∃ u,v=.tuple #[u,.int .i64 0]∧w'.ownsRow w.heap.size 5 1 u 500 (bB (g.body n))∧Grow w w'):=by
 have d2:=dV hu;have e2:=h.cnt;have hb:=h.blk;have hd:=h.dsk;have v0:=h.bl n hu;have r1:=h.lt n;obtain ⟨cs,g1,u0,j0⟩:=h.cache;obtain ⟨l0,k0⟩:=j0 n hu;have o1:=lI n (g.body n) oM;have x1:dB (g.body n)=g.body n:=by unfold dB;rw [v0];simp [zs]
 have t0:(gP n (g.body n)).drop 12=g.body n:=by
  unfold gP;rw [x1,List.drop_left' (by rw [List.length_take,kI];rfl)]
 have m1:gP n ((gP n (g.body n)).drop 12)=gP n (g.body n):=by rw [t0]
 have e1:=ris_c h n oM;rw [hu] at e1;refine V.calls (args:=[_,_]) Tryz.func166 rfl Tryz.ntmps166 rfl rfl ?_;repeat (first|(refine aB 117 ?_;refine aA rfl (e1) rfl ?_;rintro _ _ ⟨rfl,rfl⟩)|(refine eM ?_;refine TL.mulN (a:=2) rfl rfl oM rfl ?_)|refine yC ?_)
 refine aB 204 ?_;refine aA rfl (rdread_c K _ _ _ (2*g.count) (2*n) _ cs _ _ hd u0 g1 oM oM (by rw [List.length_take];omega) l0) rfl ?_;rintro _ w1 ⟨u1,rfl,e0,i0⟩;repeat (first|(refine eM ?_;refine TL.mulN (a:=2) rfl rfl oM rfl ?_)|refine yC ?_)
 refine aB 204 ?_;refine aA rfl (rdread_c K _ _ _ (2*g.count) (2*n+1) _ cs _ _ (hd.grow i0) (u0.grow i0) g1 oM oM (by rw [List.length_drop];omega) (k0.go (Carry.grow i0))) rfl ?_;rintro _ w2 ⟨u2,rfl,h0,o0⟩;have z1:=i0.size;have z2:=o0.size;obtain ⟨a2,c2,rfl,y0⟩:=aM h0;repeat refine aF ?_
 refine TL.append rfl rfl (aO e0 o0) y0 (bO _) (by unfold maxLen;omega) oM oM rfl ?_;intro v3 w3 a0 n0 _;rw [← dH,List.take_append_drop] at a0;have f1:Grow w w3:=Grow.mk (aL n0 oM (λ k hk=>(aR (aO e0 o0) hk).1) (i0.trans o0).1);obtain ⟨a3,c3,rfl,p0⟩:=aM a0;obtain ⟨pg,z0⟩:∃ pg,pg=gP n (g.body n):=⟨_,rfl⟩
 rw [← z0] at p0 o1 t0 m1;have f2:=p0.cap
 have x0:Sl (λ k=>w.heap.size≤k) w3 1 (eL a3 c3 12 1) (g.body n).length (c3-12) (bB (g.body n)):=by
  have:=(eW (l:=12) (h:=512) (mm:=c3) p0 oM oM oM (Nat.le_refl _)).mono (λ k hk=>hk.1);rw [List.take_of_length_le (by rw [List.length_drop,bE];omega)] at this;rw [Nat.mul_one,show (bB pg).drop 12=bB (pg.drop 12) by simp [bB,List.map_drop],t0] at this;rw [v0];exact this
 clear e0 h0 a0 n0 i0 o0 y0 l0 k0 j0 u0;repeat (first|(refine cL ?_;refine dF (l:=12) (h:=512) (mm:=c3) rfl (bI rfl rfl) (aP _) (aP _) (by intro h;rfl) oM oM oM oM oM rfl ?_)|refine yC ?_)
 refine aB 125 ?_;rw [show (512-12:Nat)=(g.body n).length by omega];refine aA rfl (rpage_c _ n oM _ _ (g.body n) _ x0 oM r1) rfl ?_;rintro _ w4 ⟨u4,rfl,g0,q0⟩;rw [← z0] at g0;obtain ⟨a4,c4,rfl,j1⟩:=aM g0;have z4:=q0.size;have z3:=f1.size;repeat (first|(refine eA ?_;first|refine mF rfl j1 rfl ?_|refine mF rfl (p0.grow q0) rfl ?_)|(refine TL.isNeT 9 ?_;refine TL.neS (b:=false) rfl rfl sM rfl ?_)|(refine cL ?_;refine dF (l:=12) (h:=512) (mm:=c3) rfl (bI rfl rfl) (aP _) (aP _) (by intro h;rfl) oM oM oM oM oM rfl ?_)|refine yC ?_|refine yI λ bk w' hg s1 y1 h1=>?_)
 rw [show (512-12:Nat)=(g.body n).length by omega];refine TL.append rfl rfl (eI (base:=w.heap.size) s1 oM) ((x0.grow q0).grow hg) (bO _) (by unfold maxLen;omega) oM oM rfl ?_;intro v5 w5 f0 s0 _
 have m0:w5.ownsRow w.heap.size 5 1 v5 500 (bB (g.body n)):=by
  rw [Nat.zero_add,v0] at f0;simpa using f0
 have q1:Grow w w5:=Grow.mk (aL s0 oM (λ k hk=>by simp only [Value.ownBlock,Option.some.injEq] at hk;omega) (f1.trans (q0.trans hg)).1);repeat refine aF ?_
 exact fJ rfl rfl ⟨_,rfl,v5,rfl,m0,q1⟩
theorem us_new {g g':Pg} {n:Nat} {b:Bs} (h:New g g' n b):(us g).set n (.bool true)=us g':=by
 apply List.ext_getElem?;intro i;rw [List.getElem?_set];have hl:=h.lt;have hc:=h.count;by_cases hi:n=i
 ·subst hi;rw [if_pos rfl,if_pos (by rw [nI];exact hl),us_at oM,h.used];simp
 ·rw [if_neg hi];by_cases a0:i<g.count
  ·rw [us_at a0,us_at oM,h.used];have:i≠n:=λ e=>hi e.symm;simp [this]
  ·rw [List.getElem?_eq_none (by rw [nI];omega),List.getElem?_eq_none (by rw [nI];omega)]
theorem rpnew_c {K:Nat→Prop} {w:World} {R:RL} {g:Pg} (h:RfAt K w R g) (hK:∀ k,w.heap.size≤k→K k) (F:Nat→Prop) (a:Option Addr) (c:Nat) (b:Bs) (hs:Sl F w 1 a b.length c (bB b)) (hm:b.length≤500) (d2:∀ x∈b,x<256) (n:Nat) (g':Pg) (m0:newP g b=some (n,g')) :
  Calls Tryz.prog 46 #[.pointer (some ⟨R.p,0,none⟩),.slice a b.length c] w (Ret λ v w'=>v=.tuple #[.int .i64 (n:Int),.int .i64 0]∧RfAt K w' R g'∧ButS R.S w w'):=by
 have a0:=newP_new h.ok m0
 have g3:lowP g=n:=by
  unfold newP at m0;simp only at m0;split at m0
  ·cases m0
  ·cases m0;rfl
 have z1:=h.cnt;have q3:=a0.lt;have x0:=us_sl h.used z1;have hb:=h.blk;refine V.calls (args:=[_,_]) Tryz.func46 rfl Tryz.ntmps46 rfl rfl ?_;repeat refine aF ?_
 refine aX (S:=Nat) (λ i=>[(6,.int .i64 (i:Int)),(1,.slice a b.length c),(0,.pointer (some ⟨R.p,0,none⟩))]) (λ i w'=>i≤n∧w=w') (λ i=>n-i) 0 ⟨rfl,rfl,rfl,trivial⟩ ⟨Nat.zero_le _,rfl⟩ ?_;rintro i _ ⟨hi,rfl⟩;have e0:i<g.count:=by omega
 have l0:w.cell? (at' (some ⟨R.u,0,none⟩) i)=some (.bool (bK g i)):=x0.row.cell (us_at e0);by_cases s3:i<n
 ·have q2:bK g i=true:=lowP_used oM;rw [q2] at l0;repeat (first|(refine aI ?_;refine aC (j:=i) rfl rfl rfl e0 (Nat.mul_one _) ⟨_,_,x0⟩ rfl ?_)|refine yC ?_)
  exact aE (i+1) ⟨rfl,rfl,rfl,trivial⟩ ⟨oM,rfl⟩ oM
 obtain rfl:i=n:=by omega
 rw [a0.free] at l0;repeat (first|(refine aI ?_;refine aC (j:=i) rfl rfl rfl e0 (Nat.mul_one _) ⟨_,_,x0⟩ rfl ?_)|refine yC ?_)
 refine aB 125 ?_;refine aA rfl (rpage_c F i oM a c b _ hs hm d2) rfl ?_;rintro _ w2 ⟨u2,rfl,q0,g1⟩;have d3:=lI i b oM;obtain ⟨a2,c2,rfl,u0⟩:=aM q0;have w3:=u0.cap;obtain ⟨pg,w1⟩:∃ pg,pg=gP i b:=⟨_,rfl⟩
 rw [← w1] at d3 u0;have h2:=h.grow g1;have hl:=h.lts;have z2:=g1.size
 have s1:Sl (λ k=>w.heap.size≤k∧k<w2.heap.size) w2 1 (eL a2 c2 0 1) 256 c2 (bB (pg.take 256)):=by
  have:=(eW (l:=0) (h:=256) (mm:=c2) u0.tight oM oM oM (Nat.le_refl _)).mono (λ k hk=>(⟨hk.1.1,hk.2⟩:w.heap.size≤k∧k<w2.heap.size));simpa [bB,List.map_take] using this
 have s2:Sl (λ k=>w.heap.size≤k∧k<w2.heap.size) w2 1 (eL a2 c2 256 1) 256 (c2-256) (bB (pg.drop 256)):=by
  have:=(eW (l:=256) (h:=512) (mm:=c2) u0.tight oM oM oM (Nat.le_refl _)).mono (λ k hk=>(⟨hk.1.1,hk.2⟩:w.heap.size≤k∧k<w2.heap.size));rw [List.take_of_length_le (by rw [List.length_drop,bE];omega)] at this;simpa [bB,List.map_drop] using this
 have y2:=h2.blk;have y1:=h2.dsk;obtain ⟨cs,j1,j3,y0⟩:=h2.cache;repeat refine aF ?_
 apply T.any 8 [is (.pointer (some ⟨R.p,0,none⟩)),is (.pointer (some ⟨R.p,0,none⟩)),is (.pointer (some ⟨R.p,0,none⟩)),is (.pointer (some ⟨R.d,0,none⟩)),is (.int .i64 (i:Int)),is (.int .i64 ((2*i:Nat):Int)),is (.slice a2 512 c2),is (.slice (eL a2 c2 0 1) 256 c2)]
 ·rfl
 ·repeat' (first|exact aN|refine aK ?_ ?_)
  iterate 8
   ·refine yQ λ wq _ _ h3=>?_;repeat (first|(refine eM ?_;refine TL.mulN (a:=2) rfl rfl oM rfl ?_)|(refine cL ?_;refine dF (l:=0) (h:=256) (mm:=c2) rfl (aP _) (bI rfl rfl) (aP _) (by intro h;cases h) oM oM oM oM oM rfl ?_)|refine yC ?_)
    exact aD rfl yG rfl
 intro w5 p3 u3 g0 _ _;((refine yT ?_))
 refine aB 126 ?_;refine aA rfl (rdwrite_c _ _ _ _ (2*g.count) (2*i) _ cs _ _ _ _ (y1.grow g0) (j3.grow g0) j1 oM oM (s1.grow g0)) rfl ?_;rintro _ w6 ⟨rfl,g6,r1,s0,u1,k0⟩;have z5:=g0.size;have z6:=k0.size;have x1:=cG k0 (y2.grow g0) h.ne.2.1;have h1:=cG k0 (y1.grow g0) h.ne.2.2.2.1;have p0:=cG k0 ((h2.used).grow g0) (Ne.symm h.ne.2.2.2.2.2);have t0:ButS R.S w w6:=(ButS.grow (g1.trans g0)).trans (ButS.but k0 (.inr (.inl rfl)));have o2:=((s2.grow g0).tight.keep (w':=w6) (λ k hk n0=>k0.block k n0 oM) z6)
 have j2:Carry K w2 K w6:=(Carry.grow g0).trans ⟨z6,λ k hk hl=>⟨hk,k0.block k hl (λ e=>h.kne k hk (.inr (.inl e)))⟩⟩;repeat refine aF ?_
 apply T.any 9 [is (.pointer (some ⟨R.p,0,none⟩)),is (.pointer (some ⟨R.p,0,none⟩)),is (.pointer (some ⟨R.p,0,none⟩)),is (.pointer (some ⟨R.d,0,none⟩)),is (.int .i64 (i:Int)),is (.int .i64 ((2*i:Nat):Int)),is (.int .i64 ((2*i+1:Nat):Int)),is (.slice a2 512 c2),is (.slice (eL a2 c2 256 1) 256 (c2-256))]
 ·rfl
 ·repeat' (first|exact aN|refine aK ?_ ?_)
  iterate 9
   ·refine yQ λ wq _ _ h3=>?_;repeat (first|(refine eM ?_;refine TL.mulN (a:=2) rfl rfl oM rfl ?_)|(refine cL ?_;refine dF (l:=256) (h:=512) (mm:=c2) rfl (bI rfl rfl) (aP _) (aP _) (by intro h;rfl) oM oM oM oM oM rfl ?_)|refine yC ?_)
    exact aD rfl yG rfl
 intro w7 o3 t3 f0 _ _;((refine yT ?_))
 refine aB 126 ?_;refine aA rfl (rdwrite_c _ _ _ _ (2*g.count) (2*i+1) _ _ _ _ _ _ (h1.grow f0) (s0.grow f0) (by rw [List.length_set];exact j1) oM oM (o2.grow f0)) rfl ?_;rintro _ w8 ⟨rfl,g8,q1,m1,r2,j0⟩;have z7:=f0.size;have z8:=j0.size;have x2:=cG j0 (x1.grow f0) h.ne.2.1;have i3:=cG j0 (h1.grow f0) h.ne.2.2.2.1;have o0:=cG j0 (p0.grow f0) (Ne.symm h.ne.2.2.2.2.2);have o1:ButS R.S w w8:=t0.trans ((ButS.grow f0).trans (ButS.but j0 (.inr (.inl rfl))));have z0:=((u1.grow f0).tight.keep (w':=w8) (λ k hk n0=>j0.block k n0 oM) z8)
 have m3:Carry K w2 K w8:=j2.trans ((Carry.grow f0).trans ⟨z8,λ k hk hl=>⟨hk,j0.block k hl (λ e=>h.kne k hk (.inr (.inl e)))⟩⟩);have v0:=us_sl o0 z1;clear k0 j0 g0 f0 s0 u1 x1 h1 p0 t0 j2;repeat (first|(refine aI ?_;refine aC (j:=i) rfl rfl rfl e0 (Nat.mul_one _) ⟨_,_,v0⟩ rfl ?_;rw [show at' (some ⟨R.u,0,none⟩) i=⟨R.u,i,none⟩ by rw [at_some,Nat.zero_add]])|(refine bZ ?_;refine dR rfl rfl o0 rfl (by rw [nI];exact Nat.ble_eq_true_of_le e0) (us_new a0) ?_;intro w9 i0 k3 _)|refine yC ?_)
 have z9:=i0.size;have g2:Carry K w2 K w9:=m3.trans ⟨oM,λ k hk hl=>⟨hk,i0.block k (λ e=>h.kne k hk (.inr (.inr e)))⟩⟩;have n6:Sl K w9 1 (some ⟨g6,0,none⟩) 256 r1 (bB (pg.take 256)):=(z0.upd i0 (λ k hk=>by have:=hk.1;omega)).mono (λ k hk=>hK k (by have:=hk.1;omega));have n8:Sl K w9 1 (some ⟨g8,0,none⟩) 256 q1 (bB (pg.drop 256)):=(r2.upd i0 (λ k hk=>by omega)).mono (λ k hk=>hK k oM);refine fJ rfl rfl ⟨_,rfl,rfl,⟨?_,?_,k3,a0.ok,?_,?_,?_,h.kne,h.ne⟩,o1.trans (ButS.but (but_upd i0 (But.refl _ _)) (.inr (.inr rfl)))⟩
 ·rw [a0.count];exact x2.upd i0 h.ne.2.2.1
 ·rw [a0.count];exact i3.upd i0 h.ne.2.2.2.2.1
 ·refine ⟨_,by rw [a0.count,List.length_set,List.length_set];exact j1,m1.upd i0 h.ne.2.2.2.2.2,λ k hk=>?_⟩;rw [a0.used] at hk;by_cases h0:k=i
  ·subst h0;rw [a0.body,show padB b=dB b from rfl,pageB_body k b oM,← w1];exact ⟨⟨_,_,by rw [List.getElem?_set,if_neg oM,List.getElem?_set,if_pos rfl,if_pos oM],n6⟩,⟨_,_,by rw [List.getElem?_set,if_pos rfl,if_pos (by rw [List.length_set];omega)],n8⟩⟩
  ·have n0:bK g k=true:=by simpa [h0] using hk
   have r3:=dV n0;rw [a0.other k h0];obtain ⟨e1,e2⟩:=y0 k n0;obtain ⟨a1,c1,f1,f2⟩:=(e1.go g2).ex;obtain ⟨a3,c3,f3,f4⟩:=(e2.go g2).ex;exact ⟨⟨a1,c1,by rw [List.getElem?_set,if_neg oM,List.getElem?_set,if_neg oM];exact f1,f2⟩,⟨a3,c3,by rw [List.getElem?_set,if_neg oM,List.getElem?_set,if_neg oM];exact f3,f4⟩⟩
 ·intro k x hx;by_cases h0:k=i
  ·subst h0;rw [a0.body] at hx;exact body_lt d2 x hx
  ·rw [a0.other k h0] at hx;exact h.lt k x hx
 ·intro k hk;rw [a0.used] at hk;by_cases h0:k=i
  ·subst h0;rw [a0.body];exact jD b oM
  ·rw [a0.other k h0];exact h.bl k (by simpa [h0] using hk)
theorem grow_own {w w4 w5:World} {v:Value} {xs:List Value} {n e:Nat} (hg:Grow w w4) (ho:w4.ownsRow w.heap.size e 1 v n xs) (a0:w4.grownBy w5 v.ownBlock):Grow w w5 :=
 ⟨aL a0 hg.2 (λ k hk=>(aR ho hk).1) hg.1,by have:=hg.2;have:=a0.size;omega⟩
end Go.Proofs.YtfpadnmdafiddaaGreatDoor
