import Derived.Test.YtfpadnmdafiddaaGreatDoorYt
import Derived.Test.YtfpadnmdafiddaaGreatDoorYu
set_option linter.all false
set_option maxHeartbeats 16000000
set_option maxRecDepth 100000
namespace Go.Proofs.YtfpadnmdafiddaaGreatDoor
open Go Go.RowKit Go.V
theorem ones_c (x:Nat) (hx:x<18446744073709551616) (w:World):Calls Tryz.prog 155 #[.int .u64 (x:Int)] w (Ret λ v w'=>v=.int .i64 (ones x:Int)∧w=w'):=by
 refine V.calls (args:=[_]) Tryz.func155 rfl Tryz.ntmps155 rfl rfl ?_
 obtain ⟨y,z,v,hy,hz,hv,by1,bz,bv,hval⟩:=pop_masks x hx
 have hps:=pop_sum x v hval
 repeat (first|(refine TL.isAndW ?_;refine TL.andN6 rfl rfl (by omega) (by omega) rfl ?_)|(refine TL.isAdd ?_;first|(refine TL.addU rfl rfl rfl (by rw [hy];exact by1) rfl ?_;rw [hy])|(refine TL.addU rfl rfl rfl (by rw [hz];omega) rfl ?_;rw [hz]))|(refine TL.isMove ?_;refine TL.pure rfl rfl ?_)|(refine TL.isAsg ?_;refine TL.pure rfl rfl ?_)|(refine TL.isAdd ?_;first|refine TL.addU rfl rfl rfl (by omega) rfl ?_|refine TL.addW rfl rfl rfl rfl ?_)|refine TL.nil ?_|refine thenQ_normal ?_|refine T.seq ?_|refine T.region ?_|(refine TL.isShr ?_;refine TL.shrS rfl rfl (by (simp only [IntKind.bits];omega)) rfl ?_))
 have hv':z / 2^4+z&&&1085102592571150095=v:=hv
 rw [hv']
 obtain ⟨D1,hD1⟩:∃ D1,D1=v+v / 256:=⟨_,rfl⟩
 obtain ⟨D2,hD2⟩:∃ D2,D2=D1+D1 / 65536:=⟨_,rfl⟩
 obtain ⟨D3,hD3⟩:∃ D3,D3=D2+D2 / 4294967296:=⟨_,rfl⟩
 have b1:D1≤581000000000000000:=by omega
 have b2:D2≤582000000000000000:=by omega
 have b3:D3≤583000000000000000:=by omega
 have m1:(v+v / 2^8)%18446744073709551616=D1:=by rw [hD1];exact Nat.mod_eq_of_lt (by omega)
 rw [m1]
 have m2:(D1+D1 / 2^16)%18446744073709551616=D2:=by rw [hD2];exact Nat.mod_eq_of_lt (by omega)
 rw [m2]
 have m3:(D2+D2 / 2^32)%18446744073709551616=D3:=by rw [hD3];exact Nat.mod_eq_of_lt (by omega)
 rw [m3]
 rw [← hD1,← hD2,← hD3] at hps
 clear hD1 hD2 hD3 m1 m2 m3 hv' hv hy hz
 repeat (first|(refine TL.isConv ?_;refine TL.convN (a:=D3) rfl (by omega) rfl ?_)|(refine TL.isAsg ?_;refine TL.pure rfl rfl ?_)|refine TL.nil ?_|refine thenQ_normal ?_|(refine TL.isBin ?_;refine TL.pure rfl rfl ?_)|refine T.ret ?_)
 have e1:(BitVec.ofInt IntKind.i64.bits (D3:Int)&&&BitVec.ofInt IntKind.i64.bits 127).toNat=ones x:=by
  have q1:(BitVec.ofInt 64 (D3:Int)).toNat=D3:=by
   have:=Go.V.bits_nat (kd:=.u64) (M:=18446744073709551616) rfl D3
   rw [Nat.mod_eq_of_lt (by omega)] at this
   exact this
  have q2:(BitVec.ofInt 64 127).toNat=127:=by decide
  show (BitVec.ofInt 64 (D3:Int)&&&BitVec.ofInt 64 127).toNat=ones x
  rw [BitVec.toNat_and,q1,q2,and127,hps]
 have e2:IntKind.i64.wrap ((BitVec.ofInt IntKind.i64.bits (D3:Int)&&&BitVec.ofInt IntKind.i64.bits 127).toNat:Int)=(ones x:Int):=by
  rw [e1]
  have:ones x<128:=by rw [← hps];exact Nat.mod_lt _ (by omega)
  exact IntWalk.i64_in _ ⟨by omega,by omega⟩
 rw [e2]
 exact ret1 rfl ⟨_,rfl,rfl,rfl⟩
end Go.Proofs.YtfpadnmdafiddaaGreatDoor
namespace Go.Proofs.YtfpadnmdafiddaaGreatDoor
open Go Go.RowKit Go.V
def onesW (l:List Nat):Nat:=(l.map ones).sum
theorem ones_le (x:Nat):ones x≤64:=by
 have h:∀ l:List Nat,(l.map ones8).sum≤8*l.length:=by
  intro l
  induction l with
  | nil=>simp
  | cons b l ih=>have:=ones8_le b;simp only [List.map_cons,List.sum_cons,List.length_cons];omega
 have:=h (bytes8 x)
 exact this
theorem onesW_le (l:List Nat):onesW l≤64*l.length:=by
 induction l with
 | nil=>simp [onesW]
 | cons b l ih=>have:=ones_le b;simp only [onesW,List.map_cons,List.sum_cons,List.length_cons] at *;omega
theorem onesW_take {l:List Nat} {i x:Nat} (h:l[i]? = some x):onesW (l.take (i+1))=onesW (l.take i)+ones x:=by
 rw [List.take_add_one,h];simp [onesW]
theorem total_c (F:Nat→Prop) (a:Option Addr) (n c:Nat) (l:List Nat) (w:World) (hs:Sl F w 1 a n c (ws64 l)) (h64:∀ x∈l,x<18446744073709551616) (hn:n≤1000) :
  Calls Tryz.prog 86 #[.slice a n c] w (Ret λ v w'=>v=.int .i64 (onesW l:Int)∧w=w'):=by
 have hl:n=l.length:=by have:=hs.len;rw [length_ws64] at this;omega
 refine V.calls (args:=[_]) Tryz.func86 rfl Tryz.ntmps86 rfl rfl ?_
 repeat (first|(refine TL.isMove ?_;refine TL.pure rfl rfl ?_)|(refine TL.isAsg ?_;refine TL.pure rfl rfl ?_)|refine TL.nil ?_|refine thenQ_normal ?_|refine T.seq ?_|refine T.region ?_|refine T.block ?_|refine TL.len_slice rfl rfl ?_)
 refine T.loop (S:=Nat) (λ i=>[(8,.int .i64 (i:Int)),(7,.int .i64 (n:Int)),(6,.slice a n c),(3,.int .i64 (onesW (l.take i):Int))]) (λ i w'=>w=w'∧i≤n) (λ i=>n-i) 0 ⟨rfl,rfl,rfl,rfl,trivial⟩ ⟨rfl,by omega⟩ ?_
 rintro i _ ⟨rfl,hi⟩
 have hle:=onesW_le (l.take i)
 rw [List.length_take] at hle
 by_cases hlt:i<n
 ·obtain ⟨x,hx⟩:∃ x,l[i]? = some x:=⟨_,List.getElem?_eq_getElem (by omega)⟩
  have hx64:=h64 x (List.mem_of_getElem? hx)
  have hcell:w.cell? (at' a i)=some (.int .u64 (x:Int)):=hs.row.cell (by simp [ws64,hx])
  have hxo:=ones_le x
  repeat (first|(refine TL.isIndex ?_;refine TL.indexAddr (j:=i) rfl rfl rfl hlt (Nat.mul_one _) ⟨_,_,hs⟩ rfl ?_)|(refine TL.isFn 155 ?_;refine TL.call rfl (ones_c x hx64 _) rfl ?_;rintro _ _ ⟨rfl,rfl⟩)|(refine TL.isMove ?_;refine TL.pure rfl rfl ?_)|(refine TL.isAsg ?_;refine TL.pure rfl rfl ?_)|refine TL.load1 rfl yM rfl ?_|(refine TL.isAdd ?_;refine TL.addN rfl rfl (by omega) rfl ?_)|refine TL.nil ?_|refine thenQ_normal ?_|refine T.seq ?_|refine T.region ?_|refine T.block ?_|refine blockQ_normal ?_|(refine TL.isBin ?_;refine TL.pureT rfl yD rfl ?_)|refine T.cond_true rfl ?_|refine T.skip ?_)
  exact loopQ_normal (i+1) ⟨rfl,rfl,rfl,by rw [onesW_take hx];rfl,trivial⟩ ⟨rfl,by omega⟩ (by omega)
 obtain rfl:i=n:=by omega
 rw [List.take_of_length_le (by omega)]
 repeat (first|(refine TL.isMove ?_;refine TL.pure rfl rfl ?_)|(refine TL.isAsg ?_;refine TL.pure rfl rfl ?_)|refine TL.nil ?_|refine thenQ_normal ?_|refine T.seq ?_|refine T.region ?_|(refine TL.isBin ?_;refine TL.pureF rfl yD rfl ?_)|refine T.cond_false rfl ?_|refine T.ret ?_|refine T.exit ?_|refine thenQ_exit ?_|refine blockQ_hit ?_|refine loopQ_exit ?_)
 exact ret1 rfl ⟨_,rfl,rfl,rfl⟩
theorem spare_c {w:World} {L:PL} {g:Pg} (h:PgAt w L g) (hT:onesW g.words≤g.count) :
  Calls Tryz.prog 21 #[.pointer (some ⟨L.p,0,none⟩)] w (Ret λ v w'=>v=.int .i64 ((g.count-onesW g.words:Nat):Int)∧Grow w w'):=by
 refine V.calls (args:=[_]) Tryz.func21 rfl Tryz.ntmps21 rfl rfl ?_
 have hb:=h.blk
 have hu:=h.used
 have hcn:=h.cnt
 have hwl:=h.ok.wl
 unfold pgc at hb
 have hux:∀ w',Grow w w'→Sl (λ k=>k=L.u) w' 1 (some ⟨L.u,0,none⟩) g.words.length g.words.length (ws64 g.words):=λ w' gr=>sl_of_blk (sz:=1) (m:=g.words.length) (hu.grow gr) (by rw [length_ws64,Nat.mul_one]) (by unfold maxLen;omega)
 repeat (first|(refine TL.isFn 85 ?_;refine TL.call rfl (valid_c h) rfl ?_;rintro _ _ ⟨rfl,rfl⟩)|(refine TL.isMove ?_;refine TL.pure rfl rfl ?_)|(refine TL.isAsg ?_;refine TL.pure rfl rfl ?_)|refine TL.nil ?_|refine thenQ_normal ?_|refine T.seq ?_|refine T.region ?_|refine T.cond_false rfl ?_|refine T.skip ?_|refine TL.pure rfl rfl ?_)
 apply T.any 10 [is (.pointer (some ⟨L.p,0,none⟩)),is (.pointer (some ⟨L.p,0,none⟩)),is (.pointer (some ⟨L.p,2,none⟩)),is (.int .i64 (g.count:Int)),is (.pointer (some ⟨L.p,0,none⟩)),is (.pointer (some ⟨L.p,0,none⟩)),is (.pointer (some ⟨L.p,3,none⟩)),is (.slice (some ⟨L.u,0,none⟩) g.words.length g.words.length),is (.int .i64 (onesW g.words:Int)),is (.int .i64 ((g.count-onesW g.words:Nat):Int))]
 ·rfl
 ·repeat' (first|exact allDo_end|refine allDo_cons ?_ ?_)
  iterate 8
   ·(refine does_mk0 rfl rfl rfl ?_);( intro wq _ _ hgq;(repeat (refine need_cons rfl rfl ?_;intro vq hvq;try (obtain rfl:=hvq)));(refine need_nil ?_))
    repeat (first|(refine TL.isMove ?_;refine TL.pure rfl rfl ?_)|refine TL.load1 rfl yM rfl ?_|refine TL.fieldAddr rfl rfl ?_|refine TL.nil ?_|refine TL.nilCheck rfl rfl ?_)
    exact one_end rfl yG rfl
  ·(refine does_mk0 rfl rfl rfl ?_);( intro wq _ _ hgq;(repeat (refine need_cons rfl rfl ?_;intro vq hvq;try (obtain rfl:=hvq)));(refine need_nil ?_))
   repeat (first|(refine TL.isFn 86 ?_;refine TL.call rfl (total_c _ _ _ _ _ _ (hux _ hgq) h.ok.w64 (by omega)) rfl ?_;rintro _ _ ⟨rfl,rfl⟩)|refine TL.nil ?_)
   exact one_end rfl yG rfl
  ·(refine does_mk0 rfl rfl rfl ?_);( intro wq _ _ hgq;(repeat (refine need_cons rfl rfl ?_;intro vq hvq;try (obtain rfl:=hvq)));(refine need_nil ?_))
   refine TL.subN (a:=g.count) (b:=onesW g.words) rfl rfl hT (by omega) rfl ?_
   repeat (refine TL.nil ?_)
   exact one_end rfl yG rfl
 ·intro w6 lo6 hi6 hg6 _ _
  ((repeat (refine need_cons rfl rfl ?_;intro vq hvq;try (obtain rfl:=hvq)));(refine need_nil ?_))
  repeat (first|(refine TL.isAsg ?_;refine TL.pure rfl rfl ?_)|refine TL.nil ?_|refine thenQ_normal ?_|refine T.ret ?_)
  exact ret1 rfl ⟨_,rfl,rfl,hg6⟩
end Go.Proofs.YtfpadnmdafiddaaGreatDoor
