import Derived.Test.YtfpadnmdafiddaaGreatDoorYp
import Derived.Test.YtfpadnmdafiddaaGreatDoorYq
set_option linter.all false
set_option maxHeartbeats 16000000
set_option maxRecDepth 100000
namespace Go.Proofs.YtfpadnmdafiddaaGreatDoor
open Go Go.RowKit Go.V
theorem chunk_c (a:Option Addr) (n c:Nat) (w:World) :
  Calls Tryz.prog 249 #[.slice a n c,.int .i64 128] w (Ret λ v w'=>∃ b1 b2,v=.func (.func 266) #[] #[.pointer (some ⟨b1,0,none⟩),.pointer (some ⟨b2,0,none⟩)] ∧
   w.heap.size≤b1∧w.heap.size≤b2∧Blk w' b1 30 [.slice a n c]∧Blk w' b2 3 [.int .i64 128]∧Grow w w'):=by
 refine V.calls (args:=[_,_]) Tryz.func249 rfl Tryz.ntmps249 rfl rfl ?_
 repeat (first|(refine TL.isMakeFunc ?_;refine TL.makeFunc (xs:=[]) (cs:=[_,_]) rfl rfl rfl ?_)|(refine TL.isAsg ?_;refine TL.pure rfl rfl ?_)|refine TL.load1 rfl yM rfl ?_|refine TL.nil ?_|refine thenQ_normal ?_|refine T.seq ?_|refine T.region ?_|(refine TL.isBin ?_;refine TL.pure rfl rfl ?_)|(refine TL.isBox ?_;(refine TL.box rfl rfl rfl ?_;intro bk w' hg hbk hsz hsz'))|refine T.cond_false rfl ?_|refine T.ret ?_|refine T.skip ?_)
 exact ret1 rfl ⟨_,rfl,_,_,rfl,by omega,by omega,yB,yB,yG⟩
theorem chunks_c (G:Nat→Prop) (l b1 b2 m:Nat) (a:Option Addr) (c:Nat) (bs:Bs) (J:Nat→World→Prop) (hl:bs.length=128*m) (hm:m≤1000000)
  (hpre:∀ k w,J k w→Blk w b1 30 [.slice a (128*m) c]∧Blk w b2 3 [.int .i64 128]∧Sl G w 1 a (128*m) c (bys bs))
  (hgr:∀ k w w',J k w→Grow w w'→J k w')
  (hround:∀ k w a',k<m→J k w→Sl G w 1 a' 128 128 (bys ((bs.drop (128*k)).take 128))→Yld Tryz.prog l [.slice a' 128 128] w (λ v w'=>v=.bool true∧J (k+1) w'))
  (w:World) (h0:J 0 w) :
  Calls Tryz.prog 266 #[.func (.yield l) #[] #[],.pointer (some ⟨b1,0,none⟩),.pointer (some ⟨b2,0,none⟩)] w (Ret λ _ w'=>J m w'):=by
 refine V.calls (args:=[_,_,_]) Tryz.func266 rfl Tryz.ntmps266 rfl rfl ?_
 repeat (first|(refine TL.isAsg ?_;refine TL.pure rfl rfl ?_)|refine TL.nil ?_|refine thenQ_normal ?_|refine T.seq ?_|refine T.region ?_|refine T.block ?_)
 refine T.loop (S:=Nat) (λ k=>[(4,.int .i64 ((128*k:Nat):Int)),(2,.pointer (some ⟨b2,0,none⟩)),(1,.pointer (some ⟨b1,0,none⟩)),(0,.func (.yield l) #[] #[])]) (λ k w1=>k≤m∧J k w1) (λ k=>m-k) 0 ⟨rfl,rfl,rfl,rfl,trivial⟩ ⟨by omega,h0⟩ ?_
 clear h0
 rintro k w1 ⟨hk,hj⟩
 obtain ⟨hb1,hb2,hs⟩:=hpre k w1 hj
 by_cases hlt:128*k<128*m
 rotate_left
 ·obtain rfl:k=m:=by omega
  repeat (first|(refine TL.isMove ?_;refine TL.pure rfl rfl ?_)|refine TL.load1 rfl yM rfl ?_|refine TL.nil ?_|refine thenQ_normal ?_|refine T.seq ?_|refine T.region ?_|(refine TL.isBin ?_;refine TL.pureF rfl yD rfl ?_)|refine TL.len_slice rfl rfl ?_|refine T.cond_false rfl ?_|refine T.exit ?_|refine thenQ_exit ?_|refine blockQ_hit ?_|refine loopQ_exit ?_)
  exact retQ_normal (vs:=[]) rfl rfl ⟨_,rfl,hj⟩
 have hcap:=hs.cap
 repeat (first|(refine TL.isMove ?_;refine TL.pure rfl rfl ?_)|refine TL.load1 rfl yM rfl ?_|refine TL.nil ?_|refine thenQ_normal ?_|refine T.seq ?_|refine T.region ?_|refine T.block ?_|(refine TL.isBin ?_;refine TL.pureT rfl yD rfl ?_)|refine TL.len_slice rfl rfl ?_|refine T.cond_true rfl ?_|refine T.skip ?_)
 apply T.any 6 [is (.int .i64 ((128:Nat):Int)),is (.slice a (128*m) c),is (.int .i64 ((128*k:Nat):Int)),slF G 1 (128*m-128*k) (c-128*k) ((bys bs).drop (128*k)),is (.int .i64 ((128*m-128*k:Nat):Int)),is (.int .i64 ((128:Nat):Int))]
 ·rfl
 ·repeat' (first|exact allDo_end|refine allDo_cons ?_ ?_)
  iterate 3
   ·(refine does_mk0 rfl rfl rfl ?_);( intro wq _ _ hgq;(repeat (refine need_cons rfl rfl ?_;intro vq hvq;try (obtain rfl:=hvq)));(refine need_nil ?_))
    repeat (first|(refine TL.isMove ?_;refine TL.pure rfl rfl ?_)|refine TL.load1 rfl yM rfl ?_|refine TL.nil ?_)
    exact one_end rfl yG rfl
  ·(refine does_mk0 rfl rfl rfl ?_);( intro wq _ _ hgq;(repeat (refine need_cons rfl rfl ?_;intro vq hvq;try (obtain rfl:=hvq)));(refine need_nil ?_))
   refine TL.slice (l:=128*k) (h:=128*m) (mm:=c) rfl (hs.grow hgq) (bnd_some rfl rfl) (bnd_none _) (bnd_none c) (λ _=>rfl) (by omega) (by omega) (by omega) (Nat.le_refl _) rfl ?_
   intro a' hsl _
   repeat (refine TL.nil ?_)
   refine one_end rfl yG ⟨a',rfl,?_⟩
   rw [Nat.mul_one,Nat.mul_one,List.take_of_length_le (by rw [List.length_drop,length_bys,hl];omega)] at hsl
   exact hsl
  ·(refine does_mk0 rfl rfl rfl ?_);( intro wq _ _ hgq;(repeat (refine need_cons rfl rfl ?_;intro vq hvq;try (obtain rfl:=hvq)));(refine need_nil ?_))
   obtain ⟨a',rfl,hsl⟩:=hvq
   repeat (first|refine TL.nil ?_|refine TL.len_slice rfl rfl ?_)
   exact one_end rfl yG rfl
  ·(refine does_mk0 rfl rfl rfl ?_);( intro wq _ _ hgq;(repeat (refine need_cons rfl rfl ?_;intro vq hvq;try (obtain rfl:=hvq)));(refine need_nil ?_))
   refine TL.minV (r:=((128:Nat):Int)) rfl rfl (by split<;>omega) rfl ?_
   repeat (refine TL.nil ?_)
   exact one_end rfl yG rfl
 ·intro w6 lo6 hi6 hg6 _ _
  ((repeat (refine need_cons rfl rfl ?_;intro vq hvq;try (obtain rfl:=hvq)));(refine need_nil ?_))
  repeat (first|(refine TL.isMove ?_;refine TL.pure rfl rfl ?_)|(refine TL.isAsg ?_;refine TL.pure rfl rfl ?_)|refine TL.load1 rfl yM rfl ?_|(refine TL.isAdd ?_;refine TL.addN rfl rfl (by omega) rfl ?_)|refine TL.nil ?_|refine thenQ_normal ?_|refine T.seq ?_|refine T.region ?_)
  have hj6:=hgr k _ _ hj hg6
  obtain ⟨hb16,hb26,hs6⟩:=hpre k _ hj6
  repeat (refine T.seq ?_)
  refine TL.slice (l:=128*k) (h:=128*k+128) (mm:=128*k+128) rfl hs6 (bnd_some rfl rfl) (bnd_some rfl rfl) (bnd_some rfl rfl) (by intro h;cases h) (by omega) (by omega) (by omega) (by omega) rfl ?_
  intro a' hsl _
  rw [show 128*k+128-128*k=128 by omega,Nat.mul_one,Nat.mul_one] at hsl
  rw [show 128*k+128-128*k=128 by omega]
  repeat (refine T.seq ?_)
  refine TL.yield rfl rfl (hround k _ a' (by omega) hj6 (by simpa [bys,List.map_take,List.map_drop] using hsl)) rfl ?_
  rintro _ w7 ⟨rfl,hj7⟩
  obtain ⟨hb17,hb27,hs7⟩:=hpre (k+1) _ hj7
  repeat (first|(refine TL.isMove ?_;refine TL.pure rfl rfl ?_)|(refine TL.isAsg ?_;refine TL.pure rfl rfl ?_)|refine TL.load1 rfl yM rfl ?_|(refine TL.isAdd ?_;refine TL.addN rfl rfl (by omega) rfl ?_)|refine TL.nil ?_|refine thenQ_normal ?_|refine T.region ?_|refine blockQ_normal ?_|refine T.cond_false rfl ?_|refine T.skip ?_|refine TL.pure rfl rfl ?_)
  exact loopQ_normal (k+1) ⟨rfl,rfl,rfl,rfl,trivial⟩ ⟨by omega,hj7⟩ (by omega)
end Go.Proofs.YtfpadnmdafiddaaGreatDoor
