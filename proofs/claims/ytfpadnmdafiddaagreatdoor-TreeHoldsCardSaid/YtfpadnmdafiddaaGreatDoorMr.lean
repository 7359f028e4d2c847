import Derived.Test.YtfpadnmdafiddaaGreatDoorMp
import Derived.Test.YtfpadnmdafiddaaGreatDoorMq
set_option linter.all false
set_option maxHeartbeats 16000000
set_option maxRecDepth 100000
namespace Go.Proofs.YtfpadnmdafiddaaGreatDoor
open Go Go.RowKit Go.V
theorem chunk_c (a:Option Addr) (n c:Nat) (w:World) :
  Calls Tryz.prog 249 #[.slice a n c,.int .i64 128] w (Ret λ v w'=>∃ b1 b2,v=.func (.func 266) #[] #[.pointer (some ⟨b1,0,none⟩),.pointer (some ⟨b2,0,none⟩)] ∧
   w.heap.size≤b1∧w.heap.size≤b2∧Blk w' b1 30 [.slice a n c]∧Blk w' b2 3 [.int .i64 128]∧Grow w w'):=by
 refine V.calls (args:=[_,_]) Tryz.func249 rfl Tryz.ntmps249 rfl rfl ?_
 repeat (first|(refine mM ?_;refine TL.makeFunc (xs:=[]) (cs:=[_,_]) rfl rfl rfl ?_)|(refine aD ?_;refine TL.pure rfl rfl ?_)|refine aK rfl yM rfl ?_|refine TL.nil ?_|refine aA ?_|refine aJ ?_|refine aC ?_|(refine aH ?_;refine TL.pure rfl rfl ?_)|(refine cD ?_;(refine TL.box rfl rfl rfl ?_;intro bk w' hg hbk hsz hsz'))|refine aE rfl ?_|refine bE ?_|refine aW ?_)
 exact cI rfl ⟨_,rfl,_,_,rfl,by omega,by omega,yB,yB,yG⟩
theorem chunks_c (G:Nat→Prop) (l b1 b2 m:Nat) (a:Option Addr) (c:Nat) (bs:Bs) (J:Nat→World→Prop) (hl:bs.length=128*m) (hm:m≤1000000)
  (hpre:∀ k w,J k w→Blk w b1 30 [.slice a (128*m) c]∧Blk w b2 3 [.int .i64 128]∧Sl G w 1 a (128*m) c (cX bs))
  (hgr:∀ k w w',J k w→Grow w w'→J k w')
  (hround:∀ k w a',k<m→J k w→Sl G w 1 a' 128 128 (cX ((bs.drop (128*k)).take 128))→Yld Tryz.prog l [.slice a' 128 128] w (λ v w'=>v=.bool true∧J (k+1) w'))
  (w:World) (h0:J 0 w) :
  Calls Tryz.prog 266 #[.func (.yield l) #[] #[],.pointer (some ⟨b1,0,none⟩),.pointer (some ⟨b2,0,none⟩)] w (Ret λ _ w'=>J m w'):=by
 refine V.calls (args:=[_,_,_]) Tryz.func266 rfl Tryz.ntmps266 rfl rfl ?_
 repeat (first|(refine aD ?_;refine TL.pure rfl rfl ?_)|refine TL.nil ?_|refine aA ?_|refine aJ ?_|refine aC ?_|refine T.block ?_)
 refine cU (S:=Nat) (λ k=>[(4,.int .i64 ((128*k:Nat):Int)),(2,.pointer (some ⟨b2,0,none⟩)),(1,.pointer (some ⟨b1,0,none⟩)),(0,.func (.yield l) #[] #[])]) (λ k w1=>k≤m∧J k w1) (λ k=>m-k) 0 ⟨rfl,rfl,rfl,rfl,trivial⟩ ⟨by omega,h0⟩ ?_
 clear h0
 rintro k w1 ⟨hk,hj⟩
 obtain ⟨hb1,hb2,hs⟩:=hpre k w1 hj
 by_cases hlt:128*k<128*m
 rotate_left
 ·obtain rfl:k=m:=by omega
  repeat (first|(refine aB ?_;refine TL.pure rfl rfl ?_)|refine aK rfl yM rfl ?_|refine TL.nil ?_|refine aA ?_|refine aJ ?_|refine aC ?_|(refine aH ?_;refine aQ rfl yD rfl ?_)|refine aO rfl rfl ?_|refine aE rfl ?_|refine cV ?_|refine bN ?_|refine bP ?_|refine bO ?_)
  exact lT (vs:=[]) rfl rfl ⟨_,rfl,hj⟩
 have hcap:=hs.cap
 repeat (first|(refine aB ?_;refine TL.pure rfl rfl ?_)|refine aK rfl yM rfl ?_|refine TL.nil ?_|refine aA ?_|refine aJ ?_|refine aC ?_|refine T.block ?_|(refine aH ?_;refine aZ rfl yD rfl ?_)|refine aO rfl rfl ?_|refine aM rfl ?_|refine aW ?_)
 apply T.any 6 [is (.int .i64 ((128:Nat):Int)),is (.slice a (128*m) c),is (.int .i64 ((128*k:Nat):Int)),slF G 1 (128*m-128*k) (c-128*k) ((cX bs).drop (128*k)),is (.int .i64 ((128*m-128*k:Nat):Int)),is (.int .i64 ((128:Nat):Int))]
 ·rfl
 ·repeat' (first|exact bW|refine bU ?_ ?_)
  iterate 3
   ·(refine aR rfl rfl rfl ?_);( intro wq _ _ hgq;(repeat (refine aG rfl rfl ?_;intro vq hvq;try (obtain rfl:=hvq)));(refine aN ?_))
    repeat (first|(refine aB ?_;refine TL.pure rfl rfl ?_)|refine aK rfl yM rfl ?_|refine TL.nil ?_)
    exact aT rfl yG rfl
  ·(refine aR rfl rfl rfl ?_);( intro wq _ _ hgq;(repeat (refine aG rfl rfl ?_;intro vq hvq;try (obtain rfl:=hvq)));(refine aN ?_))
   refine TL.slice (l:=128*k) (h:=128*m) (mm:=c) rfl (hs.grow hgq) (dT rfl rfl) (cA _) (cA c) (λ _=>rfl) (by omega) (by omega) (by omega) (Nat.le_refl _) rfl ?_
   intro a' hsl _
   repeat (refine TL.nil ?_)
   refine aT rfl yG ⟨a',rfl,?_⟩
   rw [Nat.mul_one,Nat.mul_one,List.take_of_length_le (by rw [List.length_drop,dA,hl];omega)] at hsl
   exact hsl
  ·(refine aR rfl rfl rfl ?_);( intro wq _ _ hgq;(repeat (refine aG rfl rfl ?_;intro vq hvq;try (obtain rfl:=hvq)));(refine aN ?_))
   obtain ⟨a',rfl,hsl⟩:=hvq
   repeat (first|refine TL.nil ?_|refine aO rfl rfl ?_)
   exact aT rfl yG rfl
  ·(refine aR rfl rfl rfl ?_);( intro wq _ _ hgq;(repeat (refine aG rfl rfl ?_;intro vq hvq;try (obtain rfl:=hvq)));(refine aN ?_))
   refine TL.minV (r:=((128:Nat):Int)) rfl rfl (by split<;>omega) rfl ?_
   repeat (refine TL.nil ?_)
   exact aT rfl yG rfl
 ·intro w6 lo6 hi6 hg6 _ _
  ((repeat (refine aG rfl rfl ?_;intro vq hvq;try (obtain rfl:=hvq)));(refine aN ?_))
  repeat (first|(refine aB ?_;refine TL.pure rfl rfl ?_)|(refine aD ?_;refine TL.pure rfl rfl ?_)|refine aK rfl yM rfl ?_|(refine bL ?_;refine bT rfl rfl (by omega) rfl ?_)|refine TL.nil ?_|refine aA ?_|refine aJ ?_|refine aC ?_)
  have hj6:=hgr k _ _ hj hg6
  obtain ⟨hb16,hb26,hs6⟩:=hpre k _ hj6
  repeat (refine aJ ?_)
  refine TL.slice (l:=128*k) (h:=128*k+128) (mm:=128*k+128) rfl hs6 (dT rfl rfl) (dT rfl rfl) (dT rfl rfl) (by intro h;cases h) (by omega) (by omega) (by omega) (by omega) rfl ?_
  intro a' hsl _
  rw [show 128*k+128-128*k=128 by omega,Nat.mul_one,Nat.mul_one] at hsl
  rw [show 128*k+128-128*k=128 by omega]
  repeat (refine aJ ?_)
  refine TL.yield rfl rfl (hround k _ a' (by omega) hj6 (by simpa [cX,List.map_take,List.map_drop] using hsl)) rfl ?_
  rintro _ w7 ⟨rfl,hj7⟩
  obtain ⟨hb17,hb27,hs7⟩:=hpre (k+1) _ hj7
  repeat (first|(refine aB ?_;refine TL.pure rfl rfl ?_)|(refine aD ?_;refine TL.pure rfl rfl ?_)|refine aK rfl yM rfl ?_|(refine bL ?_;refine bT rfl rfl (by omega) rfl ?_)|refine TL.nil ?_|refine aA ?_|refine aC ?_|refine aS ?_|refine aE rfl ?_|refine aW ?_|refine TL.pure rfl rfl ?_)
  exact bG (k+1) ⟨rfl,rfl,rfl,rfl,trivial⟩ ⟨by omega,hj7⟩ (by omega)
end Go.Proofs.YtfpadnmdafiddaaGreatDoor
