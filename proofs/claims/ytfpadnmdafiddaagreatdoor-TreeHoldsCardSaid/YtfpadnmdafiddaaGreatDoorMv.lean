import Derived.Test.YtfpadnmdafiddaaGreatDoorMt
import Derived.Test.YtfpadnmdafiddaaGreatDoorMu
set_option linter.all false
set_option maxHeartbeats 16000000
set_option maxRecDepth 100000
namespace Go.Proofs.YtfpadnmdafiddaaGreatDoor
open Go Go.RowKit Go.V
theorem ones_c (x:Nat) (hx:x<18446744073709551616) (w:World):Calls Tryz.prog 155 #[.int .u64 (x:Int)] w (Ret λ v w'=>v=.int .i64 (ones x:Int)∧w=w'):=by
 refine V.calls (args:=[_]) Tryz.func155 rfl Tryz.ntmps155 rfl rfl ?_
 obtain ⟨y,z,v,hy,hz,hv,by1,bz,bv,hval⟩:=pop_masks x hx
 have hps:=pop_sum x v hval
 repeat (first|(refine TL.isAndW ?_;refine TL.andN6 rfl rfl (by omega) (by omega) rfl ?_)|(refine bL ?_;first|(refine TL.addU rfl rfl rfl (by rw [hy];exact by1) rfl ?_;rw [hy])|(refine TL.addU rfl rfl rfl (by rw [hz];omega) rfl ?_;rw [hz]))|(refine aB ?_;refine TL.pure rfl rfl ?_)|(refine aD ?_;refine TL.pure rfl rfl ?_)|(refine bL ?_;first|refine TL.addU rfl rfl rfl (by omega) rfl ?_|refine TL.addW rfl rfl rfl rfl ?_)|refine TL.nil ?_|refine aA ?_|refine aJ ?_|refine aC ?_|(refine fZ ?_;refine jL rfl rfl (by (simp only [IntKind.bits];omega)) rfl ?_))
 have hv':z / 2^4+z&&&1085102592571150095=v:=hv
 rw [hv']
 obtain ⟨D1,hD1⟩:∃ D1,D1=v+v / 256:=⟨_,rfl⟩
 obtain ⟨D2,hD2⟩:∃ D2,D2=D1+D1 / 65536:=⟨_,rfl⟩
 obtain ⟨D3,hD3⟩:∃ D3,D3=D2+D2 / 4294967296:=⟨_,rfl⟩
 have b1:D1≤581000000000000000:=by omega
 have b2:D2≤582000000000000000:=by omega
 have b3:D3≤583000000000000000:=by omega
 have m1:(v+v / 2^8)%18446744073709551616=D1:=by rw [hD1];exact Nat.mod_eq_of_lt (by omega)
 rw [m1]
 have m2:(D1+D1 / 2^16)%18446744073709551616=D2:=by rw [hD2];exact Nat.mod_eq_of_lt (by omega)
 rw [m2]
 have m3:(D2+D2 / 2^32)%18446744073709551616=D3:=by rw [hD3];exact Nat.mod_eq_of_lt (by omega)
 rw [m3]
 rw [← hD1,← hD2,← hD3] at hps
 clear hD1 hD2 hD3 m1 m2 m3 hv' hv hy hz
 repeat (first|(refine cR ?_;refine lQ (a:=D3) rfl (by omega) rfl ?_)|(refine aD ?_;refine TL.pure rfl rfl ?_)|refine TL.nil ?_|refine aA ?_|(refine aH ?_;refine TL.pure rfl rfl ?_)|refine bE ?_)
 have e1:(BitVec.ofInt IntKind.i64.bits (D3:Int)&&&BitVec.ofInt IntKind.i64.bits 127).toNat=ones x:=by
  have q1:(BitVec.ofInt 64 (D3:Int)).toNat=D3:=by
   have:=Go.V.bits_nat (kd:=.u64) (M:=18446744073709551616) rfl D3
   rw [Nat.mod_eq_of_lt (by omega)] at this
   exact this
  have q2:(BitVec.ofInt 64 127).toNat=127:=by decide
  show (BitVec.ofInt 64 (D3:Int)&&&BitVec.ofInt 64 127).toNat=ones x
  rw [BitVec.toNat_and,q1,q2,and127,hps]
 have e2:IntKind.i64.wrap ((BitVec.ofInt IntKind.i64.bits (D3:Int)&&&BitVec.ofInt IntKind.i64.bits 127).toNat:Int)=(ones x:Int):=by
  rw [e1]
  have:ones x<128:=by rw [← hps];exact Nat.mod_lt _ (by omega)
  exact IntWalk.i64_in _ ⟨by omega,by omega⟩
 rw [e2]
 exact cI rfl ⟨_,rfl,rfl,rfl⟩
end Go.Proofs.YtfpadnmdafiddaaGreatDoor
namespace Go.Proofs.YtfpadnmdafiddaaGreatDoor
open Go Go.RowKit Go.V
def jD (l:List Nat):Nat:=(l.map ones).sum
theorem ones_le (x:Nat):ones x≤64:=by
 have h:∀ l:List Nat,(l.map mR).sum≤8*l.length:=by
  intro l
  induction l with
  | nil=>simp
  | cons b l ih=>have:=iM b;simp only [List.map_cons,List.sum_cons,List.length_cons];omega
 have:=h (fU x)
 exact this
theorem onesW_le (l:List Nat):jD l≤64*l.length:=by
 induction l with
 | nil=>simp [jD]
 | cons b l ih=>have:=ones_le b;simp only [jD,List.map_cons,List.sum_cons,List.length_cons] at *;omega
theorem onesW_take {l:List Nat} {i x:Nat} (h:l[i]? = some x):jD (l.take (i+1))=jD (l.take i)+ones x:=by
 rw [List.take_add_one,h];simp [jD]
theorem total_c (F:Nat→Prop) (a:Option Addr) (n c:Nat) (l:List Nat) (w:World) (hs:Sl F w 1 a n c (kC l)) (h64:∀ x∈l,x<18446744073709551616) (hn:n≤1000) :
  Calls Tryz.prog 86 #[.slice a n c] w (Ret λ v w'=>v=.int .i64 (jD l:Int)∧w=w'):=by
 have hl:n=l.length:=by have:=hs.len;rw [gQ] at this;omega
 refine V.calls (args:=[_]) Tryz.func86 rfl Tryz.ntmps86 rfl rfl ?_
 repeat (first|(refine aB ?_;refine TL.pure rfl rfl ?_)|(refine aD ?_;refine TL.pure rfl rfl ?_)|refine TL.nil ?_|refine aA ?_|refine aJ ?_|refine aC ?_|refine T.block ?_|refine aO rfl rfl ?_)
 refine cU (S:=Nat) (λ i=>[(8,.int .i64 (i:Int)),(7,.int .i64 (n:Int)),(6,.slice a n c),(3,.int .i64 (jD (l.take i):Int))]) (λ i w'=>w=w'∧i≤n) (λ i=>n-i) 0 ⟨rfl,rfl,rfl,rfl,trivial⟩ ⟨rfl,by omega⟩ ?_
 rintro i _ ⟨rfl,hi⟩
 have hle:=onesW_le (l.take i)
 rw [List.length_take] at hle
 by_cases hlt:i<n
 ·obtain ⟨x,hx⟩:∃ x,l[i]? = some x:=⟨_,List.getElem?_eq_getElem (by omega)⟩
  have hx64:=h64 x (List.mem_of_getElem? hx)
  have hcell:w.cell? (at' a i)=some (.int .u64 (x:Int)):=hs.row.cell (by simp [kC,hx])
  have hxo:=ones_le x
  repeat (first|(refine bC ?_;refine aV (j:=i) rfl rfl rfl hlt (Nat.mul_one _) ⟨_,_,hs⟩ rfl ?_)|(refine aL 155 ?_;refine aI rfl (ones_c x hx64 _) rfl ?_;rintro _ _ ⟨rfl,rfl⟩)|(refine aB ?_;refine TL.pure rfl rfl ?_)|(refine aD ?_;refine TL.pure rfl rfl ?_)|refine aK rfl yM rfl ?_|(refine bL ?_;refine bT rfl rfl (by omega) rfl ?_)|refine TL.nil ?_|refine aA ?_|refine aJ ?_|refine aC ?_|refine T.block ?_|refine aS ?_|(refine aH ?_;refine aZ rfl yD rfl ?_)|refine aM rfl ?_|refine aW ?_)
  exact bG (i+1) ⟨rfl,rfl,rfl,by rw [onesW_take hx];rfl,trivial⟩ ⟨rfl,by omega⟩ (by omega)
 obtain rfl:i=n:=by omega
 rw [List.take_of_length_le (by omega)]
 repeat (first|(refine aB ?_;refine TL.pure rfl rfl ?_)|(refine aD ?_;refine TL.pure rfl rfl ?_)|refine TL.nil ?_|refine aA ?_|refine aJ ?_|refine aC ?_|(refine aH ?_;refine aQ rfl yD rfl ?_)|refine aE rfl ?_|refine bE ?_|refine cV ?_|refine bN ?_|refine bP ?_|refine bO ?_)
 exact cI rfl ⟨_,rfl,rfl,rfl⟩
theorem spare_c {w:World} {L:PL} {g:Pg} (h:PgAt w L g) (hT:jD g.words≤g.count) :
  Calls Tryz.prog 21 #[.pointer (some ⟨L.p,0,none⟩)] w (Ret λ v w'=>v=.int .i64 ((g.count-jD g.words:Nat):Int)∧Grow w w'):=by
 refine V.calls (args:=[_]) Tryz.func21 rfl Tryz.ntmps21 rfl rfl ?_
 have hb:=h.blk
 have hu:=h.used
 have hcn:=h.cnt
 have hwl:=h.ok.wl
 unfold pgc at hb
 have hux:∀ w',Grow w w'→Sl (λ k=>k=L.u) w' 1 (some ⟨L.u,0,none⟩) g.words.length g.words.length (kC g.words):=λ w' gr=>bR (sz:=1) (m:=g.words.length) (hu.grow gr) (by rw [gQ,Nat.mul_one]) (by unfold maxLen;omega)
 repeat (first|(refine aL 85 ?_;refine aI rfl (valid_c h) rfl ?_;rintro _ _ ⟨rfl,rfl⟩)|(refine aB ?_;refine TL.pure rfl rfl ?_)|(refine aD ?_;refine TL.pure rfl rfl ?_)|refine TL.nil ?_|refine aA ?_|refine aJ ?_|refine aC ?_|refine aE rfl ?_|refine aW ?_|refine TL.pure rfl rfl ?_)
 apply T.any 10 [is (.pointer (some ⟨L.p,0,none⟩)),is (.pointer (some ⟨L.p,0,none⟩)),is (.pointer (some ⟨L.p,2,none⟩)),is (.int .i64 (g.count:Int)),is (.pointer (some ⟨L.p,0,none⟩)),is (.pointer (some ⟨L.p,0,none⟩)),is (.pointer (some ⟨L.p,3,none⟩)),is (.slice (some ⟨L.u,0,none⟩) g.words.length g.words.length),is (.int .i64 (jD g.words:Int)),is (.int .i64 ((g.count-jD g.words:Nat):Int))]
 ·rfl
 ·repeat' (first|exact bW|refine bU ?_ ?_)
  iterate 8
   ·(refine aR rfl rfl rfl ?_);( intro wq _ _ hgq;(repeat (refine aG rfl rfl ?_;intro vq hvq;try (obtain rfl:=hvq)));(refine aN ?_))
    repeat (first|(refine aB ?_;refine TL.pure rfl rfl ?_)|refine aK rfl yM rfl ?_|refine aF rfl rfl ?_|refine TL.nil ?_|refine bM rfl rfl ?_)
    exact aT rfl yG rfl
  ·(refine aR rfl rfl rfl ?_);( intro wq _ _ hgq;(repeat (refine aG rfl rfl ?_;intro vq hvq;try (obtain rfl:=hvq)));(refine aN ?_))
   repeat (first|(refine aL 86 ?_;refine aI rfl (total_c _ _ _ _ _ _ (hux _ hgq) h.ok.w64 (by omega)) rfl ?_;rintro _ _ ⟨rfl,rfl⟩)|refine TL.nil ?_)
   exact aT rfl yG rfl
  ·(refine aR rfl rfl rfl ?_);( intro wq _ _ hgq;(repeat (refine aG rfl rfl ?_;intro vq hvq;try (obtain rfl:=hvq)));(refine aN ?_))
   refine dN (a:=g.count) (b:=jD g.words) rfl rfl hT (by omega) rfl ?_
   repeat (refine TL.nil ?_)
   exact aT rfl yG rfl
 ·intro w6 lo6 hi6 hg6 _ _
  ((repeat (refine aG rfl rfl ?_;intro vq hvq;try (obtain rfl:=hvq)));(refine aN ?_))
  repeat (first|(refine aD ?_;refine TL.pure rfl rfl ?_)|refine TL.nil ?_|refine aA ?_|refine bE ?_)
  exact cI rfl ⟨_,rfl,rfl,hg6⟩
end Go.Proofs.YtfpadnmdafiddaaGreatDoor
