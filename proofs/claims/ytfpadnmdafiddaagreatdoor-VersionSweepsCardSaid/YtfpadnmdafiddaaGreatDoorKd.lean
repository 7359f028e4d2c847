import Derived.Test.YtfpadnmdafiddaaGreatDoorKc
import Derived.Lib.AppendZeros
set_option linter.all false
set_option maxHeartbeats 16000000
set_option maxRecDepth 100000
namespace Go.V
open Go Go.RowKit
section
variable [Rn]
variable {P:Program} {n:Nat} {e:dN} {w:World} {Q:dO} {ops:Array Oper} {rest:List Oper} {d:Nat} {ty:TypeId} {pos:String} {aft:Array Edge}
theorem TL.andN6 {x y:Operand} {a b:Nat} {zx zy:Int} {t1 t2:TypeId} (hx:val e x=some (.int .u64 zx)) [ix:Lit zx a] (hy:val e y=some (.int .u64 zy)) [iy:Lit zy b] (ha:a<18446744073709551616) (hb:b<18446744073709551616) (hd:Nat.blt d n=true)
  (k:TL P n ops rest ((d,.int .u64 ((a&&&b:Nat):Int))::e) w Q):TL P n ops (⟨some d,.binOp .and t1 x y t2,ty,pos,aft,none⟩::rest) e w Q :=
 TL.run (λ r hr=>by
  rw [ix.h] at hx;rw [iy.h] at hy
  have e1:((BitVec.ofInt IntKind.u64.bits (a:Int))&&&(BitVec.ofInt IntKind.u64.bits (b:Int))).toNat=a&&&b:=by
   rw [BitVec.toNat_and,bits_nat (M:=18446744073709551616) rfl,bits_nat (M:=18446744073709551616) rfl,Nat.mod_eq_of_lt ha,Nat.mod_eq_of_lt hb]
  have e2:=eW (kd:=.u64) (M:=18446744073709551616) rfl (show a&&&b<18446744073709551616 from Nat.lt_of_le_of_lt Nat.and_le_left ha)
  rw [← e1] at e2
  have hb:binOp .and t1 (.int .u64 (a:Int)) (.int .u64 (b:Int))=Pure.pure (.int .u64 ((a&&&b:Nat):Int)):=by
   simp only [binOp,Op.intBits,ne_eq,not_true_eq_false,if_false]
   rw [e2,e1]
  simp only [execOp,cC,hr.eval hx,hr.eval hy,hb]
  rfl) hd k
theorem TL.negN6 {x:Operand} {a:Nat} {zx:Int} {t1:TypeId} (hx:val e x=some (.int .u64 zx)) [ix:Lit zx a] (h0:0<a) (ha:a<18446744073709551616) (hd:Nat.blt d n=true)
  (k:TL P n ops rest ((d,.int .u64 ((18446744073709551616-a:Nat):Int))::e) w Q):TL P n ops (⟨some d,.unOp .neg t1 x,ty,pos,aft,none⟩::rest) e w Q :=
 TL.pure (by
  rw [ix.h] at hx
  simp only [pureOp,hx]
  have e1:IntKind.u64.wrap (0-(a:Int))=((18446744073709551616-a:Nat):Int):=by
   simp only [IntKind.wrap,IntKind.signed,IntKind.bits]
   simp
   omega
  rw [e1]) hd k
theorem TL.isAndW {x y:Operand} {t1 t2:TypeId} {d:Option Nat} (h:TL P n ops (⟨d,.binOp .and t1 x y t2,ty,pos,aft,none⟩::rest) e w Q):TL P n ops (⟨d,.binOp .and t1 x y t2,ty,pos,aft,none⟩::rest) e w Q:=h
theorem TL.notN6 {x:Operand} {a:Nat} {zx:Int} {t1:TypeId} (hx:val e x=some (.int .u64 zx)) [ix:Lit zx a] (ha:a<18446744073709551616) (hd:Nat.blt d n=true)
  (k:TL P n ops rest ((d,.int .u64 ((18446744073709551615-a:Nat):Int))::e) w Q):TL P n ops (⟨some d,.unOp .xor t1 x,ty,pos,aft,none⟩::rest) e w Q :=
 TL.run (λ r hr=>by
  rw [ix.h] at hx
  have e1:(BitVec.ofInt IntKind.u64.bits (18446744073709551615:Int) ^^^ BitVec.ofInt IntKind.u64.bits (a:Int)).toNat=18446744073709551615-a:=by
   have h1:BitVec.ofInt IntKind.u64.bits (18446744073709551615:Int)=(BitVec.allOnes 64:BitVec 64):=(by decide:BitVec.ofInt 64 18446744073709551615=BitVec.allOnes 64)
   rw [h1]
   show (BitVec.allOnes 64 ^^^ BitVec.ofInt 64 (a:Int)).toNat=_
   rw [BitVec.allOnes_xor,BitVec.toNat_not]
   have h2:(BitVec.ofInt 64 (a:Int)).toNat=a:=by
    have:=bits_nat (kd:=.u64) (M:=18446744073709551616) rfl a
    rw [Nat.mod_eq_of_lt ha] at this
    exact this
   rw [h2]
  have e2:=eW (kd:=.u64) (M:=18446744073709551616) rfl (show 18446744073709551615-a<18446744073709551616 by omega)
  rw [← e1] at e2
  have hb:Op.intBits .xor .u64 18446744073709551615 (a:Int)=Pure.pure (.int .u64 ((18446744073709551615-a:Nat):Int)):=by
   simp only [Op.intBits,ne_eq,not_true_eq_false,if_false]
   rw [e2,e1]
  have hs:(if IntKind.u64.signed=true then (-1:Int) else IntKind.u64.max)=18446744073709551615:=by decide
  simp only [execOp,hr.eval hx,Op.unary]
  rw [hs,hb]
  rfl) hd k
end
end Go.V
namespace Go.Proofs.YtfpadnmdafiddaaGreatDoor
open Go Go.RowKit Go.V
theorem odd_split:∀ (x:Nat),x≠0→∃ k m,x=2^k*(2*m+1):=by
 intro x
 induction x using Nat.strongRecOn with
 | _ x ih =>
  intro h
  by_cases h2:x%2=1
  ·exact ⟨0,x / 2,by omega⟩
  ·obtain ⟨k,m,hk⟩:=ih (x / 2) (by omega) (by omega)
   exact ⟨k+1,m,by rw [Nat.pow_succ,Nat.mul_comm (2^k) 2,Nat.mul_assoc,← hk];omega⟩
theorem mI (k m i:Nat):(2^k*(2*m+1)).testBit i=if i<k then false else if i=k then true else m.testBit (i-k-1):=by
 have h:=Nat.testBit_two_pow_mul_add (2*m+1) (b:=0) (i:=k) (Nat.two_pow_pos k) i
 rw [Nat.add_zero] at h
 rw [h]
 by_cases h1:i<k
 ·simp [h1]
 ·rw [if_neg h1,if_neg h1]
  by_cases h2:i=k
  ·subst h2;simp
  ·rw [if_neg h2]
   obtain ⟨t,ht⟩:∃ t,i-k=t+1:=⟨i-k-1,by omega⟩
   rw [ht,Nat.testBit_succ,show (2*m+1) / 2=m by omega]
   rfl
theorem bit_pred (k m i:Nat):(2^k*(2*m+1)-1).testBit i=if i<k then true else if i=k then false else m.testBit (i-k-1):=by
 have hp:=Nat.two_pow_pos k
 have e:2^k*(2*m+1)-1=2^k*(2*m)+(2^k-1):=by rw [Nat.mul_add,Nat.mul_one];omega
 rw [e,Nat.testBit_two_pow_mul_add (2*m) (b:=2^k-1) (i:=k) (by omega) i]
 by_cases h1:i<k
 ·simp [h1,Nat.testBit_two_pow_sub_one]
 ·rw [if_neg h1,if_neg h1]
  by_cases h2:i=k
  ·subst h2;simp
  ·rw [if_neg h2]
   obtain ⟨t,ht⟩:∃ t,i-k=t+1:=⟨i-k-1,by omega⟩
   rw [ht,Nat.testBit_succ,show (2*m) / 2=m by omega]
   rfl
theorem low_bit (k m:Nat) (h:2^k*(2*m+1)<18446744073709551616):(2^k*(2*m+1))&&&(18446744073709551616-2^k*(2*m+1))=2^k:=by
 apply Nat.eq_of_testBit_eq
 intro i
 have hp:=Nat.two_pow_pos k
 have hpos:0<2^k*(2*m+1):=Nat.mul_pos hp (by omega)
 have e:18446744073709551616-2^k*(2*m+1)=2^64-((2^k*(2*m+1)-1)+1):=by
  rw [Nat.sub_add_cancel hpos]
 rw [Nat.testBit_and,e,Nat.testBit_two_pow_sub_succ (by omega),mI,bit_pred,Nat.testBit_two_pow]
 have hk64:k<64:=by
  rcases Nat.lt_or_ge k 64 with h1|h1
  ·exact h1
  ·have h2:2^64≤2^k:=Nat.pow_le_pow_right (by omega) h1
   have h3:2^k*1≤2^k*(2*m+1):=Nat.mul_le_mul_left _ (by omega)
   have h4:(2:Nat)^64=18446744073709551616:=by decide
   omega
 by_cases h1:i<k
 ·simp [h1];omega
 ·by_cases h2:i=k
  ·subst h2;simp [hk64]
  ·simp only [h1,h2,if_false]
   cases m.testBit (i-k-1)<;>simp<;>omega
end Go.Proofs.YtfpadnmdafiddaaGreatDoor
namespace Go.Proofs.YtfpadnmdafiddaaGreatDoor
open Go Go.RowKit Go.V
def tabB:Bs:=[0,1,56,2,57,49,28,3,61,58,42,50,38,29,17,4,62,47,59,36,45,43,51,22,53,39,33,30,24,18,12,5,63,55,48,27,60,41,37,16,46,35,44,21,52,32,23,11,54,26,40,15,34,20,31,10,25,14,19,9,13,8,7,6]
def TabAt (w:World):Prop:=0<w.heap.size∧∀ (j x:Nat),tabB[j]? = some x→w.cell? ⟨0,j,none⟩=some (.int .u8 (x:Int))
theorem TabAt.keep {w w':World} (h:TabAt w) (h0:w'.heap[0]? = w.heap[0]?) (hs:w.heap.size≤w'.heap.size):TabAt w' :=
 ⟨Nat.lt_of_lt_of_le h.1 hs,λ j x hj=>(World.cell?_of_block (w:=w) (a:=⟨0,j,none⟩) h0).trans (h.2 j x hj)⟩
theorem TabAt.grow {w w':World} (h:TabAt w) (g:Grow w w'):TabAt w':=h.keep (g.block 0 h.1) g.size
theorem TabAt.but {w w':World} {b:Nat} (h:TabAt w) (u:But b w w') (hb:b≠0):TabAt w':=h.keep (u.block 0 h.1 (by omega)) u.size
theorem tab_at:∀ k:Fin 64,2^k.val*285870213051353865%18446744073709551616 / 288230376151711744<64∧tabB[2^k.val*285870213051353865%18446744073709551616 / 288230376151711744]? = some k.val:=by decide +kernel
theorem tz0_c (w:World):Calls Tryz.prog 102 #[.int .u64 0] w (Ret λ v w'=>v=.int .i64 64∧w=w'):=by
 refine V.calls (args:=[_]) Tryz.func102 rfl Tryz.ntmps102 rfl rfl ?_
 repeat (first|(refine aB ?_;refine TL.pure rfl rfl ?_)|(refine aD ?_;refine TL.pure rfl rfl ?_)|refine TL.nil ?_|refine aA ?_|refine aJ ?_|refine aC ?_|(refine aH ?_;refine TL.pure rfl rfl ?_)|refine aN rfl ?_|refine bC ?_|refine bI ?_)
 exact cF rfl ⟨_,rfl,rfl,rfl⟩
theorem tz_c (k m:Nat) (h:2^k*(2*m+1)<18446744073709551616) (hk:k<64) (w:World) (ht:TabAt w):Calls Tryz.prog 102 #[.int .u64 ((2^k*(2*m+1):Nat):Int)] w (Ret λ v w'=>v=.int .i64 (k:Int)∧w=w'):=by
 refine V.calls (args:=[_]) Tryz.func102 rfl Tryz.ntmps102 rfl rfl ?_
 have hlb:=low_bit k m h
 have hpos:0<2^k*(2*m+1):=Nat.mul_pos (Nat.two_pow_pos k) (by omega)
 have htab:=tab_at ⟨k,hk⟩
 simp only at htab
 generalize 2^k*(2*m+1)=x at *
 generalize hi:2^k*285870213051353865%18446744073709551616 / 288230376151711744=i at htab
 have hidx:2^k*285870213051353865%18446744073709551616 / 2^58=i:=hi
 have hcell:w.cell? ⟨0,i,none⟩=some (.int .u8 (k:Int)):=ht.2 i k htab.2
 repeat (first|(refine TL.isUn ?_;refine TL.negN6 rfl hpos h rfl ?_)|(refine TL.isAndW ?_;refine TL.andN6 rfl rfl h (by omega) rfl ?_;rw [hlb])|(refine aB ?_;refine TL.pure rfl rfl ?_)|(refine aD ?_;refine TL.pure rfl rfl ?_)|(refine bF ?_;refine eS rfl rfl (by omega) rfl ?_)|refine TL.mulW rfl rfl rfl rfl ?_|refine TL.nil ?_|refine aA ?_|refine aJ ?_|refine aC ?_|(refine fT ?_;refine jL rfl rfl (by (simp only [IntKind.bits];omega)) rfl ?_)|(refine aH ?_;refine aR rfl yD rfl ?_)|refine aE rfl ?_|refine aV ?_)
 rw [hidx]
 repeat (first|refine aK rfl hcell rfl ?_|(refine aD ?_;refine TL.pure rfl rfl ?_)|refine TL.nil ?_|refine aA ?_|(refine cZ ?_;refine lZ rfl (by omega) rfl ?_)|refine bC ?_)
 exact cF rfl ⟨_,rfl,rfl,rfl⟩
end Go.Proofs.YtfpadnmdafiddaaGreatDoor
namespace Go.Proofs.YtfpadnmdafiddaaGreatDoor
open Go Go.RowKit Go.V
theorem word_low (x:Nat) (h:x<18446744073709551616):x=18446744073709551615∨∃ k m,18446744073709551615-x=2^k*(2*m+1)∧k<64∧x.testBit k=false∧∀ i,i<k→x.testBit i=true:=by
 by_cases hx:x=18446744073709551615
 ·exact .inl hx
 ·right
  obtain ⟨k,m,hk⟩:=odd_split (18446744073709551615-x) (by omega)
  have hb:∀ i,i<64→x.testBit i = !(2^k*(2*m+1)).testBit i:=by
   intro i hi
   have e:2^k*(2*m+1)=2^64-(x+1):=by rw [← hk];omega
   rw [e,Nat.testBit_two_pow_sub_succ (by omega)]
   simp [hi]
  have hk64:k<64:=by
   rcases Nat.lt_or_ge k 64 with h1|h1
   ·exact h1
   ·have h2:2^64≤2^k:=Nat.pow_le_pow_right (by omega) h1
    have h3:2^k*1≤2^k*(2*m+1):=Nat.mul_le_mul_left _ (by omega)
    have h4:(2:Nat)^64=18446744073709551616:=by decide
    omega
  refine ⟨k,m,hk,hk64,?_,λ i hi=>?_⟩
  ·rw [hb k hk64,mI];simp
  ·rw [hb i (by omega),mI];simp [hi]
theorem ones_bit (i:Nat) (h:i<64):(18446744073709551615:Nat).testBit i=true:=by
 have:=Nat.testBit_two_pow_sub_one 64 i
 rw [show (2:Nat)^64-1=18446744073709551615 by decide] at this
 rw [this];simp [h]
theorem lowP_eq {g:Pg} {v:Nat} (hv:v≤g.count) (h1:∀ k,k<v→cV g k=true) (h2:v=g.count∨cV g v=false):lowP g=v:=by
 rcases Nat.lt_trichotomy (lowP g) v with h|h|h
 ·have:=lowP_free (s:=g) (by omega)
  rw [h1 _ h] at this
  cases this.2
 ·exact h
 ·have:=lowP_le g
  rcases h2 with h2|h2
  ·omega
  ·rw [lowP_used h] at h2;cases h2
theorem used_word {g:Pg} {i k:Nat} (hk:k<64) (h:64*i+k<g.count):cV g (64*i+k)=(g.words.getD i 0).testBit k:=by
 have e1:(64*i+k) / 64=i:=by omega
 have e2:(64*i+k)%64=k:=by omega
 simp [cV,h,e1,e2]
theorem lowest_c {w:World} {L:PL} {g:Pg} (h:PgAt w L g) (ht:TabAt w) :
  Calls Tryz.prog 122 #[.pointer (some ⟨L.p,0,none⟩)] w (Ret λ v w'=>v=.int .i64 (lowP g:Int)∧w=w'):=by
 refine V.calls (args:=[_]) Tryz.func122 rfl Tryz.ntmps122 rfl rfl ?_
 have hb:=h.blk
 have hu:=h.used
 have hcn:=h.cnt
 have hwl:=h.ok.wl
 unfold pgc at hb
 have hux:Sl (λ k=>k=L.u) w 1 (some ⟨L.u,0,none⟩) g.words.length g.words.length (jY g.words):=bR (sz:=1) (m:=g.words.length) hu (by rw [fR,Nat.mul_one]) (by unfold maxLen;omega)
 repeat (first|(refine aB ?_;refine TL.pure rfl rfl ?_)|(refine aD ?_;refine TL.pure rfl rfl ?_)|refine aK rfl yM rfl ?_|refine aF rfl rfl ?_|refine TL.nil ?_|refine aA ?_|refine aJ ?_|refine aC ?_|refine T.block ?_|refine bL rfl rfl ?_|refine aO rfl rfl ?_)
 refine cM (S:=Nat) (λ i=>[(11,.int .i64 (i:Int)),(10,.int .i64 (g.words.length:Int)),(9,.slice (some ⟨L.u,0,none⟩) g.words.length g.words.length),(0,.pointer (some ⟨L.p,0,none⟩))]) (λ i w'=>w=w'∧i≤g.words.length∧∀ j,j<i→g.words.getD j 0=18446744073709551615) (λ i=>g.words.length-i) 0 ⟨rfl,rfl,rfl,rfl,trivial⟩ ⟨rfl,by omega,λ j hj=>by omega⟩ ?_
 rintro i _ ⟨rfl,hi,hall⟩
 have hbefore:∀ k,k<64*i→k<g.count→cV g k=true:=λ k hk hc=>by
  have:=used_word (g:=g) (i:=k / 64) (k:=k%64) (by omega) (by omega)
  rw [show 64*(k / 64)+k%64=k by omega,hall (k / 64) (by omega),ones_bit _ (by omega)] at this
  exact this
 by_cases hlt:i<g.words.length
 rotate_left
 ·have hlow:lowP g=g.count:=lowP_eq (Nat.le_refl _) (λ k hk=>hbefore k (by omega) hk) (.inl rfl)
  rw [hlow]
  repeat (first|(refine aB ?_;refine TL.pure rfl rfl ?_)|(refine aD ?_;refine TL.pure rfl rfl ?_)|refine aK rfl yM rfl ?_|refine aF rfl rfl ?_|refine TL.nil ?_|refine aA ?_|refine aJ ?_|refine aC ?_|(refine aH ?_;refine aR rfl yD rfl ?_)|refine bL rfl rfl ?_|refine aE rfl ?_|refine bC ?_|refine cN ?_|refine bM ?_|refine bO ?_|refine bN ?_)
  exact cF rfl ⟨_,rfl,rfl,rfl⟩
 have hx64:g.words.getD i 0<18446744073709551616:=by
  rw [List.getD_eq_getElem?_getD,List.getElem?_eq_getElem hlt];exact h.ok.w64 _ (List.getElem_mem _)
 have hcell:w.cell? (at' (some ⟨L.u,0,none⟩) i)=some (.int .u64 ((g.words.getD i 0:Nat):Int)):=hux.row.cell (ws64_at hlt)
 have huw:=λ k (hk:k<64) (hc:64*i+k<g.count)=>used_word (g:=g) (i:=i) hk hc
 obtain ⟨x,hx⟩:∃ x,x=g.words.getD i 0:=⟨_,rfl⟩
 rw [← hx] at hcell hx64 huw
 rcases word_low x hx64 with hfull|⟨k,m,hk,hk64,hk0,hk1⟩
 ·subst hfull
  repeat (first|(refine bF ?_;refine aW (j:=i) rfl rfl rfl hlt (Nat.mul_one _) ⟨_,_,hux⟩ rfl ?_)|(refine TL.isUn ?_;refine TL.notN6 rfl hx64 rfl ?_)|(refine aL 102 ?_;refine aI rfl (tz0_c _) rfl ?_;rintro _ _ ⟨rfl,rfl⟩)|(refine gU ?_;refine gZ (a:=64) rfl rfl (by omega) rfl ?_)|(refine aB ?_;refine TL.pure rfl rfl ?_)|(refine aD ?_;refine TL.pure rfl rfl ?_)|refine aK rfl yM rfl ?_|(refine bJ ?_;refine bT rfl rfl (by omega) rfl ?_)|refine TL.nil ?_|refine aA ?_|refine aJ ?_|refine aC ?_|refine T.block ?_|refine aT ?_|(refine aH ?_;first|refine bA rfl yD rfl ?_|refine aR rfl yD rfl ?_)|refine aN rfl ?_|refine aE rfl ?_|refine aV ?_)
  exact bG (i+1) ⟨rfl,rfl,rfl,rfl,trivial⟩ ⟨rfl,by omega,λ j hj=>by
   by_cases hj2:j=i
   ·subst hj2;exact hx.symm
   ·exact hall j (by omega)⟩ (by omega)
 ·have hlow:lowP g=min (64*i+k) g.count:=by
   by_cases hc:64*i+k<g.count
   ·rw [Nat.min_eq_left (by omega)]
    refine lowP_eq (by omega) (λ j hj=>?_) (.inr ?_)
    ·by_cases hji:j<64*i
     ·exact hbefore j hji (by omega)
     ·have:=huw (j-64*i) (by omega) (by omega)
      rw [show 64*i+(j-64*i)=j by omega,hk1 _ (by omega)] at this
      exact this
    ·rw [huw k hk64 hc,hk0]
   ·rw [Nat.min_eq_right (by omega)]
    refine lowP_eq (Nat.le_refl _) (λ j hj=>?_) (.inl rfl)
    by_cases hji:j<64*i
    ·exact hbefore j hji hj
    ·have:=huw (j-64*i) (by omega) (by omega)
     rw [show 64*i+(j-64*i)=j by omega,hk1 _ (by omega)] at this
     exact this
  rw [hlow]
  repeat (first|(refine bF ?_;refine aW (j:=i) rfl rfl rfl hlt (Nat.mul_one _) ⟨_,_,hux⟩ rfl ?_)|(refine TL.isUn ?_;refine TL.notN6 rfl hx64 rfl ?_;rw [hk])|(refine aL 102 ?_;refine aI rfl (tz_c k m (by omega) hk64 _ ht) rfl ?_;rintro _ _ ⟨rfl,rfl⟩)|(refine gU ?_;refine gZ (a:=64) rfl rfl (by omega) rfl ?_)|(refine lG ?_;refine TL.minV (r:=((min (64*i+k) g.count:Nat):Int)) rfl rfl (by split<;>omega) rfl ?_)|(refine aB ?_;refine TL.pure rfl rfl ?_)|(refine aD ?_;refine TL.pure rfl rfl ?_)|refine aK rfl yM rfl ?_|refine aF rfl rfl ?_|(refine bJ ?_;refine bT rfl rfl (by omega) rfl ?_)|refine TL.nil ?_|refine aA ?_|refine aJ ?_|refine aC ?_|refine T.block ?_|(refine aH ?_;refine bA rfl yD rfl ?_)|refine bL rfl rfl ?_|refine aN rfl ?_|refine bC ?_|refine aV ?_|refine bI ?_|refine dB ?_|refine dW ?_)
  exact cF rfl ⟨_,rfl,rfl,rfl⟩
end Go.Proofs.YtfpadnmdafiddaaGreatDoor
namespace Go.Proofs.YtfpadnmdafiddaaGreatDoor
open Go Go.RowKit Go.V
structure ButS (S:Nat→Prop) (w w':World):Prop where
 os:w'.os=w.os
 tape:w'.tape=w.tape
 output:w'.output=w.output
 size:w.heap.size≤w'.heap.size
 block:∀ k,k<w.heap.size→¬ S k→w'.heap[k]? = w.heap[k]?
theorem ButS.refl (S:Nat→Prop) (w:World):ButS S w w:=⟨rfl,rfl,rfl,Nat.le_refl _,λ _ _ _=>rfl⟩
theorem ButS.trans {S:Nat→Prop} {a b c:World} (h:ButS S a b) (k:ButS S b c):ButS S a c :=
 ⟨k.os.trans h.os,k.tape.trans h.tape,k.output.trans h.output,Nat.le_trans h.size k.size,λ i hi hs=>(k.block i (Nat.lt_of_lt_of_le hi h.size) hs).trans (h.block i hi hs)⟩
theorem ButS.grow {S:Nat→Prop} {w w':World} (g:Grow w w'):ButS S w w':=⟨g.1.os,g.1.tape,g.1.output,g.2,λ k hk _=>g.block k hk⟩
theorem ButS.but {S:Nat→Prop} {w w':World} {b:Nat} (u:But b w w') (hb:S b):ButS S w w':=⟨u.os,u.tape,u.output,u.size,λ k hk hs=>u.block k hk (λ e=>hs (e▸hb))⟩
theorem ButS.upd {S:Nat→Prop} {w0 w w':World} {b:Nat} (h:ButS S w0 w) (u:Upd b w w') (hb:w0.heap.size≤b):ButS S w0 w' :=
 ⟨u.os.trans h.os,u.tape.trans h.tape,u.output.trans h.output,by rw [u.size];exact h.size,λ k hk hs=>(u.block k (by omega)).trans (h.block k hk hs)⟩
theorem Carry.buts {S F:Nat→Prop} {w w':World} (u:ButS S w w') (hb:∀ k,F k→k<w.heap.size→¬ S k):Carry F w F w':=⟨u.size,λ k hk h=>⟨hk,u.block k h (hb k hk h)⟩⟩
theorem dC {S:Nat→Prop} {w w':World} {b:Nat} {t:TypeId} {cs:List Value} (h:Blk w b t cs) (u:ButS S w w') (hb:¬ S b):Blk w' b t cs:=by
 have hl:=h.lt
 unfold Blk at *
 rw [u.block b hl hb];exact h
theorem TabAt.buts {S:Nat→Prop} {w w':World} (h:TabAt w) (u:ButS S w w') (hb:¬ S 0):TabAt w':=h.keep (u.block 0 h.1 hb) u.size
def PL.S (L:PL) (k:Nat):Prop:=k=L.u∨k=L.m∨k=L.p
theorem PgAt.grow {w w':World} {L:PL} {g:Pg} (h:PgAt w L g) (gr:Grow w w'):PgAt w' L g:=by
 obtain ⟨f,h1,h2⟩:=h.f
 exact ⟨h.blk.grow gr,h.used.grow gr,h.ok,h.cnt,⟨f,h1.grow gr,h2⟩,h.lt,h.bl,h.ne⟩
theorem PgAt.upd {w w':World} {L:PL} {g:Pg} {b:Nat} (h:PgAt w L g) (u:Upd b w w') (hb:b≠L.p∧b≠L.d∧b≠L.u∧b≠L.m):PgAt w' L g:=by
 obtain ⟨f,h1,h2⟩:=h.f
 exact ⟨h.blk.upd u (Ne.symm hb.1),h.used.upd u (Ne.symm hb.2.2.1),h.ok,h.cnt,⟨f,h1.keep (u.block _ (Ne.symm hb.2.1)) (u.block _ (Ne.symm hb.2.2.2)),h2⟩,h.lt,h.bl,h.ne⟩
theorem PgAt.lts {w:World} {L:PL} {g:Pg} (h:PgAt w L g):L.p<w.heap.size∧L.d<w.heap.size∧L.u<w.heap.size∧L.m<w.heap.size:=by
 obtain ⟨f,h1,h2⟩:=h.f
 exact ⟨h.blk.lt,h1.blk.lt,h.used.lt,h1.map.lt⟩
theorem body500_idem (b:Bs) (h:b.length≤500):eA (eA b)=eA b:=by
 have hl:=mE b h
 rw [show eA (eA b)=eA b++zs (500-(eA b).length) from rfl,hl]
 exact List.append_nil _
theorem pageB_body (n:Nat) (b:Bs) (h:b.length≤500):mD n (eA b)=mD n b:=by
 unfold mD;rw [body500_idem b h]
end Go.Proofs.YtfpadnmdafiddaaGreatDoor
namespace Go.Proofs.YtfpadnmdafiddaaGreatDoor
open Go Go.RowKit Go.V
theorem new_c {w:World} {L:PL} {g:Pg} (h:PgAt w L g) (ht:TabAt w) (F:Nat→Prop) (a:Option Addr) (m c:Nat) (b:Bs) (hs:Sl F w 1 a m c (cX b)) (hm:m≤500) (hbl:∀ x∈b,x<256) (n:Nat) (g':Pg) (hne:newP g b=some (n,g')) :
  Calls Tryz.prog 45 #[.pointer (some ⟨L.p,0,none⟩),.slice a m c] w (Ret λ v w'=>v=.tuple #[.int .i64 (n:Int),.int .i64 0]∧PgAt w' L g'∧ButS L.S w w'):=by
 have hnew:=newP_new h.ok hne
 have hlen:=iE hs
 have hlow:lowP g=n:=by
  unfold newP at hne
  simp only at hne
  split at hne
  ·cases hne
  ·cases hne;rfl
 have hgw:g'.words=gY g.words n:=by
  unfold newP at hne
  simp only at hne
  split at hne
  ·cases hne
  ·cases hne;rfl
 have hcn:=h.cnt
 have hlt:=hnew.lt
 have hlo:=lowest_c h ht
 rw [hlow] at hlo
 refine V.calls (args:=[_,_]) Tryz.func45 rfl Tryz.ntmps45 rfl rfl ?_
 have hb:=h.blk
 unfold pgc at hb
 repeat (first|(refine aL 85 ?_;refine aI rfl (valid_c h) rfl ?_;rintro _ _ ⟨rfl,rfl⟩)|(refine aL 122 ?_;refine aI rfl (hlo) rfl ?_;rintro _ _ ⟨rfl,rfl⟩)|(refine aB ?_;refine TL.pure rfl rfl ?_)|(refine aD ?_;refine TL.pure rfl rfl ?_)|refine aK rfl yM rfl ?_|refine aF rfl rfl ?_|refine TL.nil ?_|refine aA ?_|refine aJ ?_|refine aC ?_|(refine aH ?_;refine aR rfl yD rfl ?_)|refine bL rfl rfl ?_|refine aO rfl rfl ?_|refine aE rfl ?_|refine aV ?_|refine TL.pure rfl rfl ?_)
 refine aL 123 ?_
 refine aI rfl (page_c F n (by omega) a m c b _ hs hm hbl) rfl ?_
 rintro _ w2 ⟨rfl,hg2⟩
 have hlp:=length_pageB n b (by omega)
 obtain ⟨pg,hpg⟩:∃ pg,pg=mD n b:=⟨_,rfl⟩
 rw [← hpg] at hlp ⊢
 refine bD ?_
 refine iH 512 zero_page rfl ?_
 intro b7 w3 hg3 hb7 q1 q2
 refine iZ rfl rfl hb7 (dT _) hlp ?_
 intro w4 hu4 hb74 q3
 have h3:=h.grow (hg2.trans hg3)
 have hl:=h.lts
 have hz2:=hg2.size
 have h4:=h3.upd hu4 (by omega)
 have hbs4:ButS L.S w w4:=(ButS.grow (hg2.trans hg3)).upd hu4 (by omega)
 have hn7:b7≠L.p∧b7≠L.d∧b7≠L.u∧b7≠L.m:=by omega
 clear hb7 hg3 hg2 hu4 hb h3 hlo
 have hb:=h4.blk
 unfold pgc at hb
 obtain ⟨f,hd,hf⟩:=h4.f
 repeat (first|refine TL.nil ?_|refine aA ?_|refine aJ ?_)
 apply T.any 7 [is (.pointer (some ⟨L.p,0,none⟩)),is (.pointer (some ⟨L.p,0,none⟩)),is (.pointer (some ⟨L.p,1,none⟩)),is (.pointer (some ⟨L.d,0,none⟩)),is (.int .i64 (n:Int)),is (.int .i64 ((2*n:Nat):Int)),is (.slice (some ⟨b7,0,none⟩) 256 512)]
 ·rfl
 ·repeat' (first|exact bX|refine bU ?_ ?_)
  iterate 5
   ·(refine aQ rfl rfl rfl ?_);( intro wq _ _ hgq;(repeat (refine aG rfl rfl ?_;intro vq hvq;try (obtain rfl:=hvq)));(refine aM ?_))
    repeat (first|(refine aB ?_;refine TL.pure rfl rfl ?_)|refine aK rfl yM rfl ?_|refine aF rfl rfl ?_|refine TL.nil ?_|refine bL rfl rfl ?_)
    exact aS rfl yG rfl
  ·(refine aQ rfl rfl rfl ?_);( intro wq _ _ hgq;(repeat (refine aG rfl rfl ?_;intro vq hvq;try (obtain rfl:=hvq)));(refine aM ?_))
   refine gZ (a:=2) rfl rfl (by omega) rfl ?_
   repeat (refine TL.nil ?_)
   exact aS rfl yG rfl
  ·(refine aQ rfl rfl rfl ?_);( intro wq _ _ hgq;(repeat (refine aG rfl rfl ?_;intro vq hvq;try (obtain rfl:=hvq)));(refine aM ?_))
   repeat (first|refine TL.nil ?_|(refine eB ?_;refine eM rfl (bZ _) (jW rfl) (by omega) (by omega) (by omega) rfl rfl ?_))
   exact aS rfl yG rfl
 intro w5 lo5 hi5 hg5 _ _
 ((repeat (refine aG rfl rfl ?_;intro vq hvq;try (obtain rfl:=hvq)));(refine aM ?_))
 have hs5:=lI (o:=0) (m:=256) (c:=512) (hb74.grow hg5) (by omega) (by omega) (by decide)
 rw [List.drop_zero] at hs5
 refine aL 124 ?_
 refine aI rfl (dwrite_c (hd.grow hg5) (2*n) (by omega) _ _ 512 _ hs5) rfl ?_
 rintro v6 w6 ⟨hd6,hu6⟩
 have hb6:=eE hu6 (hb.grow hg5) h.ne.2.1
 have hb76:=eE hu6 (hb74.grow hg5) hn7.2.2.2
 have hus6:=eE hu6 (h4.used.grow hg5) h.ne.2.2.1
 have hbs6:ButS L.S w w6:=hbs4.trans ((ButS.grow hg5).trans (ButS.but hu6 (.inr (.inl rfl))))
 clear hb74 hs5 hu6 hbs4
 repeat (first|refine TL.nil ?_|refine aA ?_|refine aJ ?_)
 apply T.any 8 [is (.pointer (some ⟨L.p,0,none⟩)),is (.pointer (some ⟨L.p,0,none⟩)),is (.pointer (some ⟨L.p,1,none⟩)),is (.pointer (some ⟨L.d,0,none⟩)),is (.int .i64 (n:Int)),is (.int .i64 ((2*n:Nat):Int)),is (.int .i64 ((2*n+1:Nat):Int)),is (.slice (some ⟨b7,256,none⟩) 256 256)]
 ·rfl
 ·repeat' (first|exact bX|refine bU ?_ ?_)
  iterate 5
   ·(refine aQ rfl rfl rfl ?_);( intro wq _ _ hgq;(repeat (refine aG rfl rfl ?_;intro vq hvq;try (obtain rfl:=hvq)));(refine aM ?_))
    repeat (first|(refine aB ?_;refine TL.pure rfl rfl ?_)|refine aK rfl yM rfl ?_|refine aF rfl rfl ?_|refine TL.nil ?_|refine bL rfl rfl ?_)
    exact aS rfl yG rfl
  ·(refine aQ rfl rfl rfl ?_);( intro wq _ _ hgq;(repeat (refine aG rfl rfl ?_;intro vq hvq;try (obtain rfl:=hvq)));(refine aM ?_))
   refine gZ (a:=2) rfl rfl (by omega) rfl ?_
   repeat (refine TL.nil ?_)
   exact aS rfl yG rfl
  iterate 2
   ·(refine aQ rfl rfl rfl ?_);( intro wq _ _ hgq;(repeat (refine aG rfl rfl ?_;intro vq hvq;try (obtain rfl:=hvq)));(refine aM ?_))
    repeat (first|(refine bJ ?_;refine bT rfl rfl (by omega) rfl ?_)|refine TL.nil ?_|(refine eB ?_;refine eM rfl (jW rfl) (bZ _) (by omega) (by omega) (by omega) rfl rfl ?_))
    exact aS rfl yG rfl
 intro w7 lo7 hi7 hg7 _ _
 ((repeat (refine aG rfl rfl ?_;intro vq hvq;try (obtain rfl:=hvq)));(refine aM ?_))
 have hs7:=lI (o:=256) (m:=256) (c:=256) (hb76.grow hg7) (by omega) (by omega) (by decide)
 rw [List.take_of_length_le (by rw [List.length_drop];omega)] at hs7
 refine aL 124 ?_
 refine aI rfl (dwrite_c (hd6.grow hg7) (2*n+1) (by omega) _ _ 256 _ hs7) rfl ?_
 rintro v8 w8 ⟨hd8,hu8⟩
 have hb8:=eE hu8 (hb6.grow hg7) h.ne.2.1
 have hus8:=eE hu8 (hus6.grow hg7) h.ne.2.2.1
 have hbs8:ButS L.S w w8:=hbs6.trans ((ButS.grow hg7).trans (ButS.but hu8 (.inr (.inl rfl))))
 clear hs7 hu8 hbs6 hb76 hb6 hus6
 have hdv:=used_div h.ok hlt
 repeat (first|(refine aB ?_;refine TL.pure rfl rfl ?_)|refine TL.nil ?_|refine aA ?_|refine aJ ?_|refine aC ?_)
 refine aL 92 ?_
 refine aI rfl (mark_c hb8 hus8 rfl h.ok.w64 n hdv (by have:=h.ok.wl;omega)) rfl ?_
 rintro v9 w9 ⟨hus9,hu9⟩
 have hb9:=eE hu9 hb8 h.ne.1
 have hbs9:ButS L.S w w9:=hbs8.trans (ButS.but hu9 (.inl rfl))
 have hd9:DkAt w9 L.d L.s L.m (2*g.count) _:=hd8.keep (hu9.block _ hd8.blk.lt h.ne.2.2.2.1) (hu9.block _ hd8.map.lt (Ne.symm h.ne.2.2.1))
 repeat (first|(refine aB ?_;refine TL.pure rfl rfl ?_)|(refine aD ?_;refine TL.pure rfl rfl ?_)|refine TL.nil ?_|refine aA ?_|refine aJ ?_|refine aC ?_|refine bC ?_)
 refine jS rfl rfl ⟨_,rfl,rfl,⟨?_,?_,hnew.ok,by rw [hnew.count];exact h.cnt,⟨_,by rw [hnew.count];exact hd9,?_⟩,?_,?_,h.ne⟩,hbs9⟩
 ·unfold pgc;rw [hnew.count,hgw,show (gY g.words n).length=g.words.length by simp [gY]];exact hb9
 ·rw [hgw];exact hus9
 ·intro k hk
  rw [hnew.used] at hk
  by_cases hkn:k=n
  ·subst hkn
   rw [hnew.body,show padB b=eA b from rfl,pageB_body k b (by omega),← hpg]
   constructor
   ·simp [upF]
   ·simp [upF]
  ·have hk2:cV g k=true:=by simpa [hkn] using hk
   rw [hnew.other k hkn]
   have h1:=hf k hk2
   constructor
   ·simp only [upF]
    rw [if_neg (by omega),if_neg (by omega)]
    exact h1.1
   ·simp only [upF]
    rw [if_neg (by omega),if_neg (by omega)]
    exact h1.2
 ·intro k x hx
  by_cases hkn:k=n
  ·subst hkn
   rw [hnew.body] at hx
   exact body_lt hbl x hx
  ·rw [hnew.other k hkn] at hx
   exact h.lt k x hx
 ·intro k hk
  rw [hnew.used] at hk
  by_cases hkn:k=n
  ·subst hkn
   rw [hnew.body];exact mE b (by omega)
  ·rw [hnew.other k hkn]
   exact h.bl k (by simpa [hkn] using hk)
end Go.Proofs.YtfpadnmdafiddaaGreatDoor
namespace Go.Proofs.YtfpadnmdafiddaaGreatDoor
open Go Go.RowKit Go.V
theorem bclone_c (F:Nat→Prop) (ad:Addr) (m c:Nat) (l:Bs) (w:World) (hs:Sl F w 1 (some ad) m c (cX l)) (hm:m≤100000) :
  Calls Tryz.prog 130 #[.slice (some ad) m c] w (Ret λ v w'=>w'.ownsRow w.heap.size 5 1 v m (cX l)∧Grow w w'):=by
 refine V.calls (args:=[_]) Tryz.func130 rfl Tryz.ntmps130 rfl rfl ?_
 repeat (first|(refine aB ?_;refine TL.pure rfl rfl ?_)|(refine aD ?_;refine TL.pure rfl rfl ?_)|refine TL.nil ?_|refine aA ?_|refine aJ ?_|refine aC ?_|refine TL.eqNil rfl rfl rfl ?_|(refine mM ?_;(refine jM rfl ?_;intro bk w' hg hbk hsz hsz'))|refine aE rfl ?_|refine aV ?_)
 refine iU rfl rfl (own_empty (base:=w.heap.size) hbk (by omega)) (hs.grow yG) (dY l) (by omega) (by omega) rfl ?_
 intro v w2 hown hg2
 repeat (first|(refine aD ?_;refine TL.pure rfl rfl ?_)|refine TL.nil ?_|refine aA ?_|refine bC ?_)
 exact cF rfl ⟨_,rfl,hown,yG⟩
theorem read_neg {w:World} {L:PL} {g:Pg} (h:PgAt w L g) :
  Calls Tryz.prog 50 #[.pointer (some ⟨L.p,0,none⟩),.int .i64 (-1)] w (Ret λ v w'=>v=.tuple #[.slice none 0 0,.int .i64 6]∧w=w'):=by
 refine V.calls (args:=[_,_]) Tryz.func50 rfl Tryz.ntmps50 rfl rfl ?_
 repeat (first|(refine aL 128 ?_;refine aI rfl (pcheck_neg h) rfl ?_;rintro _ _ ⟨rfl,rfl⟩)|(refine aB ?_;refine TL.pure rfl rfl ?_)|(refine aD ?_;refine TL.pure rfl rfl ?_)|refine TL.nil ?_|refine aA ?_|refine aJ ?_|refine aC ?_|(refine aH ?_;refine TL.pure rfl rfl ?_)|refine aN rfl ?_|refine bC ?_|refine bI ?_)
 exact jS rfl rfl ⟨_,rfl,rfl,rfl⟩
theorem same_bys:∀ (l l':Bs),l.length=l'.length→kA (cX l) (cX l')
 | [],[],_=>trivial
 | [],_::_,h=>by cases h
 | _::_,[],h=>by cases h
 | x::l,y::l',h=>⟨rfl,same_bys l l' (by simpa using h)⟩
def readB (p:Bs) (i:Nat):Bs:=p.take (256*i)++zs (512-256*i)
theorem readB_step (p:Bs) (hl:p.length=512) (i:Nat) (hi:i<2):((p.drop (256*i)).take 256).length=256∧jD (cX (readB p i)) (i*256) (cX ((p.drop (256*i)).take 256))=cX (readB p (i+1)):=by
 have e:((p.drop (256*i)).take 256).length=256:=by rw [List.length_take,List.length_drop,hl];omega
 have e2:(p.take (256*i)).length=i*256:=by rw [List.length_take,hl];omega
 refine ⟨e,?_⟩
 rw [putAt_bys (by rw [e];simp only [readB,List.length_append,dT,e2];omega),e]
 have e3:(readB p i).take (i*256)=p.take (256*i):=List.take_left' e2
 have e4:(readB p i).drop (i*256+256)=zs (512-256*(i+1)):=by
  unfold readB zs
  rw [List.drop_append,List.drop_eq_nil_of_le (by omega),List.nil_append,List.drop_replicate,e2]
  have e5:512-256*i-(i*256+256-i*256)=512-256*(i+1):=by omega
  rw [e5]
 rw [e3,e4,← List.take_add,show 256*i+256=256*(i+1) by omega]
 rfl
theorem pread_c {w:World} {L:PL} {g:Pg} (h:PgAt w L g) (n:Nat) (hn:n<4294967296) (hu:cV g n=true) :
  Calls Tryz.prog 50 #[.pointer (some ⟨L.p,0,none⟩),.int .i64 (n:Int)] w (Ret λ v w'=>∃ u,v=.tuple #[u,.int .i64 0]∧w'.ownsRow w.heap.size 5 1 u 500 (cX (g.body n))∧Grow w w'):=by
 have hc:=pcheck_c h n (by omega)
 rw [hu] at hc
 simp only [if_true] at hc
 have hlt:n<g.count:=by
  rcases Nat.lt_or_ge n g.count with h1|h1
  ·exact h1
  ·simp [cV,Nat.not_lt.2 h1] at hu
 have hcn:=h.cnt
 have hbl:=h.bl n hu
 have hlp:=length_pageB n (g.body n) (by omega)
 refine V.calls (args:=[_,_]) Tryz.func50 rfl Tryz.ntmps50 rfl rfl ?_
 repeat (first|(refine aL 128 ?_;refine aI rfl (hc) rfl ?_;rintro _ _ ⟨rfl,rfl⟩)|(refine bD ?_;refine iH 512 zero_page rfl ?_;intro b7 w1 hg1 hb7 q1 q2)|(refine aB ?_;refine TL.pure rfl rfl ?_)|(refine aD ?_;refine TL.pure rfl rfl ?_)|refine TL.nil ?_|refine aA ?_|refine aJ ?_|refine aC ?_|refine T.block ?_|(refine aH ?_;refine aR rfl yD rfl ?_)|refine aE rfl ?_|refine aV ?_)
 have hpb:mD n (g.body n)=(mD n (g.body n)).take 12++g.body n:=by
  have e1:mD n (g.body n)=(shaB (fQ n++eA (g.body n))).take 12++eA (g.body n):=rfl
  have e2:eA (g.body n)=g.body n:=by
   show g.body n++zs (500-(g.body n).length)=g.body n
   rw [hbl];exact List.append_nil _
  rw [e1,e2,List.take_left' (by rw [List.length_take,length_shaB];rfl)]
 obtain ⟨f,hd,hf⟩:=h.f
 obtain ⟨hf1,hf2⟩:=hf n hu
 have hpage:=λ w F a c hs=>page_c F n (by omega) a 500 c (g.body n) w hs (Nat.le_refl _) (h.lt n)
 obtain ⟨p,hp⟩:∃ p,p=mD n (g.body n):=⟨_,rfl⟩
 rw [← hp] at hf1 hf2 hlp hpb hpage
 have hl:=h.lts
 refine cM (S:=Nat) (λ i=>[(17,.int .i64 (i:Int)),(7,.pointer (some ⟨b7,0,none⟩)),(1,.int .i64 (n:Int)),(0,.pointer (some ⟨L.p,0,none⟩))]) (λ i w2=>i≤2∧Blk w2 b7 197 (cX (readB p i))∧Grow w w2) (λ i=>2-i) 0 ⟨rfl,rfl,rfl,rfl,trivial⟩ ⟨by omega,by simpa [readB] using hb7,hg1⟩ ?_
 clear hb7
 rintro i w2 ⟨hi,hb7,hg2⟩
 have hz2:=hg2.size
 have h2:=h.grow hg2
 have hb:=h2.blk
 unfold pgc at hb
 have hrl:(readB p i).length=512:=by simp [readB,dT,hlp];omega
 by_cases hi2:i<2
 ·obtain ⟨hvl,hst⟩:=readB_step p hlp i hi2
  have hvs:f (2*n+i)=some (.agg (cX ((p.drop (256*i)).take 256)).toArray):=by
   obtain rfl|rfl:i=0∨i=1:=by omega
   ·exact hf1
   ·have:(p.drop (256*1)).take 256=p.drop 256:=List.take_of_length_le (by rw [List.length_drop,hlp];omega)
    rw [this];exact hf2
  generalize (p.drop (256*i)).take 256=vs at *
  repeat (first|(refine gU ?_;refine gZ (a:=2) rfl rfl (by omega) rfl ?_)|(refine aB ?_;refine TL.pure rfl rfl ?_)|(refine aD ?_;refine TL.pure rfl rfl ?_)|refine aK rfl yM rfl ?_|refine aF rfl rfl ?_|(refine bJ ?_;refine bT rfl rfl (by omega) rfl ?_)|refine TL.nil ?_|refine aA ?_|refine aJ ?_|refine aC ?_|refine T.block ?_|(refine aH ?_;refine bA rfl yD rfl ?_)|refine bL rfl rfl ?_|refine aN rfl ?_|refine aV ?_)
  refine aL 129 ?_
  refine aI rfl (dread_c (hd.grow hg2) (2*n+i) (by omega) vs hvs hvl) rfl ?_
  rintro _ w3 ⟨bs,rfl,hbs1,hbs2,hg3⟩
  repeat (first|(refine gU ?_;refine gZ (a:=i) (b:=256) rfl rfl (by omega) rfl ?_)|(refine gU ?_;refine gZ (a:=i+1) (b:=256) rfl rfl (by omega) rfl ?_)|(refine aB ?_;refine TL.pure rfl rfl ?_)|(refine aD ?_;refine TL.pure rfl rfl ?_)|(refine bJ ?_;refine bT rfl rfl (by omega) rfl ?_)|refine TL.nil ?_|refine aA ?_|refine aC ?_|(refine eB ?_;refine eM rfl (jW rfl) (jW rfl) (by omega) (by omega) (by omega) rfl rfl ?_)|refine TL.pure rfl rfl ?_)
  refine TL.copyB (b:=b7) (o:=0+i*256*1) (m:=(i+1)*256-i*256) rfl rfl (hb7.grow hg3) hbs2 (dY vs) (by rw [dA,hrl];omega) rfl ?_
  rw [show 0+i*256*1=i*256 by omega,show min 256 ((i+1)*256-i*256)=256 by omega,List.take_of_length_le (by rw [dA];omega),hst]
  intro w4 hu4 hb74 _
  repeat (first|(refine aB ?_;refine TL.pure rfl rfl ?_)|(refine bJ ?_;refine bT rfl rfl (by omega) rfl ?_)|refine TL.nil ?_|refine aA ?_|refine aC ?_|refine aT ?_)
  exact bG (i+1) ⟨rfl,rfl,rfl,rfl,trivial⟩ ⟨by omega,hb74,aZ hu4 (by omega) (hg2.trans hg3)⟩ (by omega)
 obtain rfl:i=2:=by omega
 have hfin:readB p 2=p:=by
  simp only [readB]
  rw [List.take_of_length_le (by omega)]
  exact List.append_nil _
 rw [hfin] at hb7
 clear hb hrl hfin
 repeat (first|refine TL.nil ?_|refine aA ?_|refine aJ ?_|refine aC ?_|(refine aH ?_;refine aR rfl yD rfl ?_)|refine aE rfl ?_|refine cN ?_|refine bM ?_|refine bO ?_|refine bN ?_)
 have hs2:=lI (o:=12) (m:=500) (c:=500) hb7 (by omega) (Nat.le_refl _) (by decide)
 have hdr:(p.drop 12).take 500=g.body n:=by
  rw [List.take_of_length_le (by rw [List.length_drop];omega)]
  have e12:(p.take 12).length=12:=by rw [List.length_take,hlp];rfl
  have:=congrArg (List.drop 12) hpb
  rw [List.drop_left' e12] at this
  exact this
 rw [hdr] at hs2
 apply T.any 4 [is (.agg (cX p).toArray),is (.int .i64 (n:Int)),is (.slice (some ⟨b7,12,none⟩) 500 500),is (.agg (cX p).toArray)]
 ·rfl
 ·repeat' (first|exact bX|refine bU ?_ ?_)
  ·(refine aQ rfl rfl rfl ?_);( intro wq _ _ hgq;(repeat (refine aG rfl rfl ?_;intro vq hvq;try (obtain rfl:=hvq)));(refine aM ?_))
   refine TL.loadBy rfl (hb7.grow hgq) hlp rfl ?_
   repeat (refine TL.nil ?_)
   exact aS rfl yG rfl
  iterate 2
   ·(refine aQ rfl rfl rfl ?_);( intro wq _ _ hgq;(repeat (refine aG rfl rfl ?_;intro vq hvq;try (obtain rfl:=hvq)));(refine aM ?_))
    repeat (first|(refine aB ?_;refine TL.pure rfl rfl ?_)|refine TL.nil ?_|(refine eB ?_;refine eM rfl (jW rfl) (bZ _) (by omega) (by omega) (by omega) rfl rfl ?_))
    exact aS rfl yG rfl
  ·(refine aQ rfl rfl rfl ?_);( intro wq _ _ hgq;(repeat (refine aG rfl rfl ?_;intro vq hvq;try (obtain rfl:=hvq)));(refine aM ?_))
   refine aL 123 ?_
   refine aI rfl (hpage _ _ _ _ (hs2.grow hgq)) rfl ?_
   rintro _ w4 ⟨rfl,hg4⟩
   repeat (refine TL.nil ?_)
   exact aS rfl yG rfl
 intro w5 lo5 hi5 hg5 _ _
 ((repeat (refine aG rfl rfl ?_;intro vq hvq;try (obtain rfl:=hvq)));(refine aM ?_))
 refine TL.neArr true rfl rfl rfl (same_bys p p rfl) (by rw [dA,hlp]) (by simp) rfl ?_
 repeat (first|refine TL.nil ?_|refine aA ?_|refine aJ ?_|refine aC ?_|(refine eB ?_;refine eM rfl (jW rfl) (bZ _) (by omega) (by omega) (by omega) rfl rfl ?_)|refine aE rfl ?_|refine aV ?_)
 refine aL 130 ?_
 refine aI rfl (bclone_c _ _ 500 500 (g.body n) _ (hs2.grow hg5) (by omega)) rfl ?_
 rintro v w6 ⟨hown,hg6⟩
 have hgw:Grow w w6:=(hg2.trans hg5).trans hg6
 have:=hg5.size
 have hz2:=hg2.size
 repeat (first|(refine aD ?_;refine TL.pure rfl rfl ?_)|refine TL.nil ?_|refine aA ?_|refine bC ?_)
 exact jS rfl rfl ⟨_,rfl,v,rfl,fC hown (by omega),hgw⟩
end Go.Proofs.YtfpadnmdafiddaaGreatDoor
namespace Go.Proofs.YtfpadnmdafiddaaGreatDoor
theorem nA {a b c d:Nat} (ha:a<256) (hc:c<256):(a+256*b)&&&(c+256*d)=(a&&&c)+256*(b&&&d):=by
 have key:∀ x y i:Nat,x<256→(x+256*y).testBit i=if i<8 then x.testBit i else y.testBit (i-8):=by
  intro x y i hx
  have:=Nat.testBit_two_pow_mul_add y (b:=x) (i:=8) (by simpa using hx) i
  rw [Nat.add_comm,show (256:Nat)=2^8 by decide]
  exact this
 have hac:a&&&c<256:=Nat.lt_of_le_of_lt Nat.and_le_left ha
 apply Nat.eq_of_testBit_eq
 intro i
 rw [Nat.testBit_and,key a b i ha,key c d i hc,key _ _ i hac]
 by_cases h:i<8<;>simp [h,Nat.testBit_and]
def lanes (c:Nat):Nat→Nat
 | 0=>0
 | k+1=>c+256*lanes c k
def gK:List Nat→Nat
 | []=>0
 | b::bs=>b+256*gK bs
def A8 (b:Nat):Nat:=(b / 2&&&85)+(b&&&85)
def B8 (b:Nat):Nat:=(b / 4&&&51)+(b&&&51)
def C8 (b:Nat):Nat:=b / 16+b%16
theorem a8:∀ (b:Fin 256) (t:Fin 2),(b.val / 2+128*t.val)&&&85=b.val / 2&&&85:=by decide +kernel
theorem b8:∀ (b:Fin 256) (t:Fin 4),(b.val / 4+64*t.val)&&&51=b.val / 4&&&51:=by decide +kernel
theorem a8_ok:∀ b:Fin 256,A8 b.val<256:=by decide +kernel
theorem b8_ok:∀ b:Fin 256,B8 (A8 b.val)<256∧B8 (A8 b.val)%16≤4∧B8 (A8 b.val) / 16≤4:=by decide +kernel
def mX (b:Nat):Nat:=b%2+b / 2%2+b / 4%2+b / 8%2+b / 16%2+b / 32%2+b / 64%2+b / 128%2
theorem c8_ok:∀ b:Fin 256,C8 (B8 (A8 b.val))=mX b.val:=by decide +kernel
theorem stepA:∀ (bs:List Nat),(∀ b∈bs,b<256)→(gK bs / 2&&&lanes 85 bs.length)+(gK bs&&&lanes 85 bs.length)=gK (bs.map A8)
 | [],_=>rfl
 | b::bs,h=>by
  have hb:=h b (by simp)
  have ih:=stepA bs (λ x hx=>h x (by simp [hx]))
  simp only [gK,lanes,List.length_cons,List.map_cons]
  have e:(b+256*gK bs) / 2=(b / 2+128*(gK bs%2))+256*(gK bs / 2):=by omega
  rw [e,nA (by omega) (by omega),nA hb (by omega),a8 ⟨b,hb⟩ ⟨gK bs%2,by omega⟩,← ih]
  simp only [A8]
  omega
theorem stepB:∀ (bs:List Nat),(∀ b∈bs,b<256)→(gK bs / 4&&&lanes 51 bs.length)+(gK bs&&&lanes 51 bs.length)=gK (bs.map B8)
 | [],_=>rfl
 | b::bs,h=>by
  have hb:=h b (by simp)
  have ih:=stepB bs (λ x hx=>h x (by simp [hx]))
  simp only [gK,lanes,List.length_cons,List.map_cons]
  have e:(b+256*gK bs) / 4=(b / 4+64*(gK bs%4))+256*(gK bs / 4):=by omega
  rw [e,nA (by omega) (by omega),nA hb (by omega),b8 ⟨b,hb⟩ ⟨gK bs%4,by omega⟩,← ih]
  simp only [B8]
  omega
theorem and15 (x:Nat):x&&&15=x%16:=Nat.and_two_pow_sub_one_eq_mod x 4
theorem and127 (x:Nat):x&&&127=x%128:=Nat.and_two_pow_sub_one_eq_mod x 7
theorem stepC:∀ (bs:List Nat),(∀ b∈bs,b<256∧b%16≤4∧b / 16≤4)→(gK bs / 16+gK bs)&&&lanes 15 bs.length=gK (bs.map C8)
 | [],_=>rfl
 | b::bs,h=>by
  have hb:=h b (by simp)
  have ih:=stepC bs (λ x hx=>h x (by simp [hx]))
  have hlow:gK bs%16≤4:=by
   cases bs with
   | nil=>simp [gK]
   | cons x xs=>have:=h x (by simp);simp only [gK];omega
  simp only [gK,lanes,List.length_cons,List.map_cons]
  have e:(b+256*gK bs) / 16+(b+256*gK bs)=(b / 16+16*(gK bs%16)+b)+256*(gK bs / 16+gK bs):=by omega
  rw [e,nA (by omega) (by omega),ih,and15]
  simp only [C8]
  omega
theorem lanes85:lanes 85 8=6148914691236517205:=by decide
theorem lanes51:lanes 51 8=3689348814741910323:=by decide
theorem lanes15:lanes 15 8=1085102592571150095:=by decide
def fN (x:Nat):List Nat:=[x%256,x / 256%256,x / 65536%256,x / 16777216%256,x / 4294967296%256,x / 1099511627776%256,x / 281474976710656%256,x / 72057594037927936%256]
theorem bytes8_val (x:Nat) (h:x<18446744073709551616):gK (fN x)=x:=by simp only [fN,gK];omega
theorem bytes8_lt (x:Nat):∀ b∈fN x,b<256:=by
 intro b hb
 simp only [fN,List.mem_cons,List.not_mem_nil,or_false] at hb
 omega
def ones (x:Nat):Nat:=((fN x).map mX).sum
theorem iN (b:Nat):mX b≤8:=by unfold mX;omega
theorem pop_masks (x:Nat) (h:x<18446744073709551616):∃ y z v,(x / 2&&&6148914691236517205)+(x&&&6148914691236517205)=y∧(y / 4&&&3689348814741910323)+(y&&&3689348814741910323)=z∧(z / 16+z)&&&1085102592571150095=v ∧
  y<18446744073709551616∧z≤4919131752989213764∧v≤578721382704613384∧v=gK ((fN x).map mX):=by
 have hx:=bytes8_val x h
 have hlt:=bytes8_lt x
 have h1:=stepA (fN x) hlt
 rw [show (fN x).length=8 from rfl,lanes85,hx] at h1
 have hltA:∀ b∈(fN x).map A8,b<256:=by
  intro b hb
  obtain ⟨c,hc,rfl⟩:=List.mem_map.1 hb
  exact a8_ok ⟨c,hlt c hc⟩
 have h2:=stepB _ hltA
 rw [show ((fN x).map A8).length=8 from rfl,lanes51] at h2
 have hltB:∀ b∈((fN x).map A8).map B8,b<256∧b%16≤4∧b / 16≤4:=by
  intro b hb
  obtain ⟨c,hc,rfl⟩:=List.mem_map.1 hb
  obtain ⟨c2,hc2,rfl⟩:=List.mem_map.1 hc
  exact b8_ok ⟨c2,hlt c2 hc2⟩
 have h3:=stepC _ hltB
 rw [show (((fN x).map A8).map B8).length=8 from rfl,lanes15] at h3
 have h4:(((fN x).map A8).map B8).map C8=(fN x).map mX:=by
  rw [List.map_map,List.map_map]
  apply List.map_congr_left
  intro b hb
  exact c8_ok ⟨b,hlt b hb⟩
 rw [h4] at h3
 refine ⟨_,_,_,h1,h2,h3,?_,?_,?_,rfl⟩
 ·generalize hA:(fN x).map A8=l at hltA
  match l,show l.length=8 by rw [← hA];rfl with
  | [a,b,c,d,e,f,g,i],_=>simp only [gK];simp at hltA;omega
 ·generalize hB:((fN x).map A8).map B8=l at hltB
  match l,show l.length=8 by rw [← hB];rfl with
  | [a,b,c,d,e,f,g,i],_=>simp only [gK];simp at hltB;omega
 ·have hm:∀ b∈(fN x).map mX,b≤8:=by
   intro b hb
   obtain ⟨c,_,rfl⟩:=List.mem_map.1 hb
   exact iN c
  generalize hC:(fN x).map mX=l at hm
  match l,show l.length=8 by rw [← hC];rfl with
  | [a,b,c,d,e,f,g,i],_=>simp only [gK];simp at hm;omega
theorem divr {r q m:Nat} (h:r<m):(r+m*q) / m=q:=by
 rw [Nat.add_mul_div_left _ _ (by omega),Nat.div_eq_of_lt h,Nat.zero_add]
theorem pop_num (a0 a1 a2 a3 a4 a5 a6 a7:Nat) (h0:a0≤8) (h1:a1≤8) (h2:a2≤8) (h3:a3≤8) (h4:a4≤8) (h5:a5≤8) (h6:a6≤8) (h7:a7≤8) (v D1 D2:Nat) (hv:v=gK [a0,a1,a2,a3,a4,a5,a6,a7]) (hD1:D1=v+v / 256) (hD2:D2=D1+D1 / 65536) :
  (D2+D2 / 4294967296)%128=a0+a1+a2+a3+a4+a5+a6+a7:=by
 have e1:v / 256=gK [a1,a2,a3,a4,a5,a6,a7]:=by
  rw [hv];exact divr (by omega)
 have e2:D1=((a0+a1)+256*(a1+a2))+65536*((a2+a3)+256*(a3+a4)+65536*((a4+a5)+256*(a5+a6)+65536*((a6+a7)+256*a7))):=by
  rw [hD1,e1,hv];simp only [gK];omega
 have e3:D1 / 65536=(a2+a3)+256*(a3+a4)+65536*((a4+a5)+256*(a5+a6)+65536*((a6+a7)+256*a7)):=by
  rw [e2];exact divr (by omega)
 have e4:D2=((a0+a1+a2+a3)+256*(a1+a2+a3+a4)+65536*(a2+a3+a4+a5)+16777216*(a3+a4+a5+a6))+4294967296*((a4+a5+a6+a7)+256*(a5+a6+a7)+65536*((a6+a7)+256*a7)):=by
  rw [hD2,e3,e2];clear hv hD1 hD2 e1 e2 e3 h0 h1 h2 h3 h4 h5 h6 h7;omega
 have e5:D2 / 4294967296=(a4+a5+a6+a7)+256*(a5+a6+a7)+65536*((a6+a7)+256*a7):=by
  rw [e4];exact divr (by clear hv hD1 hD2 e1 e2 e3 e4;omega)
 have e6:D2+D2 / 4294967296=(a0+a1+a2+a3+a4+a5+a6+a7)+128*(2*((a1+a2+a3+a4)+256*(a2+a3+a4+a5)+65536*(a3+a4+a5+a6)+(a5+a6+a7)+256*((a6+a7)+256*a7)+16777216*((a4+a5+a6+a7)+256*(a5+a6+a7)+65536*((a6+a7)+256*a7)))):=by
  rw [e5,e4];clear hv hD1 hD2 e1 e2 e3 e4 e5 h0 h1 h2 h3 h4 h5 h6 h7;omega
 rw [e6,Nat.add_mul_mod_self_left,Nat.mod_eq_of_lt (by clear hv hD1 hD2 e1 e2 e3 e4 e5 e6;omega)]
theorem pop_sum (x v:Nat) (hv:v=gK ((fN x).map mX)):((v+v / 256)+(v+v / 256) / 65536+((v+v / 256)+(v+v / 256) / 65536) / 4294967296)%128=ones x:=by
 have:=pop_num _ _ _ _ _ _ _ _ (iN (x%256)) (iN (x / 256%256)) (iN (x / 65536%256)) (iN (x / 16777216%256)) (iN (x / 4294967296%256)) (iN (x / 1099511627776%256)) (iN (x / 281474976710656%256)) (iN (x / 72057594037927936%256)) v _ _ hv rfl rfl
 rw [this]
 unfold ones
 simp only [fN,List.map_cons,List.map_nil,List.sum_cons,List.sum_nil,Nat.add_assoc,Nat.add_zero]
end Go.Proofs.YtfpadnmdafiddaaGreatDoor
namespace Go.Proofs.YtfpadnmdafiddaaGreatDoor
open Go Go.RowKit Go.V
theorem ones_c (x:Nat) (hx:x<18446744073709551616) (w:World):Calls Tryz.prog 155 #[.int .u64 (x:Int)] w (Ret λ v w'=>v=.int .i64 (ones x:Int)∧w=w'):=by
 refine V.calls (args:=[_]) Tryz.func155 rfl Tryz.ntmps155 rfl rfl ?_
 obtain ⟨y,z,v,hy,hz,hv,by1,bz,bv,hval⟩:=pop_masks x hx
 have hps:=pop_sum x v hval
 repeat (first|(refine TL.isAndW ?_;refine TL.andN6 rfl rfl (by omega) (by omega) rfl ?_)|(refine bJ ?_;first|(refine TL.addU rfl rfl rfl (by rw [hy];exact by1) rfl ?_;rw [hy])|(refine TL.addU rfl rfl rfl (by rw [hz];omega) rfl ?_;rw [hz]))|(refine aB ?_;refine TL.pure rfl rfl ?_)|(refine aD ?_;refine TL.pure rfl rfl ?_)|(refine bJ ?_;first|refine TL.addU rfl rfl rfl (by omega) rfl ?_|refine TL.addW rfl rfl rfl rfl ?_)|refine TL.nil ?_|refine aA ?_|refine aJ ?_|refine aC ?_|(refine fT ?_;refine jL rfl rfl (by (simp only [IntKind.bits];omega)) rfl ?_))
 have hv':z / 2^4+z&&&1085102592571150095=v:=hv
 rw [hv']
 obtain ⟨D1,hD1⟩:∃ D1,D1=v+v / 256:=⟨_,rfl⟩
 obtain ⟨D2,hD2⟩:∃ D2,D2=D1+D1 / 65536:=⟨_,rfl⟩
 obtain ⟨D3,hD3⟩:∃ D3,D3=D2+D2 / 4294967296:=⟨_,rfl⟩
 have b1:D1≤581000000000000000:=by omega
 have b2:D2≤582000000000000000:=by omega
 have b3:D3≤583000000000000000:=by omega
 have m1:(v+v / 2^8)%18446744073709551616=D1:=by rw [hD1];exact Nat.mod_eq_of_lt (by omega)
 rw [m1]
 have m2:(D1+D1 / 2^16)%18446744073709551616=D2:=by rw [hD2];exact Nat.mod_eq_of_lt (by omega)
 rw [m2]
 have m3:(D2+D2 / 2^32)%18446744073709551616=D3:=by rw [hD3];exact Nat.mod_eq_of_lt (by omega)
 rw [m3]
 rw [← hD1,← hD2,← hD3] at hps
 clear hD1 hD2 hD3 m1 m2 m3 hv' hv hy hz
 repeat (first|(refine cZ ?_;refine lZ (a:=D3) rfl (by omega) rfl ?_)|(refine aD ?_;refine TL.pure rfl rfl ?_)|refine TL.nil ?_|refine aA ?_|(refine aH ?_;refine TL.pure rfl rfl ?_)|refine bC ?_)
 have e1:(BitVec.ofInt IntKind.i64.bits (D3:Int)&&&BitVec.ofInt IntKind.i64.bits 127).toNat=ones x:=by
  have q1:(BitVec.ofInt 64 (D3:Int)).toNat=D3:=by
   have:=Go.V.bits_nat (kd:=.u64) (M:=18446744073709551616) rfl D3
   rw [Nat.mod_eq_of_lt (by omega)] at this
   exact this
  have q2:(BitVec.ofInt 64 127).toNat=127:=by decide
  show (BitVec.ofInt 64 (D3:Int)&&&BitVec.ofInt 64 127).toNat=ones x
  rw [BitVec.toNat_and,q1,q2,and127,hps]
 have e2:IntKind.i64.wrap ((BitVec.ofInt IntKind.i64.bits (D3:Int)&&&BitVec.ofInt IntKind.i64.bits 127).toNat:Int)=(ones x:Int):=by
  rw [e1]
  have:ones x<128:=by rw [← hps];exact Nat.mod_lt _ (by omega)
  exact IntWalk.i64_in _ ⟨by omega,by omega⟩
 rw [e2]
 exact cF rfl ⟨_,rfl,rfl,rfl⟩
end Go.Proofs.YtfpadnmdafiddaaGreatDoor
namespace Go.Proofs.YtfpadnmdafiddaaGreatDoor
open Go Go.RowKit Go.V
def gJ (l:List Nat):Nat:=(l.map ones).sum
theorem ones_le (x:Nat):ones x≤64:=by
 have h:∀ l:List Nat,(l.map mX).sum≤8*l.length:=by
  intro l
  induction l with
  | nil=>simp
  | cons b l ih=>have:=iN b;simp only [List.map_cons,List.sum_cons,List.length_cons];omega
 have:=h (fN x)
 exact this
theorem onesW_le (l:List Nat):gJ l≤64*l.length:=by
 induction l with
 | nil=>simp [gJ]
 | cons b l ih=>have:=ones_le b;simp only [gJ,List.map_cons,List.sum_cons,List.length_cons] at *;omega
theorem onesW_take {l:List Nat} {i x:Nat} (h:l[i]? = some x):gJ (l.take (i+1))=gJ (l.take i)+ones x:=by
 rw [List.take_add_one,h];simp [gJ]
theorem total_c (F:Nat→Prop) (a:Option Addr) (n c:Nat) (l:List Nat) (w:World) (hs:Sl F w 1 a n c (jY l)) (h64:∀ x∈l,x<18446744073709551616) (hn:n≤1000) :
  Calls Tryz.prog 86 #[.slice a n c] w (Ret λ v w'=>v=.int .i64 (gJ l:Int)∧w=w'):=by
 have hl:n=l.length:=by have:=hs.len;rw [fR] at this;omega
 refine V.calls (args:=[_]) Tryz.func86 rfl Tryz.ntmps86 rfl rfl ?_
 repeat (first|(refine aB ?_;refine TL.pure rfl rfl ?_)|(refine aD ?_;refine TL.pure rfl rfl ?_)|refine TL.nil ?_|refine aA ?_|refine aJ ?_|refine aC ?_|refine T.block ?_|refine aO rfl rfl ?_)
 refine cM (S:=Nat) (λ i=>[(8,.int .i64 (i:Int)),(7,.int .i64 (n:Int)),(6,.slice a n c),(3,.int .i64 (gJ (l.take i):Int))]) (λ i w'=>w=w'∧i≤n) (λ i=>n-i) 0 ⟨rfl,rfl,rfl,rfl,trivial⟩ ⟨rfl,by omega⟩ ?_
 rintro i _ ⟨rfl,hi⟩
 have hle:=onesW_le (l.take i)
 rw [List.length_take] at hle
 by_cases hlt:i<n
 ·obtain ⟨x,hx⟩:∃ x,l[i]? = some x:=⟨_,List.getElem?_eq_getElem (by omega)⟩
  have hx64:=h64 x (List.mem_of_getElem? hx)
  have hcell:w.cell? (at' a i)=some (.int .u64 (x:Int)):=hs.row.cell (by simp [jY,hx])
  have hxo:=ones_le x
  repeat (first|(refine bF ?_;refine aW (j:=i) rfl rfl rfl hlt (Nat.mul_one _) ⟨_,_,hs⟩ rfl ?_)|(refine aL 155 ?_;refine aI rfl (ones_c x hx64 _) rfl ?_;rintro _ _ ⟨rfl,rfl⟩)|(refine aB ?_;refine TL.pure rfl rfl ?_)|(refine aD ?_;refine TL.pure rfl rfl ?_)|refine aK rfl yM rfl ?_|(refine bJ ?_;refine bT rfl rfl (by omega) rfl ?_)|refine TL.nil ?_|refine aA ?_|refine aJ ?_|refine aC ?_|refine T.block ?_|refine aT ?_|(refine aH ?_;refine bA rfl yD rfl ?_)|refine aN rfl ?_|refine aV ?_)
  exact bG (i+1) ⟨rfl,rfl,rfl,by rw [onesW_take hx];rfl,trivial⟩ ⟨rfl,by omega⟩ (by omega)
 obtain rfl:i=n:=by omega
 rw [List.take_of_length_le (by omega)]
 repeat (first|(refine aB ?_;refine TL.pure rfl rfl ?_)|(refine aD ?_;refine TL.pure rfl rfl ?_)|refine TL.nil ?_|refine aA ?_|refine aJ ?_|refine aC ?_|(refine aH ?_;refine aR rfl yD rfl ?_)|refine aE rfl ?_|refine bC ?_|refine cN ?_|refine bM ?_|refine bO ?_|refine bN ?_)
 exact cF rfl ⟨_,rfl,rfl,rfl⟩
theorem spare_c {w:World} {L:PL} {g:Pg} (h:PgAt w L g) (hT:gJ g.words≤g.count) :
  Calls Tryz.prog 21 #[.pointer (some ⟨L.p,0,none⟩)] w (Ret λ v w'=>v=.int .i64 ((g.count-gJ g.words:Nat):Int)∧Grow w w'):=by
 refine V.calls (args:=[_]) Tryz.func21 rfl Tryz.ntmps21 rfl rfl ?_
 have hb:=h.blk
 have hu:=h.used
 have hcn:=h.cnt
 have hwl:=h.ok.wl
 unfold pgc at hb
 have hux:∀ w',Grow w w'→Sl (λ k=>k=L.u) w' 1 (some ⟨L.u,0,none⟩) g.words.length g.words.length (jY g.words):=λ w' gr=>bR (sz:=1) (m:=g.words.length) (hu.grow gr) (by rw [fR,Nat.mul_one]) (by unfold maxLen;omega)
 repeat (first|(refine aL 85 ?_;refine aI rfl (valid_c h) rfl ?_;rintro _ _ ⟨rfl,rfl⟩)|(refine aB ?_;refine TL.pure rfl rfl ?_)|(refine aD ?_;refine TL.pure rfl rfl ?_)|refine TL.nil ?_|refine aA ?_|refine aJ ?_|refine aC ?_|refine aE rfl ?_|refine aV ?_|refine TL.pure rfl rfl ?_)
 apply T.any 10 [is (.pointer (some ⟨L.p,0,none⟩)),is (.pointer (some ⟨L.p,0,none⟩)),is (.pointer (some ⟨L.p,2,none⟩)),is (.int .i64 (g.count:Int)),is (.pointer (some ⟨L.p,0,none⟩)),is (.pointer (some ⟨L.p,0,none⟩)),is (.pointer (some ⟨L.p,3,none⟩)),is (.slice (some ⟨L.u,0,none⟩) g.words.length g.words.length),is (.int .i64 (gJ g.words:Int)),is (.int .i64 ((g.count-gJ g.words:Nat):Int))]
 ·rfl
 ·repeat' (first|exact bX|refine bU ?_ ?_)
  iterate 8
   ·(refine aQ rfl rfl rfl ?_);( intro wq _ _ hgq;(repeat (refine aG rfl rfl ?_;intro vq hvq;try (obtain rfl:=hvq)));(refine aM ?_))
    repeat (first|(refine aB ?_;refine TL.pure rfl rfl ?_)|refine aK rfl yM rfl ?_|refine aF rfl rfl ?_|refine TL.nil ?_|refine bL rfl rfl ?_)
    exact aS rfl yG rfl
  ·(refine aQ rfl rfl rfl ?_);( intro wq _ _ hgq;(repeat (refine aG rfl rfl ?_;intro vq hvq;try (obtain rfl:=hvq)));(refine aM ?_))
   repeat (first|(refine aL 86 ?_;refine aI rfl (total_c _ _ _ _ _ _ (hux _ hgq) h.ok.w64 (by omega)) rfl ?_;rintro _ _ ⟨rfl,rfl⟩)|refine TL.nil ?_)
   exact aS rfl yG rfl
  ·(refine aQ rfl rfl rfl ?_);( intro wq _ _ hgq;(repeat (refine aG rfl rfl ?_;intro vq hvq;try (obtain rfl:=hvq)));(refine aM ?_))
   refine dI (a:=g.count) (b:=gJ g.words) rfl rfl hT (by omega) rfl ?_
   repeat (refine TL.nil ?_)
   exact aS rfl yG rfl
 ·intro w6 lo6 hi6 hg6 _ _
  ((repeat (refine aG rfl rfl ?_;intro vq hvq;try (obtain rfl:=hvq)));(refine aM ?_))
  repeat (first|(refine aD ?_;refine TL.pure rfl rfl ?_)|refine TL.nil ?_|refine aA ?_|refine bC ?_)
  exact cF rfl ⟨_,rfl,rfl,hg6⟩
end Go.Proofs.YtfpadnmdafiddaaGreatDoor
namespace Go.Proofs.YtfpadnmdafiddaaGreatDoor
def mZ (p:Nat→Bool):Nat→Nat
 | 0=>0
 | n+1=>mZ p n+(p n).toNat
theorem cntF_eq (p:Nat→Bool):∀ n,((List.range n).filter p).length=mZ p n
 | 0=>rfl
 | n+1=>by
  rw [List.range_succ,List.filter_append,List.length_append,cntF_eq p n,mZ]
  cases h:p n<;>simp [h]
theorem cntF_split (p:Nat→Bool) (m:Nat):∀ k,mZ p (m+k)=mZ p m+mZ (λ j=>p (m+j)) k
 | 0=>rfl
 | k+1=>by rw [← Nat.add_assoc,mZ,cntF_split p m k,mZ];omega
theorem cntF_same {p q:Nat→Bool}:∀ n,(∀ k,k<n→p k=q k)→mZ p n=mZ q n
 | 0,_=>rfl
 | n+1,h=>by rw [mZ,mZ,cntF_same n (λ k hk=>h k (by omega)),h n (by omega)]
theorem cntF_none {p:Nat→Bool}:∀ n,(∀ k,k<n→p k=false)→mZ p n=0
 | 0,_=>rfl
 | n+1,h=>by rw [mZ,cntF_none n (λ k hk=>h k (by omega)),h n (by omega)];rfl
theorem ones8_bits:∀ b:Fin 256,mX b.val=mZ b.val.testBit 8:=by decide +kernel
theorem byte_bits (x k:Nat):mZ (λ j=>x.testBit (8*k+j)) 8=mX (x / 2^(8*k)%256):=by
 rw [ones8_bits ⟨x / 2^(8*k)%256,Nat.mod_lt _ (by omega)⟩]
 refine cntF_same 8 λ j hj=>?_
 show x.testBit (8*k+j)=(x / 2^(8*k)%256).testBit j
 rw [show (256:Nat)=2^8 from rfl,Nat.testBit_mod_two_pow,Nat.testBit_div_two_pow]
 simp [hj,Nat.add_comm]
theorem cntF_ones (x:Nat):mZ x.testBit 64=ones x:=by
 have s:∀ k,mZ x.testBit (8*(k+1))=mZ x.testBit (8*k)+mX (x / 2^(8*k)%256):=λ k=>by
  rw [show 8*(k+1)=8*k+8 by omega,cntF_split,byte_bits]
 rw [show 64=8*(7+1) from rfl,s 7,s 6,s 5,s 4,s 3,s 2,s 1,s 0]
 show 0+_+_+_+_+_+_+_+_=_
 have e0:x / 2^(8*0)%256=x%256:=by rw [Nat.mul_zero,Nat.pow_zero,Nat.div_one]
 rw [e0]
 simp only [ones,fN,List.map_cons,List.map_nil,List.sum_cons,List.sum_nil]
 rw [show (2:Nat)^(8*1)=256 from rfl,show (2:Nat)^(8*2)=65536 from rfl,show (2:Nat)^(8*3)=16777216 from rfl,show (2:Nat)^(8*4)=4294967296 from rfl,show (2:Nat)^(8*5)=1099511627776 from rfl,show (2:Nat)^(8*6)=281474976710656 from rfl,show (2:Nat)^(8*7)=72057594037927936 from rfl]
 simp only [Nat.add_assoc,Nat.zero_add,Nat.add_zero]
def bitF (l:List Nat) (n:Nat):Bool:=(l.getD (n / 64) 0).testBit (n%64)
theorem cntF_words (l:List Nat):∀ i,i≤l.length→mZ (bitF l) (64*i)=((l.take i).map ones).sum
 | 0,_=>rfl
 | i+1,h=>by
  have hx:l[i]? = some (l.getD i 0):=by rw [List.getD_eq_getElem?_getD,List.getElem?_eq_getElem (by omega)];rfl
  have ih:=cntF_words l i (by omega)
  rw [show 64*(i+1)=64*i+64 by omega,cntF_split,ih,List.take_add_one,hx]
  simp only [Option.toList_some,List.map_append,List.map_cons,List.map_nil,List.sum_append,List.sum_cons,List.sum_nil,Nat.add_zero]
  rw [← cntF_ones]
  congr 1
  refine cntF_same 64 λ j hj=>?_
  show (l.getD ((64*i+j) / 64) 0).testBit ((64*i+j)%64)=_
  rw [show (64*i+j) / 64=i by omega,show (64*i+j)%64=j by omega]
theorem total_words {s:Pg} (hs:PgOk s):iL s=(s.words.map ones).sum:=by
 have h1:=cntF_words s.words s.words.length (Nat.le_refl _)
 rw [List.take_length] at h1
 rw [← h1]
 have hwl:=hs.wl
 obtain ⟨k,hk⟩:∃ k,64*s.words.length=s.count+k:=⟨64*s.words.length-s.count,by omega⟩
 rw [hk,cntF_split,cntF_none (p:=λ j=>bitF s.words (s.count+j)) k (λ j _=>hs.top (s.count+j) (by omega)),Nat.add_zero]
 show ((List.range s.count).filter λ n=>cV s n).length=_
 rw [cntF_eq]
 refine cntF_same _ λ n hn=>?_
 show cV s n=bitF s.words n
 simp [cV,bitF,hn]
end Go.Proofs.YtfpadnmdafiddaaGreatDoor
namespace Go.Proofs.YtfpadnmdafiddaaGreatDoor
open Go Go.RowKit Go.V
theorem sparet_c {w:World} {L:PL} {g:Pg} (h:PgAt w L g) :
  Calls Tryz.prog 21 #[.pointer (some ⟨L.p,0,none⟩)] w (Ret λ v w'=>v=.int .i64 (cP g:Int)∧Grow w w'):=by
 have ht:=total_words h.ok
 have hle:gJ g.words≤g.count:=by rw [show gJ g.words=iL g from ht.symm];exact totalP_le g
 have:=spare_c h hle
 rw [show gJ g.words=iL g from ht.symm] at this
 exact this
theorem blk_of_own {w:World} {base elem sz b n:Nat} {xs:List Value} (h:w.ownsRow base elem sz (.slice (some ⟨b,0,none⟩) n n) n xs):Blk w b elem xs:=by
 obtain ⟨hl,h2⟩:=h
 rcases h2 with h2|⟨b',cap,cur,hv,_,hb,_,_,h5,h6⟩
 ·cases h2.1
 ·cases hv
  have e:cur.toList=xs:=by
   have h7:cur.toList.length≤n*sz:=by rw [Array.length_toList,h5];omega
   have h8:List.take (n*sz) cur.toList=xs:=by simpa using h6
   rw [List.take_of_length_le h7] at h8
   exact h8
  unfold Blk
  rw [← e]
  simpa using hb
def pg0 (c:Nat):Pg:=⟨c,List.replicate ((c+63) / 64) 0,λ _=>[]⟩
theorem pg0_none (c n:Nat):cV (pg0 c) n=false:=by
 simp only [cV,pg0,List.getD_eq_getElem?_getD,List.getElem?_replicate]
 split<;>simp
theorem pg0_ok (c:Nat) (h:c≤8192):PgOk (pg0 c) :=
 ⟨by simp [pg0],by intro x hx;simp only [pg0,List.mem_replicate] at hx;omega,λ n _=>by
  simp only [pg0,List.getD_eq_getElem?_getD,List.getElem?_replicate]
  split<;>simp,h⟩
theorem open_c {w:World} {d s m c:Nat} {f:Nat→Option Value} (h:DkAt w d s m (2*c) f) (h1:1≤c) (hc:c≤8192) :
  Calls Tryz.prog 68 #[.pointer (some ⟨d,0,none⟩),.slice none 0 0] w (Ret λ v w'=>∃ L:PL,v=.tuple #[.pointer (some ⟨L.p,0,none⟩),.int .i64 0]∧L.d=d∧L.m=m∧w.heap.size≤L.p∧w.heap.size≤L.u∧PgAt w' L (pg0 c)∧Grow w w'):=by
 refine V.calls (args:=[_,_]) Tryz.func68 rfl Tryz.ntmps68 rfl rfl ?_
 repeat (first|(refine aL 142 ?_;refine aI rfl (dsize_c h) rfl ?_;rintro _ _ ⟨rfl,rfl⟩)|(refine kH ?_;refine mJ (a:=2*c) (b:=2) rfl rfl (by omega) (by omega) rfl ?_;rw [show 2*c / 2=c by omega])|(refine aB ?_;refine TL.pure rfl rfl ?_)|(refine aD ?_;refine TL.pure rfl rfl ?_)|refine aK rfl yM rfl ?_|refine aF rfl rfl ?_|(refine bJ ?_;refine bT rfl rfl (by omega) rfl ?_)|refine TL.nil ?_|refine aA ?_|refine aJ ?_|refine aC ?_|(refine kH ?_;refine mJ rfl rfl (by omega) (by omega) rfl ?_)|(refine aH ?_;refine aR rfl yD rfl ?_)|(refine bW ?_;(refine dJ rfl rfl ?_;intro bk w' hg hbk hsz hsz'))|refine TL.build rfl rfl rfl ?_|refine bL rfl rfl ?_|refine aE rfl ?_|refine aV ?_)
 refine TL.makeAll (c:=(c+63) / 64) (z:=.int .u64 0) rfl rfl (by omega) (by unfold maxLen;omega) rfl ?_
 intro b w2 hb hown hg2
 have hbu:=blk_of_own hown
 have hz2:=hg2.size
 have hzc:(madeCells (Value.int IntKind.u64 0).cells ((c+63) / 64*1)).toList=jY (List.replicate ((c+63) / 64) 0):=by
  have h0:∀ x:Nat,(Value.int IntKind.u64 0).cells[x%(Value.int IntKind.u64 0).cells.size]! = .int .u64 0:=λ x=>by
   rw [show (Value.int IntKind.u64 0).cells = #[.int .u64 0] from rfl]
   simp [Nat.mod_one]
  simp only [jY,madeCells,Nat.mul_one,Array.toList_map,Array.toList_range,h0,List.map_replicate]
  rw [List.map_const',List.length_range]
  rfl
 rw [hzc] at hbu
 repeat (first|(refine aB ?_;refine TL.pure rfl rfl ?_)|refine aF rfl rfl ?_|refine TL.nil ?_|refine aA ?_|refine aJ ?_|refine aC ?_|refine T.block ?_|(refine aP ?_;(refine bP rfl rfl yB (by exact rfl) (by exact rfl) (by exact rfl) ?_;intro w' hu hbk hsz))|refine bL rfl rfl ?_|refine aO rfl rfl ?_)
 have hbu1:=hbu.upd hu (by omega)
 obtain ⟨w3,hw3⟩:∃ x,x=w':=⟨_,rfl⟩
 refine cM (S:=Unit) (λ _=>[(30,.int .i64 0),(29,.int .i64 0),(6,.pointer (some ⟨bk,0,none⟩))]) (λ _ wx=>wx=w3) (λ _=>0) () ⟨rfl,rfl,rfl,trivial⟩ hw3.symm ?_
 rintro _ wx hwx
 rw [hw3] at hwx
 subst hwx
 repeat (first|(refine aB ?_;refine TL.pure rfl rfl ?_)|(refine aD ?_;refine TL.pure rfl rfl ?_)|refine aF rfl rfl ?_|refine TL.nil ?_|refine aA ?_|refine aJ ?_|refine aC ?_|(refine aH ?_;refine aR rfl yD rfl ?_)|(refine aP ?_;(refine bP rfl rfl yB (by exact rfl) (by exact rfl) (by exact rfl) ?_;intro w' hu hbk hsz))|refine bL rfl rfl ?_|refine aE rfl ?_|refine bC ?_|refine cN ?_|refine bM ?_|refine bO ?_|refine bN ?_)
 have hG:Grow w w':=by exact yG
 have hne:b≠bk:=by omega
 have hbu2:Blk w' b 168 (jY (List.replicate ((c+63) / 64) 0))
  := hbu1.upd hu hne
 have hfin:Blk w' bk 150 (pgc bk d b c ((c+63) / 64)):=hbk
 have hdl:=h.blk.lt
 have hml:=h.map.lt
 refine jS rfl rfl ⟨_,rfl,⟨bk,d,b,m,s⟩,rfl,rfl,rfl,by simp only;omega,by simp only;omega,⟨?_,hbu2,pg0_ok c hc,hc,⟨f,h.grow hG,λ n hn=>?_⟩,λ n x hx=>?_,λ n hn=>?_,?_⟩,hG⟩
 ·show Blk w' bk 150 (pgc bk d b c (List.replicate ((c+63) / 64) 0).length)
  rw [List.length_replicate];exact hfin
 ·rw [pg0_none] at hn;cases hn
 ·cases hx
 ·rw [pg0_none] at hn;cases hn
 ·simp only;omega
end Go.Proofs.YtfpadnmdafiddaaGreatDoor
namespace Go.Proofs.YtfpadnmdafiddaaGreatDoor
open Go Go.RowKit Go.V
theorem RS.wlt {B b m:Nat} {o:Option Bs} {w:World} (h:RS B b o w):(rdW m o).1<2^(8*m):=by
 cases o with
 | none=>exact Nat.two_pow_pos _
 | some r =>
  unfold rdW
  simp only
  split
  ·exact leW_lt (Rd.bytes h) m
  ·exact Nat.two_pow_pos _
theorem RS.keep {B b:Nat} {o:Option Bs} {w w':World} (h:RS B b o w) (hBb:B≤b) (hs:w.heap.size≤w'.heap.size) (hk:∀ k,B≤k→k≤b→w'.heap[k]? = w.heap[k]?):RS B b o w':=by
 have key:∀ {e r},Rd B b r e w→Rd B b r e w':=by
  rintro e r ⟨a,n,c,p,L,h1,h2,h3⟩
  refine ⟨a,n,c,p,L,?_,h2.keep (λ k hk1 _=>hk k hk1.1 (by omega)) hs,h3⟩
  unfold Blk at *
  rw [hk b hBb (Nat.le_refl _)]
  exact h1
 cases o with
 | some r=>exact key h
 | none=>obtain ⟨r,e,he,h⟩:=h;exact ⟨r,e,he,key h⟩
abbrev nil3:List Value:=[.slice none 0 0,.slice none 0 0,.slice none 0 0]
def ReadMid (w:World) (bs:Bs) (e:dN) (w1:World):Prop :=
 ∃ (B b bk bk2 B0:Nat) (x:NV) (nd:Nd) (o:Option Bs),Sub [(4,.pointer (some ⟨b,0,none⟩)),(7,.pointer (some ⟨bk,0,none⟩)),(2,.pointer (some ⟨bk2,0,none⟩))] e∧w.heap.size≤B∧w.heap.size≤bk2∧w.heap.size≤b∧bk2<b∧b<bk∧bk<B0 ∧
  Blk w1 bk 79 x.cs∧Blk w1 bk2 79 nil3∧RS B b o w1∧NdAt (λ k=>B0≤k) w1 x nd∧Grow w w1∧gB bs=o.bind (finN nd)
theorem read_c (F:Nat→Prop) (a:Option Addr) (n c:Nat) (bs:Bs) (w:World) (hs:Sl F w 1 a n c (cX bs)) (hby:∀ x∈bs,x<256) (hn:n≤1000000) :
  Calls Tryz.prog 174 #[.slice a n c] w (Ret λ v w'=>(match gB bs with
   | some nd=>∃ x:NV,v=.tuple #[x.val,.int .i64 0]∧NdAt (λ k=>w.heap.size≤k) w' x nd
   | none=>v=.tuple #[.agg nil3.toArray,.int .i64 4])∧Grow w w'):=by
 refine V.calls (args:=[_]) Tryz.func174 rfl Tryz.ntmps174 rfl rfl ?_
 refine fJ 5 (ReadMid w bs) ?_ ?_
 rotate_left
 ·repeat (first|(refine aB ?_;refine TL.pure rfl rfl ?_)|(refine aD ?_;refine TL.pure rfl rfl ?_)|refine TL.nil ?_|refine aC ?_|(refine bD ?_;(refine TL.alloc rfl rfl ?_;intro bk w' hg hbk hsz hsz'))|refine bH ?_|refine cQ ?_)
  obtain ⟨bk2,rfl⟩:∃ x,x=bk:=⟨bk,rfl⟩
  obtain ⟨w0,rfl⟩:∃ x,x=w':=⟨w',rfl⟩
  have hbkr:Blk w0 bk2 79 nil3:=hbk
  have hgr0:Grow w w0:=hg
  clear hbk hg
  have hsz0:=hsz'
  clear hsz'
  refine aI rfl (oread_c F a n c bs _ (hs.grow hgr0) (by omega)) rfl ?_
  rintro _ w1 ⟨b,a1,c1,rfl,hb1,hb2,hbr,hsr,hg1⟩
  have hlb:=iE hsr
  have hr0:RS w0.heap.size b (some bs) w1:=⟨a1,n,c1,0,bs,hbr,hsr,by omega,by omega,hby,rfl⟩
  clear hbr hsr
  repeat (first|(refine aB ?_;refine TL.pure rfl rfl ?_)|(refine aD ?_;refine TL.pure rfl rfl ?_)|refine TL.nil ?_|refine aC ?_|refine bH ?_|refine cQ ?_)
  refine aI rfl (rs_word (m:=1) hr0 (by omega) (by omega)) rfl ?_
  rintro _ w2 ⟨rfl,hr1,hm2⟩
  repeat ((refine aB ?_;refine TL.pure rfl rfl ?_))
  refine aI rfl (rs_word (m:=1) hr1 (by omega) (by omega)) rfl ?_
  rintro _ w3 ⟨rfl,hr2,hm3⟩
  have hlt:=hr1.wlt (m:=1)
  have e0:=readN_eq bs
  simp only at e0
  generalize hx:(rdW 1 (rdW 1 (some bs)).2).1=cnt at *
  generalize ho:(rdW 1 (rdW 1 (some bs)).2).2=o2 at *
  generalize hk:(rdW 1 (some bs)).1=knd at *
  have hbk3:Blk w3 bk2 79 nil3:=by
   have h1:=hbkr.grow hg1
   have h2:Blk w2 bk2 79 nil3:=eE (eR hm2) h1 (by omega)
   exact eE (eR hm3) h2 (by omega)
  have hg3:Grow w w3:=by
   have h1:=hgr0.trans hg1
   have h2:=lP (eR hm2) (by omega) h1
   exact lP (eR hm3) (by omega) h2
  have hsz3:=hg3.size
  have hb3:=hr2.lt
  clear hm2 hm3 hr0 hr1 hg1 hbkr hx ho hk hgr0
  have hbl2:bk2<b:=by omega
  have hwl2:w.heap.size≤bk2:=by omega
  have hwB:w.heap.size≤w0.heap.size:=by omega
  clear hsz0 hb2 hsz
  repeat (first|(refine aB ?_;refine TL.pure rfl rfl ?_)|(refine aD ?_;refine TL.pure rfl rfl ?_)|refine TL.nil ?_|refine aJ ?_|refine aC ?_|refine T.block ?_|(refine cZ ?_;refine lZ rfl (by omega) rfl ?_)|(refine bD ?_;(refine TL.alloc rfl rfl ?_;intro bk w' hg hbk hsz hsz'))|refine bH ?_|refine cQ ?_)
  obtain ⟨w4,rfl⟩:∃ x,x=w':=⟨w',rfl⟩
  have hb4:Blk w4 bk2 79 nil3:=hbk3.grow hg
  have hbk4:Blk w4 bk 79 nil3:=hbk
  have hg4:Grow w w4:=hg3.trans hg
  have hr4:=hr2.grow hg
  have hbl:b<bk:=by omega
  have hs4:w4.heap.size=bk+1:=by omega
  clear hbk hbk3 hg3 hg hr2 hsz hsz' hb3 hsz3
  refine aI rfl (rs_err hr4) rfl ?_
  rintro _ _ ⟨⟨ev,rfl,hev⟩,rfl⟩
  by_cases ho2:o2=none
  ·have hev0:ev≠0:=λ h=>(hev.1 h) ho2
   have hN:gB bs=none:=by rw [e0,if_pos (.inl ho2)]
   repeat (first|refine bQ rfl rfl rfl ?_|(refine aB ?_;refine TL.pure rfl rfl ?_)|(refine aD ?_;refine TL.pure rfl rfl ?_)|refine TL.nil ?_|refine aA ?_|refine aJ ?_|refine aC ?_|(refine aH ?_;refine bA rfl yD rfl ?_)|(refine aP ?_;(refine aY rfl rfl yB (by exact rfl) (by exact rfl) (by exact rfl) ?_;intro w' hu hbk hsz))|refine TL.build rfl rfl rfl ?_|refine aN rfl ?_|refine bC ?_|refine dB ?_|refine TL.pure rfl rfl ?_|refine mS ?_)
   exact jC rfl (bY (by assumption) rfl) rfl ⟨_,rfl,by rw [hN];rfl,yG⟩
  have hev0:ev=0:=hev.2 ho2
  subst hev0
  clear hev
  by_cases h8:8<cnt
  ·have hN:gB bs=none:=by rw [e0,if_pos (.inr h8)]
   repeat (first|refine aX rfl rfl rfl ?_|(refine aB ?_;refine TL.pure rfl rfl ?_)|(refine aD ?_;refine TL.pure rfl rfl ?_)|refine TL.nil ?_|refine aA ?_|refine aJ ?_|refine aC ?_|(refine aH ?_;first|refine bA rfl yD rfl ?_|refine aR rfl yD rfl ?_)|(refine aP ?_;(refine aY rfl rfl yB (by exact rfl) (by exact rfl) (by exact rfl) ?_;intro w' hu hbk hsz))|refine TL.build rfl rfl rfl ?_|refine aN rfl ?_|refine bC ?_|refine dB ?_|refine TL.pure rfl rfl ?_|refine mS ?_)
   exact jC rfl (bY (by assumption) rfl) rfl ⟨_,rfl,by rw [hN];rfl,yG⟩
  rw [if_neg (by rintro (h|h);exact ho2 h;exact h8 h)] at e0
  by_cases hk0:knd=0
  ·rw [if_pos hk0] at e0
   subst hk0
   repeat (first|refine aX rfl rfl rfl ?_|(refine aB ?_;refine TL.pure rfl rfl ?_)|(refine aD ?_;refine TL.pure rfl rfl ?_)|refine TL.nil ?_|refine aA ?_|refine aJ ?_|refine aC ?_|refine T.block ?_|(refine aH ?_;first|refine bA rfl yD rfl ?_|refine aR rfl yD rfl ?_)|refine aN rfl ?_|refine aE rfl ?_|refine TL.pure rfl rfl ?_)
   refine cM (S:=Value×Nat) (λ s=>[(32,.int .i64 (s.2:Int)),(31,.int .i64 (cnt:Int)),(4,.pointer (some ⟨b,0,none⟩)),(7,.pointer (some ⟨bk,0,none⟩)),(2,.pointer (some ⟨bk2,0,none⟩))])
    (λ s w1=>s.2≤cnt∧∃ (its:dS) (o:Option Bs) (cells:List Value),Blk w1 bk 79 [s.1,.slice none 0 0,.slice none 0 0]∧Blk w1 bk2 79 nil3∧w1.ownsRow (bk+1) 58 2 s.1 s.2 cells∧ItCells (λ k=>bk+1≤k∧s.1.ownBlock≠some k) w1 cells its∧RS w0.heap.size b o w1∧Grow w w1∧kL cnt o2=(its++(kL (cnt-s.2) o).1,(kL (cnt-s.2) o).2))
    (λ s=>cnt-s.2) (.slice none 0 0,0) ⟨rfl,rfl,rfl,rfl,rfl,trivial⟩ ⟨by show 0≤cnt;omega,[],o2,[],hbk4,hb4,own_nil,trivial,hr4,hg4,rfl⟩ ?_
   clear hbk4 hb4 hr4 hg4 hs4
   rintro ⟨v,i⟩ w1 ⟨hi,its,o,cells,hbk,hb2,hown,hcells,hrs,hg1,hread⟩
   simp only at hi hbk hown hcells hread
   refine cT (e':=[(32,.int .i64 (i:Int)),(31,.int .i64 (cnt:Int)),(4,.pointer (some ⟨b,0,none⟩)),(7,.pointer (some ⟨bk,0,none⟩)),(2,.pointer (some ⟨bk2,0,none⟩))]) ?_ ⟨rfl,rfl,rfl,rfl,rfl,trivial⟩
   have hl1:=hbk.lt
   by_cases hlt:i<cnt
   rotate_left
   ·obtain rfl:i=cnt:=by omega
    rw [Nat.sub_self] at hread
    simp only [kL,List.append_nil] at hread
    repeat (first|refine TL.nil ?_|refine aA ?_|refine aJ ?_|refine aC ?_|refine aT ?_|(refine aH ?_;refine aR rfl yD rfl ?_)|refine aE rfl ?_|refine cN ?_|refine bM ?_|refine bO ?_|refine bN ?_|refine bH ?_|refine cR ?_)
    obtain ⟨va,vc,rfl,hsl⟩:=cE hown
    refine ⟨w0.heap.size,b,bk,bk2,bk+1,⟨va,i,vc,none,0,0,none,0,0⟩,⟨its,[],[]⟩,o,⟨rfl,rfl,rfl,trivial⟩,by omega,by omega,by omega,by omega,by omega,by omega,hbk,hb2,hrs,⟨⟨cells,hsl.mono λ k hk=>hk.1,hcells.go (Carry.mono λ k hk _=>hk.1)⟩,Sl.nil_mk _ _ _,⟨[],Sl.nil_mk _ _ _,trivial⟩⟩,hg1,?_⟩
    rw [e0,hread]
   repeat (first|(refine aB ?_;refine TL.pure rfl rfl ?_)|refine TL.nil ?_|refine aA ?_|refine aJ ?_|refine aC ?_|refine T.block ?_|(refine aH ?_;refine bA rfl yD rfl ?_)|refine aN rfl ?_|refine aV ?_)
   refine aI rfl (rs_block hrs) rfl ?_
   rintro _ w2 ⟨ka,kc,rfl,hks,hrs2,hm2⟩
   have hbu2:=eR hm2
   have hbk2':Blk w2 bk 79 [v,.slice none 0 0,.slice none 0 0]:=eE hbu2 hbk (by omega)
   have hs2:=hm2.size
   repeat (first|(refine aD ?_;refine TL.pure rfl rfl ?_)|refine TL.nil ?_|refine aA ?_)
   apply T.anyA (Mut b) 7 4 (λ w=>RS w0.heap.size b (hO o).2 w∧But b w2 w) (λ w=>RS w0.heap.size b (hO (hO o).2).2 w∧But b w2 w) (λ w=>But b w2 w)
    [isA _,isA _,isA _,isA _,ofA (λ u w=>∃ a c,u=.slice a (hO (hO o).2).1.length c∧Sl (λ k=>w2.heap.size≤k) w 1 a (hO (hO o).2).1.length c (cX (hO (hO o).2).1)) (by rintro u w w' g ⟨a,c,h1,h2⟩;exact ⟨a,c,h1,h2.grow g⟩),
     ofA (λ u w=>∃ a c,u=.agg #[.slice ka (hO o).1.length kc,.slice a (hO (hO o).2).1.length c]∧Sl (λ k=>w2.heap.size≤k) w 1 a (hO (hO o).2).1.length c (cX (hO (hO o).2).1)) (by rintro u w w' g ⟨a,c,h1,h2⟩;exact ⟨a,c,h1,h2.grow g⟩),
     ofA (λ u w=>∃ bb a c,u=.slice (some ⟨bb,0,none⟩) 1 1∧w2.heap.size≤bb∧Blk w bb 58 [.slice ka (hO o).1.length kc,.slice a (hO (hO o).2).1.length c]∧Sl (λ k=>w2.heap.size≤k) w 1 a (hO (hO o).2).1.length c (cX (hO (hO o).2).1)) (by rintro u w w' g ⟨bb,a,c,h1,h0,h2,h3⟩;exact ⟨bb,a,c,h1,h0,h2.grow g,h3.grow g⟩)]
   ·kernel_rfl
   ·exact ⟨hrs2,But.refl _ _⟩
   ·exact λ _ h=>h.2
   ·exact λ _ h=>h.2
   ·exact λ _ h=>h.size
   ·exact λ _ _ h g=>⟨h.1.grow g,lX g h.2⟩
   ·exact λ _ _ h g=>⟨h.1.grow g,lX g h.2⟩
   ·exact λ _ _ h=>h.size
   ·repeat' (first|exact allA_end|refine allA_cons ?_ ?_)
    iterate 4
     ·refine kF rfl rfl rfl rfl ?_
      intro wq _ _ hiw
      have hbq:=eE hiw hbk2' (by omega)
      (repeat (refine dZ rfl rfl ?_;intro vq hvq;try (obtain rfl:=Eq.symm hvq)));(refine eO ?_)
      repeat (first|(refine aB ?_;refine TL.pure rfl rfl ?_)|refine aK rfl yM rfl ?_|refine aF rfl rfl ?_|refine TL.nil ?_)
      exact iA rfl (Grow.refl _) rfl
    ·refine doesA_it rfl rfl rfl rfl ?_
     intro wq _ _ hiw
     (repeat (refine dZ rfl rfl ?_;intro vq hvq;try (obtain rfl:=Eq.symm hvq)));(refine eO ?_)
     refine aI rfl (rs_block hiw.1) rfl ?_
     rintro _ w5 ⟨va,vc,rfl,hvs,hrs5,hm5⟩
     repeat (refine TL.nil ?_)
     have:=hiw.2.size
     exact iA rfl ⟨hm5,hrs5,but_but (eR hm5) hiw.2⟩ ⟨va,vc,rfl,hvs.mono λ k hk=>by omega⟩
    ·refine kF rfl rfl rfl rfl ?_
     intro wq _ _ hiw
     (repeat (refine dZ rfl rfl ?_;intro vq hvq;try (obtain rfl:=Eq.symm hvq)));(refine eO ?_)
     obtain ⟨va,vc,rfl,hvs⟩:=hvq
     repeat (first|refine TL.nil ?_|refine TL.build rfl rfl rfl ?_)
     exact iA rfl (Grow.refl _) ⟨va,vc,rfl,hvs⟩
    ·refine kF rfl rfl rfl rfl ?_
     intro wq _ _ hiw
     (repeat (refine dZ rfl rfl ?_;intro vq hvq;try (obtain rfl:=Eq.symm hvq)));(refine eO ?_)
     obtain ⟨va,vc,rfl,hvs⟩:=hvq
     have:=hiw.size
     refine TL.buildSlice rfl rfl rfl rfl rfl ?_
     intro bb w6 hg6 hb6 hs61 hs62 hs63
     repeat (refine TL.nil ?_)
     exact iA rfl hg6 ⟨bb,va,vc,rfl,by omega,hb6,hvs.grow hg6⟩
   ·rintro wT lo hi ⟨hrT,hbT⟩ _ _
    (repeat (refine dZ rfl rfl ?_;intro vq hvq;try (obtain rfl:=Eq.symm hvq)));(refine eO ?_)
    obtain ⟨bb,va,vc,rfl,hbb0,hbb,hvs⟩:=hvq
    have hownT:=own_but (own_but hown hbu2 (by omega)) hbT (by omega)
    have hbkT:=eE hbT hbk2' (by omega)
    have hb2T:Blk wT bk2 79 nil3:=eE hbT (eE hbu2 hb2 (by omega)) (by omega)
    have hsT:=hbT.size
    refine jV rfl rfl hownT (bR (sz:=2) (m:=1) hbb rfl (by decide)) (by simp [Value.oneCell']) (by unfold maxLen;omega) (by omega) (by omega) rfl ?_
    intro v' w7 hown7 hgb7 hcar
    have hbk7:=fB hgb7 (λ e=>by have:=cY hownT e;omega) hbkT
    have hb27:=fB hgb7 (λ e=>by have:=cY hownT e;omega) hb2T
    have hr7:RS w0.heap.size b (hO (hO o).2).2 w7:=hrT.keep (by omega) hgb7.size (λ k h1 h2=>hgb7.block k (by omega) (λ e=>by have:=cY hownT e.symm;omega))
    have hg7:Grow w w7:=Grow.mk (cA hgb7 (by omega) (λ k hk=>by have:=cY hownT hk;omega) (lP hbT (by omega) (lP hbu2 (by omega) hg1)).1)
    have hc1:Carry (λ k=>bk+1≤k∧v.ownBlock≠some k) w2 (λ k=>bk+1≤k∧v'.ownBlock≠some k) w7:=(Carry.but hbT (λ k hk _=>by omega)).trans (hcar (λ k=>bk+1≤k))
    have hc2:Carry (λ k=>bk+1≤k∧v.ownBlock≠some k) wT (λ k=>bk+1≤k∧v'.ownBlock≠some k) w7:=hcar (λ k=>bk+1≤k)
    have hcellsA:=hcells.go ((Carry.but hbu2 (λ k hk _=>by omega)).trans hc1)
    have hkA:=hks.go ((Carry.mono (λ k hk _=>⟨by omega,λ e=>by have:=cY hown e;omega⟩)).trans hc1)
    have hvA:=hvs.go ((Carry.mono (λ k hk _=>⟨by omega,λ e=>by have:=cY hown e;omega⟩)).trans hc2)
    obtain ⟨va7,vc7,rfl,hsl7⟩:=cE hown7
    have hs7:=hgb7.size
    clear hcar hc1 hc2 hbk hb2 hbk2' hbkT hb2T hrT hrs hrs2
    repeat (first|(refine aB ?_;refine TL.pure rfl rfl ?_)|refine aF rfl rfl ?_|(refine bJ ?_;refine bT rfl rfl (by omega) rfl ?_)|refine TL.nil ?_|refine aA ?_|refine aC ?_|refine aT ?_|(refine aP ?_;(refine bP rfl rfl yB (by exact rfl) (by exact rfl) (by exact rfl) ?_;intro w' hu hbk hsz)))
    have hcu:Carry (λ k=>bk+1≤k∧(Value.slice va7 (i+1) vc7).ownBlock≠some k) w7 (λ k=>bk+1≤k∧(Value.slice va7 (i+1) vc7).ownBlock≠some k) w':=Carry.upd hu (λ k hk _=>by omega)
    refine bG (.slice va7 (i+1) vc7,i+1) ⟨rfl,rfl,rfl,rfl,rfl,trivial⟩ ⟨hlt,its++[((hO o).1,(hO (hO o).2).1)],(hO (hO o).2).2,cells++[.slice ka (hO o).1.length kc,.slice va (hO (hO o).2).1.length vc],hbk,Blk.upd hu (by omega) hb27,own_upd hown7 hu (by omega),(hcellsA.append (show ItCells _ _ [_,_] [((hO o).1,(hO (hO o).2).1)] from ⟨⟨_,_,_,rfl,hkA⟩,⟨_,_,_,rfl,hvA⟩,trivial⟩)).go hcu,hr7.keep (by omega) (by omega) (λ k h1 h2=>hu.block k (by omega)),aZ hu (by omega) hg7,?_⟩ (by simp only;omega)
    rw [show cnt-i=cnt-(i+1)+1 by omega] at hread
    simp only [kL] at hread
    rw [hread]
    simp
  rw [if_neg hk0] at e0
  by_cases hk1:knd=1
  rotate_left
  ·have hN:gB bs=none:=by rw [e0,if_neg (λ h=>hk1 h.1)]
   repeat (first|(refine iG ?_;first|refine bQ rfl rfl rfl ?_|refine aX rfl rfl rfl ?_)|(refine aB ?_;refine TL.pure rfl rfl ?_)|(refine aD ?_;refine TL.pure rfl rfl ?_)|refine TL.nil ?_|refine aA ?_|refine aJ ?_|refine aC ?_|(refine aH ?_;refine aR rfl yD rfl ?_)|(refine aP ?_;(refine aY rfl rfl yB (by exact rfl) (by exact rfl) (by exact rfl) ?_;intro w' hu hbk hsz))|refine TL.build rfl rfl rfl ?_|refine aE rfl ?_|refine bC ?_|refine dB ?_|refine TL.pure rfl rfl ?_|refine mS ?_)
   exact jC rfl (bY (by assumption) rfl) rfl ⟨_,rfl,by rw [hN];rfl,yG⟩
  by_cases hc2:2≤cnt
  rotate_left
  ·have hN:gB bs=none:=by rw [e0,if_neg (λ h=>hc2 h.2)]
   repeat (first|refine aX rfl rfl rfl ?_|(refine aB ?_;refine TL.pure rfl rfl ?_)|(refine aD ?_;refine TL.pure rfl rfl ?_)|refine TL.nil ?_|refine aA ?_|refine aJ ?_|refine aC ?_|(refine aH ?_;first|refine bA rfl yD rfl ?_|refine aR rfl yD rfl ?_)|(refine aP ?_;(refine aY rfl rfl yB (by exact rfl) (by exact rfl) (by exact rfl) ?_;intro w' hu hbk hsz))|refine TL.build rfl rfl rfl ?_|refine aE rfl ?_|refine bC ?_|refine dB ?_|refine TL.pure rfl rfl ?_|refine mS ?_)
   exact jC rfl (bY (by assumption) rfl) rfl ⟨_,rfl,by rw [hN];rfl,yG⟩
  rw [if_pos ⟨hk1,hc2⟩] at e0
  subst hk1
  repeat (first|refine aX rfl rfl rfl ?_|(refine aB ?_;refine TL.pure rfl rfl ?_)|(refine aD ?_;refine TL.pure rfl rfl ?_)|refine TL.nil ?_|refine aA ?_|refine aJ ?_|refine aC ?_|refine T.block ?_|(refine aH ?_;first|refine bA rfl yD rfl ?_|refine aR rfl yD rfl ?_)|refine aN rfl ?_|refine aE rfl ?_|refine TL.pure rfl rfl ?_)
  refine cM (S:=Value×Nat) (λ s=>[(54,.int .i64 (s.2:Int)),(53,.int .i64 (cnt:Int)),(6,.int .i64 (cnt:Int)),(4,.pointer (some ⟨b,0,none⟩)),(7,.pointer (some ⟨bk,0,none⟩)),(2,.pointer (some ⟨bk2,0,none⟩))])
   (λ s w1=>s.2≤cnt∧∃ (kds:List Nat) (o:Option Bs),Blk w1 bk 79 [.slice none 0 0,s.1,.slice none 0 0]∧Blk w1 bk2 79 nil3∧w1.ownsRow (bk+1) 3 1 s.1 s.2 (cB kds)∧RS w0.heap.size b o w1∧Grow w w1∧kC cnt o2=(kds++(kC (cnt-s.2) o).1,(kC (cnt-s.2) o).2))
   (λ s=>cnt-s.2) (.slice none 0 0,0) ⟨rfl,rfl,rfl,rfl,rfl,rfl,trivial⟩ ⟨by show 0≤cnt;omega,[],o2,hbk4,hb4,own_nil,hr4,hg4,rfl⟩ ?_
  clear hbk4 hb4 hr4 hg4 hs4
  rintro ⟨v,i⟩ w1 ⟨hi,kds,o,hbk,hb2,hown,hrs,hg1,hread⟩
  simp only at hi hbk hown hread
  refine cT (e':=[(54,.int .i64 (i:Int)),(53,.int .i64 (cnt:Int)),(6,.int .i64 (cnt:Int)),(4,.pointer (some ⟨b,0,none⟩)),(7,.pointer (some ⟨bk,0,none⟩)),(2,.pointer (some ⟨bk2,0,none⟩))]) ?_ ⟨rfl,rfl,rfl,rfl,rfl,rfl,trivial⟩
  have hl1:=hbk.lt
  by_cases hlt:i<cnt
  ·have hwl:=hrs.wlt (m:=4)
   repeat (first|refine TL.nil ?_|refine aA ?_|refine aJ ?_|refine aC ?_|refine T.block ?_|(refine aH ?_;refine bA rfl yD rfl ?_)|refine aN rfl ?_|refine aV ?_)
   apply T.anyA (Mut b) 6 3 (λ w=>RS w0.heap.size b o w∧But b w1 w) (λ w=>RS w0.heap.size b (rdW 4 o).2 w∧But b w1 w) (λ w=>But b w1 w)
    [isA _,isA _,isA _,isA (.int .u64 ((rdW 4 o).1:Int)),isA (.int .i64 ((rdW 4 o).1:Int)),
     ofA (λ u w=>∃ bb,u=.slice (some ⟨bb,0,none⟩) 1 1∧w1.heap.size≤bb∧Blk w bb 3 [.int .i64 ((rdW 4 o).1:Int)]) (by rintro u w w' g ⟨bb,h1,h0,h2⟩;exact ⟨bb,h1,h0,h2.grow g⟩)]
   ·kernel_rfl
   ·exact ⟨hrs,But.refl _ _⟩
   ·exact λ _ h=>h.2
   ·exact λ _ h=>h.2
   ·exact λ _ h=>h.size
   ·exact λ _ _ h g=>⟨h.1.grow g,lX g h.2⟩
   ·exact λ _ _ h g=>⟨h.1.grow g,lX g h.2⟩
   ·exact λ _ _ h=>h.size
   ·repeat' (first|exact allA_end|refine allA_cons ?_ ?_)
    iterate 3
     ·refine kF rfl rfl rfl rfl ?_
      intro wq _ _ hiw
      have hbq:=eE hiw hbk (by omega)
      (repeat (refine dZ rfl rfl ?_;intro vq hvq;try (obtain rfl:=Eq.symm hvq)));(refine eO ?_)
      repeat (first|(refine aB ?_;refine TL.pure rfl rfl ?_)|refine aK rfl yM rfl ?_|refine aF rfl rfl ?_|refine TL.nil ?_)
      exact iA rfl (Grow.refl _) rfl
    ·refine doesA_it rfl rfl rfl rfl ?_
     intro wq _ _ hiw
     (repeat (refine dZ rfl rfl ?_;intro vq hvq;try (obtain rfl:=Eq.symm hvq)));(refine eO ?_)
     refine aI rfl (rs_word (m:=4) hiw.1 (by omega) (by omega)) rfl ?_
     rintro _ w5 ⟨rfl,hrs5,hm5⟩
     repeat (refine TL.nil ?_)
     exact iA rfl ⟨hm5,hrs5,but_but (eR hm5) hiw.2⟩ rfl
    ·refine kF rfl rfl rfl rfl ?_
     intro wq _ _ hiw
     (repeat (refine dZ rfl rfl ?_;intro vq hvq;try (obtain rfl:=Eq.symm hvq)));(refine eO ?_)
     repeat (first|refine TL.nil ?_|(refine cZ ?_;refine lZ rfl (by omega) rfl ?_))
     exact iA rfl (Grow.refl _) rfl
    ·refine kF rfl rfl rfl rfl ?_
     intro wq _ _ hiw
     (repeat (refine dZ rfl rfl ?_;intro vq hvq;try (obtain rfl:=Eq.symm hvq)));(refine eO ?_)
     have:=hiw.size
     refine TL.buildSlice rfl rfl rfl rfl rfl ?_
     intro bb w6 hg6 hb6 hs61 hs62 hs63
     repeat (refine TL.nil ?_)
     exact iA rfl hg6 ⟨bb,rfl,by omega,hb6⟩
   ·rintro wT lo hi ⟨hrT,hbT⟩ _ _
    (repeat (refine dZ rfl rfl ?_;intro vq hvq;try (obtain rfl:=Eq.symm hvq)));(refine eO ?_)
    obtain ⟨bb,rfl,hbb0,hbb⟩:=hvq
    have hownT:=own_but hown hbT (by omega)
    have hbkT:=eE hbT hbk (by omega)
    have hb2T:Blk wT bk2 79 nil3:=eE hbT hb2 (by omega)
    have hsT:=hbT.size
    refine jV rfl rfl hownT (bR (sz:=1) (m:=1) hbb rfl (by decide)) (by simp [Value.oneCell']) (by unfold maxLen;omega) (by omega) (by omega) rfl ?_
    intro v' w7 hown7 hgb7 hcar
    have hbk7:=fB hgb7 (λ e=>by have:=cY hownT e;omega) hbkT
    have hb27:=fB hgb7 (λ e=>by have:=cY hownT e;omega) hb2T
    have hr7:RS w0.heap.size b (rdW 4 o).2 w7:=hrT.keep (by omega) hgb7.size (λ k h1 h2=>hgb7.block k (by omega) (λ e=>by have:=cY hownT e.symm;omega))
    have hg7:Grow w w7:=Grow.mk (cA hgb7 (by omega) (λ k hk=>by have:=cY hownT hk;omega) (lP hbT (by omega) hg1).1)
    obtain ⟨va7,vc7,rfl,hsl7⟩:=cE hown7
    have hs7:=hgb7.size
    clear hcar hbk hb2 hbkT hb2T hrT hrs
    repeat (first|(refine aB ?_;refine TL.pure rfl rfl ?_)|refine aF rfl rfl ?_|(refine bJ ?_;refine bT rfl rfl (by omega) rfl ?_)|refine TL.nil ?_|refine aA ?_|refine aC ?_|refine aT ?_|(refine aP ?_;(refine bP rfl rfl yB (by exact rfl) (by exact rfl) (by exact rfl) ?_;intro w' hu hbk hsz)))
    refine bG (.slice va7 (i+1) vc7,i+1) ⟨rfl,rfl,rfl,rfl,rfl,rfl,trivial⟩ ⟨hlt,kds++[(rdW 4 o).1],(rdW 4 o).2,hbk,Blk.upd hu (by omega) hb27,by simpa [cB] using own_upd hown7 hu (by omega),hr7.keep (by omega) (by omega) (λ k h1 h2=>hu.block k (by omega)),aZ hu (by omega) hg7,?_⟩ (by simp only;omega)
    rw [show cnt-i=cnt-(i+1)+1 by omega] at hread
    simp only [kC] at hread
    rw [hread]
    simp
  obtain rfl:i=cnt:=by omega
  rw [Nat.sub_self] at hread
  simp only [kC,List.append_nil] at hread
  obtain ⟨ka2,kc2,rfl,hsl⟩:=cE hown
  obtain ⟨H,hH⟩:∃ H,w1.heap.size=H:=⟨_,rfl⟩
  have hbH:bk+1≤H:=by omega
  have hk2:Sl (λ k=>bk+1≤k∧k<H) w1 1 ka2 i kc2 (cB kds):=hsl.tight.mono (λ k hk=>⟨hk.1.1,by omega⟩)
  rw [hread] at e0
  simp only at e0
  clear hown hsl
  repeat (first|(refine aB ?_;refine TL.pure rfl rfl ?_)|(refine cJ ?_;refine dI rfl rfl (by omega) (by omega) rfl ?_)|refine TL.nil ?_|refine aA ?_|refine aJ ?_|refine aC ?_|refine T.block ?_|(refine aH ?_;refine aR rfl yD rfl ?_)|refine aE rfl ?_|refine cN ?_|refine bM ?_|refine bO ?_|refine bN ?_)
  refine cM (S:=Value×Nat) (λ s=>[(67,.int .i64 (s.2:Int)),(66,.int .i64 ((i-1:Nat):Int)),(4,.pointer (some ⟨b,0,none⟩)),(7,.pointer (some ⟨bk,0,none⟩)),(2,.pointer (some ⟨bk2,0,none⟩))])
   (λ s w1=>s.2≤i-1∧H≤w1.heap.size∧∃ (kys:List Bs) (o4:Option Bs) (cells:List Value),Blk w1 bk 79 [.slice none 0 0,.slice ka2 i kc2,s.1]∧Blk w1 bk2 79 nil3∧Sl (λ k=>bk+1≤k∧k<H) w1 1 ka2 i kc2 (cB kds)∧w1.ownsRow H 30 1 s.1 s.2 cells∧KyCells (λ k=>H≤k∧s.1.ownBlock≠some k) w1 cells kys∧RS w0.heap.size b o4 w1∧Grow w w1∧kK (i-1) o=(kys++(kK (i-1-s.2) o4).1,(kK (i-1-s.2) o4).2))
   (λ s=>i-1-s.2) (.slice none 0 0,0) ⟨rfl,rfl,rfl,rfl,rfl,trivial⟩ ⟨by show 0≤i-1;omega,by omega,[],o,[],hbk,hb2,hk2,own_nil,trivial,hrs,hg1,rfl⟩ ?_
  clear hbk hb2 hk2 hrs hg1 hH
  rintro ⟨v,j⟩ w1 ⟨hj,hHw,kys,o4,cells,hbk,hb2,hk2,hown,hcells,hrs,hg1,hread3⟩
  simp only at hj hbk hown hcells hread3
  refine cT (e':=[(67,.int .i64 (j:Int)),(66,.int .i64 ((i-1:Nat):Int)),(4,.pointer (some ⟨b,0,none⟩)),(7,.pointer (some ⟨bk,0,none⟩)),(2,.pointer (some ⟨bk2,0,none⟩))]) ?_ ⟨rfl,rfl,rfl,rfl,rfl,trivial⟩
  have hl1:=hbk.lt
  by_cases hlt:j<i-1
  rotate_left
  ·obtain rfl:j=i-1:=by omega
   rw [Nat.sub_self] at hread3
   simp only [kK,List.append_nil] at hread3
   repeat (first|refine TL.nil ?_|refine aA ?_|refine aJ ?_|refine aC ?_|refine aT ?_|(refine aH ?_;refine aR rfl yD rfl ?_)|refine aE rfl ?_|refine cN ?_|refine bM ?_|refine bO ?_|refine bN ?_|refine bH ?_|refine cR ?_)
   obtain ⟨va,vc,rfl,hsl⟩:=cE hown
   refine ⟨w0.heap.size,b,bk,bk2,bk+1,⟨none,0,0,ka2,i,kc2,va,i-1,vc⟩,⟨[],kds,kys⟩,o4,⟨rfl,rfl,rfl,trivial⟩,by omega,by omega,by omega,by omega,by omega,by omega,hbk,hb2,hrs,⟨⟨[],Sl.nil_mk _ _ _,trivial⟩,hk2.mono λ k hk=>hk.1,⟨cells,hsl.mono λ k hk=>by have:=hk.1;omega,hcells.go (Carry.mono λ k hk _=>by have:=hk.1;omega)⟩⟩,hg1,?_⟩
   rw [e0,hread3]
  ·repeat (first|refine TL.nil ?_|refine aA ?_|refine aJ ?_|refine aC ?_|refine T.block ?_|(refine aH ?_;refine bA rfl yD rfl ?_)|refine aN rfl ?_|refine aV ?_)
   apply T.anyA (Mut b) 5 3 (λ w=>RS w0.heap.size b o4 w∧But b w1 w) (λ w=>RS w0.heap.size b (hO o4).2 w∧But b w1 w) (λ w=>But b w1 w)
    [isA _,isA _,isA _,ofA (λ u w=>∃ a c,u=.slice a (hO o4).1.length c∧Sl (λ k=>w1.heap.size≤k) w 1 a (hO o4).1.length c (cX (hO o4).1)) (by rintro u w w' g ⟨a,c,h1,h2⟩;exact ⟨a,c,h1,h2.grow g⟩),
     ofA (λ u w=>∃ bb a c,u=.slice (some ⟨bb,0,none⟩) 1 1∧w1.heap.size≤bb∧Blk w bb 30 [.slice a (hO o4).1.length c]∧Sl (λ k=>w1.heap.size≤k) w 1 a (hO o4).1.length c (cX (hO o4).1)) (by rintro u w w' g ⟨bb,a,c,h1,h0,h2,h3⟩;exact ⟨bb,a,c,h1,h0,h2.grow g,h3.grow g⟩)]
   ·kernel_rfl
   ·exact ⟨hrs,But.refl _ _⟩
   ·exact λ _ h=>h.2
   ·exact λ _ h=>h.2
   ·exact λ _ h=>h.size
   ·exact λ _ _ h g=>⟨h.1.grow g,lX g h.2⟩
   ·exact λ _ _ h g=>⟨h.1.grow g,lX g h.2⟩
   ·exact λ _ _ h=>h.size
   ·repeat' (first|exact allA_end|refine allA_cons ?_ ?_)
    iterate 3
     ·refine kF rfl rfl rfl rfl ?_
      intro wq _ _ hiw
      have hbq:=eE hiw hbk (by omega)
      (repeat (refine dZ rfl rfl ?_;intro vq hvq;try (obtain rfl:=Eq.symm hvq)));(refine eO ?_)
      repeat (first|(refine aB ?_;refine TL.pure rfl rfl ?_)|refine aK rfl yM rfl ?_|refine aF rfl rfl ?_|refine TL.nil ?_)
      exact iA rfl (Grow.refl _) rfl
    ·refine doesA_it rfl rfl rfl rfl ?_
     intro wq _ _ hiw
     (repeat (refine dZ rfl rfl ?_;intro vq hvq;try (obtain rfl:=Eq.symm hvq)));(refine eO ?_)
     refine aI rfl (rs_block hiw.1) rfl ?_
     rintro _ w5 ⟨va,vc,rfl,hvs,hrs5,hm5⟩
     repeat (refine TL.nil ?_)
     have:=hiw.2.size
     exact iA rfl ⟨hm5,hrs5,but_but (eR hm5) hiw.2⟩ ⟨va,vc,rfl,hvs.mono λ k hk=>by omega⟩
    ·refine kF rfl rfl rfl rfl ?_
     intro wq _ _ hiw
     (repeat (refine dZ rfl rfl ?_;intro vq hvq;try (obtain rfl:=Eq.symm hvq)));(refine eO ?_)
     obtain ⟨va,vc,rfl,hvs⟩:=hvq
     have:=hiw.size
     refine TL.buildSlice rfl rfl rfl rfl rfl ?_
     intro bb w6 hg6 hb6 hs61 hs62 hs63
     repeat (refine TL.nil ?_)
     exact iA rfl hg6 ⟨bb,va,vc,rfl,by omega,hb6,hvs.grow hg6⟩
   ·rintro wT lo hi ⟨hrT,hbT⟩ _ _
    (repeat (refine dZ rfl rfl ?_;intro vq hvq;try (obtain rfl:=Eq.symm hvq)));(refine eO ?_)
    obtain ⟨bb,va,vc,rfl,hbb0,hbb,hvs⟩:=hvq
    have hownT:=own_but hown hbT (by omega)
    have hbkT:=eE hbT hbk (by omega)
    have hb2T:Blk wT bk2 79 nil3:=eE hbT hb2 (by omega)
    have hkT:=hk2.go (Carry.but hbT (λ k hk _=>by omega))
    have hsT:=hbT.size
    refine jV rfl rfl hownT (bR (sz:=1) (m:=1) hbb rfl (by decide)) (by simp [Value.oneCell']) (by unfold maxLen;omega) (by omega) (by omega) rfl ?_
    intro v' w7 hown7 hgb7 hcar
    have hbk7:=fB hgb7 (λ e=>by have:=cY hownT e;omega) hbkT
    have hb27:=fB hgb7 (λ e=>by have:=cY hownT e;omega) hb2T
    have hk7:Sl (λ k=>bk+1≤k∧k<H) w7 1 ka2 i kc2 (cB kds):=hkT.keep (λ k hk hk2=>hgb7.block k hk2 (λ e=>by have:=cY hownT e.symm;omega)) hgb7.size
    have hr7:RS w0.heap.size b (hO o4).2 w7:=hrT.keep (by omega) hgb7.size (λ k h1 h2=>hgb7.block k (by omega) (λ e=>by have:=cY hownT e.symm;omega))
    have hg7:Grow w w7:=Grow.mk (cA hgb7 (by omega) (λ k hk=>by have:=cY hownT hk;omega) (lP hbT (by omega) hg1).1)
    have hc2:Carry (λ k=>H≤k∧v.ownBlock≠some k) wT (λ k=>H≤k∧v'.ownBlock≠some k) w7:=hcar (λ k=>H≤k)
    have hcellsA:=hcells.go ((Carry.but hbT (λ k hk _=>by omega)).trans hc2)
    have hvA:=hvs.go ((Carry.mono (λ k hk _=>⟨by omega,λ e=>by have:=cY hown e;omega⟩)).trans hc2)
    obtain ⟨va7,vc7,rfl,hsl7⟩:=cE hown7
    have hs7:=hgb7.size
    clear hcar hc2 hbk hb2 hbkT hb2T hrT hrs hk2 hkT
    repeat (first|(refine aB ?_;refine TL.pure rfl rfl ?_)|refine aF rfl rfl ?_|(refine bJ ?_;refine bT rfl rfl (by omega) rfl ?_)|refine TL.nil ?_|refine aA ?_|refine aC ?_|refine aT ?_|(refine aP ?_;(refine bP rfl rfl yB (by exact rfl) (by exact rfl) (by exact rfl) ?_;intro w' hu hbk hsz)))
    have hcu:Carry (λ k=>H≤k∧(Value.slice va7 (j+1) vc7).ownBlock≠some k) w7 (λ k=>H≤k∧(Value.slice va7 (j+1) vc7).ownBlock≠some k) w':=Carry.upd hu (λ k hk _=>by omega)
    refine bG (.slice va7 (j+1) vc7,j+1) ⟨rfl,rfl,rfl,rfl,rfl,trivial⟩ ⟨hlt,by omega,kys++[(hO o4).1],(hO o4).2,cells++[.slice va (hO o4).1.length vc],hbk,Blk.upd hu (by omega) hb27,hk7.go (Carry.upd hu (λ k hk _=>by omega)),own_upd hown7 hu (by omega),(hcellsA.append (show KyCells _ _ [_] [(hO o4).1] from ⟨⟨_,_,_,rfl,hvA⟩,trivial⟩)).go hcu,hr7.keep (by omega) (by omega) (λ k h1 h2=>hu.block k (by omega)),aZ hu (by omega) hg7,?_⟩ (by simp only;omega)
    rw [show i-1-j=i-1-(j+1)+1 by omega] at hread3
    simp only [kK] at hread3
    rw [hread3]
    simp
 rintro e w1 ⟨B,b,bk,bk2,B0,x,nd,o,hsub,q1,q2,q3,q4,q5,q6,hbk,hb2,hrs,hnd,hg1,hread⟩
 refine cT (e':=[(4,_),(7,_),(2,_)]) ?_ hsub
 clear hsub
 obtain ⟨m,hm,hleft,htake⟩:=rs_rest hrs
 have hlb1:=hbk.lt
 repeat (first|(refine aB ?_;refine TL.pure rfl rfl ?_)|refine aJ ?_|refine aC ?_)
 refine aI rfl hleft rfl ?_
 rintro _ w2 ⟨rfl,hg2⟩
 repeat (refine aJ ?_)
 refine aI rfl (htake w2 (hrs.grow hg2) hg2) rfl ?_
 rintro _ w3 ⟨ta,tc,rfl,hts,hrs3,hm3⟩
 have hbk3:Blk w3 bk 79 x.cs:=eE (eR hm3) (hbk.grow hg2) (by omega)
 have hb23:Blk w3 bk2 79 nil3:=eE (eR hm3) (hb2.grow hg2) (by omega)
 have hnd3:NdAt (λ k=>B0≤k) w3 x nd:=hnd.go ((Carry.grow hg2).trans (Carry.but (eR hm3) (λ k hk _=>by omega)))
 have hg3:Grow w w3:=lP (eR hm3) (by omega) (hg1.trans hg2)
 clear hbk hb2 hnd hrs hleft htake hg2 hm3 hg1
 repeat (first|(refine aB ?_;refine TL.pure rfl rfl ?_)|refine TL.nil ?_|refine aA ?_|refine T.block ?_|refine aO rfl rfl ?_)
 have htl:=hts.le
 refine cM (S:=Nat) (λ i=>[(82,.int .i64 (i:Int)),(81,.int .i64 ((o.getD []).length:Int)),(80,.slice ta (o.getD []).length tc),(4,.pointer (some ⟨b,0,none⟩)),(7,.pointer (some ⟨bk,0,none⟩)),(2,.pointer (some ⟨bk2,0,none⟩))]) (λ i w'=>i≤(o.getD []).length∧w3=w'∧∀ j,j<i→(o.getD [])[j]? = some 0) (λ i=>(o.getD []).length-i) 0 ⟨rfl,rfl,rfl,rfl,rfl,rfl,trivial⟩ ⟨by omega,rfl,λ j hj=>by omega⟩ ?_
 rintro i _ ⟨hi,rfl,hall⟩
 by_cases hlt:i<(o.getD []).length
 ·obtain ⟨p,hp⟩:∃ p,(o.getD [])[i]? = some p:=⟨_,List.getElem?_eq_getElem (by omega)⟩
  have hcx:w3.cell? (at' ta i)=some (.int .u8 (p:Int)):=hts.row.cell (bys_at hp)
  by_cases hp0:p=0
  ·subst hp0
   repeat (first|(refine bF ?_;refine aW rfl rfl rfl hlt (Nat.mul_one _) ⟨_,_,hts⟩ rfl ?_)|(refine aB ?_;refine TL.pure rfl rfl ?_)|(refine aD ?_;refine TL.pure rfl rfl ?_)|refine aK rfl yM rfl ?_|(refine bJ ?_;refine bT rfl rfl (by omega) rfl ?_)|refine TL.nil ?_|refine aA ?_|refine aJ ?_|refine aC ?_|refine T.block ?_|refine aT ?_|(refine aH ?_;first|refine bA rfl yD rfl ?_|refine aR rfl yD rfl ?_)|refine aN rfl ?_|refine aE rfl ?_|refine aV ?_)
   exact bG (i+1) ⟨rfl,rfl,rfl,rfl,rfl,rfl,trivial⟩ ⟨hlt,rfl,λ j hj=>by
    by_cases hj2:j=i
    ·subst hj2;exact hp
    ·exact hall j (by omega)⟩ (by omega)
  ·have hN:gB bs=none:=by
    rw [hread]
    cases o with
    | none=>rfl
    | some r =>
     have:r.all (λ x=>x==0)=false:=by
      rw [← Bool.not_eq_true,List.all_eq_true]
      intro h
      have:=h p (List.mem_of_getElem? hp)
      simp at this
      exact hp0 this
     simp [finN,this]
   repeat (first|(refine bF ?_;refine aW rfl rfl rfl hlt (Nat.mul_one _) ⟨_,_,hts⟩ rfl ?_)|(refine aB ?_;refine TL.pure rfl rfl ?_)|(refine aD ?_;refine TL.pure rfl rfl ?_)|refine aK rfl yM rfl ?_|refine TL.nil ?_|refine aA ?_|refine aJ ?_|refine aC ?_|refine T.block ?_|(refine aH ?_;refine bA rfl yD rfl ?_)|(refine aP ?_;(refine aY rfl rfl yB (by exact rfl) (by exact rfl) (by exact rfl) ?_;intro w' hu hbk hsz))|refine TL.build rfl rfl rfl ?_|refine aN rfl ?_|refine bC ?_|refine aV ?_|refine bI ?_|refine dB ?_|refine dW ?_)
   exact jC rfl (bY (by assumption) rfl) rfl ⟨_,rfl,by rw [hN];rfl,yG⟩
 repeat (first|(refine aB ?_;refine TL.pure rfl rfl ?_)|refine TL.nil ?_|refine aA ?_|refine aJ ?_|refine aC ?_|(refine aH ?_;refine aR rfl yD rfl ?_)|refine aE rfl ?_|refine cN ?_|refine bM ?_|refine bO ?_|refine bN ?_)
 refine aI rfl (rs_err hrs3) rfl ?_
 rintro _ _ ⟨⟨ev,rfl,hev⟩,rfl⟩
 cases o with
 | none =>
  have hev0:ev≠0:=λ h=>(hev.1 h) rfl
  have hN:gB bs=none:=hread
  repeat (first|refine bQ rfl rfl rfl ?_|(refine aB ?_;refine TL.pure rfl rfl ?_)|(refine aD ?_;refine TL.pure rfl rfl ?_)|refine TL.nil ?_|refine aA ?_|refine aJ ?_|refine aC ?_|(refine aH ?_;refine bA rfl yD rfl ?_)|(refine aP ?_;(refine aY rfl rfl yB (by exact rfl) (by exact rfl) (by exact rfl) ?_;intro w' hu hbk hsz))|refine TL.build rfl rfl rfl ?_|refine aN rfl ?_|refine bC ?_|refine bI ?_|refine TL.pure rfl rfl ?_)
  exact jC rfl (bY (by assumption) rfl) rfl ⟨_,rfl,by rw [hN];rfl,yG⟩
 | some r =>
  have hev0:ev=0:=hev.2 (by simp)
  subst hev0
  have hz:r.all (λ x=>x==0)=true:=by
   rw [List.all_eq_true]
   intro y hy
   obtain ⟨j,hj,rfl⟩:=List.mem_iff_getElem.1 hy
   have:=hall j (by simp at hlt;omega)
   simp only [Option.getD_some] at this
   rw [List.getElem?_eq_getElem hj] at this
   simpa using this
  cases hok:cH nd with
  | false =>
   have hN:gB bs=none:=by rw [hread];simp [finN,hok]
   repeat (first|refine aX rfl rfl rfl ?_|(refine aB ?_;refine TL.pure rfl rfl ?_)|(refine aU ?_;refine bE rfl yB (by exact rfl) rfl ?_)|(refine aH ?_;refine aR rfl yD rfl ?_))
   refine aI rfl (check_bad hnd3 hok) rfl ?_
   rintro _ w4 ⟨rfl,hg4⟩
   repeat (first|refine aX rfl rfl rfl ?_|(refine aD ?_;refine TL.pure rfl rfl ?_)|refine TL.nil ?_|refine aA ?_|refine aJ ?_|refine aC ?_|(refine aH ?_;refine bA rfl yD rfl ?_)|(refine aP ?_;(refine aY rfl rfl yB (by exact rfl) (by exact rfl) (by exact rfl) ?_;intro w' hu hbk hsz))|refine TL.build rfl rfl rfl ?_|refine aN rfl ?_|refine bC ?_|refine bI ?_|refine TL.pure rfl rfl ?_)
   exact jC rfl (bY (by assumption) rfl) rfl ⟨_,rfl,by rw [hN];rfl,yG⟩
  | true =>
   have hN:gB bs=some nd:=by rw [hread];simp only [Option.bind_some,finN,hz,hok];rfl
   repeat (first|refine aX rfl rfl rfl ?_|(refine aB ?_;refine TL.pure rfl rfl ?_)|(refine aU ?_;refine bE rfl yB (by exact rfl) rfl ?_)|(refine aH ?_;refine aR rfl yD rfl ?_))
   refine aI rfl (check_ok hnd3 hok) rfl ?_
   rintro _ w4 ⟨rfl,hg4⟩
   repeat (first|refine aX rfl rfl rfl ?_|(refine aD ?_;refine TL.pure rfl rfl ?_)|(refine aU ?_;refine bE rfl yB (by exact rfl) rfl ?_)|refine TL.nil ?_|refine aA ?_|refine aJ ?_|refine aC ?_|(refine aH ?_;refine aR rfl yD rfl ?_)|(refine aP ?_;(refine aY rfl rfl yB (by exact rfl) (by exact rfl) (by exact rfl) ?_;intro w' hu hbk hsz))|refine aE rfl ?_|refine bC ?_|refine aV ?_|refine TL.pure rfl rfl ?_)
   refine jC rfl (bY (by assumption) rfl) rfl ⟨_,rfl,?_,yG⟩
   rw [hN]
   exact ⟨x,rfl,hnd3.go ((Carry.grow hg4).trans ((Carry.upd hu (λ k hk _=>by omega)).trans (Carry.mono (λ k hk _=>by omega))))⟩
end Go.Proofs.YtfpadnmdafiddaaGreatDoor
namespace Go.V
open Go Go.RowKit
section
variable [Rn]
variable {P:Program} {n:Nat} {e:dN} {w:World} {Q:dO} {ops:Array Oper} {rest:List Oper} {d:Nat} {ty:TypeId} {pos:String} {aft:Array Edge}
theorem TL.eqNilP {t t2:TypeId} {x y:Operand} {a:Addr} [ht:PtrTy P t] (hx:val e x=some (.pointer (some a))) (hy:val e y=some (.pointer none)) (hd:Nat.blt d n=true)
  (k:TL P n ops rest ((d,.bool false)::e) w Q):TL P n ops (⟨some d,.binOp .eql t x y t2,ty,pos,aft,none⟩::rest) e w Q :=
 TL.run (λ r hr=>by
  have hg:eqGuard .eql t x y (.pointer (some a)) (.pointer none)=Pure.pure ():=rfl
  simp only [execOp,hr.eval hx,hr.eval hy,hg]
  simp only [binOp]
  simp [Op.equal,Op.maxDepth,run_equalIn_nil 9999 ht]) hd k
end
end Go.V
namespace Go.Proofs.YtfpadnmdafiddaaGreatDoor
open Go Go.RowKit Go.V
theorem ready_c {w:World} {L:PL} {g:Pg} (h:PgAt w L g) (r:Int) (hr : -1≤r) (hr2:r≤9223372036854775807) :
  Calls Tryz.prog 93 #[.pointer (some ⟨L.p,0,none⟩),.int .i64 r] w (Ret λ v w'=>v=.int .i64 0∧w=w'):=by
 refine V.calls (args:=[_,_]) Tryz.func93 rfl Tryz.ntmps93 rfl rfl ?_
 have ht:decide (r < -1)=false:=decide_eq_false (by omega)
 repeat (first|(refine TL.isEqT 25 ?_;refine TL.eqNilP rfl rfl rfl ?_)|(refine aL 50 ?_;refine aI rfl (read_neg h) rfl ?_;rintro _ _ ⟨rfl,rfl⟩)|(refine aB ?_;refine TL.pure rfl rfl ?_)|(refine aD ?_;refine TL.pure rfl rfl ?_)|refine TL.nil ?_|refine aA ?_|refine aJ ?_|refine aC ?_|(refine aH ?_;refine TL.pure rfl rfl ?_)|refine aE rfl ?_|refine eG rfl yD ?_|refine bC ?_|refine aV ?_|refine TL.pure rfl rfl ?_)
 exact cF rfl ⟨_,rfl,rfl,rfl⟩
theorem iJ (x:NV) (w:World) (h1:x.n1≤1000000) (h2:x.n2≤1000000) :
  Calls Tryz.prog 83 #[x.val] w (Ret λ v w'=>v=.int .i64 ((x.n1+x.n2:Nat):Int)∧Grow w w'):=by
 refine V.calls (args:=[_]) Tryz.func83 rfl Tryz.ntmps83 rfl rfl ?_
 repeat (first|(refine aD ?_;refine TL.pure rfl rfl ?_)|refine aK rfl yM rfl ?_|refine aF rfl rfl ?_|(refine bJ ?_;refine bT rfl rfl (by omega) rfl ?_)|refine TL.nil ?_|refine aA ?_|refine aJ ?_|refine aC ?_|(refine bW ?_;(refine dJ rfl rfl ?_;intro bk w' hg hbk hsz hsz'))|refine aO rfl rfl ?_|refine bC ?_)
 exact cF rfl ⟨_,rfl,rfl,yG⟩
theorem node_c {w:World} {L:PL} {g:Pg} (h:PgAt w L g) (n:Nat) (hn:n<4294967296) (hu:cV g n=true) :
  Calls Tryz.prog 127 #[.pointer (some ⟨L.p,0,none⟩),.int .i64 (n:Int)] w (Ret λ v w'=>(match gB (g.body n) with
   | some nd=>∃ x:NV,v=.tuple #[x.val,.int .i64 0]∧NdAt (λ k=>w.heap.size≤k) w' x nd
   | none=>v=.tuple #[.agg nil3.toArray,.int .i64 4])∧Grow w w'):=by
 refine V.calls (args:=[_,_]) Tryz.func127 rfl Tryz.ntmps127 rfl rfl ?_
 repeat (first|(refine aB ?_;refine TL.pure rfl rfl ?_)|(refine aD ?_;refine TL.pure rfl rfl ?_)|refine TL.nil ?_|refine aA ?_|refine aJ ?_|refine aC ?_|(refine bD ?_;(refine TL.alloc rfl rfl ?_;intro bk w' hg hbk hsz hsz')))
 have hg0:Grow w w':=by exact yG
 have hs0:=hg0.size
 refine aL 50 ?_
 refine aI rfl (pread_c (h.grow hg0) n hn hu) rfl ?_
 rintro _ w2 ⟨u,rfl,hown,hg2⟩
 obtain ⟨a,c,rfl,hsl⟩:=cE hown
 have hs2:=hg2.size
 repeat (first|(refine aB ?_;refine TL.pure rfl rfl ?_)|(refine aD ?_;refine TL.pure rfl rfl ?_)|refine TL.nil ?_|refine aA ?_|refine aJ ?_|refine aC ?_|(refine aH ?_;refine TL.pure rfl rfl ?_)|refine aE rfl ?_|refine aV ?_|refine TL.pure rfl rfl ?_)
 refine aL 174 ?_
 refine aI rfl (read_c _ a 500 c (g.body n) _ hsl (h.lt n) (by omega)) rfl ?_
 rintro v w3 ⟨hv,hg3⟩
 have hbl:=hbk.lt
 have hbk3:=(hbk.grow hg2).grow hg3
 have hgw:=(hg0.trans hg2).trans hg3
 cases hr:gB (g.body n) with
 | none =>
  rw [hr] at hv
  simp only at hv
  subst hv
  repeat (first|(refine aD ?_;refine TL.pure rfl rfl ?_)|refine TL.nil ?_|refine aA ?_|(refine aP ?_;(refine aY rfl rfl yB (by exact rfl) (by exact rfl) (by exact rfl) ?_;intro w' hu hbk hsz))|refine bC ?_|refine TL.pure rfl rfl ?_)
  exact jC rfl (bY (by assumption) rfl) rfl ⟨_,rfl,rfl,yG⟩
 | some nd =>
  rw [hr] at hv
  obtain ⟨x,rfl,hnd⟩:=hv
  repeat (first|(refine aD ?_;refine TL.pure rfl rfl ?_)|refine TL.nil ?_|refine aA ?_|(refine aP ?_;(refine aY rfl rfl yB (by exact rfl) (by exact rfl) (by exact rfl) ?_;intro w' hu hbk hsz))|refine bC ?_|refine TL.pure rfl rfl ?_)
  refine jC rfl (bY (by assumption) rfl) rfl ⟨_,rfl,⟨x,rfl,?_⟩,yG⟩
  have h4:=hnd.go (Carry.upd (by assumption) (λ k hk _=>by omega))
  exact h4.go (Carry.mono (λ k hk _=>by omega))
end Go.Proofs.YtfpadnmdafiddaaGreatDoor
namespace Go.Proofs.YtfpadnmdafiddaaGreatDoor
open Go Go.RowKit Go.V
theorem back_c (a:Option Addr) (n c:Nat) (w:World) :
  Calls Tryz.prog 79 #[.slice a n c] w (Ret λ v w'=>∃ b1,v=.func (.func 151) #[] #[.pointer (some ⟨b1,0,none⟩)] ∧
   w.heap.size≤b1∧Blk w' b1 136 [.slice a n c]∧Grow w w'):=by
 refine V.calls (args:=[_]) Tryz.func79 rfl Tryz.ntmps79 rfl rfl ?_
 repeat (first|(refine jX ?_;refine TL.makeFunc (xs:=[]) (cs:=[_]) rfl rfl rfl ?_)|(refine aD ?_;refine TL.pure rfl rfl ?_)|refine TL.nil ?_|refine aA ?_|refine aJ ?_|refine aC ?_|(refine bW ?_;(refine TL.box rfl rfl rfl ?_;intro bk w' hg hbk hsz hsz'))|refine bC ?_)
 exact cF rfl ⟨_,rfl,_,rfl,by omega,yB,yG⟩
theorem backs_c (G:Nat→Prop) (l b1 m:Nat) (a:Option Addr) (c:Nat) (cs:List Value) (J:Nat→World→Prop) (Fin:World→Prop) (hm:m≤1000000)
  (hpre:∀ k w,J k w→Blk w b1 136 [.slice a m c]∧Sl G w 4 a m c cs)
  (hround:∀ k w,k<m→J (k+1) w→Yld Tryz.prog l [.int .i64 (k:Int),.agg ((cs.drop (k*4)).take 4).toArray] w (λ v w'=>(v=.bool true∧J k w')∨(v=.bool false∧Fin w')))
  (w:World) (h0:J m w) :
  Calls Tryz.prog 151 #[.func (.yield l) #[] #[],.pointer (some ⟨b1,0,none⟩)] w (Ret λ _ w'=>J 0 w'∨Fin w'):=by
 refine V.calls (args:=[_,_]) Tryz.func151 rfl Tryz.ntmps151 rfl rfl ?_
 obtain ⟨hb1,hs⟩:=hpre m w h0
 repeat (first|(refine cJ ?_;refine iT rfl rfl (by omega) (by omega) rfl ?_)|(refine aD ?_;refine TL.pure rfl rfl ?_)|refine aK rfl yM rfl ?_|refine TL.nil ?_|refine aA ?_|refine aJ ?_|refine aC ?_|refine T.block ?_|refine aO rfl rfl ?_)
 refine cM (S:=Nat) (λ k=>[(3,.int .i64 ((k:Int)-1)),(1,.pointer (some ⟨b1,0,none⟩)),(0,.func (.yield l) #[] #[])]) (λ k w1=>k≤m∧J k w1) (λ k=>k) m ⟨rfl,rfl,rfl,trivial⟩ ⟨Nat.le_refl _,h0⟩ ?_
 clear h0 hb1 hs
 rintro k w1 ⟨hk,hj⟩
 obtain ⟨hb1,hs⟩:=hpre k w1 hj
 cases k with
 | zero =>
  repeat (first|(refine aB ?_;refine TL.pure rfl rfl ?_)|refine TL.nil ?_|refine aA ?_|refine aJ ?_|refine aC ?_|(refine aH ?_;refine aR rfl yD rfl ?_)|refine aE rfl ?_|refine cN ?_|refine bM ?_|refine bO ?_|refine bN ?_)
  exact kB (vs:=[]) rfl rfl ⟨_,rfl,.inl hj⟩
 | succ k =>
  rw [show (((k+1:Nat):Int)-1)=(k:Int) by omega]
  have hlen:=hs.len
  have hel:((cs.drop (k*4)).take 4).length=4:=by rw [List.length_take,List.length_drop];omega
  repeat (first|(refine bF ?_;refine aW (j:=k) rfl rfl rfl (by omega) rfl ⟨_,_,hs⟩ rfl ?_)|(refine aU ?_;refine eP rfl hs (λ j v hj=>by rw [List.getElem?_take] at hj;split at hj<;>first|(rw [List.getElem?_drop] at hj;exact hj)|cases hj) hel rfl ?_)|(refine aB ?_;refine TL.pure rfl rfl ?_)|refine aK rfl yM rfl ?_|refine TL.nil ?_|refine aA ?_|refine aJ ?_|refine aC ?_|refine T.block ?_|(refine aH ?_;refine bA rfl yD rfl ?_)|refine aN rfl ?_|refine aV ?_)
  refine TL.yield rfl rfl (hround k _ (by omega) hj) rfl ?_
  rintro v w7 (⟨rfl,hj7⟩|⟨rfl,hf7⟩)
  ·obtain ⟨hb17,hs7⟩:=hpre k _ hj7
   repeat (first|(refine cJ ?_;refine iT rfl rfl (by omega) (by omega) rfl ?_)|(refine aB ?_;refine TL.pure rfl rfl ?_)|(refine aD ?_;refine TL.pure rfl rfl ?_)|refine TL.nil ?_|refine aA ?_|refine aC ?_|refine aT ?_|refine aE rfl ?_|refine aV ?_|refine TL.pure rfl rfl ?_)
   exact bG k ⟨rfl,rfl,rfl,trivial⟩ ⟨by omega,hj7⟩ (by omega)
  ·repeat (first|refine TL.nil ?_|refine aA ?_|refine aN rfl ?_|refine bC ?_|refine bI ?_|refine dB ?_|refine dW ?_|refine TL.pure rfl rfl ?_)
   exact jH (vs:=[]) rfl rfl ⟨_,rfl,.inr hf7⟩
end Go.Proofs.YtfpadnmdafiddaaGreatDoor
namespace Go.Proofs.YtfpadnmdafiddaaGreatDoor
open Go Go.RowKit Go.V
structure WkAt (w:World) (b p m:Nat) (f:Nat→Option Value):Prop where
 blk:Blk w b 226 [.pointer (some ⟨p,0,none⟩),.map (some m)]
 map:MapF w m f
 ne:b≠m
theorem walk_new (p:Nat) (w:World) :
  Calls Tryz.prog 87 #[.pointer (some ⟨p,0,none⟩)] w (Ret λ v w'=>∃ b m,v=.pointer (some ⟨b,0,none⟩)∧w.heap.size≤b∧w.heap.size≤m∧WkAt w' b p m (λ _=>none)∧Grow w w'):=by
 refine V.calls (args:=[_]) Tryz.func87 rfl Tryz.ntmps87 rfl rfl ?_
 repeat (first|(refine kX ?_;refine mK rfl ?_;intro m w1 hg1 hm1 hs1 hs2)|(refine aB ?_;refine TL.pure rfl rfl ?_)|(refine aD ?_;refine TL.pure rfl rfl ?_)|refine TL.nil ?_|refine aA ?_|refine aJ ?_|refine aC ?_|(refine bW ?_;(refine TL.box rfl rfl rfl ?_;intro bk w' hg hbk hsz hsz'))|refine TL.build rfl rfl rfl ?_|refine bC ?_)
 exact cF rfl ⟨_,rfl,bk,m,rfl,by omega,by omega,⟨hbk,hm1.grow hg,by omega⟩,yG⟩
end Go.Proofs.YtfpadnmdafiddaaGreatDoor
namespace Go.Proofs.YtfpadnmdafiddaaGreatDoor
open Go Go.RowKit Go.V
theorem write_c {w:World} {L:PL} {g g':Pg} (h:PgAt w L g) (ht:TabAt w) (F:Nat→Prop) (x:NV) (nd:Nd) (hnd:NdAt F w x nd) (hok:cH nd=true) (hlt:∀ b∈fI nd,b<256) (n:Nat) (hw:newP g (fI nd)=some (n,g')) :
  Calls Tryz.prog 84 #[.pointer (some ⟨L.p,0,none⟩),x.val] w (Ret λ v w'=>v=.tuple #[.int .i64 (n:Int),.int .i64 0]∧PgAt w' L g'∧ButS L.S w w'):=by
 have hby:∀ w1,Grow w w1→Calls Tryz.prog 154 #[x.val] w1 (Ret λ v w'=>∃ u,v=.tuple #[u,.int .i64 0]∧w'.ownsRow w1.heap.size 5 1 u (fI nd).length (cX (fI nd))∧Grow w1 w'):=λ w1 gr=>by
  cases hl:cK nd with
  | true=>exact bytes_leaf F x nd w1 (hnd.go (Carry.grow gr)) hok hl
  | false=>exact bytes_branch F x nd w1 (hnd.go (Carry.grow gr)) hok hl
 have hlen:=length_bytesN hok
 refine V.calls (args:=[_,_]) Tryz.func84 rfl Tryz.ntmps84 rfl rfl ?_
 repeat (first|(refine aD ?_;refine TL.pure rfl rfl ?_)|(refine aU ?_;refine bE rfl yB (by exact rfl) rfl ?_)|refine TL.nil ?_|refine aA ?_|refine aJ ?_|refine aC ?_|(refine bW ?_;(refine TL.box rfl rfl rfl ?_;intro bk w' hg hbk hsz hsz')))
 have hg0:Grow w w':=by exact yG
 refine aL 154 ?_
 refine aI rfl (hby _ hg0) rfl ?_
 rintro _ w2 ⟨u,rfl,hown,hg2⟩
 obtain ⟨a,c,rfl,hsl⟩:=cE hown
 have hgw:=hg0.trans hg2
 repeat (first|(refine aB ?_;refine TL.pure rfl rfl ?_)|(refine aD ?_;refine TL.pure rfl rfl ?_)|refine TL.nil ?_|refine aA ?_|refine aJ ?_|refine aC ?_|(refine aH ?_;refine TL.pure rfl rfl ?_)|refine aE rfl ?_|refine aV ?_|refine TL.pure rfl rfl ?_)
 refine aL 45 ?_
 refine aI rfl (new_c (h.grow hgw) (ht.grow hgw) _ a (fI nd).length c (fI nd) hsl hlen hlt n g' hw) rfl ?_
 rintro _ w3 ⟨rfl,hp3,hb3⟩
 repeat (first|(refine aD ?_;refine TL.pure rfl rfl ?_)|refine TL.nil ?_|refine aA ?_|refine bC ?_|refine TL.pure rfl rfl ?_)
 exact jS rfl rfl ⟨_,rfl,rfl,hp3,(ButS.grow hgw).trans hb3⟩
end Go.Proofs.YtfpadnmdafiddaaGreatDoor
namespace Go.Proofs.YtfpadnmdafiddaaGreatDoor
open Go Go.RowKit Go.V
theorem tready_c {w:World} {L:PL} {g:Pg} (h:PgAt w L g) (r:Int) (hr : -1≤r) (hr2:r≤9223372036854775807) (F F':Nat→Prop) (a a':Option Addr) (n c n' c':Nat) (k v:Bs) (hk:Sl F w 1 a n c (cX k)) (hv:Sl F' w 1 a' n' c' (cX v)) (hko:dR k=true) (hvo:gH v=true) (hsp:32≤cP g) :
  Calls Tryz.prog 77 #[.pointer (some ⟨L.p,0,none⟩),.int .i64 r,.slice a n c,.slice a' n' c'] w (Ret λ u w'=>u=.int .i64 0∧Grow w w'):=by
 refine V.calls (args:=[_,_,_,_]) Tryz.func77 rfl Tryz.ntmps77 rfl rfl ?_
 have hcn:=h.cnt
 repeat (first|(refine aL 93 ?_;refine aI rfl (ready_c h r hr hr2) rfl ?_;rintro _ _ ⟨rfl,rfl⟩)|(refine aL 94 ?_;refine aI rfl (key_t hk hko) rfl ?_;rintro _ _ ⟨rfl,rfl⟩)|(refine aL 148 ?_;refine aI rfl (value_t hv hvo) rfl ?_;rintro _ _ ⟨rfl,rfl⟩)|(refine aL 21 ?_;refine aI rfl (sparet_c h) rfl ?_;rintro _ _ ⟨rfl,hgc⟩)|refine aX rfl rfl rfl ?_|(refine aB ?_;refine TL.pure rfl rfl ?_)|(refine aD ?_;refine TL.pure rfl rfl ?_)|refine TL.nil ?_|refine aA ?_|refine aJ ?_|refine aC ?_|(refine aH ?_;refine aR rfl yD rfl ?_)|refine aE rfl ?_|refine bC ?_|refine aV ?_|refine TL.pure rfl rfl ?_)
 exact cF rfl ⟨_,rfl,rfl,yG⟩
end Go.Proofs.YtfpadnmdafiddaaGreatDoor
namespace Go.V
open Go Go.RowKit
section
variable [Rn]
variable {P:Program} {n:Nat} {e:dN} {w:World} {Q:dO} {ops:Array Oper} {rest:List Oper} {d:Nat} {ty:TypeId} {pos:String} {aft:Array Edge}
theorem TL.capR {t elem size bytes:Nat} {x:Operand} {a:Option Addr} {m c:Nat} [ht:SliceTy P t elem size bytes] (hx:val e x=some (.slice a m c)) (hd:Nat.blt d n=true)
  (k:TL P n ops rest ((d,.int .i64 (c:Int))::e) w Q):TL P n ops (⟨some d,.call ⟨.builtin .cap,#[x],#[t]⟩,ty,pos,aft,none⟩::rest) e w Q :=
 TL.run (λ a ha=>by simp [execOp,resolve,invoke,builtin,Builtin.cap_,underlying,ht.und,ha.eval hx,goInt]) hd k
theorem TL.sliceZ {t elem size bytes:Nat} {x y:Operand} {b m c:Nat} {kd:IntKind} {z:Int} [ht:SliceTy P t elem size bytes] (hx:val e x=some (.slice (some ⟨b,0,none⟩) m c)) (hy:val e y=some (.int kd z)) (hz:z=((0:Nat):Int)) (hc:0<c) (hd:Nat.blt d n=true)
  (k:TL P n ops rest ((d,.slice (some ⟨b,0,none⟩) 0 c)::e) w Q):TL P n ops (⟨some d,.slice t x none (some y) none,ty,pos,aft,none⟩::rest) e w Q:=by
 refine TL.run (λ r hr=>?_) hd k
 have hne:¬ c=0:=by omega
 have hb:=eC (P:=P) (k:=kd) (z:=z) (j:=0) (y:=c) (code:=.sliceAcap) hz (Nat.zero_le _) w
 simp [execOp,hr.eval hx,hr.eval hy,Instr.sliceAt,underlying,ht.und,Instr.slice,Instr.sliceBounds,hb,ht.size,hne,Addr.add_lit]
theorem TL.appendNil {t tn elem size bytes c:Nat} {x y:Operand} {kq kn:IntKind} [ht:SliceTy P t elem size bytes] [hn:IntTy P tn kn] (hx:val e x=some (.slice none 0 0)) (hy:val e y=some (.int kq (c:Int))) (h0:0<c) (hb:c*bytes≤140737488355328) (h63:c≤1000000) (hd:Nat.blt d n=true)
  (k:∀ b cap w',w.heap.size=b→Grow w w'→c≤cap→cap≤maxLen→w'.ownsRow w.heap.size elem size (.slice (some ⟨b,0,none⟩) 0 cap) 0 []→TL P n ops rest ((d,.slice (some ⟨b,0,none⟩) c cap)::e) w' Q) :
  TL P n ops (⟨some d,.call ⟨.builtin .append,#[x,y],#[t,tn]⟩,ty,pos,aft,none⟩::rest) e w Q:=by
 obtain ⟨i,z,hi,hsz,hby,hz,hzs,hne⟩:=ht.info
 have hrun:=Lib.run_append_nil_zeros (P:=P) w t tn ty elem i z kq kn ht.und hn.und hi hz c h0 (by omega) (by omega) (by rw [hby];omega)
 have hc1:c≤grownCap w c 0 elem:=grownCap_ge w _ _ _
 have hc2:grownCap w c 0 elem≤maxLen:=grownCap_le_maxLen w c 0 elem (by unfold maxLen;omega)
 refine TL.run (v:=.slice (some ⟨w.heap.size,0,none⟩) c (grownCap w c 0 elem)) (w':=w.drew.alloc (.cells (Builtin.zeroCells z.cells c++Builtin.zeroCells z.cells (grownCap w c 0 elem-c)) elem)) (λ r hr=>?_) hd (k _ _ _ rfl ?_ hc1 hc2 ?_)
 rotate_left
 ·exact Grow.mk ⟨rfl,rfl,rfl,by simp,λ k hk=>Below.heap_alloc w.drew _ k hk⟩
 ·refine ⟨by simp,.inr ⟨w.heap.size,_,_,rfl,Nat.le_refl _,heap_alloc_new w.drew _,Nat.zero_le _,hc2,?_,by simp⟩⟩
  simp only [Array.size_append,size_zeroCells,hzs,← Nat.add_mul]
  congr 1
  omega
 ·simp [execOp,resolve,invoke,builtin,hr.eval hx,hr.eval hy,hrun]
end
def SlsAt (F:Nat→Prop) (w:World) (sz:Nat):List Value→List (List Value)→Prop
 | [],[]=>True
 | v::vs,p::ps=>(∃ a m c,v=.slice a m c∧Sl F w sz a m c p)∧SlsAt F w sz vs ps
 | _,_=>False
theorem SlsAt.grow {F:Nat→Prop} {w w':World} {sz:Nat} (g:Grow w w'):∀ {vs:List Value} {ps:List (List Value)},SlsAt F w sz vs ps→SlsAt F w' sz vs ps
 | [],[],_=>trivial
 | [],_::_,h=>h.elim
 | _::_,[],h=>h.elim
 | _::_,_::_,⟨⟨a,m,c,h1,h2⟩,h3⟩=>⟨⟨a,m,c,h1,h2.grow g⟩,SlsAt.grow g h3⟩
theorem SlsAt.at' {F:Nat→Prop} {w:World} {sz:Nat}:∀ {vs:List Value} {ps:List (List Value)} {i:Nat} {p:List Value},SlsAt F w sz vs ps→ps[i]? = some p→∃ a m c,vs[i]? = some (.slice a m c)∧Sl F w sz a m c p
 | [],[],i,p,_,hp=>by simp at hp
 | [],_::_,_,_,h,_=>h.elim
 | _::_,[],_,_,h,_=>h.elim
 | v::vs,q::ps,0,p,⟨⟨a,m,c,h1,h2⟩,h3⟩,hp=>by
  simp only [List.getElem?_cons_zero,Option.some.injEq] at hp
  subst hp
  exact ⟨a,m,c,by rw [h1];rfl,h2⟩
 | v::vs,q::ps,i+1,p,⟨_,h3⟩,hp=>by
  obtain ⟨a,m,c,q1,q2⟩:=SlsAt.at' h3 (by simpa using hp)
  exact ⟨a,m,c,by simpa using q1,q2⟩
theorem SlsAt.len {F:Nat→Prop} {w:World} {sz:Nat}:∀ {vs:List Value} {ps:List (List Value)},SlsAt F w sz vs ps→vs.length=ps.length
 | [],[],_=>rfl
 | [],_::_,h=>h.elim
 | _::_,[],h=>h.elim
 | _::_,_::_,⟨_,h3⟩=>by simp [SlsAt.len h3]
def jG (sz:Nat) (ps:List (List Value)) (i:Nat):Nat:=((ps.take i).map λ p=>p.length / sz).sum
theorem mU {sz:Nat} {ps:List (List Value)} {i:Nat} {p:List Value} (h:ps[i]? = some p):jG sz ps (i+1)=jG sz ps i+p.length / sz:=by
 unfold jG
 rw [List.take_add_one,h]
 simp
theorem upN_le {sz:Nat} {ps:List (List Value)} (i:Nat):jG sz ps i≤jG sz ps ps.length:=by
 have e:(ps.map λ p=>p.length / sz)=((ps.take i).map λ p=>p.length / sz)++((ps.drop i).map λ p=>p.length / sz):=by rw [← List.map_append,List.take_append_drop]
 unfold jG
 rw [List.take_length,e,List.sum_append]
 omega
theorem flatV_take {ps:List (List Value)} {i:Nat} {p:List Value} (h:ps[i]? = some p):(ps.take (i+1)).flatten=(ps.take i).flatten++p:=by
 rw [List.take_add_one,h];simp
def slsF {B:Nat} (sz m:Nat) (ps:List (List Value)):SFact B:={ G:=λ v _ _ w=>∃ a c vs,v=.slice a m c∧Sl (λ _=>True) w 1 a m c vs∧SlsAt (λ _=>True) w sz vs ps,st:=λ v _ _ w w' g h=>by obtain ⟨a,c,vs,h1,h2,h3⟩:=h;exact ⟨a,c,vs,h1,h2.grow g,h3.grow g⟩ }
end Go.V
namespace Go.Proofs.YtfpadnmdafiddaaGreatDoor
open Go Go.RowKit Go.V
theorem grow_i (m:Nat) (hm:m≤1000000) (w:World) :
  Calls Tryz.prog 245 #[.slice none 0 0,.int .i64 (m:Int)] w (Ret λ v w'=>w'.ownsRow w.heap.size 3 1 v 0 []∧Grow w w'):=by
 refine V.calls (args:=[_,_]) Tryz.func245 rfl Tryz.ntmps245 rfl rfl ?_
 by_cases h0:m=0
 ·subst h0
  repeat (first|(refine aB ?_;refine TL.pure rfl rfl ?_)|(refine aD ?_;refine TL.pure rfl rfl ?_)|(refine cJ ?_;refine dI rfl rfl (by omega) (by omega) rfl ?_)|refine TL.nil ?_|refine aA ?_|refine aJ ?_|refine aC ?_|(refine aH ?_;refine aR rfl yD rfl ?_)|refine aO rfl rfl ?_|refine aE rfl ?_|refine bC ?_|refine aV ?_|refine TL.capR rfl rfl ?_)
  exact cF rfl ⟨_,rfl,World.ownsRow_nil _ _ _ _,Grow.refl _⟩
 ·repeat (first|(refine aB ?_;refine TL.pure rfl rfl ?_)|(refine aD ?_;refine TL.pure rfl rfl ?_)|(refine cJ ?_;refine dI rfl rfl (by omega) (by omega) rfl ?_)|refine TL.nil ?_|refine aA ?_|refine aJ ?_|refine aC ?_|(refine aH ?_;first|refine bA rfl yD rfl ?_|refine aR rfl yD rfl ?_)|refine aO rfl rfl ?_|refine aN rfl ?_|refine aE rfl ?_|refine aV ?_|refine TL.capR rfl rfl ?_)
  refine TL.slice (F:=λ _=>True) (cs:=[]) (l:=0) (h:=0) (mm:=0) rfl ⟨by simp,Nat.le_refl _,Nat.zero_le _,λ _=>rfl,by simp [Row]⟩ (bZ _) (dG rfl rfl) (bZ 0) (λ h=>by cases h) (Nat.le_refl _) (Nat.le_refl _) (Nat.le_refl _) (Nat.le_refl _) rfl ?_
  intro a' _ hn'
  obtain rfl:=hn'.2 rfl
  repeat ((refine aB ?_;refine TL.pure rfl rfl ?_))
  refine TL.appendNil (c:=m) (bytes:=8) rfl rfl (by omega) (by omega) hm rfl ?_
  intro b cap w1 hb hg1 hc1 hc2 hown
  repeat (first|(refine aB ?_;refine TL.pure rfl rfl ?_)|refine aO rfl rfl ?_)
  refine TL.sliceZ rfl rfl rfl (by omega) rfl ?_
  repeat (first|(refine aB ?_;refine TL.pure rfl rfl ?_)|(refine aD ?_;refine TL.pure rfl rfl ?_)|refine TL.nil ?_|refine aA ?_|refine aJ ?_|refine aC ?_|refine bC ?_)
  exact cF rfl ⟨_,rfl,hown,hg1⟩
theorem concat_i (F:Nat→Prop) (a:Option Addr) (n c:Nat) (vs:List Value) (ps:List (List Value)) (w:World) (hs:Sl F w 1 a n c vs) (hp:SlsAt F w 1 vs ps) (h1:∀ p∈ps,∀ u∈p,u.oneCell'=true) (hn:jG 1 ps ps.length≤1000000) :
  Calls Tryz.prog 201 #[.slice a n c] w (Ret λ v w'=>w'.ownsRow w.heap.size 3 1 v (jG 1 ps ps.length) ps.flatten∧Grow w w'):=by
 have hlen:=hs.len
 have hpl:=hp.len
 have hnle:=hs.le
 refine V.calls (args:=[_]) Tryz.func201 rfl Tryz.ntmps201 rfl rfl ?_
 repeat (first|(refine aB ?_;refine TL.pure rfl rfl ?_)|(refine aD ?_;refine TL.pure rfl rfl ?_)|refine TL.nil ?_|refine aA ?_|refine aJ ?_|refine aC ?_|refine T.block ?_|refine aO rfl rfl ?_)
 refine cM (S:=Nat) (λ i=>[(11,.int .i64 (i:Int)),(10,.int .i64 (n:Int)),(9,.slice a n c),(3,.int .i64 ((jG 1 ps i:Nat):Int)),(0,.slice a n c)]) (λ i w1=>Grow w w1∧i≤n) (λ i=>n-i) 0 ⟨rfl,rfl,rfl,rfl,rfl,trivial⟩ ⟨Grow.refl _,by omega⟩ ?_
 rintro i w1 ⟨hg1,hi⟩
 have hs1:=hs.grow hg1
 have hle:=upN_le (sz:=1) (ps:=ps) i
 by_cases hlt:i<n
 ·obtain ⟨p,hpi⟩:∃ p,ps[i]? = some p:=⟨_,List.getElem?_eq_getElem (by omega)⟩
  obtain ⟨ka,km,kc,g1,s1⟩:=hp.at' hpi
  have hcx:w1.cell? (at' a i)=some (.slice ka km kc):=hs1.row.cell g1
  have hle2:=upN_le (sz:=1) (ps:=ps) (i+1)
  have hpn:=s1.len
  have hsu:=mU (sz:=1) hpi
  have hkm:p.length / 1=km:=by omega
  rw [hkm] at hsu
  rw [hsu] at hle2
  repeat (first|(refine bF ?_;refine aW rfl rfl rfl hlt (Nat.mul_one _) ⟨F,_,hs1⟩ rfl ?_)|(refine aB ?_;refine TL.pure rfl rfl ?_)|(refine aD ?_;refine TL.pure rfl rfl ?_)|refine aK rfl yM rfl ?_|(refine bJ ?_;refine bT rfl rfl (by omega) rfl ?_)|refine TL.nil ?_|refine aA ?_|refine aJ ?_|refine aC ?_|refine T.block ?_|refine aT ?_|(refine aH ?_;first|refine bA rfl yD rfl ?_|refine aR rfl yD rfl ?_)|refine aO rfl rfl ?_|refine aN rfl ?_|refine aE rfl ?_|refine aV ?_)
  exact bG (i+1) ⟨rfl,rfl,rfl,by rw [hsu];rfl,rfl,trivial⟩ ⟨hg1,by omega⟩ (by omega)
 obtain rfl:i=n:=by omega
 have hin:i=ps.length:=by omega
 obtain ⟨L,hL0⟩:∃ L,L=jG 1 ps i:=⟨_,rfl⟩
 have hL:L=jG 1 ps ps.length:=by rw [hL0,hin]
 rw [← hL] at hn hle ⊢
 rw [← hL0]
 repeat (first|(refine aB ?_;refine TL.pure rfl rfl ?_)|refine TL.nil ?_|refine aA ?_|refine aJ ?_|refine aC ?_|(refine aH ?_;refine aR rfl yD rfl ?_)|refine aE rfl ?_|refine cN ?_|refine bM ?_|refine bO ?_|refine bN ?_)
 refine aL 245 ?_
 refine aI rfl (grow_i L hn _) rfl ?_
 rintro v w2 ⟨hown,hg2⟩
 have hown':=fC hown (show w.heap.size≤w1.heap.size from hg1.size)
 have hg3:=hg1.trans hg2
 repeat (first|(refine aB ?_;refine TL.pure rfl rfl ?_)|(refine aD ?_;refine TL.pure rfl rfl ?_)|refine TL.nil ?_|refine aA ?_|refine aJ ?_|refine aC ?_|refine T.block ?_|refine aO rfl rfl ?_)
 refine cM (S:=Value×Nat) (λ s=>[(27,.int .i64 (s.2:Int)),(26,.int .i64 (i:Int)),(25,.slice a i c),(6,s.1)]) (λ s w3=>s.2≤i∧w3.ownsRow w.heap.size 3 1 s.1 (jG 1 ps s.2) (ps.take s.2).flatten∧Grow w w3) (λ s=>i-s.2) (v,0) ⟨rfl,rfl,rfl,rfl,trivial⟩ ⟨by omega,by simpa [jG] using hown',hg3⟩ ?_
 clear hown hown' hg2 hg3 hg1 hs1
 rintro ⟨v,j⟩ w3 ⟨hj,hown,hg3⟩
 simp only at hj hown
 have hsz:=hg3.size
 have hs3:=hs.grow hg3
 by_cases hlt:j<i
 ·obtain ⟨p,hpj⟩:∃ p,ps[j]? = some p:=⟨_,List.getElem?_eq_getElem (by omega)⟩
  obtain ⟨ka,km,kc,g1,s1⟩:=hp.at' hpj
  have hcx:w3.cell? (at' a j)=some (.slice ka km kc):=hs3.row.cell g1
  have hle2:=upN_le (sz:=1) (ps:=ps) (j+1)
  have hpn:=s1.len
  have hsu:=mU (sz:=1) hpj
  have hkm:p.length / 1=km:=by omega
  rw [hkm] at hsu
  rw [hsu,← hL] at hle2
  repeat (first|(refine bF ?_;refine aW rfl rfl rfl hlt (Nat.mul_one _) ⟨F,_,hs3⟩ rfl ?_)|(refine aB ?_;refine TL.pure rfl rfl ?_)|(refine aD ?_;refine TL.pure rfl rfl ?_)|refine aK rfl yM rfl ?_|refine TL.nil ?_|refine aA ?_|refine aJ ?_|refine aC ?_|refine T.block ?_|(refine aH ?_;refine bA rfl yD rfl ?_)|refine aN rfl ?_|refine aV ?_)
  refine TL.append rfl rfl hown (s1.grow hg3) (h1 p (List.mem_of_getElem? hpj)) (by unfold maxLen;omega) (by omega) (by omega) rfl ?_
  intro v' w4 hown4 hgb _
  repeat (first|(refine aB ?_;refine TL.pure rfl rfl ?_)|(refine aD ?_;refine TL.pure rfl rfl ?_)|(refine bJ ?_;refine bT rfl rfl (by omega) rfl ?_)|refine TL.nil ?_|refine aA ?_|refine aC ?_|refine aT ?_)
  refine bG (v',j+1) ⟨rfl,rfl,rfl,rfl,trivial⟩ ⟨by simp only;omega,?_,Grow.mk (cA hgb (by omega) (λ k hk=>(cY hown hk).1) hg3.1)⟩ (by simp only;omega)
  simp only
  rw [flatV_take hpj,hsu]
  exact hown4
 obtain rfl:j=i:=by omega
 rw [hin,List.take_length,← hL] at hown
 repeat (first|(refine aB ?_;refine TL.pure rfl rfl ?_)|(refine aD ?_;refine TL.pure rfl rfl ?_)|refine TL.nil ?_|refine aA ?_|refine aJ ?_|refine aC ?_|(refine aH ?_;refine aR rfl yD rfl ?_)|refine aE rfl ?_|refine bC ?_|refine cN ?_|refine bM ?_|refine bO ?_|refine bN ?_)
 exact cF rfl ⟨_,rfl,hown,hg3⟩
theorem join_i (F:Nat→Prop) (a:Option Addr) (n c:Nat) (vs:List Value) (ps:List (List Value)) (w:World) (hs:Sl F w 1 a n c vs) (hp:SlsAt F w 1 vs ps) (h1:∀ p∈ps,∀ u∈p,u.oneCell'=true) (hn:jG 1 ps ps.length≤1000000) :
  Calls Tryz.prog 160 #[.slice a n c] w (Ret λ v w'=>w'.ownsRow w.heap.size 3 1 v (jG 1 ps ps.length) ps.flatten∧Grow w w'):=by
 refine V.calls (args:=[_]) Tryz.func160 rfl Tryz.ntmps160 rfl rfl ?_
 repeat (first|(refine aB ?_;refine TL.pure rfl rfl ?_)|(refine aD ?_;refine TL.pure rfl rfl ?_)|refine TL.nil ?_|refine aA ?_|refine aJ ?_|refine aC ?_)
 refine aL 201 ?_
 refine aI rfl (concat_i F a n c vs ps _ hs hp h1 hn) rfl ?_
 rintro v w2 ⟨hown,hg2⟩
 repeat (first|(refine aD ?_;refine TL.pure rfl rfl ?_)|refine TL.nil ?_|refine aA ?_|refine bC ?_)
 exact cF rfl ⟨_,rfl,hown,hg2⟩
theorem insert_i (F G:Nat→Prop) (a b:Option Addr) (n c m d i:Nat) (cs xs:List Value) (w:World) (hs:Sl F w 1 a n c cs) (hx:Sl G w 1 b m d xs) (h1:∀ u∈cs,u.oneCell'=true) (h2:∀ u∈xs,u.oneCell'=true) (hi:i≤n) (hn:n+m≤1000000) :
  Calls Tryz.prog 96 #[.slice a n c,.int .i64 (i:Int),.slice b m d] w (Ret λ v w'=>w'.ownsRow w.heap.size 3 1 v (n+m) (cs.take (i*1)++xs++cs.drop (i*1))∧Grow w w'):=by
 have hcap:=hs.cap
 have hlen:=hs.len
 have hlx:=hx.len
 refine V.calls (args:=[_,_,_]) Tryz.func96 rfl Tryz.ntmps96 rfl rfl ?_
 repeat (first|(refine aD ?_;refine TL.pure rfl rfl ?_)|refine TL.nil ?_|refine aA ?_|refine aJ ?_|refine aC ?_)
 apply T.any 8 [is (.slice a n c),is (.int .i64 (i:Int)),slF F 1 i c (cs.take (i*1)),is (.slice b m d),is (.slice a n c),is (.int .i64 (i:Int)),slF F 1 (n-i) (c-i) (cs.drop (i*1)),slsF 1 3 [cs.take (i*1),xs,cs.drop (i*1)]]
 ·rfl
 ·repeat' (first|exact bX|refine bU ?_ ?_)
  iterate 2
   ·(refine aQ rfl rfl rfl ?_);( intro wq _ _ hgq;(repeat (refine aG rfl rfl ?_;intro vq hvq;try (obtain rfl:=hvq)));(refine aM ?_))
    repeat (first|(refine aB ?_;refine TL.pure rfl rfl ?_)|refine TL.nil ?_)
    exact aS rfl yG rfl
  ·(refine aQ rfl rfl rfl ?_);( intro wq _ _ hgq;(repeat (refine aG rfl rfl ?_;intro vq hvq;try (obtain rfl:=hvq)));(refine aM ?_))
   refine TL.slice (l:=0) (h:=i) (mm:=c) rfl (hs.grow hgq) (bZ _) (dG rfl rfl) (bZ c) (λ h=>by cases h) (Nat.zero_le _) hi (by omega) (Nat.le_refl _) rfl ?_
   intro a' hsl _
   repeat (refine TL.nil ?_)
   refine aS rfl yG ⟨a',rfl,?_⟩
   simpa using hsl
  iterate 3
   ·(refine aQ rfl rfl rfl ?_);( intro wq _ _ hgq;(repeat (refine aG rfl rfl ?_;intro vq hvq;try (obtain rfl:=hvq)));(refine aM ?_))
    repeat (first|(refine aB ?_;refine TL.pure rfl rfl ?_)|refine TL.nil ?_)
    exact aS rfl yG rfl
  ·(refine aQ rfl rfl rfl ?_);( intro wq _ _ hgq;(repeat (refine aG rfl rfl ?_;intro vq hvq;try (obtain rfl:=hvq)));(refine aM ?_))
   refine TL.slice (l:=i) (h:=n) (mm:=c) rfl (hs.grow hgq) (dG rfl rfl) (bZ _) (bZ c) (λ _=>rfl) hi (Nat.le_refl _) hcap (Nat.le_refl _) rfl ?_
   intro a' hsl _
   repeat (refine TL.nil ?_)
   refine aS rfl yG ⟨a',rfl,?_⟩
   rw [List.take_of_length_le (by rw [List.length_drop];omega)] at hsl
   exact hsl
  ·refine aQ rfl rfl rfl ?_
   intro wq _ _ hgq
   refine aG rfl rfl ?_
   intro v1 q1
   refine aG rfl rfl ?_
   intro v2 q2
   obtain rfl:=q2
   refine aG rfl rfl ?_
   intro v3 q3
   refine aM ?_
   obtain ⟨a1,rfl,s1⟩:=q1
   obtain ⟨a3,rfl,s3⟩:=q3
   refine TL.buildSlice rfl rfl rfl rfl rfl ?_
   intro b' wa hga hba hsa hsb hsc
   repeat (refine TL.nil ?_)
   refine aS rfl yG ⟨_,_,_,rfl,(bR (sz:=1) (m:=3) hba hsc (by decide)).mono (λ _ _=>trivial),⟨_,_,_,rfl,(s1.grow hga).mono (λ _ _=>trivial)⟩,⟨_,_,_,rfl,((hx.grow hgq).grow hga).mono (λ _ _=>trivial)⟩,⟨_,_,_,rfl,(s3.grow hga).mono (λ _ _=>trivial)⟩,trivial⟩
 ·intro w6 lo6 hi6 hg6 _ _
  iterate 8 (refine aG rfl rfl ?_;intro vq hvq;try (obtain rfl:=hvq))
  refine aM ?_
  obtain ⟨a6,c6,vs6,rfl,hs6,hp6⟩:=hvq
  have hup:jG 1 [cs.take (i*1),xs,cs.drop (i*1)] 3=n+m:=by
   simp only [jG,List.take_succ_cons,List.take_zero,List.map_cons,List.map_nil,List.sum_cons,List.sum_nil,List.length_take,List.length_drop]
   omega
  refine aL 160 ?_
  refine aI rfl (join_i _ a6 3 c6 vs6 [cs.take (i*1),xs,cs.drop (i*1)] _ hs6 hp6 (by
   intro p hp u hu
   simp only [List.mem_cons,List.not_mem_nil,or_false] at hp
   rcases hp with rfl|rfl|rfl
   ·exact h1 u (List.mem_of_mem_take hu)
   ·exact h2 u hu
   ·exact h1 u (List.mem_of_mem_drop hu)) (by show jG _ _ 3≤_;omega)) rfl ?_
  rintro v w7 ⟨hown,hg7⟩
  rw [show ([cs.take (i*1),xs,cs.drop (i*1)]:List (List Value)).length=3 from rfl,hup] at hown
  rw [show ([cs.take (i*1),xs,cs.drop (i*1)]:List (List Value)).flatten=cs.take (i*1)++xs++cs.drop (i*1) by simp] at hown
  repeat (first|(refine aD ?_;refine TL.pure rfl rfl ?_)|refine TL.nil ?_|refine aA ?_|refine bC ?_)
  exact cF rfl ⟨_,rfl,fC hown hg6.size,hg6.trans hg7⟩
theorem cut_i (F:Nat→Prop) (a:Option Addr) (n c i j:Nat) (cs:List Value) (w:World) (hs:Sl F w 1 a n c cs) (h1:∀ u∈cs,u.oneCell'=true) (hij:i≤j) (hj:j≤n) (hn:n≤1000000) :
  Calls Tryz.prog 97 #[.slice a n c,.int .i64 (i:Int),.int .i64 (j:Int)] w (Ret λ v w'=>w'.ownsRow w.heap.size 3 1 v (n-(j-i)) (cs.take (i*1)++cs.drop (j*1))∧Grow w w'):=by
 have hcap:=hs.cap
 have hlen:=hs.len
 refine V.calls (args:=[_,_,_]) Tryz.func97 rfl Tryz.ntmps97 rfl rfl ?_
 repeat (first|(refine aD ?_;refine TL.pure rfl rfl ?_)|refine TL.nil ?_|refine aA ?_|refine aJ ?_|refine aC ?_)
 apply T.any 7 [is (.slice a n c),is (.int .i64 (i:Int)),slF F 1 i c (cs.take (i*1)),is (.slice a n c),is (.int .i64 (j:Int)),slF F 1 (n-j) (c-j) (cs.drop (j*1)),slsF 1 2 [cs.take (i*1),cs.drop (j*1)]]
 ·rfl
 ·repeat' (first|exact bX|refine bU ?_ ?_)
  iterate 2
   ·(refine aQ rfl rfl rfl ?_);( intro wq _ _ hgq;(repeat (refine aG rfl rfl ?_;intro vq hvq;try (obtain rfl:=hvq)));(refine aM ?_))
    repeat (first|(refine aB ?_;refine TL.pure rfl rfl ?_)|refine TL.nil ?_)
    exact aS rfl yG rfl
  ·(refine aQ rfl rfl rfl ?_);( intro wq _ _ hgq;(repeat (refine aG rfl rfl ?_;intro vq hvq;try (obtain rfl:=hvq)));(refine aM ?_))
   refine TL.slice (l:=0) (h:=i) (mm:=c) rfl (hs.grow hgq) (bZ _) (dG rfl rfl) (bZ c) (λ h=>by cases h) (Nat.zero_le _) (by omega) (by omega) (Nat.le_refl _) rfl ?_
   intro a' hsl _
   repeat (refine TL.nil ?_)
   refine aS rfl yG ⟨a',rfl,?_⟩
   simpa using hsl
  iterate 2
   ·(refine aQ rfl rfl rfl ?_);( intro wq _ _ hgq;(repeat (refine aG rfl rfl ?_;intro vq hvq;try (obtain rfl:=hvq)));(refine aM ?_))
    repeat (first|(refine aB ?_;refine TL.pure rfl rfl ?_)|refine TL.nil ?_)
    exact aS rfl yG rfl
  ·(refine aQ rfl rfl rfl ?_);( intro wq _ _ hgq;(repeat (refine aG rfl rfl ?_;intro vq hvq;try (obtain rfl:=hvq)));(refine aM ?_))
   refine TL.slice (l:=j) (h:=n) (mm:=c) rfl (hs.grow hgq) (dG rfl rfl) (bZ _) (bZ c) (λ _=>rfl) hj (Nat.le_refl _) hcap (Nat.le_refl _) rfl ?_
   intro a' hsl _
   repeat (refine TL.nil ?_)
   refine aS rfl yG ⟨a',rfl,?_⟩
   rw [List.take_of_length_le (by rw [List.length_drop];omega)] at hsl
   exact hsl
  ·refine aQ rfl rfl rfl ?_
   intro wq _ _ hgq
   refine aG rfl rfl ?_
   intro v1 q1
   refine aG rfl rfl ?_
   intro v3 q3
   refine aM ?_
   obtain ⟨a1,rfl,s1⟩:=q1
   obtain ⟨a3,rfl,s3⟩:=q3
   refine TL.buildSlice rfl rfl rfl rfl rfl ?_
   intro b' wa hga hba hsa hsb hsc
   repeat (refine TL.nil ?_)
   refine aS rfl yG ⟨_,_,_,rfl,(bR (sz:=1) (m:=2) hba hsc (by decide)).mono (λ _ _=>trivial),⟨_,_,_,rfl,(s1.grow hga).mono (λ _ _=>trivial)⟩,⟨_,_,_,rfl,(s3.grow hga).mono (λ _ _=>trivial)⟩,trivial⟩
 ·intro w6 lo6 hi6 hg6 _ _
  iterate 7 (refine aG rfl rfl ?_;intro vq hvq;try (obtain rfl:=hvq))
  refine aM ?_
  obtain ⟨a6,c6,vs6,rfl,hs6,hp6⟩:=hvq
  have hup:jG 1 [cs.take (i*1),cs.drop (j*1)] 2=n-(j-i):=by
   simp only [jG,List.take_succ_cons,List.take_zero,List.map_cons,List.map_nil,List.sum_cons,List.sum_nil,List.length_take,List.length_drop]
   omega
  refine aL 160 ?_
  refine aI rfl (join_i _ a6 2 c6 vs6 [cs.take (i*1),cs.drop (j*1)] _ hs6 hp6 (by
   intro p hp u hu
   simp only [List.mem_cons,List.not_mem_nil,or_false] at hp
   rcases hp with rfl|rfl
   ·exact h1 u (List.mem_of_mem_take hu)
   ·exact h1 u (List.mem_of_mem_drop hu)) (by show jG _ _ 2≤_;omega)) rfl ?_
  rintro v w7 ⟨hown,hg7⟩
  rw [show ([cs.take (i*1),cs.drop (j*1)]:List (List Value)).length=2 from rfl,hup] at hown
  rw [show ([cs.take (i*1),cs.drop (j*1)]:List (List Value)).flatten=cs.take (i*1)++cs.drop (j*1) by simp] at hown
  repeat (first|(refine aD ?_;refine TL.pure rfl rfl ?_)|refine TL.nil ?_|refine aA ?_|refine bC ?_)
  exact cF rfl ⟨_,rfl,fC hown hg6.size,hg6.trans hg7⟩
theorem grow_k (m:Nat) (hm:m≤1000000) (w:World) :
  Calls Tryz.prog 246 #[.slice none 0 0,.int .i64 (m:Int)] w (Ret λ v w'=>w'.ownsRow w.heap.size 30 1 v 0 []∧Grow w w'):=by
 refine V.calls (args:=[_,_]) Tryz.func246 rfl Tryz.ntmps246 rfl rfl ?_
 by_cases h0:m=0
 ·subst h0
  repeat (first|(refine aB ?_;refine TL.pure rfl rfl ?_)|(refine aD ?_;refine TL.pure rfl rfl ?_)|(refine cJ ?_;refine dI rfl rfl (by omega) (by omega) rfl ?_)|refine TL.nil ?_|refine aA ?_|refine aJ ?_|refine aC ?_|(refine aH ?_;refine aR rfl yD rfl ?_)|refine aO rfl rfl ?_|refine aE rfl ?_|refine bC ?_|refine aV ?_|refine TL.capR rfl rfl ?_)
  exact cF rfl ⟨_,rfl,World.ownsRow_nil _ _ _ _,Grow.refl _⟩
 ·repeat (first|(refine aB ?_;refine TL.pure rfl rfl ?_)|(refine aD ?_;refine TL.pure rfl rfl ?_)|(refine cJ ?_;refine dI rfl rfl (by omega) (by omega) rfl ?_)|refine TL.nil ?_|refine aA ?_|refine aJ ?_|refine aC ?_|(refine aH ?_;first|refine bA rfl yD rfl ?_|refine aR rfl yD rfl ?_)|refine aO rfl rfl ?_|refine aN rfl ?_|refine aE rfl ?_|refine aV ?_|refine TL.capR rfl rfl ?_)
  refine TL.slice (F:=λ _=>True) (cs:=[]) (l:=0) (h:=0) (mm:=0) rfl ⟨by simp,Nat.le_refl _,Nat.zero_le _,λ _=>rfl,by simp [Row]⟩ (bZ _) (dG rfl rfl) (bZ 0) (λ h=>by cases h) (Nat.le_refl _) (Nat.le_refl _) (Nat.le_refl _) (Nat.le_refl _) rfl ?_
  intro a' _ hn'
  obtain rfl:=hn'.2 rfl
  repeat ((refine aB ?_;refine TL.pure rfl rfl ?_))
  refine TL.appendNil (c:=m) (bytes:=24) rfl rfl (by omega) (by omega) hm rfl ?_
  intro b cap w1 hb hg1 hc1 hc2 hown
  repeat (first|(refine aB ?_;refine TL.pure rfl rfl ?_)|refine aO rfl rfl ?_)
  refine TL.sliceZ rfl rfl rfl (by omega) rfl ?_
  repeat (first|(refine aB ?_;refine TL.pure rfl rfl ?_)|(refine aD ?_;refine TL.pure rfl rfl ?_)|refine TL.nil ?_|refine aA ?_|refine aJ ?_|refine aC ?_|refine bC ?_)
  exact cF rfl ⟨_,rfl,hown,hg1⟩
theorem concat_k (F:Nat→Prop) (a:Option Addr) (n c:Nat) (vs:List Value) (ps:List (List Value)) (w:World) (hs:Sl F w 1 a n c vs) (hp:SlsAt F w 1 vs ps) (h1:∀ p∈ps,∀ u∈p,u.oneCell'=true) (hn:jG 1 ps ps.length≤1000000) :
  Calls Tryz.prog 202 #[.slice a n c] w (Ret λ v w'=>w'.ownsRow w.heap.size 30 1 v (jG 1 ps ps.length) ps.flatten∧Grow w w'):=by
 have hlen:=hs.len
 have hpl:=hp.len
 have hnle:=hs.le
 refine V.calls (args:=[_]) Tryz.func202 rfl Tryz.ntmps202 rfl rfl ?_
 repeat (first|(refine aB ?_;refine TL.pure rfl rfl ?_)|(refine aD ?_;refine TL.pure rfl rfl ?_)|refine TL.nil ?_|refine aA ?_|refine aJ ?_|refine aC ?_|refine T.block ?_|refine aO rfl rfl ?_)
 refine cM (S:=Nat) (λ i=>[(11,.int .i64 (i:Int)),(10,.int .i64 (n:Int)),(9,.slice a n c),(3,.int .i64 ((jG 1 ps i:Nat):Int)),(0,.slice a n c)]) (λ i w1=>Grow w w1∧i≤n) (λ i=>n-i) 0 ⟨rfl,rfl,rfl,rfl,rfl,trivial⟩ ⟨Grow.refl _,by omega⟩ ?_
 rintro i w1 ⟨hg1,hi⟩
 have hs1:=hs.grow hg1
 have hle:=upN_le (sz:=1) (ps:=ps) i
 by_cases hlt:i<n
 ·obtain ⟨p,hpi⟩:∃ p,ps[i]? = some p:=⟨_,List.getElem?_eq_getElem (by omega)⟩
  obtain ⟨ka,km,kc,g1,s1⟩:=hp.at' hpi
  have hcx:w1.cell? (at' a i)=some (.slice ka km kc):=hs1.row.cell g1
  have hle2:=upN_le (sz:=1) (ps:=ps) (i+1)
  have hpn:=s1.len
  have hsu:=mU (sz:=1) hpi
  have hkm:p.length / 1=km:=by omega
  rw [hkm] at hsu
  rw [hsu] at hle2
  repeat (first|(refine bF ?_;refine aW rfl rfl rfl hlt (Nat.mul_one _) ⟨F,_,hs1⟩ rfl ?_)|(refine aB ?_;refine TL.pure rfl rfl ?_)|(refine aD ?_;refine TL.pure rfl rfl ?_)|refine aK rfl yM rfl ?_|(refine bJ ?_;refine bT rfl rfl (by omega) rfl ?_)|refine TL.nil ?_|refine aA ?_|refine aJ ?_|refine aC ?_|refine T.block ?_|refine aT ?_|(refine aH ?_;first|refine bA rfl yD rfl ?_|refine aR rfl yD rfl ?_)|refine aO rfl rfl ?_|refine aN rfl ?_|refine aE rfl ?_|refine aV ?_)
  exact bG (i+1) ⟨rfl,rfl,rfl,by rw [hsu];rfl,rfl,trivial⟩ ⟨hg1,by omega⟩ (by omega)
 obtain rfl:i=n:=by omega
 have hin:i=ps.length:=by omega
 obtain ⟨L,hL0⟩:∃ L,L=jG 1 ps i:=⟨_,rfl⟩
 have hL:L=jG 1 ps ps.length:=by rw [hL0,hin]
 rw [← hL] at hn hle ⊢
 rw [← hL0]
 repeat (first|(refine aB ?_;refine TL.pure rfl rfl ?_)|refine TL.nil ?_|refine aA ?_|refine aJ ?_|refine aC ?_|(refine aH ?_;refine aR rfl yD rfl ?_)|refine aE rfl ?_|refine cN ?_|refine bM ?_|refine bO ?_|refine bN ?_)
 refine aL 246 ?_
 refine aI rfl (grow_k L hn _) rfl ?_
 rintro v w2 ⟨hown,hg2⟩
 have hown':=fC hown (show w.heap.size≤w1.heap.size from hg1.size)
 have hg3:=hg1.trans hg2
 repeat (first|(refine aB ?_;refine TL.pure rfl rfl ?_)|(refine aD ?_;refine TL.pure rfl rfl ?_)|refine TL.nil ?_|refine aA ?_|refine aJ ?_|refine aC ?_|refine T.block ?_|refine aO rfl rfl ?_)
 refine cM (S:=Value×Nat) (λ s=>[(27,.int .i64 (s.2:Int)),(26,.int .i64 (i:Int)),(25,.slice a i c),(6,s.1)]) (λ s w3=>s.2≤i∧w3.ownsRow w.heap.size 30 1 s.1 (jG 1 ps s.2) (ps.take s.2).flatten∧Grow w w3) (λ s=>i-s.2) (v,0) ⟨rfl,rfl,rfl,rfl,trivial⟩ ⟨by omega,by simpa [jG] using hown',hg3⟩ ?_
 clear hown hown' hg2 hg3 hg1 hs1
 rintro ⟨v,j⟩ w3 ⟨hj,hown,hg3⟩
 simp only at hj hown
 have hsz:=hg3.size
 have hs3:=hs.grow hg3
 by_cases hlt:j<i
 ·obtain ⟨p,hpj⟩:∃ p,ps[j]? = some p:=⟨_,List.getElem?_eq_getElem (by omega)⟩
  obtain ⟨ka,km,kc,g1,s1⟩:=hp.at' hpj
  have hcx:w3.cell? (at' a j)=some (.slice ka km kc):=hs3.row.cell g1
  have hle2:=upN_le (sz:=1) (ps:=ps) (j+1)
  have hpn:=s1.len
  have hsu:=mU (sz:=1) hpj
  have hkm:p.length / 1=km:=by omega
  rw [hkm] at hsu
  rw [hsu,← hL] at hle2
  repeat (first|(refine bF ?_;refine aW rfl rfl rfl hlt (Nat.mul_one _) ⟨F,_,hs3⟩ rfl ?_)|(refine aB ?_;refine TL.pure rfl rfl ?_)|(refine aD ?_;refine TL.pure rfl rfl ?_)|refine aK rfl yM rfl ?_|refine TL.nil ?_|refine aA ?_|refine aJ ?_|refine aC ?_|refine T.block ?_|(refine aH ?_;refine bA rfl yD rfl ?_)|refine aN rfl ?_|refine aV ?_)
  refine TL.append rfl rfl hown (s1.grow hg3) (h1 p (List.mem_of_getElem? hpj)) (by unfold maxLen;omega) (by omega) (by omega) rfl ?_
  intro v' w4 hown4 hgb _
  repeat (first|(refine aB ?_;refine TL.pure rfl rfl ?_)|(refine aD ?_;refine TL.pure rfl rfl ?_)|(refine bJ ?_;refine bT rfl rfl (by omega) rfl ?_)|refine TL.nil ?_|refine aA ?_|refine aC ?_|refine aT ?_)
  refine bG (v',j+1) ⟨rfl,rfl,rfl,rfl,trivial⟩ ⟨by simp only;omega,?_,Grow.mk (cA hgb (by omega) (λ k hk=>(cY hown hk).1) hg3.1)⟩ (by simp only;omega)
  simp only
  rw [flatV_take hpj,hsu]
  exact hown4
 obtain rfl:j=i:=by omega
 rw [hin,List.take_length,← hL] at hown
 repeat (first|(refine aB ?_;refine TL.pure rfl rfl ?_)|(refine aD ?_;refine TL.pure rfl rfl ?_)|refine TL.nil ?_|refine aA ?_|refine aJ ?_|refine aC ?_|(refine aH ?_;refine aR rfl yD rfl ?_)|refine aE rfl ?_|refine bC ?_|refine cN ?_|refine bM ?_|refine bO ?_|refine bN ?_)
 exact cF rfl ⟨_,rfl,hown,hg3⟩
theorem join_k (F:Nat→Prop) (a:Option Addr) (n c:Nat) (vs:List Value) (ps:List (List Value)) (w:World) (hs:Sl F w 1 a n c vs) (hp:SlsAt F w 1 vs ps) (h1:∀ p∈ps,∀ u∈p,u.oneCell'=true) (hn:jG 1 ps ps.length≤1000000) :
  Calls Tryz.prog 161 #[.slice a n c] w (Ret λ v w'=>w'.ownsRow w.heap.size 30 1 v (jG 1 ps ps.length) ps.flatten∧Grow w w'):=by
 refine V.calls (args:=[_]) Tryz.func161 rfl Tryz.ntmps161 rfl rfl ?_
 repeat (first|(refine aB ?_;refine TL.pure rfl rfl ?_)|(refine aD ?_;refine TL.pure rfl rfl ?_)|refine TL.nil ?_|refine aA ?_|refine aJ ?_|refine aC ?_)
 refine aL 202 ?_
 refine aI rfl (concat_k F a n c vs ps _ hs hp h1 hn) rfl ?_
 rintro v w2 ⟨hown,hg2⟩
 repeat (first|(refine aD ?_;refine TL.pure rfl rfl ?_)|refine TL.nil ?_|refine aA ?_|refine bC ?_)
 exact cF rfl ⟨_,rfl,hown,hg2⟩
theorem insert_k (F G:Nat→Prop) (a b:Option Addr) (n c m d i:Nat) (cs xs:List Value) (w:World) (hs:Sl F w 1 a n c cs) (hx:Sl G w 1 b m d xs) (h1:∀ u∈cs,u.oneCell'=true) (h2:∀ u∈xs,u.oneCell'=true) (hi:i≤n) (hn:n+m≤1000000) :
  Calls Tryz.prog 98 #[.slice a n c,.int .i64 (i:Int),.slice b m d] w (Ret λ v w'=>w'.ownsRow w.heap.size 30 1 v (n+m) (cs.take (i*1)++xs++cs.drop (i*1))∧Grow w w'):=by
 have hcap:=hs.cap
 have hlen:=hs.len
 have hlx:=hx.len
 refine V.calls (args:=[_,_,_]) Tryz.func98 rfl Tryz.ntmps98 rfl rfl ?_
 repeat (first|(refine aD ?_;refine TL.pure rfl rfl ?_)|refine TL.nil ?_|refine aA ?_|refine aJ ?_|refine aC ?_)
 apply T.any 8 [is (.slice a n c),is (.int .i64 (i:Int)),slF F 1 i c (cs.take (i*1)),is (.slice b m d),is (.slice a n c),is (.int .i64 (i:Int)),slF F 1 (n-i) (c-i) (cs.drop (i*1)),slsF 1 3 [cs.take (i*1),xs,cs.drop (i*1)]]
 ·rfl
 ·repeat' (first|exact bX|refine bU ?_ ?_)
  iterate 2
   ·(refine aQ rfl rfl rfl ?_);( intro wq _ _ hgq;(repeat (refine aG rfl rfl ?_;intro vq hvq;try (obtain rfl:=hvq)));(refine aM ?_))
    repeat (first|(refine aB ?_;refine TL.pure rfl rfl ?_)|refine TL.nil ?_)
    exact aS rfl yG rfl
  ·(refine aQ rfl rfl rfl ?_);( intro wq _ _ hgq;(repeat (refine aG rfl rfl ?_;intro vq hvq;try (obtain rfl:=hvq)));(refine aM ?_))
   refine TL.slice (l:=0) (h:=i) (mm:=c) rfl (hs.grow hgq) (bZ _) (dG rfl rfl) (bZ c) (λ h=>by cases h) (Nat.zero_le _) hi (by omega) (Nat.le_refl _) rfl ?_
   intro a' hsl _
   repeat (refine TL.nil ?_)
   refine aS rfl yG ⟨a',rfl,?_⟩
   simpa using hsl
  iterate 3
   ·(refine aQ rfl rfl rfl ?_);( intro wq _ _ hgq;(repeat (refine aG rfl rfl ?_;intro vq hvq;try (obtain rfl:=hvq)));(refine aM ?_))
    repeat (first|(refine aB ?_;refine TL.pure rfl rfl ?_)|refine TL.nil ?_)
    exact aS rfl yG rfl
  ·(refine aQ rfl rfl rfl ?_);( intro wq _ _ hgq;(repeat (refine aG rfl rfl ?_;intro vq hvq;try (obtain rfl:=hvq)));(refine aM ?_))
   refine TL.slice (l:=i) (h:=n) (mm:=c) rfl (hs.grow hgq) (dG rfl rfl) (bZ _) (bZ c) (λ _=>rfl) hi (Nat.le_refl _) hcap (Nat.le_refl _) rfl ?_
   intro a' hsl _
   repeat (refine TL.nil ?_)
   refine aS rfl yG ⟨a',rfl,?_⟩
   rw [List.take_of_length_le (by rw [List.length_drop];omega)] at hsl
   exact hsl
  ·refine aQ rfl rfl rfl ?_
   intro wq _ _ hgq
   refine aG rfl rfl ?_
   intro v1 q1
   refine aG rfl rfl ?_
   intro v2 q2
   obtain rfl:=q2
   refine aG rfl rfl ?_
   intro v3 q3
   refine aM ?_
   obtain ⟨a1,rfl,s1⟩:=q1
   obtain ⟨a3,rfl,s3⟩:=q3
   refine TL.buildSlice rfl rfl rfl rfl rfl ?_
   intro b' wa hga hba hsa hsb hsc
   repeat (refine TL.nil ?_)
   refine aS rfl yG ⟨_,_,_,rfl,(bR (sz:=1) (m:=3) hba hsc (by decide)).mono (λ _ _=>trivial),⟨_,_,_,rfl,(s1.grow hga).mono (λ _ _=>trivial)⟩,⟨_,_,_,rfl,((hx.grow hgq).grow hga).mono (λ _ _=>trivial)⟩,⟨_,_,_,rfl,(s3.grow hga).mono (λ _ _=>trivial)⟩,trivial⟩
 ·intro w6 lo6 hi6 hg6 _ _
  iterate 8 (refine aG rfl rfl ?_;intro vq hvq;try (obtain rfl:=hvq))
  refine aM ?_
  obtain ⟨a6,c6,vs6,rfl,hs6,hp6⟩:=hvq
  have hup:jG 1 [cs.take (i*1),xs,cs.drop (i*1)] 3=n+m:=by
   simp only [jG,List.take_succ_cons,List.take_zero,List.map_cons,List.map_nil,List.sum_cons,List.sum_nil,List.length_take,List.length_drop]
   omega
  refine aL 161 ?_
  refine aI rfl (join_k _ a6 3 c6 vs6 [cs.take (i*1),xs,cs.drop (i*1)] _ hs6 hp6 (by
   intro p hp u hu
   simp only [List.mem_cons,List.not_mem_nil,or_false] at hp
   rcases hp with rfl|rfl|rfl
   ·exact h1 u (List.mem_of_mem_take hu)
   ·exact h2 u hu
   ·exact h1 u (List.mem_of_mem_drop hu)) (by show jG _ _ 3≤_;omega)) rfl ?_
  rintro v w7 ⟨hown,hg7⟩
  rw [show ([cs.take (i*1),xs,cs.drop (i*1)]:List (List Value)).length=3 from rfl,hup] at hown
  rw [show ([cs.take (i*1),xs,cs.drop (i*1)]:List (List Value)).flatten=cs.take (i*1)++xs++cs.drop (i*1) by simp] at hown
  repeat (first|(refine aD ?_;refine TL.pure rfl rfl ?_)|refine TL.nil ?_|refine aA ?_|refine bC ?_)
  exact cF rfl ⟨_,rfl,fC hown hg6.size,hg6.trans hg7⟩
theorem cut_k (F:Nat→Prop) (a:Option Addr) (n c i j:Nat) (cs:List Value) (w:World) (hs:Sl F w 1 a n c cs) (h1:∀ u∈cs,u.oneCell'=true) (hij:i≤j) (hj:j≤n) (hn:n≤1000000) :
  Calls Tryz.prog 194 #[.slice a n c,.int .i64 (i:Int),.int .i64 (j:Int)] w (Ret λ v w'=>w'.ownsRow w.heap.size 30 1 v (n-(j-i)) (cs.take (i*1)++cs.drop (j*1))∧Grow w w'):=by
 have hcap:=hs.cap
 have hlen:=hs.len
 refine V.calls (args:=[_,_,_]) Tryz.func194 rfl Tryz.ntmps194 rfl rfl ?_
 repeat (first|(refine aD ?_;refine TL.pure rfl rfl ?_)|refine TL.nil ?_|refine aA ?_|refine aJ ?_|refine aC ?_)
 apply T.any 7 [is (.slice a n c),is (.int .i64 (i:Int)),slF F 1 i c (cs.take (i*1)),is (.slice a n c),is (.int .i64 (j:Int)),slF F 1 (n-j) (c-j) (cs.drop (j*1)),slsF 1 2 [cs.take (i*1),cs.drop (j*1)]]
 ·rfl
 ·repeat' (first|exact bX|refine bU ?_ ?_)
  iterate 2
   ·(refine aQ rfl rfl rfl ?_);( intro wq _ _ hgq;(repeat (refine aG rfl rfl ?_;intro vq hvq;try (obtain rfl:=hvq)));(refine aM ?_))
    repeat (first|(refine aB ?_;refine TL.pure rfl rfl ?_)|refine TL.nil ?_)
    exact aS rfl yG rfl
  ·(refine aQ rfl rfl rfl ?_);( intro wq _ _ hgq;(repeat (refine aG rfl rfl ?_;intro vq hvq;try (obtain rfl:=hvq)));(refine aM ?_))
   refine TL.slice (l:=0) (h:=i) (mm:=c) rfl (hs.grow hgq) (bZ _) (dG rfl rfl) (bZ c) (λ h=>by cases h) (Nat.zero_le _) (by omega) (by omega) (Nat.le_refl _) rfl ?_
   intro a' hsl _
   repeat (refine TL.nil ?_)
   refine aS rfl yG ⟨a',rfl,?_⟩
   simpa using hsl
  iterate 2
   ·(refine aQ rfl rfl rfl ?_);( intro wq _ _ hgq;(repeat (refine aG rfl rfl ?_;intro vq hvq;try (obtain rfl:=hvq)));(refine aM ?_))
    repeat (first|(refine aB ?_;refine TL.pure rfl rfl ?_)|refine TL.nil ?_)
    exact aS rfl yG rfl
  ·(refine aQ rfl rfl rfl ?_);( intro wq _ _ hgq;(repeat (refine aG rfl rfl ?_;intro vq hvq;try (obtain rfl:=hvq)));(refine aM ?_))
   refine TL.slice (l:=j) (h:=n) (mm:=c) rfl (hs.grow hgq) (dG rfl rfl) (bZ _) (bZ c) (λ _=>rfl) hj (Nat.le_refl _) hcap (Nat.le_refl _) rfl ?_
   intro a' hsl _
   repeat (refine TL.nil ?_)
   refine aS rfl yG ⟨a',rfl,?_⟩
   rw [List.take_of_length_le (by rw [List.length_drop];omega)] at hsl
   exact hsl
  ·refine aQ rfl rfl rfl ?_
   intro wq _ _ hgq
   refine aG rfl rfl ?_
   intro v1 q1
   refine aG rfl rfl ?_
   intro v3 q3
   refine aM ?_
   obtain ⟨a1,rfl,s1⟩:=q1
   obtain ⟨a3,rfl,s3⟩:=q3
   refine TL.buildSlice rfl rfl rfl rfl rfl ?_
   intro b' wa hga hba hsa hsb hsc
   repeat (refine TL.nil ?_)
   refine aS rfl yG ⟨_,_,_,rfl,(bR (sz:=1) (m:=2) hba hsc (by decide)).mono (λ _ _=>trivial),⟨_,_,_,rfl,(s1.grow hga).mono (λ _ _=>trivial)⟩,⟨_,_,_,rfl,(s3.grow hga).mono (λ _ _=>trivial)⟩,trivial⟩
 ·intro w6 lo6 hi6 hg6 _ _
  iterate 7 (refine aG rfl rfl ?_;intro vq hvq;try (obtain rfl:=hvq))
  refine aM ?_
  obtain ⟨a6,c6,vs6,rfl,hs6,hp6⟩:=hvq
  have hup:jG 1 [cs.take (i*1),cs.drop (j*1)] 2=n-(j-i):=by
   simp only [jG,List.take_succ_cons,List.take_zero,List.map_cons,List.map_nil,List.sum_cons,List.sum_nil,List.length_take,List.length_drop]
   omega
  refine aL 161 ?_
  refine aI rfl (join_k _ a6 2 c6 vs6 [cs.take (i*1),cs.drop (j*1)] _ hs6 hp6 (by
   intro p hp u hu
   simp only [List.mem_cons,List.not_mem_nil,or_false] at hp
   rcases hp with rfl|rfl
   ·exact h1 u (List.mem_of_mem_take hu)
   ·exact h1 u (List.mem_of_mem_drop hu)) (by show jG _ _ 2≤_;omega)) rfl ?_
  rintro v w7 ⟨hown,hg7⟩
  rw [show ([cs.take (i*1),cs.drop (j*1)]:List (List Value)).length=2 from rfl,hup] at hown
  rw [show ([cs.take (i*1),cs.drop (j*1)]:List (List Value)).flatten=cs.take (i*1)++cs.drop (j*1) by simp] at hown
  repeat (first|(refine aD ?_;refine TL.pure rfl rfl ?_)|refine TL.nil ?_|refine aA ?_|refine bC ?_)
  exact cF rfl ⟨_,rfl,fC hown hg6.size,hg6.trans hg7⟩
theorem grow_t (m:Nat) (hm:m≤1000000) (w:World) :
  Calls Tryz.prog 231 #[.slice none 0 0,.int .i64 (m:Int)] w (Ret λ v w'=>w'.ownsRow w.heap.size 58 2 v 0 []∧Grow w w'):=by
 refine V.calls (args:=[_,_]) Tryz.func231 rfl Tryz.ntmps231 rfl rfl ?_
 by_cases h0:m=0
 ·subst h0
  repeat (first|(refine aB ?_;refine TL.pure rfl rfl ?_)|(refine aD ?_;refine TL.pure rfl rfl ?_)|(refine cJ ?_;refine dI rfl rfl (by omega) (by omega) rfl ?_)|refine TL.nil ?_|refine aA ?_|refine aJ ?_|refine aC ?_|(refine aH ?_;refine aR rfl yD rfl ?_)|refine aO rfl rfl ?_|refine aE rfl ?_|refine bC ?_|refine aV ?_|refine TL.capR rfl rfl ?_)
  exact cF rfl ⟨_,rfl,World.ownsRow_nil _ _ _ _,Grow.refl _⟩
 ·repeat (first|(refine aB ?_;refine TL.pure rfl rfl ?_)|(refine aD ?_;refine TL.pure rfl rfl ?_)|(refine cJ ?_;refine dI rfl rfl (by omega) (by omega) rfl ?_)|refine TL.nil ?_|refine aA ?_|refine aJ ?_|refine aC ?_|(refine aH ?_;first|refine bA rfl yD rfl ?_|refine aR rfl yD rfl ?_)|refine aO rfl rfl ?_|refine aN rfl ?_|refine aE rfl ?_|refine aV ?_|refine TL.capR rfl rfl ?_)
  refine TL.slice (F:=λ _=>True) (cs:=[]) (l:=0) (h:=0) (mm:=0) rfl ⟨by simp,Nat.le_refl _,Nat.zero_le _,λ _=>rfl,by simp [Row]⟩ (bZ _) (dG rfl rfl) (bZ 0) (λ h=>by cases h) (Nat.le_refl _) (Nat.le_refl _) (Nat.le_refl _) (Nat.le_refl _) rfl ?_
  intro a' _ hn'
  obtain rfl:=hn'.2 rfl
  repeat ((refine aB ?_;refine TL.pure rfl rfl ?_))
  refine TL.appendNil (c:=m) (bytes:=48) rfl rfl (by omega) (by omega) hm rfl ?_
  intro b cap w1 hb hg1 hc1 hc2 hown
  repeat (first|(refine aB ?_;refine TL.pure rfl rfl ?_)|refine aO rfl rfl ?_)
  refine TL.sliceZ rfl rfl rfl (by omega) rfl ?_
  repeat (first|(refine aB ?_;refine TL.pure rfl rfl ?_)|(refine aD ?_;refine TL.pure rfl rfl ?_)|refine TL.nil ?_|refine aA ?_|refine aJ ?_|refine aC ?_|refine bC ?_)
  exact cF rfl ⟨_,rfl,hown,hg1⟩
theorem concat_t (F:Nat→Prop) (a:Option Addr) (n c:Nat) (vs:List Value) (ps:List (List Value)) (w:World) (hs:Sl F w 1 a n c vs) (hp:SlsAt F w 2 vs ps) (h1:∀ p∈ps,∀ u∈p,u.oneCell'=true) (hn:jG 2 ps ps.length≤1000000) :
  Calls Tryz.prog 190 #[.slice a n c] w (Ret λ v w'=>w'.ownsRow w.heap.size 58 2 v (jG 2 ps ps.length) ps.flatten∧Grow w w'):=by
 have hlen:=hs.len
 have hpl:=hp.len
 have hnle:=hs.le
 refine V.calls (args:=[_]) Tryz.func190 rfl Tryz.ntmps190 rfl rfl ?_
 repeat (first|(refine aB ?_;refine TL.pure rfl rfl ?_)|(refine aD ?_;refine TL.pure rfl rfl ?_)|refine TL.nil ?_|refine aA ?_|refine aJ ?_|refine aC ?_|refine T.block ?_|refine aO rfl rfl ?_)
 refine cM (S:=Nat) (λ i=>[(11,.int .i64 (i:Int)),(10,.int .i64 (n:Int)),(9,.slice a n c),(3,.int .i64 ((jG 2 ps i:Nat):Int)),(0,.slice a n c)]) (λ i w1=>Grow w w1∧i≤n) (λ i=>n-i) 0 ⟨rfl,rfl,rfl,rfl,rfl,trivial⟩ ⟨Grow.refl _,by omega⟩ ?_
 rintro i w1 ⟨hg1,hi⟩
 have hs1:=hs.grow hg1
 have hle:=upN_le (sz:=2) (ps:=ps) i
 by_cases hlt:i<n
 ·obtain ⟨p,hpi⟩:∃ p,ps[i]? = some p:=⟨_,List.getElem?_eq_getElem (by omega)⟩
  obtain ⟨ka,km,kc,g1,s1⟩:=hp.at' hpi
  have hcx:w1.cell? (at' a i)=some (.slice ka km kc):=hs1.row.cell g1
  have hle2:=upN_le (sz:=2) (ps:=ps) (i+1)
  have hpn:=s1.len
  have hsu:=mU (sz:=2) hpi
  have hkm:p.length / 2=km:=by omega
  rw [hkm] at hsu
  rw [hsu] at hle2
  repeat (first|(refine bF ?_;refine aW rfl rfl rfl hlt (Nat.mul_one _) ⟨F,_,hs1⟩ rfl ?_)|(refine aB ?_;refine TL.pure rfl rfl ?_)|(refine aD ?_;refine TL.pure rfl rfl ?_)|refine aK rfl yM rfl ?_|(refine bJ ?_;refine bT rfl rfl (by omega) rfl ?_)|refine TL.nil ?_|refine aA ?_|refine aJ ?_|refine aC ?_|refine T.block ?_|refine aT ?_|(refine aH ?_;first|refine bA rfl yD rfl ?_|refine aR rfl yD rfl ?_)|refine aO rfl rfl ?_|refine aN rfl ?_|refine aE rfl ?_|refine aV ?_)
  exact bG (i+1) ⟨rfl,rfl,rfl,by rw [hsu];rfl,rfl,trivial⟩ ⟨hg1,by omega⟩ (by omega)
 obtain rfl:i=n:=by omega
 have hin:i=ps.length:=by omega
 obtain ⟨L,hL0⟩:∃ L,L=jG 2 ps i:=⟨_,rfl⟩
 have hL:L=jG 2 ps ps.length:=by rw [hL0,hin]
 rw [← hL] at hn hle ⊢
 rw [← hL0]
 repeat (first|(refine aB ?_;refine TL.pure rfl rfl ?_)|refine TL.nil ?_|refine aA ?_|refine aJ ?_|refine aC ?_|(refine aH ?_;refine aR rfl yD rfl ?_)|refine aE rfl ?_|refine cN ?_|refine bM ?_|refine bO ?_|refine bN ?_)
 refine aL 231 ?_
 refine aI rfl (grow_t L hn _) rfl ?_
 rintro v w2 ⟨hown,hg2⟩
 have hown':=fC hown (show w.heap.size≤w1.heap.size from hg1.size)
 have hg3:=hg1.trans hg2
 repeat (first|(refine aB ?_;refine TL.pure rfl rfl ?_)|(refine aD ?_;refine TL.pure rfl rfl ?_)|refine TL.nil ?_|refine aA ?_|refine aJ ?_|refine aC ?_|refine T.block ?_|refine aO rfl rfl ?_)
 refine cM (S:=Value×Nat) (λ s=>[(27,.int .i64 (s.2:Int)),(26,.int .i64 (i:Int)),(25,.slice a i c),(6,s.1)]) (λ s w3=>s.2≤i∧w3.ownsRow w.heap.size 58 2 s.1 (jG 2 ps s.2) (ps.take s.2).flatten∧Grow w w3) (λ s=>i-s.2) (v,0) ⟨rfl,rfl,rfl,rfl,trivial⟩ ⟨by omega,by simpa [jG] using hown',hg3⟩ ?_
 clear hown hown' hg2 hg3 hg1 hs1
 rintro ⟨v,j⟩ w3 ⟨hj,hown,hg3⟩
 simp only at hj hown
 have hsz:=hg3.size
 have hs3:=hs.grow hg3
 by_cases hlt:j<i
 ·obtain ⟨p,hpj⟩:∃ p,ps[j]? = some p:=⟨_,List.getElem?_eq_getElem (by omega)⟩
  obtain ⟨ka,km,kc,g1,s1⟩:=hp.at' hpj
  have hcx:w3.cell? (at' a j)=some (.slice ka km kc):=hs3.row.cell g1
  have hle2:=upN_le (sz:=2) (ps:=ps) (j+1)
  have hpn:=s1.len
  have hsu:=mU (sz:=2) hpj
  have hkm:p.length / 2=km:=by omega
  rw [hkm] at hsu
  rw [hsu,← hL] at hle2
  repeat (first|(refine bF ?_;refine aW rfl rfl rfl hlt (Nat.mul_one _) ⟨F,_,hs3⟩ rfl ?_)|(refine aB ?_;refine TL.pure rfl rfl ?_)|(refine aD ?_;refine TL.pure rfl rfl ?_)|refine aK rfl yM rfl ?_|refine TL.nil ?_|refine aA ?_|refine aJ ?_|refine aC ?_|refine T.block ?_|(refine aH ?_;refine bA rfl yD rfl ?_)|refine aN rfl ?_|refine aV ?_)
  refine TL.append rfl rfl hown (s1.grow hg3) (h1 p (List.mem_of_getElem? hpj)) (by unfold maxLen;omega) (by omega) (by omega) rfl ?_
  intro v' w4 hown4 hgb _
  repeat (first|(refine aB ?_;refine TL.pure rfl rfl ?_)|(refine aD ?_;refine TL.pure rfl rfl ?_)|(refine bJ ?_;refine bT rfl rfl (by omega) rfl ?_)|refine TL.nil ?_|refine aA ?_|refine aC ?_|refine aT ?_)
  refine bG (v',j+1) ⟨rfl,rfl,rfl,rfl,trivial⟩ ⟨by simp only;omega,?_,Grow.mk (cA hgb (by omega) (λ k hk=>(cY hown hk).1) hg3.1)⟩ (by simp only;omega)
  simp only
  rw [flatV_take hpj,hsu]
  exact hown4
 obtain rfl:j=i:=by omega
 rw [hin,List.take_length,← hL] at hown
 repeat (first|(refine aB ?_;refine TL.pure rfl rfl ?_)|(refine aD ?_;refine TL.pure rfl rfl ?_)|refine TL.nil ?_|refine aA ?_|refine aJ ?_|refine aC ?_|(refine aH ?_;refine aR rfl yD rfl ?_)|refine aE rfl ?_|refine bC ?_|refine cN ?_|refine bM ?_|refine bO ?_|refine bN ?_)
 exact cF rfl ⟨_,rfl,hown,hg3⟩
theorem join_t (F:Nat→Prop) (a:Option Addr) (n c:Nat) (vs:List Value) (ps:List (List Value)) (w:World) (hs:Sl F w 1 a n c vs) (hp:SlsAt F w 2 vs ps) (h1:∀ p∈ps,∀ u∈p,u.oneCell'=true) (hn:jG 2 ps ps.length≤1000000) :
  Calls Tryz.prog 152 #[.slice a n c] w (Ret λ v w'=>w'.ownsRow w.heap.size 58 2 v (jG 2 ps ps.length) ps.flatten∧Grow w w'):=by
 refine V.calls (args:=[_]) Tryz.func152 rfl Tryz.ntmps152 rfl rfl ?_
 repeat (first|(refine aB ?_;refine TL.pure rfl rfl ?_)|(refine aD ?_;refine TL.pure rfl rfl ?_)|refine TL.nil ?_|refine aA ?_|refine aJ ?_|refine aC ?_)
 refine aL 190 ?_
 refine aI rfl (concat_t F a n c vs ps _ hs hp h1 hn) rfl ?_
 rintro v w2 ⟨hown,hg2⟩
 repeat (first|(refine aD ?_;refine TL.pure rfl rfl ?_)|refine TL.nil ?_|refine aA ?_|refine bC ?_)
 exact cF rfl ⟨_,rfl,hown,hg2⟩
theorem insert_t (F G:Nat→Prop) (a b:Option Addr) (n c m d i:Nat) (cs xs:List Value) (w:World) (hs:Sl F w 2 a n c cs) (hx:Sl G w 2 b m d xs) (h1:∀ u∈cs,u.oneCell'=true) (h2:∀ u∈xs,u.oneCell'=true) (hi:i≤n) (hn:n+m≤1000000) :
  Calls Tryz.prog 99 #[.slice a n c,.int .i64 (i:Int),.slice b m d] w (Ret λ v w'=>w'.ownsRow w.heap.size 58 2 v (n+m) (cs.take (i*2)++xs++cs.drop (i*2))∧Grow w w'):=by
 have hcap:=hs.cap
 have hlen:=hs.len
 have hlx:=hx.len
 refine V.calls (args:=[_,_,_]) Tryz.func99 rfl Tryz.ntmps99 rfl rfl ?_
 repeat (first|(refine aD ?_;refine TL.pure rfl rfl ?_)|refine TL.nil ?_|refine aA ?_|refine aJ ?_|refine aC ?_)
 apply T.any 8 [is (.slice a n c),is (.int .i64 (i:Int)),slF F 2 i c (cs.take (i*2)),is (.slice b m d),is (.slice a n c),is (.int .i64 (i:Int)),slF F 2 (n-i) (c-i) (cs.drop (i*2)),slsF 2 3 [cs.take (i*2),xs,cs.drop (i*2)]]
 ·rfl
 ·repeat' (first|exact bX|refine bU ?_ ?_)
  iterate 2
   ·(refine aQ rfl rfl rfl ?_);( intro wq _ _ hgq;(repeat (refine aG rfl rfl ?_;intro vq hvq;try (obtain rfl:=hvq)));(refine aM ?_))
    repeat (first|(refine aB ?_;refine TL.pure rfl rfl ?_)|refine TL.nil ?_)
    exact aS rfl yG rfl
  ·(refine aQ rfl rfl rfl ?_);( intro wq _ _ hgq;(repeat (refine aG rfl rfl ?_;intro vq hvq;try (obtain rfl:=hvq)));(refine aM ?_))
   refine TL.slice (l:=0) (h:=i) (mm:=c) rfl (hs.grow hgq) (bZ _) (dG rfl rfl) (bZ c) (λ h=>by cases h) (Nat.zero_le _) hi (by omega) (Nat.le_refl _) rfl ?_
   intro a' hsl _
   repeat (refine TL.nil ?_)
   refine aS rfl yG ⟨a',rfl,?_⟩
   simpa using hsl
  iterate 3
   ·(refine aQ rfl rfl rfl ?_);( intro wq _ _ hgq;(repeat (refine aG rfl rfl ?_;intro vq hvq;try (obtain rfl:=hvq)));(refine aM ?_))
    repeat (first|(refine aB ?_;refine TL.pure rfl rfl ?_)|refine TL.nil ?_)
    exact aS rfl yG rfl
  ·(refine aQ rfl rfl rfl ?_);( intro wq _ _ hgq;(repeat (refine aG rfl rfl ?_;intro vq hvq;try (obtain rfl:=hvq)));(refine aM ?_))
   refine TL.slice (l:=i) (h:=n) (mm:=c) rfl (hs.grow hgq) (dG rfl rfl) (bZ _) (bZ c) (λ _=>rfl) hi (Nat.le_refl _) hcap (Nat.le_refl _) rfl ?_
   intro a' hsl _
   repeat (refine TL.nil ?_)
   refine aS rfl yG ⟨a',rfl,?_⟩
   rw [List.take_of_length_le (by rw [List.length_drop];omega)] at hsl
   exact hsl
  ·refine aQ rfl rfl rfl ?_
   intro wq _ _ hgq
   refine aG rfl rfl ?_
   intro v1 q1
   refine aG rfl rfl ?_
   intro v2 q2
   obtain rfl:=q2
   refine aG rfl rfl ?_
   intro v3 q3
   refine aM ?_
   obtain ⟨a1,rfl,s1⟩:=q1
   obtain ⟨a3,rfl,s3⟩:=q3
   refine TL.buildSlice rfl rfl rfl rfl rfl ?_
   intro b' wa hga hba hsa hsb hsc
   repeat (refine TL.nil ?_)
   refine aS rfl yG ⟨_,_,_,rfl,(bR (sz:=1) (m:=3) hba hsc (by decide)).mono (λ _ _=>trivial),⟨_,_,_,rfl,(s1.grow hga).mono (λ _ _=>trivial)⟩,⟨_,_,_,rfl,((hx.grow hgq).grow hga).mono (λ _ _=>trivial)⟩,⟨_,_,_,rfl,(s3.grow hga).mono (λ _ _=>trivial)⟩,trivial⟩
 ·intro w6 lo6 hi6 hg6 _ _
  iterate 8 (refine aG rfl rfl ?_;intro vq hvq;try (obtain rfl:=hvq))
  refine aM ?_
  obtain ⟨a6,c6,vs6,rfl,hs6,hp6⟩:=hvq
  have hup:jG 2 [cs.take (i*2),xs,cs.drop (i*2)] 3=n+m:=by
   simp only [jG,List.take_succ_cons,List.take_zero,List.map_cons,List.map_nil,List.sum_cons,List.sum_nil,List.length_take,List.length_drop]
   omega
  refine aL 152 ?_
  refine aI rfl (join_t _ a6 3 c6 vs6 [cs.take (i*2),xs,cs.drop (i*2)] _ hs6 hp6 (by
   intro p hp u hu
   simp only [List.mem_cons,List.not_mem_nil,or_false] at hp
   rcases hp with rfl|rfl|rfl
   ·exact h1 u (List.mem_of_mem_take hu)
   ·exact h2 u hu
   ·exact h1 u (List.mem_of_mem_drop hu)) (by show jG _ _ 3≤_;omega)) rfl ?_
  rintro v w7 ⟨hown,hg7⟩
  rw [show ([cs.take (i*2),xs,cs.drop (i*2)]:List (List Value)).length=3 from rfl,hup] at hown
  rw [show ([cs.take (i*2),xs,cs.drop (i*2)]:List (List Value)).flatten=cs.take (i*2)++xs++cs.drop (i*2) by simp] at hown
  repeat (first|(refine aD ?_;refine TL.pure rfl rfl ?_)|refine TL.nil ?_|refine aA ?_|refine bC ?_)
  exact cF rfl ⟨_,rfl,fC hown hg6.size,hg6.trans hg7⟩
theorem cut_t (F:Nat→Prop) (a:Option Addr) (n c i j:Nat) (cs:List Value) (w:World) (hs:Sl F w 2 a n c cs) (h1:∀ u∈cs,u.oneCell'=true) (hij:i≤j) (hj:j≤n) (hn:n≤1000000) :
  Calls Tryz.prog 81 #[.slice a n c,.int .i64 (i:Int),.int .i64 (j:Int)] w (Ret λ v w'=>w'.ownsRow w.heap.size 58 2 v (n-(j-i)) (cs.take (i*2)++cs.drop (j*2))∧Grow w w'):=by
 have hcap:=hs.cap
 have hlen:=hs.len
 refine V.calls (args:=[_,_,_]) Tryz.func81 rfl Tryz.ntmps81 rfl rfl ?_
 repeat (first|(refine aD ?_;refine TL.pure rfl rfl ?_)|refine TL.nil ?_|refine aA ?_|refine aJ ?_|refine aC ?_)
 apply T.any 7 [is (.slice a n c),is (.int .i64 (i:Int)),slF F 2 i c (cs.take (i*2)),is (.slice a n c),is (.int .i64 (j:Int)),slF F 2 (n-j) (c-j) (cs.drop (j*2)),slsF 2 2 [cs.take (i*2),cs.drop (j*2)]]
 ·rfl
 ·repeat' (first|exact bX|refine bU ?_ ?_)
  iterate 2
   ·(refine aQ rfl rfl rfl ?_);( intro wq _ _ hgq;(repeat (refine aG rfl rfl ?_;intro vq hvq;try (obtain rfl:=hvq)));(refine aM ?_))
    repeat (first|(refine aB ?_;refine TL.pure rfl rfl ?_)|refine TL.nil ?_)
    exact aS rfl yG rfl
  ·(refine aQ rfl rfl rfl ?_);( intro wq _ _ hgq;(repeat (refine aG rfl rfl ?_;intro vq hvq;try (obtain rfl:=hvq)));(refine aM ?_))
   refine TL.slice (l:=0) (h:=i) (mm:=c) rfl (hs.grow hgq) (bZ _) (dG rfl rfl) (bZ c) (λ h=>by cases h) (Nat.zero_le _) (by omega) (by omega) (Nat.le_refl _) rfl ?_
   intro a' hsl _
   repeat (refine TL.nil ?_)
   refine aS rfl yG ⟨a',rfl,?_⟩
   simpa using hsl
  iterate 2
   ·(refine aQ rfl rfl rfl ?_);( intro wq _ _ hgq;(repeat (refine aG rfl rfl ?_;intro vq hvq;try (obtain rfl:=hvq)));(refine aM ?_))
    repeat (first|(refine aB ?_;refine TL.pure rfl rfl ?_)|refine TL.nil ?_)
    exact aS rfl yG rfl
  ·(refine aQ rfl rfl rfl ?_);( intro wq _ _ hgq;(repeat (refine aG rfl rfl ?_;intro vq hvq;try (obtain rfl:=hvq)));(refine aM ?_))
   refine TL.slice (l:=j) (h:=n) (mm:=c) rfl (hs.grow hgq) (dG rfl rfl) (bZ _) (bZ c) (λ _=>rfl) hj (Nat.le_refl _) hcap (Nat.le_refl _) rfl ?_
   intro a' hsl _
   repeat (refine TL.nil ?_)
   refine aS rfl yG ⟨a',rfl,?_⟩
   rw [List.take_of_length_le (by rw [List.length_drop];omega)] at hsl
   exact hsl
  ·refine aQ rfl rfl rfl ?_
   intro wq _ _ hgq
   refine aG rfl rfl ?_
   intro v1 q1
   refine aG rfl rfl ?_
   intro v3 q3
   refine aM ?_
   obtain ⟨a1,rfl,s1⟩:=q1
   obtain ⟨a3,rfl,s3⟩:=q3
   refine TL.buildSlice rfl rfl rfl rfl rfl ?_
   intro b' wa hga hba hsa hsb hsc
   repeat (refine TL.nil ?_)
   refine aS rfl yG ⟨_,_,_,rfl,(bR (sz:=1) (m:=2) hba hsc (by decide)).mono (λ _ _=>trivial),⟨_,_,_,rfl,(s1.grow hga).mono (λ _ _=>trivial)⟩,⟨_,_,_,rfl,(s3.grow hga).mono (λ _ _=>trivial)⟩,trivial⟩
 ·intro w6 lo6 hi6 hg6 _ _
  iterate 7 (refine aG rfl rfl ?_;intro vq hvq;try (obtain rfl:=hvq))
  refine aM ?_
  obtain ⟨a6,c6,vs6,rfl,hs6,hp6⟩:=hvq
  have hup:jG 2 [cs.take (i*2),cs.drop (j*2)] 2=n-(j-i):=by
   simp only [jG,List.take_succ_cons,List.take_zero,List.map_cons,List.map_nil,List.sum_cons,List.sum_nil,List.length_take,List.length_drop]
   omega
  refine aL 152 ?_
  refine aI rfl (join_t _ a6 2 c6 vs6 [cs.take (i*2),cs.drop (j*2)] _ hs6 hp6 (by
   intro p hp u hu
   simp only [List.mem_cons,List.not_mem_nil,or_false] at hp
   rcases hp with rfl|rfl
   ·exact h1 u (List.mem_of_mem_take hu)
   ·exact h1 u (List.mem_of_mem_drop hu)) (by show jG _ _ 2≤_;omega)) rfl ?_
  rintro v w7 ⟨hown,hg7⟩
  rw [show ([cs.take (i*2),cs.drop (j*2)]:List (List Value)).length=2 from rfl,hup] at hown
  rw [show ([cs.take (i*2),cs.drop (j*2)]:List (List Value)).flatten=cs.take (i*2)++cs.drop (j*2) by simp] at hown
  repeat (first|(refine aD ?_;refine TL.pure rfl rfl ?_)|refine TL.nil ?_|refine aA ?_|refine bC ?_)
  exact cF rfl ⟨_,rfl,fC hown hg6.size,hg6.trans hg7⟩
end Go.Proofs.YtfpadnmdafiddaaGreatDoor
namespace Go.V
open Go Go.RowKit
theorem any_beq {l:List Nat} {x:Nat}:l.any (Nat.beq x)=true↔x∈l:=by
 rw [List.any_eq_true]
 exact ⟨λ ⟨y,hy,h⟩=>by rw [Nat.eq_of_beq_eq_true h];exact hy,λ h=>⟨x,h,Nat.beq_refl x⟩⟩
section
variable [Rn]
variable {P:Program} {n:Nat} {l:List Oper} {e:dN} {w0:World} {Q:dO}
end
end Go.V
namespace Go.V
open Go Go.RowKit
def lT (l:List Oper) (i:Nat):Option Nat:=(l[i]?).bind (·.dst)
def iX (l:List Oper) (vs:List Value):List Nat→dN→dN
 | [],e=>e
 | j::js,e=>iX l vs js (match lT l j with|some d=>(d,vs.getD j undef)::e|none=>e)
def detQ (d:Option Nat) (v:Value) (I:World→Prop):dO:=λ x e' w'=>match x with
 | .normal=>(∀ t,d=some t→find e' t=some v)∧I w'
 | _=>False
theorem bB {d:Nat} {v:Value} {I:World→Prop} {e':dN} {w':World} (h:find e' d=some v) (hI:I w'):detQ (some d) v I .normal e' w':=⟨λ t ht=>(by cases ht;exact h),hI⟩
theorem iD {v:Value} {I:World→Prop} {e':dN} {w':World} (hI:I w'):detQ none v I .normal e' w':=⟨λ t ht=>(by cases ht),hI⟩
def Det [Rn] (P:Program) (n:Nat) (l:List Oper) (e:dN) (I:World→Prop) (vs:List Value) (i:Nat):Prop :=
 match l[i]? with
 | none=>True
 | some o=>∀ w,I w→TL P n l.toArray [o] (iX l vs (kQ (cD o)) e) w (detQ o.dst (vs.getD i undef) I)
def AllDet [Rn] (P:Program) (n:Nat) (l:List Oper) (e:dN) (I:World→Prop) (vs:List Value):Nat→Nat→Prop
 | _,0=>True
 | i,k+1=>Det P n l e I vs i∧AllDet P n l e I vs (i+1) k
def headDet (l:List Oper) (e:dN) (n:Nat):Nat→Nat→Bool
 | _,0=>true
 | i,k+1=>(match l[i]? with
   | some o=>(match o.dst with|some d=>Nat.blt d n&&(find e d).isNone&&(mT 0 i).all (λ j=>match lT l j with|some d'=>!(Nat.beq d' d)|none=>true)|none=>true)&&(cD o).all (λ j=>Nat.blt j i)
   | none=>false)&&headDet l e n (i+1) k
def sinkDet (l:List Oper) (N:Nat):Bool:=match l[N]? with
 | some o=>(mT 0 N).all λ i=>(cD o).any (Nat.beq i)
 | none=>true
structure DHead (l:List Oper) (e:dN) (n i:Nat):Prop where
 ex:∃ o,l[i]? = some o∧(∀ d,o.dst=some d→d<n∧find e d=none∧∀ j,j<i→lT l j≠some d)∧∀ j∈cD o,j<i
theorem headDet_at {l:List Oper} {e:dN} {n:Nat}:∀ {k i:Nat},headDet l e n i k=true→∀ j,i≤j→j<i+k→DHead l e n j
 | 0,i,_,j,h1,h2=>by omega
 | k+1,i,h,j,h1,h2=>by
  simp only [headDet,Bool.and_eq_true] at h
  obtain ⟨h,hr⟩:=h
  by_cases hj:j=i
  ·subst hj
   cases ho:l[j]? with
   | none=>simp [ho] at h
   | some o =>
    simp only [ho,Bool.and_eq_true,List.all_eq_true] at h
    obtain ⟨h5,h6⟩:=h
    refine ⟨o,ho,λ d hd=>?_,λ x hx=>Nat.le_of_ble_eq_true (h6 x hx)⟩
    simp only [hd,Bool.and_eq_true,List.all_eq_true] at h5
    obtain ⟨⟨h3,h4⟩,h5⟩:=h5
    refine ⟨Nat.le_of_ble_eq_true h3,by simpa using h4,λ x hx hxd=>?_⟩
    have:=h5 x (fE.2 ⟨Nat.zero_le _,by omega⟩)
    rw [hxd] at this
    simp [Nat.beq_refl] at this
  ·exact headDet_at hr j (by omega) (by omega)
section
variable [Rn]
variable {P:Program} {n:Nat} {l:List Oper} {e:dN} {I:World→Prop} {vs:List Value} {N:Nat} {Q:dO}
theorem allDet_at:∀ {k i:Nat},AllDet P n l e I vs i k→∀ j,i≤j→j<i+k→Det P n l e I vs j
 | 0,_,_,j,h1,h2=>by omega
 | k+1,i,h,j,h1,h2=>by
  by_cases hj:j=i
  ·subst hj;exact h.1
  ·exact allDet_at h.2 j (by omega) (by omega)
theorem gP {i:Nat}:AllDet P n l e I vs i 0:=trivial
theorem fS {i k:Nat} (h:Det P n l e I vs i) (hs:AllDet P n l e I vs (i+1) k):AllDet P n l e I vs i (k+1):=⟨h,hs⟩
theorem iC {i:Nat} {d:Option Nat} {op:Op} {ty:TypeId} {pos:String} {aft:Array Edge} {v:Value} {e':dN} (ho:l[i]? = some ⟨d,op,ty,pos,aft,none⟩) (hv:vs.getD i undef=v) (he:iX l vs (kQ (cD ⟨d,op,ty,pos,aft,none⟩)) e=e')
  (h:∀ w,I w→TL P n #[] [⟨d,op,ty,pos,aft,none⟩] e' w (detQ d v I)):Det P n l e I vs i:=by
 unfold Det
 rw [ho]
 simp only
 intro w hw
 subst he
 rw [hv]
 exact TL.lone (h w hw)
theorem kG:∀ {js:List Nat} {e0:dN} {t:Nat} {v:Value},find (iX l vs js e0) t=some v→(∃ j∈js,lT l j=some t∧v=vs.getD j undef)∨find e0 t=some v
 | [],e0,t,v,h=>.inr h
 | j::js,e0,t,v,h=>by
  unfold iX at h
  rcases kG h with ⟨x,hx,h1⟩|h1
  ·exact .inl ⟨x,by simp [hx],h1⟩
  ·cases hd:lT l j with
   | none=>rw [hd] at h1;exact .inr h1
   | some d =>
    rw [hd] at h1
    simp only [fP] at h1
    by_cases ht:d=t
    ·rw [if_pos ht] at h1
     exact .inl ⟨j,by simp,by rw [hd,ht],(Option.some.inj h1).symm⟩
    ·rw [if_neg ht] at h1
     exact .inr h1
structure MidD (n:Nat) (l:List Oper) (e:dN) (I:World→Prop) (vs:List Value) (N:Nat) (listed:Array Bool) (a:Act) (w:World):Prop where
 size:listed.size=l.length
 inv:I w
 defers:a.defers=Rn.ds
 tmps:a.tmps.size=n
 get:∀ t v,find e t=some v→a.tmps.getD t undef=v
 did:∀ i,i<N→listed.getD i false=true→∀ d,lT l i=some d→a.tmps.getD d undef=vs.getD i undef
 rest:∀ i,N≤i→listed.getD i false=false
 closed:∀ j o,l[j]? = some o→listed.getD j false=true→∀ x∈cD o,listed.getD x false=true
theorem dV {listed:Array Bool} {i x:Nat} (hx:x≠i):(listed.setIfInBounds i true).getD x false=listed.getD x false:=by
 rw [Array.getD_eq_getD_getElem?,Array.getElem?_setIfInBounds_ne (λ h=>hx h.symm),← Array.getD_eq_getD_getElem?]
theorem det_runs (hN:N≤l.length) (hh:∀ i,i<N→DHead l e n i) (hsink:N<l.length→∀ i,i<N→∃ j o,i<j∧j≤N∧l[j]? = some o∧i∈cD o)
  (ht:∀ j,N≤j→j<l.length→∃ o,l[j]? = some o∧(∀ x∈cD o,x<j)∧(j=N∨j-1∈cD o)) (hdo:∀ i,i<N→Det P n l e I vs i)
  (htail:∀ w,I w→TL P n l.toArray (l.drop N) (iX l vs (mT 0 N) e) w Q) :
  ∀ (m:Nat) (listed:Array Bool) (a:Act) (w:World) (f:Nat),MidD n l e I vs N listed a w →
   ((List.range N).filter λ i=>!(listed.getD i false)).length=m→f=m+(l.length-N)→wpAnyIn (FR Rn.ro) 0 P .any l.toArray (iQ n Q) f listed a w:=by
 intro m
 induction m with
 | zero =>
  intro listed a w f mid hm hf
  have hall:∀ i,i<N→listed.getD i false=true:=by
   intro i hi
   have:=List.eq_nil_of_length_eq_zero hm
   have h2:=List.eq_nil_iff_forall_not_mem.1 this i
   simp only [List.mem_filter,List.mem_range,not_and,Bool.not_eq_true',Bool.not_eq_false] at h2
   exact h2 hi
  refine mW ht f N listed a w (by omega) (Nat.le_refl _) mid.size hall (λ x hx hx2=>?_) ?_
  ·have:=mid.rest x hx
   rw [Array.getD_eq_getD_getElem?] at this ⊢
   cases hy:listed[x]? with
   | none=>rw [Array.getElem?_eq_none_iff] at hy;have:=mid.size;omega
   | some b=>simpa [hy] using this
  ·refine (htail w mid.inv).out ⟨mid.defers,mid.tmps,λ t v hv=>?_⟩
   rcases kG hv with ⟨j,hj,h1,rfl⟩|h3
   ·have hjN:=(fE.1 hj).2
    exact mid.did j (by omega) (hall j (by omega)) t h1
   ·exact mid.get t v h3
 | succ m ih =>
  intro listed a w f mid hm hf
  have hopen:∃ i,i<N∧listed.getD i false=false:=by
   have hne:((List.range N).filter λ i=>!(listed.getD i false))≠[]:=by intro h0;rw [h0] at hm;simp at hm
   obtain ⟨i,hi⟩:=List.exists_mem_of_ne_nil _ hne
   simp only [List.mem_filter,List.mem_range,Bool.not_eq_true'] at hi
   exact ⟨i,hi.1,hi.2⟩
  obtain ⟨f',rfl⟩:∃ f',f=f'+1:=⟨f-1,by omega⟩
  have hready:∀ j,j∈Region.ready .any l.toArray listed→j<N∧listed.getD j false=false:=by
   intro j hj
   obtain ⟨h3,o,h4,h5⟩:=dH.1 hj
   have hlt:j<l.length:=(List.getElem?_eq_some_iff.1 h4).1
   have hf2:listed.getD j false=false:=by
    rw [Array.getD_eq_getD_getElem?] at h3 ⊢
    cases hx:listed[j]? with
    | none=>simp
    | some b=>simpa [hx] using h3
   refine ⟨?_,hf2⟩
   rcases Nat.lt_or_ge j N with h|h
   ·exact h
   ·exfalso
    obtain ⟨o2,h6,_,h7⟩:=ht j h hlt
    rw [h4] at h6
    cases h6
    obtain ⟨i,hi,hi0⟩:=hopen
    by_cases hjN:j=N
    ·subst hjN
     have key:∀ k i,j-i≤k→i<j→listed.getD i false=false→False:=by
      intro k
      induction k with
      | zero=>intro i h1 h2;omega
      | succ k ihk =>
       intro i h1 h2 hl
       obtain ⟨x,o3,hx1,hx2,hx3,hx4⟩:=hsink hlt i h2
       by_cases hxj:x=j
       ·subst hxj
        rw [h4] at hx3
        cases hx3
        have:=h5 i hx4
        rw [hl] at this
        cases this
       ·refine ihk x (by omega) (by omega) ?_
        cases hv:listed.getD x false with
        | false=>rfl
        | true =>
         have:=mid.closed x o3 hx3 hv i hx4
         rw [hl] at this
         cases this
     exact key _ i (Nat.le_refl _) hi hi0
    ·have h8:=h5 (j-1) (h7.resolve_left hjN)
     rw [mid.rest (j-1) (by omega)] at h8
     cases h8
  have hsome:Region.ready .any l.toArray listed≠[]:=by
   have key:∀ k i,i≤k→i<N→listed.getD i false=false→∃ j,j∈Region.ready .any l.toArray listed:=by
    intro k
    induction k with
    | zero =>
     intro i hi hiN hl
     obtain ⟨o,ho,_,hdeps⟩:=(hh i hiN).ex
     refine ⟨i,dH.2 ⟨?_,o,ho,λ x hx=>?_⟩⟩
     ·rw [Array.getD_eq_getD_getElem?] at hl ⊢
      cases hx:listed[i]? with
      | none=>rw [Array.getElem?_eq_none_iff] at hx;have:=mid.size;omega
      | some b=>simpa [hx] using hl
     ·have:=hdeps x hx;omega
    | succ k ihk =>
     intro i hi hiN hl
     obtain ⟨o,ho,_,hdeps⟩:=(hh i hiN).ex
     by_cases hx:∃ x∈cD o,listed.getD x false=false
     ·obtain ⟨x,hx1,hx2⟩:=hx
      have:=hdeps x hx1
      exact ihk x (by omega) (by omega) hx2
     ·refine ⟨i,dH.2 ⟨?_,o,ho,λ x hx1=>?_⟩⟩
      ·rw [Array.getD_eq_getD_getElem?] at hl ⊢
       cases hx:listed[i]? with
       | none=>rw [Array.getElem?_eq_none_iff] at hx;have:=mid.size;omega
       | some b=>simpa [hx] using hl
      ·cases hv:listed.getD x false with
       | true=>rfl
       | false=>exact absurd ⟨x,hx1,hv⟩ hx
   obtain ⟨i,hi,hi0⟩:=hopen
   obtain ⟨j,hj⟩:=key i i (Nat.le_refl _) hi hi0
   intro h0
   rw [h0] at hj
   cases hj
  refine ⟨λ h0=>absurd h0 hsome,λ i hir=>?_⟩
  obtain ⟨hiN,hil⟩:=hready i hir
  obtain ⟨_,o,ho,hdl⟩:=dH.1 hir
  obtain ⟨o',ho',hd,hdeps⟩:=(hh i hiN).ex
  rw [ho] at ho'
  cases ho'
  have hdst:lT l i=o.dst:=by simp [lT,ho]
  have hdo':=hdo i hiN
  unfold Det at hdo'
  simp only [ho] at hdo'
  have hfit:Fits n (iX l vs (kQ (cD o)) e) a:=⟨mid.defers,mid.tmps,λ t v hv=>by
   rcases kG hv with ⟨j,hj,h1,rfl⟩|h3
   ·have hj':=fF.1 hj
    exact mid.did j (by have:=hdeps j hj';omega) (hdl j hj') t h1
   ·exact mid.get t v h3⟩
  have hrun:=(hdo' w mid.inv).out hfit
  unfold wpOpIn
  rw [show l.toArray[i]? = some o by simpa using ho]
  simp only
  have hnext:∀ a' w',iQ n (detQ o.dst (vs.getD i undef) I) .normal a' w'→(∃ v,a'.tmps=(a.put o.dst v).tmps)→wpAnyIn (FR Rn.ro) 0 P .any l.toArray (iQ n Q) f' (listed.setIfInBounds i true) a' w':=by
   rintro a' w' ⟨e',he',hv,hI'⟩ ⟨u,hu⟩
   have hother:∀ t,o.dst≠some t→a'.tmps.getD t undef=a.tmps.getD t undef:=λ t htd=>by
    rw [hu]
    cases hod:o.dst with
    | none=>rfl
    | some d =>
     rw [jK (by rw [mid.tmps];exact (hd d hod).1),if_neg (λ h=>htd (by rw [hod,h]))]
   refine ih (listed.setIfInBounds i true) a' w' f' ⟨by simp [mid.size],hI',he'.defers,he'.size,λ t v hv=>?_,λ j hj hjl d hjd=>?_,λ j hj=>?_,λ j oj hoj hjl x hx=>?_⟩ ?_ (by omega)
   ·rw [hother t (λ h=>by rw [(hd t h).2.1] at hv;cases hv)]
    exact mid.get t v hv
   ·by_cases hji:j=i
    ·subst hji
     rw [hdst] at hjd
     exact he'.get d _ (hv d hjd)
    ·rw [dV hji] at hjl
     have hne:o.dst≠some d:=by
      intro hod
      rcases Nat.lt_or_ge j i with h|h
      ·exact (hd d hod).2.2 j h hjd
      ·obtain ⟨oj,hoj,hdj,_⟩:=(hh j hj).ex
       have:lT l j=oj.dst:=by simp [lT,hoj]
       rw [this] at hjd
       exact (hdj d hjd).2.2 i (by omega) (by rw [hdst];exact hod)
     rw [hother d hne]
     exact mid.did j hj hjl d hjd
   ·rw [dV (by omega)]
    exact mid.rest j hj
   ·by_cases hxi:x=i
    ·subst hxi
     have hsz:x<listed.size:=by rw [mid.size];exact (List.getElem?_eq_some_iff.1 ho).1
     simp [Array.getD_eq_getD_getElem?,hsz]
    ·rw [dV hxi]
     by_cases hji:j=i
     ·subst hji
      rw [ho] at hoj
      cases hoj
      exact hdl x hx
     ·rw [dV hji] at hjl
      exact mid.closed j oj hoj hjl x hx
   ·have hcount:∀ (L:List Nat),L.Nodup→i∈L→(L.filter λ j=>!((listed.setIfInBounds i true).getD j false)).length+1=(L.filter λ j=>!(listed.getD j false)).length:=by
     intro L
     induction L with
     | nil=>intro _ h;cases h
     | cons x xs ihx =>
      intro hnd hmem
      rw [List.nodup_cons] at hnd
      have hsz:i<listed.size:=by rw [mid.size];exact (List.getElem?_eq_some_iff.1 ho).1
      by_cases hxi:x=i
      ·subst hxi
       have hsame:(xs.filter λ j=>!((listed.setIfInBounds x true).getD j false))=xs.filter λ j=>!(listed.getD j false):=by
        apply List.filter_congr
        intro y hy
        rw [dV (λ (h:y=x)=>hnd.1 (by rw [← h];exact hy))]
       have h1:(listed.setIfInBounds x true).getD x false=true:=by simp [Array.getD_eq_getD_getElem?,hsz]
       rw [List.filter_cons_of_neg (by simp [h1]),hsame,List.filter_cons_of_pos (by simp [hil])]
       simp
      ·have hmem':i∈xs:=by
        rcases List.mem_cons.1 hmem with h|h
        ·exact absurd h.symm hxi
        ·exact h
       have:=ihx hnd.2 hmem'
       have hx2:(listed.setIfInBounds i true).getD x false=listed.getD x false:=dV hxi
       cases hc:listed.getD x false with
       | true=>rw [List.filter_cons_of_neg (by simp [hx2,hc]),List.filter_cons_of_neg (by simp [hc])];exact this
       | false=>rw [List.filter_cons_of_pos (by simp [hx2,hc]),List.filter_cons_of_pos (by simp [hc])];simp only [List.length_cons];omega
    have:=hcount (List.range N) List.nodup_range (List.mem_range.2 hiN)
    omega
  unfold wpListIn at hrun
  split
  ·rename_i hw
   rw [if_pos hw] at hrun
   exact (Oper.wpIn_mono (λ a' w' hh=>hnext a' w' hh.1 hh.2) (wp_swap (wp_frame hrun) (λ x a w hx hq=>by
     refine (lift_no hq λ e0 w0 hq=>?_).elim
     cases x<;>first|exact absurd rfl hx|exact hq)))
  ·rename_i hw
   rw [if_neg hw] at hrun
   exact ⟨hrun.1,hnext _ _ hrun.2 ⟨undef,by cases o.dst<;>rfl⟩⟩
theorem T.det {rid:Nat} {w0:World} (N:Nat) (vs:List Value) (I:World→Prop) [hm:Mixed P] (hc:(headDet l e n 0 N&&mR l N N (l.length-N)&&Nat.ble N l.length&&(Nat.ble l.length N || sinkOk l N))=true) (h0:∀ w,Grow w0 w→I w)
  (hdo:AllDet P n l e I vs 0 N) (htail:∀ w,I w→TL P n l.toArray (l.drop N) (iX l vs (mT 0 N) e) w Q):T P n (.region rid l.toArray true) e w0 Q:=by
 simp only [Bool.and_eq_true] at hc
 obtain ⟨⟨⟨hc1,hc2⟩,hc3⟩,hc4⟩:=hc
 refine T.mk λ a ha=>wpIn_region_any hm.h ?_
 refine det_runs (N:=N) (Nat.le_of_ble_eq_true hc3) (λ i hi=>headDet_at hc1 i (Nat.zero_le _) (by omega)) (λ hlt i hi=>?_) (λ j h1 h2=>lC hc2 j h1 (by omega)) (λ i hi=>allDet_at hdo i (Nat.zero_le _) (by omega)) htail
  N (Array.replicate l.toArray.size false) a _ _ ⟨by simp,h0 _ (Grow.drew _),ha.defers,ha.size,ha.get,λ i _ h=>?_,λ i _=>?_,λ j o _ h x _=>?_⟩ ?_ ?_
 ·simp only [Bool.or_eq_true] at hc4
  rcases hc4 with h|h
  ·have:=Nat.le_of_ble_eq_true h;omega
  ·exact sinkOk_at h i hi
 ·exfalso
  rw [Array.getD_eq_getD_getElem?] at h
  rcases Nat.lt_or_ge i l.length with hi|hi
  ·simp [hi] at h
  ·simp [hi] at h
 ·rw [Array.getD_eq_getD_getElem?]
  rcases Nat.lt_or_ge i l.length with hi|hi
  ·simp [hi]
  ·simp [hi]
 ·exfalso
  rw [Array.getD_eq_getD_getElem?] at h
  rcases Nat.lt_or_ge j l.length with hi|hi
  ·simp [hi] at h
  ·simp [hi] at h
 ·have:((List.range N).filter λ i=>!((Array.replicate l.toArray.size false).getD i false))=List.range N:=by
   rw [List.filter_eq_self]
   intro i hi
   rw [Array.getD_eq_getD_getElem?]
   rcases Nat.lt_or_ge i l.length with hi|hi
   ·simp [hi]
   ·simp [hi]
  rw [this]
  simp
 ·have:=Nat.le_of_ble_eq_true hc3
  simp
  omega
end
end Go.V
namespace Go.Proofs.YtfpadnmdafiddaaGreatDoor
def kW (b:Bs):Prop:=∀ x∈b,x<256
def NdB (n:Nd):Prop:=(∀ x∈n.items,kW x.1∧kW x.2)∧∀ k∈n.keys,kW k
def PgB (s:Pg):Prop:=∀ n,kW (s.body n)
theorem lW {a b:Bs} (ha:kW a) (hb:kW b):kW (a++b):=λ x hx=>(List.mem_append.1 hx).elim (ha x) (hb x)
theorem rdBlk_by {r p t:Bs} (hr:kW r) (h:kM r=some (p,t)):kW p∧kW t:=by
 unfold kM at h
 split at h
 ·split at h
  ·simp only [Option.some.injEq,Prod.mk.injEq] at h
   obtain ⟨rfl,rfl⟩:=h
   exact ⟨λ x hx=>hr x (List.mem_of_mem_drop (List.mem_of_mem_take hx)),λ x hx=>hr x (List.mem_of_mem_drop (List.mem_of_mem_drop hx))⟩
  ·cases h
 ·cases h
theorem rdItems_by:∀ {c:Nat} {r t:Bs} {l:dS},kW r→kT c r=some (l,t)→(∀ x∈l,kW x.1∧kW x.2)∧kW t
 | 0,r,t,l,hr,h=>by
  simp only [kT,Option.some.injEq,Prod.mk.injEq] at h
  obtain ⟨rfl,rfl⟩:=h
  exact ⟨by simp,hr⟩
 | c+1,r,t,l,hr,h=>by
  unfold kT at h
  split at h
  ·cases h
  rename_i k r1 e1
  split at h
  ·cases h
  rename_i v r2 e2
  split at h
  ·cases h
  rename_i l' r3 e3
  simp only [Option.some.injEq,Prod.mk.injEq] at h
  obtain ⟨rfl,rfl⟩:=h
  obtain ⟨b1,b2⟩:=rdBlk_by hr e1
  obtain ⟨b3,b4⟩:=rdBlk_by b2 e2
  obtain ⟨b5,b6⟩:=rdItems_by b4 e3
  refine ⟨λ x hx=>?_,b6⟩
  rcases List.mem_cons.1 hx with rfl|hx
  ·exact ⟨b1,b3⟩
  ·exact b5 x hx
theorem rdKids_by:∀ {c:Nat} {r t:Bs} {l:List Nat},kW r→rdKids c r=some (l,t)→kW t
 | 0,r,t,l,hr,h=>by
  simp only [rdKids,Option.some.injEq,Prod.mk.injEq] at h
  obtain ⟨rfl,rfl⟩:=h
  exact hr
 | c+1,r,t,l,hr,h=>by
  unfold rdKids at h
  split at h
  ·cases h
  rename_i k r1 e1
  split at h
  ·cases h
  rename_i l' r3 e3
  simp only [Option.some.injEq,Prod.mk.injEq] at h
  obtain ⟨rfl,rfl⟩:=h
  refine rdKids_by (r:=r1) ?_ e3
  unfold rdWord at e1
  split at e1
  ·simp only [Option.some.injEq,Prod.mk.injEq] at e1
   obtain ⟨rfl,rfl⟩:=e1
   exact λ x hx=>hr x (List.mem_of_mem_drop hx)
  ·cases e1
theorem rdKeys_by:∀ {c:Nat} {r t:Bs} {l:List Bs},kW r→rdKeys c r=some (l,t)→(∀ x∈l,kW x)∧kW t
 | 0,r,t,l,hr,h=>by
  simp only [rdKeys,Option.some.injEq,Prod.mk.injEq] at h
  obtain ⟨rfl,rfl⟩:=h
  exact ⟨by simp,hr⟩
 | c+1,r,t,l,hr,h=>by
  unfold rdKeys at h
  split at h
  ·cases h
  rename_i k r1 e1
  split at h
  ·cases h
  rename_i l' r3 e3
  simp only [Option.some.injEq,Prod.mk.injEq] at h
  obtain ⟨rfl,rfl⟩:=h
  obtain ⟨b1,b2⟩:=rdBlk_by hr e1
  obtain ⟨b5,b6⟩:=rdKeys_by b2 e3
  refine ⟨λ x hx=>?_,b6⟩
  rcases List.mem_cons.1 hx with rfl|hx
  ·exact b1
  ·exact b5 x hx
theorem finN_eq {m n:Nd} {r:Bs} (h:finN m r=some n):m=n:=by
 unfold finN at h
 split at h
 ·simpa using h
 ·cases h
theorem readN_by {b:Bs} {n:Nd} (hb:kW b) (h:gB b=some n):NdB n:=by
 unfold gB at h
 split at h
 rotate_left
 ·cases h
 rename_i kd c r
 have hr:kW r:=λ x hx=>hb x (by simp [hx])
 split at h
 ·cases h
 ·split at h
  ·split at h
   ·cases h
   ·rename_i l r1 e1
    have:=finN_eq h
    subst this
    exact ⟨(rdItems_by hr e1).1,by simp⟩
  ·split at h
   ·split at h
    ·cases h
    ·rename_i l r1 e1
     split at h
     ·cases h
     ·rename_i ks r2 e2
      have:=finN_eq h
      subst this
      exact ⟨by simp,(rdKeys_by (rdKids_by hr e1) e2).1⟩
   ·cases h
theorem nodeP_by {s:Pg} {n:Nat} {nd:Nd} (hs:PgB s) (h:dQ s n=some nd):NdB nd:=by
 unfold dQ at h
 split at h
 ·exact readN_by (hs n) h
 ·cases h
theorem encL_by:∀ n:Fin 40,∀ x∈encL n.val,x<256:=by decide +kernel
theorem blkB_by {p:Bs} (h:p.length<40) (hp:kW p):kW (jO p):=lW (λ x hx=>encL_by ⟨p.length,h⟩ x hx) hp
theorem lF {n:Nd} (hk:cH n=true) (h:NdB n):kW (fI n):=by
 unfold cH at hk
 unfold fI
 split at hk
 ·rename_i hl
  obtain ⟨h1,h2,h3⟩:=dL hk
  rw [if_pos hl]
  refine lW (λ x hx=>?_) (λ x hx=>?_)
  ·simp only [List.mem_cons,List.not_mem_nil,or_false] at hx
   omega
  ·obtain ⟨y,hy,hxy⟩:=List.mem_flatMap.1 hx
   have g1:=gV (mG h3 hy).1
   have g2:=kZ (mG h3 hy).2
   exact lW (blkB_by (by omega) (h.1 y hy).1) (blkB_by (by omega) (h.1 y hy).2) x hxy
 ·rename_i hl
  obtain ⟨h1,h2,h3,h4,h5,h6⟩:=cU hk
  rw [if_neg hl]
  refine lW (lW (λ x hx=>?_) (λ x hx=>?_)) (λ x hx=>?_)
  ·simp only [List.mem_cons,List.not_mem_nil,or_false] at hx
   omega
  ·obtain ⟨y,hy,hxy⟩:=List.mem_flatMap.1 hx
   simp only [fQ,List.mem_cons,List.not_mem_nil,or_false] at hxy
   omega
  ·obtain ⟨y,hy,hxy⟩:=List.mem_flatMap.1 hx
   have g1:=gV (key_ok' h6 hy)
   exact blkB_by (by omega) (h.2 y hy) x hxy
theorem kD {α : Type} {l x:List α} {i:Nat} {a : α} (h:a∈dE l i x):a∈l∨a∈x:=by
 simp only [dE,List.mem_append] at h
 rcases h with (h|h)|h
 ·exact .inl (List.mem_of_mem_take h)
 ·exact .inr h
 ·exact .inl (List.mem_of_mem_drop h)
theorem gC {α : Type} {l:List α} {i j:Nat} {a : α} (h:a∈cL l i j):a∈l:=by
 simp only [cL,List.mem_append] at h
 rcases h with h|h
 ·exact List.mem_of_mem_take h
 ·exact List.mem_of_mem_drop h
theorem putNode_by {n up:Nd} {i:Nat} {item:Bs×Bs} {th:Bool} (hn:NdB n) (hu:NdB up) (h1:kW item.1) (h2:kW item.2):NdB (eH n i up item th):=by
 unfold eH
 split
 ·split
  ·refine ⟨λ x hx=>?_,hn.2⟩
   rcases kD hx with hx|hx
   ·exact hn.1 x (gC hx)
   ·simp only [List.mem_singleton] at hx;subst hx;exact ⟨h1,h2⟩
  ·refine ⟨λ x hx=>?_,hn.2⟩
   rcases kD hx with hx|hx
   ·exact hn.1 x hx
   ·simp only [List.mem_singleton] at hx;subst hx;exact ⟨h1,h2⟩
 ·refine ⟨hn.1,λ x hx=>?_⟩
  rcases kD hx with hx|hx
  ·exact hn.2 x hx
  ·exact hu.2 x hx
theorem getD_by {l:List Bs} (h:∀ k∈l,kW k) (i:Nat):kW (l.getD i []):=by
 rw [List.getD_eq_getElem?_getD]
 cases e:l[i]? with
 | none=>intro x hx;cases hx
 | some y=>exact h y (List.mem_of_getElem? e)
theorem getI_by {l:dS} (h:∀ x∈l,kW x.1∧kW x.2) (i:Nat):kW (l.getD i ([],[])).1∧kW (l.getD i ([],[])).2:=by
 rw [List.getD_eq_getElem?_getD]
 cases e:l[i]? with
 | none=>refine ⟨λ x hx=>?_,λ x hx=>?_⟩<;>cases hx
 | some y=>exact h y (List.mem_of_getElem? e)
theorem splitN_by {n:Nd} (hn:NdB n):NdB (dM n).1∧NdB (dM n).2.1∧kW (dM n).2.2:=by
 unfold dM
 split
 ·exact ⟨⟨λ x hx=>hn.1 x (gC hx),by simp⟩,⟨λ x hx=>hn.1 x (gC hx),by simp⟩,(getI_by (λ x hx=>hn.1 x (gC hx)) 0).1⟩
 ·exact ⟨⟨by simp,λ x hx=>hn.2 x (gC hx)⟩,⟨by simp,λ x hx=>hn.2 x (gC hx)⟩,getD_by hn.2 3⟩
theorem mendN_by {sib low:Nd} {i:Nat} {key:Bs} (h1:NdB sib) (h2:NdB low) (hk:kW key):(∀ x∈(gX sib low i key).1,NdB x)∧∀ k∈(gX sib low i key).2,kW k:=by
 have ha:NdB (if i=0 then low else sib):=by split<;>assumption
 have hb:NdB (if i=0 then sib else low):=by split<;>assumption
 unfold gX
 generalize (if i=0 then low else sib)=a at *
 generalize (if i=0 then sib else low)=b at *
 simp only
 split
 ·refine ⟨λ x hx=>?_,by simp⟩
  simp only [List.mem_singleton] at hx
  subst hx
  unfold lM
  split
  ·exact ⟨λ x hx=>(List.mem_append.1 hx).elim (ha.1 x) (hb.1 x),by simp⟩
  ·refine ⟨by simp,λ x hx=>?_⟩
   simp only [List.mem_append,List.mem_singleton] at hx
   rcases hx with (hx|rfl)|hx
   ·exact ha.2 x hx
   ·exact hk
   ·exact hb.2 x hx
 ·split
  ·simp only [List.mem_cons,List.not_mem_nil,or_false,forall_eq_or_imp,forall_eq]
   unfold fW
   split
   ·have hi:∀ x∈dE b.items 0 [a.items.getD (a.items.length-1) ([],[])],kW x.1∧kW x.2:=λ x hx=>by
     rcases kD hx with hx|hx
     ·exact hb.1 x hx
     ·simp only [List.mem_singleton] at hx;subst hx;exact getI_by ha.1 _
    exact ⟨⟨⟨λ x hx=>ha.1 x (gC hx),ha.2⟩,⟨hi,hb.2⟩⟩,(getI_by hi 0).1⟩
   ·refine ⟨⟨⟨ha.1,λ x hx=>ha.2 x (gC hx)⟩,⟨hb.1,λ x hx=>?_⟩⟩,getD_by ha.2 _⟩
    rcases kD hx with hx|hx
    ·exact hb.2 x hx
    ·simp only [List.mem_singleton] at hx;subst hx;exact hk
  ·simp only [List.mem_cons,List.not_mem_nil,or_false,forall_eq_or_imp,forall_eq]
   unfold iS
   split
   ·refine ⟨⟨⟨λ x hx=>?_,ha.2⟩,⟨λ x hx=>hb.1 x (gC hx),hb.2⟩⟩,(getI_by (λ x hx=>hb.1 x (gC hx)) 0).1⟩
    rcases kD hx with hx|hx
    ·exact ha.1 x hx
    ·simp only [List.mem_singleton] at hx;subst hx;exact getI_by hb.1 _
   ·refine ⟨⟨⟨ha.1,λ x hx=>?_⟩,⟨hb.1,λ x hx=>hb.2 x (gC hx)⟩⟩,getD_by hb.2 _⟩
    rcases kD hx with hx|hx
    ·exact ha.2 x hx
    ·simp only [List.mem_singleton] at hx;subst hx;exact hk
theorem spliceN_by {n:Nd} {i:Nat} {kids:List Nat} {keys:List Bs} (hn:NdB n) (hk:∀ k∈keys,kW k):NdB (mB n i kids keys) :=
 ⟨hn.1,λ x hx=>(kD hx).elim (λ h=>hn.2 x (gC h)) (hk x)⟩
end Go.Proofs.YtfpadnmdafiddaaGreatDoor
namespace Go.Proofs.YtfpadnmdafiddaaGreatDoor
open Go Go.RowKit Go.V
theorem eZ {α : Type} {l x:List α} {i:Nat} (h:i≤l.length):(dE l i x).length=l.length+x.length:=by
 simp only [dE,List.length_append,List.length_take,List.length_drop];omega
theorem eD {α : Type} {l:List α} {i j:Nat} (h:i≤j) (hj:j≤l.length):(cL l i j).length=l.length-(j-i):=by
 simp only [cL,List.length_append,List.length_take,List.length_drop];omega
def itsF {B:Nat} (F:Nat→Prop) (n:Nat) (l:dS):SFact B:={ G:=λ v _ _ w=>∃ a c,v=.slice a n c∧ItsAt F w a n c l,st:=λ v _ _ w w' g h=>by obtain ⟨a,c,h1,h2⟩:=h;exact ⟨a,c,h1,h2.go (Carry.grow g)⟩ }
def kysF {B:Nat} (F:Nat→Prop) (n:Nat) (l:List Bs):SFact B:={ G:=λ v _ _ w=>∃ a c,v=.slice a n c∧KysAt F w a n c l,st:=λ v _ _ w w' g h=>by obtain ⟨a,c,h1,h2⟩:=h;exact ⟨a,c,h1,h2.go (Carry.grow g)⟩ }
def kidF {B:Nat} (F:Nat→Prop) (n:Nat) (l:List Nat):SFact B:={ G:=λ v _ _ w=>∃ a c,v=.slice a n c∧Sl F w 1 a n c (cB l),st:=λ v _ _ w w' g h=>by obtain ⟨a,c,h1,h2⟩:=h;exact ⟨a,c,h1,h2.grow g⟩ }
section
variable {F:Nat→Prop} {w:World}
theorem its_of_own {w':World} {E:TypeId} {v:Value} {n:Nat} {cs:List Value} {l:dS} (hown:w'.ownsRow w.heap.size E 2 v n cs) (hF:∀ k,w.heap.size≤k→F k) (hc:ItCells F w' cs l):∃ a c,v=.slice a n c∧ItsAt F w' a n c l:=by
 obtain ⟨a,c,rfl,hs⟩:=cE hown
 exact ⟨a,c,rfl,⟨cs,hs.mono (λ k hk=>hF k hk.1),hc⟩⟩
theorem kys_of_own {w':World} {E:TypeId} {v:Value} {n:Nat} {cs:List Value} {l:List Bs} (hown:w'.ownsRow w.heap.size E 1 v n cs) (hF:∀ k,w.heap.size≤k→F k) (hc:KyCells F w' cs l):∃ a c,v=.slice a n c∧KysAt F w' a n c l:=by
 obtain ⟨a,c,rfl,hs⟩:=cE hown
 exact ⟨a,c,rfl,⟨cs,hs.mono (λ k hk=>hF k hk.1),hc⟩⟩
theorem insI_c (hF:∀ k,w.heap.size≤k→F k) (a b:Option Addr) (n c m d i:Nat) (l xs:dS) (h:ItsAt F w a n c l) (hx:ItsAt F w b m d xs) (hi:i≤n) (hn:n+m≤1000000) :
  Calls Tryz.prog 99 #[.slice a n c,.int .i64 (i:Int),.slice b m d] w (Ret λ v w'=>(∃ a' c',v=.slice a' (n+m) c'∧ItsAt F w' a' (n+m) c' (dE l i xs))∧Grow w w'):=by
 obtain ⟨cs,hs,hc⟩:=h.ex
 obtain ⟨ds,hs2,hd⟩:=hx.ex
 refine Calls.mono (insert_t F F a b n c m d i cs ds w hs hs2 hc.one hd.one hi hn) ?_
 rintro _ w' ⟨v,rfl,hown,hg⟩
 have h1:=hc.take i
 rw [Nat.mul_comm] at hown
 exact ⟨v,rfl,its_of_own hown hF (ItCells.go (Carry.grow hg) ((h1.1.append hd).append h1.2)),hg⟩
theorem cutI_c (hF:∀ k,w.heap.size≤k→F k) (a:Option Addr) (n c i j:Nat) (l:dS) (h:ItsAt F w a n c l) (hij:i≤j) (hj:j≤n) (hn:n≤1000000) :
  Calls Tryz.prog 81 #[.slice a n c,.int .i64 (i:Int),.int .i64 (j:Int)] w (Ret λ v w'=>(∃ a' c',v=.slice a' (n-(j-i)) c'∧ItsAt F w' a' (n-(j-i)) c' (cL l i j))∧Grow w w'):=by
 obtain ⟨cs,hs,hc⟩:=h.ex
 refine Calls.mono (cut_t F a n c i j cs w hs hc.one hij hj hn) ?_
 rintro _ w' ⟨v,rfl,hown,hg⟩
 rw [Nat.mul_comm i,Nat.mul_comm j] at hown
 exact ⟨v,rfl,its_of_own hown hF (ItCells.go (Carry.grow hg) ((hc.take i).1.append (hc.take j).2)),hg⟩
theorem insK_c (hF:∀ k,w.heap.size≤k→F k) (a b:Option Addr) (n c m d i:Nat) (l xs:List Bs) (h:KysAt F w a n c l) (hx:KysAt F w b m d xs) (hi:i≤n) (hn:n+m≤1000000) :
  Calls Tryz.prog 98 #[.slice a n c,.int .i64 (i:Int),.slice b m d] w (Ret λ v w'=>(∃ a' c',v=.slice a' (n+m) c'∧KysAt F w' a' (n+m) c' (dE l i xs))∧Grow w w'):=by
 obtain ⟨cs,hs,hc⟩:=h.ex
 obtain ⟨ds,hs2,hd⟩:=hx.ex
 refine Calls.mono (insert_k F F a b n c m d i cs ds w hs hs2 hc.one hd.one hi hn) ?_
 rintro _ w' ⟨v,rfl,hown,hg⟩
 have h1:=hc.take i
 rw [Nat.mul_one] at hown
 exact ⟨v,rfl,kys_of_own hown hF (KyCells.go (Carry.grow hg) ((h1.1.append hd).append h1.2)),hg⟩
theorem cutK_c (hF:∀ k,w.heap.size≤k→F k) (a:Option Addr) (n c i j:Nat) (l:List Bs) (h:KysAt F w a n c l) (hij:i≤j) (hj:j≤n) (hn:n≤1000000) :
  Calls Tryz.prog 194 #[.slice a n c,.int .i64 (i:Int),.int .i64 (j:Int)] w (Ret λ v w'=>(∃ a' c',v=.slice a' (n-(j-i)) c'∧KysAt F w' a' (n-(j-i)) c' (cL l i j))∧Grow w w'):=by
 obtain ⟨cs,hs,hc⟩:=h.ex
 refine Calls.mono (cut_k F a n c i j cs w hs hc.one hij hj hn) ?_
 rintro _ w' ⟨v,rfl,hown,hg⟩
 rw [Nat.mul_one,Nat.mul_one] at hown
 exact ⟨v,rfl,kys_of_own hown hF (KyCells.go (Carry.grow hg) ((hc.take i).1.append (hc.take j).2)),hg⟩
theorem ints_insL (l xs:List Nat) (i:Nat):(cB l).take i++cB xs++(cB l).drop i=cB (dE l i xs):=by simp [cB,dE,List.map_take,List.map_drop]
theorem ints_cutL (l:List Nat) (i j:Nat):(cB l).take i++(cB l).drop j=cB (cL l i j):=by simp [cB,cL,List.map_take,List.map_drop]
theorem insN_c (hF:∀ k,w.heap.size≤k→F k) (a b:Option Addr) (n c m d i:Nat) (l xs:List Nat) (h:Sl F w 1 a n c (cB l)) (hx:Sl F w 1 b m d (cB xs)) (hi:i≤n) (hn:n+m≤1000000) :
  Calls Tryz.prog 96 #[.slice a n c,.int .i64 (i:Int),.slice b m d] w (Ret λ v w'=>(∃ a' c',v=.slice a' (n+m) c'∧Sl F w' 1 a' (n+m) c' (cB (dE l i xs)))∧Grow w w'):=by
 refine Calls.mono (insert_i F F a b n c m d i _ _ w h hx (ints_one l) (ints_one xs) hi hn) ?_
 rintro _ w' ⟨v,rfl,hown,hg⟩
 rw [Nat.mul_one,ints_insL] at hown
 obtain ⟨a',c',rfl,hs⟩:=cE hown
 exact ⟨_,rfl,⟨a',c',rfl,hs.mono (λ k hk=>hF k hk.1)⟩,hg⟩
theorem cutN_c (hF:∀ k,w.heap.size≤k→F k) (a:Option Addr) (n c i j:Nat) (l:List Nat) (h:Sl F w 1 a n c (cB l)) (hij:i≤j) (hj:j≤n) (hn:n≤1000000) :
  Calls Tryz.prog 97 #[.slice a n c,.int .i64 (i:Int),.int .i64 (j:Int)] w (Ret λ v w'=>(∃ a' c',v=.slice a' (n-(j-i)) c'∧Sl F w' 1 a' (n-(j-i)) c' (cB (cL l i j)))∧Grow w w'):=by
 refine Calls.mono (cut_i F a n c i j _ w h (ints_one l) hij hj hn) ?_
 rintro _ w' ⟨v,rfl,hown,hg⟩
 rw [Nat.mul_one,Nat.mul_one,ints_cutL] at hown
 obtain ⟨a',c',rfl,hs⟩:=cE hown
 exact ⟨_,rfl,⟨a',c',rfl,hs.mono (λ k hk=>hF k hk.1)⟩,hg⟩
end
end Go.Proofs.YtfpadnmdafiddaaGreatDoor
