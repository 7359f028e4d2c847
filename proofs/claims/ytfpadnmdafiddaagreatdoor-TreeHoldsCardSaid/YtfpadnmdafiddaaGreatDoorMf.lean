import Derived.Test.YtfpadnmdafiddaaGreatDoorMd
import Derived.Test.YtfpadnmdafiddaaGreatDoorMe
set_option linter.all false
set_option maxHeartbeats 16000000
set_option maxRecDepth 100000
namespace Go.V
open Go Go.RowKit
section
variable [Rn]
variable {P:Program} {n:Nat} {e:dQ} {w:World} {Q:dS} {ops:Array Oper} {rest:List Oper} {d:Nat} {ty:TypeId} {pos:String} {aft:Array Edge}
theorem StrTy.und' {t:TypeId} (h:StrTy P t):P.underlying t=some .string:=by
 have h:=h.h
 unfold strB at h
 split at h
 ·assumption
 ·cases h
theorem TL.indexStr {t1:TypeId} {x i:Operand} {s:ByteArray} {kd:IntKind} {a v:Nat} [ht:StrTy P t1] (hx:val e x=some (.string s)) (hi:val e i=some (.int kd (a:Int))) (hs:(s.data.toList[a]?).map (·.toNat)=some v) (hd:Nat.blt d n=true)
  (k:TL P n ops rest ((d,.int .u8 (v:Int))::e) w Q):TL P n ops (⟨some d,.index t1 x i,ty,pos,aft,none⟩::rest) e w Q :=
 TL.run (λ r hr=>by
  have h1:∃ b,s.data.toList[a]? = some b∧b.toNat=v:=by
   cases h:s.data.toList[a]? with
   | none=>rw [h] at hs;cases hs
   | some b=>rw [h] at hs;exact ⟨b,rfl,by simpa using hs⟩
  obtain ⟨b,h2,h3⟩:=h1
  have hlt:a<s.size:=by
   have:=(List.getElem?_eq_some_iff.1 h2).1
   rw [Array.length_toList] at this
   exact this
  have h4:s[a]? = some b:=by
   rw [getElem?_pos s a hlt]
   have h5:=(List.getElem?_eq_some_iff.1 h2).2
   rw [Array.getElem_toList] at h5
   exact congrArg some h5
  subst h3
  simp [execOp,hr.eval hx,hr.eval hi,Instr.index,asIntOf,underlying,StrTy.und' ht,h4]) hd k
theorem or_one (n:Nat):n|||1=n / 2*2+1:=by
 have h:=Nat.two_pow_add_eq_or_of_lt (i:=1) (b:=1) (by decide) (n / 2)
 rw [Nat.pow_one,Nat.mul_comm] at h
 rcases Nat.mod_two_eq_zero_or_one n with h0|h0
 ·rw [h,show n / 2*2=n by omega]
 ·have e:n=n / 2*2|||1:=by rw [← h];omega
  rw [h]
  conv=>lhs;rw [e]
  rw [Nat.or_assoc,Nat.or_self]
theorem TL.or1 {x y:Operand} {a:Nat} {t1 t2:TypeId} (hx:val e x=some (.int .u64 (a:Int))) (hy:val e y=some (.int .u64 1)) (ha:a<18446744073709551616) (hd:Nat.blt d n=true)
  (k:TL P n ops rest ((d,.int .u64 ((a / 2*2+1:Nat):Int))::e) w Q):TL P n ops (⟨some d,.binOp .or t1 x y t2,ty,pos,aft,none⟩::rest) e w Q :=
 TL.run (λ r hr=>by
  have e1:((BitVec.ofInt IntKind.u64.bits (a:Int))|||(BitVec.ofInt IntKind.u64.bits ((1:Nat):Int))).toNat=a / 2*2+1:=by
   rw [BitVec.toNat_or,bits_nat (M:=18446744073709551616) rfl,bits_nat (M:=18446744073709551616) rfl,Nat.mod_eq_of_lt ha]
   exact or_one a
  have e2:=fB (kd:=.u64) (M:=18446744073709551616) rfl (show a / 2*2+1<18446744073709551616 by omega)
  rw [← e1] at e2
  have hb:binOp .or t1 (.int .u64 (a:Int)) (.int .u64 ((1:Nat):Int))=Pure.pure (.int .u64 ((a / 2*2+1:Nat):Int)):=by
   simp only [binOp,Op.intBits,ne_eq,not_true_eq_false,if_false]
   rw [e2,e1]
  have hy':r.eval y=.int .u64 ((1:Nat):Int):=hr.eval hy
  simp only [execOp,cB,hr.eval hx,hy',hb]
  rfl) hd k
end
end Go.V
namespace Go.Proofs.YtfpadnmdafiddaaGreatDoor
open Go Go.RowKit Go.V
def bl (n:Nat):Nat:=if n=0 then 0 else Nat.log2 n+1
theorem bl_le {a k:Nat} (h:a<2^k):bl a≤k:=by
 unfold bl
 split
 ·omega
 ·rename_i h0
  have:=(Nat.log2_lt h0).2 h
  omega
theorem bl_gt {a k:Nat} (h:2^k≤a):k<bl a:=by
 have h0:a≠0:=by have:=Nat.two_pow_pos k;omega
 unfold bl
 rw [if_neg h0]
 rcases Nat.lt_or_ge (Nat.log2 a) k with h1|h1
 ·exact absurd ((Nat.log2_lt h0).1 h1) (by omega)
 ·omega
theorem bl_shift {a s:Nat} (h:2^s≤a):bl a=bl (a / 2^s)+s:=by
 have h0:a≠0:=by have:=Nat.two_pow_pos s;omega
 have h1:a / 2^s≠0:=by
  have:=(Nat.le_div_iff_mul_le (Nat.two_pow_pos s)).2 (show 1*2^s≤a by omega)
  omega
 unfold bl
 rw [if_neg h0,if_neg h1]
 have hl:Nat.log2 a=Nat.log2 (a / 2^s)+s:=by
  refine (Nat.log2_eq_iff h0).2 ?_
  obtain ⟨u,v⟩:=(Nat.log2_eq_iff h1).1 rfl
  rw [Nat.le_div_iff_mul_le (Nat.two_pow_pos s)] at u
  rw [Nat.div_lt_iff_lt_mul (Nat.two_pow_pos s)] at v
  rw [Nat.pow_add,show Nat.log2 (a / 2^s)+s+1=Nat.log2 (a / 2^s)+1+s by omega,Nat.pow_add _ _ s]
  exact ⟨u,v⟩
 omega
theorem len8_c (a:Nat) (ha:a<256) (w:World):Calls Tryz.prog 275 #[.int .u8 (a:Int)] w (Ret λ v w'=>v=.int .i64 (bl a:Int)∧w=w'):=by
 refine V.calls (args:=[_]) Tryz.func275 rfl Tryz.ntmps275 rfl rfl ?_
 repeat (first|(refine aB ?_;refine TL.pure rfl rfl ?_)|(refine aD ?_;refine TL.pure rfl rfl ?_)|refine TL.nil ?_|refine aA ?_|refine aJ ?_|refine aC ?_)
 have hb:bl a≤8:=bl_le ha
 refine TL.indexStr (v:=bl a) rfl rfl ?_ rfl ?_
 ·clear w
  obtain ⟨b,rfl⟩:∃ b:Fin 256,b.1=a:=⟨⟨a,ha⟩,rfl⟩
  clear ha hb
  revert b
  decide +kernel
 repeat (first|(refine aD ?_;refine TL.pure rfl rfl ?_)|refine TL.nil ?_|refine aA ?_|(refine cR ?_;refine lQ rfl (by omega) rfl ?_)|refine bE ?_)
 exact cI rfl ⟨_,rfl,rfl,rfl⟩
theorem lz8_c (a:Nat) (ha:a<256) (w:World):Calls Tryz.prog 273 #[.int .u8 (a:Int)] w (Ret λ v w'=>v=.int .i64 ((8-bl a:Nat):Int)∧w=w'):=by
 refine V.calls (args:=[_]) Tryz.func273 rfl Tryz.ntmps273 rfl rfl ?_
 have hb:bl a≤8:=bl_le ha
 repeat (first|(refine aB ?_;refine TL.pure rfl rfl ?_)|(refine aD ?_;refine TL.pure rfl rfl ?_)|(refine cN ?_;refine dN rfl rfl (by omega) (by omega) rfl ?_)|refine TL.nil ?_|refine aA ?_|refine aJ ?_|refine aC ?_|refine bE ?_|(refine aL 275 ?_;refine aI rfl (len8_c a ha _) rfl ?_;rintro _ _ ⟨rfl,rfl⟩))
 exact cI rfl ⟨_,rfl,rfl,rfl⟩
theorem len64_c (a:Nat) (ha:a<18446744073709551616) (w:World):Calls Tryz.prog 244 #[.int .u64 (a:Int)] w (Ret λ v w'=>v=.int .i64 (bl a:Int)∧w=w'):=by
 refine V.calls (args:=[_]) Tryz.func244 rfl Tryz.ntmps244 rfl rfl ?_
 refine fQ 2 (λ e v=>∃ b s:Nat,Sub [(2,.int .i64 (s:Int)),(0,.int .u64 (b:Int))] e∧w=v∧b<4294967296∧bl a=s+bl b∧s≤32) ?_ ?_
 rotate_left
 ·by_cases h:a<4294967296
  ·repeat (first|(refine aB ?_;refine TL.pure rfl rfl ?_)|(refine aD ?_;refine TL.pure rfl rfl ?_)|refine TL.nil ?_|refine aA ?_|refine aJ ?_|refine aC ?_|(refine aH ?_;refine aQ rfl yD rfl ?_)|refine aE rfl ?_|refine aW ?_|refine bB ?_|refine cQ ?_|refine bY ?_)
   exact ⟨a,0,⟨rfl,rfl,trivial⟩,rfl,h,by omega,by omega⟩
  ·have hs:=bl_shift (a:=a) (s:=32) (by omega)
   repeat (first|(refine aB ?_;refine TL.pure rfl rfl ?_)|(refine aD ?_;refine TL.pure rfl rfl ?_)|refine TL.nil ?_|refine aA ?_|refine aJ ?_|refine aC ?_|(refine fZ ?_;refine jL rfl rfl (by (simp only [IntKind.bits];omega)) rfl ?_)|(refine aH ?_;refine aZ rfl yD rfl ?_)|refine aM rfl ?_|refine bB ?_|refine cQ ?_|refine bY ?_)
   exact ⟨a / 4294967296,32,⟨rfl,rfl,trivial⟩,rfl,by omega,by rw [hs];simp only [Nat.reducePow];omega,by omega⟩
 rintro e v ⟨b,s,hsub,rfl,hb,hbl,hs⟩
 refine dD (e':=[(2,_),(0,_)]) ?_ hsub
 clear hsub
 refine fQ 1 (λ e v=>∃ b s:Nat,Sub [(2,.int .i64 (s:Int)),(0,.int .u64 (b:Int))] e∧w=v∧b<65536∧bl a=s+bl b∧s≤48) ?_ ?_
 rotate_left
 ·by_cases h:b<65536
  ·repeat (first|(refine aB ?_;refine TL.pure rfl rfl ?_)|refine TL.nil ?_|refine aA ?_|refine aJ ?_|refine aC ?_|(refine aH ?_;refine aQ rfl yD rfl ?_)|refine aE rfl ?_|refine aW ?_|refine bB ?_|refine cQ ?_|refine bY ?_)
   exact ⟨b,s,⟨rfl,rfl,trivial⟩,rfl,h,by omega,by omega⟩
  ·have hs2:=bl_shift (a:=b) (s:=16) (by omega)
   repeat (first|(refine aB ?_;refine TL.pure rfl rfl ?_)|(refine aD ?_;refine TL.pure rfl rfl ?_)|(refine bL ?_;refine bT rfl rfl (by omega) rfl ?_)|refine TL.nil ?_|refine aA ?_|refine aJ ?_|refine aC ?_|(refine fZ ?_;refine jL rfl rfl (by (simp only [IntKind.bits];omega)) rfl ?_)|(refine aH ?_;refine aZ rfl yD rfl ?_)|refine aM rfl ?_|refine bB ?_|refine cQ ?_|refine bY ?_)
   exact ⟨b / 65536,s+16,⟨rfl,rfl,trivial⟩,rfl,by omega,by rw [hbl,hs2];simp only [Nat.reducePow];omega,by omega⟩
 clear hb hbl hs
 rintro e v ⟨b,s,hsub,rfl,hb,hbl,hs⟩
 refine dD (e':=[(2,_),(0,_)]) ?_ hsub
 clear hsub
 refine fQ 1 (λ e v=>∃ b s:Nat,Sub [(2,.int .i64 (s:Int)),(0,.int .u64 (b:Int))] e∧w=v∧b<256∧bl a=s+bl b∧s≤56) ?_ ?_
 rotate_left
 ·by_cases h:b<256
  ·repeat (first|(refine aB ?_;refine TL.pure rfl rfl ?_)|refine TL.nil ?_|refine aA ?_|refine aJ ?_|refine aC ?_|(refine aH ?_;refine aQ rfl yD rfl ?_)|refine aE rfl ?_|refine aW ?_|refine bB ?_|refine cQ ?_|refine bY ?_)
   exact ⟨b,s,⟨rfl,rfl,trivial⟩,rfl,h,by omega,by omega⟩
  ·have hs2:=bl_shift (a:=b) (s:=8) (by omega)
   repeat (first|(refine aB ?_;refine TL.pure rfl rfl ?_)|(refine aD ?_;refine TL.pure rfl rfl ?_)|(refine bL ?_;refine bT rfl rfl (by omega) rfl ?_)|refine TL.nil ?_|refine aA ?_|refine aJ ?_|refine aC ?_|(refine fZ ?_;refine jL rfl rfl (by (simp only [IntKind.bits];omega)) rfl ?_)|(refine aH ?_;refine aZ rfl yD rfl ?_)|refine aM rfl ?_|refine bB ?_|refine cQ ?_|refine bY ?_)
   exact ⟨b / 256,s+8,⟨rfl,rfl,trivial⟩,rfl,by omega,by rw [hbl,hs2];simp only [Nat.reducePow];omega,by omega⟩
 clear hb hbl hs
 rintro e v ⟨b,s,hsub,rfl,hb,hbl,hs⟩
 refine dD (e':=[(2,_),(0,_)]) ?_ hsub
 clear hsub
 have hb8:bl b≤8:=bl_le hb
 repeat (first|(refine aB ?_;refine TL.pure rfl rfl ?_)|refine aJ ?_|refine aC ?_|(refine cR ?_;refine eQ rfl rfl (by omega) rfl ?_))
 refine TL.indexStr (v:=bl b) rfl rfl ?_ rfl ?_
 ·clear hbl hb8
  obtain ⟨c,rfl⟩:∃ c:Fin 256,c.1=b:=⟨⟨b,hb⟩,rfl⟩
  clear hb
  revert c
  decide +kernel
 repeat (first|(refine aD ?_;refine TL.pure rfl rfl ?_)|(refine bL ?_;refine bT rfl rfl (by omega) rfl ?_)|refine TL.nil ?_|refine aA ?_|(refine cR ?_;refine lQ rfl (by omega) rfl ?_)|refine bE ?_)
 exact cI rfl ⟨_,rfl,by rw [hbl],rfl⟩
theorem bl_or1 (n:Nat):bl (n / 2*2+1)=max (bl n) 1:=by
 rcases Nat.lt_or_ge n 2 with h|h
 ·obtain rfl|rfl:n=0∨n=1:=by omega
  ·decide
  ·decide
 ·have h1:=bl_shift (a:=n) (s:=1) (by omega)
  have h2:=bl_shift (a:=n / 2*2+1) (s:=1) (by omega)
  have h3:=bl_gt (a:=n) (k:=1) (by omega)
  simp only [Nat.pow_one] at h1 h2
  rw [h2,show (n / 2*2+1) / 2=n / 2 by omega]
  omega
def sz (n:Nat):Nat:=min ((max (bl n) 1+6) / 7) 9
theorem sz_le (n:Nat):1≤sz n∧sz n≤9:=by unfold sz;omega
theorem size_c (n:Nat) (hn:n<18446744073709551616) (w:World):Calls Tryz.prog 233 #[.int .u64 (n:Int)] w (Ret λ v w'=>v=.int .i64 (sz n:Int)∧w=w'):=by
 refine V.calls (args:=[_]) Tryz.func233 rfl Tryz.ntmps233 rfl rfl ?_
 have hb:bl (n / 2*2+1)≤64:=bl_le (by show _<18446744073709551616;omega)
 have hs:sz n=min ((bl (n / 2*2+1)+6) / 7) 9:=by unfold sz;rw [bl_or1]
 repeat (first|refine TL.or1 rfl rfl hn rfl ?_|(refine aB ?_;refine TL.pure rfl rfl ?_)|(refine aD ?_;refine TL.pure rfl rfl ?_)|(refine bL ?_;refine bT rfl rfl (by omega) rfl ?_)|refine TL.nil ?_|refine aA ?_|refine aJ ?_|refine aC ?_|(refine kB ?_;refine mF rfl rfl (by omega) (by omega) rfl ?_)|refine TL.min2 rfl rfl rfl ?_|refine bE ?_|(refine aL 244 ?_;refine aI rfl (len64_c _ (by omega) _) rfl ?_;rintro _ _ ⟨rfl,rfl⟩))
 exact cI rfl ⟨_,rfl,congrArg (Value.int .i64) (by rw [hs];split<;>omega),rfl⟩
end Go.Proofs.YtfpadnmdafiddaaGreatDoor
namespace Go.V
open Go Go.RowKit
section
variable [Rn]
variable {P:Program} {n:Nat} {e:dQ} {w:World} {Q:dS} {ops:Array Oper} {rest:List Oper} {d:Nat} {ty:TypeId} {pos:String} {aft:Array Edge}
theorem TL.make0 {t elem size bytes c:Nat} {x y:Operand} {kl kc:IntKind} [ht:SliceTy P t elem size bytes] (hx:val e x=some (.int kl 0)) (hy:val e y=some (.int kc (c:Int)))
  (hbytes:bytes*c≤281474976710656) (h63:c≤maxLen) (hd:Nat.blt d n=true)
  (k:∀ b w',w.heap.size=b→w'.ownsRow w.heap.size elem size (.slice (some ⟨b,0,none⟩) 0 c) 0 []→Grow w w'→TL P n ops rest ((d,.slice (some ⟨b,0,none⟩) 0 c)::e) w' Q) :
  TL P n ops (⟨some d,.makeSlice t x y,ty,pos,aft,none⟩::rest) e w Q:=by
 obtain ⟨i,z,hi,hsz,hby,hz,hzs,hne⟩:=ht.info
 subst hby
 obtain ⟨w',hrun,h2,h3⟩:=run_make_own (P:=P) (w:=w) w.heap.size t elem i z size ht.und hi hz hsz kl kc c hbytes h63 (Nat.le_refl _)
 refine TL.run (v:=.slice (some ⟨w.heap.size,0,none⟩) 0 c) (w':=w') (λ r hr=>?_) hd (k _ _ rfl h2 (Grow.mk ⟨h3.os,h3.tape,h3.output,h3.size,λ k hk=>h3.block k hk (by simp)⟩))
 simp [execOp,hr.eval hx,hr.eval hy,hrun]
theorem TL.orB {x y:Operand} {a b:Nat} {zx zy:Int} {t1 t2:TypeId} (hx:val e x=some (.int .u8 zx)) [ix:Lit zx a] (hy:val e y=some (.int .u8 zy)) [iy:Lit zy b] (ha:a<256) (hb:b<256) (hd:Nat.blt d n=true)
  (k:TL P n ops rest ((d,.int .u8 ((a|||b:Nat):Int))::e) w Q):TL P n ops (⟨some d,.binOp .or t1 x y t2,ty,pos,aft,none⟩::rest) e w Q :=
 TL.run (λ r hr=>by
  rw [ix.h] at hx;rw [iy.h] at hy
  have e1:((BitVec.ofInt IntKind.u8.bits (a:Int))|||(BitVec.ofInt IntKind.u8.bits (b:Int))).toNat=a|||b:=by
   rw [BitVec.toNat_or,bits_nat (M:=256) rfl,bits_nat (M:=256) rfl,Nat.mod_eq_of_lt ha,Nat.mod_eq_of_lt hb]
  have e2:=fB (kd:=.u8) (M:=256) rfl (show a|||b<256 from Nat.or_lt_two_pow (n:=8) ha hb)
  rw [← e1] at e2
  have hb:binOp .or t1 (.int .u8 (a:Int)) (.int .u8 (b:Int))=Pure.pure (.int .u8 ((a|||b:Nat):Int)):=by
   simp only [binOp,Op.intBits,ne_eq,not_true_eq_false,if_false]
   rw [e2,e1]
  simp only [execOp,cB,hr.eval hx,hr.eval hy,hb]
  rfl) hd k
theorem TL.andB {x y:Operand} {a b:Nat} {zx zy:Int} {t1 t2:TypeId} (hx:val e x=some (.int .u8 zx)) [ix:Lit zx a] (hy:val e y=some (.int .u8 zy)) [iy:Lit zy b] (ha:a<256) (hb:b<256) (hd:Nat.blt d n=true)
  (k:TL P n ops rest ((d,.int .u8 ((a&&&b:Nat):Int))::e) w Q):TL P n ops (⟨some d,.binOp .and t1 x y t2,ty,pos,aft,none⟩::rest) e w Q :=
 TL.run (λ r hr=>by
  rw [ix.h] at hx;rw [iy.h] at hy
  have e1:((BitVec.ofInt IntKind.u8.bits (a:Int))&&&(BitVec.ofInt IntKind.u8.bits (b:Int))).toNat=a&&&b:=by
   rw [BitVec.toNat_and,bits_nat (M:=256) rfl,bits_nat (M:=256) rfl,Nat.mod_eq_of_lt ha,Nat.mod_eq_of_lt hb]
  have e2:=fB (kd:=.u8) (M:=256) rfl (show a&&&b<256 from Nat.lt_of_le_of_lt Nat.and_le_left ha)
  rw [← e1] at e2
  have hb:binOp .and t1 (.int .u8 (a:Int)) (.int .u8 (b:Int))=Pure.pure (.int .u8 ((a&&&b:Nat):Int)):=by
   simp only [binOp,Op.intBits,ne_eq,not_true_eq_false,if_false]
   rw [e2,e1]
  simp only [execOp,cB,hr.eval hx,hr.eval hy,hb]
  rfl) hd k
theorem TL.shlT {zx zy:Int} {x y:Operand} {ky:IntKind} {a s:Nat} {t1 t2:TypeId} (hx:val e x=some (.int .u8 zx)) [ix:Lit zx a] (hy:val e y=some (.int ky zy)) [iy:Lit zy s] (hs:s≤8) (hd:Nat.blt d n=true)
  (k:TL P n ops rest ((d,.int .u8 ((a*2^s%256:Nat):Int))::e) w Q):TL P n ops (⟨some d,.binOp .shl t1 x y t2,ty,pos,aft,none⟩::rest) e w Q :=
 TL.run (λ r hr=>by
  rw [ix.h] at hx;rw [iy.h] at hy
  have h3:min s IntKind.u8.bits=s:=Nat.min_eq_left hs
  have h4:¬ ((s:Int)<0):=by omega
  have e1:(a:Int)*2^s=((a*2^s:Nat):Int):=by simp
  have e2:IntKind.u8.wrap ((a*2^s:Nat):Int)=((a*2^s%256:Nat):Int):=wrap_u (M:=256) rfl (a*2^s)
  rw [← e1] at e2
  simp only [execOp,binOp,cB,Op.shift,hr.eval hx,hr.eval hy]
  simp [h3,h4,e2]) hd k
end
end Go.V
namespace Go.Proofs.YtfpadnmdafiddaaGreatDoor
open Go Go.RowKit Go.V
def cX (l:List Nat):List Value:=l.map λ (b:Nat)=>.int .u8 (b:Int)
theorem eD (l:List Nat):∀ u∈cX l,u.oneCell'=true:=by
 intro u hu;simp [cX] at hu;obtain ⟨x,_,rfl⟩:=hu;rfl
theorem gW (l r:List Nat):cX (l++r)=cX l++cX r:=by simp [cX]
theorem dA (l:List Nat):(cX l).length=l.length:=by simp [cX]
theorem grown_c (F:Nat→Prop) (a:Option Addr) (n c m:Nat) (l:List Value) (w:World) (hs:Sl F w 1 a n c l) (h1:∀ u∈l,u.oneCell'=true) (hn:n+m≤1099511627776) :
  Calls Tryz.prog 215 #[.slice a n c,.int .i64 (m:Int)] w (Ret λ v w'=>w'.ownsRow w.heap.size 5 1 v n l∧Grow w w'):=by
 refine V.calls (args:=[_,_]) Tryz.func215 rfl Tryz.ntmps215 rfl rfl ?_
 repeat (first|(refine aB ?_;refine TL.pure rfl rfl ?_)|(refine aD ?_;refine TL.pure rfl rfl ?_)|(refine bL ?_;refine TL.addI rfl rfl (by omega) (by omega) rfl ?_)|refine TL.nil ?_|refine aA ?_|refine aJ ?_|refine aC ?_|refine aO rfl rfl ?_)
 refine TL.make0 (c:=n+m) rfl rfl (by omega) (by unfold maxLen;omega) rfl ?_
 intro b w1 hb hown hg
 repeat ((refine aB ?_;refine TL.pure rfl rfl ?_))
 refine TL.append rfl rfl hown (hs.grow hg) h1 (by unfold maxLen;omega) (by omega) hg.size rfl ?_
 intro v' w3 hown3 hgb _
 repeat (first|(refine aD ?_;refine TL.pure rfl rfl ?_)|refine TL.nil ?_|refine aA ?_|refine bE ?_)
 refine cI rfl ⟨_,rfl,?_,Grow.mk (cH hgb hg.size (λ k hk=>(cJ hown hk).1) hg.1)⟩
 simpa using hown3
end Go.Proofs.YtfpadnmdafiddaaGreatDoor
namespace Go.Proofs.YtfpadnmdafiddaaGreatDoor
open Go Go.RowKit Go.V
def big (n:Nat):Nat→List Nat
 | 0=>[]
 | s+1=>n / 2^(8*s)%256::big n s
theorem length_big (n:Nat):∀ s,(big n s).length=s
 | 0=>rfl
 | s+1=>by simp [big,length_big n s]
def head1 (n s:Nat):Nat:=(255*2^(9-s)%256)|||(n / 2^(8*(s-1))%256)
def encL (n:Nat):List Nat:=head1 n (sz n)::big n (sz n-1)
theorem length_encL (n:Nat):(encL n).length=sz n:=by
 have:=sz_le n
 simp [encL,length_big]
 omega
theorem number_c (B:Nat) (v:Value) (k0 n:Nat) (xs:List Value) (w:World) (hown:w.ownsRow B 5 1 v k0 xs) (hB:B≤w.heap.size) (hn:n<18446744073709551616) (hk:k0≤1099511627776) :
  Calls Tryz.prog 232 #[v,.int .u64 (n:Int)] w (Ret λ v' w'=>w'.ownsRow B 5 1 v' (k0+sz n) (xs++cX (encL n))∧Below B w w'):=by
 refine V.calls (args:=[_,_]) Tryz.func232 rfl Tryz.ntmps232 rfl rfl ?_
 have hs:=sz_le n
 generalize hsz:sz n=s at hs
 refine fQ 2 (λ e v'=>Sub [(5,.int .i64 (s:Int)),(1,.int .u64 (n:Int)),(0,v)] e∧v'=w) ?_ ?_
 rotate_left
 ·repeat (first|(refine aB ?_;refine TL.pure rfl rfl ?_)|(refine aD ?_;refine TL.pure rfl rfl ?_)|refine TL.nil ?_|refine aC ?_|refine bB ?_|refine cQ ?_|refine bY ?_|(refine aL 233 ?_;refine aI rfl (size_c n hn _) rfl ?_;rintro _ _ ⟨rfl,rfl⟩);rw [hsz])
  exact ⟨⟨rfl,rfl,rfl,trivial⟩,rfl⟩
 rintro e w0 ⟨hsub,rfl⟩
 refine dD (e':=[(5,_),(1,_),(0,_)]) ?_ hsub
 clear hsub
 refine fQ 1 (λ e v'=>∃ u,Sub [(5,.int .i64 (s:Int)),(1,.int .u64 (n:Int)),(0,u)] e∧v'.ownsRow B 5 1 u (k0+1) (xs++cX [head1 n s])∧Below B w0 v') ?_ ?_
 rotate_left
 ·have hh:head1 n s<256:=Nat.or_lt_two_pow (n:=8) (Nat.mod_lt _ (by decide)) (Nat.mod_lt _ (by decide))
  refine cQ ?_
  apply T.any 12 [is _,is _,is _,is _,is _,is _,is _,is _,is _,is _,is _,slF (λ _=>True) 1 1 1 (cX [head1 n s])]
  ·rfl
  ·repeat' (first|exact bW|refine bU ?_ ?_)
   iterate 2
    ·(refine aR rfl rfl rfl ?_);( intro wq _ _ hgq;(repeat (refine aG rfl rfl ?_;intro vq hvq;try (obtain rfl:=hvq)));(refine aN ?_))
     repeat (first|(refine aB ?_;refine TL.pure rfl rfl ?_)|refine TL.nil ?_)
     exact aT rfl yG rfl
   ·(refine aR rfl rfl rfl ?_);( intro wq _ _ hgq;(repeat (refine aG rfl rfl ?_;intro vq hvq;try (obtain rfl:=hvq)));(refine aN ?_))
    repeat (first|(refine dN (a:=9) rfl rfl (by omega) (by omega) rfl ?_)|refine TL.nil ?_)
    exact aT rfl yG rfl
   ·(refine aR rfl rfl rfl ?_);( intro wq _ _ hgq;(repeat (refine aG rfl rfl ?_;intro vq hvq;try (obtain rfl:=hvq)));(refine aN ?_))
    repeat (first|(refine TL.isShl ?_;refine TL.shlT (a:=255) (s:=9-s) rfl rfl (by show 9-s≤8;omega) rfl ?_)|refine TL.nil ?_)
    exact aT rfl yG rfl
   iterate 2
    ·(refine aR rfl rfl rfl ?_);( intro wq _ _ hgq;(repeat (refine aG rfl rfl ?_;intro vq hvq;try (obtain rfl:=hvq)));(refine aN ?_))
     repeat (first|(refine aB ?_;refine TL.pure rfl rfl ?_)|refine TL.nil ?_)
     exact aT rfl yG rfl
   ·(refine aR rfl rfl rfl ?_);( intro wq _ _ hgq;(repeat (refine aG rfl rfl ?_;intro vq hvq;try (obtain rfl:=hvq)));(refine aN ?_))
    repeat (first|(refine dN rfl rfl (by omega) (by omega) rfl ?_)|refine TL.nil ?_)
    exact aT rfl yG rfl
   ·(refine aR rfl rfl rfl ?_);( intro wq _ _ hgq;(repeat (refine aG rfl rfl ?_;intro vq hvq;try (obtain rfl:=hvq)));(refine aN ?_))
    repeat (first|(refine hY (a:=8) rfl rfl (by omega) rfl ?_)|refine TL.nil ?_)
    exact aT rfl yG rfl
   ·(refine aR rfl rfl rfl ?_);( intro wq _ _ hgq;(repeat (refine aG rfl rfl ?_;intro vq hvq;try (obtain rfl:=hvq)));(refine aN ?_))
    repeat (first|(refine fZ ?_;refine jL rfl rfl (by show 8*(s-1)≤64;omega) rfl ?_)|refine TL.nil ?_)
    exact aT rfl yG rfl
   ·(refine aR rfl rfl rfl ?_);( intro wq _ _ hgq;(repeat (refine aG rfl rfl ?_;intro vq hvq;try (obtain rfl:=hvq)));(refine aN ?_))
    repeat (first|(refine cR ?_;refine mY rfl (M:=256) rfl rfl ?_)|refine TL.nil ?_)
    exact aT rfl yG rfl
   ·(refine aR rfl rfl rfl ?_);( intro wq _ _ hgq;(repeat (refine aG rfl rfl ?_;intro vq hvq;try (obtain rfl:=hvq)));(refine aN ?_))
    repeat (first|(refine TL.isOr ?_;refine TL.orB rfl rfl (Nat.mod_lt _ (by decide)) (Nat.mod_lt _ (by decide)) rfl ?_)|refine TL.nil ?_)
    exact aT rfl yG rfl
   ·(refine aR rfl rfl rfl ?_);( intro wq _ _ hgq;(repeat (refine aG rfl rfl ?_;intro vq hvq;try (obtain rfl:=hvq)));(refine aN ?_))
    refine TL.buildSlice rfl rfl rfl rfl rfl ?_
    intro b w3 hg3 hb3 hs3 hs4 hs5
    repeat (refine TL.nil ?_)
    exact aT rfl yG ⟨_,rfl,(bR hb3 hs5 (by decide)).mono (λ _ _=>trivial)⟩
  ·intro w2 lo2 hi2 hg2 hspan2 hapart2
   ((repeat (refine aG rfl rfl ?_;intro vq hvq;try (obtain rfl:=hvq)));(refine aN ?_))
   obtain ⟨a',rfl,hsl⟩:=hvq
   have h4:=hg2.size
   refine TL.append rfl rfl (cL hown hg2) hsl (eD _) (by unfold maxLen;omega) (by omega) (by omega) rfl ?_
   intro v' w3 hown3 hgb _
   repeat (first|(refine aD ?_;refine TL.pure rfl rfl ?_)|refine TL.nil ?_|refine bB ?_|refine bY ?_)
   exact ⟨_,⟨rfl,rfl,rfl,trivial⟩,hown3,cH hgb (by omega) (λ k hk=>(cJ (cL hown hg2) hk).1) (below_grow hg2 hB (Below.refl _ _))⟩
 clear hown
 rintro e w1 ⟨u,hsub,hown,hb1⟩
 refine dD (e':=[(5,_),(1,_),(0,_)]) ?_ hsub
 clear hsub
 repeat (first|(refine aB ?_;refine TL.pure rfl rfl ?_)|(refine aD ?_;refine TL.pure rfl rfl ?_)|(refine cN ?_;refine iT rfl rfl (by omega) (by omega) rfl ?_)|refine TL.nil ?_|refine aA ?_|refine aJ ?_|refine aC ?_|refine T.block ?_)
 refine cU (S:=Value×Nat) (λ q=>[(6,.int .i64 ((q.2:Int)-1)),(1,.int .u64 (n:Int)),(0,q.1)])
  (λ q w2=>∃ m ys,q.2<s∧w2.ownsRow B 5 1 q.1 m ys∧ys++cX (big n q.2)=xs++cX (head1 n s::big n (s-1))∧m+q.2=k0+s∧Below B w0 w2) (λ q=>q.2) (u,s-1)
  ⟨congrArg (λ z=>some (Value.int .i64 z)) (by show (s:Int)-2=((s-1:Nat):Int)-1;omega),rfl,rfl,trivial⟩ ⟨_,_,by show s-1<s;omega,hown,by simp [cX],by show k0+1+(s-1)=_;omega,hb1⟩ ?_
 clear hown hb1
 rintro ⟨u2,j⟩ w2 ⟨m,ys,hj,hown,hys,hm,hb⟩
 simp only at hj hown hys hm
 have henc:encL n=head1 n s::big n (s-1):=by unfold encL;rw [hsz]
 cases j with
 | zero =>
  repeat (first|(refine aB ?_;refine TL.pure rfl rfl ?_)|(refine aD ?_;refine TL.pure rfl rfl ?_)|refine TL.nil ?_|refine aA ?_|refine aJ ?_|refine aC ?_|(refine aH ?_;refine TL.pure rfl rfl ?_)|refine aE rfl ?_|refine bE ?_|refine cV ?_|refine bN ?_|refine bP ?_|refine bO ?_)
  refine cI rfl ⟨_,rfl,?_,hb⟩
  rw [henc,← hys,← hm]
  simpa [big,cX] using hown
 | succ j =>
  have ej:(((j+1:Nat):Int))-1=(j:Int):=by omega
  simp only [ej]
  repeat (first|(refine hE ?_;refine hY (a:=8) rfl rfl (by omega) rfl ?_)|(refine fZ ?_;refine jL rfl rfl (by show 8*j≤64;omega) rfl ?_)|(refine cR ?_;refine mY rfl (M:=256) rfl rfl ?_)|(refine aB ?_;refine TL.pure rfl rfl ?_)|refine TL.nil ?_|refine aA ?_|refine aJ ?_|refine aC ?_|refine T.block ?_|(refine aH ?_;refine TL.pure rfl rfl ?_)|refine aM rfl ?_|refine aW ?_)
  refine TL.buildSlice rfl rfl rfl rfl rfl ?_
  intro b w3 hg3 hb3 hs3 hs4 hs5
  have hsl:Sl (λ _=>True) w3 1 (some ⟨b,0,none⟩) 1 1 (cX [n / 2^(8*j)%256]):=(bR (sz:=1) (m:=1) hb3 hs5 (by decide)).mono (λ _ _=>trivial)
  have hB3:B≤w2.heap.size:=by have:=hb.size;omega
  have h4:=hg3.size
  refine TL.append rfl rfl (cL hown hg3) hsl (eD [n / 2^(8*j)%256]) (by unfold maxLen;omega) (by omega) (by omega) rfl ?_
  intro v' w4 hown4 hgb _
  repeat (first|(refine aB ?_;refine TL.pure rfl rfl ?_)|(refine aD ?_;refine TL.pure rfl rfl ?_)|(refine cN ?_;refine iT rfl rfl (by omega) (by omega) rfl ?_)|refine TL.nil ?_|refine aA ?_|refine aC ?_|refine aS ?_)
  refine bG (v',j) ⟨congrArg (λ z=>some (Value.int .i64 z)) (by omega),rfl,rfl,trivial⟩ ⟨_,_,by show j<s;omega,hown4,?_,by show m+1+j=_;omega,cH hgb (by omega) (λ k hk=>(cJ (cL hown hg3) hk).1) (below_grow hg3 hB3 hb)⟩ (Nat.lt_succ_self j)
  rw [← hys]
  simp [big,cX]
end Go.Proofs.YtfpadnmdafiddaaGreatDoor
