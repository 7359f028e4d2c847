import Derived.Test.YtfpadnmdafiddaaGreatDoorMa
import Derived.Stop.BytesEq
import Derived.Laws.Externs
set_option linter.all false
set_option maxHeartbeats 16000000
set_option maxRecDepth 100000
namespace Go.V
open Go Go.RowKit
def ulim:IntKind→Option Nat
 | .u8=>some 256
 | .u16=>some 65536
 | .u32=>some 4294967296
 | .u64=>some 18446744073709551616
 | _=>none
theorem wrap_u {kd:IntKind} {M:Nat} (h:ulim kd=some M) (z:Nat):kd.wrap (z:Int)=((z%M:Nat):Int):=by
 unfold ulim at h
 split at h<;>first|(cases h;done)|(cases h;simp [IntKind.wrap,IntKind.bits,IntKind.signed])
theorem fB {kd:IntKind} {M:Nat} (h:ulim kd=some M) {z:Nat} (hz:z<M):kd.wrap (z:Int)=(z:Int):=by
 rw [wrap_u h,Nat.mod_eq_of_lt hz]
theorem ulim_bits {kd:IntKind} {M:Nat} (h:ulim kd=some M):M=2^kd.bits:=by
 unfold ulim at h
 split at h<;>first|(cases h;done)|(cases h;simp [IntKind.bits])
def p2:Nat→Option Nat
 | 0=>some 1
 | 1=>some 2
 | 2=>some 4
 | 3=>some 8
 | 4=>some 16
 | 5=>some 32
 | 6=>some 64
 | 7=>some 128
 | 8=>some 256
 | 9=>some 512
 | 10=>some 1024
 | 11=>some 2048
 | 12=>some 4096
 | 13=>some 8192
 | 14=>some 16384
 | 15=>some 32768
 | 16=>some 65536
 | 17=>some 131072
 | 18=>some 262144
 | 19=>some 524288
 | 20=>some 1048576
 | 21=>some 2097152
 | 22=>some 4194304
 | 23=>some 8388608
 | 24=>some 16777216
 | 25=>some 33554432
 | 26=>some 67108864
 | 27=>some 134217728
 | 28=>some 268435456
 | 29=>some 536870912
 | 30=>some 1073741824
 | 31=>some 2147483648
 | 32=>some 4294967296
 | 33=>some 8589934592
 | 34=>some 17179869184
 | 35=>some 34359738368
 | 36=>some 68719476736
 | 37=>some 137438953472
 | 38=>some 274877906944
 | 39=>some 549755813888
 | 40=>some 1099511627776
 | 41=>some 2199023255552
 | 42=>some 4398046511104
 | 43=>some 8796093022208
 | 44=>some 17592186044416
 | 45=>some 35184372088832
 | 46=>some 70368744177664
 | 47=>some 140737488355328
 | 48=>some 281474976710656
 | 49=>some 562949953421312
 | 50=>some 1125899906842624
 | 51=>some 2251799813685248
 | 52=>some 4503599627370496
 | 53=>some 9007199254740992
 | 54=>some 18014398509481984
 | 55=>some 36028797018963968
 | 56=>some 72057594037927936
 | 57=>some 144115188075855872
 | 58=>some 288230376151711744
 | 59=>some 576460752303423488
 | 60=>some 1152921504606846976
 | 61=>some 2305843009213693952
 | 62=>some 4611686018427387904
 | 63=>some 9223372036854775808
 | _=>none
theorem p2_eq {k p:Nat} (h:p2 k=some p):p=2^k∧k<64:=by
 unfold p2 at h
 split at h<;>first|(cases h;done)|(cases h;decide)
def m2:Nat→Option Nat
 | 1=>some 2
 | 3=>some 4
 | 7=>some 8
 | 15=>some 16
 | 31=>some 32
 | 63=>some 64
 | 127=>some 128
 | 255=>some 256
 | 511=>some 512
 | 1023=>some 1024
 | 2047=>some 2048
 | 4095=>some 4096
 | 8191=>some 8192
 | 16383=>some 16384
 | 32767=>some 32768
 | 65535=>some 65536
 | 131071=>some 131072
 | 262143=>some 262144
 | 524287=>some 524288
 | 1048575=>some 1048576
 | 2097151=>some 2097152
 | 4194303=>some 4194304
 | 8388607=>some 8388608
 | 16777215=>some 16777216
 | 33554431=>some 33554432
 | 67108863=>some 67108864
 | 134217727=>some 134217728
 | 268435455=>some 268435456
 | 536870911=>some 536870912
 | 1073741823=>some 1073741824
 | 2147483647=>some 2147483648
 | 4294967295=>some 4294967296
 | 8589934591=>some 8589934592
 | 17179869183=>some 17179869184
 | 34359738367=>some 34359738368
 | 68719476735=>some 68719476736
 | 137438953471=>some 137438953472
 | 274877906943=>some 274877906944
 | 549755813887=>some 549755813888
 | 1099511627775=>some 1099511627776
 | 2199023255551=>some 2199023255552
 | 4398046511103=>some 4398046511104
 | 8796093022207=>some 8796093022208
 | 17592186044415=>some 17592186044416
 | 35184372088831=>some 35184372088832
 | 70368744177663=>some 70368744177664
 | 140737488355327=>some 140737488355328
 | 281474976710655=>some 281474976710656
 | 562949953421311=>some 562949953421312
 | 1125899906842623=>some 1125899906842624
 | 2251799813685247=>some 2251799813685248
 | 4503599627370495=>some 4503599627370496
 | 9007199254740991=>some 9007199254740992
 | 18014398509481983=>some 18014398509481984
 | 36028797018963967=>some 36028797018963968
 | 72057594037927935=>some 72057594037927936
 | 144115188075855871=>some 144115188075855872
 | 288230376151711743=>some 288230376151711744
 | 576460752303423487=>some 576460752303423488
 | 1152921504606846975=>some 1152921504606846976
 | 2305843009213693951=>some 2305843009213693952
 | 4611686018427387903=>some 4611686018427387904
 | 9223372036854775807=>some 9223372036854775808
 | 18446744073709551615=>some 18446744073709551616
 | _=>none
theorem m2_eq {c m:Nat} (h:m2 c=some m):m=c+1∧∃ k,m=2^k:=by
 unfold m2 at h
 split at h<;>first|(cases h;done)|(cases h;refine ⟨rfl,?_⟩)
 ·exact ⟨1,by decide⟩
 ·exact ⟨2,by decide⟩
 ·exact ⟨3,by decide⟩
 ·exact ⟨4,by decide⟩
 ·exact ⟨5,by decide⟩
 ·exact ⟨6,by decide⟩
 ·exact ⟨7,by decide⟩
 ·exact ⟨8,by decide⟩
 ·exact ⟨9,by decide⟩
 ·exact ⟨10,by decide⟩
 ·exact ⟨11,by decide⟩
 ·exact ⟨12,by decide⟩
 ·exact ⟨13,by decide⟩
 ·exact ⟨14,by decide⟩
 ·exact ⟨15,by decide⟩
 ·exact ⟨16,by decide⟩
 ·exact ⟨17,by decide⟩
 ·exact ⟨18,by decide⟩
 ·exact ⟨19,by decide⟩
 ·exact ⟨20,by decide⟩
 ·exact ⟨21,by decide⟩
 ·exact ⟨22,by decide⟩
 ·exact ⟨23,by decide⟩
 ·exact ⟨24,by decide⟩
 ·exact ⟨25,by decide⟩
 ·exact ⟨26,by decide⟩
 ·exact ⟨27,by decide⟩
 ·exact ⟨28,by decide⟩
 ·exact ⟨29,by decide⟩
 ·exact ⟨30,by decide⟩
 ·exact ⟨31,by decide⟩
 ·exact ⟨32,by decide⟩
 ·exact ⟨33,by decide⟩
 ·exact ⟨34,by decide⟩
 ·exact ⟨35,by decide⟩
 ·exact ⟨36,by decide⟩
 ·exact ⟨37,by decide⟩
 ·exact ⟨38,by decide⟩
 ·exact ⟨39,by decide⟩
 ·exact ⟨40,by decide⟩
 ·exact ⟨41,by decide⟩
 ·exact ⟨42,by decide⟩
 ·exact ⟨43,by decide⟩
 ·exact ⟨44,by decide⟩
 ·exact ⟨45,by decide⟩
 ·exact ⟨46,by decide⟩
 ·exact ⟨47,by decide⟩
 ·exact ⟨48,by decide⟩
 ·exact ⟨49,by decide⟩
 ·exact ⟨50,by decide⟩
 ·exact ⟨51,by decide⟩
 ·exact ⟨52,by decide⟩
 ·exact ⟨53,by decide⟩
 ·exact ⟨54,by decide⟩
 ·exact ⟨55,by decide⟩
 ·exact ⟨56,by decide⟩
 ·exact ⟨57,by decide⟩
 ·exact ⟨58,by decide⟩
 ·exact ⟨59,by decide⟩
 ·exact ⟨60,by decide⟩
 ·exact ⟨61,by decide⟩
 ·exact ⟨62,by decide⟩
 ·exact ⟨63,by decide⟩
 ·exact ⟨64,by decide⟩
class Lit (z:Int) (a:outParam Nat):Prop where
 h:z=(a:Int)
instance (m:Nat):Lit (m:Int) m:=⟨rfl⟩
instance (priority:=low) (m:Nat):Lit (no_index (@OfNat.ofNat Int m instOfNat)) (@OfNat.ofNat Nat m (instOfNatNat m)):=⟨rfl⟩
instance {x y:Int} {a b:Nat} [hx:Lit x a] [hy:Lit y b]:Lit (x+y) (a+b):=⟨by rw [hx.h,hy.h,Int.natCast_add]⟩
def intTyB (P:Program) (t:TypeId) (k:IntKind):Bool:=match P.underlying t with|some (.int k')=>k'==k|_=>false
class IntTy (P:Program) (t:TypeId) (k:outParam IntKind):Prop where
 h:intTyB P t k=true
theorem IntTy.und {P:Program} {t:TypeId} {k:IntKind} (h:IntTy P t k):P.underlying t=some (.int k):=by
 have h:=h.h
 unfold intTyB at h
 split at h
 ·rename_i k' hu;rw [hu];simp at h;rw [h]
 ·cases h
section rules
variable [Rn]
variable {P:Program} {n:Nat} {e:dQ} {w:World} {Q:dS} {ops:Array Oper} {rest:List Oper} {d:Nat} {ty:TypeId} {pos:String} {aft:Array Edge}
theorem TL.addU {zx zy:Int} {x y:Operand} {kd:IntKind} {M a b:Nat} {t1 t2:TypeId} (hx:val e x=some (.int kd zx)) [ix:Lit zx a] (hy:val e y=some (.int kd zy)) [iy:Lit zy b] (hM:ulim kd=some M) (h:a+b<M) (hd:Nat.blt d n=true)
  (k:TL P n ops rest ((d,.int kd ((a+b:Nat):Int))::e) w Q):TL P n ops (⟨some d,.binOp .add t1 x y t2,ty,pos,aft,none⟩::rest) e w Q :=
 TL.run (λ r hr=>by
  rw [ix.h] at hx;rw [iy.h] at hy
  have:=fB hM h
  simp only [Int.natCast_add] at this ⊢
  simp [execOp,binOp,cB,Op.intArith,hr.eval hx,hr.eval hy,this]) hd k
theorem TL.addW {zx zy:Int} {x y:Operand} {kd:IntKind} {M a b:Nat} {t1 t2:TypeId} (hx:val e x=some (.int kd zx)) [ix:Lit zx a] (hy:val e y=some (.int kd zy)) [iy:Lit zy b] (hM:ulim kd=some M) (hd:Nat.blt d n=true)
  (k:TL P n ops rest ((d,.int kd (((a+b)%M:Nat):Int))::e) w Q):TL P n ops (⟨some d,.binOp .add t1 x y t2,ty,pos,aft,none⟩::rest) e w Q :=
 TL.run (λ r hr=>by
  rw [ix.h] at hx;rw [iy.h] at hy
  have:=wrap_u hM (a+b)
  rw [Int.natCast_add] at this
  simp only [execOp,binOp,cB,Op.intArith,hr.eval hx,hr.eval hy]
  simp [this]) hd k
theorem TL.subU {zx zy:Int} {x y:Operand} {kd:IntKind} {M a b:Nat} {t1 t2:TypeId} (hx:val e x=some (.int kd zx)) [ix:Lit zx a] (hy:val e y=some (.int kd zy)) [iy:Lit zy b] (hM:ulim kd=some M) (h:b≤a) (h2:a<M) (hd:Nat.blt d n=true)
  (k:TL P n ops rest ((d,.int kd ((a-b:Nat):Int))::e) w Q):TL P n ops (⟨some d,.binOp .sub t1 x y t2,ty,pos,aft,none⟩::rest) e w Q :=
 TL.run (λ r hr=>by
  rw [ix.h] at hx;rw [iy.h] at hy
  have:=fB hM (show a-b<M by omega)
  rw [Int.ofNat_sub h] at this ⊢
  simp [execOp,binOp,cB,Op.intArith,hr.eval hx,hr.eval hy,this]) hd k
theorem TL.mulU {zx zy:Int} {x y:Operand} {kd:IntKind} {M a b:Nat} {t1 t2:TypeId} (hx:val e x=some (.int kd zx)) [ix:Lit zx a] (hy:val e y=some (.int kd zy)) [iy:Lit zy b] (hM:ulim kd=some M) (h:a*b<M) (hd:Nat.blt d n=true)
  (k:TL P n ops rest ((d,.int kd ((a*b:Nat):Int))::e) w Q):TL P n ops (⟨some d,.binOp .mul t1 x y t2,ty,pos,aft,none⟩::rest) e w Q :=
 TL.run (λ r hr=>by
  rw [ix.h] at hx;rw [iy.h] at hy
  have:=fB hM h
  simp only [Int.natCast_mul] at this ⊢
  simp [execOp,binOp,cB,Op.intArith,hr.eval hx,hr.eval hy,this]) hd k
theorem TL.mulW {zx zy:Int} {x y:Operand} {kd:IntKind} {M a b:Nat} {t1 t2:TypeId} (hx:val e x=some (.int kd zx)) [ix:Lit zx a] (hy:val e y=some (.int kd zy)) [iy:Lit zy b] (hM:ulim kd=some M) (hd:Nat.blt d n=true)
  (k:TL P n ops rest ((d,.int kd ((a*b%M:Nat):Int))::e) w Q):TL P n ops (⟨some d,.binOp .mul t1 x y t2,ty,pos,aft,none⟩::rest) e w Q :=
 TL.run (λ r hr=>by
  rw [ix.h] at hx;rw [iy.h] at hy
  have:=wrap_u hM (a*b)
  rw [Int.natCast_mul] at this
  simp only [execOp,binOp,cB,Op.intArith,hr.eval hx,hr.eval hy]
  simp [this]) hd k
theorem bits_nat {kd:IntKind} {M:Nat} (h:ulim kd=some M) (a:Nat):(BitVec.ofInt kd.bits (a:Int)).toNat=a%M:=by
 rw [ulim_bits h,BitVec.toNat_ofInt]
 rw [show ((2^kd.bits:Nat):Int)=((2^kd.bits:Nat):Int) from rfl,← Int.natCast_emod,Int.toNat_natCast]
theorem TL.andU {zx zy:Int} {x y:Operand} {kd:IntKind} {M a c m:Nat} {t1 t2:TypeId} (hx:val e x=some (.int kd zx)) [ix:Lit zx a] (hy:val e y=some (.int kd zy)) [iy:Lit zy c] (hM:ulim kd=some M) (hm:m2 c=some m) (ha:a<M) (hc:c<M) (hd:Nat.blt d n=true)
  (k:TL P n ops rest ((d,.int kd ((a%m:Nat):Int))::e) w Q):TL P n ops (⟨some d,.binOp .and t1 x y t2,ty,pos,aft,none⟩::rest) e w Q :=
 TL.run (λ r hr=>by
  rw [ix.h] at hx;rw [iy.h] at hy
  obtain ⟨h1,j,h2⟩:=m2_eq hm
  have hc':c=2^j-1:=by omega
  have e1:((BitVec.ofInt kd.bits (a:Int))&&&(BitVec.ofInt kd.bits (c:Int))).toNat=a%m:=by
   rw [BitVec.toNat_and,bits_nat hM,bits_nat hM,Nat.mod_eq_of_lt ha,Nat.mod_eq_of_lt hc,hc',Nat.and_two_pow_sub_one_eq_mod,← h2]
  have e2:=fB hM (show a%m<M from Nat.lt_of_le_of_lt (Nat.mod_le _ _) ha)
  rw [← e1] at e2
  have hb:binOp .and t1 (.int kd (a:Int)) (.int kd (c:Int))=Pure.pure (.int kd ((a%m:Nat):Int)):=by
   simp only [binOp,Op.intBits,ne_eq,not_true_eq_false,if_false]
   rw [e2,e1]
  simp only [execOp,cB,hr.eval hx,hr.eval hy,hb]
  rfl) hd k
theorem or_apart {a b m k:Nat} (hm:m=2^k) (ha:a<m) (hb:b%m=0):a|||b=a+b:=by
 subst hm
 obtain ⟨q,rfl⟩:=Nat.dvd_of_mod_eq_zero hb
 rw [Nat.or_comm,Nat.add_comm]
 exact (Nat.two_pow_add_eq_or_of_lt ha q).symm
theorem TL.orL {zx zy:Int} {x y:Operand} {kd:IntKind} {M a b q m:Nat} {t1 t2:TypeId} (hx:val e x=some (.int kd zx)) [ix:Lit zx a] (hy:val e y=some (.int kd zy)) [iy:Lit zy b] (hM:ulim kd=some M) (hq:a=q*m%M) (hm:m2 (m-1)=some m) (hb:b<m) (hmM:Nat.ble m M=true) (hd:Nat.blt d n=true)
  (k:TL P n ops rest ((d,.int kd ((a+b:Nat):Int))::e) w Q):TL P n ops (⟨some d,.binOp .or t1 x y t2,ty,pos,aft,none⟩::rest) e w Q :=
 TL.run (λ r hr=>by
  rw [ix.h] at hx;rw [iy.h] at hy
  have hmM':=Nat.le_of_ble_eq_true hmM
  obtain ⟨_,j,hj⟩:=m2_eq hm
  have hMp:=ulim_bits hM
  have hdvd:m ∣ M:=by
   rw [hj,hMp];rw [hj,hMp] at hmM'
   exact Nat.pow_dvd_pow 2 ((Nat.pow_le_pow_iff_right (by decide)).1 hmM')
  have haM:a<M:=by rw [hq];exact Nat.mod_lt _ (by rw [hMp];exact Nat.two_pow_pos _)
  have ham:a%m=0:=by rw [hq,Nat.mod_mod_of_dvd _ hdvd];exact Nat.mul_mod_left _ _
  have hbM:b<M:=by omega
  have e1:((BitVec.ofInt kd.bits (a:Int))|||(BitVec.ofInt kd.bits (b:Int))).toNat=a+b:=by
   rw [BitVec.toNat_or,bits_nat hM,bits_nat hM,Nat.mod_eq_of_lt haM,Nat.mod_eq_of_lt hbM,Nat.or_comm,or_apart hj hb ham,Nat.add_comm]
  have hlt:a+b<M:=by
   rw [← e1,ulim_bits hM];exact BitVec.isLt _
  have e2:=fB hM hlt
  rw [← e1] at e2
  have hb:binOp .or t1 (.int kd (a:Int)) (.int kd (b:Int))=Pure.pure (.int kd ((a+b:Nat):Int)):=by
   simp only [binOp,Op.intBits,ne_eq,not_true_eq_false,if_false]
   rw [e2,e1]
  simp only [execOp,cB,hr.eval hx,hr.eval hy,hb]
  rfl) hd k
theorem TL.shrU {zx zy:Int} {x y:Operand} {kd ky:IntKind} {M a s p:Nat} {t1 t2:TypeId} (hx:val e x=some (.int kd zx)) [ix:Lit zx a] (hy:val e y=some (.int ky zy)) [iy:Lit zy s] (hM:ulim kd=some M) (hp:p2 s=some p) (hs:Nat.ble s kd.bits=true) (hd:Nat.blt d n=true)
  (k:TL P n ops rest ((d,.int kd ((a / p:Nat):Int))::e) w Q):TL P n ops (⟨some d,.binOp .shr t1 x y t2,ty,pos,aft,none⟩::rest) e w Q :=
 TL.run (λ r hr=>by
  rw [ix.h] at hx;rw [iy.h] at hy
  obtain ⟨h1,h2⟩:=p2_eq hp
  have h3:min s kd.bits=s:=Nat.min_eq_left (Nat.le_of_ble_eq_true hs)
  have h4:¬ ((s:Int)<0):=by omega
  have e1:(a:Int).fdiv (2^s)=((a / p:Nat):Int):=by
   rw [Int.fdiv_eq_ediv_of_nonneg _ (by exact_mod_cast Nat.zero_le (2^s)),h1]
   simp
  simp only [execOp,binOp,cB,Op.shift,hr.eval hx,hr.eval hy]
  simp [h3,h4,e1]) hd k
theorem TL.shlW {zx zy:Int} {x y:Operand} {kd ky:IntKind} {M a s p:Nat} {t1 t2:TypeId} (hx:val e x=some (.int kd zx)) [ix:Lit zx a] (hy:val e y=some (.int ky zy)) [iy:Lit zy s] (hM:ulim kd=some M) (hp:p2 s=some p) (hs:Nat.ble s kd.bits=true) (hd:Nat.blt d n=true)
  (k:TL P n ops rest ((d,.int kd ((a*p%M:Nat):Int))::e) w Q):TL P n ops (⟨some d,.binOp .shl t1 x y t2,ty,pos,aft,none⟩::rest) e w Q :=
 TL.run (λ r hr=>by
  rw [ix.h] at hx;rw [iy.h] at hy
  obtain ⟨h1,h2⟩:=p2_eq hp
  have h3:min s kd.bits=s:=Nat.min_eq_left (Nat.le_of_ble_eq_true hs)
  have h4:¬ ((s:Int)<0):=by omega
  have e1:(a:Int)*2^s=((a*p:Nat):Int):=by rw [h1];simp
  have e2:=wrap_u hM (a*p)
  rw [← e1] at e2
  simp only [execOp,binOp,cB,Op.shift,hr.eval hx,hr.eval hy]
  simp [h3,h4,e2]) hd k
theorem jB {s t:TypeId} {k1 k2 kd:IntKind} (hs:IntTy P s k1) (ht:IntTy P t k2) (z:Int) (w:World):(convert s t (.int kd z)).run P w=.ok (.int k2 (k2.wrap z)) w:=by
 simp [convert,underlying,hs.und,ht.und,Conv.intToInt]
theorem eQ {zx:Int} {s t:TypeId} {x:Operand} {k1 k2 kd:IntKind} {a M:Nat} [hs:IntTy P s k1] [ht:IntTy P t k2] (hx:val e x=some (.int kd zx)) [ix:Lit zx a] (hM:ulim k2=some M) (h:a<M) (hd:Nat.blt d n=true)
  (k:TL P n ops rest ((d,.int k2 (a:Int))::e) w Q):TL P n ops (⟨some d,.convert s t x,ty,pos,aft,none⟩::rest) e w Q :=
 TL.run (λ r hr=>by
  rw [ix.h] at hx
  simp [execOp,hr.eval hx,jB hs ht,fB hM h]) hd k
theorem mY {zx:Int} {s t:TypeId} {x:Operand} {k1 k2 kd:IntKind} {a M:Nat} [hs:IntTy P s k1] [ht:IntTy P t k2] (hx:val e x=some (.int kd zx)) [ix:Lit zx a] (hM:ulim k2=some M) (hd:Nat.blt d n=true)
  (k:TL P n ops rest ((d,.int k2 ((a%M:Nat):Int))::e) w Q):TL P n ops (⟨some d,.convert s t x,ty,pos,aft,none⟩::rest) e w Q :=
 TL.run (λ r hr=>by
  rw [ix.h] at hx
  simp only [execOp,hr.eval hx];simp only [Sem.run_bind,jB hs ht,Result.andThen_ok,wrap_u hM];rfl) hd k
theorem bM {x:Operand} {p:Addr} (hx:val e x=some (.pointer (some p))) (hd:Nat.blt d n=true)
  (k:TL P n ops rest ((d,.pointer (some p))::e) w Q):TL P n ops (⟨some d,.nilCheck x,ty,pos,aft,none⟩::rest) e w Q :=
 TL.run (λ r hr=>by simp [execOp,hr.eval hx]) hd k
theorem ArrTy.und {t len elem size:Nat} (h:ArrTy P t len elem size):P.underlying t=some (.array len elem)∧∃ i,P.info? elem=some i∧i.size=size:=by
 have h:=h.h
 unfold arrB at h
 split at h
 ·rename_i l el hu
  simp only [Bool.and_eq_true,beq_iff_eq] at h
  obtain ⟨⟨rfl,rfl⟩,h2⟩:=h
  refine ⟨hu,?_⟩
  cases hi:P.info? el with
  | none=>rw [hi] at h2;cases h2
  | some i=>rw [hi] at h2;exact ⟨i,rfl,by simpa using h2⟩
 ·cases h
theorem ArrTy.size {t len elem size:Nat} (h:ArrTy P t len elem size) (w:World):(sizeOf elem).run P w=.ok size w:=by
 obtain ⟨_,i,hi,hs⟩:=h.und
 simp [sizeOf,typeInfo,hi,hs]
theorem TL.indexArr {t len elem size:Nat} {x i:Operand} {b o j:Nat} {kd:IntKind} {z:Int} [ht:ArrTy P t len elem size] (hx:val e x=some (.pointer (some ⟨b,o,none⟩))) (hi:val e i=some (.int kd z))
  [iz:Lit z j] (hj:j<len) {o':Nat} (ho:o+j*size=o') (hd:Nat.blt d n=true)
  (k:TL P n ops rest ((d,.pointer (some ⟨b,o',none⟩))::e) w Q):TL P n ops (⟨some d,.indexAddr t x i,ty,pos,aft,none⟩::rest) e w Q :=
 TL.run (λ r hr=>by
  subst ho;rw [iz.h] at hi
  simp [execOp,hr.eval hx,hr.eval hi,Instr.indexAt,Instr.sureAddr,asIntOf,underlying,ht.und.1,ht.size,hj,Addr.add_lit]) hd k
theorem TL.indexAt {t elem size bytes:Nat} {x i:Operand} {b o m c j:Nat} {kd:IntKind} {z:Int} [ht:SliceTy P t elem size bytes] (hx:val e x=some (.slice (some ⟨b,o,none⟩) m c)) (hi:val e i=some (.int kd z))
  [iz:Lit z j] (hj:j<m) {o':Nat} (ho:o+j*size=o') (hd:Nat.blt d n=true)
  (k:TL P n ops rest ((d,.pointer (some ⟨b,o',none⟩))::e) w Q):TL P n ops (⟨some d,.indexAddr t x i,ty,pos,aft,none⟩::rest) e w Q :=
 TL.run (λ r hr=>by
  subst ho;rw [iz.h] at hi
  simp [execOp,hr.eval hx,hr.eval hi,Instr.indexAt,asIntOf,underlying,ht.und,ht.size,Nat.not_le.2 hj,hj,Addr.add_lit]) hd k
theorem jU {x:Operand} {k:IntKind} {z:Int} {j dflt:Nat} (h:val e x=some (.int k z)) [i:Lit z j]:bnd e (some x) j dflt:=⟨k,z,h,i.h⟩
theorem eP {t len elem size:Nat} {x:Operand} {lo hi:Option Operand} {b o l h:Nat} [ht:ArrTy P t len elem size]
  (hx:val e x=some (.pointer (some ⟨b,o,none⟩))) (hl:bnd e lo l 0) (hh:bnd e hi h len) (b1:l≤h) (b2:h≤len) (b3:l<len) {o':Nat} (ho:o+l*size=o') (hd:Nat.blt d n=true)
  (k:TL P n ops rest ((d,.slice (some ⟨b,o',none⟩) (h-l) (len-l))::e) w Q):TL P n ops (⟨some d,.slice t x lo hi none,ty,pos,aft,none⟩::rest) e w Q:=by
 have hbs:∀ r,Fits n e r→(Instr.sliceBounds false len len (lo.map r.eval) (hi.map r.eval) none).run P w=.ok (l,h,len) w:=by
  intro r hr
  cases lo with
  | none =>
   simp only [bnd] at hl;subst hl
   cases hi with
   | none=>simp only [bnd] at hh;subst hh;simp [Instr.sliceBounds]
   | some y=>obtain ⟨k2,z2,v2,e2⟩:=hh;simp [Instr.sliceBounds,hr.eval v2,eS e2 b2]
  | some x1 =>
   obtain ⟨k1,z1,v1,e1⟩:=hl
   cases hi with
   | none=>simp only [bnd] at hh;subst hh;simp [Instr.sliceBounds,hr.eval v1,eS e1 b1]
   | some y=>obtain ⟨k2,z2,v2,e2⟩:=hh;simp [Instr.sliceBounds,hr.eval v1,hr.eval v2,eS e2 b2,eS e1 b1]
 have hne:¬ (len=l):=by omega
 subst ho
 exact TL.run (λ r hr=>by simp [execOp,hr.eval hx,Instr.sliceAt,Instr.sureAddr,underlying,ht.und.1,hbs r hr,ht.size,hne,Addr.add_lit]) hd k
theorem mI {t len elem size:Nat} {z:Value} {parts:List (Nat×Operand)} {vs:List (Nat×Value)} {cs:List Value} [hz:Zero P t z] [ht:ArrTy P t len elem size]
  (hx:partsV (val e) parts=some vs) (hf:fillV ((List.range len).map λ i=>(i*size,size)) z.cells.toList vs=some cs) (hd:Nat.blt d n=true)
  (k:TL P n ops rest ((d,.agg cs.toArray)::e) w Q):TL P n ops (⟨some d,.build t parts.toArray,ty,pos,aft,none⟩::rest) e w Q:=by
 refine TL.run (λ r hr=>?_) hd k
 have hvs:parts.toArray.map (λ (i,x)=>(i,r.eval x))=vs.toArray:=by
  simp [lW hr parts vs hx]
 have hfill:Instr.fill (λ i=>some (i*size,size)) z.cells vs=some cs.toArray:=fill_eq (pl:=(λ i=>some (i*size,size))) (by intro i x h;rw [List.getElem?_map] at h;cases hr:(List.range len)[i]? with
   | none=>rw [hr] at h;cases h
   | some j=>rw [hr] at h;have:=(List.getElem?_eq_some_iff.1 hr).2;simp at this;subst this;exact h) vs _ cs hf
 simp only [execOp,hvs,Instr.build,hz.run,underlying,ht.und.1,Sem.run_bind,run_program,Result.andThen_ok,Sem.run_pure,ht.size]
 simp only [Result.andThen_ok,hfill,Sem.run_pure]
theorem TL.indexV {t len elem size:Nat} {x i:Operand} {j:Nat} {kd:IntKind} {z:Int} {cs:List Value} {v:Value} [ht:ArrTy P t len elem size] [h1:One P elem] (hx:val e x=some (.agg cs.toArray)) (hi:val e i=some (.int kd z))
  [iz:Lit z j] (hj:j<len) (hs:size=1) (hv:cs[j]? = some v) (hd:Nat.blt d n=true)
  (k:TL P n ops rest ((d,v)::e) w Q):TL P n ops (⟨some d,.index t x i,ty,pos,aft,none⟩::rest) e w Q :=
 TL.run (λ r hr=>by
  rw [iz.h] at hi;subst hs
  simp [execOp,hr.eval hx,hr.eval hi,Instr.index,asIntOf,underlying,ht.und.1,ht.size,hj,part,h1.agg,hv]) hd k
def jV:List Value→List Value→Prop
 | [],[]=>True
 | .int k a::xs,.int k' b::ys=>k=k'∧jV xs ys
 | _,_=>False
theorem sameInts_at:∀ {xs ys:List Value},jV xs ys→xs.length=ys.length∧∀ i,i<xs.length→∃ k a b,xs[i]? = some (.int k a)∧ys[i]? = some (.int k b)
 | [],[],_=>⟨rfl,λ i h=>absurd h (Nat.not_lt_zero _)⟩
 | [],_::_,h=>by simp [jV] at h
 | x::_,[],h=>by cases x<;>simp [jV] at h
 | x::xs,y::ys,h=>by
  cases x<;>cases y<;>simp only [jV] at h
  rename_i k a k' b
  obtain ⟨rfl,h2⟩:=h
  obtain ⟨h3,h4⟩:=sameInts_at h2
  refine ⟨by simp [h3],λ i hi=>?_⟩
  cases i with
  | zero=>exact ⟨k,a,b,by simp⟩
  | succ i=>simpa using h4 i (by simpa using hi)
theorem run_eqArr {t len elem kd:_} {size:Nat} (ht:ArrTy P t len elem size) (hs:size=1) (he:IntTy P elem kd) {xs ys:List Value} (hsame:jV xs ys) (hl:xs.length=len) {c:Bool} (hc:c=true↔xs=ys) (dp:Nat) (w:World) :
  (Op.equalIn (dp+2) t (.agg xs.toArray) (.agg ys.toArray)).run P w=.ok c w:=by
 classical
 obtain ⟨hlen,hat⟩:=sameInts_at hsame
 subst hs
 have hc':c=((List.range len).all λ i=>decide (xs[i]? = ys[i]?)):=by
  rw [Bool.eq_iff_iff,hc]
  simp only [List.all_eq_true,List.mem_range,decide_eq_true_eq]
  constructor
  ·rintro rfl _ _;rfl
  ·intro h
   apply List.ext_getElem?
   intro i
   by_cases hi:i<len
   ·exact h i hi
   ·rw [List.getElem?_eq_none (by omega),List.getElem?_eq_none (by omega)]
 rw [hc',List.range_eq_range',Op.equalIn]
 simp only [Sem.run_bind,run_underlying ht.und.1,Result.andThen_ok,ht.size,Std.Legacy.Range.forIn_eq_forIn_range',Std.Legacy.Range.size,Nat.sub_zero,Nat.add_sub_cancel,Nat.div_one]
 have hlr:∀ i∈List.range' 0 len 1,i<len:=λ i hi=>by simpa using (List.mem_range'_1.1 hi).2
 generalize List.range' 0 len 1=l at hlr ⊢
 induction l with
 | nil=>simp
 | cons i l ih =>
  have hi:i<len:=hlr i (by simp)
  obtain ⟨k,a,b,hxa,hyb⟩:=hat i (by omega)
  have px:(part elem xs.toArray (i*1)).run P w=.ok (.int k a) w:=by
   simp [part,isAgg,run_underlying he.und,hxa]
  have py:(part elem ys.toArray (i*1)).run P w=.ok (.int k b) w:=by
   simp [part,isAgg,run_underlying he.und,hyb]
  have pe:(Op.equalIn (dp+1) elem (.int k a) (.int k b)).run P w=.ok (decide (xs[i]? = ys[i]?)) w:=by
   rw [run_equalIn_int w dp elem k kd a b he.und,hxa,hyb]
   congr 1
   rw [Bool.eq_iff_iff]
   simp
  simp only [List.forIn_cons,Sem.run_bind,px,py,pe,Result.andThen_ok,List.all_cons]
  cases hb:(decide (xs[i]? = ys[i]?))
  ·simp
  ·simp only [Bool.not_true,Bool.false_eq_true,if_false,Sem.run_pure,Result.andThen_ok,Bool.true_and]
   exact ih λ j hj=>hlr j (by simp [hj])
theorem noGuard {t len elem size:Nat} {kd:IntKind} (ht:ArrTy P t len elem size) (he:IntTy P elem kd):P.eqGuardType P.depth t=false:=by
 have:P.depth=(2*(P.types.size+Made.depth))+2:=rfl
 rw [this]
 simp [Program.eqGuardType,ht.und.1,he.und]
theorem run_guardArr {op:BinOp} {t len elem size:Nat} {kd:IntKind} (ht:ArrTy P t len elem size) (he:IntTy P elem kd) (x y:Operand) (a b:Array Value) (w:World):(eqGuard op t x y (.agg a) (.agg b)).run P w=.ok () w:=by
 unfold eqGuard
 split<;>simp [noGuard ht he]
theorem TL.neArr {t t2 len elem size:Nat} {x y:Operand} {kd:IntKind} {xs ys:List Value} [ht:ArrTy P t len elem size] [he:IntTy P elem kd] (c:Bool) (hx:val e x=some (.agg xs.toArray)) (hy:val e y=some (.agg ys.toArray)) (hs:size=1)
  (hsame:jV xs ys) (hl:xs.length=len) (hc:c=true↔xs=ys) (hd:Nat.blt d n=true)
  (k:TL P n ops rest ((d,.bool (!c))::e) w Q):TL P n ops (⟨some d,.binOp .neq t x y t2,ty,pos,aft,none⟩::rest) e w Q :=
 TL.run (λ r hr=>by
  simp only [execOp,hr.eval hx,hr.eval hy,Sem.run_bind,run_guardArr ht he,Result.andThen_ok]
  simp [binOp,Op.equal,Op.maxDepth,run_eqArr ht hs he hsame hl hc 9998]) hd k
theorem putAt_past:∀ (vs pre cs:List Value),vs.length=cs.length→jC (pre++cs) pre.length vs=pre++vs
 | [],pre,cs,h=>by
  have:cs=[]:=List.eq_nil_of_length_eq_zero (by simpa using h.symm)
  subst this;rfl
 | v::vs,pre,[],h=>by simp at h
 | v::vs,pre,c::cs,h=>by
  have:=putAt_past vs (pre++[v]) cs (by simpa using h)
  simp only [jC]
  rw [List.set_append_right _ _ (Nat.le_refl _),Nat.sub_self,List.set_cons_zero]
  simpa using this
theorem putAt_whole {vs cs:List Value} (h:vs.length=cs.length):jC cs 0 vs=vs:=putAt_past vs [] cs h
theorem bV {t bt:TypeId} {m b:Nat} {cs:List Value} [ht:Agg P t m] (hb:Blk w b bt cs) (hl:Nat.beq cs.length m=true):(loadVar t ⟨b,0,none⟩).run P w=.ok (.agg cs.toArray) w :=
 iS ht (Nat.eq_of_beq_eq_true hl) (hb.cells (by rw [List.drop_zero];exact List.take_of_length_le (Nat.le_of_eq (Nat.eq_of_beq_eq_true hl))))
theorem bK {t bt:TypeId} {m b:Nat} {x:Operand} {cs:List Value} [ht:Agg P t m] (hx:val e x=some (.pointer (some ⟨b,0,none⟩))) (hb:Blk w b bt cs) (hl:Nat.beq cs.length m=true)
  (hd:Nat.blt d n=true) (k:TL P n ops rest ((d,.agg cs.toArray)::e) w Q):TL P n ops (⟨some d,.load t x,ty,pos,aft,none⟩::rest) e w Q :=
 TL.run (λ a ha=>by simp [execOp,Instr.loadAt,ha.eval hx,Instr.sureAddr,bV (P:=P) hb hl]) hd k
theorem bA {t bt:TypeId} {m:Nat} {x y:Operand} {b:Nat} {vs cs:List Value} [ht:Agg P t m] (hx:val e x=some (.pointer (some ⟨b,0,none⟩))) (hy:val e y=some (.agg vs.toArray)) (hb:Blk w b bt cs)
  (hm:Nat.beq vs.length m=true) (hl:Nat.beq cs.length m=true) (h1:vs.all Value.oneCell'=true)
  (k:∀ w',Upd b w w'→Blk w' b bt vs→w'.heap.size=w.heap.size→TL P n ops rest e w' Q):TL P n ops (⟨none,.store t x y,ty,pos,aft,none⟩::rest) e w Q:=by
 have e1:=Nat.eq_of_beq_eq_true hm
 have e2:=Nat.eq_of_beq_eq_true hl
 obtain ⟨w',hr,hu,hb'⟩:=run_storeVar_agg (P:=P) ht hb hm (Nat.ble_eq_true_of_le (by omega)) h1 (putAt_whole (by omega))
 exact mE (λ a ha=>by simp [execOp,Instr.storeAt,ha.eval hx,ha.eval hy,Instr.sureAddr,hr]) (k w' hu hb' hu.size)
end rules
section kinds
variable [Rn]
variable {P:Program} {n:Nat} {e:dQ} {w:World} {Q:dS} {ops:Array Oper} {rest:List Oper} {d:Option Nat} {ty:TypeId} {pos:String} {aft:Array Edge} {t1 t2:Nat} {x y:Operand} {l1 l2 l3:Option Operand} {o:BinOp} {c:Call} {ps:Array (Nat×Operand)}
theorem aB (h:TL P n ops (⟨d,(.move x),ty,pos,aft,none⟩::rest) e w Q):TL P n ops (⟨d,(.move x),ty,pos,aft,none⟩::rest) e w Q:=h
theorem aD (h:TL P n ops (⟨d,(.assign x),ty,pos,aft,none⟩::rest) e w Q):TL P n ops (⟨d,(.assign x),ty,pos,aft,none⟩::rest) e w Q:=h
theorem bL (h:TL P n ops (⟨d,(.binOp .add t1 x y t2),ty,pos,aft,none⟩::rest) e w Q):TL P n ops (⟨d,(.binOp .add t1 x y t2),ty,pos,aft,none⟩::rest) e w Q:=h
theorem cN (h:TL P n ops (⟨d,(.binOp .sub t1 x y t2),ty,pos,aft,none⟩::rest) e w Q):TL P n ops (⟨d,(.binOp .sub t1 x y t2),ty,pos,aft,none⟩::rest) e w Q:=h
theorem hE (h:TL P n ops (⟨d,(.binOp .mul t1 x y t2),ty,pos,aft,none⟩::rest) e w Q):TL P n ops (⟨d,(.binOp .mul t1 x y t2),ty,pos,aft,none⟩::rest) e w Q:=h
theorem TL.isAnd (h:TL P n ops (⟨d,(.binOp .and t1 x y t2),ty,pos,aft,none⟩::rest) e w Q):TL P n ops (⟨d,(.binOp .and t1 x y t2),ty,pos,aft,none⟩::rest) e w Q:=h
theorem TL.isOr (h:TL P n ops (⟨d,(.binOp .or t1 x y t2),ty,pos,aft,none⟩::rest) e w Q):TL P n ops (⟨d,(.binOp .or t1 x y t2),ty,pos,aft,none⟩::rest) e w Q:=h
theorem TL.isShl (h:TL P n ops (⟨d,(.binOp .shl t1 x y t2),ty,pos,aft,none⟩::rest) e w Q):TL P n ops (⟨d,(.binOp .shl t1 x y t2),ty,pos,aft,none⟩::rest) e w Q:=h
theorem fZ (h:TL P n ops (⟨d,(.binOp .shr t1 x y t2),ty,pos,aft,none⟩::rest) e w Q):TL P n ops (⟨d,(.binOp .shr t1 x y t2),ty,pos,aft,none⟩::rest) e w Q:=h
theorem aH (h:TL P n ops (⟨d,(.binOp o t1 x y t2),ty,pos,aft,none⟩::rest) e w Q):TL P n ops (⟨d,(.binOp o t1 x y t2),ty,pos,aft,none⟩::rest) e w Q:=h
theorem dU (h:TL P n ops (⟨d,(.fieldAddr t1 x t2),ty,pos,aft,none⟩::rest) e w Q):TL P n ops (⟨d,(.fieldAddr t1 x t2),ty,pos,aft,none⟩::rest) e w Q:=h
theorem bC (h:TL P n ops (⟨d,(.indexAddr t1 x y),ty,pos,aft,none⟩::rest) e w Q):TL P n ops (⟨d,(.indexAddr t1 x y),ty,pos,aft,none⟩::rest) e w Q:=h
theorem aY (h:TL P n ops (⟨d,(.load t1 x),ty,pos,aft,none⟩::rest) e w Q):TL P n ops (⟨d,(.load t1 x),ty,pos,aft,none⟩::rest) e w Q:=h
theorem aP (h:TL P n ops (⟨d,(.store t1 x y),ty,pos,aft,none⟩::rest) e w Q):TL P n ops (⟨d,(.store t1 x y),ty,pos,aft,none⟩::rest) e w Q:=h
theorem cD (h:TL P n ops (⟨d,(.box t1 x),ty,pos,aft,none⟩::rest) e w Q):TL P n ops (⟨d,(.box t1 x),ty,pos,aft,none⟩::rest) e w Q:=h
theorem bF (h:TL P n ops (⟨d,(.alloc t1),ty,pos,aft,none⟩::rest) e w Q):TL P n ops (⟨d,(.alloc t1),ty,pos,aft,none⟩::rest) e w Q:=h
theorem cR (h:TL P n ops (⟨d,(.convert t1 t2 x),ty,pos,aft,none⟩::rest) e w Q):TL P n ops (⟨d,(.convert t1 t2 x),ty,pos,aft,none⟩::rest) e w Q:=h
theorem eX (h:TL P n ops (⟨d,(.slice t1 x l1 l2 l3),ty,pos,aft,none⟩::rest) e w Q):TL P n ops (⟨d,(.slice t1 x l1 l2 l3),ty,pos,aft,none⟩::rest) e w Q:=h
theorem TL.isBuild (h:TL P n ops (⟨d,(.build t1 ps),ty,pos,aft,none⟩::rest) e w Q):TL P n ops (⟨d,(.build t1 ps),ty,pos,aft,none⟩::rest) e w Q:=h
theorem TL.isNilC (h:TL P n ops (⟨d,(.nilCheck x),ty,pos,aft,none⟩::rest) e w Q):TL P n ops (⟨d,(.nilCheck x),ty,pos,aft,none⟩::rest) e w Q:=h
theorem jG (h:TL P n ops (⟨d,(.call c),ty,pos,aft,none⟩::rest) e w Q):TL P n ops (⟨d,(.call c),ty,pos,aft,none⟩::rest) e w Q:=h
theorem TL.isBuildS (h:TL P n ops (⟨d,(.buildSlice t1 t2 ps),ty,pos,aft,none⟩::rest) e w Q):TL P n ops (⟨d,(.buildSlice t1 t2 ps),ty,pos,aft,none⟩::rest) e w Q:=h
theorem eA {op:Op} {g:Nat×Bool} (h:TL P n ops (⟨d,op,ty,pos,aft,some g⟩::rest) e w Q):TL P n ops (⟨d,op,ty,pos,aft,some g⟩::rest) e w Q:=h
end kinds
theorem yB {p:Prop} (h:p:=by (repeat (first|assumption|(apply Blk.grow;assumption)|(apply Blk.upd;assumption;omega)))):p:=h
theorem yM {p:Prop} (h:p:=by (first|assumption|exact Blk.cell yB (by exact rfl)|(repeat (first|assumption|(apply cell_grow;assumption)|(apply cell_upd;assumption;(first|omega|(simp only [];omega))))))):p:=h
theorem yG {p:Prop} (h:p:=by (repeat (first|assumption|exact Below.refl _ _|exact Grow.refl _|refine grow_trans (by assumption) ?_|refine aX (by assumption) (by omega) ?_|refine below_grow (by assumption) (by omega) ?_|refine below_upd (by assumption) (by omega) ?_))):p:=h
theorem yD {p:Prop} (h:p:=by (first|assumption|(simp only [decide_eq_true_eq,decide_eq_false_iff_not,beq_iff_eq,beq_eq_false_iff_ne,bne_iff_ne,bne_eq_false_iff_eq,ne_eq,gt_iff_lt,ge_iff_le,Bool.not_eq_true',Bool.not_eq_false',Bool.not_true,Bool.not_false];(first|done|omega)))):p:=h
end Go.V
