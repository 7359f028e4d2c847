import Derived.Test.YtfpadnmdafiddaaGreatDoorMu
set_option linter.all false
set_option maxHeartbeats 16000000
set_option maxRecDepth 100000
namespace Go.Proofs.YtfpadnmdafiddaaGreatDoor
def mU (p:Nat→Bool):Nat→Nat
 | 0=>0
 | n+1=>mU p n+(p n).toNat
theorem cntF_eq (p:Nat→Bool):∀ n,((List.range n).filter p).length=mU p n
 | 0=>rfl
 | n+1=>by
  rw [List.range_succ,List.filter_append,List.length_append,cntF_eq p n,mU]
  cases h:p n<;>simp [h]
theorem cntF_split (p:Nat→Bool) (m:Nat):∀ k,mU p (m+k)=mU p m+mU (λ j=>p (m+j)) k
 | 0=>rfl
 | k+1=>by rw [← Nat.add_assoc,mU,cntF_split p m k,mU];omega
theorem cntF_same {p q:Nat→Bool}:∀ n,(∀ k,k<n→p k=q k)→mU p n=mU q n
 | 0,_=>rfl
 | n+1,h=>by rw [mU,mU,cntF_same n (λ k hk=>h k (by omega)),h n (by omega)]
theorem cntF_none {p:Nat→Bool}:∀ n,(∀ k,k<n→p k=false)→mU p n=0
 | 0,_=>rfl
 | n+1,h=>by rw [mU,cntF_none n (λ k hk=>h k (by omega)),h n (by omega)];rfl
theorem ones8_bits:∀ b:Fin 256,mR b.val=mU b.val.testBit 8:=by decide +kernel
theorem byte_bits (x k:Nat):mU (λ j=>x.testBit (8*k+j)) 8=mR (x / 2^(8*k)%256):=by
 rw [ones8_bits ⟨x / 2^(8*k)%256,Nat.mod_lt _ (by omega)⟩]
 refine cntF_same 8 λ j hj=>?_
 show x.testBit (8*k+j)=(x / 2^(8*k)%256).testBit j
 rw [show (256:Nat)=2^8 from rfl,Nat.testBit_mod_two_pow,Nat.testBit_div_two_pow]
 simp [hj,Nat.add_comm]
theorem cntF_ones (x:Nat):mU x.testBit 64=ones x:=by
 have s:∀ k,mU x.testBit (8*(k+1))=mU x.testBit (8*k)+mR (x / 2^(8*k)%256):=λ k=>by
  rw [show 8*(k+1)=8*k+8 by omega,cntF_split,byte_bits]
 rw [show 64=8*(7+1) from rfl,s 7,s 6,s 5,s 4,s 3,s 2,s 1,s 0]
 show 0+_+_+_+_+_+_+_+_=_
 have e0:x / 2^(8*0)%256=x%256:=by rw [Nat.mul_zero,Nat.pow_zero,Nat.div_one]
 rw [e0]
 simp only [ones,fU,List.map_cons,List.map_nil,List.sum_cons,List.sum_nil]
 rw [show (2:Nat)^(8*1)=256 from rfl,show (2:Nat)^(8*2)=65536 from rfl,show (2:Nat)^(8*3)=16777216 from rfl,show (2:Nat)^(8*4)=4294967296 from rfl,show (2:Nat)^(8*5)=1099511627776 from rfl,show (2:Nat)^(8*6)=281474976710656 from rfl,show (2:Nat)^(8*7)=72057594037927936 from rfl]
 simp only [Nat.add_assoc,Nat.zero_add,Nat.add_zero]
def bitF (l:List Nat) (n:Nat):Bool:=(l.getD (n / 64) 0).testBit (n%64)
theorem cntF_words (l:List Nat):∀ i,i≤l.length→mU (bitF l) (64*i)=((l.take i).map ones).sum
 | 0,_=>rfl
 | i+1,h=>by
  have hx:l[i]? = some (l.getD i 0):=by rw [List.getD_eq_getElem?_getD,List.getElem?_eq_getElem (by omega)];rfl
  have ih:=cntF_words l i (by omega)
  rw [show 64*(i+1)=64*i+64 by omega,cntF_split,ih,List.take_add_one,hx]
  simp only [Option.toList_some,List.map_append,List.map_cons,List.map_nil,List.sum_append,List.sum_cons,List.sum_nil,Nat.add_zero]
  rw [← cntF_ones]
  congr 1
  refine cntF_same 64 λ j hj=>?_
  show (l.getD ((64*i+j) / 64) 0).testBit ((64*i+j)%64)=_
  rw [show (64*i+j) / 64=i by omega,show (64*i+j)%64=j by omega]
theorem total_words {s:Pg} (hs:PgOk s):gT s=(s.words.map ones).sum:=by
 have h1:=cntF_words s.words s.words.length (Nat.le_refl _)
 rw [List.take_length] at h1
 rw [← h1]
 have hwl:=hs.wl
 obtain ⟨k,hk⟩:∃ k,64*s.words.length=s.count+k:=⟨64*s.words.length-s.count,by omega⟩
 rw [hk,cntF_split,cntF_none (p:=λ j=>bitF s.words (s.count+j)) k (λ j _=>hs.top (s.count+j) (by omega)),Nat.add_zero]
 show ((List.range s.count).filter λ n=>dE s n).length=_
 rw [cntF_eq]
 refine cntF_same _ λ n hn=>?_
 show dE s n=bitF s.words n
 simp [dE,bitF,hn]
end Go.Proofs.YtfpadnmdafiddaaGreatDoor
