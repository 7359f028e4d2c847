import Derived.Test.YtfpadnmdafiddaaGreatDoorMI
import Derived.Test.YtfpadnmdafiddaaGreatDoorMw
import Derived.Test.YtfpadnmdafiddaaGreatDoorMt
set_option linter.all false
set_option maxHeartbeats 16000000
set_option maxRecDepth 100000
namespace Go.Proofs.YtfpadnmdafiddaaGreatDoor
def lI (s:Pg) (qs:List Nat):List Nat:=qs.foldl hU (List.replicate s.words.length 0)
def keepP (s:Pg) (qs:List Nat):Pg:={ s with words:=lI s qs }
theorem length_markW (l:List Nat) (n:Nat):(hU l n).length=l.length:=by simp [hU]
theorem kR:∀ (qs l:List Nat),(qs.foldl hU l).length=l.length
 | [],l=>rfl
 | q::qs,l=>by rw [List.foldl_cons,kR qs,length_markW]
theorem marks_bit:∀ (qs l:List Nat) (k:Nat),(∀ q∈qs,q / 64<l.length)→((qs.foldl hU l).getD (k / 64) 0).testBit (k%64)=(decide (k∈qs) || (l.getD (k / 64) 0).testBit (k%64))
 | [],l,k,_=>by simp
 | q::qs,l,k,h=>by
  rw [List.foldl_cons,marks_bit qs _ k (λ x hx=>by rw [length_markW];exact h x (List.mem_cons_of_mem _ hx)),markW_bit _ _ _ (h q (by simp))]
  by_cases h1:k=q
  ·subst h1;simp
  ·simp [h1]
theorem markW_64 {l:List Nat} {n:Nat} (h:∀ x∈l,x<18446744073709551616) (hd:n / 64<l.length):∀ x∈hU l n,x<18446744073709551616:=by
 intro x hx
 unfold hU at hx
 rcases List.mem_or_eq_of_mem_set hx with hx|rfl
 ·exact h x hx
 ·have h5:l.getD (n / 64) 0<2^64:=by
   rw [List.getD_eq_getElem?_getD,List.getElem?_eq_getElem hd]
   exact h _ (List.getElem_mem hd)
  have h6:2^(n%64)<2^64:=Nat.pow_lt_pow_right (by decide) (Nat.mod_lt _ (by decide))
  exact Nat.or_lt_two_pow h5 h6
theorem marks_64:∀ {qs l:List Nat},(∀ x∈l,x<18446744073709551616)→(∀ q∈qs,q / 64<l.length)→∀ x∈qs.foldl hU l,x<18446744073709551616
 | [],l,h,_=>h
 | q::qs,l,h,hq=>by
  rw [List.foldl_cons]
  exact marks_64 (markW_64 h (hq q (by simp))) (λ x hx=>by rw [length_markW];exact hq x (List.mem_cons_of_mem _ hx))
theorem zeros_bit (n k j:Nat):((List.replicate n 0).getD k 0).testBit j=false:=by
 rw [List.getD_eq_getElem?_getD,List.getElem?_replicate]
 split<;>simp
theorem keep_div {s:Pg} (hs:PgOk s) {qs:List Nat} (h:∀ q∈qs,dE s q=true):∀ q∈qs,q / 64<(List.replicate s.words.length 0).length:=λ q hq=>by
 rw [List.length_replicate]
 exact used_div hs (fH (h q hq))
theorem keep_used {s:Pg} (hs:PgOk s) {qs:List Nat} (h:∀ q∈qs,dE s q=true) (k:Nat):dE (keepP s qs) k=decide (k∈qs):=by
 unfold dE keepP lI
 simp only
 rw [marks_bit _ _ _ (keep_div hs h),zeros_bit,Bool.or_false]
 by_cases hk:k∈qs
 ·simp [hk,fH (h k hk)]
 ·simp [hk]
theorem keep_ok {s:Pg} (hs:PgOk s) {qs:List Nat} (h:∀ q∈qs,dE s q=true):PgOk (keepP s qs):=by
 refine ⟨?_,?_,λ n hn=>?_,hs.cnt⟩
 ·show (lI s qs).length=_
  unfold lI
  rw [kR,List.length_replicate]
  exact hs.wl
 ·exact marks_64 (λ x hx=>by rw [(List.mem_replicate.1 hx).2];decide) (keep_div hs h)
 ·show ((lI s qs).getD (n / 64) 0).testBit (n%64)=false
  unfold lI
  rw [marks_bit _ _ _ (keep_div hs h),zeros_bit,Bool.or_false]
  refine decide_eq_false λ hm=>?_
  have:=fH (h n hm)
  have hn':s.count≤n:=hn
  omega
theorem cnt_le (p:Nat→Bool) (n N:Nat):((List.range N).filter λ k=>k==n || p k).length≤((List.range N).filter p).length+1:=by
 cases hp:p n with
 | false=>rw [cnt_add p n hp N];split<;>omega
 | true =>
  have:(λ k=>k==n || p k)=p:=by
   funext k
   by_cases h:k=n
   ·subst h;simp [hp]
   ·simp [h]
  rw [this]
  omega
theorem cnt_mem (N:Nat):∀ qs:List Nat,((List.range N).filter λ k=>decide (k∈qs)).length≤qs.length
 | []=>by simp
 | q::qs=>by
  have h:=cnt_le (λ k=>decide (k∈qs)) q N
  have ih:=cnt_mem N qs
  have e:(λ k=>decide (k∈q::qs))=(λ k=>k==q || decide (k∈qs)):=by
   funext k
   by_cases h:k=q<;>simp [h]
  rw [e,List.length_cons]
  omega
theorem keep_spare {s:Pg} (hs:PgOk s) {qs:List Nat} (h:∀ q∈qs,dE s q=true):s.count≤bZ (keepP s qs)+qs.length:=by
 have e:gT (keepP s qs)=((List.range s.count).filter λ k=>decide (k∈qs)).length:=by
  unfold gT
  congr 1
  exact List.filter_congr λ k _=>keep_used hs h k
 have:=cnt_mem s.count qs
 unfold bZ
 rw [e]
 show s.count≤s.count-_+_
 omega
theorem keep_node {s:Pg} (hs:PgOk s) {qs:List Nat} (h:∀ q∈qs,dE s q=true) {n:Nat} (hn:n∈qs):dR (keepP s qs) n=dR s n:=by
 unfold dR
 rw [keep_used hs h,h n hn,decide_eq_true hn]
 rfl
theorem Vt.kept {s s':Pg}:∀ {h:Nat} {nd:Nd} {l:dO} {ps:List Nat},(∀ p∈ps,dR s' p=dR s p)→Vt s h nd l ps→Vt s' h nd l ps
 | 0,_,_,_,_,h=>h
 | h+1,nd,l,ps,hk,⟨ls,h1,h2,h3,h4,h5,h6,h7,h8⟩=>⟨ls,h1,h2,h3,h4,h5,h6,h7,λ x hx2=>by
  obtain ⟨nd',g1,g2,g3⟩:=h8 x hx2
  have hin:∀ p∈x.page::x.ps,p∈ps:=λ p hp=>by rw [h7];exact List.mem_flatMap.2 ⟨x,hx2,hp⟩
  exact ⟨nd',(hk _ (hin _ (by simp))).trans g1,g2,g3.kept λ p hp=>hk _ (hin _ (List.mem_cons_of_mem _ hp))⟩⟩
theorem TrAt.kept {s s':Pg} {r:Option Nat} {lv:Nat} {l:dO} {ps:List Nat} (h:TrAt s r lv l ps) (hk:∀ p∈ps,dR s' p=dR s p):TrAt s' r lv l ps:=by
 cases r with
 | none=>exact h
 | some n =>
  obtain ⟨h,nd,ps',e1,e2,e3,e4,rfl⟩:=h
  exact ⟨h,nd,ps',e1,(hk n (by simp)).trans e2,e3.kept λ p hp=>hk p (List.mem_cons_of_mem _ hp),e4,rfl⟩
theorem TrAt.used {s:Pg} {r:Option Nat} {lv:Nat} {l:dO} {ps:List Nat} (h:TrAt s r lv l ps):∀ p∈ps,dE s p=true:=by
 cases r with
 | none=>rw [h.2.2];intro p hp;cases hp
 | some n =>
  obtain ⟨h,nd,ps',e1,e2,e3,e4,rfl⟩:=h
  intro p hp
  rcases List.mem_cons.1 hp with rfl|hp
  ·exact eT e2
  ·obtain ⟨h',nd',l',ps'',k1,k2,k3⟩:=e3.below p hp
   exact eT k2
theorem TrAt.keep {s:Pg} (hs:PgOk s) {qs:List Nat} (hq:∀ q∈qs,dE s q=true) {r:Option Nat} {lv:Nat} {l:dO} {ps:List Nat} (h:TrAt s r lv l ps) (hp:∀ p∈ps,p∈qs):TrAt (keepP s qs) r lv l ps :=
 h.kept λ p hm=>keep_node hs hq (hp p hm)
theorem low_off (k m:Nat):(2^k*(2*m+1))&&&(2^k*(2*m+1)-1)=2^k*(2*m):=by
 apply Nat.eq_of_testBit_eq
 intro i
 rw [Nat.testBit_and,mD,bit_pred]
 have h:=Nat.testBit_two_pow_mul_add (2*m) (b:=0) (i:=k) (Nat.two_pow_pos k) i
 rw [Nat.add_zero] at h
 rw [h]
 by_cases h1:i<k
 ·simp [h1]
 ·by_cases h2:i=k
  ·subst h2;simp
  ·rw [if_neg h1,if_neg h1,if_neg h2,if_neg h2,if_neg h1]
   obtain ⟨t,ht⟩:∃ t,i-k=t+1:=⟨i-k-1,by omega⟩
   rw [ht,Nat.testBit_succ,show 2*m / 2=m by omega]
   simp
structure Sift (ws:List Nat) (i:Nat) (y:Nat) (l:List Nat):Prop where
 le:y<18446744073709551616
 at_:∃ t,t≤64∧l=(List.range (64*i+t)).filter (bitF ws)∧∀ j,y.testBit j=(decide (t≤j)&&(ws.getD i 0).testBit j)
theorem Sift.start {ws:List Nat} {i:Nat} {l:List Nat} (h:(ws.getD i 0)<18446744073709551616) (hl:l=(List.range (64*i)).filter (bitF ws)):Sift ws i (ws.getD i 0) l :=
 ⟨h,0,by omega,hl,λ j=>by simp⟩
theorem bitF_at (ws:List Nat) (i j:Nat) (h:j<64):bitF ws (64*i+j)=(ws.getD i 0).testBit j:=by
 unfold bitF
 rw [show (64*i+j) / 64=i by omega,show (64*i+j)%64=j by omega]
theorem filter_gap (p:Nat→Bool) (a b:Nat) (h:a≤b) (hp:∀ k,a≤k→k<b→p k=false):(List.range b).filter p=(List.range a).filter p:=by
 obtain ⟨d,rfl⟩:∃ d,b=a+d:=⟨b-a,by omega⟩
 rw [List.range_add,List.filter_append]
 have e1:((List.range d).map (a + ·)).filter p=[]:=by
  rw [List.filter_eq_nil_iff]
  intro n hn
  obtain ⟨j,hj,rfl⟩:=List.mem_map.1 hn
  rw [hp (a+j) (by omega) (by have:=List.mem_range.1 hj;omega)]
  simp
 rw [e1,List.append_nil]
theorem Sift.step {ws:List Nat} {i k m:Nat} {l:List Nat} (h:Sift ws i (2^k*(2*m+1)) l):k<64∧Sift ws i (2^k*(2*m)) (l++[64*i+k]):=by
 obtain ⟨h1,t,ht,hl,hb⟩:=h
 have hk64:k<64:=by
  rcases Nat.lt_or_ge k 64 with h2|h2
  ·exact h2
  ·have h3:2^64≤2^k:=Nat.pow_le_pow_right (by omega) h2
   have h4:2^k*1≤2^k*(2*m+1):=Nat.mul_le_mul_left _ (by omega)
   have h5:(2:Nat)^64=18446744073709551616:=by decide
   omega
 have hbk:=hb k
 rw [mD,if_neg (by omega),if_pos rfl] at hbk
 have hbk':=Bool.and_eq_true_iff.1 hbk.symm
 have htk:t≤k:=by simpa using hbk'.1
 refine ⟨hk64,?_,k+1,by omega,?_,λ j=>?_⟩
 ·have h4:2^k*(2*m)≤2^k*(2*m+1):=Nat.mul_le_mul_left _ (by omega)
  omega
 ·rw [hl,show 64*i+(k+1)=(64*i+k)+1 by omega,List.range_succ,List.filter_append]
  congr 1
  ·refine (filter_gap _ _ _ (by omega) λ z hz1 hz2=>?_).symm
   obtain ⟨j,rfl⟩:∃ j,z=64*i+j:=⟨z-64*i,by omega⟩
   rw [bitF_at _ _ _ (by omega)]
   have hj:=hb j
   rw [mD,if_pos (by omega),decide_eq_true (show t≤j by omega),Bool.true_and] at hj
   exact hj.symm
  ·have:bitF ws (64*i+k)=true:=by rw [bitF_at _ _ _ hk64];exact hbk'.2
   simp [List.filter,this]
 ·have e:=low_off k m
  rw [← e,Nat.testBit_and,hb j,bit_pred]
  by_cases h2:j<k
  ·have h3:=hb j
   rw [mD,if_pos h2] at h3
   rw [← h3]
   have:¬ k+1≤j:=by omega
   simp [this]
  ·by_cases h3:j=k
   ·subst h3
    have:¬ j+1≤j:=by omega
    simp [this]
   ·rw [if_neg h2,if_neg h3]
    have h4:=hb j
    rw [mD,if_neg h2,if_neg h3,decide_eq_true (show t≤j by omega),Bool.true_and] at h4
    rw [← h4,decide_eq_true (show t≤j by omega),decide_eq_true (show k+1≤j by omega)]
    simp
theorem Sift.done {ws:List Nat} {i:Nat} {l:List Nat} (h:Sift ws i 0 l):l=(List.range (64*(i+1))).filter (bitF ws):=by
 obtain ⟨h1,t,ht,hl,hb⟩:=h
 rw [hl]
 refine (filter_gap _ _ _ (by omega) λ z hz1 hz2=>?_).symm
 obtain ⟨j,rfl⟩:∃ j,z=64*i+j:=⟨z-64*i,by omega⟩
 rw [bitF_at _ _ _ (by omega)]
 have hj:=hb j
 rw [Nat.zero_testBit,decide_eq_true (show t≤j by omega),Bool.true_and] at hj
 exact hj.symm
theorem Sift.len {ws:List Nat} {i y:Nat} {l:List Nat} (h:Sift ws i y l):l.length≤64*i+64:=by
 obtain ⟨h1,t,ht,hl,hb⟩:=h
 rw [hl]
 refine Nat.le_trans (List.length_filter_le _ _) ?_
 rw [List.length_range]
 omega
end Go.Proofs.YtfpadnmdafiddaaGreatDoor
