import Derived.Test.YtfpadnmdafiddaaGreatDoorJ0
import Derived.Test.YtfpadnmdafiddaaGreatDoorJl
import Derived.Test.YtfpadnmdafiddaaGreatDoorJh
import Derived.Test.YtfpadnmdafiddaaGreatDoorJg
import Derived.Test.YtfpadnmdafiddaaGreatDoorJi
import Derived.Test.YtfpadnmdafiddaaGreatDoorJf
import Derived.Test.YtfpadnmdafiddaaGreatDoorJk
set_option linter.all false
set_option maxHeartbeats 16000000
set_option maxRecDepth 100000
namespace Go.Proofs.YtfpadnmdafiddaaGreatDoor
def lL (s:Pg) (qs:List Nat):List Nat:=qs.foldl hU (List.replicate s.words.length 0)
def jL (s:Pg) (qs:List Nat):Pg:={ s with words:=lL s qs }
theorem length_markW (l:List Nat) (n:Nat):(hU l n).length=l.length:=by simp [hU]
theorem lT:∀ (qs l:List Nat),(qs.foldl hU l).length=l.length
 | [],l=>rfl
 | q::qs,l=>by rw [List.foldl_cons,lT qs,length_markW]
theorem marks_bit:∀ (qs l:List Nat) (k:Nat),(∀ q∈qs,q / 64<l.length)→((qs.foldl hU l).getD (k / 64) 0).testBit (k%64)=(decide (k∈qs) || (l.getD (k / 64) 0).testBit (k%64))
 | [],l,k,_=>by simp
 | q::qs,l,k,h=>by
  rw [List.foldl_cons,marks_bit qs _ k (λ x hx=>by rw [length_markW];exact h x (List.mem_cons_of_mem _ hx)),markW_bit _ _ _ (h q sM)];by_cases h1:k=q
  ·subst h1;simp
  ·simp [h1]
theorem markW_64 {l:List Nat} {n:Nat} (h:∀ x∈l,x<18446744073709551616) (hd:n / 64<l.length):∀ x∈hU l n,x<18446744073709551616:=by
 intro x hx;unfold hU at hx;rcases List.mem_or_eq_of_mem_set hx with hx|rfl
 ·exact h x hx
 ·have h5:l.getD (n / 64) 0<2^64:=by
   rw [List.getD_eq_getElem?_getD,List.getElem?_eq_getElem hd];exact h _ (List.getElem_mem hd)
  have h6:2^(n%64)<2^64:=Nat.pow_lt_pow_right dM (Nat.mod_lt _ dM);exact Nat.or_lt_two_pow h5 h6
theorem marks_64:∀ {qs l:List Nat},(∀ x∈l,x<18446744073709551616)→(∀ q∈qs,q / 64<l.length)→∀ x∈qs.foldl hU l,x<18446744073709551616
 | [],l,h,_=>h
 | q::qs,l,h,hq=>by
  rw [List.foldl_cons];exact marks_64 (markW_64 h (hq q sM)) (λ x hx=>by rw [length_markW];exact hq x (List.mem_cons_of_mem _ hx))
theorem zeros_bit (n k j:Nat):((List.replicate n 0).getD k 0).testBit j=false:=by
 rw [List.getD_eq_getElem?_getD,List.getElem?_replicate];split<;>simp
theorem keep_div {s:Pg} (hs:PgOk s) {qs:List Nat} (h:∀ q∈qs,bK s q=true):∀ q∈qs,q / 64<(List.replicate s.words.length 0).length:=λ q hq=>by
 rw [List.length_replicate];exact used_div hs (dW (h q hq))
theorem kH {s:Pg} (hs:PgOk s) {qs:List Nat} (h:∀ q∈qs,bK s q=true) (k:Nat):bK (jL s qs) k=decide (k∈qs):=by
 unfold bK jL lL;simp only;rw [marks_bit _ _ _ (keep_div hs h),zeros_bit,Bool.or_false];by_cases hk:k∈qs
 ·simp [hk,dW (h k hk)]
 ·simp [hk]
theorem keep_ok {s:Pg} (hs:PgOk s) {qs:List Nat} (h:∀ q∈qs,bK s q=true):PgOk (jL s qs):=by
 refine ⟨?_,?_,λ n hn=>?_,hs.cnt⟩
 ·show (lL s qs).length=_;unfold lL;rw [lT,List.length_replicate];exact hs.wl
 ·exact marks_64 (λ x hx=>by rw [(List.mem_replicate.1 hx).2];decide) (keep_div hs h)
 ·show ((lL s qs).getD (n / 64) 0).testBit (n%64)=false;unfold lL;rw [marks_bit _ _ _ (keep_div hs h),zeros_bit,Bool.or_false];refine decide_eq_false λ hm=>?_;have:=dW (h n hm);have a0:s.count≤n:=hn;omega
theorem cnt_le (p:Nat→Bool) (n N:Nat):((List.range N).filter λ k=>k==n || p k).length≤((List.range N).filter p).length+1:=by
 cases hp:p n with
 | false=>rw [cnt_add p n hp N];split<;>omega
 | true =>
  have:(λ k=>k==n || p k)=p:=by
   funext k
   by_cases h:k=n
   ·subst h;simp [hp]
   ·simp [h]
  rw [this];omega
theorem cnt_mem (N:Nat):∀ qs:List Nat,((List.range N).filter λ k=>decide (k∈qs)).length≤qs.length
 | []=>by simp
 | q::qs=>by
  have h:=cnt_le (λ k=>decide (k∈qs)) q N;have ih:=cnt_mem N qs
  have e:(λ k=>decide (k∈q::qs))=(λ k=>k==q || decide (k∈qs)):=by
   funext k
   by_cases h:k=q<;>simp [h]
  rw [e,List.length_cons];omega
theorem keep_spare {s:Pg} (hs:PgOk s) {qs:List Nat} (h:∀ q∈qs,bK s q=true):s.count≤cR (jL s qs)+qs.length:=by
 have e:fR (jL s qs)=((List.range s.count).filter λ k=>decide (k∈qs)).length:=by
  unfold fR;congr 1
  exact List.filter_congr λ k _=>kH hs h k
 have:=cnt_mem s.count qs;unfold cR;rw [e];show s.count≤s.count-_+_;omega
theorem keep_node {s:Pg} (hs:PgOk s) {qs:List Nat} (h:∀ q∈qs,bK s q=true) {n:Nat} (hn:n∈qs):cD (jL s qs) n=cD s n:=by
 unfold cD;rw [kH hs h,h n hn,decide_eq_true hn];rfl
theorem Vt.kept {s s':Pg}:∀ {h:Nat} {nd:Nd} {l:bQ} {ps:List Nat},(∀ p∈ps,cD s' p=cD s p)→Vt s h nd l ps→Vt s' h nd l ps
 | 0,_,_,_,_,h=>h
 | h+1,nd,l,ps,hk,⟨ls,h1,h2,h3,h4,h5,h6,h7,h8⟩=>⟨ls,h1,h2,h3,h4,h5,h6,h7,λ x a0=>by
  obtain ⟨nd',g1,g2,g3⟩:=h8 x a0;have hin:∀ p∈x.page::x.ps,p∈ps:=λ p hp=>by rw [h7];exact List.mem_flatMap.2 ⟨x,a0,hp⟩
  exact ⟨nd',(hk _ (hin _ sM)).trans g1,g2,g3.kept λ p hp=>hk _ (hin _ (List.mem_cons_of_mem _ hp))⟩⟩
theorem TrAt.kept {s s':Pg} {r:Option Nat} {lv:Nat} {l:bQ} {ps:List Nat} (h:TrAt s r lv l ps) (hk:∀ p∈ps,cD s' p=cD s p):TrAt s' r lv l ps:=by
 cases r with
 | none=>exact h
 | some n =>
  obtain ⟨h,nd,a0,e1,e2,e3,e4,rfl⟩:=h;exact ⟨h,nd,a0,e1,(hk n sM).trans e2,e3.kept λ p hp=>hk p (List.mem_cons_of_mem _ hp),e4,rfl⟩
theorem TrAt.used {s:Pg} {r:Option Nat} {lv:Nat} {l:bQ} {ps:List Nat} (h:TrAt s r lv l ps):∀ p∈ps,bK s p=true:=by
 cases r with
 | none=>rw [h.2.2];intro p hp;cases hp
 | some n =>
  obtain ⟨h,nd,e0,e1,e2,e3,e4,rfl⟩:=h;intro p hp;rcases List.mem_cons.1 hp with rfl|hp
  ·exact dL e2
  ·obtain ⟨h',f0,l',a0,k1,k2,k3⟩:=e3.below p hp;exact dL k2
theorem TrAt.keep {s:Pg} (hs:PgOk s) {qs:List Nat} (hq:∀ q∈qs,bK s q=true) {r:Option Nat} {lv:Nat} {l:bQ} {ps:List Nat} (h:TrAt s r lv l ps) (hp:∀ p∈ps,p∈qs):TrAt (jL s qs) r lv l ps :=
 h.kept λ p hm=>keep_node hs hq (hp p hm)
def usedL (s:Pg):List Nat:=(List.range s.count).filter λ n=>bK s n
theorem usedL_len (s:Pg):(usedL s).length=fR s:=rfl
theorem low_off (k m:Nat):(2^k*(2*m+1))&&&(2^k*(2*m+1)-1)=2^k*(2*m):=by
 apply Nat.eq_of_testBit_eq;intro i;rw [Nat.testBit_and,mV,bit_pred];have h:=Nat.testBit_two_pow_mul_add (2*m) (b:=0) (i:=k) (Nat.two_pow_pos k) i;rw [Nat.add_zero] at h;rw [h];by_cases h1:i<k
 ·simp [h1]
 ·by_cases h2:i=k
  ·subst h2;simp
  ·rw [if_neg h1,if_neg h1,if_neg h2,if_neg h2,if_neg h1];obtain ⟨t,ht⟩:∃ t,i-k=t+1:=⟨i-k-1,oM⟩
   rw [ht,Nat.testBit_succ,show 2*m / 2=m by omega];simp
structure Sift (ws:List Nat) (i:Nat) (y:Nat) (l:List Nat):Prop where
 le:y<18446744073709551616
 at_:∃ t,t≤64∧l=(List.range (64*i+t)).filter (bitF ws)∧∀ j,y.testBit j=(decide (t≤j)&&(ws.getD i 0).testBit j)
theorem Sift.start {ws:List Nat} {i:Nat} {l:List Nat} (h:(ws.getD i 0)<18446744073709551616) (hl:l=(List.range (64*i)).filter (bitF ws)):Sift ws i (ws.getD i 0) l :=
 ⟨h,0,oM,hl,λ j=>by simp⟩
theorem bitF_at (ws:List Nat) (i j:Nat) (h:j<64):bitF ws (64*i+j)=(ws.getD i 0).testBit j:=by
 unfold bitF;rw [show (64*i+j) / 64=i by omega,show (64*i+j)%64=j by omega]
theorem filter_gap (p:Nat→Bool) (a b:Nat) (h:a≤b) (hp:∀ k,a≤k→k<b→p k=false):(List.range b).filter p=(List.range a).filter p:=by
 obtain ⟨d,rfl⟩:∃ d,b=a+d:=⟨b-a,oM⟩
 rw [List.range_add,List.filter_append]
 have e1:((List.range d).map (a + ·)).filter p=[]:=by
  rw [List.filter_eq_nil_iff];intro n hn;obtain ⟨j,hj,rfl⟩:=List.mem_map.1 hn;rw [hp (a+j) oM (by have:=List.mem_range.1 hj;omega)];simp
 rw [e1,List.append_nil]
theorem Sift.step {ws:List Nat} {i k m:Nat} {l:List Nat} (h:Sift ws i (2^k*(2*m+1)) l):k<64∧Sift ws i (2^k*(2*m)) (l++[64*i+k]):=by
 obtain ⟨h1,t,ht,hl,hb⟩:=h
 have a0:k<64:=by
  rcases Nat.lt_or_ge k 64 with h2|h2
  ·exact h2
  ·have h3:2^64≤2^k:=Nat.pow_le_pow_right oM h2;have h4:2^k*1≤2^k*(2*m+1):=Nat.mul_le_mul_left _ oM;have h5:(2:Nat)^64=18446744073709551616:=by decide
   omega
 have f0:=hb k;rw [mV,if_neg oM,if_pos rfl] at f0;have e0:=Bool.and_eq_true_iff.1 f0.symm;have i0:t≤k:=by simpa using e0.1
 refine ⟨a0,?_,k+1,oM,?_,λ j=>?_⟩
 ·have h4:2^k*(2*m)≤2^k*(2*m+1):=Nat.mul_le_mul_left _ oM;omega
 ·rw [hl,show 64*i+(k+1)=(64*i+k)+1 by omega,List.range_succ,List.filter_append];congr 1
  ·refine (filter_gap _ _ _ oM λ z h0 g0=>?_).symm;obtain ⟨j,rfl⟩:∃ j,z=64*i+j:=⟨z-64*i,oM⟩
   rw [bitF_at _ _ _ oM];have hj:=hb j;rw [mV,if_pos oM,decide_eq_true (show t≤j by omega),Bool.true_and] at hj;exact hj.symm
  ·have:bitF ws (64*i+k)=true:=by rw [bitF_at _ _ _ a0];exact e0.2
   simp [List.filter,this]
 ·have e:=low_off k m;rw [← e,Nat.testBit_and,hb j,bit_pred];by_cases h2:j<k
  ·have h3:=hb j;rw [mV,if_pos h2] at h3;rw [← h3];have:¬ k+1≤j:=by omega
   simp [this]
  ·by_cases h3:j=k
   ·subst h3;have:¬ j+1≤j:=by omega
    simp [this]
   ·rw [if_neg h2,if_neg h3];have h4:=hb j;rw [mV,if_neg h2,if_neg h3,decide_eq_true (show t≤j by omega),Bool.true_and] at h4;rw [← h4,decide_eq_true (show t≤j by omega),decide_eq_true (show k+1≤j by omega)];simp
theorem Sift.done {ws:List Nat} {i:Nat} {l:List Nat} (h:Sift ws i 0 l):l=(List.range (64*(i+1))).filter (bitF ws):=by
 obtain ⟨h1,t,ht,hl,hb⟩:=h;rw [hl];refine (filter_gap _ _ _ oM λ z e0 a0=>?_).symm;obtain ⟨j,rfl⟩:∃ j,z=64*i+j:=⟨z-64*i,oM⟩
 rw [bitF_at _ _ _ oM];have hj:=hb j;rw [Nat.zero_testBit,decide_eq_true (show t≤j by omega),Bool.true_and] at hj;exact hj.symm
theorem Sift.len {ws:List Nat} {i y:Nat} {l:List Nat} (h:Sift ws i y l):l.length≤64*i+64:=by
 obtain ⟨h1,t,ht,hl,hb⟩:=h;rw [hl];refine Nat.le_trans (List.length_filter_le _ _) ?_;rw [List.length_range];omega
theorem rdBlk_inv {r p t:Bs} (hr:fL r) (h:kF r=some (p,t)):r=bV p++t:=by
 unfold kF at h;split at h;rotate_left
 ·cases h
 rename_i h0;split at h;rotate_left
 ·cases h
 rename_i a0;simp only [Option.some.injEq,Prod.mk.injEq] at h;obtain ⟨hp,ht⟩:=h;have hb:=(numV_back (r:=r) (v:=(gA r).1) (k:=(gA r).2.1) hr (by rw [← h0])).1;have hl:p.length=(gA r).1:=by rw [← hp,List.length_take];omega
 unfold bV;rw [hl,List.append_assoc,← hp,← ht,List.take_append_drop];exact hb
theorem rdItems_inv:∀ {c:Nat} {r t:Bs} {l:bQ},fL r→iX c r=some (l,t)→r=l.flatMap (λ x=>bV x.1++bV x.2)++t∧l.length=c
 | 0,r,t,l,hr,h=>by
  simp only [iX,Option.some.injEq,Prod.mk.injEq] at h;obtain ⟨rfl,rfl⟩:=h;exact ⟨rfl,rfl⟩
 | c+1,r,t,l,hr,h=>by
  unfold iX at h;split at h
  ·cases h
  rename_i k r1 e1;split at h
  ·cases h
  rename_i v r2 e2;split at h
  ·cases h
  rename_i l' r3 e3;simp only [Option.some.injEq,Prod.mk.injEq] at h;obtain ⟨rfl,rfl⟩:=h;have b2:=(nJ hr e1).2;have b4:=(nJ b2 e2).2;obtain ⟨q1,q2⟩:=rdItems_inv b4 e3;refine ⟨?_,by simp [q2]⟩;rw [rdBlk_inv hr e1,rdBlk_inv b2 e2];conv=>lhs;rw [q1]
  simp
theorem rdWord_inv {r t:Bs} {k:Nat} (hr:fL r) (h:rdWord r=some (k,t)):r=bS k++t:=by
 unfold rdWord at h;split at h;rotate_left
 ·cases h
 rename_i h4;simp only [Option.some.injEq,Prod.mk.injEq] at h;obtain ⟨rfl,rfl⟩:=h
 match r,h4 with
 | a::b::c::d::r',_ =>
  have h1:=hr a sM;have h2:=hr b sM;have h3:=hr c sM;have h4:=hr d sM;simp only [le4,bS,List.getD_cons_zero,List.getD_cons_succ,List.drop_succ_cons,List.drop_zero,List.cons_append,List.nil_append,List.cons.injEq,and_true];omega
theorem rdKids_inv:∀ {c:Nat} {r t:Bs} {l:List Nat},fL r→lD c r=some (l,t)→r=l.flatMap bS++t∧l.length=c
 | 0,r,t,l,hr,h=>by
  simp only [lD,Option.some.injEq,Prod.mk.injEq] at h;obtain ⟨rfl,rfl⟩:=h;exact ⟨rfl,rfl⟩
 | c+1,r,t,l,hr,h=>by
  unfold lD at h;split at h
  ·cases h
  rename_i k r1 e1;split at h
  ·cases h
  rename_i l' r3 e3;simp only [Option.some.injEq,Prod.mk.injEq] at h;obtain ⟨rfl,rfl⟩:=h;have e:=rdWord_inv hr e1;have b2:fL r1:=λ x hx=>hr x (by rw [e];exact List.mem_append_right _ hx);obtain ⟨q1,q2⟩:=rdKids_inv b2 e3;refine ⟨?_,by simp [q2]⟩;rw [e];conv=>lhs;rw [q1]
  simp
theorem rdKeys_inv:∀ {c:Nat} {r t:Bs} {l:List Bs},fL r→lE c r=some (l,t)→r=l.flatMap bV++t∧l.length=c
 | 0,r,t,l,hr,h=>by
  simp only [lE,Option.some.injEq,Prod.mk.injEq] at h;obtain ⟨rfl,rfl⟩:=h;exact ⟨rfl,rfl⟩
 | c+1,r,t,l,hr,h=>by
  unfold lE at h;split at h
  ·cases h
  rename_i k r1 e1;split at h
  ·cases h
  rename_i l' r3 e3;simp only [Option.some.injEq,Prod.mk.injEq] at h;obtain ⟨rfl,rfl⟩:=h;have e:=rdBlk_inv hr e1;have b2:=(nJ hr e1).2;obtain ⟨q1,q2⟩:=rdKeys_inv b2 e3;refine ⟨?_,by simp [q2]⟩;rw [e];conv=>lhs;rw [q1]
  simp
theorem zeros_of:∀ {r:Bs},r.all (λ x=>x==0)=true→r=List.replicate r.length 0
 | [],_=>rfl
 | x::r,h=>by
  simp only [List.all_cons,Bool.and_eq_true,beq_iff_eq] at h;simp only [List.length_cons,List.replicate_succ,List.cons.injEq];exact ⟨h.1,zeros_of h.2⟩
theorem finN_inv {m n:Nd} {r:Bs} (h:finN m r=some n):m=n∧bE n=true∧r=List.replicate r.length 0:=by
 unfold finN at h;split at h
 ·rename_i hc;simp only [Option.some.injEq] at h;subst h;obtain ⟨h1,h2⟩:=Bool.and_eq_true_iff.1 hc;exact ⟨rfl,h2,zeros_of h1⟩
 ·cases h
theorem readN_inv {b:Bs} {n:Nd} (hb:fL b) (h:gC b=some n):∃ z,b=dE n++List.replicate z 0:=by
 have e0:=readN_ok h;unfold gC at h;split at h;rotate_left
 ·cases h
 rename_i kd c r;have hr:fL r:=λ x hx=>hb x (by simp [hx]);split at h
 ·cases h
 rename_i h8;split at h
 ·rename_i h0;subst h0;split at h
  ·cases h
  rename_i l r1 e1;obtain ⟨rfl,q2,q3⟩:=finN_inv h;obtain ⟨q4,q5⟩:=rdItems_inv hr e1;refine ⟨r1.length,?_⟩;unfold dE;rw [if_pos (show bM (⟨l,[],[]⟩:Nd)=true from rfl)];simp only [List.cons_append,List.nil_append,List.cons.injEq,true_and];rw [← q3];exact ⟨q5.symm,q4⟩
 split at h;rotate_left
 ·cases h
 rename_i h1;obtain ⟨h1,h2⟩:=h1;subst h1;split at h
 ·cases h
 rename_i l r1 e1;split at h
 ·cases h
 rename_i ks r2 e2;obtain ⟨rfl,q2,q3⟩:=finN_inv h;obtain ⟨q4,q5⟩:=rdKids_inv hr e1;have a0:fL r1:=rdKids_by hr e1;obtain ⟨q6,q7⟩:=rdKeys_inv a0 e2;refine ⟨r2.length,?_⟩
 have hl:bM (⟨[],l,ks⟩:Nd)=false:=by
  cases hll:bM (⟨[],l,ks⟩:Nd) with
  | false=>rfl
  | true=>have:=bL.1 hll;simp only at this;rw [this] at q5;simp at q5;omega
 unfold dE;rw [if_neg (by rw [hl];simp)];simp only [List.cons_append,List.nil_append,List.cons.injEq,true_and];rw [← q3];refine ⟨q5.symm,?_⟩;rw [q4];conv=>lhs;rw [q6]
 simp
theorem nodeP_body {s:Pg} {n:Nat} {nd:Nd} (hs:PgB s) (h:cD s n=some nd):bE nd=true∧∃ z,s.body n=dE nd++List.replicate z 0:=by
 refine ⟨fG h,?_⟩;unfold cD at h;split at h
 ·exact readN_inv (hs n) h
 ·cases h
theorem toks_apart:∀ {ls:List Sb} {ks:List Bs},ls.length=ks.length+1→(toks ls ks).Pairwise RT→ls.Pairwise λ x y=>RT (.T x) (.T y):=by
 intro ls
 induction ls with
 | nil=>intro ks _ _;exact List.Pairwise.nil
 | cons x r ih =>
  intro ks hl hp;simp only [toks] at hp;obtain ⟨h1,h2⟩:=List.pairwise_cons.1 hp;have hr:r.length=ks.length:=by simpa using hl
  refine List.pairwise_cons.2 ⟨λ y hy=>h1 _ (nX hr hy),?_⟩
  cases r with
  | nil=>exact List.Pairwise.nil
  | cons z zs=>cases ks with
   | nil=>cases hr
   | cons k ks =>
    simp only [KT] at h2;exact ih (ks:=ks) (by simpa using hr) (List.pairwise_cons.1 h2).2
theorem Vt.beneath {s:Pg}:∀ {h:Nat} {nd:Nd} {l:bQ} {ps:List Nat},Vt s h nd l ps→∀ p∈ps,∃ h' a0 l' e0,h'<h∧cD s p=some a0∧Vt s h' a0 l' e0∧4≤aR a0∧∀ x∈l',x∈l
 | 0,nd,l,ps,h,p,hp=>by obtain ⟨_,rfl,_⟩:=h;cases hp
 | h+1,nd,l,ps,⟨ls,e1,e2,e3,_,_,e6,e7,e8⟩,p,hp=>by
  rw [e7] at hp;obtain ⟨x,hx,hpx⟩:=List.mem_flatMap.1 hp;obtain ⟨a0,g1,g2,g3⟩:=e8 x hx;have hsub:∀ y∈x.its,y∈l:=λ y hy=>by rw [e6];exact List.mem_flatMap.2 ⟨x,hx,hy⟩
  rcases List.mem_cons.1 hpx with rfl|hpx
  ·exact ⟨h,a0,_,_,oM,g1,g3,g2,hsub⟩
  ·obtain ⟨h',n',l',e0,q1,q2,q3,q4,q5⟩:=g3.beneath p hpx;exact ⟨h',n',l',e0,oM,q2,q3,q4,λ y hy=>hsub y (q5 y hy)⟩
theorem Vt.notin {s:Pg} {h n:Nat} {nd:Nd} {l:bQ} {ps:List Nat} (hv:Vt s h nd l ps) (hn:cD s n=some nd):n∉ps:=λ hp=>by
 obtain ⟨h',nd',l',ps',q1,q2,q3,_⟩:=hv.beneath n hp;rw [hn] at q2;cases q2;have:=hv.height q3;omega
theorem Vt.nodup {s:Pg}:∀ {h:Nat} {nd:Nd} {l:bQ} {ps:List Nat},Vt s h nd l ps→ps.Nodup
 | 0,nd,l,ps,h=>by obtain ⟨_,rfl,_⟩:=h;exact List.Pairwise.nil
 | h+1,nd,l,ps,⟨ls,e1,e2,e3,e4,_,e6,e7,e8⟩=>by
  rw [e7];refine List.pairwise_flatMap.2 ⟨λ x hx=>?_,?_⟩
  ·obtain ⟨a0,g1,g2,g3⟩:=e8 x hx;exact List.nodup_cons.2 ⟨g3.notin g1,g3.nodup⟩
  ·refine List.Pairwise.imp_of_mem (λ {x y} hx hy g0 p hp q hq e=>?_) (toks_apart e3 e4);subst e
   have at_:∀ z∈ls,p∈z.page::z.ps→∃ h' a0 l' e0,cD s p=some a0∧Vt s h' a0 l' e0∧4≤aR a0∧∀ a∈l',a∈z.its:=λ z hz f0=>by
    obtain ⟨a0,g1,g2,g3⟩:=e8 z hz;rcases List.mem_cons.1 f0 with e|f0
    ·rw [e];exact ⟨h,a0,_,_,g1,g3,g2,λ a ha=>ha⟩
    ·obtain ⟨h',n',l',e0,q1,q2,q3,q4,q5⟩:=g3.beneath p f0;exact ⟨h',n',l',e0,q2,q3,q4,q5⟩
   obtain ⟨h1,n1,l1,p1,a1,a2,a3,a4⟩:=at_ x hx hp;obtain ⟨h2,n2,l2,p2,b1,b2,b3,b4⟩:=at_ y hy hq;rw [a1] at b1;cases b1;obtain rfl:=a2.height b2;obtain ⟨rfl,rfl⟩:=a2.same b2;obtain ⟨a,ha⟩:=List.exists_mem_of_ne_nil _ (a2.ne oM);exact fK _ (g0 a (a4 a ha) a (b4 a ha))
theorem TrAt.nodup {s:Pg} {r:Option Nat} {lv:Nat} {l:bQ} {ps:List Nat} (h:TrAt s r lv l ps):ps.Nodup:=by
 cases r with
 | none=>rw [h.2.2];exact List.Pairwise.nil
 | some n =>
  obtain ⟨h,nd,a0,e1,e2,e3,e4,rfl⟩:=h;exact List.nodup_cons.2 ⟨e3.notin e2,e3.nodup⟩
structure Kd (s:Pg) (h:Nat) (p:Nd) (ls:List Sb):Prop where
 it:p.items=[]
 kids:p.kids=ls.map (·.page)
 len:ls.length=p.keys.length+1
 tok:(toks ls p.keys).Pairwise RT
 keys:∀ k∈p.keys,eF k=true
 sub:∀ x∈ls,∃ nd',cD s x.page=some nd'∧4≤aR nd'∧Vt s h nd' x.its x.ps
theorem Kd.vt {s:Pg} {h:Nat} {p:Nd} {ls:List Sb} (k:Kd s h p ls):Vt s (h+1) p (ls.flatMap (·.its)) (ls.flatMap λ x=>x.page::x.ps) :=
 ⟨ls,k.it,k.kids,k.len,k.tok,k.keys,rfl,rfl,k.sub⟩
theorem Vt.kd {s:Pg} {h:Nat} {p:Nd} {l:bQ} {ps:List Nat} (v:Vt s (h+1) p l ps):∃ ls,Kd s h p ls∧l=ls.flatMap (·.its):=by
 obtain ⟨ls,e1,e2,e3,e4,e5,e6,e7,e8⟩:=v;exact ⟨ls,⟨e1,e2,e3,e4,e5,e8⟩,e6⟩
def Ctx (s:Pg) (H:Nat) (top:Nd):List (Nd×Nat)→Nat→Nd→bQ→bQ→Prop
 | [],h,nd,L,R=>h=H∧nd=top∧L=[]∧R=[]
 | (p,i)::fr,h,nd,L,R=>∃ L0 R0 ls x,Ctx s H top fr (h+1) p L0 R0∧Kd s h p ls∧ls[i]? = some x∧cD s x.page=some nd∧L=L0++(ls.take i).flatMap (·.its)∧R=(ls.drop (i+1)).flatMap (·.its)++R0
theorem split_at {α : Type}:∀ {ls:List α} {i:Nat} {x : α},ls[i]? = some x→ls=ls.take i++x::ls.drop (i+1)
 | [],i,x,h=>by simp at h
 | a::r,0,x,h=>by simp at h;simp [h]
 | a::r,i+1,x,h=>by
  have:=split_at (ls:=r) (i:=i) (x:=x) (by simpa using h);simp only [List.take_succ_cons,List.drop_succ_cons,List.cons_append,List.cons.injEq,true_and];exact this
theorem eA {α : Type} {ls:List α} {i:Nat} {x : α} (h:ls[i]? = some x):ls.take (i+1)=ls.take i++[x]:=by
 rw [List.take_add_one,h];rfl
theorem iI {α : Type} {ls:List α} {i:Nat} {x : α} (h:ls[i]? = some x):ls.drop i=x::ls.drop (i+1):=by
 obtain ⟨hi,e⟩:=List.getElem?_eq_some_iff.1 h;rw [List.drop_eq_getElem_cons hi,e]
theorem Ctx.all {s:Pg} {H:Nat} {top:Nd} {all:bQ} {ps0:List Nat} (hv:Vt s H top all ps0):∀ {fr:List (Nd×Nat)} {h:Nat} {nd:Nd} {L R:bQ},Ctx s H top fr h nd L R→∃ l ps,Vt s h nd l ps∧L++l++R=all∧(fr=[]∨4≤aR nd)∧h+fr.length=H∧∀ p∈ps,p∈ps0
 | [],h,nd,L,R,c=>by
  obtain ⟨rfl,rfl,rfl,rfl⟩:=c;exact ⟨all,ps0,hv,sM,.inl rfl,rfl,λ p hp=>hp⟩
 | (p,i)::fr,h,nd,L,R,c=>by
  obtain ⟨L0,R0,ls,x,c0,k,hx,hn,rfl,rfl⟩:=c;obtain ⟨l,ps,v,e,_,hh,hsub⟩:=Ctx.all hv c0;obtain ⟨e1,e1'⟩:=v.same k.vt;obtain ⟨nd',g1,g2,g3⟩:=k.sub x (List.mem_of_getElem? hx);rw [hn] at g1;cases g1;refine ⟨x.its,x.ps,g3,?_,.inr g2,by simp only [List.length_cons];omega,λ p hp=>hsub p (by rw [e1'];exact List.mem_flatMap.2 ⟨x,List.mem_of_getElem? hx,List.mem_cons_of_mem _ hp⟩)⟩;rw [← e,e1];conv=>rhs;rw [split_at hx]
  simp
def PartsOf (s:Pg):Nat→Nd→List bQ→Prop
 | 0,nd,qs=>qs=nd.items.map λ x=>[x]
 | h+1,nd,qs=>∃ ls,Kd s h nd ls∧qs=ls.map (·.its)
theorem iF {α : Type}:∀ l:List α,(l.map λ x=>[x]).flatten=l
 | []=>rfl
 | a::r=>by simp [iF r]
theorem eQ (ls:List Sb):(ls.map (·.its)).flatten=ls.flatMap (·.its):=by rw [List.flatMap_def]
theorem Vt.parts {s:Pg}:∀ {h:Nat} {nd:Nd} {l:bQ} {ps:List Nat},Vt s h nd l ps→∃ qs,PartsOf s h nd qs∧qs.flatten=l∧qs.length=aR nd
 | 0,nd,l,ps,v=>by
  obtain ⟨rfl,_⟩:=v;exact ⟨_,rfl,iF _,by simp [aR]⟩
 | h+1,nd,l,ps,v=>by
  obtain ⟨ls,k,e⟩:=v.kd;exact ⟨_,⟨ls,k,rfl⟩,by rw [eQ,e],by simp [aR,k.it,k.kids]⟩
theorem PartsOf.same {s:Pg}:∀ {h:Nat} {nd:Nd} {l:bQ} {ps:List Nat} {qs:List bQ},Vt s h nd l ps→PartsOf s h nd qs→qs.flatten=l∧qs.length=aR nd
 | 0,nd,l,ps,qs,v,p=>by
  obtain ⟨rfl,_⟩:=v;cases p;exact ⟨iF _,by simp [aR]⟩
 | h+1,nd,l,ps,qs,v,p=>by
  obtain ⟨ls,k,rfl⟩:=p;exact ⟨by rw [eQ];exact (k.vt.same v).1,by simp [aR,k.it,k.kids]⟩
def Pos (s:Pg) (H:Nat) (top:Nd) (fr:List (Nd×Nat)) (nd:Nd) (c:Nat) (pre post:bQ):Prop :=
 ∃ h L R qs,Ctx s H top fr h nd L R∧PartsOf s h nd qs∧c≤qs.length∧pre=L++(qs.take c).flatten∧post=(qs.drop c).flatten++R
section
variable {s:Pg} {H:Nat} {top:Nd} {al:bQ} {ps0:List Nat}
theorem Pos.all (hv:Vt s H top al ps0) {fr:List (Nd×Nat)} {nd:Nd} {c:Nat} {e0 a0:bQ} (p:Pos s H top fr nd c e0 a0):e0++a0=al∧c≤aR nd∧fr.length≤H∧(fr=[]∨4≤aR nd):=by
 obtain ⟨h,L,R,qs,c0,pq,hc,rfl,rfl⟩:=p;obtain ⟨l,ps,v,e,h4,hh,_⟩:=c0.all hv;obtain ⟨e1,e2⟩:=PartsOf.same v pq;refine ⟨?_,oM,oM,h4⟩;rw [← e,← e1];conv=>rhs;rw [← List.take_append_drop c qs,List.flatten_append]
 simp
theorem Pos.popR (hv:Vt s H top al ps0) {p nd:Nd} {i:Nat} {fr:List (Nd×Nat)} {e0 a0:bQ} (q:Pos s H top ((p,i)::fr) nd (aR nd) e0 a0):Pos s H top fr p (i+1) e0 a0:=by
 obtain ⟨h,L,R,qs,c0,pq,hc,rfl,rfl⟩:=q;obtain ⟨l,ps,v,e,_⟩:=c0.all hv;obtain ⟨e1,e2⟩:=PartsOf.same v pq;obtain ⟨L0,R0,ls,x,c1,k,hx,hn,rfl,rfl⟩:=c0;obtain ⟨f0,g1,g2,g3⟩:=k.sub x (List.mem_of_getElem? hx);rw [hn] at g1;cases g1;have e3:=(g3.same v).1;have hi:=(List.getElem?_eq_some_iff.1 hx).1;refine ⟨h+1,L0,R0,ls.map (·.its),c1,⟨ls,k,rfl⟩,by simp;omega,?_,?_⟩
 ·rw [← e2,List.take_length,e1,← e3,← List.map_take,eQ,eA hx];simp
 ·rw [← e2,List.drop_length,← List.map_drop,eQ];simp
theorem Pos.popL (hv:Vt s H top al ps0) {p nd:Nd} {i:Nat} {fr:List (Nd×Nat)} {e0 a0:bQ} (q:Pos s H top ((p,i)::fr) nd 0 e0 a0):Pos s H top fr p i e0 a0:=by
 obtain ⟨h,L,R,qs,c0,pq,hc,rfl,rfl⟩:=q;obtain ⟨l,ps,v,e,_⟩:=c0.all hv;obtain ⟨e1,e2⟩:=PartsOf.same v pq;obtain ⟨L0,R0,ls,x,c1,k,hx,hn,rfl,rfl⟩:=c0;obtain ⟨f0,g1,g2,g3⟩:=k.sub x (List.mem_of_getElem? hx);rw [hn] at g1;cases g1;have e3:=(g3.same v).1;have hi:=(List.getElem?_eq_some_iff.1 hx).1;refine ⟨h+1,L0,R0,ls.map (·.its),c1,⟨ls,k,rfl⟩,by simp;omega,?_,?_⟩
 ·rw [← List.map_take,eQ];simp
 ·rw [List.drop_zero,e1,← e3,← List.map_drop,eQ,iI hx];simp
theorem Pos.endR (hv:Vt s H top al ps0) {nd:Nd} {e0 a0:bQ} (q:Pos s H top [] nd (aR nd) e0 a0):e0=al∧a0=[]:=by
 have ha:=(q.all hv).1;obtain ⟨h,L,R,qs,c0,pq,hc,rfl,rfl⟩:=q;obtain ⟨l,ps,v,e,_⟩:=c0.all hv;obtain ⟨e1,e2⟩:=PartsOf.same v pq;obtain ⟨rfl,rfl,rfl,rfl⟩:=c0;have h0:(qs.drop (aR nd)).flatten++([]:bQ)=[]:=by rw [← e2,List.drop_length];rfl
 rw [h0,List.append_nil] at ha;exact ⟨ha,h0⟩
theorem Pos.endL (hv:Vt s H top al ps0) {nd:Nd} {e0 a0:bQ} (q:Pos s H top [] nd 0 e0 a0):e0=[]∧a0=al:=by
 have ha:=(q.all hv).1;obtain ⟨h,L,R,qs,c0,pq,hc,rfl,rfl⟩:=q;obtain ⟨rfl,rfl,rfl,rfl⟩:=c0;simp only [List.take_zero,List.flatten_nil,List.append_nil,List.nil_append] at ha ⊢;exact ⟨trivial,ha⟩
theorem Pos.downR (hv:Vt s H top al ps0) {fr:List (Nd×Nat)} {nd f0:Nd} {c k:Nat} {e0 a0:bQ} (q:Pos s H top fr nd c e0 a0) (hk:nd.kids[c]? = some k) (hn:cD s k=some f0):Pos s H top ((nd,c)::fr) f0 0 e0 a0:=by
 obtain ⟨h,L,R,qs,c0,pq,hc,rfl,rfl⟩:=q;obtain ⟨_,_,v,_⟩:=c0.all hv
 cases h with
 | zero=>obtain ⟨rfl,_⟩:=v;simp at hk
 | succ h =>
  obtain ⟨ls,kd,rfl⟩:=pq;rw [kd.kids,List.getElem?_map] at hk;obtain ⟨x,hx,rfl⟩:=Option.map_eq_some_iff.1 hk;obtain ⟨g0,g1,g2,g3⟩:=kd.sub x (List.mem_of_getElem? hx);rw [hn] at g1;cases g1;obtain ⟨qs,p1,p2,p3⟩:=g3.parts;refine ⟨h,_,_,qs,⟨L,R,ls,x,c0,kd,hx,hn,rfl,rfl⟩,p1,Nat.zero_le _,?_,?_⟩
  ·simp only [List.take_zero,List.flatten_nil,List.append_nil,← List.map_take,eQ]
  ·rw [List.drop_zero,p2,← List.map_drop,eQ,iI hx];simp
theorem Pos.downL (hv:Vt s H top al ps0) {fr:List (Nd×Nat)} {nd e0:Nd} {c k:Nat} {f0 a0:bQ} (q:Pos s H top fr nd (c+1) f0 a0) (hk:nd.kids[c]? = some k) (hn:cD s k=some e0):Pos s H top ((nd,c)::fr) e0 (aR e0) f0 a0:=by
 obtain ⟨h,L,R,qs,c0,pq,hc,rfl,rfl⟩:=q;obtain ⟨_,_,v,_⟩:=c0.all hv
 cases h with
 | zero=>obtain ⟨rfl,_⟩:=v;simp at hk
 | succ h =>
  obtain ⟨ls,kd,rfl⟩:=pq;rw [kd.kids,List.getElem?_map] at hk;obtain ⟨x,hx,rfl⟩:=Option.map_eq_some_iff.1 hk;obtain ⟨g0,g1,g2,g3⟩:=kd.sub x (List.mem_of_getElem? hx);rw [hn] at g1;cases g1;obtain ⟨qs,p1,p2,p3⟩:=g3.parts;refine ⟨h,_,_,qs,⟨L,R,ls,x,c0,kd,hx,hn,rfl,rfl⟩,p1,oM,?_,?_⟩
  ·rw [← p3,List.take_length,p2,← List.map_take,eQ,eA hx];simp
  ·rw [← p3,List.drop_length,← List.map_drop,eQ];simp
theorem Pos.leaf (hv:Vt s H top al ps0) {fr:List (Nd×Nat)} {nd:Nd} {c:Nat} {e0 a0:bQ} (q:Pos s H top fr nd c e0 a0) (hl:bM nd=true) {x:Bs×Bs} (hx:nd.items[c]? = some x):∃ post',a0=x::post'∧Pos s H top fr nd (c+1) (e0++[x]) post':=by
 obtain ⟨h,L,R,qs,c0,pq,hc,rfl,rfl⟩:=q;obtain ⟨_,_,v,_⟩:=c0.all hv
 cases h with
 | succ h =>
  obtain ⟨ls,kd,rfl⟩:=pq;have h1:=bL.1 hl;have h2:=kd.len;rw [kd.kids,List.map_eq_nil_iff] at h1;rw [h1] at h2;cases h2
 | zero =>
  cases pq;have hq:(nd.items.map λ x=>[x])[c]? = some [x]:=by rw [List.getElem?_map,hx];rfl
  have hi:=(List.getElem?_eq_some_iff.1 hq).1;refine ⟨((nd.items.map λ x=>[x]).drop (c+1)).flatten++R,?_,⟨0,L,R,_,c0,rfl,hi,?_,rfl⟩⟩
  ·rw [iI hq];rfl
  ·rw [eA hq];simp
theorem Pos.back (hv:Vt s H top al ps0) {fr:List (Nd×Nat)} {nd:Nd} {c:Nat} {e0 a0:bQ} (q:Pos s H top fr nd (c+1) e0 a0) (hl:bM nd=true) {x:Bs×Bs} (hx:nd.items[c]? = some x):∃ pre',e0=pre'++[x]∧Pos s H top fr nd c pre' (x::a0):=by
 obtain ⟨h,L,R,qs,c0,pq,hc,rfl,rfl⟩:=q;obtain ⟨_,_,v,_⟩:=c0.all hv
 cases h with
 | succ h =>
  obtain ⟨ls,kd,rfl⟩:=pq;have h1:=bL.1 hl;have h2:=kd.len;rw [kd.kids,List.map_eq_nil_iff] at h1;rw [h1] at h2;cases h2
 | zero =>
  cases pq;have hq:(nd.items.map λ x=>[x])[c]? = some [x]:=by rw [List.getElem?_map,hx];rfl
  have hi:=(List.getElem?_eq_some_iff.1 hq).1;refine ⟨L++((nd.items.map λ x=>[x]).take c).flatten,?_,⟨0,L,R,_,c0,rfl,oM,rfl,?_⟩⟩
  ·rw [eA hq];simp
  ·rw [iI hq];rfl
theorem Pos.node (hv:Vt s H top al ps0) (hs:PgOk s) {n:Nat} (hn:cD s n=some top) {fr:List (Nd×Nat)} {nd:Nd} {c:Nat} {h0 f0:bQ} (q:Pos s H top fr nd c h0 f0):bE nd=true∧(bM nd=true→aR nd=nd.items.length)∧(bM nd=false→aR nd=nd.kids.length) ∧
  ∀ (i k:Nat),nd.kids[i]? = some k→∃ e0,cD s k=some e0∧4≤aR e0∧k∈ps0∧k<s.count:=by
 obtain ⟨h,L,R,qs,c0,pq,hc,rfl,rfl⟩:=q;obtain ⟨l,ps,v,e,h4,hh,g0⟩:=c0.all hv
 have a0:∃ k,cD s k=some nd:=by
  cases fr with
  | nil=>obtain ⟨rfl,rfl,_⟩:=c0;exact ⟨n,hn⟩
  | cons f fr=>obtain ⟨L0,R0,ls,x,c1,k,hx,hn,rfl,rfl⟩:=c0;exact ⟨_,hn⟩
 obtain ⟨k0,i0⟩:=a0;refine ⟨fG i0,λ hl=>by have:=bL.1 hl;simp [aR,this],λ hl=>?_,λ i k hk=>?_⟩
 ·cases h with
  | zero=>obtain ⟨rfl,_⟩:=v;simp [bM] at hl
  | succ h=>obtain ⟨ls,e1,_⟩:=v;simp [aR,e1]
 ·cases h with
  | zero=>obtain ⟨rfl,_⟩:=v;simp at hk
  | succ h =>
   obtain ⟨ls,e1,e2,e3,e4,e5,e6,e7,e8⟩:=v;rw [e2,List.getElem?_map] at hk;obtain ⟨x,hx,rfl⟩:=Option.map_eq_some_iff.1 hk;obtain ⟨e0,g1,g2,g3⟩:=e8 x (List.mem_of_getElem? hx);exact ⟨e0,g1,g2,g0 _ (by rw [e7];exact List.mem_flatMap.2 ⟨x,List.mem_of_getElem? hx,sM⟩),dW (dL g1)⟩
def Sk (s:Pg) (H:Nat) (top:Nd) (key:Bs) (fr:List (Nd×Nat)) (nd:Nd):Prop:=∃ h L R,Ctx s H top fr h nd L R∧(∀ x∈L,eS x.1 key)∧∀ x∈R,¬ eS x.1 key
theorem Sk.start (key:Bs):Sk s H top key [] top:=⟨H,[],[],⟨rfl,rfl,rfl,rfl⟩,sM,sM⟩
theorem Sk.down (hv:Vt s H top al ps0) {key:Bs} {fr:List (Nd×Nat)} {nd:Nd} (q:Sk s H top key fr nd) (hl:bM nd=false):∃ k a0,nd.kids[gB nd.keys key]? = some k∧cD s k=some a0∧k∈ps0∧Sk s H top key ((nd,gB nd.keys key)::fr) a0:=by
 obtain ⟨h,L,R,c0,q1,q2⟩:=q;obtain ⟨l,ps,v,e,h4,hh,f0⟩:=c0.all hv
 cases h with
 | zero=>obtain ⟨rfl,_⟩:=v;simp [bM] at hl
 | succ h =>
  obtain ⟨ls,kd,e0⟩:=v.kd;have g0:=(v.same kd.vt).2;obtain ⟨la,x,lb,ka,kb,e1,e2,e3,e4,e5,e6,e7,e8⟩:=kid_split kd.len kd.tok key;have hx:ls[gB nd.keys key]? = some x:=by rw [e1,← e3];simp
  obtain ⟨a0,g1,g2,g3⟩:=kd.sub x (List.mem_of_getElem? hx);have ht:ls.take (gB nd.keys key)=la:=by rw [e1,← e3];simp
  have hd:ls.drop (gB nd.keys key+1)=lb:=by rw [e1,← e3];simp
  refine ⟨x.page,a0,by rw [kd.kids,List.getElem?_map,hx];rfl,g1,f0 _ (by rw [g0];exact List.mem_flatMap.2 ⟨x,List.mem_of_getElem? hx,sM⟩),h,_,_,⟨L,R,ls,x,c0,kd,hx,g1,rfl,rfl⟩,?_,?_⟩
  ·rw [ht];intro y hy;rcases List.mem_append.1 hy with hy|hy
   ·exact q1 y hy
   ·exact TK_its e4.symm e6 y hy
  ·rw [hd];intro y hy;rcases List.mem_append.1 hy with hy|hy
   ·exact klt_asymm (KT_its e5 e7 y hy)
   ·exact q2 y hy
theorem Sk.found (hv:Vt s H top al ps0) {key:Bs} {fr:List (Nd×Nat)} {nd:Nd} (q:Sk s H top key fr nd) (hl:bM nd=true):∃ pre post,Pos s H top fr nd (dP nd.items key) pre post∧(∀ x∈pre,eS x.1 key)∧∀ x∈post,¬ eS x.1 key:=by
 obtain ⟨h,L,R,c0,q1,q2⟩:=q;obtain ⟨l,ps,v,e,h4,hh,a0⟩:=c0.all hv
 cases h with
 | succ h =>
  obtain ⟨ls,kd,e0⟩:=v.kd;have h1:=bL.1 hl;have h2:=kd.len;rw [kd.kids,List.map_eq_nil_iff] at h1;rw [h1] at h2;cases h2
 | zero =>
  obtain ⟨rfl,_,v3,_⟩:=v;have f0:dP l key≤l.length:=dY _ _;refine ⟨_,_,⟨0,L,R,_,c0,rfl,by simpa using f0,rfl,rfl⟩,?_,?_⟩
  ·intro x hx;rw [← List.map_take,iF] at hx;rcases List.mem_append.1 hx with hx|hx
   ·exact q1 x hx
   ·obtain ⟨j,hj,rfl⟩:=List.mem_take_iff_getElem.1 hx;have:=gF (λ x:Bs×Bs=>decide (bY x.1 key<0)) l j _ (show j<dP l key by simp only at hj;omega) (List.getElem?_eq_getElem (by simp only at hj;omega));simpa [eS] using this
  ·intro x hx;rw [← List.map_drop,iF] at hx;rcases List.mem_append.1 hx with hx|hx
   ·obtain ⟨j,hj,rfl⟩:=List.mem_drop_iff_getElem.1 hx;simp only at hj;have hlt:dP l key<l.length:=by omega
    have h1:¬ eS (l[dP l key]'hlt).1 key:=by
     have:=jP (λ x:Bs×Bs=>decide (bY x.1 key<0)) l (l[dP l key]'hlt) (by rw [show (l.takeWhile λ x:Bs×Bs=>decide (bY x.1 key<0)).length=dP l key from rfl];exact List.getElem?_eq_getElem hlt);simpa [eS] using this
    cases j with
    | zero=>simpa using h1
    | succ j =>
     have:=(List.pairwise_iff_getElem.1 v3) (dP l key) (dP l key+(j+1)) hlt oM oM;intro g;exact h1 (eL this g)
   ·exact q2 x hx
end
theorem findN_split {key:Bs}:∀ {e0 a0:bQ},(∀ x∈e0,eS x.1 key)→(∀ x∈a0,¬ eS x.1 key)→dP (e0++a0) key=e0.length
 | [],[],_,_=>rfl
 | [],y::r,_,h=>by
  rw [List.nil_append,kJ,if_neg (h y sM)];rfl
 | x::e0,a0,h,g=>by
  rw [List.cons_append,kJ,if_pos (h x sM),findN_split (λ y hy=>h y (List.mem_cons_of_mem _ hy)) g];rfl
def kM (n j:Nat):Option Nat:=if j<n then some j else none
def ixB:Nat→Option Nat
 | 0=>none
 | c+1=>some c
def kI (to:Bs) (x:Bs×Bs):Bool:=to.isEmpty || decide (bY x.1 to<0)
def jV (fr:Bs) (x:Bs×Bs):Bool:=decide (0≤bY x.1 fr)
def lH (all:bQ) (to:Bs):Option Nat→bQ
 | none=>[]
 | some j=>(all.drop j).takeWhile (kI to)
def restB (all:bQ) (fr:Bs):Option Nat→bQ
 | none=>[]
 | some j=>(all.take (j+1)).reverse.takeWhile (jV fr)
def inR (fr to:Bs) (x:Bs×Bs):Bool:=jV fr x&&kI to x
def eC (all:bQ) (fr to:Bs) (back:Bool):bQ:=(if back then all.reverse else all).filter (inR fr to)
theorem geFr_iff {k:Bs} {x:Bs×Bs}:jV k x=true↔¬ eS x.1 k:=by simp [jV,eS]
theorem inTo_iff {k:Bs} {x:Bs×Bs}:kI k x=true↔k=[]∨eS x.1 k:=by simp [kI,eS]
theorem nG {α : Type} {R : α→α→Prop} {P : α→Bool} (hd:∀ x y,R x y→P y=true→P x=true):∀ {l:List α},l.Pairwise R→l.takeWhile P=l.filter P
 | [],_=>rfl
 | x::l,h=>by
  obtain ⟨h1,h2⟩:=List.pairwise_cons.1 h;rw [List.takeWhile_cons,List.filter_cons]
  cases hx:P x with
  | true=>simp only [if_true];rw [nG hd h2]
  | false =>
   simp only [Bool.false_eq_true,if_false];symm
   rw [List.filter_eq_nil_iff];intro y hy hp;rw [hd x y (h1 y hy) hp] at hx;cases hx
theorem dw_filter {α : Type} {R : α→α→Prop} {P : α→Bool} (hd:∀ x y,R x y→P y=true→P x=true):∀ {l:List α},l.Pairwise R→l.drop (l.takeWhile P).length=l.filter λ x=>!P x
 | [],_=>rfl
 | x::l,h=>by
  obtain ⟨h1,h2⟩:=List.pairwise_cons.1 h;rw [List.takeWhile_cons,List.filter_cons]
  cases hx:P x with
  | true =>
   simp only [if_true,List.length_cons,List.drop_succ_cons,Bool.not_true,Bool.false_eq_true,if_false];exact dw_filter hd h2
  | false =>
   simp only [Bool.false_eq_true,if_false,List.length_nil,List.drop_zero,Bool.not_false,if_true];congr 1
   symm
   rw [List.filter_eq_self];intro y hy
   cases hp:P y with
   | false=>rfl
   | true=>rw [hd x y (h1 y hy) hp] at hx;cases hx
theorem take_tw {α : Type} (P : α→Bool):∀ l:List α,l.take (l.takeWhile P).length=l.takeWhile P
 | []=>rfl
 | x::l=>by
  rw [List.takeWhile_cons]
  cases P x with
  | true=>simp [take_tw P l]
  | false=>simp
theorem rev_pw {α : Type} {R : α→α→Prop} {l:List α} (h:l.Pairwise R):l.reverse.Pairwise λ x y=>R y x:=List.pairwise_reverse.2 h
theorem down_to (to:Bs):∀ x y:Bs×Bs,eS x.1 y.1→kI to y=true→kI to x=true:=λ x y h g=>by
 rw [inTo_iff] at *;exact g.imp id λ g=>eL h g
theorem down_lt (k:Bs):∀ x y:Bs×Bs,eS x.1 y.1→(decide (bY y.1 k<0))=true→(decide (bY x.1 k<0))=true:=λ x y h g=>by
 simp only [decide_eq_true_eq] at *;exact eL h g
theorem up_fr (k:Bs):∀ x y:Bs×Bs,eS y.1 x.1→jV k y=true→jV k x=true:=λ x y h g=>by
 rw [geFr_iff] at *;exact λ e=>g (eL h e)
theorem restF_ix (all:bQ) (to:Bs) (j:Nat):lH all to (kM all.length j)=(all.drop j).takeWhile (kI to):=by
 unfold kM;split
 ·rfl
 ·rw [List.drop_eq_nil_of_le oM];rfl
theorem restB_ix (all:bQ) (fr:Bs) (c:Nat):restB all fr (ixB c)=(all.take c).reverse.takeWhile (jV fr):=by
 cases c with
 | zero=>rfl
 | succ c=>rfl
theorem restF_find {all:bQ} (hs:Srt all) (key to:Bs):lH all to (kM all.length (dP all key))=all.filter λ x=>jV key x&&kI to x:=by
 rw [restF_ix];have e:all.drop (dP all key)=all.filter λ x=>!decide (bY x.1 key<0):=dw_filter (down_lt key) hs;rw [e,nG (down_to to) (List.Pairwise.filter _ hs),List.filter_filter];congr 1
 funext x
 rw [Bool.and_comm];congr 1
 simp only [jV];rw [← decide_not];congr 1
 simp only [Int.not_lt]
theorem restB_to {all:bQ} (hs:Srt all) (P:Bs×Bs→Bool) (hp:∀ x y:Bs×Bs,eS x.1 y.1→P y=true→P x=true) (fr:Bs):restB all fr (ixB (all.takeWhile P).length)=all.reverse.filter λ x=>jV fr x&&P x:=by
 rw [restB_ix,take_tw,nG hp hs,← List.filter_reverse,nG (R:=λ x y=>eS y.1 x.1) (up_fr fr) (List.Pairwise.filter _ (rev_pw (R:=λ x y:Bs×Bs=>eS x.1 y.1) hs)),List.filter_filter]
theorem range_F {all:bQ} (hs:Srt all) (fr to:Bs):lH all to (kM all.length (dP all fr))=eC all fr to false:=restF_find hs fr to
theorem range_B {all:bQ} (hs:Srt all) (fr to:Bs):restB all fr (ixB (all.takeWhile (kI to)).length)=eC all fr to true:=restB_to hs _ (down_to to) fr
end Go.Proofs.YtfpadnmdafiddaaGreatDoor
namespace Go.Proofs.YtfpadnmdafiddaaGreatDoor
open Go Go.RowKit Go.V
theorem fE (F G:Nat→Prop) (a:Option Addr) (n c:Nat) (b:Option Addr) (m d:Nat) (x y:Bs) (w:World) (hx:Sl F w 1 a n c (bB x)) (hy:Sl G w 1 b m d (bB y)) :
  Calls Tryz.prog 140 #[.slice a n c,.slice b m d] w (Ret λ v w'=>v=.int .i64 (bY x y)∧Grow w w'):=by
 refine V.calls (args:=[_,_]) Tryz.func140 rfl Tryz.ntmps140 rfl rfl ?_;have hn:=hx.le;have hm:=hy.le;have ln:=hQ hx;have lm:=hQ hy;repeat refine aF ?_
 refine aX (S:=Nat) (λ i=>[(5,.int .i64 (i:Int)),(0,.slice a n c),(1,.slice b m d)]) (λ i w'=>Grow w w'∧i≤min n m∧bY x y=bY (x.drop i) (y.drop i)) (λ i=>min n m-i) 0 ⟨rfl,rfl,rfl,trivial⟩ ⟨Grow.refl w,oM,rfl⟩ ?_;rintro i w1 ⟨e0,hi,hc⟩;by_cases s0:i<min n m
 ·obtain ⟨p,hp⟩:∃ p,x[i]? = some p:=⟨_,List.getElem?_eq_getElem oM⟩
  obtain ⟨q,hq⟩:∃ q,y[i]? = some q:=⟨_,List.getElem?_eq_getElem oM⟩
  have q0:w1.cell? (at' a i)=some (.int .u8 (p:Int)):=(hx.grow e0).row.cell (bys_at hp);have o0:w1.cell? (at' b i)=some (.int .u8 (q:Int)):=(hy.grow e0).row.cell (bys_at hq);have f0:=cmpB_step hp hq;have i0:i<n:=by omega
  have l0:i<m:=by omega
  repeat refine aF ?_
  apply T.any 8 [is _,is _,is _,is _,is _,is _,is _,is _];(· kernel_rfl);(· ((repeat' (first|exact aM|refine aK ?_ ?_));(iterate 8 (· (refine yQ λ wq _ _ m0=>?_;(repeat (first|refine aF ?_|(refine aH ?_;first|refine aC rfl rfl rfl i0 (Nat.mul_one _) ⟨F,_,hx.grow (e0.trans (by assumption))⟩ rfl ?_|refine aC rfl rfl rfl l0 (Nat.mul_one _) ⟨G,_,hy.grow (e0.trans (by assumption))⟩ rfl ?_)));exact aD rfl yG rfl)))));(rintro _ _ _ j0 _ _;(refine yT ?_))
  rename_i w2 _ _ _ _;by_cases h1:p<q
  ·rw [if_pos h1] at f0;repeat refine aF ?_
   exact bA rfl ⟨_,rfl,congrArg (Value.int .i64) oM,yG⟩
  ·rw [if_neg h1] at f0;have g0:Grow w w2:=e0.trans j0;have p0:w2.cell? (at' a i)=some (.int .u8 (p:Int)):=(hx.grow g0).row.cell (bys_at hp);have n0:w2.cell? (at' b i)=some (.int .u8 (q:Int)):=(hy.grow g0).row.cell (bys_at hq);clear j0 q0 o0 e0;repeat refine aF ?_
   apply T.any 8 [is _,is _,is _,is _,is _,is _,is _,is _];(· kernel_rfl);(· ((repeat' (first|exact aM|refine aK ?_ ?_));(iterate 8 (· (refine yQ λ wq _ _ m0=>?_;(repeat (first|refine aF ?_|(refine aH ?_;first|refine aC rfl rfl rfl i0 (Nat.mul_one _) ⟨F,_,hx.grow (g0.trans (by assumption))⟩ rfl ?_|refine aC rfl rfl rfl l0 (Nat.mul_one _) ⟨G,_,hy.grow (g0.trans (by assumption))⟩ rfl ?_)));exact aD rfl yG rfl)))));(rintro _ _ _ j0 _ _;(refine yT ?_))
   by_cases h2:q<p
   ·rw [if_pos h2] at f0;repeat refine aF ?_
    exact bA rfl ⟨_,rfl,congrArg (Value.int .i64) oM,yG⟩
   ·rw [if_neg h2] at f0;repeat refine aF ?_
    exact aE (i+1) ⟨rfl,rfl,rfl,trivial⟩ ⟨yG,oM,oM⟩ oM
 ·have he:=cmpB_end (x:=x) (y:=y) (i:=i) oM;have a0:bY x y=cmpN n m:=by rw [hc,he,ln,lm]
  unfold cmpN at a0;by_cases i0:i<n
  ·have h0:m<n:=by omega
   rw [if_neg oM,if_pos h0] at a0;repeat refine aF ?_
   exact bA rfl ⟨_,rfl,congrArg (Value.int .i64) a0.symm,yG⟩
  ·by_cases k0:n<m
   ·rw [if_pos k0] at a0;repeat refine aF ?_
    exact bA rfl ⟨_,rfl,congrArg (Value.int .i64) a0.symm,yG⟩
   ·have h0:¬ m<n:=by omega
    rw [if_neg k0,if_neg h0] at a0;repeat refine aF ?_
    exact bA rfl ⟨_,rfl,congrArg (Value.int .i64) a0.symm,yG⟩
theorem rkey_c (a:Option Addr) (n c:Nat) (k:Bs) (b:Bool) (w:World) (hk:eF k=b) (hl:n=k.length) :
  Calls Tryz.prog 105 #[.slice a n c] w (Ret λ v w'=>v=.bool b∧w=w'):=by
 refine V.calls (args:=[_]) Tryz.func105 rfl Tryz.ntmps105 rfl rfl ?_;subst hk hl;by_cases h1:1≤k.length
 ·by_cases h2:k.length≤16
  ·repeat refine aF ?_
   exact bA rfl ⟨_,rfl,by simp [eF,h1,h2],rfl⟩
  ·repeat refine aF ?_
   exact bA rfl ⟨_,rfl,by simp [eF,h1,h2],rfl⟩
 ·repeat refine aF ?_
  exact bA rfl ⟨_,rfl,by simp [eF,h1],rfl⟩
theorem rvalue_c (a:Option Addr) (n c:Nat) (k:Bs) (b:Bool) (w:World) (hk:fB k=b) (hl:n=k.length) :
  Calls Tryz.prog 118 #[.slice a n c] w (Ret λ v w'=>v=.bool b∧w=w'):=by
 refine V.calls (args:=[_]) Tryz.func118 rfl Tryz.ntmps118 rfl rfl ?_;subst hk hl;by_cases h2:k.length≤32
 ·repeat refine aF ?_
  exact bA rfl ⟨_,rfl,by simp [fB,h2],rfl⟩
 ·repeat refine aF ?_
  exact bA rfl ⟨_,rfl,by simp [fB,h2],rfl⟩
theorem rleaf_c (x:NV) (b:Bool) (w:World) (h:decide (x.n2=0)=b) :
  Calls Tryz.prog 114 #[x.val] w (Ret λ v w'=>v=.bool b∧Grow w w'):=by
 refine V.calls (args:=[_]) Tryz.func114 rfl Tryz.ntmps114 rfl rfl ?_;subst h;by_cases h2:x.n2=0
 ·repeat (first|refine aF ?_|refine yI λ bk w' hg f0 e0 a0=>?_)
  exact bA rfl ⟨_,rfl,by simp [h2],yG⟩
 ·repeat (first|refine aF ?_|refine yI λ bk w' hg f0 e0 a0=>?_)
  exact bA rfl ⟨_,rfl,by simp [h2],yG⟩
theorem rleaf_nd {F:Nat→Prop} {w0:World} {x:NV} {nd:Nd} (h:NdAt F w0 x nd) {b:Bool} (hb:bM nd=b) (w:World) :
  Calls Tryz.prog 114 #[x.val] w (Ret λ v w'=>v=.bool b∧Grow w w'):=by
 refine rleaf_c x b w ?_;have h2:=bU h.kids
 cases b with
 | true=>rw [bL] at hb;rw [h2,hb];rfl
 | false =>
  cases hd:decide (x.n2=0) with
  | false=>rfl
  | true =>
   rw [decide_eq_true_eq,h2] at hd;rw [bL.2 (List.eq_nil_of_length_eq_zero hd)] at hb;cases hb
structure NdOk (nd:Nd):Prop where
 n1:nd.items.length≤8
 n2:nd.kids.length≤8
 ne1:nd.kids.length≠1
 no:0<nd.kids.length→nd.items.length=0
 n3:nd.keys.length=nd.kids.length-1
 it:∀ (i:Nat) (y:Bs×Bs),nd.items[i]? = some y→eF y.1=true∧fB y.2=true
 it2:∀ (i:Nat) (y z:Bs×Bs),nd.items[i+1]? = some y→nd.items[i]? = some z→bY z.1 y.1<0
 ky:∀ (i:Nat) (y:Bs),nd.keys[i]? = some y→eF y=true
 ky2:∀ (i:Nat) (y z:Bs),nd.keys[i+1]? = some y→nd.keys[i]? = some z→bY z y<0
 kd:∀ (i p:Nat),nd.kids[i]? = some p→p<2147483648
 kd2:∀ (i j p q:Nat),nd.kids[i]? = some p→j<i→nd.kids[j]? = some q→q≠p
theorem ndOk {nd:Nd} (h:bE nd=true):NdOk nd:=by
 unfold bE at h;split at h
 ·rename_i hl;obtain ⟨h1,h2,h3⟩:=cO h;have h4:=bL.1 hl;have a0:∀ i y,nd.items[i]? = some y→gQ nd.items i=true:=λ i y hy=>jX h3 (List.getElem?_eq_some_iff.1 hy).1;refine ⟨h2,by rw [h4];simp,by rw [h4];simp,by rw [h4];simp,by rw [h1,h4];rfl,λ i y hy=>lU h3 (List.mem_of_getElem? hy),λ i y z hy hz=>?_,by rw [h1];simp,by rw [h1];simp,by rw [h4];simp,by rw [h4];simp⟩;have:=a0 (i+1) y hy;simp only [gQ,hy,hz,Bool.and_eq_true,decide_eq_true_eq] at this;exact this.2
 ·obtain ⟨h1,h2,h3,h4,h5,h6⟩:=cC h;have a0:∀ i y,nd.keys[i]? = some y→jK nd.keys i=true:=λ i y hy=>jX h6 (List.getElem?_eq_some_iff.1 hy).1;have e0:∀ i y,nd.kids[i]? = some y→kG nd.kids i=true:=λ i y hy=>jX h5 (List.getElem?_eq_some_iff.1 hy).1;refine ⟨by rw [h1];simp,h3,oM,by rw [h1];simp,oM,by rw [h1];simp,by rw [h1];simp,λ i y hy=>key_ok' h6 (List.mem_of_getElem? hy),λ i y z hy hz=>?_,λ i p hp=>kid_ok h5 (List.mem_of_getElem? hp),λ i j p q hp hj hq e=>?_⟩
  ·have:=a0 (i+1) y hy;simp only [jK,hy,hz,Bool.and_eq_true,decide_eq_true_eq] at this;exact this.2
  ·have:=e0 i p hp;simp only [kG,hp,Bool.and_eq_true,Bool.not_eq_true',decide_eq_true_eq] at this
   have h7:p∈nd.kids.take i:=by
    subst e;exact List.mem_take_iff_getElem.2 ⟨j,by have:=(List.getElem?_eq_some_iff.1 hq).1;omega,(List.getElem?_eq_some_iff.1 hq).2⟩
   rw [List.contains_iff_mem.2 h7] at this;cases this.2
theorem rcheck_c (F:Nat→Prop) (x:NV) (nd:Nd) (w:World) (h:NdAt F w x nd) (v0:bE nd=true) :
  Calls Tryz.prog 164 #[x.val] w (Ret λ v w'=>v=.int .i64 0∧Grow w w'):=by
 have ok:=ndOk v0;have z0:=h.its.len;have y0:=bU h.kids;have x0:=h.kys.len;obtain ⟨cs,hs,h0⟩:=h.its.at';obtain ⟨ds,i0,f0⟩:=h.kys.at';have j0:=h.kids;obtain ⟨a1,n1,c1,a2,n2,c2,a3,n3,c3⟩:=x;simp only at *;show Calls Tryz.prog 164 #[.agg #[.slice a1 n1 c1,.slice a2 n2 c2,.slice a3 n3 c3]] w (Ret λ v w'=>v=.int .i64 0∧Grow w w');have o1:=ok.n1;have o2:=ok.n2;have o3:=ok.ne1;have o4:=ok.no;have o5:=ok.n3;rw [← z0] at o1 o4;rw [← y0] at o2 o3 o4 o5;rw [← x0] at o5;refine V.calls (args:=[_]) Tryz.func164 rfl Tryz.ntmps164 rfl rfl ?_;have kA:∀ {Q:Prop},Q→Q:=λ h=>h;refine dT 2 (λ e w1=>∃ b,Sub [(1,.pointer (some ⟨b,0,none⟩))] e∧Blk w1 b 79 [.slice a1 n1 c1,.slice a2 n2 c2,.slice a3 n3 c3]∧Grow w w1) ?_ ?_;rotate_left
 ·by_cases h2:0<n2
  ·have u1:=o4 h2;repeat (first|(refine eU ?_;refine lV (r:=(n3:Int)) rfl rfl (by split<;>omega) rfl ?_)|refine yC ?_|refine yI λ bk w' hg a0 u0 p0=>?_)
   exact ⟨bk,⟨rfl,trivial⟩,yB,yG⟩
  ·have m1:n2=0:=by omega
   repeat (first|(refine eU ?_;refine lV (r:=(n3:Int)) rfl rfl (by split<;>omega) rfl ?_)|(refine iV ?_;refine TL.subI rfl rfl oM oM rfl ?_)|refine yC ?_|refine yI λ bk w' hg a0 u0 p0=>?_)
   exact ⟨bk,⟨rfl,trivial⟩,yB,yG⟩
 rintro e w1 ⟨bk,e0,a0,g0⟩;refine bD (e':=[(1,_)]) ?_ e0;clear e0;refine dT 1 (λ e w2=>Sub [(1,.pointer (some ⟨bk,0,none⟩))] e∧Blk w2 bk 79 [.slice a1 n1 c1,.slice a2 n2 c2,.slice a3 n3 c3]∧Grow w w2) ?_ ?_;rotate_left
 ·repeat refine aF ?_
  refine aX (S:=Nat) (λ i=>[(3,.int .i64 (i:Int)),(1,.pointer (some ⟨bk,0,none⟩))]) (λ i w2=>i≤n1∧Blk w2 bk 79 [.slice a1 n1 c1,.slice a2 n2 c2,.slice a3 n3 c3]∧Grow w w2) (λ i=>n1-i) 0 ⟨rfl,rfl,trivial⟩ ⟨oM,a0,g0⟩ ?_;clear a0 g0;rintro i w2 ⟨hi,a0,k0⟩;have l0:=a0.lt;by_cases m0:i<n1;rotate_left
  ·repeat refine aF ?_
   exact ⟨⟨rfl,trivial⟩,yB,yG⟩
  obtain ⟨y,hy⟩:∃ y,nd.items[i]? = some y:=⟨_,List.getElem?_eq_getElem oM⟩
  obtain ⟨ka,kc,va,vc,g1,g2,s1,s2⟩:=h0 i y hy;obtain ⟨k1,k2⟩:=ok.it i y hy
  cases i with
  | zero =>
   repeat refine aF ?_
   apply T.any 38 [is _,is _,is _,is _,is _,is _,is _,is _,is _,is _,is _,is _,is _,is _,is _,is _,is _,is _,is _,is _,is _,is _,is _,is _,is _,is _,is _,is _,is _,is _,is _,is _,is _,is _,is _,is _,is _,is _];(· kernel_rfl);(· ((repeat' (first|exact aM|refine aK ?_ ?_));(iterate 38 (· (refine yQ λ wq _ _ o0=>?_;(repeat (first|refine aF ?_|(refine aH ?_;refine aC (j:=0) rfl rfl oM oM rfl ⟨F,_,hs.grow yG⟩ rfl ?_)|(refine bN ?_;refine bJ rfl (hs.grow yG) g1 rfl ?_)|(refine aO ?_;first|refine aQ rfl ((hs.grow yG).row.cell g1) rfl ?_|refine aQ rfl ((hs.grow yG).row.cell g2) rfl ?_)|(refine aB 105 ?_;refine aA rfl (rkey_c ka _ kc y.1 true _ k1 rfl) rfl ?_;rintro _ _ ⟨rfl,rfl⟩)|(refine aB 118 ?_;refine aA rfl (rvalue_c va _ vc y.2 true _ k2 rfl) rfl ?_;rintro _ _ ⟨rfl,rfl⟩)));exact aD rfl yG rfl)))));(rintro _ _ _ n0 _ _;(refine yT ?_))
   repeat refine aF ?_
   exact aE 1 ⟨rfl,rfl,trivial⟩ ⟨oM,yB,yG⟩ oM
  | succ j =>
   obtain ⟨z,hz⟩:∃ z,nd.items[j]? = some z:=⟨_,List.getElem?_eq_getElem oM⟩
   obtain ⟨t0,s0,f1,e1,q1,q2,r1,r2⟩:=h0 j z hz;have hc:=ok.it2 j y z hy hz;repeat refine aF ?_
   apply T.any 38 [is _,is _,is _,is _,is _,is _,is _,is _,is _,is _,is _,is _,is _,is _,is _,is _,is _,is _,is _,is _,is _,is _,is _,is _,is _,is _,is _,is _,is _,is _,is _,is _,is _,is _,is _,is _,is _,is _];(· kernel_rfl);(· ((repeat' (first|exact aM|refine aK ?_ ?_));(iterate 38 (· (refine yQ λ wq _ _ o0=>?_;(repeat (first|refine aF ?_|(refine aH ?_;first|refine aC (j:=j) rfl rfl oM oM rfl ⟨F,_,hs.grow yG⟩ rfl ?_|refine aC (j:=j+1) rfl rfl oM oM rfl ⟨F,_,hs.grow yG⟩ rfl ?_)|(refine bN ?_;first|refine bJ rfl (hs.grow yG) q1 rfl ?_|refine bJ rfl (hs.grow yG) g1 rfl ?_)|(refine aO ?_;first|refine aQ rfl ((hs.grow yG).row.cell q1) rfl ?_|refine aQ rfl ((hs.grow yG).row.cell g1) rfl ?_|refine aQ rfl ((hs.grow yG).row.cell g2) rfl ?_)|(refine aB 105 ?_;refine aA rfl (rkey_c ka _ kc y.1 true _ k1 rfl) rfl ?_;rintro _ _ ⟨rfl,rfl⟩)|(refine aB 118 ?_;refine aA rfl (rvalue_c va _ vc y.2 true _ k2 rfl) rfl ?_;rintro _ _ ⟨rfl,rfl⟩)|(refine aB 140 ?_;refine aA rfl (fE _ _ _ _ _ _ _ _ _ _ _ (r1.grow yG) (s1.grow yG)) rfl ?_;rintro _ _ ⟨rfl,b1⟩)));exact aD rfl yG rfl)))));(rintro _ _ _ n0 _ _;(refine yT ?_))
   repeat refine aF ?_
   exact aE (j+1+1) ⟨rfl,rfl,trivial⟩ ⟨oM,yB,yG⟩ oM
 clear a0 g0;rintro e w1 ⟨e0,a0,g0⟩;refine bD (e':=[(1,_)]) ?_ e0;clear e0;refine dT 1 (λ e w2=>Sub [(1,.pointer (some ⟨bk,0,none⟩))] e∧Blk w2 bk 79 [.slice a1 n1 c1,.slice a2 n2 c2,.slice a3 n3 c3]∧Grow w w2) ?_ ?_;rotate_left
 ·repeat refine aF ?_
  refine aX (S:=Nat) (λ i=>[(4,.int .i64 (i:Int)),(1,.pointer (some ⟨bk,0,none⟩))]) (λ i w2=>i≤n3∧Blk w2 bk 79 [.slice a1 n1 c1,.slice a2 n2 c2,.slice a3 n3 c3]∧Grow w w2) (λ i=>n3-i) 0 ⟨rfl,rfl,trivial⟩ ⟨oM,a0,g0⟩ ?_;clear a0 g0;rintro i w2 ⟨hi,a0,k0⟩;have l0:=a0.lt;by_cases m0:i<n3;rotate_left
  ·repeat refine aF ?_
   exact ⟨⟨rfl,trivial⟩,yB,yG⟩
  obtain ⟨y,hy⟩:∃ y,nd.keys[i]? = some y:=⟨_,List.getElem?_eq_getElem oM⟩
  obtain ⟨ka,kc,g1,s1⟩:=f0 i y hy;have k1:=ok.ky i y hy
  cases i with
  | zero =>
   repeat refine aF ?_
   apply T.any 25 [is _,is _,is _,is _,is _,is _,is _,is _,is _,is _,is _,is _,is _,is _,is _,is _,is _,is _,is _,is _,is _,is _,is _,is _,is _];(· kernel_rfl);(· ((repeat' (first|exact aM|refine aK ?_ ?_));(iterate 25 (· (refine yQ λ wq _ _ o0=>?_;(repeat (first|refine aF ?_|(refine aH ?_;refine aC (j:=0) rfl rfl oM oM (Nat.mul_one _) ⟨F,_,i0.grow yG⟩ rfl ?_)|(refine aO ?_;refine aQ rfl ((i0.grow yG).row.cell g1) rfl ?_)|(refine aB 105 ?_;refine aA rfl (rkey_c ka _ kc y true _ k1 rfl) rfl ?_;rintro _ _ ⟨rfl,rfl⟩)));exact aD rfl yG rfl)))));(rintro _ _ _ n0 _ _;(refine yT ?_))
   repeat refine aF ?_
   exact aE 1 ⟨rfl,rfl,trivial⟩ ⟨oM,yB,yG⟩ oM
  | succ j =>
   obtain ⟨z,hz⟩:∃ z,nd.keys[j]? = some z:=⟨_,List.getElem?_eq_getElem oM⟩
   obtain ⟨t0,s0,q1,r1⟩:=f0 j z hz;have hc:=ok.ky2 j y z hy hz;repeat refine aF ?_
   apply T.any 25 [is _,is _,is _,is _,is _,is _,is _,is _,is _,is _,is _,is _,is _,is _,is _,is _,is _,is _,is _,is _,is _,is _,is _,is _,is _];(· kernel_rfl);(· ((repeat' (first|exact aM|refine aK ?_ ?_));(iterate 25 (· (refine yQ λ wq _ _ o0=>?_;(repeat (first|refine aF ?_|(refine aH ?_;first|refine aC (j:=j) rfl rfl oM oM (Nat.mul_one _) ⟨F,_,i0.grow yG⟩ rfl ?_|refine aC (j:=j+1) rfl rfl oM oM (Nat.mul_one _) ⟨F,_,i0.grow yG⟩ rfl ?_)|(refine aO ?_;first|refine aQ rfl ((i0.grow yG).row.cell q1) rfl ?_|refine aQ rfl ((i0.grow yG).row.cell g1) rfl ?_)|(refine aB 105 ?_;refine aA rfl (rkey_c ka _ kc y true _ k1 rfl) rfl ?_;rintro _ _ ⟨rfl,rfl⟩)|(refine aB 140 ?_;refine aA rfl (fE _ _ _ _ _ _ _ _ _ _ _ (r1.grow yG) (s1.grow yG)) rfl ?_;rintro _ _ ⟨rfl,b1⟩)));exact aD rfl yG rfl)))));(rintro _ _ _ n0 _ _;(refine yT ?_))
   repeat refine aF ?_
   exact aE (j+1+1) ⟨rfl,rfl,trivial⟩ ⟨oM,yB,yG⟩ oM
 clear a0 g0;rintro e w1 ⟨e0,a0,g0⟩;refine bD (e':=[(1,_)]) ?_ e0;clear e0;repeat refine aF ?_
 refine aX (S:=Nat) (λ i=>[(5,.int .i64 (i:Int)),(1,.pointer (some ⟨bk,0,none⟩))]) (λ i w2=>i≤n2∧Blk w2 bk 79 [.slice a1 n1 c1,.slice a2 n2 c2,.slice a3 n3 c3]∧Grow w w2) (λ i=>n2-i) 0 ⟨rfl,rfl,trivial⟩ ⟨oM,a0,g0⟩ ?_;clear a0 g0;rintro i w2 ⟨hi,a0,k0⟩;have l0:=a0.lt;by_cases m0:i<n2;rotate_left
 ·repeat refine aF ?_
  exact bA rfl ⟨_,rfl,rfl,yG⟩
 obtain ⟨p,hp⟩:∃ p,nd.kids[i]? = some p:=⟨_,List.getElem?_eq_getElem oM⟩
 have h1:=ok.kd i p hp;have g1:=jT hp;repeat (first|(refine aH ?_;refine aC (j:=i) rfl rfl rfl m0 (Nat.mul_one _) ⟨F,_,j0.grow yG⟩ rfl ?_)|(refine aO ?_;refine aQ rfl ((j0.grow yG).row.cell g1) rfl ?_)|refine yC ?_)
 refine aX (S:=Nat) (λ k=>[(6,.int .i64 (k:Int)),(5,.int .i64 (i:Int)),(1,.pointer (some ⟨bk,0,none⟩))]) (λ k w3=>k≤i∧Blk w3 bk 79 [.slice a1 n1 c1,.slice a2 n2 c2,.slice a3 n3 c3]∧Grow w w3) (λ k=>i-k) 0 ⟨rfl,rfl,rfl,trivial⟩ ⟨oM,a0,k0⟩ ?_;clear a0 k0;rintro k w3 ⟨hk,a0,k0⟩;by_cases q0:k<i;rotate_left
 ·obtain rfl:k=i:=by omega
  repeat refine aF ?_
  exact aE (k+1) ⟨rfl,rfl,trivial⟩ ⟨oM,yB,yG⟩ oM
 obtain ⟨q,hq⟩:∃ q,nd.kids[k]? = some q:=⟨_,List.getElem?_eq_getElem oM⟩
 have j1:=ok.kd2 i k p q hp q0 hq;have g2:=jT hq;repeat refine aF ?_
 apply T.any 10 [is _,is _,is _,is _,is _,is _,is _,is _,is _,is _];(· kernel_rfl);(· ((repeat' (first|exact aM|refine aK ?_ ?_));(iterate 10 (· (refine yQ λ wq _ _ o0=>?_;(repeat (first|refine aF ?_|(refine aH ?_;first|refine aC (j:=k) rfl rfl rfl oM (Nat.mul_one _) ⟨F,_,j0.grow yG⟩ rfl ?_|refine aC (j:=i) rfl rfl rfl m0 (Nat.mul_one _) ⟨F,_,j0.grow yG⟩ rfl ?_)|(refine aO ?_;first|refine aQ rfl ((j0.grow yG).row.cell g1) rfl ?_|refine aQ rfl ((j0.grow yG).row.cell g2) rfl ?_)));exact aD rfl yG rfl)))));(rintro _ _ _ n0 _ _;(refine yT ?_))
 repeat refine aF ?_
 exact aE (k+1) ⟨rfl,rfl,rfl,trivial⟩ ⟨oM,yB,yG⟩ oM
set_option maxRecDepth 20000
theorem rrot_c (x:BitVec 64) (n:Nat) (hn:n≤64) (w:World) :
  Calls Tryz.prog 272 #[wB x,.int .i64 (n:Int)] w (Ret λ v w'=>v=wB (rotl x (64-n))∧w'=w):=by
 refine V.calls (args:=[_,_]) Tryz.func272 rfl Tryz.ntmps272 rfl rfl ?_;unfold rotl;have h1:IntKind.u64.wrap (n:Int)=(n:Int):=eT (M:=18446744073709551616) rfl oM;have h2:IntKind.u64.wrap ((64-n:Nat):Int)=((64-n:Nat):Int):=eT (M:=18446744073709551616) rfl oM;have h3:64-(64-n)=n:=by omega
 rw [h3];repeat (first|(refine dS ?_;first|refine TL.convZ6 rfl h1 rfl ?_|refine TL.convZ6 rfl h2 rfl ?_)|(refine jZ ?_;refine TL.shlB6 rfl rfl oM rfl ?_)|(refine eR ?_;refine TL.shrB6 rfl rfl oM rfl ?_)|refine TL.orB6 rfl rfl rfl ?_|refine yC ?_)
 exact bA rfl ⟨_,rfl,by rw [BitVec.or_comm],rfl⟩
theorem K_r (w:World):Calls Tryz.prog 271 #[] w (Ret λ v w'=>v=.agg (Kw.map wB).toArray∧Grow w w'):=by
 refine V.calls (args:=[]) Tryz.func271 rfl Tryz.ntmps271 rfl rfl ?_;refine T.seq ?_;refine oA ?_;refine TL.alloc rfl rfl ?_;intro bk w1 f0 h0 i0 e0;refine TL.nil ?_;refine eY ?_;refine T.seq ?_;refine oA ?_;refine mZ (cs:=Kw.map wB) rfl kR rfl ?_;(refine eJ rfl rfl h0 rfl rfl rfl ?_;intro w2 a0 g0 j0)
 refine TL.nil ?_;refine eY ?_;refine T.ret ?_;exact retC rfl (aW g0 rfl) ⟨_,rfl,rfl,aI a0 oM f0⟩
def wAt (bs:List Nat) (t:Nat):List (BitVec 64):=mC (t-16) (part bs (min (8*t) 128))
theorem wAt_len (bs:List Nat) (t:Nat):(wAt bs t).length=80:=by rw [wAt,sched_len,jS]
theorem wAt_low (bs:List Nat) {t:Nat} (h:t≤16):wAt bs t=part bs (8*t):=by
 rw [wAt,show t-16=0 by omega,Nat.min_eq_left oM];rfl
theorem wAt_high (bs:List Nat) {t:Nat} (h:16≤t):wAt bs (t+1)=(wAt bs t).set t (nextW (wAt bs t) t):=by
 rw [wAt,wAt,show t+1-16=(t-16)+1 by omega,Nat.min_eq_right oM,Nat.min_eq_right oM];show (mC (t-16) _).set (t-16+16) (nextW _ (t-16+16))=_;rw [show t-16+16=t by omega]
theorem wAt_end (bs:List Nat):wAt bs 80=mC 64 (part bs 128):=rfl
attribute [irreducible] wAt
theorem rA1:lC (-1)=64-1:=by decide
theorem rA8:lC (-8)=64-8:=by decide
theorem rA19:lC (-19)=64-19:=by decide
theorem rA61:lC (-61)=64-61:=by decide
theorem rA14:lC (-14)=64-14:=by decide
theorem rA18:lC (-18)=64-18:=by decide
theorem rA41:lC (-41)=64-41:=by decide
theorem rA28:lC (-28)=64-28:=by decide
theorem rA34:lC (-34)=64-34:=by decide
theorem rA39:lC (-39)=64-39:=by decide
theorem addL_comm (s t:St):addL s.l t.l 8=addL t.l s.l 8:=by
 obtain ⟨a,b,c,d,e,f,g,h⟩:=s;obtain ⟨a',b',c',d',e',f',g',h'⟩:=t;simp [addL,St.l,BitVec.add_comm]
theorem rpiece_c (F:Nat→Prop) (s:St) (bs:List Nat) (hl:bs.length=128) (hb:∀ b∈bs,b<256) (a:Option Addr) (c:Nat) (w:World) (hs:Sl F w 1 a 128 c (pbs bs)):Calls Tryz.prog 254 #[.agg (s.l.map wB).toArray,.slice a 128 c] w
  (Ret λ v w'=>v=.agg ((pieceB s bs).map wB).toArray∧Grow w w'):=by
 refine V.calls (args:=[_,_]) Tryz.func254 rfl Tryz.ntmps254 rfl rfl ?_;replace hs:=hs.tight;obtain ⟨ks,n0⟩:∃ ks,ks=Kw:=⟨_,rfl⟩
 have j2:ks.length=80:=by rw [n0];rfl
 have m1:∀ w,Calls Tryz.prog 271 #[] w (Ret λ v w'=>v=.agg (ks.map wB).toArray∧Grow w w'):=by rw [n0];exact K_r
 have h1:pieceB s bs=addL (rnK ks (wAt bs 80) s 80).l s.l 8:=by rw [wAt_end,n0];exact addL_comm _ _
 have j1:(ks.map wB).all Value.oneCell'=true:=by simp [Value.oneCell']
 have f1:part bs 0=List.replicate 80 0#64:=part_zero bs;repeat (first|(refine aB 271 ?_;refine aA rfl (m1 _) rfl ?_;rintro _ _ ⟨rfl,z0⟩)|(refine bZ ?_;refine eJ rfl rfl yB (by rw [List.length_map,j2];rfl) rfl j1 ?_;intro w' hu e0 j0)|refine yC ?_|refine yI λ bk w' hg e0 j0 h0=>?_)
 rename_i b2 w2 s2 d3 w1 s0 b4 w4 r2 q1 u1 q0 w5 b5 w6 o1 z2 s1 p0 w7 y2 r1;have v0:=z0.2;have h2:Blk w' b2 295 (s.l.map wB):=by exact yB
 have h4:Blk w' b4 295 (List.replicate 8 (wB 0#64)):=(((q1.grow z0).grow o1).upd hu oM).grow hg;have h5:Blk w' b5 340 (ks.map wB):=by exact yB
 have h6:Blk w' bk 340 ((wAt bs 0).map wB):=by rw [wAt_low bs oM,Nat.mul_zero,f1];exact e0
 have h3:w.heap.size≤b2∧w.heap.size≤b4∧b2≠b4∧b2<b5∧b4<b5∧b5<bk∧bk<w'.heap.size:=by omega
 have hG:Grow w w':=by exact yG
 replace hs:=hs.grow hG;clear s2 d3 w1 s0 r2 q1 u1 q0 z0 o1 z2 s1 p0 hu y2 r1 hg e0 j0 h0 v0 n0 m1 j1 f1
 refine aX (S:=Nat) (λ t=>[(7,.int .i64 (t:Int)),(6,.pointer (some ⟨bk,0,none⟩)),(5,.pointer (some ⟨b5,0,none⟩)),(4,.pointer (some ⟨b4,0,none⟩)),(2,.pointer (some ⟨b2,0,none⟩)),(1,.slice a 128 c)])
  (λ t w7=>t≤80∧Blk w7 bk 340 ((wAt bs t).map wB)∧Blk w7 b2 295 (s.l.map wB)∧Blk w7 b4 295 (List.replicate 8 (wB 0#64))∧Blk w7 b5 340 (ks.map wB)∧Sl (λ k=>F k∧k<w.heap.size) w7 1 a 128 c (pbs bs)∧Grow w w7) (λ t=>80-t) 0 ⟨rfl,rfl,rfl,rfl,rfl,rfl,trivial⟩ ⟨Nat.zero_le _,h6,h2,h4,h5,hs,hG⟩ ?_
 clear h2 h4 h5 h6 hs hG;rintro t w7 ⟨ht,h6,h2,h4,h5,hs,hG⟩;by_cases i0:t<80
 ·have m0:(decide ((t:Int)<80))=true:=decide_eq_true oM;have l0:=wAt_len bs t;by_cases z1:t<16
  ·have y1:(decide ((t:Int)<16))=true:=decide_eq_true oM;repeat refine aF ?_
   rw [wAt_low bs (show t≤16 by omega)] at h6 l0
   refine aX (S:=Nat) (λ i=>[(8,.int .i64 (i:Int)),(7,.int .i64 (t:Int)),(6,.pointer (some ⟨bk,0,none⟩)),(5,.pointer (some ⟨b5,0,none⟩)),(4,.pointer (some ⟨b4,0,none⟩)),(2,.pointer (some ⟨b2,0,none⟩)),(1,.slice a 128 c)])
    (λ i w8=>i≤8∧Blk w8 bk 340 ((part bs (8*t+i)).map wB)∧Blk w8 b2 295 (s.l.map wB)∧Blk w8 b4 295 (List.replicate 8 (wB 0#64))∧Blk w8 b5 340 (ks.map wB)∧Sl (λ k=>F k∧k<w.heap.size) w8 1 a 128 c (pbs bs)∧Grow w w8) (λ i=>8-i) 0 ⟨rfl,rfl,rfl,rfl,rfl,rfl,rfl,trivial⟩ ⟨Nat.zero_le _,h6,h2,h4,h5,hs,hG⟩ ?_
   clear h2 h4 h5 h6 hs hG l0;rintro i w8 ⟨hi,h6,h2,h4,h5,hs,hG⟩;have f2:=jS bs (8*t+i);by_cases q2:i<8
   ·have o2:(decide ((i:Int)<8))=true:=decide_eq_true oM;have y0:=part_step (bs:=bs) (i:=8*t+i) oM hl;rw [show (8*t+i) / 8=t by omega] at y0;have x2:bs.getD (8*t+i) 0<256:=by rw [List.getD_eq_getElem?_getD,List.getElem?_eq_getElem oM];exact hb _ (List.getElem_mem _)
    repeat refine aF ?_
    apply T.any 14 [is _,is _,is _,is _,is _,is _,is _,is _,is _,is _,is _,is _,is _,is _];(· kernel_rfl);(· ((repeat' (first|exact aM|refine aK ?_ ?_));(iterate 14 (· (refine yQ λ wq _ _ g0=>?_;(repeat (first|(refine aO ?_;first|refine aQ rfl (Blk.cell (b:=bk) yB (kE oM)) rfl ?_|refine aQ rfl ((hs.grow g0).row.cell (pbs_at oM)) rfl ?_)|refine TL.convW8 rfl x2 rfl ?_|refine TL.orB6 rfl rfl rfl ?_|(refine jZ ?_;refine TL.shlB6 rfl rfl dM rfl ?_)|refine yC ?_|(refine aH ?_;refine aC (j:=8*t+i) rfl rfl rfl oM (Nat.mul_one _) ⟨_,_,hs.grow g0⟩ rfl ?_)));exact aD rfl yG rfl)))));(rintro _ _ _ a0 _ _;(refine yT ?_))
    replace h2:=h2.grow a0;replace h4:=h4.grow a0;replace h5:=h5.grow a0;replace h6:=h6.grow a0;replace hs:=hs.grow a0;replace hG:=hG.trans a0;clear a0;repeat (first|(refine bZ ?_;refine dR rfl rfl h6 rfl (by rw [List.length_map,f2];exact Nat.ble_eq_true_of_le oM) (map_set _ _ _) ?_;intro w9 hu f0 o0)|refine yC ?_)
    rw [y0] at f0;replace h2:=h2.upd hu oM;replace h4:=h4.upd hu oM;replace h5:=h5.upd hu oM;replace hs:=hs.upd hu (by intro k hk;omega);replace hG:=aI hu oM hG;clear hu h6 y0;exact aE (i+1) ⟨rfl,rfl,rfl,rfl,rfl,rfl,rfl,trivial⟩ ⟨q2,f0,h2,h4,h5,hs,hG⟩ oM
   ·obtain rfl:i=8:=by omega
    have o2:(decide (((8:Nat):Int)<8))=false:=by decide
    repeat refine aF ?_
    exact aE (t+1) ⟨rfl,rfl,rfl,rfl,rfl,rfl,trivial⟩ ⟨i0,by rw [wAt_low bs (show t+1≤16 by omega),show 8*(t+1)=8*t+8 by omega];exact h6,h2,h4,h5,hs,hG⟩ oM
  ·have y1:(decide ((t:Int)<16))=false:=decide_eq_false oM;repeat refine aF ?_
   apply T.any 10 [is _,is _,is _,is _,is _,is _,is _,is _,is _,is _];(· kernel_rfl);(· ((repeat' (first|exact aM|refine aK ?_ ?_));(iterate 10 (· (refine yQ λ wq _ _ g0=>?_;(repeat (first|refine aF ?_|(refine aO ?_;refine aQ rfl (Blk.cell (b:=bk) yB (kE oM)) rfl ?_)));exact aD rfl yG rfl)))));(rintro _ _ _ a0 _ _;(refine yT ?_))
   replace h2:=h2.grow a0;replace h4:=h4.grow a0;replace h5:=h5.grow a0;replace h6:=h6.grow a0;replace hs:=hs.grow a0;replace hG:=hG.trans a0;clear a0;repeat refine aF ?_
   apply T.any 28 [is _,is _,is _,is _,is _,is _,is _,is _,is _,is _,is _,is _,is _,is _,is _,is _,is _,is _,is _,is _,is _,is _,is _,is _,is _,is _,is _,is _];(· kernel_rfl);(· ((repeat' (first|exact aM|refine aK ?_ ?_));(iterate 28 (· (refine yQ λ wq _ _ g0=>?_;(repeat (first|(refine aO ?_;refine aQ rfl (Blk.cell (b:=bk) yB (kE oM)) rfl ?_)|refine jY rfl rfl rfl ?_|refine kC rfl rfl rfl ?_|(refine eR ?_;refine TL.shrB6 rfl rfl dM rfl ?_)|refine yC ?_|(refine aB 272 ?_;refine aA rfl (rrot_c _ _ dM _) rfl ?_;rintro _ _ ⟨rfl,rfl⟩)));exact aD rfl yG rfl)))));(rintro _ _ _ a0 _ _;(refine yT ?_))
   replace h2:=h2.grow a0;replace h4:=h4.grow a0;replace h5:=h5.grow a0;replace h6:=h6.grow a0;replace hs:=hs.grow a0;replace hG:=hG.trans a0;clear a0;repeat (first|(refine bZ ?_;refine dR rfl rfl h6 rfl (by rw [List.length_map,l0];exact Nat.ble_eq_true_of_le oM) (map_set _ _ _) ?_;intro w9 hu f0 o0)|refine yC ?_)
   replace h2:=h2.upd hu oM;replace h4:=h4.upd hu oM;replace h5:=h5.upd hu oM;replace hs:=hs.upd hu (by intro k hk;omega);replace hG:=aI hu oM hG;clear hu h6;refine aE (t+1) ⟨rfl,rfl,rfl,rfl,rfl,rfl,trivial⟩ ⟨i0,?_,h2,h4,h5,hs,hG⟩ oM;rw [wAt_high bs oM];simp only [nextW,sg0,sg1,rA1,rA8,rA19,rA61];exact f0
 ·obtain rfl:t=80:=by omega
  have m0:(decide (((80:Nat):Int)<80))=false:=by decide
  obtain ⟨ws,u0⟩:∃ ws,ws=wAt bs 80:=⟨_,rfl⟩
  rw [← u0] at h6 h1;have l0:ws.length=80:=by rw [u0,wAt_len]
  clear u0;repeat (first|refine aF ?_|refine yI λ bk w' hg e0 j0 h0=>?_|refine yJ λ w' hu e0 j0=>?_)
  rename_i b6 w0 f3 e1 t0;have g2:w.heap.size≤bk∧b2<bk∧b4<bk∧b5<bk∧b6<bk:=by have:=hG.2;have:=h2.lt;have:=h4.lt;have:=h5.lt;have:=h6.lt;omega
  replace h2:=(h2.grow hg).upd hu (by have:=h2.lt;omega);replace h4:=(h4.grow hg).upd hu (by have:=h4.lt;omega);replace h5:=(h5.grow hg).upd hu (by have:=h5.lt;omega);replace h6:=(h6.grow hg).upd hu (by have:=h6.lt;omega);replace hG:=aI hu oM (hG.trans hg);clear hg hu e1 t0 h0 j0 hs
  refine aX (S:=Nat×St) (λ q=>[(12,.int .i64 (q.1:Int)),(11,.pointer (some ⟨bk,0,none⟩)),(6,.pointer (some ⟨b6,0,none⟩)),(5,.pointer (some ⟨b5,0,none⟩)),(4,.pointer (some ⟨b4,0,none⟩)),(2,.pointer (some ⟨b2,0,none⟩))])
   (λ q w7=>q.1≤80∧q.2=rnK ks ws s q.1∧Blk w7 bk 295 (q.2.l.map wB)∧Blk w7 b6 340 (ws.map wB)∧Blk w7 b5 340 (ks.map wB)∧Blk w7 b2 295 (s.l.map wB)∧Blk w7 b4 295 (List.replicate 8 (wB 0#64))∧Grow w w7) (λ q=>80-q.1) (0,s) ⟨rfl,rfl,rfl,rfl,rfl,rfl,trivial⟩ ⟨Nat.zero_le _,rfl,e0,h6,h5,h2,h4,hG⟩ ?_
  clear h2 h4 h5 h6 hG e0 ht i0 m0;rintro ⟨t,s'⟩ w7 ⟨ht,x0,e0,h6,h5,h2,h4,hG⟩;simp only at ht x0 e0;by_cases i0:t<80
  ·have m0:(decide ((t:Int)<80))=true:=decide_eq_true oM;have u2:s'.l.map wB=[wB s'.a,wB s'.b,wB s'.c,wB s'.d,wB s'.e,wB s'.f,wB s'.g,wB s'.h]:=rfl;rw [u2] at e0;repeat refine aF ?_
   apply T.any 6 [is _,is _,is _,is _,is _,is _];(· kernel_rfl);(· ((repeat' (first|exact aM|refine aK ?_ ?_));(iterate 6 (· (refine yQ λ wq _ _ g0=>?_;(repeat refine aF ?_);exact aD rfl yG rfl)))));(rintro _ _ _ a0 _ _;(refine yT ?_))
   replace h2:=h2.grow a0;replace h4:=h4.grow a0;replace h5:=h5.grow a0;replace h6:=h6.grow a0;replace e0:=e0.grow a0;replace hG:=hG.trans a0;clear a0;repeat refine aF ?_
   apply T.any 30 [is _,is _,is _,is _,is _,is _,is _,is _,is _,is _,is _,is _,is _,is _,is _,is _,is _,is _,is _,is _,is _,is _,is _,is _,is _,is _,is _,is _,is _,is _];(· kernel_rfl);(· ((repeat' (first|exact aM|refine aK ?_ ?_));(iterate 30 (· (refine yQ λ wq _ _ g0=>?_;(repeat (first|(refine aO ?_;first|refine aQ rfl (Blk.cell (b:=bk) yB rfl) rfl ?_|refine aQ rfl (Blk.cell (b:=b6) yB (kE oM)) rfl ?_|refine aQ rfl (Blk.cell (b:=b5) yB (kE oM)) rfl ?_)|refine jY rfl rfl rfl ?_|refine kC rfl rfl rfl ?_|refine TL.andB6 rfl rfl rfl ?_|refine TL.notB6 rfl rfl ?_|refine yC ?_|(refine aB 272 ?_;refine aA rfl (rrot_c _ _ dM _) rfl ?_;rintro _ _ ⟨rfl,rfl⟩)));exact aD rfl yG rfl)))));(rintro _ _ _ a0 _ _;(refine yT ?_))
   replace h2:=h2.grow a0;replace h4:=h4.grow a0;replace h5:=h5.grow a0;replace h6:=h6.grow a0;replace e0:=e0.grow a0;replace hG:=hG.trans a0;clear a0;repeat refine aF ?_
   apply T.any 24 [is _,is _,is _,is _,is _,is _,is _,is _,is _,is _,is _,is _,is _,is _,is _,is _,is _,is _,is _,is _,is _,is _,is _,is _];(· kernel_rfl);(· ((repeat' (first|exact aM|refine aK ?_ ?_));(iterate 24 (· (refine yQ λ wq _ _ g0=>?_;(repeat (first|(refine aO ?_;refine aQ rfl (Blk.cell (b:=bk) yB rfl) rfl ?_)|refine jY rfl rfl rfl ?_|refine kC rfl rfl rfl ?_|refine TL.andB6 rfl rfl rfl ?_|refine yC ?_|(refine aB 272 ?_;refine aA rfl (rrot_c _ _ dM _) rfl ?_;rintro _ _ ⟨rfl,rfl⟩)));exact aD rfl yG rfl)))));(rintro _ _ _ a0 _ _;(refine yT ?_))
   replace h2:=h2.grow a0;replace h4:=h4.grow a0;replace h5:=h5.grow a0;replace h6:=h6.grow a0;replace e0:=e0.grow a0;replace hG:=hG.trans a0;clear a0;repeat (first|refine kC rfl rfl rfl ?_|(refine bZ ?_;refine eJ rfl rfl e0 rfl rfl rfl ?_;intro w9 hu f0 o0)|refine yC ?_)
   have b1:Blk w9 bk 295 ((rnd s' (ks.getD t 0#64) (ws.getD t 0#64)).l.map wB):=by
    simp only [rnd,tOne,tTwo,bs0,bs1,rA14,rA18,rA41,rA28,rA34,rA39,St.l,List.map];exact f0
   replace h2:=h2.upd hu oM;replace h4:=h4.upd hu oM;replace h5:=h5.upd hu oM;replace h6:=h6.upd hu oM;replace hG:=aI hu oM hG;clear hu e0 f0;exact aE (t+1,rnd s' (ks.getD t 0#64) (ws.getD t 0#64)) ⟨rfl,rfl,rfl,rfl,rfl,rfl,trivial⟩ ⟨i0,by rw [x0];rfl,b1,h6,h5,h2,h4,hG⟩ (by simp only;omega)
  ·obtain rfl:t=80:=by omega
   have m0:(decide (((80:Nat):Int)<80))=false:=by decide
   repeat refine aF ?_
   refine aX (S:=Nat) (λ q=>[(17,.int .i64 (q:Int)),(11,.pointer (some ⟨bk,0,none⟩)),(4,.pointer (some ⟨b4,0,none⟩)),(2,.pointer (some ⟨b2,0,none⟩))])
    (λ q w8=>q≤8∧Blk w8 bk 295 ((addL s'.l s.l q).map wB)∧Blk w8 b2 295 (s.l.map wB)∧Blk w8 b4 295 (List.replicate 8 (wB 0#64))∧Grow w w8) (λ q=>8-q) 0 ⟨rfl,rfl,rfl,rfl,trivial⟩ ⟨Nat.zero_le _,e0,h2,h4,hG⟩ ?_
   clear h2 h4 h5 h6 e0 hG;rintro q w8 ⟨hq,e0,h2,h4,hG⟩;have k0:(addL s'.l s.l q).length=8:=by rw [addL_len];rfl
   by_cases d2:q<8
   ·have e2:(decide ((q:Int)<8))=true:=decide_eq_true oM;repeat refine aF ?_
    apply T.any 8 [is _,is _,is _,is _,is _,is _,is _,is _];(· kernel_rfl);(· ((repeat' (first|exact aM|refine aK ?_ ?_));(iterate 8 (· (refine yQ λ wq _ _ g0=>?_;(repeat (first|(refine aO ?_;first|refine aQ rfl (Blk.cell (b:=bk) yB (kE oM)) rfl ?_|refine aQ rfl (Blk.cell (b:=b2) yB (kE (by show q<8;omega))) rfl ?_)|refine kC rfl rfl rfl ?_|refine yC ?_));exact aD rfl yG rfl)))));(rintro _ _ _ a0 _ _;(refine yT ?_))
    replace h2:=h2.grow a0;replace h4:=h4.grow a0;replace e0:=e0.grow a0;replace hG:=hG.trans a0;clear a0;repeat (first|(refine bZ ?_;refine dR rfl rfl e0 rfl (by rw [List.length_map,k0];exact Nat.ble_eq_true_of_le oM) (map_set _ _ _) ?_;intro w9 hu f0 o0)|refine yC ?_)
    replace h2:=h2.upd hu oM;replace h4:=h4.upd hu oM;replace hG:=aI hu oM hG;clear hu e0;exact aE (q+1) ⟨rfl,rfl,rfl,rfl,trivial⟩ ⟨d2,f0,h2,h4,hG⟩ oM
   ·obtain rfl:q=8:=by omega
    have e2:(decide (((8:Nat):Int)<8))=false:=by decide
    obtain ⟨rl,g1⟩:∃ rl,rl=addL s'.l s.l 8:=⟨_,rfl⟩
    rw [← g1] at e0 k0;repeat (first|(refine aO ?_;refine iU rfl e0 (by rw [List.length_map,k0];rfl) rfl ?_)|(refine bZ ?_;refine eJ rfl rfl h4 (by rw [List.length_map,k0];rfl) rfl (by simp [Value.oneCell']) ?_;intro w9 x1 f0 g3)|refine yC ?_)
    exact retC rfl (aW f0 (by rw [List.length_map,k0];rfl)) ⟨_,rfl,by rw [h1,g1,x0],aI x1 oM hG⟩
end Go.Proofs.YtfpadnmdafiddaaGreatDoor
