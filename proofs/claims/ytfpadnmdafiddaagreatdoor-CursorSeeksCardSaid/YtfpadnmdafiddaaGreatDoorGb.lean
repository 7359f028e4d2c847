import Derived.Test.YtfpadnmdafiddaaGreatDoorG0
import Derived.Test.YtfpadnmdafiddaaGreatDoorGa
import Derived.LaidEql
import Derived.DeepKeys4
import Derived.Maps.Keyed
import Derived.Carry
import Derived.Laws.OwnMore
set_option linter.all false
set_option maxHeartbeats 16000000
set_option maxRecDepth 100000
namespace Go.Proofs.YtfpadnmdafiddaaGreatDoor
open Go Go.RowKit Go.V
def big (n:Nat):Nat→List Nat
 | 0=>[]
 | s+1=>n / 2^(8*s)%256::big n s
theorem length_big (n:Nat):∀ s,(big n s).length=s
 | 0=>rfl
 | s+1=>by simp [big,length_big n s]
def head1 (n s:Nat):Nat:=(255*2^(9-s)%256)|||(n / 2^(8*(s-1))%256)
def encL (n:Nat):List Nat:=head1 n (sz n)::big n (sz n-1)
theorem length_encL (n:Nat):(encL n).length=sz n:=by
 have:=sz_le n;simp [encL,length_big];omega
theorem number_c (B:Nat) (v:Value) (k0 n:Nat) (xs:List Value) (w:World) (hown:w.ownsRow B 5 1 v k0 xs) (hB:B≤w.heap.size) (hn:n<18446744073709551616) (hk:k0≤1099511627776) :
  Calls Tryz.prog 232 #[v,.int .u64 (n:Int)] w (Ret λ v' w'=>w'.ownsRow B 5 1 v' (k0+sz n) (xs++bB (encL n))∧Below B w w'):=by
 refine V.calls (args:=[_,_]) Tryz.func232 rfl Tryz.ntmps232 rfl rfl ?_;have hs:=sz_le n;generalize hsz:sz n=s at hs;refine dV 2 (λ e v'=>Sub [(5,.int .i64 (s:Int)),(1,.int .u64 (n:Int)),(0,v)] e∧v'=w) ?_ ?_;rotate_left
 ·repeat (first|refine dF ?_|(refine aB 233 ?_;refine aA rfl (size_c n hn _) rfl ?_;rintro _ _ ⟨rfl,rfl⟩);rw [hsz])
  exact ⟨⟨rfl,rfl,rfl,trivial⟩,rfl⟩
 rintro e w0 ⟨hsub,rfl⟩;refine bD (e':=[(5,_),(1,_),(0,_)]) ?_ hsub;clear hsub;refine dV 1 (λ e v'=>∃ u,Sub [(5,.int .i64 (s:Int)),(1,.int .u64 (n:Int)),(0,u)] e∧v'.ownsRow B 5 1 u (k0+1) (xs++bB [head1 n s])∧Below B w0 v') ?_ ?_;rotate_left
 ·have hh:head1 n s<256:=Nat.or_lt_two_pow (n:=8) (Nat.mod_lt _ dM) (Nat.mod_lt _ dM);refine upto_seq ?_;apply T.any 12 [is _,is _,is _,is _,is _,is _,is _,is _,is _,is _,is _,slF (λ _=>True) 1 1 1 (bB [head1 n s])]
  ·rfl
  ·repeat' (first|exact aN|refine aK ?_ ?_)
   iterate 2
    ·refine yQ λ wq _ _ hgq=>?_;repeat refine dF ?_
     exact aD rfl yG rfl
   ·refine yQ λ wq _ _ hgq=>?_;repeat (first|(refine TL.subN (a:=9) rfl rfl oM oM rfl ?_)|refine yA ?_)
    exact aD rfl yG rfl
   ·refine yQ λ wq _ _ hgq=>?_;repeat (first|(refine jW ?_;refine TL.shlT (a:=255) (s:=9-s) rfl rfl (by show 9-s≤8;omega) rfl ?_)|refine yA ?_)
    exact aD rfl yG rfl
   iterate 2
    ·refine yQ λ wq _ _ hgq=>?_;repeat refine dF ?_
     exact aD rfl yG rfl
   ·refine yQ λ wq _ _ hgq=>?_;repeat (first|(refine TL.subN rfl rfl oM oM rfl ?_)|refine yA ?_)
    exact aD rfl yG rfl
   ·refine yQ λ wq _ _ hgq=>?_;repeat (first|(refine TL.mulN (a:=8) rfl rfl oM rfl ?_)|refine yA ?_)
    exact aD rfl yG rfl
   ·refine yQ λ wq _ _ hgq=>?_;repeat (first|(refine eU ?_;refine TL.shrS rfl rfl (by show 8*(s-1)≤64;omega) rfl ?_)|refine yA ?_)
    exact aD rfl yG rfl
   ·refine yQ λ wq _ _ hgq=>?_;repeat (first|(refine dL ?_;refine iC rfl (M:=256) rfl rfl ?_)|refine yA ?_)
    exact aD rfl yG rfl
   ·refine yQ λ wq _ _ hgq=>?_;repeat (first|(refine TL.isOr ?_;refine TL.orB rfl rfl (Nat.mod_lt _ dM) (Nat.mod_lt _ dM) rfl ?_)|refine yA ?_)
    exact aD rfl yG rfl
   ·refine yQ λ wq _ _ hgq=>?_;refine TL.buildSlice rfl rfl rfl rfl rfl ?_;intro b w3 hg3 hb3 hs3 hs4 hs5;repeat refine dF ?_
    exact aD rfl yG ⟨_,rfl,(aV hb3 hs5 dM).mono (λ _ _=>trivial)⟩
  ·intro w2 lo2 hi2 hg2 hspan2 hapart2;((((repeat (refine aJ rfl rfl ?_;intro vq hvq;try (obtain rfl:=hvq)));(refine aZ ?_))))
   obtain ⟨a',rfl,hsl⟩:=hvq;have h4:=hg2.size;refine TL.append rfl rfl (aS hown hg2) hsl (bO _) (by unfold maxLen;omega) oM oM rfl ?_;intro v' w3 hown3 hgb _;repeat refine dF ?_
   exact ⟨_,⟨rfl,rfl,rfl,trivial⟩,hown3,aL hgb oM (λ k hk=>(aT (aS hown hg2) hk).1) (below_grow hg2 hB (Below.refl _ _))⟩
 clear hown;rintro e w1 ⟨u,hsub,hown,hb1⟩;refine bD (e':=[(5,_),(1,_),(0,_)]) ?_ hsub;clear hsub;repeat (refine yA ?_)
 refine aX (S:=Value×Nat) (λ q=>[(6,.int .i64 ((q.2:Int)-1)),(1,.int .u64 (n:Int)),(0,q.1)])
  (λ q w2=>∃ m ys,q.2<s∧w2.ownsRow B 5 1 q.1 m ys∧ys++bB (big n q.2)=xs++bB (head1 n s::big n (s-1))∧m+q.2=k0+s∧Below B w0 w2) (λ q=>q.2) (u,s-1)
  ⟨congrArg (λ z=>some (Value.int .i64 z)) (by show (s:Int)-2=((s-1:Nat):Int)-1;omega),rfl,rfl,trivial⟩ ⟨_,_,by show s-1<s;omega,hown,by simp [bB],by show k0+1+(s-1)=_;omega,hb1⟩ ?_
 clear hown hb1;rintro ⟨u2,j⟩ w2 ⟨m,ys,hj,hown,hys,hm,hb⟩;simp only at hj hown hys hm;have henc:encL n=head1 n s::big n (s-1):=by unfold encL;rw [hsz]
 cases j with
 | zero =>
  repeat refine dF ?_
  refine bA rfl ⟨_,rfl,?_,hb⟩;rw [henc,← hys,← hm];simpa [big,bB] using hown
 | succ j =>
  have ej:(((j+1:Nat):Int))-1=(j:Int):=by omega
  simp only [ej];repeat (first|(refine eQ ?_;refine TL.mulN (a:=8) rfl rfl oM rfl ?_)|(refine eU ?_;refine TL.shrS rfl rfl (by show 8*j≤64;omega) rfl ?_)|(refine dL ?_;refine iC rfl (M:=256) rfl rfl ?_)|refine yA ?_)
  refine TL.buildSlice rfl rfl rfl rfl rfl ?_;intro b w3 hg3 hb3 hs3 hs4 hs5;have hsl:Sl (λ _=>True) w3 1 (some ⟨b,0,none⟩) 1 1 (bB [n / 2^(8*j)%256]):=(aV (sz:=1) (m:=1) hb3 hs5 dM).mono (λ _ _=>trivial);have hB3:B≤w2.heap.size:=by have:=hb.size;omega
  have h4:=hg3.size;refine TL.append rfl rfl (aS hown hg3) hsl (bO [n / 2^(8*j)%256]) (by unfold maxLen;omega) oM oM rfl ?_;intro v' w4 hown4 hgb _;repeat refine dF ?_
  refine aE (v',j) ⟨congrArg (λ z=>some (Value.int .i64 z)) oM,rfl,rfl,trivial⟩ ⟨_,_,by show j<s;omega,hown4,?_,by show m+1+j=_;omega,aL hgb oM (λ k hk=>(aT (aS hown hg3) hk).1) (below_grow hg3 hB3 hb)⟩ (Nat.lt_succ_self j);rw [← hys];simp [big,bB]
end Go.Proofs.YtfpadnmdafiddaaGreatDoor
namespace Go.Proofs.YtfpadnmdafiddaaGreatDoor
abbrev Bs:=List Nat
def bW:Bs→Bs→Int
 | [],[]=>0
 | [],_::_=>-1
 | _::_,[]=>1
 | a::x,b::y=>if a<b then -1 else if b<a then 1 else bW x y
structure Nd where
 items:List (Bs×Bs)
 kids:List Nat
 keys:List Bs
def nd0:Nd:=⟨[],[],[]⟩
def bN (n:Nd):Bool:=n.kids.isEmpty
def aR (n:Nd):Nat:=n.items.length+n.kids.length
def eF (k:Bs):Bool:=decide (1≤k.length)&&decide (k.length≤16)
def fC (v:Bs):Bool:=decide (v.length≤32)
def gM (l:List (Bs×Bs)) (i:Nat):Bool :=
 match l[i]? with
 | none=>true
 | some x=>eF x.1&&fC x.2&&(match i with
  | 0=>true
  | j+1=>match l[j]? with
   | none=>true
   | some y=>decide (bW y.1 x.1<0))
def jI (l:List Bs) (i:Nat):Bool :=
 match l[i]? with
 | none=>true
 | some x=>eF x&&(match i with
  | 0=>true
  | j+1=>match l[j]? with
   | none=>true
   | some y=>decide (bW y x<0))
def kG (l:List Nat) (i:Nat):Bool :=
 match l[i]? with
 | none=>true
 | some k=>decide (k<2147483648)&&!((l.take i).contains k)
def gF (f:Nat→Bool) (n:Nat):Bool:=(List.range n).all f
def wholeL (n:Nd):Bool:=n.keys.isEmpty&&decide (n.items.length≤8)&&gF (gM n.items) n.items.length
def wholeB (n:Nd):Bool:=n.items.isEmpty&&decide (2≤n.kids.length)&&decide (n.kids.length≤8)&&decide (n.keys.length+1=n.kids.length)&&gF (kG n.kids) n.kids.length&&gF (jI n.keys) n.keys.length
def bF (n:Nd):Bool:=if bN n then wholeL n else wholeB n
def cN (l:List (Bs×Bs)) (key:Bs):Nat:=(l.takeWhile λ x=>decide (bW x.1 key<0)).length
def eR (l:List (Bs×Bs)) (key:Bs):Bool:=match l[cN l key]? with
 | none=>false
 | some x=>decide (bW x.1 key=0)
def fX (l:List Bs) (key:Bs):Nat:=(l.takeWhile λ x=>decide (bW x key≤0)).length
def bS (p:Bs):Bs:=encL p.length++p
def bP (n:Nat):Bs:=[n%256,n / 256%256,n / 65536%256,n / 16777216%256]
def dC (n:Nd):Bs :=
 if bN n then [0,n.items.length]++n.items.flatMap (λ x=>bS x.1++bS x.2)
 else [1,n.kids.length]++n.kids.flatMap bP++n.keys.flatMap bS
structure Pg where
 count:Nat
 words:List Nat
 body:Nat→Bs
def bL (s:Pg) (n:Nat):Bool:=decide (n<s.count)&&(s.words.getD (n / 64) 0).testBit (n%64)
def lowP (s:Pg):Nat:=((List.range s.count).takeWhile λ n=>bL s n).length
def gY (l:List Nat) (n:Nat):List Nat:=l.set (n / 64) (l.getD (n / 64) 0|||2^(n%64))
def padB (b:Bs):Bs:=b++List.replicate (500-b.length) 0
def newP (s:Pg) (b:Bs):Option (Nat×Pg) :=
 let n:=lowP s
 if n=s.count then none else some (n,{ s with words:=gY s.words n,body:=λ k=>if k=n then padB b else s.body k })
def fQ (s:Pg):Nat:=((List.range s.count).filter λ n=>bL s n).length
def cR (s:Pg):Nat:=s.count-fQ s
theorem nT:∀ a:Bs,bW a a=0
 | []=>rfl
 | a::x=>by simp [bW,nT x]
theorem cmpB_eq:∀ {a b:Bs},bW a b=0→a=b
 | [],[],_=>rfl
 | [],_::_,h=>by simp [bW] at h
 | _::_,[],h=>by simp [bW] at h
 | a::x,b::y,h=>by
  unfold bW at h;split at h
  ·cases h
  ·split at h
   ·cases h
   ·rw [cmpB_eq h,show a=b by omega]
theorem cmpB_three:∀ a b:Bs,bW a b = -1∨bW a b=0∨bW a b=1
 | [],[]=>by simp [bW]
 | [],_::_=>by simp [bW]
 | _::_,[]=>by simp [bW]
 | a::x,b::y=>by
  unfold bW;split
  ·exact .inl rfl
  ·split
   ·exact .inr (.inr rfl)
   ·exact cmpB_three x y
theorem cmpB_swap:∀ a b:Bs,bW b a = - bW a b
 | [],[]=>rfl
 | [],_::_=>rfl
 | _::_,[]=>rfl
 | a::x,b::y=>by
  unfold bW;by_cases h1:a<b
  ·rw [if_pos h1,if_neg oM,if_pos h1];rfl
  ·by_cases h2:b<a
   ·rw [if_pos h2,if_neg h1,if_pos h2]
   ·rw [if_neg h1,if_neg h2,if_neg h2,if_neg h1];exact cmpB_swap x y
def eO (a b:Bs):Prop:=bW a b<0
theorem dK:∀ {a b c:Bs},eO a b→eO b c→eO a c
 | [],[],_,h,_=>by simp [eO,bW] at h
 | [],_::_,[],_,h=>by simp [eO,bW] at h
 | [],_::_,_::_,_,_=>by simp [eO,bW]
 | _::_,[],_,h,_=>by simp [eO,bW] at h
 | _::_,_::_,[],_,h=>by simp [eO,bW] at h
 | a::x,b::y,c::z,h,k=>by
  unfold eO bW at *;split at h
  ·split at k
   ·rw [if_pos oM];omega
   ·split at k
    ·omega
    ·rw [if_pos oM];omega
  ·split at h
   ·omega
   ·split at k
    ·rw [if_pos oM];omega
    ·split at k
     ·omega
     ·rw [if_neg oM,if_neg oM];exact dK (a:=x) (b:=y) (c:=z) h k
theorem eI (a:Bs):¬ eO a a:=by unfold eO;rw [nT];omega
theorem lT {a b:Bs} (h:eO a b):¬ eO b a:=λ k=>eI a (dK h k)
theorem klt_or (a b:Bs):eO a b∨a=b∨eO b a:=by
 rcases cmpB_three a b with h|h|h
 ·exact .inl (by unfold eO;omega)
 ·exact .inr (.inl (cmpB_eq h))
 ·exact .inr (.inr (by unfold eO;rw [cmpB_swap];omega))
def kle (a b:Bs):Prop:=¬ eO b a
theorem kle_refl (a:Bs):kle a a:=eI a
theorem klt_of_le {a b c:Bs} (h:kle a b) (k:eO b c):eO a c:=by
 rcases klt_or a c with g|g|g
 ·exact g
 ·subst g;exact absurd k h
 ·exact absurd (dK k g) h
theorem nP {a b c:Bs} (h:eO a b) (k:kle b c):eO a c:=by
 rcases klt_or a c with g|g|g
 ·exact g
 ·subst g;exact absurd h k
 ·exact absurd (dK g h) k
theorem nQ {a b:Bs} (h:eO a b):kle a b:=lT h
instance (a b:Bs):Decidable (eO a b):=inferInstanceAs (Decidable (bW a b<0))
instance (a b:Bs):Decidable (kle a b):=inferInstanceAs (Decidable (¬ eO b a))
theorem cmpB_le {a b:Bs}:bW a b≤0↔kle a b:=by
 unfold kle eO;rw [cmpB_swap a b];omega
abbrev bT:=List (Bs×Bs)
def Srt (l:bT):Prop:=l.Pairwise λ x y=>eO x.1 y.1
def gW (key v:Bs):bT→bT
 | []=>[(key,v)]
 | x::l=>if eO x.1 key then x::gW key v l else if x.1=key then (key,v)::l else (key,v)::x::l
theorem nM {key v:Bs} {y:Bs×Bs}:∀ {l:bT},y∈gW key v l→y=(key,v)∨y∈l
 | [],h=>by simp only [gW,List.mem_singleton] at h;exact .inl h
 | x::l,h=>by
  unfold gW at h;split at h
  ·rcases List.mem_cons.1 h with rfl|h
   ·exact .inr List.mem_cons_self
   ·rcases nM h with h|h
    ·exact .inl h
    ·exact .inr (List.mem_cons_of_mem _ h)
  ·split at h
   ·rcases List.mem_cons.1 h with rfl|h
    ·exact .inl rfl
    ·exact .inr (List.mem_cons_of_mem _ h)
   ·rcases List.mem_cons.1 h with rfl|h
    ·exact .inl rfl
    ·exact .inr h
theorem insI_srt {key v:Bs}:∀ {l:bT},Srt l→Srt (gW key v l)
 | [],_=>by simp [gW,Srt]
 | x::l,h=>by
  have h1:=List.pairwise_cons.1 h;unfold gW;split
  ·rename_i hx;refine List.pairwise_cons.2 ⟨λ y hy=>?_,insI_srt h1.2⟩;rcases nM hy with rfl|hy
   ·exact hx
   ·exact h1.1 y hy
  ·rename_i hx;split
   ·rename_i he;exact List.pairwise_cons.2 ⟨λ y hy=>by rw [← he];exact h1.1 y hy,h1.2⟩
   ·rename_i he
    have hk:eO key x.1:=by
     rcases klt_or x.1 key with g|g|g
     ·exact absurd g hx
     ·exact absurd g he
     ·exact g
    refine List.pairwise_cons.2 ⟨λ y hy=>?_,h⟩;rcases List.mem_cons.1 hy with rfl|hy
    ·exact hk
    ·exact dK hk (h1.1 y hy)
theorem insI_append {key v:Bs}:∀ {a b:bT},(∀ x∈a,eO x.1 key)→gW key v (a++b)=a++gW key v b
 | [],b,_=>rfl
 | x::a,b,h=>by
  simp only [List.cons_append,gW];rw [if_pos (h x sM),insI_append (λ y hy=>h y (List.mem_cons_of_mem _ hy))]
theorem insI_before {key v:Bs}:∀ {a b:bT},(∀ x∈b,eO key x.1)→gW key v (a++b)=gW key v a++b
 | [],[],_=>rfl
 | [],x::b,h=>by
  have hx:=h x sM;simp only [List.nil_append,gW];rw [if_neg (lT hx),if_neg (λ e=>by rw [e] at hx;exact eI _ hx)];rfl
 | x::a,b,h=>by
  simp only [List.cons_append,gW];split
  ·rw [insI_before h];rfl
  ·split<;>rfl
end Go.Proofs.YtfpadnmdafiddaaGreatDoor
namespace Go.V
open Go Go.RowKit
section
variable [Rn]
variable {P:Program} {n:Nat} {e:dJ} {w:World} {Q:dI} {ops:Array Oper} {rest:List Oper} {d:Nat} {ty:TypeId} {pos:String} {aft:Array Edge}
def ptrB (P:Program) (t:TypeId):Bool:=match P.underlying t with|some (.pointer el)=>(match P.info? el with|some i=>!(Nat.beq i.size 0)|none=>false)|_=>false
class PtrTy (P:Program) (t:TypeId):Prop where
 h:ptrB P t=true
theorem PtrTy.und {t:TypeId} (h:PtrTy P t):∃ el i,P.underlying t=some (.pointer el)∧P.info? el=some i∧i.size≠0:=by
 have h:=h.h;unfold ptrB at h;split at h
 ·rename_i el he;split at h
  ·rename_i i hi;refine ⟨el,i,he,hi,?_⟩;intro h0;rw [h0] at h;cases h
  ·cases h
 ·cases h
theorem run_equalIn_nil (dp:Nat) {t:TypeId} (h:PtrTy P t) (a:Addr) (w:World):(Op.equalIn (dp+1) t (.pointer (some a)) (.pointer none)).run P w=.ok false w:=by
 obtain ⟨el,i,hu,hi,hs⟩:=h.und;simp [Op.equalIn,underlying,hu]
theorem run_equalIn_same (dp:Nat) {t:TypeId} (h:PtrTy P t) (a:Addr) (w:World):(Op.equalIn (dp+1) t (.pointer (some a)) (.pointer (some a))).run P w=.ok true w:=by
 obtain ⟨el,i,hu,hi,hs⟩:=h.und;simp [Op.equalIn,underlying,hu,sizeOf,typeInfo,hi,hs,run_sameAddr_same]
theorem TL.neNilP {t t2:TypeId} {x y:Operand} {a:Addr} [ht:PtrTy P t] (hx:val e x=some (.pointer (some a))) (hy:val e y=some (.pointer none)) (hd:Nat.blt d n=true)
  (k:TL P n ops rest ((d,.bool true)::e) w Q):TL P n ops (⟨some d,.binOp .neq t x y t2,ty,pos,aft,none⟩::rest) e w Q :=
 TL.run (λ r hr=>by
  have hg:eqGuard .neq t x y (.pointer (some a)) (.pointer none)=Pure.pure ():=rfl;simp only [execOp,hr.eval hx,hr.eval hy,hg];simp only [binOp]
  simp [Op.equal,Op.maxDepth,run_equalIn_nil 9999 ht]) hd k
theorem TL.eqSame {t t2:TypeId} {x y:Operand} {a:Addr} [ht:PtrTy P t] (hx:val e x=some (.pointer (some a))) (hy:val e y=some (.pointer (some a))) (hd:Nat.blt d n=true)
  (k:TL P n ops rest ((d,.bool true)::e) w Q):TL P n ops (⟨some d,.binOp .eql t x y t2,ty,pos,aft,none⟩::rest) e w Q :=
 TL.run (λ r hr=>by
  have hg:eqGuard .eql t x y (.pointer (some a)) (.pointer (some a))=Pure.pure ():=rfl;simp only [execOp,hr.eval hx,hr.eval hy,hg];simp only [binOp]
  simp [Op.equal,Op.maxDepth,run_equalIn_same 9999 ht]) hd k
theorem nB {j s:Nat} {want:Bool} {op:Op} (hj:(ops[j]?).bind (·.dst)=some s) (hb:find e s=some undef) (hd:Nat.blt d n=true)
  (hf:TL P n ops rest ((d,undef)::e) w Q):TL P n ops (⟨some d,op,ty,pos,aft,some (j,want)⟩::rest) e w Q:=TL.mk λ a ha=>by
 have hy:(yielded ops a.tmps j==some want)=false:=by
  have h1:=ha.get s _ hb;simp only [yielded,hj,Option.bind_some];rcases Nat.lt_or_ge s a.tmps.size with h|h
  ·have h2:a.tmps[s]? = some undef:=by
    simp [h] at h1;simp [h,h1]
   rw [h2];rfl
  ·rw [Array.getElem?_eq_none h];rfl
 have hout:=hf.out (ha.put hd undef);unfold wpListIn;simp only [Region.wanted,hy,Bool.false_eq_true,if_false];exact ⟨λ _ _=>trivial,hout⟩
end
end Go.V
namespace Go.Proofs.YtfpadnmdafiddaaGreatDoor
open Go Go.RowKit Go.V
instance:PtrTy Tryz.prog 302:=⟨kR⟩
def rdr (b:Nat) (a:Option Addr) (n c at' err:Nat):List Value:=[.pointer (some ⟨b,0,none⟩),.slice a n c,.int .i64 (at':Int),.int .i64 (err:Int)]
theorem made_c (b:Nat) (a:Option Addr) (n c at' err:Nat) (w:World) (hb:Blk w b 329 (rdr b a n c at' err)) :
  Calls Tryz.prog 257 #[.pointer (some ⟨b,0,none⟩)] w (Ret λ v w'=>v=.bool true∧w=w'):=by
 unfold rdr at hb;refine V.calls (args:=[_]) Tryz.func257 rfl Tryz.ntmps257 rfl rfl ?_;repeat (first|(refine TL.isNeT 302 ?_;refine TL.neNilP rfl rfl rfl ?_)|(refine kU 302 ?_;refine TL.eqSame rfl rfl rfl ?_)|refine yA ?_)
 exact bA rfl ⟨_,rfl,rfl,rfl⟩
theorem err_c (b:Nat) (a:Option Addr) (n c at' err:Nat) (w:World) (hb:Blk w b 329 (rdr b a n c at' err)) :
  Calls Tryz.prog 222 #[.pointer (some ⟨b,0,none⟩)] w (Ret λ v w'=>v=.int .i64 (err:Int)∧w=w'):=by
 refine V.calls (args:=[_]) Tryz.func222 rfl Tryz.ntmps222 rfl rfl ?_;have hb2:=hb;unfold rdr at hb2;repeat (first|refine dF ?_|(refine aB 257 ?_;refine aA rfl (made_c b a n c at' err _ hb) rfl ?_;rintro _ _ ⟨rfl,rfl⟩))
 exact bA rfl ⟨_,rfl,rfl,rfl⟩
end Go.Proofs.YtfpadnmdafiddaaGreatDoor
namespace Go.V
open Go Go.RowKit
section
variable [Rn]
variable {P:Program} {n:Nat} {e:dJ} {w:World} {Q:dI} {ops:Array Oper} {rest:List Oper} {d:Nat} {ty:TypeId} {pos:String} {aft:Array Edge}
theorem TL.convZ {z z':Int} {s t:TypeId} {x:Operand} {k1 k2 kd:IntKind} [hs:IntTy P s k1] [ht:IntTy P t k2] (hx:val e x=some (.int kd z)) (h:k2.wrap z=z') (hd:Nat.blt d n=true)
  (k:TL P n ops rest ((d,.int k2 z')::e) w Q):TL P n ops (⟨some d,.convert s t x,ty,pos,aft,none⟩::rest) e w Q :=
 TL.run (λ r hr=>by simp [execOp,hr.eval hx,jC hs ht,h]) hd k
end
end Go.V
namespace Go.Proofs.YtfpadnmdafiddaaGreatDoor
open Go Go.RowKit Go.V
abbrev Mut (b:Nat) (w w':World):Prop:=w.grownBy w' (some b)
theorem iK {b:Nat} {w w':World} (g:Grow w w'):Mut b w w':=⟨g.1.os,g.1.tape,g.1.output,g.2,λ k hk _=>g.block k hk⟩
theorem mut_upd {b:Nat} {w w':World} (u:Upd b w w'):Mut b w w':=⟨u.os,u.tape,u.output,Nat.le_of_eq u.size.symm,λ k _ hk=>u.block k (λ h=>hk (by rw [h]))⟩
theorem lX {F:Nat→Prop} {b sz n c:Nat} {a:Option Addr} {cs:List Value} {w w':World} (h:Sl F w sz a n c cs) (m:Mut b w w') (hF:¬ F b):Sl F w' sz a n c cs :=
 h.keep (λ k hk hk2=>m.block k hk2 (λ h=>hF (by cases h;exact hk))) m.size
theorem left_c (b:Nat) (a:Option Addr) (n c at' err:Nat) (w:World) (hb:Blk w b 329 (rdr b a n c at' err)) (hn:n≤9223372036854775807) (ha:at'≤n) :
  Calls Tryz.prog 225 #[.pointer (some ⟨b,0,none⟩)] w (Ret λ v w'=>v=.int .i64 ((n-at':Nat):Int)∧Grow w w'):=by
 refine V.calls (args:=[_]) Tryz.func225 rfl Tryz.ntmps225 rfl rfl ?_;have hb2:=hb;unfold rdr at hb2;repeat (first|refine dF ?_|(refine aB 257 ?_;refine aA rfl (made_c b a n c at' err _ hb) rfl ?_;rintro _ _ ⟨rfl,rfl⟩))
 apply T.any 10 [is _,is _,is _,is _,is _,is _,is _,is _,is _,is _];(· kernel_rfl);(· ((repeat' (first|exact aN|refine aK ?_ ?_));(iterate 10 (· (refine yQ λ wq _ _ hgq=>?_;(repeat refine dF ?_);exact aD rfl yG rfl)))));(rintro _ _ _ hgr _ _;(refine yT ?_))
 repeat refine dF ?_
 exact bA rfl ⟨_,rfl,congrArg (Value.int .i64) oM,yG⟩
theorem fail_c (b:Nat) (a:Option Addr) (n c at' err:Nat) (x y:Nat) (w:World) (hb:Blk w b 329 (rdr b a n c at' err)) :
  Calls Tryz.prog 259 #[.pointer (some ⟨b,0,none⟩),.int .i64 (x:Int),.int .i64 (y:Int)] w (Ret λ v w'=>Blk w' b 329 (rdr b a n c x y)∧Mut b w w'):=by
 refine V.calls (args:=[_,_,_]) Tryz.func259 rfl Tryz.ntmps259 rfl rfl ?_;have hb2:=hb;unfold rdr at hb2;repeat (first|refine dF ?_|refine yJ λ w' hu hbk hsz=>?_)
 exact cE (vs:=[]) (by trivial) rfl ⟨_,rfl,hbk,mut_upd (by exact Upd.trans (by assumption) hu)⟩
theorem take_err (b:Nat) (a:Option Addr) (n c at' err m:Nat) (w:World) (hb:Blk w b 329 (rdr b a n c at' err)) (he:err≠0) :
  Calls Tryz.prog 256 #[.pointer (some ⟨b,0,none⟩),.int .u64 (m:Int)] w (Ret λ v w'=>v=.tuple #[.slice none 0 0,.bool false]∧w=w'):=by
 refine V.calls (args:=[_,_]) Tryz.func256 rfl Tryz.ntmps256 rfl rfl ?_;have hb2:=hb;unfold rdr at hb2;repeat (first|refine dF ?_|(refine aB 257 ?_;refine aA rfl (made_c b a n c at' err _ hb) rfl ?_;rintro _ _ ⟨rfl,rfl⟩))
 exact fM rfl rfl ⟨_,rfl,rfl,rfl⟩
theorem take_no (b:Nat) (a:Option Addr) (n c at' m:Nat) (w:World) (hb:Blk w b 329 (rdr b a n c at' 0)) (hn:n≤9223372036854775807) (ha:at'≤n) (hm:n-at'<m) (hm2:m<18446744073709551616) :
  Calls Tryz.prog 256 #[.pointer (some ⟨b,0,none⟩),.int .u64 (m:Int)] w (Ret λ v w'=>v=.tuple #[.slice none 0 0,.bool false]∧Blk w' b 329 (rdr b a n c at' 5)∧Mut b w w'):=by
 refine V.calls (args:=[_,_]) Tryz.func256 rfl Tryz.ntmps256 rfl rfl ?_;have hb2:=hb;unfold rdr at hb2;repeat (first|refine dF ?_|(refine aB 257 ?_;refine aA rfl (made_c b a n c at' 0 _ hb) rfl ?_;rintro _ _ ⟨rfl,rfl⟩))
 have hcv:IntKind.u64.wrap ((n:Int)-(at':Int))=((n-at':Nat):Int):=by
  rw [show (n:Int)-(at':Int)=((n-at':Nat):Int) by omega];exact eV (M:=18446744073709551616) rfl oM
 apply T.any 13 [is _,is _,is _,is _,is _,is _,is _,is _,is _,is _,is _,is _,is _];(· kernel_rfl);(· ((repeat' (first|exact aN|refine aK ?_ ?_));(iterate 13 (· (refine yQ λ wq _ _ hgq=>?_;(repeat (first|refine dF ?_|refine TL.convZ rfl hcv rfl ?_));exact aD rfl yG rfl)))));(rintro _ _ _ hgr _ _;(refine yT ?_))
 repeat (first|refine dF ?_|refine yJ λ w' hu hbk hsz=>?_)
 exact fM rfl rfl ⟨_,rfl,rfl,hbk,(iK hgr).trans (mut_upd hu)⟩
theorem take_yes (F:Nat→Prop) (b:Nat) (a:Option Addr) (n c at' m:Nat) (l:List Nat) (w:World) (hb:Blk w b 329 (rdr b a n c at' 0)) (hs:Sl F w 1 a n c (bB l)) (hF:¬ F b) (hn:n≤9223372036854775807) (ha:at'≤n) (hm:m≤n-at') :
  Calls Tryz.prog 256 #[.pointer (some ⟨b,0,none⟩),.int .u64 (m:Int)] w (Ret λ v w'=>∃ a' c',v=.tuple #[.slice a' m c',.bool true]∧Sl F w' 1 a' m c' (bB ((l.drop at').take m))∧Blk w' b 329 (rdr b a n c (at'+m) 0)∧Mut b w w'):=by
 refine V.calls (args:=[_,_]) Tryz.func256 rfl Tryz.ntmps256 rfl rfl ?_;have hb2:=hb;unfold rdr at hb2
 have hcv:IntKind.u64.wrap ((n:Int)-(at':Int))=((n-at':Nat):Int):=by
  rw [show (n:Int)-(at':Int)=((n-at':Nat):Int) by omega];exact eV (M:=18446744073709551616) rfl oM
 repeat (first|refine dF ?_|(refine aB 257 ?_;refine aA rfl (made_c b a n c at' 0 _ hb) rfl ?_;rintro _ _ ⟨rfl,rfl⟩))
 apply T.any 13 [is _,is _,is _,is _,is _,is _,is _,is _,is _,is _,is _,is _,is _];(· kernel_rfl);(· ((repeat' (first|exact aN|refine aK ?_ ?_));(iterate 13 (· (refine yQ λ wq _ _ hgq=>?_;(repeat (first|refine dF ?_|refine TL.convZ rfl hcv rfl ?_));exact aD rfl yG rfl)))));(rintro _ _ _ hgr _ _;(refine yT ?_))
 repeat (first|(refine dL ?_;refine TL.convN rfl oM rfl ?_)|(refine nY ?_;refine TL.addN rfl rfl oM rfl ?_)|refine yA ?_|refine yJ λ w' hu hbk hsz=>?_)
 have hs8:=(hs.grow hgr).upd hu (λ k hk h=>hF (h▸hk));have hbk8:Blk w' b 329 [.pointer (some ⟨b,0,none⟩),.slice a n c,.int .i64 ((at'+m:Nat):Int),.int .i64 0]:=hbk;apply T.any 10 [is _,is _,is _,is _,is _,is _,is _,is _,is _,slF F 1 m (c-at') (bB ((l.drop at').take m))]
 ·rfl
 ·repeat' (first|exact aN|refine aK ?_ ?_)
  iterate 9
   ·refine yQ λ wq _ _ hgq=>?_;repeat refine dF ?_
    exact aD rfl yG rfl
  ·refine yQ λ wq _ _ hgq=>?_;refine TL.slice (l:=at') (h:=at'+m) (mm:=c) rfl (hs8.grow hgq) (bI rfl rfl) (bI rfl rfl) (aP c) (by intro h;cases h) oM oM (by have:=hs.cap;omega) (Nat.le_refl _) rfl ?_;intro a' hsl _;repeat refine dF ?_
   rw [show at'+m-at'=m by omega] at hsl ⊢;exact aD rfl yG ⟨a',rfl,by simpa [bB,List.map_take,List.map_drop] using hsl⟩
 ·intro w6 lo6 hi6 hg6 hspan6 hapart6;((((repeat (refine aJ rfl rfl ?_;intro vq hvq;try (obtain rfl:=hvq)));(refine aZ ?_))))
  obtain ⟨a',rfl,hsl⟩:=hvq;repeat refine dF ?_
  exact fM rfl rfl ⟨_,rfl,a',_,rfl,hsl,hbk8.grow hg6,((iK hgr).trans (mut_upd hu)).trans (iK hg6)⟩
end Go.Proofs.YtfpadnmdafiddaaGreatDoor
namespace Go.V
open Go Go.RowKit
section
variable [Rn]
variable {P:Program} {n:Nat} {e:dJ} {w:World} {Q:dI} {ops:Array Oper} {rest:List Oper} {d:Nat} {ty:TypeId} {pos:String} {aft:Array Edge}
theorem notB:∀ a:Fin 256,Op.intBits .xor .u8 255 (a.1:Int)=(Pure.pure (.int .u8 ((255-a.1:Nat):Int)):Sem Value):=by
 have h:∀ a:Fin 256,(BitVec.ofInt 8 255 ^^^ BitVec.ofInt 8 (a.1:Int)).toNat=255-a.1:=by decide +kernel
 intro a;have ha:=a.2;have h2:=h a;have e2:=eV (kd:=.u8) (M:=256) rfl (show 255-a.1<256 by omega);rw [← h2] at e2 ⊢;simp only [Op.intBits];show Pure.pure (Value.int .u8 (IntKind.u8.wrap ((BitVec.ofInt 8 255 ^^^ BitVec.ofInt 8 (a.1:Int)).toNat:Int)))=_;rw [e2]
theorem TL.notB {x:Operand} {a:Nat} {t1:TypeId} (hx:val e x=some (.int .u8 (a:Int))) (ha:a<256) (hd:Nat.blt d n=true)
  (k:TL P n ops rest ((d,.int .u8 ((255-a:Nat):Int))::e) w Q):TL P n ops (⟨some d,.unOp .xor t1 x,ty,pos,aft,none⟩::rest) e w Q :=
 TL.run (λ r hr=>by
  have h:Op.unary .xor (.int .u8 (a:Int))=(Pure.pure (.int .u8 ((255-a:Nat):Int)):Sem Value):=V.notB ⟨a,ha⟩;simp only [execOp,hr.eval hx,h]
  rfl) hd k
theorem TL.isUn {u:UnOp} {x:Operand} {t1:TypeId} {d:Option Nat} (h:TL P n ops (⟨d,.unOp u t1 x,ty,pos,aft,none⟩::rest) e w Q):TL P n ops (⟨d,.unOp u t1 x,ty,pos,aft,none⟩::rest) e w Q:=h
theorem TL.shrB {x y:Operand} {a s:Nat} {ky:IntKind} {t1 t2:TypeId} {zx zy:Int} (hx:val e x=some (.int .u8 zx)) [ix:Lit zx a] (hy:val e y=some (.int ky zy)) [iy:Lit zy s] (ha:a<256) (hd:Nat.blt d n=true)
  (k:TL P n ops rest ((d,.int .u8 ((a / 2^s:Nat):Int))::e) w Q):TL P n ops (⟨some d,.binOp .shr t1 x y t2,ty,pos,aft,none⟩::rest) e w Q :=
 TL.run (λ r hr=>by
  rw [ix.h] at hx;rw [iy.h] at hy
  have h4:¬ ((s:Int)<0):=by omega
  have e1:(a:Int).fdiv (2^(min s 8))=((a / 2^s:Nat):Int):=by
   rw [Int.fdiv_eq_ediv_of_nonneg _ (by exact_mod_cast Nat.zero_le (2^(min s 8)))]
   have:a / 2^(min s 8)=a / 2^s:=by
    rcases Nat.lt_or_ge s 8 with h|h
    ·rw [Nat.min_eq_left oM]
    ·rw [Nat.min_eq_right h,Nat.div_eq_of_lt ha,Nat.div_eq_of_lt (Nat.lt_of_lt_of_le ha (Nat.pow_le_pow_right (n:=2) dM h))]
   rw [← this];simp
  have h3:IntKind.u8.bits=8:=rfl;simp only [execOp,binOp,bG,Op.shift,hr.eval hx,hr.eval hy]
  simp [h3,h4,e1]) hd k
end
end Go.V
namespace Go.Proofs.YtfpadnmdafiddaaGreatDoor
open Go Go.RowKit Go.V
def cnt (f:Nat):Nat:=8-bl (255-f)+1
def lD (v c:Nat):Nat:=v*256%18446744073709551616+c
def fW:List Nat→Nat×Nat×Nat
 | []=>(0,0,5)
 | f::t=>if t.length<cnt f-1 then (0,0,5) else
  if sz ((t.take (cnt f-1)).foldl lD (f&&&(255 / 2^cnt f)))=cnt f then ((t.take (cnt f-1)).foldl lD (f&&&(255 / 2^cnt f)),cnt f,0) else (0,0,4)
theorem rnum_err (b:Nat) (a:Option Addr) (n c at' err:Nat) (w:World) (hb:Blk w b 329 (rdr b a n c at' err)) (he:err≠0) :
  Calls Tryz.prog 258 #[.pointer (some ⟨b,0,none⟩)] w (Ret λ v w'=>v=.int .u64 0∧w=w'):=by
 refine V.calls (args:=[_]) Tryz.func258 rfl Tryz.ntmps258 rfl rfl ?_;repeat (first|refine dF ?_|(refine aB 256 ?_;refine aA rfl (take_err b a n c at' err 1 _ hb he) rfl ?_;rintro _ _ ⟨rfl,rfl⟩))
 exact bA rfl ⟨_,rfl,rfl,rfl⟩
theorem rnum_none (b:Nat) (a:Option Addr) (n c:Nat) (w:World) (hb:Blk w b 329 (rdr b a n c n 0)) (hn:n≤9223372036854775807) :
  Calls Tryz.prog 258 #[.pointer (some ⟨b,0,none⟩)] w (Ret λ v w'=>v=.int .u64 0∧Blk w' b 329 (rdr b a n c n 5)∧Mut b w w'):=by
 refine V.calls (args:=[_]) Tryz.func258 rfl Tryz.ntmps258 rfl rfl ?_;repeat refine dF ?_
 refine aA rfl (take_no b a n c n 1 _ hb hn (Nat.le_refl _) oM oM) rfl ?_;rintro _ w2 ⟨rfl,hb2,hm2⟩;repeat refine dF ?_
 exact bA rfl ⟨_,rfl,rfl,hb2,hm2⟩
theorem fold_lt:∀ (R:List Nat) (v:Nat),v<18446744073709551616→(∀ x∈R,x<256)→R.foldl lD v<18446744073709551616
 | [],v,hv,_=>hv
 | x::R,v,hv,h=>fold_lt R (lD v x) (by have:=h x sM;unfold lD;omega) (λ y hy=>h y (List.mem_cons_of_mem _ hy))
theorem cnt_bd {f:Nat}:1≤cnt f∧cnt f≤9:=by unfold cnt;omega
theorem rnum_some (F:Nat→Prop) (b:Nat) (a:Option Addr) (n c at':Nat) (l:List Nat) (f:Nat) (t:List Nat) (w:World) (hb:Blk w b 329 (rdr b a n c at' 0)) (hs:Sl F w 1 a n c (bB l)) (hF:¬ F b) (hn:n≤4611686018427387904)
  (ha:at'≤n) (hl:∀ x∈l,x<256) (hd:l.drop at'=f::t) :
  Calls Tryz.prog 258 #[.pointer (some ⟨b,0,none⟩)] w (Ret λ v w'=>v=.int .u64 ((fW (f::t)).1:Int)∧Blk w' b 329 (rdr b a n c (at'+(fW (f::t)).2.1) (fW (f::t)).2.2)∧Mut b w w'):=by
 have hlen:l.length=n:=by have:=hs.len;simpa [bB] using this
 have hdl:t.length+1=n-at':=by have:=congrArg List.length hd;simp at this;omega
 have hf:f<256:=hl f (List.mem_of_mem_drop (i:=at') (by rw [hd];simp));have hcb:=cnt_bd (f:=f);refine V.calls (args:=[_]) Tryz.func258 rfl Tryz.ntmps258 rfl rfl ?_;repeat refine dF ?_
 refine aA rfl (take_yes F b a n c at' 1 l _ hb hs hF oM ha oM) rfl ?_;rintro _ w2 ⟨a2,c2,rfl,hsl2,hb2,hm2⟩;have e2:(l.drop at').take 1=[f]:=by rw [hd];rfl
 rw [e2] at hsl2;have hcell:=hsl2.row.cell (j:=0) (v:=.int .u8 (f:Int)) rfl;have hb2':=hb2;unfold rdr at hb2';repeat (first|(refine TL.isUn ?_;refine TL.notB rfl hf rfl ?_)|(refine iP ?_;refine TL.subN rfl rfl oM oM rfl ?_)|(refine nY ?_;refine TL.addN rfl rfl oM rfl ?_)|refine yA ?_|(refine aC (j:=0) rfl rfl rfl oM (Nat.mul_one _) ⟨_,_,hsl2⟩ rfl ?_)|(refine aB 273 ?_;refine aA rfl (lz8_c (255-f) oM _) rfl ?_;rintro _ _ ⟨rfl,rfl⟩))
 rw [show 8-bl (255-f)+1=cnt f from rfl];by_cases hshort:t.length<cnt f-1
 ·have en:fW (f::t)=(0,0,5):=by simp only [fW,if_pos hshort]
  rw [en];refine aA rfl (take_no b a n c (at'+1) (cnt f-1) _ hb2 oM oM oM oM) rfl ?_;rintro _ w3 ⟨rfl,hb3,hm3⟩;have hb3':=hb3;unfold rdr at hb3';rw [show at'+1-1=at' by omega];repeat refine dF ?_
  refine aA rfl (fail_c b a n c (at'+1) 5 at' 5 _ hb3) rfl ?_;rintro _ w4 ⟨hb4,hm4⟩;repeat refine dF ?_
  exact bA rfl ⟨_,rfl,rfl,hb4,(hm2.trans hm3).trans hm4⟩
 have en:fW (f::t)=if sz ((t.take (cnt f-1)).foldl lD (f&&&(255 / 2^cnt f)))=cnt f then ((t.take (cnt f-1)).foldl lD (f&&&(255 / 2^cnt f)),cnt f,0) else (0,0,4):=by simp only [fW,if_neg hshort]
 rw [en];clear en;refine aA rfl (take_yes F b a n c (at'+1) (cnt f-1) l _ hb2 (lX hs hm2 hF) hF oM oM oM) rfl ?_;rintro _ w3 ⟨a3,c3,rfl,hsl3,hb3,hm3⟩;have e3:l.drop (at'+1)=t:=by rw [← List.drop_drop,hd];rfl
 rw [e3] at hsl3;have hlt:∀ x∈t,x<256:=λ x hx=>hl x (List.mem_of_mem_drop (i:=at') (by rw [hd];exact List.mem_cons_of_mem _ hx));have hcell3:w3.cell? (V.at' a2 0)=some (.int .u8 (f:Int)):=(lX hsl2 hm3 hF).row.cell (j:=0) (v:=.int .u8 (f:Int)) rfl;have hsl23:=lX hsl2 hm3 hF;generalize hT:t.take (cnt f-1)=R at hsl3 ⊢;have hTl:R.length=cnt f-1:=by rw [← hT];simp;omega
 have hT2:∀ x∈R,x<256:=λ x hx=>hlt x (List.mem_of_mem_take (by rw [hT];exact hx));generalize hk:cnt f=k at *;clear hd hT hlt;rw [show at'+1-1=at' by omega];repeat refine dF ?_
 apply T.any 7 [is _,is _,is _,is _,is _,is _,is _]
 ·rfl
 ·repeat' (first|exact aN|refine aK ?_ ?_)
  ·refine yQ λ wq _ _ hgq=>?_;repeat refine dF ?_
   exact aD rfl yG rfl
  ·refine yQ λ wq _ _ hgq=>?_;repeat (first|refine dF ?_|(refine aC (j:=0) rfl rfl rfl oM (Nat.mul_one _) ⟨_,_,hsl23.grow (by assumption)⟩ rfl ?_))
   exact aD rfl yG rfl
  ·refine yQ λ wq _ _ hgq=>?_;have hc4:=cell_grow hgq hcell3;repeat refine dF ?_
   exact aD rfl yG rfl
  ·refine yQ λ wq _ _ hgq=>?_;repeat refine dF ?_
   exact aD rfl yG rfl
  ·refine yQ λ wq _ _ hgq=>?_;repeat (first|(refine eU ?_;refine TL.shrB (a:=255) rfl rfl oM rfl ?_)|refine yA ?_)
   exact aD rfl yG rfl
  ·refine yQ λ wq _ _ hgq=>?_;repeat (first|(refine TL.isAnd ?_;refine TL.andB rfl rfl hf (Nat.lt_of_le_of_lt (Nat.div_le_self _ _) dM) rfl ?_)|refine yA ?_)
   exact aD rfl yG rfl
  ·refine yQ λ wq _ _ hgq=>?_;repeat (first|(refine dL ?_;refine TL.convU rfl (M:=18446744073709551616) rfl (Nat.lt_of_le_of_lt Nat.and_le_left oM) rfl ?_)|refine yA ?_)
   exact aD rfl yG rfl
 intro w4 lo4 hi4 hg4 hspan4 hapart4;((refine yT ?_))
 repeat refine dF ?_
 refine aX (S:=Nat) (λ q=>[(55,.int .i64 (q:Int)),(54,.int .i64 ((k-1:Nat):Int)),(53,.slice a3 (k-1) c3),(8,.int .u64 (((R.take q).foldl lD (f&&&255 / 2^k):Nat):Int)),(6,.int .i64 (k:Int)),(5,.int .i64 (at':Int)),(0,.pointer (some ⟨b,0,none⟩))])
  (λ q v=>q≤k-1∧Grow w3 v) (λ q=>k-1-q) 0 ⟨rfl,rfl,rfl,rfl,rfl,rfl,rfl,trivial⟩ ⟨Nat.zero_le _,hg4⟩ ?_
 rintro q w5 ⟨hq,hg5⟩;have hb5:=hb3.grow hg5;by_cases hqk:q<k-1
 ·have hR:R[q]? = some (R.getD q 0):=by rw [List.getD_eq_getElem?_getD,List.getElem?_eq_getElem oM];rfl
  have hx:R.getD q 0<256:=hT2 _ (List.mem_of_getElem? hR);have htk:R.take (q+1)=R.take q++[R.getD q 0]:=by rw [List.take_add_one,hR];rfl
  generalize R.getD q 0=x at *;have hsl5:=hsl3.grow hg5;have hcell5:=hsl5.row.cell (j:=q) (v:=.int .u8 (x:Int)) (by simp [bB,hR]);repeat (first|(refine jW ?_;refine TL.shlW rfl rfl (M:=18446744073709551616) (p:=256) rfl rfl rfl rfl ?_)|(refine dL ?_;refine TL.convU rfl (M:=18446744073709551616) rfl oM rfl ?_)|(refine TL.isOr ?_;refine TL.orL (m:=256) rfl rfl (M:=18446744073709551616) rfl rfl rfl hx rfl rfl ?_)|refine yA ?_|(refine aC (j:=q) rfl rfl rfl oM (Nat.mul_one _) ⟨_,_,hsl5⟩ rfl ?_))
  exact aE (q+1) ⟨rfl,rfl,rfl,by rw [htk,List.foldl_append];rfl,rfl,rfl,rfl,trivial⟩ ⟨oM,hg5⟩ oM
 ·obtain rfl:q=k-1:=by omega
  rw [List.take_of_length_le oM];have hV:=fold_lt R (f&&&255 / 2^k) (Nat.lt_of_le_of_lt Nat.and_le_left oM) hT2;generalize R.foldl lD (f&&&255 / 2^k)=V at hV ⊢;have hsv:=sz_le V;have hmm:Mut b w w5:=(hm2.trans hm3).trans (iK hg5);by_cases hz:sz V=k
  ·rw [if_pos hz];repeat (first|refine dF ?_|(refine aB 233 ?_;refine aA rfl (size_c V hV _) rfl ?_;rintro _ _ ⟨rfl,rfl⟩))
   refine bA rfl ⟨_,rfl,rfl,?_,hmm⟩;rw [show at'+1+(k-1)=at'+k by omega] at hb5;exact hb5
  ·rw [if_neg hz];repeat (first|refine dF ?_|(refine aB 233 ?_;refine aA rfl (size_c V hV _) rfl ?_;rintro _ _ ⟨rfl,rfl⟩))
   refine aA rfl (fail_c b a n c (at'+1+(k-1)) 0 at' 4 _ hb5) rfl ?_;rintro _ w6 ⟨hb6,hm6⟩;repeat refine dF ?_
   exact bA rfl ⟨_,rfl,rfl,hb6,hmm.trans hm6⟩
end Go.Proofs.YtfpadnmdafiddaaGreatDoor
namespace Go.Proofs.YtfpadnmdafiddaaGreatDoor
theorem head_fact:∀ (s:Fin 10) (low:Fin 256),1≤s.1→low.1<2^(8-s.1) →
  cnt ((255*2^(9-s.1)%256)|||low.1)=s.1∧((255*2^(9-s.1)%256)|||low.1)&&&(255 / 2^s.1)=low.1:=by decide +kernel
theorem head_back:∀ f:Fin 256,(255*2^(9-cnt f.1)%256)|||(f.1&&&(255 / 2^cnt f.1))=f.1∧f.1&&&(255 / 2^cnt f.1)<2^(8-cnt f.1):=by decide +kernel
theorem p256 (j:Nat):2^(8*(j+1))=2^(8*j)*256:=by rw [show 8*(j+1)=8*j+8 by omega,Nat.pow_add]
theorem fold_big {n:Nat} (hn:n<18446744073709551616):∀ j,(big n j).foldl lD (n / 2^(8*j))=n
 | 0=>by simp [big]
 | j+1=>by
  have h:=fold_big hn j;simp only [big,List.foldl_cons];have hx:n / 2^(8*j)≤n:=Nat.div_le_self _ _
  have e:lD (n / 2^(8*(j+1))) (n / 2^(8*j)%256)=n / 2^(8*j):=by
   unfold lD;rw [p256,← Nat.div_div_eq_div_mul];generalize n / 2^(8*j)=x at *;omega
  rw [e];exact h
theorem lt_of_bl {a k:Nat} (h:bl a≤k):a<2^k:=by
 rcases Nat.lt_or_ge a (2^k) with h1|h1
 ·exact h1
 ·have:=bl_gt h1;omega
theorem low_lt {n:Nat} (hn:n<18446744073709551616):n / 2^(8*(sz n-1))<2^(8-sz n):=by
 have hs:=sz_le n;have hb:bl n≤64:=bl_le (by show n<18446744073709551616;exact hn);have hlt:=lt_of_bl (Nat.le_refl (bl n));rw [Nat.div_lt_iff_lt_mul (Nat.two_pow_pos _),← Nat.pow_add];refine Nat.lt_of_lt_of_le hlt (Nat.pow_le_pow_right dM ?_);unfold sz at *;omega
theorem numV_enc {n:Nat} (hn:n<18446744073709551616) (r:List Nat):fW (encL n++r)=(n,sz n,0):=by
 have hs:=sz_le n;have hl:=low_lt hn;have hl2:n / 2^(8*(sz n-1))<256:=Nat.lt_of_lt_of_le hl (by rw [show (256:Nat)=2^8 by decide];exact Nat.pow_le_pow_right dM oM);obtain ⟨h1,h2⟩:=head_fact ⟨sz n,oM⟩ ⟨_,hl2⟩ hs.1 hl;simp only at h1 h2;have eh:head1 n (sz n)=(255*2^(9-sz n)%256)|||(n / 2^(8*(sz n-1))):=by unfold head1;rw [Nat.mod_eq_of_lt hl2]
 have hlen:=length_big n (sz n-1);simp only [encL,List.cons_append,fW,eh,h1];rw [if_neg (by simp [hlen])]
 have et:(big n (sz n-1)++r).take (sz n-1)=big n (sz n-1):=by
  conv=>lhs;rw [← hlen]
  rw [hlen];exact List.take_left' hlen
 rw [et,h2,fold_big hn,if_pos rfl]
theorem big_fold:∀ (R:List Nat) (low:Nat),(low+1)*2^(8*R.length)≤18446744073709551616→(∀ x∈R,x<256) →
  big (R.foldl lD low) R.length=R∧R.foldl lD low / 2^(8*R.length)=low
 | [],low,_,_=>by simp [big]
 | x::R,low,h,hR=>by
  have hx:=hR x sM;simp only [List.length_cons,p256] at h ⊢;have hp:=Nat.two_pow_pos (8*R.length);have h1:(low+1)*256*2^(8*R.length)≤18446744073709551616:=by rw [Nat.mul_assoc,Nat.mul_comm 256];exact h
  have h2:(low*256+x+1)*2^(8*R.length)≤18446744073709551616:=Nat.le_trans (Nat.mul_le_mul_right _ oM) h1;have h3:(low+1)*256≤18446744073709551616:=Nat.le_trans (Nat.le_mul_of_pos_right _ hp) h1;have es:lD low x=low*256+x:=by unfold lD;omega
  obtain ⟨i1,i2⟩:=big_fold R (low*256+x) h2 (λ y hy=>hR y (List.mem_cons_of_mem _ hy));simp only [List.foldl_cons,es];refine ⟨?_,?_⟩
  ·rw [big,i2,i1];congr 1
   omega
  ·rw [← Nat.div_div_eq_div_mul,i2];omega
theorem numV_back {r:List Nat} {v k:Nat} (hr:∀ x∈r,x<256) (h:fW r=(v,k,0)):r=encL v++r.drop k∧k=sz v∧v<18446744073709551616:=by
 cases r with
 | nil=>simp [fW] at h
 | cons f t =>
  have hf:=hr f sM;have hc:=cnt_bd (f:=f);obtain ⟨h1,h2⟩:=head_back ⟨f,hf⟩;simp only at h1 h2;simp only [fW] at h;split at h
  ·simp at h
  ·rename_i hs;split at h
   ·rename_i hz;simp only [Prod.mk.injEq,and_true] at h;obtain ⟨hv,hk⟩:=h;have hlen:(t.take (cnt f-1)).length=cnt f-1:=by simp;omega
    have hR:∀ x∈t.take (cnt f-1),x<256:=λ x hx=>hr x (List.mem_cons_of_mem _ (List.mem_of_mem_take hx));have hlow:f&&&(255 / 2^cnt f)<256:=Nat.lt_of_le_of_lt Nat.and_le_left hf;have hfit:(f&&&(255 / 2^cnt f))+1≤2^(8-cnt f):=h2
    obtain ⟨b1,b2⟩:=big_fold (t.take (cnt f-1)) (f&&&(255 / 2^cnt f)) (by
     rw [hlen];refine Nat.le_trans (Nat.mul_le_mul_right _ hfit) ?_;rw [← Nat.pow_add]
     exact Nat.pow_le_pow_right (n:=2) (j:=64) dM oM) hR
    have hlt:=fold_lt (t.take (cnt f-1)) (f&&&(255 / 2^cnt f)) oM hR;rw [hv] at b1 b2 hz hlt;rw [hlen] at b1 b2;refine ⟨?_,oM,hlt⟩;subst hk
    have e1:encL v=f::t.take (cnt f-1):=by
     unfold encL head1;rw [hz,b1,b2,Nat.mod_eq_of_lt hlow,h1]
    rw [e1];obtain ⟨m,hm⟩:∃ m,cnt f=m+1:=⟨cnt f-1,oM⟩
    rw [hm];simp
   ·simp at h
def kF (r:Bs):Option (Bs×Bs) :=
 if (fW r).2.2=0 then
  if (fW r).1≤(r.drop (fW r).2.1).length then some ((r.drop (fW r).2.1).take (fW r).1,(r.drop (fW r).2.1).drop (fW r).1) else none
 else none
def le4 (r:Bs):Nat:=r.getD 0 0+256*r.getD 1 0+65536*r.getD 2 0+16777216*r.getD 3 0
def rdWord (r:Bs):Option (Nat×Bs):=if 4≤r.length then some (le4 r,r.drop 4) else none
def iS:Nat→Bs→Option (bT×Bs)
 | 0,r=>some ([],r)
 | c+1,r=>match kF r with
  | none=>none
  | some (k,r1)=>match kF r1 with
   | none=>none
   | some (v,r2)=>match iS c r2 with
    | none=>none
    | some (l,r3)=>some ((k,v)::l,r3)
def kZ:Nat→Bs→Option (List Nat×Bs)
 | 0,r=>some ([],r)
 | c+1,r=>match rdWord r with
  | none=>none
  | some (k,r1)=>match kZ c r1 with
   | none=>none
   | some (l,r3)=>some (k::l,r3)
def lA:Nat→Bs→Option (List Bs×Bs)
 | 0,r=>some ([],r)
 | c+1,r=>match kF r with
  | none=>none
  | some (k,r1)=>match lA c r1 with
   | none=>none
   | some (l,r3)=>some (k::l,r3)
def finN (n:Nd) (r:Bs):Option Nd:=if r.all (λ x=>x==0)&&bF n then some n else none
def fZ (b:Bs):Option Nd :=
 match b with
 | kd::c::r =>
  if 8<c then none
  else if kd=0 then (match iS c r with
   | none=>none
   | some (l,r1)=>finN ⟨l,[],[]⟩ r1)
  else if kd=1∧2≤c then (match kZ c r with
   | none=>none
   | some (l,r1)=>match lA (c-1) r1 with
    | none=>none
    | some (ks,r2)=>finN ⟨[],l,ks⟩ r2)
  else none
 | _=>none
theorem readN_ok {b:Bs} {n:Nd} (h:fZ b=some n):bF n=true:=by
 have hf:∀ m r,finN m r=some n→bF n=true:=by
  intro m r h;unfold finN at h;split at h
  ·rename_i hc;cases h;exact (Bool.and_eq_true _ _▸hc).2
  ·cases h
 unfold fZ at h;split at h
 ·split at h
  ·cases h
  ·split at h
   ·split at h
    ·cases h
    ·exact hf _ _ h
   ·split at h
    ·split at h
     ·cases h
     ·split at h
      ·cases h
      ·exact hf _ _ h
    ·cases h
 ·cases h
theorem rdBlk_enc {p:Bs} (hp:p.length<18446744073709551616) (t:Bs):kF (bS p++t)=some (p,t):=by
 unfold kF bS;rw [List.append_assoc,numV_enc hp]
 have e:(encL p.length++(p++t)).drop (sz p.length)=p++t:=by
  rw [← length_encL];exact List.drop_left' rfl
 simp only [e];simp
theorem rdWord_enc {n:Nat} (hn:n<4294967296) (t:Bs):rdWord (bP n++t)=some (n,t):=by
 unfold rdWord bP;simp [le4];omega
theorem rdItems_enc:∀ (l:bT) (t:Bs),(∀ x∈l,x.1.length<1000∧x.2.length<1000)→iS l.length (l.flatMap (λ x=>bS x.1++bS x.2)++t)=some (l,t)
 | [],t,_=>rfl
 | x::l,t,h=>by
  have hx:=h x sM;simp only [List.flatMap_cons,List.length_cons,iS,List.append_assoc];rw [rdBlk_enc oM];simp only;rw [rdBlk_enc oM];simp only;rw [rdItems_enc l t (λ y hy=>h y (List.mem_cons_of_mem _ hy))]
theorem rdKids_enc:∀ (l:List Nat) (t:Bs),(∀ x∈l,x<4294967296)→kZ l.length (l.flatMap bP++t)=some (l,t)
 | [],t,_=>rfl
 | x::l,t,h=>by
  have hx:=h x sM;simp only [List.flatMap_cons,List.length_cons,kZ,List.append_assoc];rw [rdWord_enc hx];simp only;rw [rdKids_enc l t (λ y hy=>h y (List.mem_cons_of_mem _ hy))]
theorem rdKeys_enc:∀ (l:List Bs) (t:Bs),(∀ x∈l,x.length<1000)→lA l.length (l.flatMap bS++t)=some (l,t)
 | [],t,_=>rfl
 | x::l,t,h=>by
  have hx:=h x sM;simp only [List.flatMap_cons,List.length_cons,lA,List.append_assoc];rw [rdBlk_enc oM];simp only;rw [rdKeys_enc l t (λ y hy=>h y (List.mem_cons_of_mem _ hy))]
theorem jU {f:Nat→Bool} {n:Nat} (h:gF f n=true) {i:Nat} (hi:i<n):f i=true:=List.all_eq_true.1 h i (List.mem_range.2 hi)
theorem nV {f:Nat→Bool} {n:Nat} (h:∀ i,i<n→f i=true):gF f n=true:=List.all_eq_true.2 λ i hi=>h i (List.mem_range.1 hi)
theorem mQ {l:bT} (h:gF (gM l) l.length=true) {x:Bs×Bs} (hx:x∈l):eF x.1=true∧fC x.2=true:=by
 obtain ⟨i,hi,rfl⟩:=List.mem_iff_getElem.1 hx;have h:=jU h hi;simp only [gM,List.getElem?_eq_getElem hi,Bool.and_eq_true] at h;exact h.1
theorem key_ok' {l:List Bs} (h:gF (jI l) l.length=true) {x:Bs} (hx:x∈l):eF x=true:=by
 obtain ⟨i,hi,rfl⟩:=List.mem_iff_getElem.1 hx;have h:=jU h hi;simp only [jI,List.getElem?_eq_getElem hi,Bool.and_eq_true] at h;exact h.1
theorem kid_ok {l:List Nat} (h:gF (kG l) l.length=true) {x:Nat} (hx:x∈l):x<2147483648:=by
 obtain ⟨i,hi,rfl⟩:=List.mem_iff_getElem.1 hx;have h:=jU h hi;simp only [kG,List.getElem?_eq_getElem hi,Bool.and_eq_true,decide_eq_true_eq] at h;exact h.1
theorem eM {k:Bs} (h:eF k=true):1≤k.length∧k.length≤16:=by simpa [eF] using h
theorem iD {k:Bs} (h:fC k=true):k.length≤32:=by simpa [fC] using h
theorem cO {n:Nd} (h:wholeB n=true):n.items=[]∧2≤n.kids.length∧n.kids.length≤8∧n.keys.length+1=n.kids.length∧gF (kG n.kids) n.kids.length=true∧gF (jI n.keys) n.keys.length=true:=by
 simp only [wholeB,Bool.and_eq_true,decide_eq_true_eq,List.isEmpty_iff] at h;exact ⟨h.1.1.1.1.1,h.1.1.1.1.2,h.1.1.1.2,h.1.1.2,h.1.2,h.2⟩
theorem dG {n:Nd} (h:wholeL n=true):n.keys=[]∧n.items.length≤8∧gF (gM n.items) n.items.length=true:=by
 simp only [wholeL,Bool.and_eq_true,decide_eq_true_eq,List.isEmpty_iff] at h;exact ⟨h.1.1,h.1.2,h.2⟩
theorem bM {n:Nd}:bN n=true↔n.kids=[]:=List.isEmpty_iff
theorem all0 (n:Nat):(List.replicate n 0).all (λ x=>x==0)=true:=by
 rw [List.all_eq_true];intro x hx;have:=List.eq_of_mem_replicate hx;subst this;rfl
theorem readN_bytes {n:Nd} (h:bF n=true) (z:Nat):fZ (dC n++List.replicate z 0)=some n:=by
 have hk:=h;unfold bF at h;unfold dC;split at h
 ·rename_i hl;obtain ⟨h1,h2,h3⟩:=dG h;have h4:=bM.1 hl;rw [if_pos hl];simp only [List.cons_append,List.nil_append,fZ]
  rw [if_neg oM,if_pos trivial,rdItems_enc n.items _ (λ x hx=>by
   have:=mQ h3 hx;have:=eM this.1;have:=iD (mQ h3 hx).2
   omega)]
  simp only [finN];have e:(⟨n.items,[],[]⟩:Nd)=n:=by cases n;simp_all
  rw [e,all0,hk];rfl
 ·rename_i hl;obtain ⟨h1,h2,h3,h4,h5,h6⟩:=cO h;rw [if_neg hl];simp only [List.cons_append,List.nil_append,fZ];rw [if_neg oM,if_neg oM,if_pos ⟨trivial,h2⟩,List.append_assoc,rdKids_enc n.kids _ (λ x hx=>by have:=kid_ok h5 hx;omega)];simp only;rw [show n.kids.length-1=n.keys.length by omega,rdKeys_enc n.keys _ (λ x hx=>by have:=eM (key_ok' h6 hx);omega)];simp only [finN];have e:(⟨[],n.kids,n.keys⟩:Nd)=n:=by cases n;simp_all
  rw [e,all0,hk];rfl
def cB (s:Pg) (n:Nat):Option Nd:=if bL s n then fZ (s.body n) else none
def gV (s:Pg) (n:Nd):Option (Nat×Pg):=if bF n then newP s (dC n) else none
def hY {α : Type} (l:List α) (at':Nat) (x:List α):List α:=l.take at'++x++l.drop at'
def dT {α : Type} (l:List α) (a b:Nat):List α:=l.take a++l.drop b
def jP (s:Pg) (key:Bs):Nat→Nat→Option (List (Nd×Nat)×Bool)
 | 0,_=>none
 | f+1,n=>match cB s n with
  | none=>none
  | some nd =>
   if bN nd then some ([(nd,cN nd.items key)],eR nd.items key)
   else match nd.kids[fX nd.keys key]? with
    | none=>none
    | some k=>match jP s key f k with
     | none=>none
     | some (l,th)=>some ((nd,fX nd.keys key)::l,th)
def cP (n:Nd) (at':Nat) (up:Nd) (item:Bs×Bs) (there:Bool):Nd :=
 if bN n then (if there then { n with items:=hY (dT n.items at' (at'+1)) at' [item] } else { n with items:=hY n.items at' [item] })
 else { n with kids:=hY (dT n.kids at' (at'+1)) at' up.kids,keys:=hY n.keys at' up.keys }
def bV (n:Nd):Nd×Nd×Bs :=
 if bN n then (⟨dT n.items 4 n.items.length,[],[]⟩,⟨dT n.items 0 4,[],[]⟩,((dT n.items 0 4).getD 0 ([],[])).1)
 else (⟨[],dT n.kids 4 n.kids.length,dT n.keys 3 n.keys.length⟩,⟨[],dT n.kids 0 4,dT n.keys 0 4⟩,n.keys.getD 3 [])
def storeP (s:Pg) (n:Nd):Option (Nd×Pg) :=
 if 8<aR n then match gV s (bV n).1 with
  | none=>none
  | some (p,s1)=>match gV s1 (bV n).2.1 with
   | none=>none
   | some (q,s2)=>some (⟨[],[p,q],[(bV n).2.2]⟩,s2)
 else match gV s n with
  | none=>none
  | some (p,s1)=>some (⟨[],[p],[]⟩,s1)
def mL (item:Bs×Bs) (there:Bool):List (Nd×Nat)→Pg→Option (Nd×Pg)
 | [],s=>some (nd0,s)
 | f::r,s=>match mL item there r s with
  | none=>none
  | some (up,s1)=>storeP s1 (cP f.1 f.2 up item there)
def putP (s:Pg) (root:Option Nat) (key v:Bs):Option (Nat×Pg) :=
 match root with
 | none=>gV s ⟨[(key,v)],[],[]⟩
 | some n=>match jP s key 16 n with
  | none=>none
  | some (l,there)=>match mL (key,v) there l s with
   | none=>none
   | some (up,s1)=>match up.kids with
    | [k]=>some (k,s1)
    | _=>gV s1 up
def fE (s:Pg):List Nd→Option (List Nat×Pg)
 | []=>some ([],s)
 | x::r=>match gV s x with
  | none=>none
  | some (p,s1)=>match fE s1 r with
   | none=>none
   | some (l,s2)=>some (p::l,s2)
structure Part where
 node:Nd
 levels:Nat
 low:Bs
 high:Bs
abbrev fS:=List (Nat×Part)
def gO (m:fS) (n:Nat):Option Part:=(m.find? λ x=>x.1==n).map (·.2)
def fJ (nd:Nd):Part:=⟨nd,1,(nd.items.getD 0 ([],[])).1,(nd.items.getD (nd.items.length-1) ([],[])).1⟩
def mC (rec:Nat→fS→Option (Part×fS)) (nd:Nd):List Nat→Nat→Part→fS→Option (Part×fS)
 | [],_,t,m=>if 16<t.levels then none else some (t,m)
 | k::r,i,t,m=>match rec k m with
  | none=>none
  | some (p,m1) =>
   let t1:Part:=if i=0 then ⟨nd,p.levels+1,p.low,p.high⟩ else ⟨nd,t.levels,t.low,p.high⟩
   if aR p.node<4 || !(p.levels+1==t1.levels) || (decide (0<i)&&decide (bW p.low (nd.keys.getD (i-1) [])<0)) || (decide (i<nd.keys.length)&&decide (0≤bW p.high (nd.keys.getD i []))) then none
   else mC rec nd r (i+1) t1 m1
def lG (s:Pg):Nat→Nat→fS→Option (Part×fS)
 | f,n,m=>match gO m n with
  | some t=>some (t,m)
  | none=>match f with
   | 0=>none
   | f+1=>match cB s n with
    | none=>none
    | some nd =>
     if bN nd then some (fJ nd,(n,fJ nd)::m)
     else match mC (lG s f) nd nd.kids 0 ⟨nd,0,[],[]⟩ m with
      | none=>none
      | some (t,m1)=>some (t,(n,t)::m1)
def treeP (s:Pg) (root:Option Nat) (m:fS):Option (Nat×fS) :=
 match root with
 | none=>some (0,m)
 | some n=>match lG s 16 n m with
  | none=>none
  | some (t,m1)=>if aR t.node=0 then none else some (t.levels,m1)
def itemsP (m:fS):Nat→Nat→bT
 | 0,_=>[]
 | f+1,n=>match gO m n with
  | none=>[]
  | some t=>t.node.items++t.node.kids.flatMap (itemsP m f)
end Go.Proofs.YtfpadnmdafiddaaGreatDoor
namespace Go.Proofs.YtfpadnmdafiddaaGreatDoor
open Go Go.RowKit Go.V
theorem oread_c (F:Nat→Prop) (a:Option Addr) (n c:Nat) (l:List Nat) (w:World) (hs:Sl F w 1 a n c (bB l)) (hn:n≤1099511627776) :
  Calls Tryz.prog 220 #[.slice a n c] w (Ret λ v w'=>∃ b a' c',v=.pointer (some ⟨b,0,none⟩)∧w.heap.size≤b∧b<w'.heap.size∧Blk w' b 329 (rdr b a' n c' 0 0)∧Sl (λ k=>w.heap.size≤k∧k<b) w' 1 a' n c' (bB l)∧Grow w w'):=by
 refine V.calls (args:=[_]) Tryz.func220 rfl Tryz.ntmps220 rfl rfl ?_;repeat refine dF ?_
 refine aA rfl (grown_c F a n c 0 (bB l) _ hs (bO _) oM) rfl ?_;rintro v1 w1 ⟨hown,hg0⟩;obtain ⟨a1,c1,rfl,hsl⟩:=aM hown;have hsz0:=hg0.size;repeat (first|refine dF ?_|refine yI λ bk w' hg hbk hsz hsz'=>?_|refine yJ λ w' hu hbk hsz=>?_)
 have hb1:Blk w' bk 329 (rdr bk a1 n c1 0 0):=hbk;exact bA rfl ⟨_,rfl,bk,a1,c1,rfl,oM,oM,hb1,((hsl.tight.grow hg).upd hu (λ k hk=>by omega)).mono (λ k hk=>⟨hk.1.1,oM⟩),aI hu oM (hg0.trans hg)⟩
theorem own_c (F:Nat→Prop) (a:Option Addr) (n c:Nat) (l:List Nat) (w:World) (hs:Sl F w 1 a n c (bB l)) (hn:n≤1099511627776) :
  Calls Tryz.prog 20 #[.slice a n c] w (Ret λ v w'=>w'.ownsRow w.heap.size 5 1 v n (bB l)∧Grow w w'):=by
 refine V.calls (args:=[_]) Tryz.func20 rfl Tryz.ntmps20 rfl rfl ?_;repeat (first|refine dF ?_|refine yI λ bk w' hg hbk hsz hsz'=>?_)
 refine lC rfl rfl (eL hbk (Nat.le_of_eq hsz)) (hs.grow hg) (bO l) oM oM rfl ?_;intro v' w2 hown hg2;repeat refine dF ?_
 exact bA rfl ⟨_,rfl,hown,yG⟩
def Rd (B b:Nat) (r:List Nat) (e:Nat) (w:World):Prop :=
 ∃ a n c p L,Blk w b 329 (rdr b a n c p e)∧Sl (λ k=>B≤k∧k<b) w 1 a n c (bB L)∧p≤n∧n≤1099511627776∧(∀ x∈L,x<256)∧L.drop p=r
theorem Rd.grow {B b e:Nat} {r:List Nat} {w w':World} (h:Rd B b r e w) (g:Grow w w'):Rd B b r e w':=by
 obtain ⟨a,n,c,p,L,h1,h2,h3⟩:=h;exact ⟨a,n,c,p,L,h1.grow g,h2.grow g,h3⟩
theorem rderr_c {B b e:Nat} {r:List Nat} (w:World) (h:Rd B b r e w):Calls Tryz.prog 222 #[.pointer (some ⟨b,0,none⟩)] w (Ret λ v w'=>v=.int .i64 (e:Int)∧w=w'):=by
 obtain ⟨a,n,c,p,L,h1,h2,h3⟩:=h;exact err_c b a n c p e w h1
theorem numV_le (f:Nat) (t:List Nat):(fW (f::t)).2.1≤(f::t).length:=by
 have hc:=cnt_bd (f:=f);simp only [fW];split
 ·simp
 ·split
  ·simp only [List.length_cons];omega
  ·simp
end Go.Proofs.YtfpadnmdafiddaaGreatDoor
namespace Go.V
open Go Go.RowKit
structure Carry (F:Nat→Prop) (w:World) (F':Nat→Prop) (w':World):Prop where
 size:w.heap.size≤w'.heap.size
 blk:∀ k,F k→k<w.heap.size→F' k∧w'.heap[k]? = w.heap[k]?
theorem Sl.go {F F':Nat→Prop} {w w':World} {sz:Nat} {a:Option Addr} {n c:Nat} {cs:List Value} (h:Sl F w sz a n c cs) (g:Carry F w F' w'):Sl F' w' sz a n c cs :=
 ⟨h.len,h.cap,h.max,h.nil,by
  have hr:=h.row
  cases a with
  | none=>exact hr
  | some p=>exact λ hn=>(λ h=>⟨h.1,(g.blk _ h.2.1 h.2.2.1).1,Nat.lt_of_lt_of_le h.2.2.1 g.size,λ j v hj=>(World.cell?_of_block (w:=w) (a:=⟨p.block,p.off+j,none⟩) (g.blk p.block h.2.1 h.2.2.1).2).trans (h.2.2.2 j v hj)⟩) (hr hn)⟩
theorem Carry.grow {F:Nat→Prop} {w w':World} (g:Grow w w'):Carry F w F w':=⟨g.size,λ k hk h=>⟨hk,g.block k h⟩⟩
theorem Carry.upd {F:Nat→Prop} {w w':World} {b:Nat} (u:Upd b w w') (hb:∀ k,F k→k<w.heap.size→k≠b):Carry F w F w':=⟨Nat.le_of_eq u.size.symm,λ k hk h=>⟨hk,u.block k (hb k hk h)⟩⟩
theorem Carry.mono {F F':Nat→Prop} {w:World} (h:∀ k,F k→k<w.heap.size→F' k):Carry F w F' w:=⟨Nat.le_refl _,λ k hk hl=>⟨h k hk hl,rfl⟩⟩
theorem Carry.trans {F G H:Nat→Prop} {a b c:World} (g:Carry F a G b) (h:Carry G b H c):Carry F a H c :=
 ⟨Nat.le_trans g.size h.size,λ k hk hl=>by
  obtain ⟨h1,h2⟩:=g.blk k hk hl;obtain ⟨h3,h4⟩:=h.blk k h1 (Nat.lt_of_lt_of_le hl g.size)
  exact ⟨h3,h4.trans h2⟩⟩
def concB (P:Program) (t:TypeId):Bool:=match P.underlying t with|some (.interface _)=>false|some _=>true|none=>false
class ConcTy (P:Program) (t:TypeId):Prop where
 h:concB P t=true
def methB (P:Program) (t:TypeId) (s:String) (q:FuncId):Bool :=
 match P.info? t,P.underlying t with
 | some i,some u=>match i.methods.find? (·.name==s) with
  | some mm=>mm.path.isEmpty&&(match mm.func,u with
   | some (f,true),.pointer _=>Nat.beq f q
   | some (f,false),.pointer _=>false
   | some (f,false),_=>Nat.beq f q
   | _,_=>false)
  | none=>false
 | _,_=>false
class MethTy (P:Program) (t:TypeId) (s:String) (q:outParam FuncId):Prop where
 h:methB P t s q=true
theorem ConcTy.und {P:Program} {t:TypeId} (h:ConcTy P t):∃ u,P.underlying t=some u∧∀ ms,u≠.interface ms:=by
 have h:=h.h;unfold concB at h;split at h
 ·cases h
 ·rename_i u hn hu;exact ⟨u,hu,λ ms e=>hn ms e⟩
 ·cases h
section
variable [Rn]
variable {P:Program} {n:Nat} {e:dJ} {w:World} {Q:dI} {ops:Array Oper} {rest:List Oper} {d:Nat} {ty:TypeId} {pos:String} {aft:Array Edge}
theorem TL.makeIface {t:TypeId} {x:Operand} {v:Value} [ht:ConcTy P t] (hx:val e x=some v) (hd:Nat.blt d n=true) (k:TL P n ops rest ((d,.iface t v)::e) w Q) :
  TL P n ops (⟨some d,.makeInterface t x,ty,pos,aft,none⟩::rest) e w Q :=
 TL.run (λ a ha=>by
  obtain ⟨u,hu,hn⟩:=ht.und
  cases u<;>first|exact absurd rfl (hn _)|simp [execOp,ha.eval hx,Instr.makeInterface,underlying,hu]) hd k
theorem lQ {t s:TypeId} {x:Operand} {v:Value} [ht:ConcTy P t] (hx:val e x=some (.iface t v)) (hd:Nat.blt d n=true) (k:TL P n ops rest ((d,.tuple #[v,.bool true])::e) w Q) :
  TL P n ops (⟨some d,.typeAssert x s t true,ty,pos,aft,none⟩::rest) e w Q :=
 TL.run (λ a ha=>by
  obtain ⟨u,hu,hn⟩:=ht.und
  cases u<;>first|exact absurd rfl (hn _)|simp [execOp,ha.eval hx,Instr.typeAssert,underlying,hu]) hd k
theorem TL.assertNo {t s r:TypeId} {x:Operand} {v z:Value} [ht:ConcTy P t] [hz:Zero P t z] (hx:val e x=some (.iface r v)) (hr:Nat.beq r t=false) (hd:Nat.blt d n=true) (k:TL P n ops rest ((d,.tuple #[z,.bool false])::e) w Q) :
  TL P n ops (⟨some d,.typeAssert x s t true,ty,pos,aft,none⟩::rest) e w Q :=
 TL.run (λ a ha=>by
  obtain ⟨u,hu,hn⟩:=ht.und;have hne:=Nat.ne_of_beq_eq_false hr
  cases u<;>first|exact absurd rfl (hn _)|simp [execOp,ha.eval hx,Instr.typeAssert,underlying,hu,hne,hz.run]) hd k
theorem meth_run {t:TypeId} {s:String} {q:FuncId} (h:methB P t s q=true) (fuel:Nat) (v:Value) (w:World):(method (fuel+1) t v s).run P w=.ok (q,v) w:=by
 unfold methB at h;split at h;rotate_left
 ·cases h
 rename_i i u hi hu;split at h;rotate_left
 ·cases h
 rename_i mm hm;simp only [Bool.and_eq_true] at h;obtain ⟨hp,h⟩:=h;have hp':mm.path.toList=[]:=by simpa [Array.isEmpty_iff] using hp
 unfold method;have e1:(typeInfo t).run P w=.ok i w:=by simp [typeInfo,hi]
 simp only [Sem.run_bind,e1,Result.andThen_ok,hm,hp',follow,Sem.run_pure,hp];split at h
 ·rename_i f e hf;cases Nat.eq_of_beq_eq_true h;simp [hf,receiverAt,underlying,hu,Place.get]
 ·cases h
 ·rename_i u f hne hf _;cases Nat.eq_of_beq_eq_true h;cases u<;>simp [hf,receiverAt,underlying,hu,Place.get]
 ·cases h
theorem TL.invoke0 {t:TypeId} {s:String} {q:FuncId} {x:Operand} {tys:Array TypeId} {v:Value} {R:Value→World→Prop} [hm:MethTy P t s q] [hf:FnOk P q] (hx:val e x=some (.iface t v))
  (hc:Calls P q #[v] w (Ret R)) (hd:Nat.blt d n=true) (k:∀ u w',R u w'→TL P n ops rest ((d,u)::e) w' Q) :
  TL P n ops (⟨some d,.call ⟨.invoke x s,#[],tys⟩,ty,pos,aft,none⟩::rest) e w Q:=TL.mk λ a ha =>
 wpListIn_plain rfl λ K hK=>by
  have hr:(execOp a.eval ⟨some d,.call ⟨.invoke x s,#[],tys⟩,ty,pos,aft,none⟩).run P w=.ok (.enter q #[v]) w:=by
   have h2:=run_callFunc (P:=P) (f:=q) #[v] w;simp only [execOp,resolve,ha.eval hx,Sem.run_bind,Sem.run_pure,Result.andThen_ok,invoke,callMethod,run_program,show P.types.size+Made.depth=P.types.size+99+1 from rfl];simp [meth_run hm.h,callMethod,h2,Result.andThen,show P.types.size+Made.depth=P.types.size+99+1 from rfl]
  refine Oper.wpFR _ (.inr (.inr (.inl ⟨_,_,_,hr,Calls.mono hc ?_⟩)));rintro x w' ⟨v,rfl,hv⟩;exact ⟨v,rfl,hK _ _ ((k v w' hv).out (ha.put hd v))⟩
theorem TL.minV {x y:Operand} {kd:IntKind} {p q r:Int} {t1 t2:TypeId} (hx:val e x=some (.int kd p)) (hy:val e y=some (.int kd q)) (hr:(if q<p then q else p)=r) (hd:Nat.blt d n=true)
  (k:TL P n ops rest ((d,.int kd r)::e) w Q):TL P n ops (⟨some d,.call ⟨.builtin .min,#[x,y],#[t1,t2]⟩,ty,pos,aft,none⟩::rest) e w Q :=
 TL.run (λ a ha=>by simp [execOp,resolve,invoke,builtin,Builtin.min_,Builtin.min2,ha.eval hx,ha.eval hy,← hr]) hd k
theorem lP {x y:Operand} {kd:IntKind} {p q r:Int} {t1 t2:TypeId} (hx:val e x=some (.int kd p)) (hy:val e y=some (.int kd q)) (hr:(if q > p then q else p)=r) (hd:Nat.blt d n=true)
  (k:TL P n ops rest ((d,.int kd r)::e) w Q):TL P n ops (⟨some d,.call ⟨.builtin .max,#[x,y],#[t1,t2]⟩,ty,pos,aft,none⟩::rest) e w Q :=
 TL.run (λ a ha=>by simp [execOp,resolve,invoke,builtin,Builtin.max_,Builtin.max2,ha.eval hx,ha.eval hy,← hr]) hd k
theorem dR {t m o:Nat} {x:Operand} {a:Option Addr} {F:Nat→Prop} {sz l c:Nat} {cs vs:List Value} [ht:Agg P t m] (hx:val e x=some (.pointer (some (at' a o)))) (hs:Sl F w sz a l c cs) (hv:∀ j v,vs[j]? = some v→cs[o+j]? = some v) (hl:vs.length=m)
  (hd:Nat.blt d n=true) (k:TL P n ops rest ((d,.agg vs.toArray)::e) w Q):TL P n ops (⟨some d,.load t x,ty,pos,aft,none⟩::rest) e w Q:=by
 have hc:∀ j v,vs[j]? = some v→w.cell? ((at' a o).add j)=some v:=by
  intro j v hj;have h1:=hv j v hj;have h2:=hs.row.cell h1
  cases a with
  | none=>have h3:=hs.row;simp only [Row] at h3;subst h3;simp at h1
  | some p=>rw [show at' (some p) o=⟨p.block,p.off+o,none⟩ from rfl,Addr.add_lit,Nat.add_assoc];exact h2
 exact TL.run (λ a ha=>by simp [execOp,Instr.loadAt,ha.eval hx,Instr.sureAddr,iR ht hl hc]) hd k
theorem bJ {s:TypeId} {f off o:Nat} {x:Operand} {a:Option Addr} {F:Nat→Prop} {sz l c:Nat} {cs:List Value} {u:Value} [h:FieldAt P s f off] (hx:val e x=some (.pointer (some (at' a o)))) (hs:Sl F w sz a l c cs) (hu:cs[o]? = some u) (hd:Nat.blt d n=true)
  (k:TL P n ops rest ((d,.pointer (some (at' a (o+off))))::e) w Q):TL P n ops (⟨some d,.fieldAddr s x f,ty,pos,aft,none⟩::rest) e w Q:=by
 cases a with
 | none=>have h3:=hs.row;simp only [Row] at h3;subst h3;simp at hu
 | some p=>exact TL.fieldAddr (b:=p.block) (o:=p.off+o) hx hd (by rw [Nat.add_assoc];exact k)
theorem two_at {cs:List Value} {k v:Value} {o:Nat} (h0:cs[o]? = some k) (h1:cs[o+1]? = some v):∀ j u,[k,v][j]? = some u→cs[o+j]? = some u:=by
 intro j u hj
 match j,hj with
 | 0,hj=>cases hj;exact h0
 | 1,hj=>cases hj;exact h1
theorem Sl.le {F:Nat→Prop} {sz:Nat} {a:Option Addr} {n c:Nat} {cs:List Value} (h:Sl F w sz a n c cs):n≤9223372036854775807:=by
 have h1:=h.cap;have h2:=h.max;unfold maxLen at h2;omega
theorem TL.isMkIf {t1:TypeId} {x:Operand} {d:Option Nat} (h:TL P n ops (⟨d,.makeInterface t1 x,ty,pos,aft,none⟩::rest) e w Q):TL P n ops (⟨d,.makeInterface t1 x,ty,pos,aft,none⟩::rest) e w Q:=h
theorem mW {t1 t2:TypeId} {x:Operand} {b:Bool} {d:Option Nat} (h:TL P n ops (⟨d,.typeAssert x t1 t2 b,ty,pos,aft,none⟩::rest) e w Q):TL P n ops (⟨d,.typeAssert x t1 t2 b,ty,pos,aft,none⟩::rest) e w Q:=h
theorem mV {s:String} {x:Operand} {xs:Array Operand} {tys:Array TypeId} {d:Option Nat} (h:TL P n ops (⟨d,.call ⟨.invoke x s,xs,tys⟩,ty,pos,aft,none⟩::rest) e w Q):TL P n ops (⟨d,.call ⟨.invoke x s,xs,tys⟩,ty,pos,aft,none⟩::rest) e w Q:=h
end
end Go.V
namespace Go.Proofs.YtfpadnmdafiddaaGreatDoor
open Go Go.RowKit Go.V
def bC (l:List Nat):List Value:=l.map λ (k:Nat)=>.int .i64 (k:Int)
theorem length_ints' (l:List Nat):(bC l).length=l.length:=by simp [bC]
def BsAt (F:Nat→Prop) (w:World) (v:Value) (b:Bs):Prop:=∃ a n c,v=.slice a n c∧Sl F w 1 a n c (bB b)
def ItCells (F:Nat→Prop) (w:World):List Value→bT→Prop
 | [],[]=>True
 | k::v::cs,x::l=>BsAt F w k x.1∧BsAt F w v x.2∧ItCells F w cs l
 | _,_=>False
def KyCells (F:Nat→Prop) (w:World):List Value→List Bs→Prop
 | [],[]=>True
 | k::cs,x::l=>BsAt F w k x∧KyCells F w cs l
 | _,_=>False
theorem BsAt.go {F F':Nat→Prop} {w w':World} {v:Value} {b:Bs} (h:BsAt F w v b) (g:Carry F w F' w'):BsAt F' w' v b:=by
 obtain ⟨a,n,c,rfl,h⟩:=h;exact ⟨a,n,c,rfl,h.go g⟩
theorem ItCells.go {F F':Nat→Prop} {w w':World} (g:Carry F w F' w'):∀ {cs:List Value} {l:bT},ItCells F w cs l→ItCells F' w' cs l
 | [],[],_=>trivial
 | [],_::_,h=>h.elim
 | [_],[],h=>h.elim
 | [_],_::_,h=>h.elim
 | _::_::_,[],h=>h.elim
 | _::_::_,_::_,⟨h1,h2,h3⟩=>⟨h1.go g,h2.go g,ItCells.go g h3⟩
theorem KyCells.go {F F':Nat→Prop} {w w':World} (g:Carry F w F' w'):∀ {cs:List Value} {l:List Bs},KyCells F w cs l→KyCells F' w' cs l
 | [],[],_=>trivial
 | [],_::_,h=>h.elim
 | _::_,[],h=>h.elim
 | _::_,_::_,⟨h1,h3⟩=>⟨h1.go g,KyCells.go g h3⟩
theorem ItCells.len {F:Nat→Prop} {w:World}:∀ {cs:List Value} {l:bT},ItCells F w cs l→cs.length=2*l.length
 | [],[],_=>rfl
 | [],_::_,h=>h.elim
 | [_],[],h=>h.elim
 | [_],_::_,h=>h.elim
 | _::_::_,[],h=>h.elim
 | _::_::_,_::_,⟨_,_,h3⟩=>by have:=h3.len;simp only [List.length_cons];omega
theorem KyCells.len {F:Nat→Prop} {w:World}:∀ {cs:List Value} {l:List Bs},KyCells F w cs l→cs.length=l.length
 | [],[],_=>rfl
 | [],_::_,h=>h.elim
 | _::_,[],h=>h.elim
 | _::_,_::_,⟨_,h3⟩=>by have:=h3.len;simp only [List.length_cons];omega
theorem ItCells.at' {F:Nat→Prop} {w:World}:∀ {cs:List Value} {l:bT} {i:Nat} {x:Bs×Bs},ItCells F w cs l→l[i]? = some x→∃ k v,cs[2*i]? = some k∧cs[2*i+1]? = some v∧BsAt F w k x.1∧BsAt F w v x.2
 | [],[],i,x,_,hx=>by simp at hx
 | [],_::_,_,_,h,_=>h.elim
 | [_],[],_,_,h,_=>h.elim
 | [_],_::_,_,_,h,_=>h.elim
 | _::_::_,[],_,_,h,_=>h.elim
 | k::v::cs,y::l,0,x,⟨h1,h2,h3⟩,hx=>by
  simp only [List.getElem?_cons_zero,Option.some.injEq] at hx;subst hx;exact ⟨k,v,rfl,rfl,h1,h2⟩
 | k::v::cs,y::l,i+1,x,⟨h1,h2,h3⟩,hx=>by
  obtain ⟨k',v',q1,q2,q3⟩:=ItCells.at' h3 (by simpa using hx);exact ⟨k',v',by simpa [Nat.mul_add] using q1,by simpa [Nat.mul_add] using q2,q3⟩
theorem KyCells.at' {F:Nat→Prop} {w:World}:∀ {cs:List Value} {l:List Bs} {i:Nat} {x:Bs},KyCells F w cs l→l[i]? = some x→∃ k,cs[i]? = some k∧BsAt F w k x
 | [],[],i,x,_,hx=>by simp at hx
 | [],_::_,_,_,h,_=>h.elim
 | _::_,[],_,_,h,_=>h.elim
 | k::cs,y::l,0,x,⟨h1,h3⟩,hx=>by
  simp only [List.getElem?_cons_zero,Option.some.injEq] at hx;subst hx;exact ⟨k,rfl,h1⟩
 | k::cs,y::l,i+1,x,⟨h1,h3⟩,hx=>by
  obtain ⟨k',q1,q3⟩:=KyCells.at' h3 (by simpa using hx);exact ⟨k',by simpa using q1,q3⟩
theorem ItCells.append {F:Nat→Prop} {w:World}:∀ {cs ds:List Value} {l m:bT},ItCells F w cs l→ItCells F w ds m→ItCells F w (cs++ds) (l++m)
 | [],_,[],_,_,h=>h
 | [],_,_::_,_,h,_=>h.elim
 | [_],_,[],_,h,_=>h.elim
 | [_],_,_::_,_,h,_=>h.elim
 | _::_::_,_,[],_,h,_=>h.elim
 | _::_::_,_,_::_,_,⟨h1,h2,h3⟩,h=>⟨h1,h2,ItCells.append h3 h⟩
theorem KyCells.append {F:Nat→Prop} {w:World}:∀ {cs ds:List Value} {l m:List Bs},KyCells F w cs l→KyCells F w ds m→KyCells F w (cs++ds) (l++m)
 | [],_,[],_,_,h=>h
 | [],_,_::_,_,h,_=>h.elim
 | _::_,_,[],_,h,_=>h.elim
 | _::_,_,_::_,_,⟨h1,h3⟩,h=>⟨h1,KyCells.append h3 h⟩
theorem ItCells.take {F:Nat→Prop} {w:World}:∀ {cs:List Value} {l:bT} (i:Nat),ItCells F w cs l→ItCells F w (cs.take (2*i)) (l.take i)∧ItCells F w (cs.drop (2*i)) (l.drop i)
 | cs,l,0,h=>by simpa [ItCells] using h
 | [],[],i+1,_=>⟨by simp [ItCells],by simp [ItCells]⟩
 | [],_::_,_+1,h=>h.elim
 | [_],[],_+1,h=>h.elim
 | [_],_::_,_+1,h=>h.elim
 | _::_::_,[],_+1,h=>h.elim
 | k::v::cs,y::l,i+1,⟨h1,h2,h3⟩=>by
  obtain ⟨q1,q2⟩:=ItCells.take i h3;rw [show 2*(i+1)=2*i+1+1 by omega];exact ⟨⟨h1,h2,q1⟩,q2⟩
theorem KyCells.take {F:Nat→Prop} {w:World}:∀ {cs:List Value} {l:List Bs} (i:Nat),KyCells F w cs l→KyCells F w (cs.take i) (l.take i)∧KyCells F w (cs.drop i) (l.drop i)
 | cs,l,0,h=>by simpa [KyCells] using h
 | [],[],i+1,_=>⟨by simp [KyCells],by simp [KyCells]⟩
 | [],_::_,_+1,h=>h.elim
 | _::_,[],_+1,h=>h.elim
 | k::cs,y::l,i+1,⟨h1,h3⟩=>by
  obtain ⟨q1,q2⟩:=KyCells.take i h3;exact ⟨⟨h1,q1⟩,q2⟩
theorem BsAt.one {F:Nat→Prop} {w:World} {v:Value} {b:Bs} (h:BsAt F w v b):v.oneCell'=true:=by
 obtain ⟨a,n,c,rfl,_⟩:=h;rfl
theorem ItCells.one {F:Nat→Prop} {w:World}:∀ {cs:List Value} {l:bT},ItCells F w cs l→∀ u∈cs,u.oneCell'=true
 | [],[],_,u,hu=>by cases hu
 | [],_::_,h,_,_=>h.elim
 | [_],[],h,_,_=>h.elim
 | [_],_::_,h,_,_=>h.elim
 | _::_::_,[],h,_,_=>h.elim
 | k::v::cs,y::l,⟨h1,h2,h3⟩,u,hu=>by
  rcases List.mem_cons.1 hu with rfl|hu
  ·exact h1.one
  ·rcases List.mem_cons.1 hu with rfl|hu
   ·exact h2.one
   ·exact h3.one u hu
theorem KyCells.one {F:Nat→Prop} {w:World}:∀ {cs:List Value} {l:List Bs},KyCells F w cs l→∀ u∈cs,u.oneCell'=true
 | [],[],_,u,hu=>by cases hu
 | [],_::_,h,_,_=>h.elim
 | _::_,[],h,_,_=>h.elim
 | k::cs,y::l,⟨h1,h3⟩,u,hu=>by
  rcases List.mem_cons.1 hu with rfl|hu
  ·exact h1.one
  ·exact h3.one u hu
theorem gD (l:List Nat):∀ u∈bC l,u.oneCell'=true:=by
 intro u hu;simp [bC] at hu;obtain ⟨x,_,rfl⟩:=hu;rfl
theorem BsAt.sl {F:Nat→Prop} {w:World} {v:Value} {b:Bs} (h:BsAt F w v b):∃ a c,v=.slice a b.length c∧Sl F w 1 a b.length c (bB b):=by
 obtain ⟨a,n,c,rfl,h⟩:=h;have hl:=h.len;rw [bE,Nat.mul_one] at hl;subst hl;exact ⟨a,c,rfl,h⟩
structure NV where
 a1:Option Addr
 n1:Nat
 c1:Nat
 a2:Option Addr
 n2:Nat
 c2:Nat
 a3:Option Addr
 n3:Nat
 c3:Nat
abbrev NV.v1 (x:NV):Value:=.slice x.a1 x.n1 x.c1
abbrev NV.v2 (x:NV):Value:=.slice x.a2 x.n2 x.c2
abbrev NV.v3 (x:NV):Value:=.slice x.a3 x.n3 x.c3
abbrev NV.cs (x:NV):List Value:=[.slice x.a1 x.n1 x.c1,.slice x.a2 x.n2 x.c2,.slice x.a3 x.n3 x.c3]
abbrev NV.val (x:NV):Value:=.agg #[.slice x.a1 x.n1 x.c1,.slice x.a2 x.n2 x.c2,.slice x.a3 x.n3 x.c3]
structure ItsAt (F:Nat→Prop) (w:World) (a:Option Addr) (n c:Nat) (l:bT):Prop where
 ex:∃ cs,Sl F w 2 a n c cs∧ItCells F w cs l
structure KysAt (F:Nat→Prop) (w:World) (a:Option Addr) (n c:Nat) (l:List Bs):Prop where
 ex:∃ cs,Sl F w 1 a n c cs∧KyCells F w cs l
theorem ItsAt.len {F:Nat→Prop} {w:World} {a:Option Addr} {n c:Nat} {l:bT} (h:ItsAt F w a n c l):n=l.length:=by
 obtain ⟨cs,h1,h2⟩:=h.ex;have:=h1.len;have:=h2.len;omega
theorem KysAt.len {F:Nat→Prop} {w:World} {a:Option Addr} {n c:Nat} {l:List Bs} (h:KysAt F w a n c l):n=l.length:=by
 obtain ⟨cs,h1,h2⟩:=h.ex;have:=h1.len;have:=h2.len;omega
theorem bR {F:Nat→Prop} {w:World} {a:Option Addr} {n c:Nat} {l:List Nat} (h:Sl F w 1 a n c (bC l)):n=l.length:=by
 have:=h.len;rw [length_ints'] at this;omega
theorem gX {F:Nat→Prop} {w:World} {a:Option Addr} {n c:Nat} {l:Bs} (h:Sl F w 1 a n c (bB l)):n=l.length:=by
 have:=h.len;rw [bE] at this;omega
theorem ItsAt.go {F F':Nat→Prop} {w w':World} {a:Option Addr} {n c:Nat} {l:bT} (h:ItsAt F w a n c l) (g:Carry F w F' w'):ItsAt F' w' a n c l:=by
 obtain ⟨cs,h1,h2⟩:=h.ex;exact ⟨cs,h1.go g,h2.go g⟩
theorem KysAt.go {F F':Nat→Prop} {w w':World} {a:Option Addr} {n c:Nat} {l:List Bs} (h:KysAt F w a n c l) (g:Carry F w F' w'):KysAt F' w' a n c l:=by
 obtain ⟨cs,h1,h2⟩:=h.ex;exact ⟨cs,h1.go g,h2.go g⟩
structure NdAt (F:Nat→Prop) (w:World) (x:NV) (nd:Nd):Prop where
 its:ItsAt F w x.a1 x.n1 x.c1 nd.items
 kids:Sl F w 1 x.a2 x.n2 x.c2 (bC nd.kids)
 kys:KysAt F w x.a3 x.n3 x.c3 nd.keys
theorem NdAt.go {F F':Nat→Prop} {w w':World} {x:NV} {nd:Nd} (h:NdAt F w x nd) (g:Carry F w F' w'):NdAt F' w' x nd:=⟨h.its.go g,h.kids.go g,h.kys.go g⟩
instance:ConcTy Tryz.prog 269:=⟨kR⟩
instance:ConcTy Tryz.prog 271:=⟨kR⟩
instance:MethTy Tryz.prog 269 "headwater/leaf.whole" 291:=⟨kR⟩
instance:MethTy Tryz.prog 271 "headwater/leaf.whole" 292:=⟨kR⟩
theorem clamp_c (m:Nat) (h1:1≤m) (h8:m≤8) (w:World):Calls Tryz.prog 214 #[.int .i64 (m:Int)] w (Ret λ v w'=>v=.int .i64 (m:Int)∧w=w'):=by
 refine V.calls (args:=[_]) Tryz.func214 rfl Tryz.ntmps214 rfl rfl ?_;repeat refine dF ?_
 repeat (first|refine dF ?_|(refine eW ?_;refine lP (r:=(m:Int)) rfl rfl (by split<;>omega) rfl ?_))
 exact bA rfl ⟨_,rfl,rfl,rfl⟩
def byteAt (n i:Nat):Nat:=n / 2^(8*i)%256
theorem word4_eq (n:Nat):bP n=(List.range 4).map (byteAt n):=by
 simp [bP,byteAt,List.range_succ]
theorem word_c (n:Nat) (hn:n<18446744073709551616) (w:World) :
  Calls Tryz.prog 170 #[.slice none 0 0,.int .u64 (n:Int),.int .i64 4] w (Ret λ v w'=>w'.ownsRow w.heap.size 5 1 v 4 (bB (bP n))∧Grow w w'):=by
 refine V.calls (args:=[_,_,_]) Tryz.func170 rfl Tryz.ntmps170 rfl rfl ?_;repeat refine aF ?_
 refine aA rfl (clamp_c 4 oM oM _) rfl ?_;rintro _ _ ⟨rfl,rfl⟩;repeat refine aF ?_
 refine aA rfl (grown_c (λ _=>True) none 0 0 4 [] _ (Sl.nil_mk _ _ _) sM oM) rfl ?_;rintro u w1 ⟨hown,hg1⟩;repeat refine aF ?_
 refine aX (S:=Value×Nat) (λ s=>[(14,.int .i64 (s.2:Int)),(13,.int .i64 ((4:Nat):Int)),(1,.int .u64 (n:Int)),(0,s.1)]) (λ s w2=>s.2≤4∧w2.ownsRow w.heap.size 5 1 s.1 s.2 (bB ((List.range s.2).map (byteAt n)))∧Grow w w2) (λ s=>4-s.2) (u,0) ⟨rfl,rfl,rfl,rfl,trivial⟩ ⟨oM,hown,hg1⟩ ?_;rintro ⟨v,i⟩ w2 ⟨hi,hown2,hg2⟩;simp only at hi hown2;have hsz2:=hg2.size;by_cases hlt:i<4
 ·repeat (first|(refine eQ ?_;refine TL.mulN (a:=8) rfl rfl oM rfl ?_)|(refine eU ?_;refine TL.shrS rfl rfl (by show 8*i≤64;omega) rfl ?_)|(refine dL ?_;refine iC rfl (M:=256) rfl rfl ?_)|refine yC ?_)
  refine TL.buildSlice rfl rfl rfl rfl rfl ?_;intro b w3 hg3 hb3 hs3 hs4 hs5;have hsl:Sl (λ _=>True) w3 1 (some ⟨b,0,none⟩) 1 1 (bB [byteAt n i]):=(aV (sz:=1) (m:=1) hb3 hs5 dM).mono (λ _ _=>trivial);have h4:=hg3.size;refine TL.append rfl rfl (aS hown2 hg3) hsl (bO [byteAt n i]) (by unfold maxLen;omega) oM oM rfl ?_;intro v' w4 hown4 hgb _;repeat refine aF ?_
  refine aE (v',i+1) ⟨rfl,rfl,rfl,rfl,trivial⟩ ⟨hlt,?_,Grow.mk (aL hgb oM (λ k hk=>(aT (aS hown2 hg3) hk).1) (hg2.trans hg3).1)⟩ (by simp only;omega);rw [List.range_succ,List.map_append,dH];exact hown4
 ·obtain rfl:i=4:=by omega
  repeat refine aF ?_
  exact bA rfl ⟨_,rfl,by rw [word4_eq];exact hown2,hg2⟩
theorem block_c (F:Nat→Prop) (a:Option Addr) (n c:Nat) (p:Bs) (w:World) (hs:Sl F w 1 a n c (bB p)) (hn:n≤1000000) :
  Calls Tryz.prog 195 #[.slice none 0 0,.slice a n c] w (Ret λ v w'=>w'.ownsRow w.heap.size 5 1 v (bS p).length (bB (bS p))∧Grow w w'):=by
 have hl:=gX hs;have hz:=sz_le n;refine V.calls (args:=[_,_]) Tryz.func195 rfl Tryz.ntmps195 rfl rfl ?_;repeat (first|(refine aB 233 ?_;refine aA rfl (size_c n oM _) rfl ?_;rintro _ _ ⟨rfl,rfl⟩)|refine yC ?_)
 refine aA rfl (grown_c (λ _=>True) none 0 0 (sz n+n) [] _ (Sl.nil_mk _ _ _) sM oM) rfl ?_;rintro u w1 ⟨hown,hg1⟩;have h1:=hg1.size;repeat refine aF ?_
 refine aA rfl (number_c w.heap.size u 0 n [] _ hown h1 oM oM) rfl ?_;rintro u2 w2 ⟨hown2,hb2⟩;repeat refine aF ?_
 have hg2:Grow w w2:=Grow.mk (hg1.1.trans hb2);refine TL.append rfl rfl hown2 (hs.grow hg2) (bO _) (by unfold maxLen;omega) oM hg2.size rfl ?_;intro v' w4 hown4 hgb _;repeat refine aF ?_
 refine bA rfl ⟨_,rfl,?_,Grow.mk (aL hgb (hg2.size) (λ k hk=>(aT hown2 hk).1) hg2.1)⟩;have e:(bS p).length=0+sz n+n:=by unfold bS;rw [List.length_append,length_encL,hl];omega
 rw [e];unfold bS;rw [dH,← hl];exact hown4
theorem key_c (a:Option Addr) (n c:Nat) (w:World) :
  Calls Tryz.prog 94 #[.slice a n c] w (Ret λ v w'=>v=.bool (decide (1≤n)&&decide (n≤16))∧w=w'):=by
 refine V.calls (args:=[_]) Tryz.func94 rfl Tryz.ntmps94 rfl rfl ?_;by_cases h1:1≤n
 ·by_cases h2:n≤16
  ·repeat (first|(refine TL.pureT rfl (by simp only [decide_eq_true_eq];omega) rfl ?_)|refine yA ?_)
   exact bA rfl ⟨_,rfl,by simp [h1,h2],rfl⟩
  ·repeat (first|(refine TL.pureT rfl (by simp only [decide_eq_true_eq];omega) rfl ?_)|(refine TL.pureF rfl (by simp only [decide_eq_false_iff_not];omega) rfl ?_)|refine yA ?_)
   exact bA rfl ⟨_,rfl,by simp [h1,h2],rfl⟩
 ·repeat (first|(refine TL.pureF rfl (by simp only [decide_eq_false_iff_not];omega) rfl ?_)|refine yA ?_)
  exact bA rfl ⟨_,rfl,by simp [h1],rfl⟩
theorem value_c (a:Option Addr) (n c:Nat) (w:World) :
  Calls Tryz.prog 148 #[.slice a n c] w (Ret λ v w'=>v=.bool (decide (n≤32))∧w=w'):=by
 refine V.calls (args:=[_]) Tryz.func148 rfl Tryz.ntmps148 rfl rfl ?_;repeat refine dF ?_
 exact bA rfl ⟨_,rfl,congrArg Value.bool (by simp only [decide_eq_decide];omega),rfl⟩
theorem key_t {F:Nat→Prop} {a:Option Addr} {n c:Nat} {k:Bs} {w:World} {b:Bool} (h:Sl F w 1 a n c (bB k)) (hb:eF k=b) :
  Calls Tryz.prog 94 #[.slice a n c] w (Ret λ v w'=>v=.bool b∧w=w'):=by
 have:=key_c a n c w;rwa [show (decide (1≤n)&&decide (n≤16))=b by rw [← hb,gX h];rfl] at this
theorem value_t {F:Nat→Prop} {a:Option Addr} {n c:Nat} {k:Bs} {w:World} {b:Bool} (h:Sl F w 1 a n c (bB k)) (hb:fC k=b) :
  Calls Tryz.prog 148 #[.slice a n c] w (Ret λ v w'=>v=.bool b∧w=w'):=by
 have:=value_c a n c w;rwa [show decide (n≤32)=b by rw [← hb,gX h];rfl] at this
theorem leaf_c (x:NV) (w:World) :
  Calls Tryz.prog 80 #[x.val] w (Ret λ v w'=>v=.bool (decide (x.n2=0))∧Grow w w'):=by
 refine V.calls (args:=[_]) Tryz.func80 rfl Tryz.ntmps80 rfl rfl ?_;repeat (first|refine dF ?_|refine yI λ bk w' hg hbk hsz hsz'=>?_)
 exact bA rfl ⟨_,rfl,congrArg Value.bool (by rw [Bool.eq_iff_iff];simp),yG⟩
theorem nan8_c (a:Nat) (w:World):Calls Tryz.prog 228 #[.int .u8 (a:Int)] w (Ret λ v w'=>v=.bool false∧w=w'):=by
 refine V.calls (args:=[_]) Tryz.func228 rfl Tryz.ntmps228 rfl rfl ?_;repeat refine dF ?_
 exact bA rfl ⟨_,rfl,sM,rfl⟩
theorem nan64_c (a:Nat) (w:World):Calls Tryz.prog 229 #[.int .i64 (a:Int)] w (Ret λ v w'=>v=.bool false∧w=w'):=by
 refine V.calls (args:=[_]) Tryz.func229 rfl Tryz.ntmps229 rfl rfl ?_;repeat refine dF ?_
 exact bA rfl ⟨_,rfl,sM,rfl⟩
def cmpN (a b:Nat):Int:=if a<b then -1 else if b<a then 1 else 0
theorem cmp8_c (a b:Nat) (w:World):Calls Tryz.prog 182 #[.int .u8 (a:Int),.int .u8 (b:Int)] w (Ret λ v w'=>v=.int .i64 (cmpN a b)∧w=w'):=by
 refine V.calls (args:=[_,_]) Tryz.func182 rfl Tryz.ntmps182 rfl rfl ?_;unfold cmpN;by_cases h1:a<b
 ·repeat (first|(refine aB 228 ?_;refine aA rfl (nan8_c _ _) rfl ?_;rintro _ _ ⟨rfl,rfl⟩)|refine yA ?_)
  exact bA rfl ⟨_,rfl,by rw [if_pos h1],rfl⟩
 ·by_cases h2:b<a
  ·repeat (first|(refine aB 228 ?_;refine aA rfl (nan8_c _ _) rfl ?_;rintro _ _ ⟨rfl,rfl⟩)|refine yA ?_)
   exact bA rfl ⟨_,rfl,by rw [if_neg h1,if_pos h2],rfl⟩
  ·repeat (first|(refine aB 228 ?_;refine aA rfl (nan8_c _ _) rfl ?_;rintro _ _ ⟨rfl,rfl⟩)|refine yA ?_)
   exact bA rfl ⟨_,rfl,by rw [if_neg h1,if_neg h2],rfl⟩
theorem cmp64_c (a b:Nat) (w:World):Calls Tryz.prog 183 #[.int .i64 (a:Int),.int .i64 (b:Int)] w (Ret λ v w'=>v=.int .i64 (cmpN a b)∧w=w'):=by
 refine V.calls (args:=[_,_]) Tryz.func183 rfl Tryz.ntmps183 rfl rfl ?_;unfold cmpN;by_cases h1:a<b
 ·repeat (first|(refine aB 229 ?_;refine aA rfl (nan64_c _ _) rfl ?_;rintro _ _ ⟨rfl,rfl⟩)|refine yA ?_)
  exact bA rfl ⟨_,rfl,by rw [if_pos h1],rfl⟩
 ·by_cases h2:b<a
  ·repeat (first|(refine aB 229 ?_;refine aA rfl (nan64_c _ _) rfl ?_;rintro _ _ ⟨rfl,rfl⟩)|refine yA ?_)
   exact bA rfl ⟨_,rfl,by rw [if_neg h1,if_pos h2],rfl⟩
  ·repeat (first|(refine aB 229 ?_;refine aA rfl (nan64_c _ _) rfl ?_;rintro _ _ ⟨rfl,rfl⟩)|refine yA ?_)
   exact bA rfl ⟨_,rfl,by rw [if_neg h1,if_neg h2],rfl⟩
theorem bys_at {l:Bs} {i x:Nat} (h:l[i]? = some x):(bB l)[i]? = some (.int .u8 (x:Int)):=by simp [bB,h]
theorem cmpB_step {x y:Bs} {i a b:Nat} (hx:x[i]? = some a) (hy:y[i]? = some b):bW (x.drop i) (y.drop i)=if a<b then -1 else if b<a then 1 else bW (x.drop (i+1)) (y.drop (i+1)):=by
 obtain ⟨h1,rfl⟩:=List.getElem?_eq_some_iff.1 hx;obtain ⟨h2,rfl⟩:=List.getElem?_eq_some_iff.1 hy;rw [List.drop_eq_getElem_cons h1,List.drop_eq_getElem_cons h2,bW]
theorem cmpB_end {x y:Bs} {i:Nat} (h:i=min x.length y.length):bW (x.drop i) (y.drop i)=cmpN x.length y.length:=by
 subst h;unfold cmpN;by_cases h1:x.length<y.length
 ·rw [if_pos h1,Nat.min_eq_left oM,List.drop_length]
  cases hd:y.drop x.length with
  | nil=>rw [List.drop_eq_nil_iff] at hd;omega
  | cons _ _=>rfl
 ·rw [if_neg h1,Nat.min_eq_right oM,List.drop_length];by_cases h2:y.length<x.length
  ·rw [if_pos h2]
   cases hd:x.drop y.length with
   | nil=>rw [List.drop_eq_nil_iff] at hd;omega
   | cons _ _=>rfl
  ·rw [if_neg h2,List.drop_eq_nil_of_le oM];rfl
theorem dU (F G:Nat→Prop) (a:Option Addr) (n c:Nat) (b:Option Addr) (m d:Nat) (x y:Bs) (w:World) (hx:Sl F w 1 a n c (bB x)) (hy:Sl G w 1 b m d (bB y)) :
  Calls Tryz.prog 139 #[.slice a n c,.slice b m d] w (Ret λ v w'=>v=.int .i64 (bW x y)∧Grow w w'):=by
 refine V.calls (args:=[_,_]) Tryz.func139 rfl Tryz.ntmps139 rfl rfl ?_;have hn:=hx.le;have hm:=hy.le;have ln:=gX hx;have lm:=gX hy;repeat refine aF ?_
 rw [show (if (m:Int)<(n:Int) then (m:Int) else (n:Int))=((min n m:Nat):Int) by split<;>omega];refine aX (S:=Nat) (λ i=>[(12,.int .i64 (i:Int)),(11,.int .i64 ((min n m:Nat):Int)),(0,.slice a n c),(1,.slice b m d)]) (λ i w'=>Grow w w'∧i≤min n m∧bW x y=bW (x.drop i) (y.drop i)) (λ i=>min n m-i) 0 ⟨rfl,rfl,rfl,rfl,trivial⟩ ⟨Grow.refl w,oM,rfl⟩ ?_;rintro i w1 ⟨hg1,hi,hc⟩;by_cases hlt:i<min n m
 ·obtain ⟨p,hp⟩:∃ p,x[i]? = some p:=⟨_,List.getElem?_eq_getElem oM⟩
  obtain ⟨q,hq⟩:∃ q,y[i]? = some q:=⟨_,List.getElem?_eq_getElem oM⟩
  have hcx:w1.cell? (at' a i)=some (.int .u8 (p:Int)):=(hx.grow hg1).row.cell (bys_at hp);have hcy:w1.cell? (at' b i)=some (.int .u8 (q:Int)):=(hy.grow hg1).row.cell (bys_at hq);have hst:=cmpB_step hp hq;have hin:i<n:=by omega
  have him:i<m:=by omega
  repeat refine aF ?_
  apply T.any 10 [is _,is _,is _,is _,is _,is _,is _,is _,is _,is _];(· kernel_rfl);(· ((repeat' (first|exact aN|refine aK ?_ ?_));(iterate 10 (· (refine yQ λ wq _ _ hgq=>?_;(repeat (first|refine aF ?_|(refine aH ?_;first|refine aC rfl rfl rfl hin (Nat.mul_one _) ⟨F,_,hx.grow (hg1.trans (by assumption))⟩ rfl ?_|refine aC rfl rfl rfl him (Nat.mul_one _) ⟨G,_,hy.grow (hg1.trans (by assumption))⟩ rfl ?_)|(refine aB 182 ?_;refine aA rfl (cmp8_c _ _ _) rfl ?_;rintro _ _ ⟨rfl,rfl⟩)));exact aD rfl yG rfl)))));(rintro _ _ _ hgr _ _;(refine yT ?_))
  by_cases h1:p<q
  ·have hv:cmpN p q = -1:=if_pos h1;rw [if_pos h1] at hst;repeat refine aF ?_
   exact bA rfl ⟨_,rfl,congrArg (Value.int .i64) oM,yG⟩
  ·rw [if_neg h1] at hst;by_cases h2:q<p
   ·have hv:cmpN p q=1:=by unfold cmpN;rw [if_neg h1,if_pos h2]
    rw [if_pos h2] at hst;repeat refine aF ?_
    exact bA rfl ⟨_,rfl,congrArg (Value.int .i64) oM,yG⟩
   ·have hv:cmpN p q=0:=by unfold cmpN;rw [if_neg h1,if_neg h2]
    rw [if_neg h2] at hst;repeat refine aF ?_
    exact aE (i+1) ⟨rfl,rfl,rfl,rfl,trivial⟩ ⟨yG,oM,oM⟩ oM
 ·have he:=cmpB_end (x:=x) (y:=y) (i:=i) oM;repeat (first|(refine aB 183 ?_;refine aA rfl (cmp64_c _ _ _) rfl ?_;rintro _ _ ⟨rfl,rfl⟩)|refine yC ?_)
  exact bA rfl ⟨_,rfl,congrArg (Value.int .i64) (by rw [hc,he,ln,lm]),yG⟩
theorem shape_leaf (x:NV) (w:World) (h:x.n2=0) :
  Calls Tryz.prog 189 #[x.val] w (Ret λ v w'=>v=.iface 269 (.agg #[.slice x.a1 x.n1 x.c1,.slice x.a3 x.n3 x.c3])∧Grow w w'):=by
 refine V.calls (args:=[_]) Tryz.func189 rfl Tryz.ntmps189 rfl rfl ?_;repeat (first|(refine TL.isMkIf ?_;refine TL.makeIface rfl rfl ?_)|refine yA ?_|refine yI λ bk w' hg hbk hsz hsz'=>?_)
 exact bA rfl ⟨_,rfl,rfl,yG⟩
theorem lJ (x:NV) (w:World) (h:x.n2≠0) :
  Calls Tryz.prog 189 #[x.val] w (Ret λ v w'=>v=.iface 271 x.val∧Grow w w'):=by
 refine V.calls (args:=[_]) Tryz.func189 rfl Tryz.ntmps189 rfl rfl ?_;repeat (first|(refine TL.isMkIf ?_;refine TL.makeIface rfl rfl ?_)|refine yA ?_|refine yI λ bk w' hg hbk hsz hsz'=>?_)
 exact bA rfl ⟨_,rfl,rfl,yG⟩
theorem ItsAt.at' {F:Nat→Prop} {w:World} {a:Option Addr} {n c:Nat} {l:bT} (h:ItsAt F w a n c l):∃ cs,Sl F w 2 a n c cs∧∀ (i:Nat) (x:Bs×Bs),l[i]? = some x→∃ ka kc va vc,cs[i*2]? = some (.slice ka x.1.length kc)∧cs[i*2+1]? = some (.slice va x.2.length vc) ∧
  Sl F w 1 ka x.1.length kc (bB x.1)∧Sl F w 1 va x.2.length vc (bB x.2):=by
 obtain ⟨cs,h1,h2⟩:=h.ex;refine ⟨cs,h1,λ i x hx=>?_⟩;obtain ⟨k,v,g1,g2,g3,g4⟩:=h2.at' hx;obtain ⟨ka,kc,rfl,s1⟩:=g3.sl;obtain ⟨va,vc,rfl,s2⟩:=g4.sl;rw [Nat.mul_comm] at g1 g2;exact ⟨ka,kc,va,vc,g1,g2,s1,s2⟩
theorem wholeL_c (F:Nat→Prop) (a1:Option Addr) (n1 c1:Nat) (a3:Option Addr) (n3 c3:Nat) (l:bT) (w:World) (h:ItsAt F w a1 n1 c1 l) :
  Calls Tryz.prog 291 #[.agg #[.slice a1 n1 c1,.slice a3 n3 c3]] w (Ret λ v w'=>v=.bool (decide (n3=0)&&decide (n1≤8)&&gF (gM l) n1)∧Grow w w'):=by
 refine V.calls (args:=[_]) Tryz.func291 rfl Tryz.ntmps291 rfl rfl ?_;have hn:=h.len;by_cases h3:n3=0;rotate_left
 ·repeat (first|refine aF ?_|refine yI λ bk w' hg hbk hsz hsz'=>?_)
  exact bA rfl ⟨_,rfl,by simp [h3],yG⟩
 by_cases h8:n1≤8;rotate_left
 ·repeat (first|refine aF ?_|refine yI λ bk w' hg hbk hsz hsz'=>?_)
  exact bA rfl ⟨_,rfl,by simp [h8],yG⟩
 obtain ⟨cs,hs,hcell⟩:=h.at';repeat (first|refine aF ?_|refine yI λ bk w' hg hbk hsz hsz'=>?_)
 refine aX (S:=Nat) (λ i=>[(18,.int .i64 (i:Int)),(17,.int .i64 (n1:Int)),(16,.slice a1 n1 c1),(1,.pointer (some ⟨bk,0,none⟩))]) (λ i w1=>Blk w1 bk 269 [.slice a1 n1 c1,.slice a3 n3 c3]∧Grow w w1∧i≤n1∧∀ j,j<i→gM l j=true) (λ i=>n1-i) 0 ⟨rfl,rfl,rfl,rfl,trivial⟩ ⟨hbk,hg,oM,λ j hj=>by omega⟩ ?_;clear hbk hg;rintro i w1 ⟨hbk,hg1,hi,hall⟩;have hblt:=hbk.lt;by_cases hlt:i<n1;rotate_left
 ·repeat refine aF ?_
  exact bA rfl ⟨_,rfl,by rw [nV λ j hj=>hall j oM];simp [h3,h8],yG⟩
 obtain ⟨x,hx⟩:∃ x,l[i]? = some x:=⟨_,List.getElem?_eq_getElem oM⟩
 obtain ⟨ka,kc,va,vc,g1,g2,s1,s2⟩:=hcell i x hx;have hs1:=hs.grow hg1
 have hno:gM l i=false→gF (gM l) n1=false:=λ h0=>by
  cases hb:gF (gM l) n1 with
  | false=>rfl
  | true=>have:=jU hb hlt;rw [h0] at this;cases this
 cases hko:eF x.1 with
 | false =>
  repeat (first|refine aC rfl rfl rfl hlt rfl ⟨F,_,hs1⟩ rfl ?_|(refine aO ?_;refine dR rfl hs1 (two_at g1 g2) rfl rfl ?_)|(refine aB 94 ?_;refine aA rfl (key_t (s1.grow yG) hko) rfl ?_;rintro _ _ ⟨rfl,rfl⟩)|refine yC ?_|refine yI λ bk w' hg hbk hsz hsz'=>?_|refine yJ λ w' hu hbk hsz=>?_)
  exact bA rfl ⟨_,rfl,by rw [hno (by simp [gM,hx,hko])];simp,yG⟩
 | true =>
  cases hvo:fC x.2 with
  | false =>
   repeat (first|refine aC rfl rfl rfl hlt rfl ⟨F,_,hs1⟩ rfl ?_|(refine aO ?_;refine dR rfl hs1 (two_at g1 g2) rfl rfl ?_)|(refine aB 94 ?_;refine aA rfl (key_t (s1.grow yG) hko) rfl ?_;rintro _ _ ⟨rfl,rfl⟩)|(refine aB 148 ?_;refine aA rfl (value_t (s2.grow yG) hvo) rfl ?_;rintro _ _ ⟨rfl,rfl⟩)|refine yC ?_|refine yI λ bk w' hg hbk hsz hsz'=>?_|refine yJ λ w' hu hbk hsz=>?_)
   exact bA rfl ⟨_,rfl,by rw [hno (by simp [gM,hx,hvo])];simp,yG⟩
  | true =>
   repeat (first|refine aC rfl rfl rfl hlt rfl ⟨F,_,hs1⟩ rfl ?_|(refine aO ?_;refine dR rfl hs1 (two_at g1 g2) rfl rfl ?_)|(refine aB 94 ?_;refine aA rfl (key_t (s1.grow yG) hko) rfl ?_;rintro _ _ ⟨rfl,rfl⟩)|(refine aB 148 ?_;refine aA rfl (value_t (s2.grow yG) hvo) rfl ?_;rintro _ _ ⟨rfl,rfl⟩)|refine yC ?_|refine yI λ bk w' hg hbk hsz hsz'=>?_|refine yJ λ w' hu hbk hsz=>?_)
   cases i with
   | zero =>
    apply T.any 15 [is _,is _,is _,is _,is _,is _,is _,is _,is _,is _,is _,is _,is _,is _,is _];(· kernel_rfl);(· ((repeat' (first|exact aN|refine aK ?_ ?_));(iterate 15 (· (refine yQ λ wq _ _ hgq=>?_;(repeat refine aF ?_);exact aD rfl yG rfl)))));(rintro _ _ _ hgr _ _;(refine yT ?_))
    repeat refine aF ?_
    exact aE 1 ⟨rfl,rfl,rfl,rfl,trivial⟩ ⟨yB,yG,oM,λ j hj=>by
     obtain rfl:j=0:=by omega
     simp [gM,hx,hko,hvo]⟩ oM
   | succ j =>
    obtain ⟨y,hy⟩:∃ y,l[j]? = some y:=⟨_,List.getElem?_eq_getElem oM⟩
    obtain ⟨ka',kc',va',vc',q1,q2,r1,r2⟩:=hcell j y hy;by_cases hc:bW y.1 x.1<0
    ·apply T.any 15 [is _,is _,is _,is _,is _,is _,is _,is _,is _,is _,is _,is _,is _,is _,is _];(· kernel_rfl);(· ((repeat' (first|exact aN|refine aK ?_ ?_));(iterate 15 (· (refine yQ λ wq _ _ hgq=>?_;(repeat (first|refine aF ?_|(refine aH ?_;refine aC (j:=j) rfl rfl oM oM rfl ⟨F,_,hs.grow yG⟩ rfl ?_)|(refine bK ?_;refine bJ rfl (hs.grow yG) q1 rfl ?_)|(refine aO ?_;refine aQ rfl ((hs.grow yG).row.cell q1) rfl ?_)|(refine aB 139 ?_;refine aA rfl (dU _ _ _ _ _ _ _ _ _ _ _ (r1.grow yG) (s1.grow yG)) rfl ?_;rintro _ _ ⟨rfl,hgc⟩)));exact aD rfl yG rfl)))));(rintro _ _ _ hgr _ _;(refine yT ?_))
     repeat refine aF ?_
     exact aE (j+1+1) ⟨rfl,rfl,rfl,rfl,trivial⟩ ⟨yB,yG,oM,λ k hk=>by
      by_cases hk2:k=j+1
      ·subst hk2;simp [gM,hx,hy,hko,hvo,hc]
      ·exact hall k oM⟩ oM
    ·apply T.any 15 [is _,is _,is _,is _,is _,is _,is _,is _,is _,is _,is _,is _,is _,is _,is _];(· kernel_rfl);(· ((repeat' (first|exact aN|refine aK ?_ ?_));(iterate 15 (· (refine yQ λ wq _ _ hgq=>?_;(repeat (first|refine aF ?_|(refine aH ?_;refine aC (j:=j) rfl rfl oM oM rfl ⟨F,_,hs.grow yG⟩ rfl ?_)|(refine bK ?_;refine bJ rfl (hs.grow yG) q1 rfl ?_)|(refine aO ?_;refine aQ rfl ((hs.grow yG).row.cell q1) rfl ?_)|(refine aB 139 ?_;refine aA rfl (dU _ _ _ _ _ _ _ _ _ _ _ (r1.grow yG) (s1.grow yG)) rfl ?_;rintro _ _ ⟨rfl,hgc⟩)));exact aD rfl yG rfl)))));(rintro _ _ _ hgr _ _;(refine yT ?_))
     repeat refine aF ?_
     exact bA rfl ⟨_,rfl,by rw [hno (by simp [gM,hx,hy,hc])];simp,yG⟩
theorem jR {l:List Nat} {i x:Nat} (h:l[i]? = some x):(bC l)[i]? = some (.int .i64 (x:Int)):=by simp [bC,h]
theorem ints_take (l:List Nat) (i:Nat):(bC l).take i=bC (l.take i):=by simp [bC,List.map_take]
theorem index_c (F:Nat→Prop) (a:Option Addr) (n c:Nat) (l:List Nat) (k:Nat) (w:World) (hs:Sl F w 1 a n c (bC l)) :
  Calls Tryz.prog 294 #[.slice a n c,.int .i64 (k:Int)] w (Ret λ v w'=>(∃ z:Int,v=.int .i64 z∧(0≤z↔l.contains k=true))∧w=w'):=by
 refine V.calls (args:=[_,_]) Tryz.func294 rfl Tryz.ntmps294 rfl rfl ?_;have hn:=bR hs;have hle:=hs.le;repeat refine aF ?_
 refine aX (S:=Nat) (λ i=>[(8,.int .i64 (i:Int)),(7,.int .i64 (n:Int)),(0,.slice a n c),(1,.int .i64 (k:Int))]) (λ i w'=>w=w'∧i≤n∧∀ j,j<i→l[j]?≠some k) (λ i=>n-i) 0 ⟨rfl,rfl,rfl,rfl,trivial⟩ ⟨rfl,oM,λ j hj=>by omega⟩ ?_;rintro i _ ⟨rfl,hi,hall⟩;by_cases hlt:i<n
 ·obtain ⟨p,hp⟩:∃ p,l[i]? = some p:=⟨_,List.getElem?_eq_getElem oM⟩
  have hcx:w.cell? (at' a i)=some (.int .i64 (p:Int)):=hs.row.cell (jR hp);by_cases he:k=p
  ·repeat (first|(refine aH ?_;refine aC rfl rfl rfl hlt (Nat.mul_one _) ⟨F,_,hs⟩ rfl ?_)|refine yC ?_)
   exact bA rfl ⟨_,rfl,⟨_,rfl,⟨λ _=>List.contains_iff_mem.2 (List.mem_of_getElem? (he▸hp)),λ _=>by omega⟩⟩,rfl⟩
  ·repeat (first|(refine aH ?_;refine aC rfl rfl rfl hlt (Nat.mul_one _) ⟨F,_,hs⟩ rfl ?_)|refine yC ?_)
   exact aE (i+1) ⟨rfl,rfl,rfl,rfl,trivial⟩ ⟨rfl,oM,λ j hj=>by
    by_cases hj2:j=i
    ·subst hj2;rw [hp];simp;omega
    ·exact hall j oM⟩ oM
 ·repeat refine aF ?_
  refine bA rfl ⟨_,rfl,⟨_,rfl,⟨λ h=>by omega,λ h=>?_⟩⟩,rfl⟩;obtain ⟨j,hj,e⟩:=List.mem_iff_getElem.1 (List.contains_iff_mem.1 h);exact absurd (by rw [List.getElem?_eq_getElem hj,e]) (hall j oM)
theorem contains_t {F:Nat→Prop} {a:Option Addr} {n c:Nat} {l:List Nat} {k:Nat} {w:World} {b:Bool} (hs:Sl F w 1 a n c (bC l)) (hb:l.contains k=b) :
  Calls Tryz.prog 293 #[.slice a n c,.int .i64 (k:Int)] w (Ret λ v w'=>v=.bool b∧w=w'):=by
 refine V.calls (args:=[_,_]) Tryz.func293 rfl Tryz.ntmps293 rfl rfl ?_;repeat refine aF ?_
 refine aA rfl (index_c F a n c l k _ hs) rfl ?_;rintro _ _ ⟨⟨z,rfl,hz⟩,rfl⟩;repeat refine aF ?_
 exact bA rfl ⟨_,rfl,congrArg Value.bool (by rw [← hb,Bool.eq_iff_iff,← hz];simp),rfl⟩
theorem KysAt.at' {F:Nat→Prop} {w:World} {a:Option Addr} {n c:Nat} {l:List Bs} (h:KysAt F w a n c l):∃ cs,Sl F w 1 a n c cs∧∀ (i:Nat) (x:Bs),l[i]? = some x→∃ ka kc,cs[i]? = some (.slice ka x.length kc)∧Sl F w 1 ka x.length kc (bB x):=by
 obtain ⟨cs,h1,h2⟩:=h.ex;refine ⟨cs,h1,λ i x hx=>?_⟩;obtain ⟨k,g1,g3⟩:=h2.at' hx;obtain ⟨ka,kc,rfl,s1⟩:=g3.sl;exact ⟨ka,kc,g1,s1⟩
theorem wholeB_c (F:Nat→Prop) (a1:Option Addr) (n1 c1:Nat) (a2:Option Addr) (n2 c2:Nat) (a3:Option Addr) (n3 c3:Nat) (l:List Nat) (ks:List Bs) (w:World) (hk:Sl F w 1 a2 n2 c2 (bC l)) (hy:KysAt F w a3 n3 c3 ks) :
  Calls Tryz.prog 292 #[.agg #[.slice a1 n1 c1,.slice a2 n2 c2,.slice a3 n3 c3]] w (Ret λ v w'=>v=.bool (decide (n1=0)&&decide (2≤n2)&&decide (n2≤8)&&decide (n3+1=n2)&&gF (kG l) n2&&gF (jI ks) n3)∧Grow w w'):=by
 refine V.calls (args:=[_]) Tryz.func292 rfl Tryz.ntmps292 rfl rfl ?_;have hn2:=bR hk;have hn3:=hy.len;by_cases h1:n1=0;rotate_left
 ·repeat (first|refine aF ?_|refine yI λ bk w' hg hbk hsz hsz'=>?_)
  exact bA rfl ⟨_,rfl,by simp [h1],yG⟩
 by_cases h2:2≤n2;rotate_left
 ·repeat (first|refine aF ?_|refine yI λ bk w' hg hbk hsz hsz'=>?_)
  exact bA rfl ⟨_,rfl,by simp [h2],yG⟩
 by_cases h8:n2≤8;rotate_left
 ·repeat (first|refine aF ?_|refine yI λ bk w' hg hbk hsz hsz'=>?_)
  exact bA rfl ⟨_,rfl,by simp [h8],yG⟩
 by_cases h4:n3+1=n2;rotate_left
 ·repeat (first|refine aF ?_|refine yI λ bk w' hg hbk hsz hsz'=>?_)
  exact bA rfl ⟨_,rfl,by simp [h4],yG⟩
 repeat (first|refine aF ?_|refine yI λ bk w' hg hbk hsz hsz'=>?_)
 have hbox:=hbk;refine aX (S:=Nat) (λ i=>[(36,.int .i64 (i:Int)),(35,.int .i64 (n2:Int)),(34,.slice a2 n2 c2),(1,.pointer (some ⟨bk,0,none⟩))]) (λ i w1=>Blk w1 bk 271 [.slice a1 n1 c1,.slice a2 n2 c2,.slice a3 n3 c3]∧Grow w w1∧i≤n2∧∀ j,j<i→kG l j=true) (λ i=>n2-i) 0 ⟨rfl,rfl,rfl,rfl,trivial⟩ ⟨hbk,hg,oM,λ j hj=>by omega⟩ ?_;clear hbk hg hbox;rintro i w1 ⟨hbk,hg1,hi,hall⟩;have hblt:=hbk.lt;have hk1:=hk.grow hg1;by_cases hlt:i<n2
 ·obtain ⟨p,hp⟩:∃ p,l[i]? = some p:=⟨_,List.getElem?_eq_getElem oM⟩
  have hcx:w1.cell? (at' a2 i)=some (.int .i64 (p:Int)):=hk1.row.cell (jR hp)
  have hno:kG l i=false→gF (kG l) n2=false:=λ h0=>by
   cases hb:gF (kG l) n2 with
   | false=>rfl
   | true=>have:=jU hb hlt;rw [h0] at this;cases this
  by_cases hp2:p≤2147483647
  ·cases hct:(l.take i).contains p with
   | false =>
    repeat (first|(refine aH ?_;refine aC rfl rfl rfl hlt (Nat.mul_one _) ⟨F,_,hk1⟩ rfl ?_)|(refine cG ?_;refine TL.slice (l:=0) (h:=i) (mm:=c2) rfl hk1 (aP _) (bI rfl rfl) (aP _) (by intro h;cases h) oM oM (by have:=hk.cap;omega) (Nat.le_refl _) rfl ?_;intro a' hsl _)|(refine aB 293 ?_;refine aA rfl (contains_t (by simpa [ints_take] using hsl) hct) rfl ?_;rintro _ _ ⟨rfl,rfl⟩)|refine yC ?_)
    exact aE (i+1) ⟨rfl,rfl,rfl,rfl,trivial⟩ ⟨yB,yG,oM,λ j hj=>by
     by_cases hj2:j=i
     ·subst hj2;unfold kG;rw [hp];simp only [hct,Bool.not_false,Bool.and_true,decide_eq_true_eq];omega
     ·exact hall j oM⟩ oM
   | true =>
    repeat (first|(refine aH ?_;refine aC rfl rfl rfl hlt (Nat.mul_one _) ⟨F,_,hk1⟩ rfl ?_)|(refine cG ?_;refine TL.slice (l:=0) (h:=i) (mm:=c2) rfl hk1 (aP _) (bI rfl rfl) (aP _) (by intro h;cases h) oM oM (by have:=hk.cap;omega) (Nat.le_refl _) rfl ?_;intro a' hsl _)|(refine aB 293 ?_;refine aA rfl (contains_t (by simpa [ints_take] using hsl) hct) rfl ?_;rintro _ _ ⟨rfl,rfl⟩)|refine yC ?_)
    exact bA rfl ⟨_,rfl,by rw [hno (by unfold kG;rw [hp];simp only [hct,Bool.not_true,Bool.and_false])];simp,yG⟩
  ·repeat (first|(refine aH ?_;refine aC rfl rfl rfl hlt (Nat.mul_one _) ⟨F,_,hk1⟩ rfl ?_)|refine yC ?_)
   exact bA rfl ⟨_,rfl,by rw [hno (by simp [kG,hp];omega)];simp,yG⟩
 have hkids:gF (kG l) n2=true:=nV λ j hj=>hall j oM;clear hall;obtain ⟨cs,hs,hcell⟩:=hy.at';repeat refine aF ?_
 refine aX (S:=Nat) (λ i=>[(59,.int .i64 (i:Int)),(58,.int .i64 (n3:Int)),(57,.slice a3 n3 c3),(1,.pointer (some ⟨bk,0,none⟩))]) (λ i w1=>Blk w1 bk 271 [.slice a1 n1 c1,.slice a2 n2 c2,.slice a3 n3 c3]∧Grow w w1∧i≤n3∧∀ j,j<i→jI ks j=true) (λ i=>n3-i) 0 ⟨rfl,rfl,rfl,rfl,trivial⟩ ⟨hbk,hg1,oM,λ j hj=>by omega⟩ ?_;clear hbk hk1 hblt hg1;rintro i w1 ⟨hbk,hg1,hi,hall⟩;have hblt:=hbk.lt;have hs1:=hs.grow hg1;by_cases hlt:i<n3;rotate_left
 ·have hkeys:gF (jI ks) n3=true:=nV λ j hj=>hall j oM;repeat refine aF ?_
  exact bA rfl ⟨_,rfl,by rw [hkids,hkeys];simp [h1,h2,h8,h4],yG⟩
 obtain ⟨p,hp⟩:∃ p,ks[i]? = some p:=⟨_,List.getElem?_eq_getElem oM⟩
 obtain ⟨ka,kc,g1,s1⟩:=hcell i p hp;have hcx:w1.cell? (at' a3 i)=some (.slice ka p.length kc):=hs1.row.cell g1;have s1':=s1.grow hg1
 have hno:jI ks i=false→gF (jI ks) n3=false:=λ h0=>by
  cases hb:gF (jI ks) n3 with
  | false=>rfl
  | true=>have:=jU hb hlt;rw [h0] at this;cases this
 cases hko:eF p with
 | false =>
  repeat (first|refine nB rfl rfl rfl ?_|(refine aH ?_;refine aC rfl rfl rfl hlt (Nat.mul_one _) ⟨F,_,hs1⟩ rfl ?_)|(refine aB 94 ?_;refine aA rfl (key_t s1' hko) rfl ?_;rintro _ _ ⟨rfl,rfl⟩)|refine yC ?_)
  exact bA rfl ⟨_,rfl,by rw [hno (by simp [jI,hp,hko])];simp,yG⟩
 | true =>
  cases i with
  | zero =>
   repeat (first|(refine aH ?_;refine aC rfl rfl rfl hlt (Nat.mul_one _) ⟨F,_,hs1⟩ rfl ?_)|(refine aB 94 ?_;refine aA rfl (key_t s1' hko) rfl ?_;rintro _ _ ⟨rfl,rfl⟩)|refine yC ?_)
   exact aE 1 ⟨rfl,rfl,rfl,rfl,trivial⟩ ⟨yB,yG,oM,λ j hj=>by
     obtain rfl:j=0:=by omega
     simp [jI,hp,hko]⟩ oM
  | succ j =>
   obtain ⟨q,hq⟩:∃ q,ks[j]? = some q:=⟨_,List.getElem?_eq_getElem oM⟩
   obtain ⟨ka',kc',q1,r1⟩:=hcell j q hq;have hcy:w1.cell? (at' a3 j)=some (.slice ka' q.length kc'):=hs1.row.cell q1;have r1':=r1.grow hg1;by_cases hc:bW q p<0
   ·repeat (first|(refine aH ?_;first|refine aC rfl rfl rfl hlt (Nat.mul_one _) ⟨F,_,hs1⟩ rfl ?_|refine aC (j:=j) rfl rfl oM oM (Nat.mul_one _) ⟨F,_,hs1⟩ rfl ?_)|(refine aB 94 ?_;refine aA rfl (key_t s1' hko) rfl ?_;rintro _ _ ⟨rfl,rfl⟩)|(refine aB 139 ?_;refine aA rfl (dU _ _ _ _ _ _ _ _ _ _ _ r1' s1') rfl ?_;rintro _ _ ⟨rfl,hgc⟩)|refine yC ?_)
    exact aE (j+1+1) ⟨rfl,rfl,rfl,rfl,trivial⟩ ⟨yB,yG,oM,λ k hk=>by
      by_cases hk2:k=j+1
      ·subst hk2;simp [jI,hp,hq,hko,hc]
      ·exact hall k oM⟩ oM
   ·repeat (first|(refine aH ?_;first|refine aC rfl rfl rfl hlt (Nat.mul_one _) ⟨F,_,hs1⟩ rfl ?_|refine aC (j:=j) rfl rfl oM oM (Nat.mul_one _) ⟨F,_,hs1⟩ rfl ?_)|(refine aB 94 ?_;refine aA rfl (key_t s1' hko) rfl ?_;rintro _ _ ⟨rfl,rfl⟩)|(refine aB 139 ?_;refine aA rfl (dU _ _ _ _ _ _ _ _ _ _ _ r1' s1') rfl ?_;rintro _ _ ⟨rfl,hgc⟩)|refine yC ?_)
    exact bA rfl ⟨_,rfl,by rw [hno (by simp [jI,hp,hq,hc])];simp,yG⟩
theorem check_c (F:Nat→Prop) (x:NV) (nd:Nd) (w:World) (h:NdAt F w x nd) :
  Calls Tryz.prog 188 #[x.val] w (Ret λ v w'=>v=.int .i64 (if bF nd then 0 else 2)∧Grow w w'):=by
 have hn1:=h.its.len;have hn2:=bR h.kids;have hn3:=h.kys.len;refine V.calls (args:=[_]) Tryz.func188 rfl Tryz.ntmps188 rfl rfl ?_;by_cases h2:x.n2=0
 ·have hlf:bN nd=true:=by rw [bM];exact List.eq_nil_of_length_eq_zero oM
  have hb:bF nd=(decide (x.n3=0)&&decide (x.n1≤8)&&gF (gM nd.items) x.n1):=by
   unfold bF wholeL;have e:nd.keys.isEmpty=decide (nd.keys.length=0):=by cases nd.keys<;>simp
   rw [if_pos hlf,hn1,hn3,e]
  cases hok:bF nd with
  | true =>
   repeat (first|(refine aB 189 ?_;refine aA rfl (shape_leaf x _ h2) rfl ?_;rintro _ _ ⟨rfl,hgc⟩)|(refine mV ?_;refine TL.invoke0 rfl (wholeL_c F _ _ _ _ _ _ _ _ (h.its.go (Carry.grow yG))) rfl ?_;rintro _ _ ⟨rfl,hgc⟩;rw [← hb,hok])|refine yC ?_|refine yI λ bk w' hg hbk hsz hsz'=>?_)
   exact bA rfl ⟨_,rfl,rfl,yG⟩
  | false =>
   repeat (first|(refine aB 189 ?_;refine aA rfl (shape_leaf x _ h2) rfl ?_;rintro _ _ ⟨rfl,hgc⟩)|(refine mV ?_;refine TL.invoke0 rfl (wholeL_c F _ _ _ _ _ _ _ _ (h.its.go (Carry.grow yG))) rfl ?_;rintro _ _ ⟨rfl,hgc⟩;rw [← hb,hok])|refine yC ?_|refine yI λ bk w' hg hbk hsz hsz'=>?_)
   exact bA rfl ⟨_,rfl,rfl,yG⟩
 ·have hlf:¬ bN nd=true:=by rw [bM];intro e;rw [e] at hn2;exact h2 hn2
  have hb:bF nd=(decide (x.n1=0)&&decide (2≤x.n2)&&decide (x.n2≤8)&&decide (x.n3+1=x.n2)&&gF (kG nd.kids) x.n2&&gF (jI nd.keys) x.n3):=by
   unfold bF wholeB;have e:nd.items.isEmpty=decide (nd.items.length=0):=by cases nd.items<;>simp
   rw [if_neg hlf,hn1,hn2,hn3,e]
  cases hok:bF nd with
  | true =>
   repeat (first|(refine aB 189 ?_;refine aA rfl (lJ x _ h2) rfl ?_;rintro _ _ ⟨rfl,hgc⟩)|(refine mV ?_;refine TL.invoke0 rfl (wholeB_c F _ _ _ _ _ _ _ _ _ _ _ _ (h.kids.go (Carry.grow yG)) (h.kys.go (Carry.grow yG))) rfl ?_;rintro _ _ ⟨rfl,hgc⟩;rw [← hb,hok])|refine yC ?_|refine yI λ bk w' hg hbk hsz hsz'=>?_)
   exact bA rfl ⟨_,rfl,rfl,yG⟩
  | false =>
   repeat (first|(refine aB 189 ?_;refine aA rfl (lJ x _ h2) rfl ?_;rintro _ _ ⟨rfl,hgc⟩)|(refine mV ?_;refine TL.invoke0 rfl (wholeB_c F _ _ _ _ _ _ _ _ _ _ _ _ (h.kids.go (Carry.grow yG)) (h.kys.go (Carry.grow yG))) rfl ?_;rintro _ _ ⟨rfl,hgc⟩;rw [← hb,hok])|refine yC ?_|refine yI λ bk w' hg hbk hsz hsz'=>?_)
   exact bA rfl ⟨_,rfl,rfl,yG⟩
theorem check_ok {F:Nat→Prop} {x:NV} {nd:Nd} {w:World} (h:NdAt F w x nd) (hok:bF nd=true):Calls Tryz.prog 188 #[x.val] w (Ret λ v w'=>v=.int .i64 0∧Grow w w'):=by
 have:=check_c F x nd w h;rwa [if_pos hok] at this
theorem check_bad {F:Nat→Prop} {x:NV} {nd:Nd} {w:World} (h:NdAt F w x nd) (hok:bF nd=false):Calls Tryz.prog 188 #[x.val] w (Ret λ v w'=>v=.int .i64 2∧Grow w w'):=by
 have:=check_c F x nd w h;rwa [if_neg (by rw [hok];simp)] at this
end Go.Proofs.YtfpadnmdafiddaaGreatDoor
namespace Go.V
open Go Go.RowKit
section
variable [Rn]
variable {P:Program} {n:Nat} {e:dJ} {w:World} {Q:dI} {ops:Array Oper} {rest:List Oper} {d:Nat} {ty:TypeId} {pos:String} {aft:Array Edge}
end
structure But (b:Nat) (w w':World):Prop where
 os:w'.os=w.os
 tape:w'.tape=w.tape
 output:w'.output=w.output
 size:w.heap.size≤w'.heap.size
 block:∀ k,k<w.heap.size→k≠b→w'.heap[k]? = w.heap[k]?
theorem But.refl (b:Nat) (w:World):But b w w:=⟨rfl,rfl,rfl,Nat.le_refl _,λ _ _ _=>rfl⟩
theorem gE {b:Nat} {w0 w w':World} (g:Grow w w') (h:But b w0 w):But b w0 w' :=
 ⟨g.1.os.trans h.os,g.1.tape.trans h.tape,g.1.output.trans h.output,Nat.le_trans h.size g.2,λ k hk hb=>(g.block k (Nat.lt_of_lt_of_le hk h.size)).trans (h.block k hk hb)⟩
theorem but_upd {b:Nat} {w0 w w':World} (u:Upd b w w') (h:But b w0 w):But b w0 w' :=
 ⟨u.os.trans h.os,u.tape.trans h.tape,u.output.trans h.output,Nat.le_trans h.size (Nat.le_of_eq u.size.symm),λ k hk hb=>(u.block k hb).trans (h.block k hk hb)⟩
theorem but_but {b:Nat} {w0 w w':World} (u:But b w w') (h:But b w0 w):But b w0 w' :=
 ⟨u.os.trans h.os,u.tape.trans h.tape,u.output.trans h.output,Nat.le_trans h.size u.size,λ k hk hb=>(u.block k (Nat.lt_of_lt_of_le hk h.size) hb).trans (h.block k hk hb)⟩
theorem cD {b k:Nat} {w w':World} {t:TypeId} {cs:List Value} (u:But b w w') (h:Blk w k t cs) (hk:k≠b):Blk w' k t cs:=by
 have hl:=h.lt;unfold Blk at *;rw [u.block k hl hk];exact h
theorem gR {b:Nat} {w0 w w':World} (u:But b w w') (hb:w0.heap.size≤b) (g:Grow w0 w):Grow w0 w':=Grow.mk
 ⟨u.os.trans g.1.os,u.tape.trans g.1.tape,u.output.trans g.1.output,Nat.le_trans g.2 u.size,λ k hk=>(u.block k (Nat.lt_of_lt_of_le hk g.2) oM).trans (g.1.block k hk)⟩
section
variable [Rn]
variable {P:Program} {n:Nat} {e:dJ} {w:World} {Q:dI} {ops:Array Oper} {rest:List Oper} {d:Nat} {ty:TypeId} {pos:String} {aft:Array Edge}
theorem append_where {t ty e:TypeId} {i:TypeInfo} {z:Value} {base size bytes:Nat} (ht:P.underlying t=some (.slice e)) (hi:P.info? e=some i) (hz:i.zero=some z) (hsize:i.size=size) (hby:i.bytes=bytes)
  {v:Value} {k:Nat} {xs:List Value} (hown:w.ownsRow base e size v k xs) {a:Addr} {m c:Nat} {news:List Value} (hl:news.length=m*size) (hnews:∀ j u,news[j]? = some u→w.cell? (a.add j)=some u) (h1:∀ u∈news,u.oneCell'=true)
  (h63:k+m≤maxLen) (hbytes:(k+m)*bytes≤140737488355328) {v':Value} {w':World} (hrun:(Builtin.append_ #[t,t] ty #[v,.slice (some a) m c]).run P w=.ok v' w') :
  v'.ownBlock=v.ownBlock∨∀ j,v'.ownBlock=some j→w.heap.size≤j:=by
 subst hsize;subst hby;have hs63:k+m≤9223372036854775807:=by simp only [maxLen] at h63;omega
 rcases hown.2 with ⟨rfl,rfl⟩|⟨g,cap,cur,rfl,hbg,hg,hnc,hcm,hcs,htake⟩
 ·by_cases hm:m=0
  ·subst hm;have hn:news=[]:=List.eq_nil_of_length_eq_zero (by simpa using hl);subst hn;left;simp [Builtin.append_,run_underlying ht,sizeOf,typeInfo,hi,Builtin.lenOf,Builtin.firstCells,loadCells,loadCellsFrom] at hrun;rw [← hrun.1]
  ·rw [run_append_nil (P:=P) w t ty e i z ht hi hz a m c news hl hnews oM oM (by simp only [Nat.zero_add] at hbytes;omega)] at hrun;cases hrun;right;intro j hj;cases hj;exact Nat.le_refl _
 ·by_cases hroom:k+m≤cap
  ·rw [run_append_room (P:=P) w t ty e i ht hi g k cap cur hg a m c news hl hnews h1 hroom (by rw [hl,hcs,← Nat.add_mul];exact Nat.mul_le_mul_right _ hroom)] at hrun;cases hrun;exact .inl rfl
  ·rw [run_append_grow (P:=P) w t ty e i z ht hi hz ⟨g,0,none⟩ k cap xs hown.1 (hown.cells (g:=g) rfl) a m c news hl hnews oM oM (growslice_fits oM hbytes)] at hrun;cases hrun;right;intro j hj;cases hj;exact Nat.le_refl _
theorem eG {t elem size bytes:Nat} {x y:Operand} {base m k0 c:Nat} {v:Value} {xs news:List Value} {F:Nat→Prop} {a:Option Addr} [ht:SliceTy P t elem size bytes]
  (hx:val e x=some v) (hy:val e y=some (.slice a m c)) (hown:w.ownsRow base elem size v k0 xs) (hs:Sl F w size a m c news) (h1:∀ u∈news,u.oneCell'=true)
  (h63:k0+m≤maxLen) (hbytes:(k0+m)*bytes≤140737488355328) (hbase:base≤w.heap.size) (hd:Nat.blt d n=true)
  (k:∀ v' w',w'.ownsRow base elem size v' (k0+m) (xs++news)→w.grownBy w' v.ownBlock→(∀ G:Nat→Prop,Carry (λ j=>G j∧v.ownBlock≠some j) w (λ j=>G j∧v'.ownBlock≠some j) w')→TL P n ops rest ((d,v')::e) w' Q) :
  TL P n ops (⟨some d,.call ⟨.builtin .append,#[x,y],#[t,t]⟩,ty,pos,aft,none⟩::rest) e w Q:=by
 obtain ⟨i,z,hi,hsz,hby,hz,hzs,hne⟩:=ht.info
 have car:∀ {v':Value} {w':World},w.grownBy w' v.ownBlock→(v'.ownBlock=v.ownBlock∨∀ j,v'.ownBlock=some j→w.heap.size≤j)→∀ G:Nat→Prop,Carry (λ j=>G j∧v.ownBlock≠some j) w (λ j=>G j∧v'.ownBlock≠some j) w':=by
  intro v' w' g hnew G;refine ⟨g.size,λ j ⟨h1,h2⟩ hl=>⟨⟨h1,λ he=>?_⟩,g.block j hl (λ e=>h2 e.symm)⟩⟩;rcases hnew with h|h
  ·exact h2 (h▸he)
  ·have:=h j he;omega
 cases a with
 | none =>
  have hm:=hs.cap;have hc:=hs.nil rfl;have hn:m=0:=by omega
  subst hn;subst hc;have hnews:news=[]:=List.eq_nil_of_length_eq_zero (by simpa using hs.len);subst hnews;have hrun:=run_append_owned_none (P:=P) (w:=w) base t ty elem i size ht.und hi v k0 xs hown;refine TL.run (v:=v) (w':=w) (λ r hr=>?_) hd (k v w (by simpa using hown) (World.grownBy.refl _ _) (car (World.grownBy.refl _ _) (.inl rfl)));simp [execOp,resolve,invoke,builtin,hr.eval hx,hr.eval hy,hrun]
 | some ad =>
  obtain ⟨v',w',hrun,h2,h3,h4⟩:=run_append_own (P:=P) w base t ty elem i z size bytes ht.und hi hz hsz hby hzs (Nat.pos_of_ne_zero hne) v k0 xs hown ad m c news hs.len (hs.row.cell_add rfl) h1 h63 hbytes hbase;have hw:=append_where ht.und hi hz hsz hby hown hs.len (hs.row.cell_add rfl) h1 h63 hbytes hrun;refine TL.run (v:=v') (w':=w') (λ r hr=>?_) hd (k v' w' h2 h3 (car h3 hw));simp [execOp,resolve,invoke,builtin,hr.eval hx,hr.eval hy,hrun]
end
end Go.V
namespace Go.V
open Go Go.RowKit Go.ChangeShapes Go.WideShapes Go.MapKept Go.ChangeMaps
structure Ordd (l:List MapEntry) (c:Nat):Prop where
 keys:l.Pairwise λ x y=>x.key≠y.key
 lt:∀ x∈l,x.born<c
 born:l.Pairwise λ x y=>x.born<y.born
def MapF (w:World) (m:Nat) (f:Nat→Option Value):Prop:=∃ es clock,w.heap[m]? = some (.map es clock)∧(∀ x∈es.toList,∃ n:Nat,n<9223372036854775808∧x.key=.int .i64 (n:Int)∧f n=some x.val) ∧
 (∀ n v,f n=some v→∃ x∈es.toList,x.key=.int .i64 (n:Int))∧Ordd es.toList clock
def mapB (P:Program) (t kt el:TypeId):Bool:=match P.underlying t with|some (.map k e)=>Nat.beq k kt&&Nat.beq e el|_=>false
class MapTy (P:Program) (t:TypeId) (kt el:outParam TypeId):Prop where
 h:mapB P t kt el=true
theorem MapTy.und {P:Program} {t kt el:TypeId} (h:MapTy P t kt el):P.underlying t=some (.map kt el):=by
 have h:=h.h;unfold mapB at h;split at h
 ·rename_i k e hu;simp only [Bool.and_eq_true] at h;rw [hu,Nat.eq_of_beq_eq_true h.1,Nat.eq_of_beq_eq_true h.2]
 ·cases h
section
variable [Rn]
variable {P:Program} {n:Nat} {e:dJ} {w w':World} {Q:dI} {ops:Array Oper} {rest:List Oper} {d:Nat} {ty:TypeId} {pos:String} {aft:Array Edge}
theorem MapF.lt {m:Nat} {f:Nat→Option Value} (h:MapF w m f):m<w.heap.size:=by
 obtain ⟨es,c,h1,_⟩:=h;exact (Array.getElem?_eq_some_iff.1 h1).1
theorem MapF.keep {m:Nat} {f:Nat→Option Value} (h:MapF w m f) (hk:w'.heap[m]? = w.heap[m]?):MapF w' m f:=by
 obtain ⟨es,c,h1,h2⟩:=h;exact ⟨es,c,by rw [hk];exact h1,h2⟩
theorem MapF.grow {m:Nat} {f:Nat→Option Value} (g:Grow w w') (h:MapF w m f):MapF w' m f:=h.keep (g.block m h.lt)
theorem MapF.upd {m c:Nat} {f:Nat→Option Value} (u:Upd c w w') (hm:m≠c) (h:MapF w m f):MapF w' m f:=h.keep (u.block m hm)
theorem mP {kt:TypeId} (ht:IntTy P kt .i64) {k:Nat} (hk:k<9223372036854775808):keyOf P kt (.int .i64 (k:Int))=some (.int .i64 (k:Int)) :=
 Maps.keyOf_int_mk ht.und (by simp [Go.Lit.wf,IntKind.min,IntKind.max,IntKind.bits,IntKind.signed];omega)
theorem TL.makeMapF {t:TypeId} (hd:Nat.blt d n=true)
  (k:∀ b w',Grow w w'→MapF w' b (λ _=>none)→w.heap.size=b→w'.heap.size=b+1→TL P n ops rest ((d,.map (some b))::e) w' Q) :
  TL P n ops (⟨some d,.makeMap t none,ty,pos,aft,none⟩::rest) e w Q :=
 TL.run (v:=.map (some w.heap.size)) (w':=w.alloc (.map #[] 0)) (λ r hr=>by simp [execOp,run_makeMap]) hd
  (k _ _ (mD _) ⟨#[],0,by show (w.heap.push _)[w.heap.size]? = _;simp,sM,sM,⟨List.Pairwise.nil,sM,List.Pairwise.nil⟩⟩ rfl sM)
theorem MapF.find {kt m:Nat} (ht:IntTy P kt .i64) {f:Nat→Option Value} (h:MapF w m f) {k:Nat} (hk:k<9223372036854775808) :
  ∃ es c,w.heap[m]? = some (.map es c)∧(match f k with
   | none=>(Instr.findKey kt (.int .i64 (k:Int)) es.toList).run P w=.ok none w∧∀ x∈es.toList,x.key≠.int .i64 (k:Int)
   | some v=>∃ j e0,(Instr.findKey kt (.int .i64 (k:Int)) es.toList).run P w=.ok (some (j,v)) w∧es.toList[j]? = some e0∧e0.key=.int .i64 (k:Int)) ∧
   (∀ x∈es.toList,∃ n:Nat,n<9223372036854775808∧x.key=.int .i64 (n:Int)∧f n=some x.val)∧(∀ n v,f n=some v→∃ x∈es.toList,x.key=.int .i64 (n:Int))∧Ordd es.toList c:=by
 obtain ⟨es,c,h1,h2,h3,h5⟩:=h;refine ⟨es,c,h1,?_,h2,h3,h5⟩
 have hkeys:∀ u∈es.toList,∃ l,keyOf P kt u.key=some l:=λ u hu=>by
  obtain ⟨n,hn,e1,_⟩:=h2 u hu;rw [e1];exact ⟨_,mP ht hn⟩
 rcases (Maps.int_keyed ht.und).find w (mP ht hk) es.toList hkeys with ⟨g1,g2⟩|⟨j,e0,g1,g2,g3⟩
 ·cases hf:f k with
  | none=>exact ⟨g1,g2⟩
  | some v=>obtain ⟨x,hx,e⟩:=h3 k v hf;exact absurd e (g2 x hx)
 ·obtain ⟨n,hn,e1,e2⟩:=h2 e0 (List.mem_of_getElem? g2);rw [g3] at e1;have hnk:n=k:=by simp only [Value.int.injEq,true_and] at e1;omega
  subst hnk;rw [e2];exact ⟨j,e0,g1,g2,g3⟩
theorem TL.lookupYes {t kt el m k:Nat} {x y:Operand} {f:Nat→Option Value} {v:Value} [ht:MapTy P t kt el] [hk:IntTy P kt .i64] (hx:val e x=some (.map (some m))) (hy:val e y=some (.int .i64 (k:Int))) (hm:MapF w m f) (hf:f k=some v) (hkl:k<9223372036854775808) (hd:Nat.blt d n=true)
  (kk:TL P n ops rest ((d,.tuple #[v,.bool true])::e) w Q):TL P n ops (⟨some d,.lookup t x y true,ty,pos,aft,none⟩::rest) e w Q :=
 TL.run (λ r hr=>by
  obtain ⟨es,c,h1,h2,h3,h4,h5⟩:=hm.find hk hkl;rw [hf] at h2;obtain ⟨j,e0,g1,g2,g3⟩:=h2
  simp [execOp,hr.eval hx,hr.eval hy,Instr.lookup,run_underlying ht.und,MapKept.run_getObj_map h1,(Maps.int_keyed hk.und).check w _ (mP hk hkl),g1,Result.andThen]) hd kk
theorem TL.lookupNo {t kt el m k:Nat} {x y:Operand} {f:Nat→Option Value} {z:Value} [ht:MapTy P t kt el] [hk:IntTy P kt .i64] [hz:Zero P el z] (hx:val e x=some (.map (some m))) (hy:val e y=some (.int .i64 (k:Int))) (hm:MapF w m f) (hf:f k=none) (hkl:k<9223372036854775808) (hd:Nat.blt d n=true)
  (kk:TL P n ops rest ((d,.tuple #[z,.bool false])::e) w Q):TL P n ops (⟨some d,.lookup t x y true,ty,pos,aft,none⟩::rest) e w Q :=
 TL.run (λ r hr=>by
  obtain ⟨es,c,h1,h2,h3,h4,h5⟩:=hm.find hk hkl;rw [hf] at h2;obtain ⟨g1,g2⟩:=h2
  simp [execOp,hr.eval hx,hr.eval hy,Instr.lookup,run_underlying ht.und,MapKept.run_getObj_map h1,(Maps.int_keyed hk.und).check w _ (mP hk hkl),g1,hz.run,Result.andThen]) hd kk
theorem TL.lookup1 {t kt el m k:Nat} {x y:Operand} {f:Nat→Option Value} {v:Value} [ht:MapTy P t kt el] [hk:IntTy P kt .i64] (hx:val e x=some (.map (some m))) (hy:val e y=some (.int .i64 (k:Int))) (hm:MapF w m f) (hf:f k=some v) (hkl:k<9223372036854775808) (hd:Nat.blt d n=true)
  (kk:TL P n ops rest ((d,v)::e) w Q):TL P n ops (⟨some d,.lookup t x y false,ty,pos,aft,none⟩::rest) e w Q :=
 TL.run (λ r hr=>by
  obtain ⟨es,c,h1,h2,h3,h4,h5⟩:=hm.find hk hkl;rw [hf] at h2;obtain ⟨j,e0,g1,g2,g3⟩:=h2
  simp [execOp,hr.eval hx,hr.eval hy,Instr.lookup,run_underlying ht.und,MapKept.run_getObj_map h1,(Maps.int_keyed hk.und).check w _ (mP hk hkl),g1,Result.andThen]) hd kk
def upF (f:Nat→Option Value) (k:Nat) (u:Value):Nat→Option Value:=λ j=>if j=k then some u else f j
theorem run_mapUpdate {t kt el m k:Nat} {f:Nat→Option Value} {u:Value} (ht:MapTy P t kt el) (hk:IntTy P kt .i64) (hm:MapF w m f) (hkl:k<9223372036854775808) :
  ∃ w',(Instr.mapUpdate t (.map (some m)) (.int .i64 (k:Int)) u).run P w=.ok () w'∧Upd m w w'∧MapF w' m (upF f k u):=by
 obtain ⟨es,c,h1,h2,h3,h4,h5⟩:=hm.find hk hkl;have hlt:=(Array.getElem?_eq_some_iff.1 h1).1
 cases hf:f k with
 | none =>
  rw [hf] at h2;obtain ⟨g1,g2⟩:=h2;refine ⟨setBlock w m (.map (es.push ⟨.int .i64 (k:Int),u,c⟩) (c+1)),?_,⟨rfl,rfl,rfl,by simp [setBlock],λ i hi=>heap_setBlock_other h1 _ (λ e=>hi e)⟩,_,_,heap_setBlock_same h1 _,λ x hx=>?_,λ j v hj=>?_,?_⟩
  ·simp [Instr.mapUpdate,run_underlying ht.und,MapKept.run_getObj_map h1,(Maps.int_keyed hk.und).check w _ (mP hk hkl),g1,MapKept.run_setObj_map _ h1,Result.andThen,setBlock]
  ·simp only [Array.toList_push,List.mem_append,List.mem_singleton] at hx;rcases hx with hx|rfl
   ·obtain ⟨i,hi,e1,e2⟩:=h3 x hx;refine ⟨i,hi,e1,?_⟩;unfold upF;rw [if_neg (λ e=>g2 x hx (by rw [e1,e])),e2]
   ·exact ⟨k,hkl,rfl,by simp [upF]⟩
  ·unfold upF at hj;split at hj
   ·rename_i he;subst he;exact ⟨⟨.int .i64 (j:Int),u,c⟩,sM,rfl⟩
   ·obtain ⟨x,hx,e1⟩:=h4 j v hj;exact ⟨x,by simp [hx],e1⟩
  ·rw [Array.toList_push];refine ⟨List.pairwise_append.2 ⟨h5.keys,sM,λ x hx y hy=>by simp only [List.mem_singleton] at hy;subst hy;exact g2 x hx⟩,λ x hx=>?_,List.pairwise_append.2 ⟨h5.born,sM,λ x hx y hy=>by simp only [List.mem_singleton] at hy;subst hy;exact h5.lt x hx⟩⟩;simp only [List.mem_append,List.mem_singleton] at hx;rcases hx with hx|rfl
   ·have:=h5.lt x hx;omega
   ·exact Nat.lt_succ_self _
 | some v0 =>
  rw [hf] at h2;obtain ⟨j,e0,g1,g2,g3⟩:=h2;have g2':es[j]? = some e0:=by simpa using g2
  refine ⟨setBlock w m (.map (es.modify j λ e=>{ e with key:=.int .i64 (k:Int),val:=u }) c),?_,⟨rfl,rfl,rfl,by simp [setBlock],λ i hi=>heap_setBlock_other h1 _ (λ e=>hi e)⟩,_,_,heap_setBlock_same h1 _,λ x hx=>?_,λ i v hi=>?_,?_⟩
  ·simp [Instr.mapUpdate,run_underlying ht.und,MapKept.run_getObj_map h1,(Maps.int_keyed hk.und).check w _ (mP hk hkl),g1,g2',g3,(Maps.int_keyed hk.und).stays w (mP hk hkl),MapKept.run_setObj_map _ h1,Result.andThen,setBlock]
  ·obtain ⟨i,hi,rfl⟩:=List.mem_iff_getElem.1 hx;have hi':i<es.size:=by simpa using hi
   have ei:(es.modify j λ e=>{ e with key:=.int .i64 (k:Int),val:=u }).toList[i]=if j=i then { es[i] with key:=.int .i64 (k:Int),val:=u } else es[i]:=by
    simp [List.getElem_modify]
   rw [ei];by_cases hji:j=i
   ·rw [if_pos hji];exact ⟨k,hkl,rfl,by simp [upF]⟩
   ·rw [if_neg hji];obtain ⟨n,hn,e1,e2⟩:=h3 es[i] sM;refine ⟨n,hn,e1,?_⟩;unfold upF;rw [if_neg ?_,e2];intro e;subst e;have hj':=List.getElem?_eq_some_iff.1 g2;obtain ⟨hjl,hje⟩:=hj';have hp:=List.pairwise_iff_getElem.1 h5.keys;have hil:i<es.toList.length:=by simpa using hi'
    have ek:es.toList[i].key=e0.key:=by rw [g3];simpa using e1
    rcases Nat.lt_or_gt_of_ne hji with h|h
    ·exact hp j i hjl hil h (by rw [hje,ek])
    ·exact hp i j hil hjl h (by rw [hje,ek])
  ·have hmem:∀ x∈es.toList,∃ y∈(es.modify j λ e=>{ e with key:=.int .i64 (k:Int),val:=u }).toList,y.key=x.key:=by
    intro x hx;obtain ⟨i,hi,rfl⟩:=List.mem_iff_getElem.1 hx;have hi':i<es.size:=by simpa using hi
    refine ⟨(es.modify j λ e=>{ e with key:=.int .i64 (k:Int),val:=u }).toList[i]'(by simpa using hi'),List.getElem_mem _,?_⟩
    have ei:(es.modify j λ e=>{ e with key:=.int .i64 (k:Int),val:=u }).toList[i]'(by simpa using hi')=if j=i then { es[i] with key:=.int .i64 (k:Int),val:=u } else es[i]:=by
     simp [List.getElem_modify]
    rw [ei];by_cases hji:j=i
    ·rw [if_pos hji];subst hji;have:=(List.getElem?_eq_some_iff.1 g2).2;rw [this,g3]
    ·rw [if_neg hji];simp
   unfold upF at hi;split at hi
   ·rename_i he;obtain ⟨y,hy,e1⟩:=hmem e0 (List.mem_of_getElem? g2);exact ⟨y,hy,by rw [e1,g3,he]⟩
   ·obtain ⟨x,hx,e1⟩:=h4 i v hi;obtain ⟨y,hy,e2⟩:=hmem x hx;exact ⟨y,hy,by rw [e2,e1]⟩
  ·have hkeys:(es.modify j λ e=>{ e with key:=.int .i64 (k:Int),val:=u }).toList.map (·.key)=es.toList.map (·.key):=by
    apply List.ext_getElem
    ·simp
    ·intro i h1' h2';have hi':i<es.size:=by simpa using h2'
     simp only [List.getElem_map]
     have ei:(es.modify j λ e=>{ e with key:=.int .i64 (k:Int),val:=u }).toList[i]'(by simpa using hi')=if j=i then { es[i] with key:=.int .i64 (k:Int),val:=u } else es[i]:=by
      simp [List.getElem_modify]
     rw [ei];by_cases hji:j=i
     ·rw [if_pos hji];subst hji;have:=(List.getElem?_eq_some_iff.1 g2).2;rw [this,g3]
     ·rw [if_neg hji];simp
   have h6:(es.toList.map (·.key)).Pairwise (·≠·):=List.pairwise_map.2 h5.keys;rw [← hkeys] at h6
   have hborn:(es.modify j λ e=>{ e with key:=.int .i64 (k:Int),val:=u }).toList.map (·.born)=es.toList.map (·.born):=by
    apply List.ext_getElem
    ·simp
    ·intro i h1' h2';have hi':i<es.size:=by simpa using h2'
     simp only [List.getElem_map]
     have ei:(es.modify j λ e=>{ e with key:=.int .i64 (k:Int),val:=u }).toList[i]'(by simpa using hi')=if j=i then { es[i] with key:=.int .i64 (k:Int),val:=u } else es[i]:=by
      simp [List.getElem_modify]
     rw [ei];by_cases hji:j=i
     ·rw [if_pos hji];simp
     ·rw [if_neg hji];simp
   have h7:(es.toList.map (·.born)).Pairwise (· < ·):=List.pairwise_map.2 h5.born;rw [← hborn] at h7;refine ⟨List.pairwise_map.1 h6,λ x hx=>?_,List.pairwise_map.1 h7⟩;have hx2:=List.mem_map_of_mem (f:=λ x:MapEntry=>x.born) hx;rw [hborn] at hx2;obtain ⟨y,hy,e⟩:=List.mem_map.1 hx2;rw [← e];exact h5.lt y hy
theorem TL.updateF {t kt el m k:Nat} {x y v:Operand} {f:Nat→Option Value} {u:Value} [ht:MapTy P t kt el] [hk:IntTy P kt .i64] (hx:val e x=some (.map (some m))) (hy:val e y=some (.int .i64 (k:Int))) (hv:val e v=some u) (hm:MapF w m f) (hkl:k<9223372036854775808)
  (kk:∀ w',Upd m w w'→MapF w' m (upF f k u)→TL P n ops rest e w' Q):TL P n ops (⟨none,.mapUpdate t x y v,ty,pos,aft,none⟩::rest) e w Q:=by
 obtain ⟨w',h1,h2,h3⟩:=run_mapUpdate (u:=u) ht hk hm hkl;exact TL.run_skip (w':=w') (λ r hr=>by simp [execOp,hr.eval hx,hr.eval hy,hr.eval hv,h1]) (kk w' h2 h3)
end
end Go.V
namespace Go.V
open Go Go.RowKit
section
variable [Rn]
variable {P:Program} {n:Nat} {e:dJ} {w w':World} {Q:dI} {ops:Array Oper} {rest:List Oper} {d:Nat} {ty:TypeId} {pos:String} {aft:Array Edge}
theorem TL.copyB {t t' elem bytes:Nat} {x y:Operand} {b o m c k c':Nat} {bt:TypeId} {a:Option Addr} {F:Nat→Prop} {cs news:List Value} [ht:SliceTy P t elem 1 bytes] (hx:val e x=some (.slice (some ⟨b,o,none⟩) m c)) (hy:val e y=some (.slice a k c'))
  (hb:Blk w b bt cs) (hs:Sl F w 1 a k c' news) (h1:∀ u∈news,u.oneCell'=true) (ho:o+min k m≤cs.length) (hd:Nat.blt d n=true)
  (kk:∀ w',Upd b w w'→Blk w' b bt (iH cs o (news.take (min k m)))→w'.heap.size=w.heap.size→TL P n ops rest ((d,.int .i64 ((min k m:Nat):Int))::e) w' Q) :
  TL P n ops (⟨some d,.call ⟨.builtin .copy,#[x,y],#[t,t']⟩,ty,pos,aft,none⟩::rest) e w Q:=by
 have hl:=hs.len;rw [Nat.mul_one] at hl;have hnl:(news.take (min k m)).length=min k m:=by rw [List.length_take,hl];omega
 obtain ⟨w',hst,hu,hbk⟩:=iV (P:=P) (t:=bt) (news.take (min k m)) o 0 cs w hb (by rw [hnl];omega) (λ u hu=>h1 u (List.mem_of_mem_take hu))
 have hfc:(Builtin.firstCells 1 (min k m) (.slice a k c')).run P w=.ok (news.take (min k m)).toArray w:=by
  cases a with
  | none =>
   have:=hs.nil rfl;have:=hs.cap;have h0:k=0:=by omega
   subst h0;simp [Builtin.firstCells,loadCells,loadCellsFrom]
  | some ad =>
   have hcells:∀ j v,(news.take (min k m))[j]? = some v→w.cell? (ad.add j)=some v:=λ j v hj=>by
    rw [List.getElem?_take] at hj;split at hj
    ·exact hs.row.cell_add rfl j v hj
    ·cases hj
   have:=lZ (P:=P) (w:=w) (p:=ad) (min k m) 0 (news.take (min k m)) #[] hnl (by simpa using hcells);simp [Builtin.firstCells,loadCells,this]
 refine TL.run (v:=.int .i64 ((min k m:Nat):Int)) (w':=w') (λ r hr=>?_) hd (kk w' hu hbk hu.size);have hmin:Nat.min k m=min k m:=rfl;simp [execOp,resolve,invoke,builtin,hr.eval hx,hr.eval hy,Builtin.copy_,run_underlying ht.und,Builtin.lenOf,ht.size,hmin,hfc,hst,goInt]
theorem TL.arrayAt {t len elem size:Nat} {x:Operand} {a:Option Addr} {m c:Nat} [ht:ArrTy P t len elem size] (hx:val e x=some (.slice a m c)) (hm:len≤m) (hd:Nat.blt d n=true)
  (k:TL P n ops rest ((d,.pointer a)::e) w Q):TL P n ops (⟨some d,.sliceToArrayPointer t x,ty,pos,aft,none⟩::rest) e w Q :=
 TL.run (λ r hr=>by simp [execOp,hr.eval hx,Instr.arrayAt,underlying,ht.und.1,Nat.not_lt.2 hm]) hd k
theorem jB {t elem size bytes c:Nat} {x y:Operand} {kl kc:IntKind} {z:Value} [ht:SliceTy P t elem size bytes] [hz:Zero P elem z] (hx:val e x=some (.int kl (c:Int))) (hy:val e y=some (.int kc (c:Int)))
  (hbytes:bytes*c≤281474976710656) (h63:c≤maxLen) (hd:Nat.blt d n=true)
  (k:∀ b w',w.heap.size=b→w'.ownsRow w.heap.size elem size (.slice (some ⟨b,0,none⟩) c c) c (madeCells z.cells (c*size)).toList→Grow w w'→TL P n ops rest ((d,.slice (some ⟨b,0,none⟩) c c)::e) w' Q) :
  TL P n ops (⟨some d,.makeSlice t x y,ty,pos,aft,none⟩::rest) e w Q:=by
 obtain ⟨i,z',hi,hsz,hby,hz',hzs,hne⟩:=ht.info
 have hzz:z'=z:=by
  have:=hz.h;rw [hi] at this;simp only [Option.bind_some,hz',Option.some.injEq] at this;exact this
 subst hby;subst hzz;obtain ⟨w',hrun,h2,h3⟩:=run_make_full (P:=P) w w.heap.size t elem i z' size ht.und hi hz' hsz kl kc c hbytes h63 (Nat.le_refl _);refine TL.run (v:=.slice (some ⟨w.heap.size,0,none⟩) c c) (w':=w') (λ r hr=>?_) hd (k _ _ rfl h2 (Grow.mk ⟨h3.os,h3.tape,h3.output,h3.size,λ k hk=>h3.block k hk sM⟩));simp [execOp,hr.eval hx,hr.eval hy,hrun]
theorem mU {t:TypeId} {x y:Operand} {b:Bool} {d:Option Nat} (h:TL P n ops (⟨d,.lookup t x y b,ty,pos,aft,none⟩::rest) e w Q):TL P n ops (⟨d,.lookup t x y b,ty,pos,aft,none⟩::rest) e w Q:=h
theorem TL.isMapUp {t:TypeId} {x y z:Operand} {d:Option Nat} (h:TL P n ops (⟨d,.mapUpdate t x y z,ty,pos,aft,none⟩::rest) e w Q):TL P n ops (⟨d,.mapUpdate t x y z,ty,pos,aft,none⟩::rest) e w Q:=h
theorem TL.isMakeMap {t:TypeId} {x:Option Operand} {d:Option Nat} (h:TL P n ops (⟨d,.makeMap t x,ty,pos,aft,none⟩::rest) e w Q):TL P n ops (⟨d,.makeMap t x,ty,pos,aft,none⟩::rest) e w Q:=h
end
structure AFact (SA:World→World→Prop) where
 G:Fact
 st:∀ v lo hi w w',Grow w w'→G v lo hi w→G v lo hi w'
 firm:Bool:=false
 fm:firm=true→∀ v lo hi w w',SA w w'→G v lo hi w→G v lo hi w':=by intro h;cases h
section any
variable {SA:World→World→Prop}
def afAt:List (AFact SA)→Nat→Fact
 | [],_=>λ _ _ _ _=>True
 | g::_,0=>g.G
 | _::gs,i+1=>afAt gs i
def afFirm:List (AFact SA)→Nat→Bool
 | [],_=>true
 | g::_,0=>g.firm
 | _::gs,i+1=>afFirm gs i
theorem afAt_keep:∀ (Gs:List (AFact SA)) (i:Nat) (v:Value) (lo hi:Nat) (w w':World),Grow w w'→afAt Gs i v lo hi w→afAt Gs i v lo hi w'
 | [],_,_,_,_,_,_,_,_=>trivial
 | g::_,0,v,lo,hi,w,w',hg,h=>g.st v lo hi w w' hg h
 | _::gs,i+1,v,lo,hi,w,w',hg,h=>afAt_keep gs i v lo hi w w' hg h
theorem afAt_firm:∀ (Gs:List (AFact SA)) (i:Nat) (v:Value) (lo hi:Nat) (w w':World),afFirm Gs i=true→SA w w'→afAt Gs i v lo hi w→afAt Gs i v lo hi w'
 | [],_,_,_,_,_,_,_,_,_=>trivial
 | g::_,0,v,lo,hi,w,w',hf,hg,h=>g.fm hf v lo hi w w' hg h
 | _::gs,i+1,v,lo,hi,w,w',hf,hg,h=>afAt_firm gs i v lo hi w w' hf hg h
def NeedA (l:List Oper) (Gs:List (AFact SA)) (w:World) (lo hi:Nat→Nat) (K:dJ→Prop):List Nat→dJ→Prop
 | [],acc=>K acc
 | j::js,acc=>∀ v,afAt Gs j v (lo j) (hi j) w→NeedA l Gs w lo hi K js ((fP l j,v)::acc)
theorem needA_env {l:List Oper} {Gs:List (AFact SA)} {w:World} {lo hi:Nat→Nat} {K:dJ→Prop} {vs:Nat→Value}:∀ {js:List Nat} {acc:dJ},NeedA l Gs w lo hi K js acc→(∀ j∈js,afAt Gs j (vs j) (lo j) (hi j) w) →
  ∃ acc',K acc'∧∀ t v,find acc' t=some v→(∃ j,j∈js∧t=fP l j∧v=vs j)∨find acc t=some v
 | [],acc,h,_=>⟨acc,h,λ t v hv=>Or.inr hv⟩
 | j::js,acc,h,hf=>by
  obtain ⟨acc',hk,hfd⟩:=needA_env (vs:=vs) (js:=js) (h (vs j) (hf j sM)) (λ x hx=>hf x (by simp [hx]));refine ⟨acc',hk,λ t v hv=>?_⟩;rcases hfd t v hv with ⟨x,hx,h1,h2⟩|h1
  ·exact Or.inl ⟨x,by simp [hx],h1,h2⟩
  ·rw [fT] at h1;split at h1
   ·rename_i hd;cases h1;exact Or.inl ⟨j,sM,hd.symm,rfl⟩
   ·exact Or.inr h1
def oneA (d:Nat) (G:Fact) (R:World→World→Prop) (w:World):dI:=λ x e' w' =>
 match x with
 | .normal=>∃ v,find e' d=some v∧R w w'∧G v w.heap.size w'.heap.size w'
 | _=>False
def DoesA [Rn] (P:Program) (n:Nat) (l:List Oper) (e:dJ) (I0 I1 Iw:World→Prop) (Gs:List (AFact SA)) (A i:Nat):Prop :=
 match l[i]? with
 | none=>True
 | some o=>match Nat.beq i A with
  | true=>∀ w lo hi,I0 w→NeedA l Gs w lo hi (λ acc=>TL P n l.toArray [o] acc w (oneA (fP l i) (afAt Gs i) (λ w w'=>SA w w'∧I1 w') w)) (lI (bH o)) e
  | false=>∀ w lo hi,Iw w→NeedA l Gs w lo hi (λ acc=>TL P n l.toArray [o] acc w (oneA (fP l i) (afAt Gs i) Grow w)) (lI (bH o)) e
def AllA [Rn] (P:Program) (n:Nat) (l:List Oper) (e:dJ) (I0 I1 Iw:World→Prop) (Gs:List (AFact SA)) (A:Nat):Nat→Nat→Prop
 | _,0=>True
 | i,k+1=>DoesA P n l e I0 I1 Iw Gs A i∧AllA P n l e I0 I1 Iw Gs A (i+1) k
theorem allA_at [Rn] {P:Program} {n:Nat} {l:List Oper} {e:dJ} {I0 I1 Iw:World→Prop} {Gs:List (AFact SA)} {A:Nat}:∀ {k i:Nat},AllA P n l e I0 I1 Iw Gs A i k→∀ j,i≤j→j<i+k→DoesA P n l e I0 I1 Iw Gs A j
 | 0,_,_,j,h1,h2=>by omega
 | k+1,i,h,j,h1,h2=>by
  by_cases hj:j=i
  ·subst hj;exact h.1
  ·exact allA_at h.2 j oM oM
def lateB (l:List Oper) (A:Nat):Nat→Nat→Bool
 | 0,_=>false
 | f+1,j=>match l[j]? with
  | some o=>(bH o).any λ x=>Nat.beq x A || lateB l A f x
  | none=>false
def lateOk (l:List Oper) (Gs:List (AFact SA)) (A N:Nat):Bool:=(nD 0 N).all λ j=>afFirm Gs j || Nat.beq j A || lateB l A N j
structure MidA [Rn] (n:Nat) (l:List Oper) (e:dJ) (b0:Nat) (I0 I1 Iw:World→Prop) (Gs:List (AFact SA)) (N A:Nat) (listed:Array Bool) (a:Act) (w:World) (vs:Nat→Value) (lo hi:Nat→Nat):Prop where
 size:listed.size=l.length
 before:listed.getD A false=false→I0 w
 behind:listed.getD A false=true→I1 w
 defers:a.defers=Rn.ds
 tmps:a.tmps.size=n
 get:∀ t v,find e t=some v→a.tmps.getD t undef=v
 did:∀ i,i<N→listed.getD i false=true→afAt Gs i (vs i) (lo i) (hi i) w∧a.tmps.getD (fP l i) undef=vs i
 span:∀ i,i<N→listed.getD i false=true→b0≤lo i∧lo i≤hi i∧hi i≤w.heap.size
 apart:∀ i j,i<N→j<N→i≠j→listed.getD i false=true→listed.getD j false=true→hi i≤lo j∨hi j≤lo i
 rest:∀ i,N≤i→listed.getD i false=false
 closed:∀ j o,l[j]? = some o→listed.getD j false=true→∀ x∈bH o,listed.getD x false=true
theorem MidA.iw [Rn] {n:Nat} {l:List Oper} {e:dJ} {b0:Nat} {I0 I1 Iw:World→Prop} {Gs:List (AFact SA)} {N A:Nat} {listed:Array Bool} {a:Act} {w:World} {vs:Nat→Value} {lo hi:Nat→Nat} (m:MidA n l e b0 I0 I1 Iw Gs N A listed a w vs lo hi) (h0:∀ w,I0 w→Iw w) (h1:∀ w,I1 w→Iw w):Iw w:=by
 cases hA:listed.getD A false with
 | false=>exact h0 w (m.before hA)
 | true=>exact h1 w (m.behind hA)
theorem late_listed {l:List Oper} {A:Nat} {listed:Array Bool} (hc:∀ j o,l[j]? = some o→listed.getD j false=true→∀ x∈bH o,listed.getD x false=true):∀ (f j:Nat),lateB l A f j=true→listed.getD j false=true→listed.getD A false=true
 | 0,_,h,_=>by cases h
 | f+1,j,h,hj=>by
  unfold lateB at h;split at h
  ·rename_i o ho;obtain ⟨x,hx,hb⟩:=List.any_eq_true.1 h;have hxl:=hc j o ho hj x hx;simp only [Bool.or_eq_true] at hb;rcases hb with hb|hb
   ·rw [Nat.eq_of_beq_eq_true hb] at hxl;exact hxl
   ·exact late_listed hc f x hb hxl
  ·cases h
variable [Rn]
variable {P:Program} {n:Nat} {l:List Oper} {e:dJ} {b0:Nat} {I0 I1 Iw:World→Prop} {Gs:List (AFact SA)} {N A:Nat} {Q:dI}
theorem anyA_runs (hA:A<N) (hN:N≤l.length) (hsink:N<l.length→∀ i,i<N→∃ j o,i<j∧j≤N∧l[j]? = some o∧i∈bH o)
  (h01:∀ w,I0 w→Iw w) (h11:∀ w,I1 w→Iw w) (hb0:∀ w,Iw w→b0≤w.heap.size) (hg0:∀ w w',I0 w→Grow w w'→I0 w') (hg1:∀ w w',I1 w→Grow w w'→I1 w') (hSA:∀ w w',SA w w'→w.heap.size≤w'.heap.size)
  (hlate:lateOk l Gs A N=true)
  (hh:∀ i,i<N→HeadAt l e n i) (ht:∀ j,N≤j→j<l.length→∃ o,l[j]? = some o∧(∀ x∈bH o,x<j)∧(j=N∨j-1∈bH o))
  (hdo:∀ i,i<N→DoesA P n l e I0 I1 Iw Gs A i)
  (htail:∀ w (lo hi:Nat→Nat) (vs:Nat→Value),I1 w→(∀ i,i<N→b0≤lo i∧lo i≤hi i∧hi i≤w.heap.size)→(∀ i j,i<N→j<N→i≠j→hi i≤lo j∨hi j≤lo i)→(∀ j,j<N→afAt Gs j (vs j) (lo j) (hi j) w) →
   ∃ acc,TL P n l.toArray (l.drop N) acc w Q∧∀ t v,find acc t=some v→(∃ j,j<N∧t=fP l j∧v=vs j)∨find e t=some v) :
  ∀ (m:Nat) (listed:Array Bool) (a:Act) (w:World) (vs:Nat→Value) (lo hi:Nat→Nat) (f:Nat),MidA n l e b0 I0 I1 Iw Gs N A listed a w vs lo hi →
   ((List.range N).filter λ i=>!(listed.getD i false)).length=m→f=m+(l.length-N)→wpAnyIn (FR Rn.ro) 0 P .any l.toArray (iL n Q) f listed a w:=by
 intro m
 induction m with
 | zero =>
  intro listed a w vs lo hi f mid hm hf
  have hall:∀ i,i<N→listed.getD i false=true:=by
   intro i hi;have:=List.eq_nil_of_length_eq_zero hm;have h2:=List.eq_nil_iff_forall_not_mem.1 this i;simp only [List.mem_filter,List.mem_range,not_and,Bool.not_eq_true',Bool.not_eq_false] at h2;exact h2 hi
  refine nG ht f N listed a w oM (Nat.le_refl _) mid.size hall (λ x hx hx2=>?_) ?_
  ·have:=mid.rest x hx;rw [Array.getD_eq_getD_getElem?] at this ⊢
   cases hy:listed[x]? with
   | none=>rw [Array.getElem?_eq_none_iff] at hy;have:=mid.size;omega
   | some b=>simpa [hy] using this
  ·obtain ⟨acc,hk,hfind⟩:=htail w lo hi vs (mid.behind (hall A hA)) (λ i hi'=>mid.span i hi' (hall i hi')) (λ i j h1 h2 h3=>mid.apart i j h1 h2 h3 (hall i h1) (hall j h2)) (λ j hj=>(mid.did j hj (hall j hj)).1);refine hk.out ⟨mid.defers,mid.tmps,λ t v hv=>?_⟩;rcases hfind t v hv with ⟨j,hj,rfl,rfl⟩|h3
   ·exact (mid.did j hj (hall j hj)).2
   ·exact mid.get t v h3
 | succ m ih =>
  intro listed a w vs lo hi f mid hm hf
  have hopen:∃ i,i<N∧listed.getD i false=false:=by
   have hne:((List.range N).filter λ i=>!(listed.getD i false))≠[]:=by intro h0;rw [h0] at hm;simp at hm
   obtain ⟨i,hi⟩:=List.exists_mem_of_ne_nil _ hne;simp only [List.mem_filter,List.mem_range,Bool.not_eq_true'] at hi;exact ⟨i,hi.1,hi.2⟩
  obtain ⟨f',rfl⟩:∃ f',f=f'+1:=⟨f-1,oM⟩
  have hready:∀ j,j∈Region.ready .any l.toArray listed→j<N∧listed.getD j false=false:=by
   intro j hj;obtain ⟨h3,o,h4,h5⟩:=cZ.1 hj;have hlt:j<l.length:=(List.getElem?_eq_some_iff.1 h4).1
   have hf2:listed.getD j false=false:=by
    rw [Array.getD_eq_getD_getElem?] at h3 ⊢
    cases hx:listed[j]? with
    | none=>simp
    | some b=>simpa [hx] using h3
   refine ⟨?_,hf2⟩;rcases Nat.lt_or_ge j N with h|h
   ·exact h
   ·exfalso;obtain ⟨o2,h6,_,h7⟩:=ht j h hlt;rw [h4] at h6;cases h6;obtain ⟨i,hi,hi0⟩:=hopen;by_cases hjN:j=N
    ·subst hjN
     have key:∀ k i,j-i≤k→i<j→listed.getD i false=false→False:=by
      intro k
      induction k with
      | zero=>intro i h1 h2;omega
      | succ k ihk =>
       intro i h1 h2 hl;obtain ⟨x,o3,hx1,hx2,hx3,hx4⟩:=hsink hlt i h2;by_cases hxj:x=j
       ·subst hxj;rw [h4] at hx3;cases hx3;have:=h5 i hx4;rw [hl] at this;cases this
       ·refine ihk x oM oM ?_
        cases hv:listed.getD x false with
        | false=>rfl
        | true =>
         have:=mid.closed x o3 hx3 hv i hx4;rw [hl] at this;cases this
     exact key _ i (Nat.le_refl _) hi hi0
    ·have h8:=h5 (j-1) (h7.resolve_left hjN);rw [mid.rest (j-1) oM] at h8;cases h8
  have hsome:Region.ready .any l.toArray listed≠[]:=by
   have key:∀ k i,i≤k→i<N→listed.getD i false=false→∃ j,j∈Region.ready .any l.toArray listed:=by
    intro k
    induction k with
    | zero =>
     intro i hi hiN hl;obtain ⟨o,d,ho,_,_,_,_,hdeps⟩:=(hh i hiN).ex;refine ⟨i,cZ.2 ⟨?_,o,ho,λ x hx=>?_⟩⟩
     ·rw [Array.getD_eq_getD_getElem?] at hl ⊢
      cases hx:listed[i]? with
      | none=>rw [Array.getElem?_eq_none_iff] at hx;have:=mid.size;omega
      | some b=>simpa [hx] using hl
     ·have:=hdeps x hx;omega
    | succ k ihk =>
     intro i hi hiN hl;obtain ⟨o,d,ho,_,_,_,_,hdeps⟩:=(hh i hiN).ex;by_cases hx:∃ x∈bH o,listed.getD x false=false
     ·obtain ⟨x,hx1,hx2⟩:=hx;have:=hdeps x hx1;exact ihk x oM oM hx2
     ·refine ⟨i,cZ.2 ⟨?_,o,ho,λ x hx1=>?_⟩⟩
      ·rw [Array.getD_eq_getD_getElem?] at hl ⊢
       cases hx:listed[i]? with
       | none=>rw [Array.getElem?_eq_none_iff] at hx;have:=mid.size;omega
       | some b=>simpa [hx] using hl
      ·cases hv:listed.getD x false with
       | true=>rfl
       | false=>exact absurd ⟨x,hx1,hv⟩ hx
   have hne:((List.range N).filter λ i=>!(listed.getD i false))≠[]:=by intro h0;rw [h0] at hm;simp at hm
   obtain ⟨i,hi⟩:=List.exists_mem_of_ne_nil _ hne;simp only [List.mem_filter,List.mem_range,Bool.not_eq_true'] at hi;obtain ⟨j,hj⟩:=key i i (Nat.le_refl _) hi.1 hi.2;intro h0;rw [h0] at hj;cases hj
  refine ⟨λ h0=>absurd h0 hsome,λ i hir=>?_⟩;obtain ⟨hiN,hil⟩:=hready i hir;obtain ⟨_,o,ho,hdl⟩:=cZ.1 hir;obtain ⟨o',d,ho',hd,hdn,hdf,hdd,hdeps⟩:=(hh i hiN).ex;rw [ho] at ho';cases ho';have hdst:fP l i=d:=by simp [fP,ho,hd]
  have hdo':=hdo i hiN;unfold DoesA at hdo';simp only [ho] at hdo';have hiw:=mid.iw h01 h11;have hdeps':∀ j∈lI (bH o),afAt Gs j (vs j) (lo j) (hi j) w:=λ j hj=>(mid.did j (by have:=hdeps j (fI.1 hj);omega) (hdl j (fI.1 hj))).1
  obtain ⟨acc,hk,hfind⟩:∃ acc,TL P n l.toArray [o] acc w (oneA (fP l i) (afAt Gs i) (λ w w'=>match Nat.beq i A with|true=>SA w w'∧I1 w'|false=>Grow w w') w)∧∀ t v,find acc t=some v→(∃ j,j∈lI (bH o)∧t=fP l j∧v=vs j)∨find e t=some v:=by
   cases hb:Nat.beq i A with
   | true =>
    rw [hb] at hdo';have hiA:=Nat.eq_of_beq_eq_true hb;exact needA_env (vs:=vs) (hdo' w lo hi (mid.before (by rw [← hiA];exact hil))) hdeps'
   | false =>
    rw [hb] at hdo';exact needA_env (vs:=vs) (hdo' w lo hi hiw) hdeps'
  have hfit:Fits n acc a:=⟨mid.defers,mid.tmps,λ t v hv=>by
   rcases hfind t v hv with ⟨j,hj,rfl,rfl⟩|h3
   ·exact (mid.did j (by have:=hdeps j (fI.1 hj);omega) (hdl j (fI.1 hj))).2
   ·exact mid.get t v h3⟩
  have hrun:=hk.out hfit;unfold wpOpIn;rw [show l.toArray[i]? = some o by simpa using ho];simp only
  have hnext:∀ a' w',iL n (oneA (fP l i) (afAt Gs i) (λ w w'=>match Nat.beq i A with|true=>SA w w'∧I1 w'|false=>Grow w w') w) .normal a' w'→(∃ v,a'.tmps=(a.put o.dst v).tmps)→wpAnyIn (FR Rn.ro) 0 P .any l.toArray (iL n Q) f' (listed.setIfInBounds i true) a' w':=by
   rintro a' w' ⟨e',he',v,hv,hg,hG⟩ ⟨u,hu⟩;rw [hdst] at hv;have hva:a'.tmps.getD d undef=v:=he'.get d v hv;rw [hu,hd] at hva;have hds:d<a.tmps.size:=by rw [mid.tmps];exact hdn
   rw [jS hds,if_pos rfl] at hva;subst hva
   have hother:∀ t,t≠d→a'.tmps.getD t undef=a.tmps.getD t undef:=λ t ht=>by
    rw [hu,hd,jS hds,if_neg (λ h=>ht h.symm)]
   have hws:w.heap.size≤w'.heap.size:=by
    cases hb:Nat.beq i A with
    | true=>rw [hb] at hg;exact hSA _ _ hg.1
    | false=>rw [hb] at hg;exact hg.size
   have hsz:i<listed.size:=by rw [mid.size];exact (List.getElem?_eq_some_iff.1 ho).1
   have hAl:∀ b,(listed.setIfInBounds i true).getD A false=b→i≠A→listed.getD A false=b:=λ b h hne=>by
    rwa [Array.getD_eq_getD_getElem?,Array.getElem?_setIfInBounds_ne hne,← Array.getD_eq_getD_getElem?] at h
   refine ih (listed.setIfInBounds i true) a' w' (λ j=>if j=i then u else vs j) (λ j=>if j=i then w.heap.size else lo j) (λ j=>if j=i then w'.heap.size else hi j) f' ⟨by simp [mid.size],λ h=>?_,λ h=>?_,he'.defers,he'.size,λ t v hv=>?_,λ j hj hjl=>?_,λ j hj hjl=>?_,λ j k hj hk hjk hjl hkl=>?_,λ j hj=>?_,λ j oj hoj hjl x hx=>?_⟩ ?_ oM
   ·cases hb:Nat.beq i A with
    | true =>
     have hiA:=Nat.eq_of_beq_eq_true hb;rw [← hiA] at h;simp [Array.getD_eq_getD_getElem?,hsz] at h
    | false =>
     rw [hb] at hg;exact hg0 _ _ (mid.before (hAl _ h (Nat.ne_of_beq_eq_false hb))) hg
   ·cases hb:Nat.beq i A with
    | true=>rw [hb] at hg;exact hg.2
    | false =>
     rw [hb] at hg;exact hg1 _ _ (mid.behind (hAl _ h (Nat.ne_of_beq_eq_false hb))) hg
   ·have htd:t≠d:=λ h=>by rw [h,hdf] at hv;cases hv
    rw [hother t htd];exact mid.get t v hv
   ·by_cases hji:j=i
    ·subst hji;simp only [if_true];refine ⟨hG,?_⟩;rw [hdst,hu,hd,jS hds,if_pos rfl]
    ·simp only [if_neg hji]
     have hjl':listed.getD j false=true:=by
      rwa [Array.getD_eq_getD_getElem?,Array.getElem?_setIfInBounds_ne (λ h=>hji h.symm),← Array.getD_eq_getD_getElem?] at hjl
     obtain ⟨h1,h2⟩:=mid.did j hj hjl';refine ⟨?_,?_⟩
     ·cases hb:Nat.beq i A with
      | false =>
       rw [hb] at hg;exact afAt_keep Gs j _ _ _ w w' hg h1
      | true =>
       rw [hb] at hg;have hiA:=Nat.eq_of_beq_eq_true hb;have hjo:=List.all_eq_true.1 hlate j (fH.2 ⟨Nat.zero_le _,oM⟩);simp only [Bool.or_eq_true] at hjo;rcases hjo with (hjo|hjo)|hjo
       ·exact afAt_firm Gs j _ _ _ w w' hjo hg.1 h1
       ·exact absurd ((Nat.eq_of_beq_eq_true hjo).trans hiA.symm) hji
       ·have:=late_listed mid.closed N j hjo hjl';rw [← hiA,hil] at this;cases this
     have hne:fP l j≠d:=by
      rcases Nat.lt_or_ge j i with h|h
      ·exact hdd j h
      ·obtain ⟨oj,dj,hoj,hdj,_,_,hddj,_⟩:=(hh j hj).ex;have h3:=hddj i oM;rw [hdst] at h3;have:fP l j=dj:=by simp [fP,hoj,hdj]
       rw [this];exact λ h=>h3 h.symm
     rw [hother _ hne];exact h2
   ·by_cases hji:j=i
    ·subst hji;simp only [if_true];exact ⟨hb0 _ hiw,hws,Nat.le_refl _⟩
    ·have hjl':listed.getD j false=true:=by
      rwa [Array.getD_eq_getD_getElem?,Array.getElem?_setIfInBounds_ne (λ h=>hji h.symm),← Array.getD_eq_getD_getElem?] at hjl
     simp only [if_neg hji];have:=mid.span j hj hjl';omega
   ·have old:∀ x,x≠i→(listed.setIfInBounds i true).getD x false=true→listed.getD x false=true:=λ x hx h=>by
     rwa [Array.getD_eq_getD_getElem?,Array.getElem?_setIfInBounds_ne (λ h=>hx h.symm),← Array.getD_eq_getD_getElem?] at h
    by_cases hji:j=i
    ·by_cases hki:k=i
     ·omega
     ·simp only [if_pos hji,if_neg hki];have:=mid.span k hk (old k hki hkl);omega
    ·by_cases hki:k=i
     ·simp only [if_neg hji,if_pos hki];have:=mid.span j hj (old j hji hjl);omega
     ·simp only [if_neg hji,if_neg hki];exact mid.apart j k hj hk hjk (old j hji hjl) (old k hki hkl)
   ·rw [Array.getD_eq_getD_getElem?,Array.getElem?_setIfInBounds_ne oM,← Array.getD_eq_getD_getElem?];exact mid.rest j hj
   ·by_cases hxi:i=x
    ·subst hxi;simp [Array.getD_eq_getD_getElem?,hsz]
    ·rw [Array.getD_eq_getD_getElem?,Array.getElem?_setIfInBounds_ne hxi,← Array.getD_eq_getD_getElem?];by_cases hji:i=j
     ·subst hji;rw [ho] at hoj;cases hoj;exact hdl x hx
     ·rw [Array.getD_eq_getD_getElem?,Array.getElem?_setIfInBounds_ne hji,← Array.getD_eq_getD_getElem?] at hjl;exact mid.closed j oj hoj hjl x hx
   ·
    have hcount:∀ (L:List Nat),L.Nodup→i∈L→(L.filter λ j=>!((listed.setIfInBounds i true).getD j false)).length+1=(L.filter λ j=>!(listed.getD j false)).length:=by
     intro L
     induction L with
     | nil=>intro _ h;cases h
     | cons x xs ihx =>
      intro hnd hmem;rw [List.nodup_cons] at hnd;by_cases hxi:x=i
      ·subst hxi
       have hsame:(xs.filter λ j=>!((listed.setIfInBounds x true).getD j false))=xs.filter λ j=>!(listed.getD j false):=by
        apply List.filter_congr;intro y hy;have hyx:x≠y:=λ h=>hnd.1 (h▸hy);rw [Array.getD_eq_getD_getElem?,Array.getElem?_setIfInBounds_ne hyx,← Array.getD_eq_getD_getElem?]
       have h1:(listed.setIfInBounds x true).getD x false=true:=by simp [Array.getD_eq_getD_getElem?,hsz]
       rw [List.filter_cons_of_neg (by simp [h1]),hsame,List.filter_cons_of_pos (by simp [hil])];simp
      ·have hmem':i∈xs:=by
        rcases List.mem_cons.1 hmem with h|h
        ·exact absurd h.symm hxi
        ·exact h
       have:=ihx hnd.2 hmem'
       have hx2:(listed.setIfInBounds i true).getD x false=listed.getD x false:=by
        rw [Array.getD_eq_getD_getElem?,Array.getElem?_setIfInBounds_ne (λ h=>hxi h.symm),← Array.getD_eq_getD_getElem?]
       cases hc:listed.getD x false with
       | true=>rw [List.filter_cons_of_neg (by simp [hx2,hc]),List.filter_cons_of_neg (by simp [hc])];exact this
       | false=>rw [List.filter_cons_of_pos (by simp [hx2,hc]),List.filter_cons_of_pos (by simp [hc])];simp only [List.length_cons];omega
    have:=hcount (List.range N) List.nodup_range (List.mem_range.2 hiN);omega
  unfold wpListIn at hrun;split
  ·rename_i hw;rw [if_pos hw] at hrun
   exact (Oper.wpIn_mono (λ a' w' hh=>hnext a' w' hh.1 hh.2) (wp_swap (wp_frame hrun) (λ x a w hx hq=>by
     refine (lift_no hq λ e0 w0 hq=>?_).elim
     cases x<;>first|exact absurd rfl hx|exact hq)))
  ·rename_i hw;rw [if_neg hw] at hrun;exact ⟨hrun.1,hnext _ _ hrun.2 ⟨undef,rfl⟩⟩
def gZ (v:Value):AFact SA:=⟨λ u _ _ _=>u=v,λ _ _ _ _ _ _ h=>h,true,λ _ _ _ _ _ _ _ h=>h⟩
def ofA (R:Value→World→Prop) (h:∀ v w w',Grow w w'→R v w→R v w'):AFact SA:={ G:=λ v _ _ w=>R v w,st:=λ v _ _ w w' g=>h v w w' g }
theorem iN {i:Nat}:AllA P n l e I0 I1 Iw Gs A i 0:=trivial
theorem gU {i k:Nat} (h:DoesA P n l e I0 I1 Iw Gs A i) (hs:AllA P n l e I0 I1 Iw Gs A (i+1) k):AllA P n l e I0 I1 Iw Gs A i (k+1):=⟨h,hs⟩
theorem dA {i d:Nat} {o:Oper} {g:AFact SA} (ho:l[i]? = some o) (hd:o.dst=some d) (hg:afAt Gs i=g.G) (hb:Nat.beq i A=false) (h:∀ w lo hi,Iw w→NeedA l Gs w lo hi (λ acc=>TL P n l.toArray [o] acc w (oneA d g.G Grow w)) (lI (bH o)) e):DoesA P n l e I0 I1 Iw Gs A i:=by
 unfold DoesA;rw [ho];simp only [hb];rw [hg,dstAt_of (d:=d) (by rw [ho];exact hd)];exact h
theorem iM {i d:Nat} {o:Oper} {g:AFact SA} (ho:l[i]? = some o) (hd:o.dst=some d) (hg:afAt Gs i=g.G) (hb:Nat.beq i A=true) (h:∀ w lo hi,I0 w→NeedA l Gs w lo hi (λ acc=>TL P n l.toArray [o] acc w (oneA d g.G (λ w w'=>SA w w'∧I1 w') w)) (lI (bH o)) e):DoesA P n l e I0 I1 Iw Gs A i:=by
 unfold DoesA;rw [ho];simp only [hb];rw [hg,dstAt_of (d:=d) (by rw [ho];exact hd)];exact h
theorem needA_cons {w:World} {lo hi:Nat→Nat} {K:dJ→Prop} {j d:Nat} {g:AFact SA} {js:List Nat} {acc:dJ} (hd:(l[j]?).bind (·.dst)=some d) (hg:afAt Gs j=g.G) (h:∀ v,g.G v (lo j) (hi j) w→NeedA l Gs w lo hi K js ((d,v)::acc)):NeedA l Gs w lo hi K (j::js) acc:=by
 unfold NeedA;rw [hg,dstAt_of hd];exact h
theorem needA_nil {w:World} {lo hi:Nat→Nat} {K:dJ→Prop} {acc:dJ} (h:K acc):NeedA l Gs w lo hi K [] acc:=h
theorem bQ {d:Nat} {G:Fact} {w w':World} {R:World→World→Prop} {e':dJ} {v:Value} (hv:find e' d=some v) (hg:R w w') (hG:G v w.heap.size w'.heap.size w'):oneA d G R w .normal e' w':=⟨v,hv,hg,hG⟩
theorem nC {rid:Nat} {w0:World} (SA:World→World→Prop) (N A:Nat) (I0 I1 Iw:World→Prop) (Gs:List (AFact SA)) [hm:Mixed P] (hc:(headOk l e n 0 N&&mZ l N N (l.length-N)&&Nat.ble N l.length&&(Nat.ble l.length N || sinkOk l N)&&Nat.blt A N&&lateOk l Gs A N)=true)
  (hI:I0 w0) (h01:∀ w,I0 w→Iw w) (h11:∀ w,I1 w→Iw w) (hb0:∀ w,Iw w→w0.heap.size≤w.heap.size) (hg0:∀ w w',I0 w→Grow w w'→I0 w') (hg1:∀ w w',I1 w→Grow w w'→I1 w') (hSA:∀ w w',SA w w'→w.heap.size≤w'.heap.size)
  (hdo:AllA P n l e I0 I1 Iw Gs A 0 N) (htail:∀ w (lo hi:Nat→Nat),I1 w→(∀ i,i<N→w0.heap.size≤lo i∧lo i≤hi i∧hi i≤w.heap.size)→(∀ i j,i<N→j<N→i≠j→hi i≤lo j∨hi j≤lo i)→NeedA l Gs w lo hi (λ acc=>TL P n l.toArray (l.drop N) acc w Q) (nD 0 N) e):T P n (.region rid l.toArray true) e w0 Q:=by
 simp only [Bool.and_eq_true] at hc;obtain ⟨⟨⟨⟨⟨hc1,hc2⟩,hc3⟩,hc4⟩,hc5⟩,hc6⟩:=hc;have hN:N≤l.length:=Nat.le_of_ble_eq_true hc3
 have hsink:N<l.length→sinkOk l N=true:=by
  intro h;simp only [Bool.or_eq_true] at hc4;rcases hc4 with h2|h2
  ·have:=Nat.le_of_ble_eq_true h2;omega
  ·exact h2
 have hgf:∀ i,(Array.replicate l.toArray.size false).getD i false=false:=by
  intro i;rw [Array.getD_eq_getD_getElem?];rcases Nat.lt_or_ge i l.length with hi|hi
  ·simp [hi]
  ·simp [hi]
 refine T.mk λ a ha=>wpIn_region_any hm.h ?_
 refine anyA_runs (b0:=w0.heap.size) (A:=A) (Nat.le_of_ble_eq_true hc5) hN (λ h i hi=>sinkOk_at (hsink h) i hi) h01 h11 hb0 hg0 hg1 hSA hc6 (λ i hi=>headOk_at hc1 i (Nat.zero_le _) oM) (λ j h1 h2=>lR hc2 j h1 oM) (λ i hi=>allA_at hdo i (Nat.zero_le _) oM) ?_
  N (Array.replicate l.toArray.size false) a _ (λ _=>undef) (λ _=>0) (λ _=>0) _ ⟨sM,λ _=>hg0 _ _ hI (Grow.drew _),λ h=>?_,ha.defers,ha.size,ha.get,λ i _ h=>?_,λ i _ h=>?_,λ i j _ _ _ h _=>?_,λ i _=>hgf i,λ j o _ h x _=>?_⟩ ?_ (by simp;omega)
 ·intro w lo hi vs h1 h2 h3 h4;obtain ⟨acc,hk,hf⟩:=needA_env (vs:=vs) (htail w lo hi h1 h2 h3) (λ j hj=>h4 j (by have:=fH.1 hj;omega));refine ⟨acc,hk,λ t v hv=>?_⟩;rcases hf t v hv with ⟨j,hj,h5⟩|h5
  ·exact Or.inl ⟨j,by have:=fH.1 hj;omega,h5⟩
  ·exact Or.inr h5
 ·rw [hgf] at h;cases h
 ·rw [hgf] at h;cases h
 ·rw [hgf] at h;cases h
 ·rw [hgf] at h;cases h
 ·rw [hgf] at h;cases h
 ·have:((List.range N).filter λ i=>!((Array.replicate l.toArray.size false).getD i false))=List.range N:=by
   rw [List.filter_eq_self];intro i hi;rw [hgf];rfl
  rw [this];simp
end any
section
variable [Rn]
variable {P:Program} {n:Nat} {e:dJ} {w:World} {Q:dI} {ops:Array Oper} {rest:List Oper} {d:Nat} {ty:TypeId} {pos:String} {aft:Array Edge}
theorem TL.orP (j:Nat) {zx zy:Int} {x y:Operand} {kd:IntKind} {M a b:Nat} {t1 t2:TypeId} (hx:val e x=some (.int kd zx)) [ix:Lit zx a] (hy:val e y=some (.int kd zy)) [iy:Lit zy b] (hM:ulim kd=some M) (ha:a<2^j) (hb:b%2^j=0) (haM:a<M) (hbM:b<M) (hd:Nat.blt d n=true)
  (k:TL P n ops rest ((d,.int kd ((a+b:Nat):Int))::e) w Q):TL P n ops (⟨some d,.binOp .or t1 x y t2,ty,pos,aft,none⟩::rest) e w Q :=
 TL.run (λ r hr=>by
  rw [ix.h] at hx;rw [iy.h] at hy
  have e1:((BitVec.ofInt kd.bits (a:Int))|||(BitVec.ofInt kd.bits (b:Int))).toNat=a+b:=by
   rw [BitVec.toNat_or,bits_nat hM,bits_nat hM,Nat.mod_eq_of_lt haM,Nat.mod_eq_of_lt hbM,or_apart rfl ha hb]
  have hlt:a+b<M:=by
   rw [← e1,ulim_bits hM];exact BitVec.isLt _
  have e2:=eV hM hlt;rw [← e1] at e2
  have hb:binOp .or t1 (.int kd (a:Int)) (.int kd (b:Int))=Pure.pure (.int kd ((a+b:Nat):Int)):=by
   simp only [binOp,Op.intBits,ne_eq,not_true_eq_false,if_false];rw [e2,e1]
  simp only [execOp,bG,hr.eval hx,hr.eval hy,hb]
  rfl) hd k
end
end Go.V
namespace Go.Proofs.YtfpadnmdafiddaaGreatDoor
open Go Go.RowKit Go.V
theorem Rd.lt {B b e:Nat} {r:Bs} {w:World} (h:Rd B b r e w):b<w.heap.size:=by
 obtain ⟨a,n,c,p,L,h1,_⟩:=h;exact h1.lt
theorem Rd.bytes {B b e:Nat} {r:Bs} {w:World} (h:Rd B b r e w):∀ x∈r,x<256:=by
 obtain ⟨a,n,c,p,L,h1,h2,h3,h4,h5,h6⟩:=h;intro x hx;exact h5 x (List.mem_of_mem_drop (i:=p) (by rw [h6];exact hx))
theorem Rd.len {B b e:Nat} {r:Bs} {w:World} (h:Rd B b r e w):r.length≤1099511627776:=by
 obtain ⟨a,n,c,p,L,h1,h2,h3,h4,h5,h6⟩:=h;have:=gX h2;have:=congrArg List.length h6;simp at this;omega
theorem take_yes' {B b m:Nat} {r:Bs} {w:World} (h:Rd B b r 0 w) (hm:m≤r.length) :
  Calls Tryz.prog 256 #[.pointer (some ⟨b,0,none⟩),.int .u64 (m:Int)] w (Ret λ v w'=>∃ a' c',v=.tuple #[.slice a' m c',.bool true]∧Sl (λ k=>B≤k∧k<b) w' 1 a' m c' (bB (r.take m))∧Rd B b (r.drop m) 0 w'∧Mut b w w'):=by
 obtain ⟨a,n,c,p,L,h1,h2,h3,h4,h5,h6⟩:=h;have hl:=gX h2;have hr:=congrArg List.length h6;simp at hr;refine Calls.mono (take_yes _ b a n c p m L w h1 h2 oM oM h3 oM) (λ x w' hx=>Ret.mono hx λ v w' hv=>?_);obtain ⟨a',c',q1,q2,q3,q4⟩:=hv;exact ⟨a',c',q1,by rw [← h6];exact q2,⟨a,n,c,p+m,L,q3,lX h2 q4 oM,oM,h4,h5,by rw [← List.drop_drop,h6]⟩,q4⟩
theorem take_no' {B b m:Nat} {r:Bs} {w:World} (h:Rd B b r 0 w) (hm:r.length<m) (hm2:m<18446744073709551616) :
  Calls Tryz.prog 256 #[.pointer (some ⟨b,0,none⟩),.int .u64 (m:Int)] w (Ret λ v w'=>v=.tuple #[.slice none 0 0,.bool false]∧Rd B b r 5 w'∧Mut b w w'):=by
 obtain ⟨a,n,c,p,L,h1,h2,h3,h4,h5,h6⟩:=h;have hl:=gX h2;have hr:=congrArg List.length h6;simp at hr;refine Calls.mono (take_no b a n c p m w h1 oM h3 oM hm2) (λ x w' hx=>Ret.mono hx λ v w' hv=>?_);obtain ⟨q1,q3,q4⟩:=hv;exact ⟨q1,⟨a,n,c,p,L,q3,lX h2 q4 oM,h3,h4,h5,h6⟩,q4⟩
theorem take_err' {B b m e:Nat} {r:Bs} {w:World} (h:Rd B b r e w) (he:e≠0) :
  Calls Tryz.prog 256 #[.pointer (some ⟨b,0,none⟩),.int .u64 (m:Int)] w (Ret λ v w'=>v=.tuple #[.slice none 0 0,.bool false]∧w=w'):=by
 obtain ⟨a,n,c,p,L,h1,h2⟩:=h;exact take_err b a n c p e m w h1 he
theorem left' {B b e:Nat} {r:Bs} {w:World} (h:Rd B b r e w) :
  Calls Tryz.prog 225 #[.pointer (some ⟨b,0,none⟩)] w (Ret λ v w'=>v=.int .i64 (r.length:Int)∧Grow w w'):=by
 obtain ⟨a,n,c,p,L,h1,h2,h3,h4,h5,h6⟩:=h;have hl:=gX h2;have hr:=congrArg List.length h6;simp at hr;have:=left_c b a n c p e w h1 oM h3;rwa [show n-p=r.length by omega] at this
def leW (r:Bs):Nat→Nat
 | 0=>0
 | i+1=>leW r i+r.getD i 0*2^(8*i)
theorem leW_lt {r:Bs} (hr:∀ x∈r,x<256):∀ i,leW r i<2^(8*i)
 | 0=>by simp [leW]
 | i+1=>by
  have ih:=leW_lt hr i
  have hg:r.getD i 0<256:=by
   rw [List.getD_eq_getElem?_getD]
   cases hx:r[i]? with
   | none=>simp
   | some x=>exact hr x (List.mem_of_getElem? hx)
  simp only [leW];rw [show 8*(i+1)=8*i+8 by omega,Nat.pow_add];generalize 2^(8*i)=X at *;have:(r.getD i 0+1)*X≤256*X:=Nat.mul_le_mul_right _ oM;rw [Nat.add_mul] at this;omega
theorem le4_eq (r:Bs):leW r 4=le4 r:=by simp [leW,le4];omega
theorem word_yes {B b m:Nat} {r:Bs} {w:World} (h:Rd B b r 0 w) (h1:1≤m) (h8:m≤8) (hm:m≤r.length) :
  Calls Tryz.prog 221 #[.pointer (some ⟨b,0,none⟩),.int .i64 (m:Int)] w (Ret λ v w'=>v=.int .u64 (leW r m:Int)∧Rd B b (r.drop m) 0 w'∧Mut b w w'):=by
 have hby:=h.bytes;refine V.calls (args:=[_,_]) Tryz.func221 rfl Tryz.ntmps221 rfl rfl ?_;repeat (first|(refine aB 214 ?_;refine aA rfl (clamp_c m h1 h8 _) rfl ?_;rintro _ _ ⟨rfl,rfl⟩)|refine yC ?_)
 refine aA rfl (take_yes' h hm) rfl ?_;rintro _ w1 ⟨a,c,rfl,hs,hr1,hm1⟩;repeat refine aF ?_
 refine aX (S:=Nat) (λ i=>[(22,.int .i64 (i:Int)),(21,.int .i64 (m:Int)),(20,.slice a m c),(7,.int .u64 (leW r i:Int))]) (λ i w'=>i≤m∧w1=w') (λ i=>m-i) 0 ⟨rfl,rfl,rfl,rfl,trivial⟩ ⟨oM,rfl⟩ ?_;rintro i _ ⟨hi,rfl⟩;by_cases hlt:i<m
 ·obtain ⟨p,hp⟩:∃ p,r[i]? = some p:=⟨_,List.getElem?_eq_getElem oM⟩
  have hp2:(r.take m)[i]? = some p:=by rw [List.getElem?_take,if_pos hlt];exact hp
  have hcx:w1.cell? (at' a i)=some (.int .u8 (p:Int)):=hs.row.cell (by unfold bB;rw [List.getElem?_map,hp2];rfl);have hp256:=hby p (List.mem_of_getElem? hp)
  have hpw:p*2^(8*i)<18446744073709551616:=by
   have:(2:Nat)^(8*i)≤2^56:=Nat.pow_le_pow_right dM oM;have h3:p*2^(8*i)≤255*2^56:=Nat.mul_le_mul oM this;omega
  have hl1:=leW_lt hby i
  have hl2:leW r i<18446744073709551616:=by
   have:(2:Nat)^(8*i)≤2^64:=Nat.pow_le_pow_right dM oM;omega
  have hst:leW r (i+1)=leW r i+p*2^(8*i):=by simp [leW,List.getD_eq_getElem?_getD,hp]
  repeat (first|(refine aH ?_;refine aC rfl rfl rfl hlt (Nat.mul_one _) ⟨_,_,hs⟩ rfl ?_)|(refine eQ ?_;refine TL.mulN (a:=8) rfl rfl oM rfl ?_)|(refine jW ?_;refine TL.shlS (M:=18446744073709551616) rfl rfl rfl (by show 8*i≤64;omega) hpw rfl ?_)|(refine TL.isOr ?_;refine TL.orP (8*i) rfl rfl rfl hl1 sM hl2 hpw rfl ?_)|refine yC ?_)
  rw [← hst];exact aE (i+1) ⟨rfl,rfl,rfl,rfl,trivial⟩ ⟨hlt,rfl⟩ oM
 ·obtain rfl:i=m:=by omega
  repeat refine aF ?_
  exact bA rfl ⟨_,rfl,rfl,hr1,hm1⟩
theorem word_no {B b m:Nat} {r:Bs} {w:World} (h:Rd B b r 0 w) (h1:1≤m) (h8:m≤8) (hm:r.length<m) :
  Calls Tryz.prog 221 #[.pointer (some ⟨b,0,none⟩),.int .i64 (m:Int)] w (Ret λ v w'=>v=.int .u64 0∧Rd B b r 5 w'∧Mut b w w'):=by
 refine V.calls (args:=[_,_]) Tryz.func221 rfl Tryz.ntmps221 rfl rfl ?_;repeat (first|(refine aB 214 ?_;refine aA rfl (clamp_c m h1 h8 _) rfl ?_;rintro _ _ ⟨rfl,rfl⟩)|refine yC ?_)
 refine aA rfl (take_no' h hm oM) rfl ?_;rintro _ w1 ⟨rfl,hr1,hm1⟩;repeat refine aF ?_
 exact bA rfl ⟨_,rfl,rfl,hr1,hm1⟩
theorem word_err {B b m e:Nat} {r:Bs} {w:World} (h:Rd B b r e w) (he:e≠0) (h1:1≤m) (h8:m≤8) :
  Calls Tryz.prog 221 #[.pointer (some ⟨b,0,none⟩),.int .i64 (m:Int)] w (Ret λ v w'=>v=.int .u64 0∧w=w'):=by
 refine V.calls (args:=[_,_]) Tryz.func221 rfl Tryz.ntmps221 rfl rfl ?_;repeat (first|(refine aB 214 ?_;refine aA rfl (clamp_c m h1 h8 _) rfl ?_;rintro _ _ ⟨rfl,rfl⟩)|refine yC ?_)
 refine aA rfl (take_err' h he) rfl ?_;rintro _ _ ⟨rfl,rfl⟩;repeat refine aF ?_
 exact bA rfl ⟨_,rfl,rfl,rfl⟩
theorem take_all {B b:Nat} {r:Bs} {w:World} (h:Rd B b r 0 w) :
  Calls Tryz.prog 224 #[.pointer (some ⟨b,0,none⟩),.int .i64 (r.length:Int)] w (Ret λ v w'=>∃ a c,v=.slice a r.length c∧Sl (λ k=>w.heap.size≤k) w' 1 a r.length c (bB r)∧Rd B b [] 0 w'∧Mut b w w'):=by
 have hlen:=h.len;have hlt:=h.lt;refine V.calls (args:=[_,_]) Tryz.func224 rfl Tryz.ntmps224 rfl rfl ?_;repeat (first|(refine eW ?_;refine lP (r:=(r.length:Int)) rfl rfl (by split<;>omega) rfl ?_)|refine yC ?_)
 refine aA rfl (take_yes' h (Nat.le_refl _)) rfl ?_;rintro _ w1 ⟨a,c,rfl,hs,hr1,hm1⟩;rw [List.take_length] at hs;rw [List.drop_length] at hr1;repeat refine aF ?_
 refine aA rfl (grown_c _ a _ c 0 (bB r) _ hs (bO _) oM) rfl ?_;rintro v2 w2 ⟨hown,hg2⟩;obtain ⟨a2,c2,rfl,hs2⟩:=aM hown;repeat refine aF ?_
 have:=hm1.size;exact bA rfl ⟨_,rfl,a2,c2,rfl,hs2.mono (λ k hk=>by have:=hk.1;omega),hr1.grow hg2,hm1.trans (iK hg2)⟩
theorem take_alle {B b e:Nat} {r:Bs} {w:World} (h:Rd B b r e w) (he:e≠0) :
  Calls Tryz.prog 224 #[.pointer (some ⟨b,0,none⟩),.int .i64 (r.length:Int)] w (Ret λ v w'=>v=.slice none 0 0∧w=w'):=by
 have hlen:=h.len;refine V.calls (args:=[_,_]) Tryz.func224 rfl Tryz.ntmps224 rfl rfl ?_;repeat (first|(refine eW ?_;refine lP (r:=(r.length:Int)) rfl rfl (by split<;>omega) rfl ?_)|refine yC ?_)
 refine aA rfl (take_err' h he) rfl ?_;rintro _ _ ⟨rfl,rfl⟩;repeat refine aF ?_
 exact bA rfl ⟨_,rfl,rfl,rfl⟩
theorem rdblk_ok {B b:Nat} {r p r':Bs} {w:World} (h:Rd B b r 0 w) (hr:kF r=some (p,r')) :
  Calls Tryz.prog 223 #[.pointer (some ⟨b,0,none⟩)] w (Ret λ v w'=>∃ a c,v=.slice a p.length c∧Sl (λ k=>w.heap.size≤k) w' 1 a p.length c (bB p)∧Rd B b r' 0 w'∧Mut b w w'):=by
 have hby:=h.bytes;have hlen:=h.len;have hrl:=h.lt;obtain ⟨a,n,c,q,L,h1,h2,h3,h4,h5,h6⟩:=h;have hl:=gX h2;have hrr:=congrArg List.length h6;simp at hrr;unfold kF at hr;split at hr;rotate_left
 ·cases hr
 rename_i hn0;split at hr;rotate_left
 ·cases hr
 rename_i hfit
 cases r with
 | nil=>simp [fW] at hn0
 | cons f t =>
  have hc:=numV_le f t;simp only [Option.some.injEq,Prod.mk.injEq] at hr;obtain ⟨hp,hr'⟩:=hr;have hvb:=numV_back (r:=f::t) (v:=(fW (f::t)).1) (k:=(fW (f::t)).2.1) hby (by rw [← hn0]);refine V.calls (args:=[_]) Tryz.func223 rfl Tryz.ntmps223 rfl rfl ?_;have hb2:=h1;unfold rdr at hb2;repeat (first|(refine aB 257 ?_;refine aA rfl (made_c b a n c q 0 _ h1) rfl ?_;rintro _ _ ⟨rfl,rfl⟩)|refine yC ?_)
  refine aA rfl (rnum_some _ b a n c q L f t _ h1 h2 oM oM h3 h5 h6) rfl ?_;rintro _ w1 ⟨rfl,hb1,hm1⟩;rw [hn0] at hb1;clear hb2;repeat refine aF ?_
  have hs1:=lX h2 hm1 oM;have e3:L.drop (q+(fW (f::t)).2.1)=(f::t).drop (fW (f::t)).2.1:=by rw [← List.drop_drop,h6]
  have hle:(fW (f::t)).1≤n-(q+(fW (f::t)).2.1):=by
   have:=hfit;rw [List.length_drop] at this;simp only [List.length_cons] at this hrr;omega
  refine aA rfl (take_yes _ b a n c (q+(fW (f::t)).2.1) (fW (f::t)).1 L _ hb1 hs1 oM oM (by simp only [List.length_cons] at hc hrr;omega) hle) rfl ?_;rintro _ w2 ⟨a2,c2,rfl,hs2,hb3,hm2⟩;rw [e3,hp] at hs2;have hpl:(fW (f::t)).1=p.length:=gX hs2;rw [hpl] at hs2 ⊢;repeat refine aF ?_
  refine aA rfl (grown_c _ a2 p.length c2 0 (bB p) _ hs2 (bO _) (by have:=hs2.cap;rw [← hpl];omega)) rfl ?_;rintro v3 w3 ⟨hown,hg3⟩;obtain ⟨a4,c4,rfl,hs4⟩:=aM hown;repeat refine aF ?_
  have:=hm1.size;have:=hm2.size;refine bA rfl ⟨_,rfl,a4,c4,rfl,hs4.mono (λ k hk=>by have:=hk.1;omega),Rd.grow ⟨a,n,c,q+(fW (f::t)).2.1+(fW (f::t)).1,L,hb3,lX hs1 hm2 oM,oM,h4,h5,?_⟩ hg3,(hm1.trans hm2).trans (iK hg3)⟩;rw [← hr',← List.drop_drop,e3]
theorem rdblk_no {B b e:Nat} {r:Bs} {w:World} (h:Rd B b r e w) (hr:e≠0∨kF r=none) :
  Calls Tryz.prog 223 #[.pointer (some ⟨b,0,none⟩)] w (Ret λ v w'=>v=.slice none 0 0∧(∃ e',e'≠0∧Rd B b r e' w')∧Mut b w w'):=by
 have hby:=h.bytes;have hlen:=h.len;have hrl:=h.lt;obtain ⟨a,n,c,q,L,h1,h2,h3,h4,h5,h6⟩:=h;have hl:=gX h2;have hrr:=congrArg List.length h6;simp at hrr;refine V.calls (args:=[_]) Tryz.func223 rfl Tryz.ntmps223 rfl rfl ?_;have hb2:=h1;unfold rdr at hb2
 have fin:∀ (w1:World) (q1 e1:Nat),e1≠0→Blk w1 b 329 (rdr b a n c q1 e1)→Mut b w w1→Sl (λ k=>B≤k∧k<b) w1 1 a n c (bB L)→∀ w2:World,Blk w2 b 329 (rdr b a n c q e1)→Mut b w1 w2→(∃ e',e'≠0∧Rd B b r e' w2)∧Mut b w w2:=by
  intro w1 q1 e1 he hb1 hm1 hs1 w2 hb2 hm2;exact ⟨⟨e1,he,a,n,c,q,L,hb2,lX hs1 hm2 oM,h3,h4,h5,h6⟩,hm1.trans hm2⟩
 by_cases he:e=0;rotate_left
 ·repeat (first|(refine aB 257 ?_;refine aA rfl (made_c b a n c q e _ h1) rfl ?_;rintro _ _ ⟨rfl,rfl⟩)|(refine aB 258 ?_;refine aA rfl (rnum_err b a n c q e _ h1 he) rfl ?_;rintro _ _ ⟨rfl,rfl⟩)|(refine aB 256 ?_;refine aA rfl (take_err b a n c q e 0 _ h1 he) rfl ?_;rintro _ _ ⟨rfl,rfl⟩)|refine yC ?_)
  refine aA rfl (fail_c b a n c q e q e _ h1) rfl ?_;rintro _ w4 ⟨hb4,hm4⟩;repeat refine aF ?_
  obtain ⟨g1,g2⟩:=fin w q e he h1 (iK (Grow.refl _)) h2 w4 hb4 hm4;exact bA rfl ⟨_,rfl,rfl,g1,g2⟩
 subst he;have hr:=hr.resolve_left (λ h=>h rfl)
 cases r with
 | nil =>
  have hq:q=n:=by simp at hrr;omega
  subst hq;repeat (first|(refine aB 257 ?_;refine aA rfl (made_c b a q c q 0 _ h1) rfl ?_;rintro _ _ ⟨rfl,rfl⟩)|refine yC ?_)
  refine aA rfl (rnum_none b a q c _ h1 oM) rfl ?_;rintro _ w1 ⟨rfl,hb1,hm1⟩;have hb1':=hb1;unfold rdr at hb1';clear hb2;repeat (first|(refine aB 256 ?_;refine aA rfl (take_err b a q c q 5 0 _ hb1 oM) rfl ?_;rintro _ _ ⟨rfl,rfl⟩)|refine yC ?_)
  refine aA rfl (fail_c b a q c q 5 q 5 _ hb1) rfl ?_;rintro _ w4 ⟨hb4,hm4⟩;repeat refine aF ?_
  obtain ⟨g1,g2⟩:=fin w1 q 5 oM hb1 hm1 (lX h2 hm1 oM) w4 hb4 hm4;exact bA rfl ⟨_,rfl,rfl,g1,g2⟩
 | cons f t =>
  have hc:=numV_le f t;repeat (first|(refine aB 257 ?_;refine aA rfl (made_c b a n c q 0 _ h1) rfl ?_;rintro _ _ ⟨rfl,rfl⟩)|refine yC ?_)
  refine aA rfl (rnum_some _ b a n c q L f t _ h1 h2 oM oM h3 h5 h6) rfl ?_;rintro _ w1 ⟨rfl,hb1,hm1⟩;have hs1:=lX h2 hm1 oM;by_cases hn0:(fW (f::t)).2.2=0
  ·rw [hn0] at hb1;have hvb:=numV_back (r:=f::t) (v:=(fW (f::t)).1) (k:=(fW (f::t)).2.1) hby (by rw [← hn0])
   have hfit:¬ (fW (f::t)).1≤((f::t).drop (fW (f::t)).2.1).length:=by
    intro hf;unfold kF at hr;rw [if_pos hn0,if_pos hf] at hr;cases hr
   rw [List.length_drop] at hfit;simp only [List.length_cons] at hfit hrr hc;clear hb2;repeat refine aF ?_
   refine aA rfl (take_no b a n c (q+(fW (f::t)).2.1) (fW (f::t)).1 _ hb1 oM oM oM hvb.2.2) rfl ?_;rintro _ w2 ⟨rfl,hb3,hm2⟩;have hb3':=hb3;unfold rdr at hb3';repeat refine aF ?_
   refine aA rfl (fail_c b a n c _ 5 q 5 _ hb3) rfl ?_;rintro _ w4 ⟨hb4,hm4⟩;repeat refine aF ?_
   obtain ⟨g1,g2⟩:=fin w2 _ 5 oM hb3 (hm1.trans hm2) (lX hs1 hm2 oM) w4 hb4 hm4;exact bA rfl ⟨_,rfl,rfl,g1,g2⟩
  ·have hb1':=hb1;unfold rdr at hb1';clear hb2;repeat refine aF ?_
   refine aA rfl (take_err b a n c _ _ _ _ hb1 hn0) rfl ?_;rintro _ _ ⟨rfl,rfl⟩;repeat refine aF ?_
   refine aA rfl (fail_c b a n c _ _ q _ _ hb1) rfl ?_;rintro _ w4 ⟨hb4,hm4⟩;repeat refine aF ?_
   obtain ⟨g1,g2⟩:=fin w1 _ _ hn0 hb1 hm1 hs1 w4 hb4 hm4;exact bA rfl ⟨_,rfl,rfl,g1,g2⟩
def RS (B b:Nat) (o:Option Bs) (w:World):Prop:=match o with
 | some r=>Rd B b r 0 w
 | none=>∃ r e,e≠0∧Rd B b r e w
def hO:Option Bs→Bs×Option Bs
 | none=>([],none)
 | some r=>match kF r with
  | some (p,r')=>(p,some r')
  | none=>([],none)
def rdW (m:Nat):Option Bs→Nat×Option Bs
 | none=>(0,none)
 | some r=>if m≤r.length then (leW r m,some (r.drop m)) else (0,none)
theorem RS.grow {B b:Nat} {o:Option Bs} {w w':World} (h:RS B b o w) (g:Grow w w'):RS B b o w':=by
 cases o with
 | some r=>exact Rd.grow h g
 | none=>obtain ⟨r,e,he,h⟩:=h;exact ⟨r,e,he,h.grow g⟩
theorem RS.lt {B b:Nat} {o:Option Bs} {w:World} (h:RS B b o w):b<w.heap.size:=by
 cases o with
 | some r=>exact Rd.lt h
 | none=>obtain ⟨r,e,he,h⟩:=h;exact h.lt
theorem rs_block {B b:Nat} {o:Option Bs} {w:World} (h:RS B b o w) :
  Calls Tryz.prog 223 #[.pointer (some ⟨b,0,none⟩)] w (Ret λ v w'=>∃ a c,v=.slice a (hO o).1.length c∧Sl (λ k=>w.heap.size≤k) w' 1 a (hO o).1.length c (bB (hO o).1)∧RS B b (hO o).2 w'∧Mut b w w'):=by
 cases o with
 | none =>
  obtain ⟨r,e,he,h⟩:=h;refine Calls.mono (rdblk_no h (.inl he)) (λ x w' hx=>Ret.mono hx λ v w' hv=>?_);obtain ⟨q1,⟨e',q2,q3⟩,q4⟩:=hv;exact ⟨none,0,q1,Sl.nil_mk _ _ _,⟨r,e',q2,q3⟩,q4⟩
 | some r =>
  cases hr:kF r with
  | none =>
   have e1:hO (some r)=([],none):=by simp [hO,hr]
   rw [e1];refine Calls.mono (rdblk_no h (.inr hr)) (λ x w' hx=>Ret.mono hx λ v w' hv=>?_);obtain ⟨q1,⟨e',q2,q3⟩,q4⟩:=hv;exact ⟨none,0,q1,Sl.nil_mk _ _ _,⟨r,e',q2,q3⟩,q4⟩
  | some x =>
   obtain ⟨p,r'⟩:=x;have e1:hO (some r)=(p,some r'):=by simp [hO,hr]
   rw [e1];exact rdblk_ok h hr
theorem rs_word {B b m:Nat} {o:Option Bs} {w:World} (h:RS B b o w) (h1:1≤m) (h8:m≤8) :
  Calls Tryz.prog 221 #[.pointer (some ⟨b,0,none⟩),.int .i64 (m:Int)] w (Ret λ v w'=>v=.int .u64 ((rdW m o).1:Int)∧RS B b (rdW m o).2 w'∧Mut b w w'):=by
 cases o with
 | none =>
  have h0:=h;obtain ⟨r,e,he,h⟩:=h;refine Calls.mono (word_err h he h1 h8) (λ x w' hx=>Ret.mono hx λ v w' hv=>?_);obtain ⟨q1,rfl⟩:=hv;exact ⟨q1,h0,iK (Grow.refl _)⟩
 | some r =>
  by_cases hm:m≤r.length
  ·simp only [rdW,if_pos hm];exact word_yes h h1 h8 hm
  ·simp only [rdW,if_neg hm];refine Calls.mono (word_no h h1 h8 oM) (λ x w' hx=>Ret.mono hx λ v w' hv=>?_);obtain ⟨q1,q2,q3⟩:=hv;exact ⟨q1,⟨r,5,oM,q2⟩,q3⟩
theorem rs_err {B b:Nat} {o:Option Bs} {w:World} (h:RS B b o w) :
  Calls Tryz.prog 222 #[.pointer (some ⟨b,0,none⟩)] w (Ret λ v w'=>(∃ e:Nat,v=.int .i64 (e:Int)∧(e=0↔o≠none))∧w=w'):=by
 cases o with
 | none =>
  obtain ⟨r,e,he,h⟩:=h;refine Calls.mono (rderr_c w h) (λ x w' hx=>Ret.mono hx λ v w' hv=>?_);exact ⟨⟨e,hv.1,by simp [he]⟩,hv.2⟩
 | some r =>
  refine Calls.mono (rderr_c w h) (λ x w' hx=>Ret.mono hx λ v w' hv=>?_);exact ⟨⟨0,hv.1,sM⟩,hv.2⟩
theorem rs_rest {B b:Nat} {o:Option Bs} {w:World} (h:RS B b o w):∃ n:Nat,n≤1099511627776 ∧
  Calls Tryz.prog 225 #[.pointer (some ⟨b,0,none⟩)] w (Ret λ v w'=>v=.int .i64 (n:Int)∧Grow w w') ∧
  ∀ w1,RS B b o w1→Grow w w1→Calls Tryz.prog 224 #[.pointer (some ⟨b,0,none⟩),.int .i64 (n:Int)] w1 (Ret λ v w'=>∃ a c,v=.slice a (o.getD []).length c∧Sl (λ k=>w1.heap.size≤k) w' 1 a (o.getD []).length c (bB (o.getD []))∧RS B b (o.map λ _=>[]) w'∧Mut b w1 w'):=by
 cases o with
 | none =>
  obtain ⟨r,e,he,h⟩:=h;refine ⟨r.length,h.len,left' h,λ w1 h1 hg=>?_⟩;refine Calls.mono (take_alle (h.grow hg) he) (λ x w' hx=>Ret.mono hx λ v w' hv=>?_);obtain ⟨q1,rfl⟩:=hv;exact ⟨none,0,q1,Sl.nil_mk _ _ _,⟨r,e,he,h.grow hg⟩,iK (Grow.refl _)⟩
 | some r =>
  refine ⟨r.length,Rd.len h,left' h,λ w1 h1 hg=>?_⟩;exact take_all h1
def lF:Nat→Option Bs→bT×Option Bs
 | 0,o=>([],o)
 | c+1,o=>(((hO o).1,(hO (hO o).2).1)::(lF c (hO (hO o).2).2).1,(lF c (hO (hO o).2).2).2)
def kM:Nat→Option Bs→List Nat×Option Bs
 | 0,o=>([],o)
 | c+1,o=>((rdW 4 o).1::(kM c (rdW 4 o).2).1,(kM c (rdW 4 o).2).2)
def lE:Nat→Option Bs→List Bs×Option Bs
 | 0,o=>([],o)
 | c+1,o=>((hO o).1::(lE c (hO o).2).1,(lE c (hO o).2).2)
theorem rdIts_none:∀ c,(lF c none).2=none
 | 0=>rfl
 | c+1=>by simp only [lF,hO];exact rdIts_none c
theorem rdKds_none:∀ c,(kM c none).2=none
 | 0=>rfl
 | c+1=>by simp only [kM,rdW];exact rdKds_none c
theorem rdKys_none:∀ c,(lE c none).2=none
 | 0=>rfl
 | c+1=>by simp only [lE,hO];exact rdKys_none c
theorem rdItems_eq:∀ (c:Nat) (r:Bs),iS c r=(lF c (some r)).2.map λ r'=>((lF c (some r)).1,r')
 | 0,r=>rfl
 | c+1,r=>by
  simp only [iS,lF]
  cases h1:kF r with
  | none=>simp [hO,h1,rdIts_none]
  | some x =>
   obtain ⟨k,r1⟩:=x;simp only [hO,h1]
   cases h2:kF r1 with
   | none=>simp [rdIts_none]
   | some y =>
    obtain ⟨v,r2⟩:=y;simp only;rw [rdItems_eq c r2];cases (lF c (some r2)).2<;>rfl
theorem rdKids_eq:∀ (c:Nat) (r:Bs),kZ c r=(kM c (some r)).2.map λ r'=>((kM c (some r)).1,r')
 | 0,r=>rfl
 | c+1,r=>by
  simp only [kZ,kM];by_cases h:4≤r.length
  ·simp only [rdWord,rdW,if_pos h,le4_eq];rw [rdKids_eq c (r.drop 4)];cases (kM c (some (r.drop 4))).2<;>rfl
  ·simp only [rdWord,rdW,if_neg h];simp [rdKds_none]
theorem rdKeys_eq:∀ (c:Nat) (r:Bs),lA c r=(lE c (some r)).2.map λ r'=>((lE c (some r)).1,r')
 | 0,r=>rfl
 | c+1,r=>by
  simp only [lA,lE]
  cases h1:kF r with
  | none=>simp [hO,h1,rdKys_none]
  | some x =>
   obtain ⟨k,r1⟩:=x;simp only [hO,h1];rw [rdKeys_eq c r1];cases (lE c (some r1)).2<;>rfl
theorem readN_eq (b:Bs):fZ b=(
  let x:=rdW 1 (some b)
  let y:=rdW 1 x.2
  if y.2=none∨8<y.1 then none
  else if x.1=0 then (lF y.1 y.2).2.bind (finN ⟨(lF y.1 y.2).1,[],[]⟩)
  else if x.1=1∧2≤y.1 then (lE (y.1-1) (kM y.1 y.2).2).2.bind (finN ⟨[],(kM y.1 y.2).1,(lE (y.1-1) (kM y.1 y.2).2).1⟩)
  else none):=by
 match b with
 | []=>simp [fZ,rdW]
 | [k]=>simp [fZ,rdW]
 | k::c::r =>
  have e1:rdW 1 (some (k::c::r))=(k,some (c::r)):=by simp [rdW,leW]
  have e2:rdW 1 (some (c::r))=(c,some r):=by simp [rdW,leW]
  simp only [e1,e2,fZ];by_cases h8:8<c
  ·simp [h8]
  ·rw [if_neg h8,if_neg (show ¬ (some r=none∨8<c) by simp [h8])];by_cases h0:k=0
   ·rw [if_pos h0,if_pos h0,rdItems_eq];cases (lF c (some r)).2<;>rfl
   ·rw [if_neg h0,if_neg h0];by_cases h2:k=1∧2≤c
    ·rw [if_pos h2,if_pos h2,rdKids_eq]
     cases hk:(kM c (some r)).2 with
     | none=>simp [rdKys_none]
     | some r1 =>
      simp only [Option.map_some];rw [rdKeys_eq];cases (lE (c-1) (some r1)).2<;>rfl
    ·rw [if_neg h2,if_neg h2]
end Go.Proofs.YtfpadnmdafiddaaGreatDoor
namespace Go.Proofs.YtfpadnmdafiddaaGreatDoor
structure PgOk (s:Pg):Prop where
 wl:s.words.length=(s.count+63) / 64
 w64:∀ x∈s.words,x<18446744073709551616
 top:∀ n,s.count≤n→(s.words.getD (n / 64) 0).testBit (n%64)=false
 cnt:s.count≤8192
structure Ext (s s':Pg):Prop where
 count:s'.count=s.count
 used:∀ k,bL s k=true→bL s' k=true∧s'.body k=s.body k
theorem Ext.refl (s:Pg):Ext s s:=⟨rfl,λ _ h=>⟨h,rfl⟩⟩
theorem Ext.trans {a b c:Pg} (h:Ext a b) (k:Ext b c):Ext a c :=
 ⟨k.count.trans h.count,λ n hn=>⟨(k.used n (h.used n hn).1).1,((k.used n (h.used n hn).1).2).trans (h.used n hn).2⟩⟩
theorem Ext.node {s s':Pg} (h:Ext s s') {n:Nat} {nd:Nd} (hn:cB s n=some nd):cB s' n=some nd:=by
 unfold cB at *;split at hn
 ·rename_i hu;rw [if_pos (h.used n hu).1,(h.used n hu).2];exact hn
 ·cases hn
theorem dX {α : Type} (p : α→Bool):∀ l:List α,(l.takeWhile p).length≤l.length
 | []=>Nat.le_refl _
 | a::l=>by
  rw [List.takeWhile_cons];split
  ·exact Nat.succ_le_succ (dX p l)
  ·simp
theorem jN {α : Type} (p : α→Bool):∀ (l:List α) (x : α),l[(l.takeWhile p).length]? = some x→p x=false
 | [],x,h=>by simp at h
 | a::l,x,h=>by
  rw [List.takeWhile_cons] at h;split at h
  ·simp only [List.length_cons,List.getElem?_cons_succ] at h;exact jN p l x h
  ·rename_i ha;simp at h;subst h;simpa using ha
theorem gC {α : Type} (p : α→Bool):∀ (l:List α) (i:Nat) (x : α),i<(l.takeWhile p).length→l[i]? = some x→p x=true
 | [],i,x,h,_=>by simp at h
 | a::l,i,x,h,hx=>by
  rw [List.takeWhile_cons] at h;split at h
  ·rename_i ha
   cases i with
   | zero=>simp at hx;subst hx;exact ha
   | succ i=>exact gC p l i x (by simpa using h) (by simpa using hx)
  ·simp at h
theorem lowP_le (s:Pg):lowP s≤s.count:=by
 have:=dX (λ n=>bL s n) (List.range s.count);simpa [lowP] using this
theorem lowP_free {s:Pg} (h:lowP s≠s.count):lowP s<s.count∧bL s (lowP s)=false:=by
 have hl:=lowP_le s;have hlt:lowP s<s.count:=by omega
 refine ⟨hlt,jN (λ n=>bL s n) (List.range s.count) (lowP s) ?_⟩;rw [show ((List.range s.count).takeWhile λ n=>bL s n).length=lowP s from rfl];simp [hlt]
theorem lowP_used {s:Pg} {k:Nat} (h:k<lowP s):bL s k=true:=by
 have hl:=lowP_le s;exact gC (λ n=>bL s n) (List.range s.count) k k h (List.getElem?_range oM)
theorem cnt_add (p:Nat→Bool) (n:Nat) (hp:p n=false):∀ N,((List.range N).filter λ k=>k==n || p k).length=((List.range N).filter p).length+if n<N then 1 else 0
 | 0=>rfl
 | N+1=>by
  have ih:=cnt_add p n hp N;simp only [List.range_succ,List.filter_append,List.length_append,ih];by_cases h1:N=n
  ·subst h1;simp [hp]
  ·have h2:(N==n)=false:=by simpa using h1
   by_cases h3:n<N
   ·rw [if_pos h3,if_pos oM];cases hN:p N<;>simp [List.filter,h2,hN]
   ·rw [if_neg h3,if_neg oM];cases hN:p N<;>simp [List.filter,h2,hN]
theorem nF (s:Pg):fQ s≤s.count:=by
 have:=List.length_filter_le (λ n=>bL s n) (List.range s.count);simpa [fQ] using this
theorem totalP_full {s:Pg} (h:lowP s=s.count):fQ s=s.count:=by
 unfold fQ;rw [List.filter_eq_self.2 (λ k hk=>lowP_used (s:=s) (by rw [h];exact List.mem_range.1 hk))];simp
theorem testBit_or_pow (x i j:Nat):(x|||2^i).testBit j=(x.testBit j || decide (i=j)):=by
 rw [Nat.testBit_or,Nat.testBit_two_pow]
theorem divmod64 {a b:Nat}:(a / 64=b / 64∧a%64=b%64)↔a=b:=by omega
theorem markW_bit (l:List Nat) (n k:Nat) (hn:n / 64<l.length):((gY l n).getD (k / 64) 0).testBit (k%64)=(decide (k=n) || (l.getD (k / 64) 0).testBit (k%64)):=by
 unfold gY;rw [List.getD_eq_getElem?_getD,List.getElem?_set];by_cases h:n / 64=k / 64
 ·rw [if_pos h,if_pos hn];simp only [Option.getD_some];rw [testBit_or_pow,← h];by_cases h2:n%64=k%64
  ·have:k=n:=divmod64.1 ⟨h.symm,h2.symm⟩;simp [this]
  ·have:k≠n:=λ e=>h2 (by rw [e]);simp [h2,this]
 ·rw [if_neg h,← List.getD_eq_getElem?_getD];have:k≠n:=λ e=>h (by rw [e]);simp [this]
theorem used_div {s:Pg} (hs:PgOk s) {n:Nat} (hn:n<s.count):n / 64<s.words.length:=by rw [hs.wl];omega
structure New (s s':Pg) (n:Nat) (b:Bs):Prop where
 free:bL s n=false
 lt:n<s.count
 count:s'.count=s.count
 used:∀ k,bL s' k=(decide (k=n) || bL s k)
 body:s'.body n=padB b
 other:∀ k,k≠n→s'.body k=s.body k
 ok:PgOk s'
 spare:cR s'+1=cR s
theorem New.ext {s s':Pg} {n:Nat} {b:Bs} (h:New s s' n b):Ext s s' :=
 ⟨h.count,λ k hk=>⟨by rw [h.used,hk];simp,h.other k λ e=>by rw [e,h.free] at hk;cases hk⟩⟩
theorem newP_new {s s':Pg} {n:Nat} {b:Bs} (hs:PgOk s) (h:newP s b=some (n,s')):New s s' n b:=by
 unfold newP at h;simp only at h;split at h
 ·cases h
 ·rename_i hne;simp only [Option.some.injEq,Prod.mk.injEq] at h;obtain ⟨hn,rfl⟩:=h;obtain ⟨h1,h2⟩:=lowP_free hne;rw [hn] at h1 h2;have hd:=used_div hs h1
  have hu:∀ k,bL { s with words:=gY s.words n,body:=λ k=>if k=n then padB b else s.body k } k=(decide (k=n) || bL s k):=by
   intro k;unfold bL;simp only;rw [markW_bit _ _ _ hd];by_cases hk:k=n
   ·subst hk;simp [h1]
   ·simp [hk]
  rw [hn];refine ⟨h2,h1,rfl,hu,sM,λ k hk=>by simp [hk],⟨?_,?_,?_,hs.cnt⟩,?_⟩
  ·simp [gY,hs.wl]
  ·intro x hx;unfold gY at hx;rcases List.mem_or_eq_of_mem_set hx with hx|rfl
   ·exact hs.w64 x hx
   ·have h5:s.words.getD (n / 64) 0<2^64:=by
     rw [List.getD_eq_getElem?_getD,List.getElem?_eq_getElem hd];exact hs.w64 _ (List.getElem_mem hd)
    have h6:2^(n%64)<2^64:=Nat.pow_lt_pow_right dM (Nat.mod_lt _ dM);exact Nat.or_lt_two_pow h5 h6
  ·intro k hk;simp only at hk ⊢;rw [markW_bit _ _ _ hd,hs.top k hk];have:k≠n:=by omega
   simp [this]
  ·have ht:fQ { s with words:=gY s.words n,body:=λ k=>if k=n then padB b else s.body k }=fQ s+1:=by
    unfold fQ;simp only;have:=cnt_add (λ k=>bL s k) n h2 s.count;rw [if_pos h1] at this;rw [← this];congr 1
    apply List.filter_congr;intro k _;rw [hu k];by_cases hk:k=n<;>simp [hk]
   have h7:fQ s+1≤s.count:=by
    rw [← ht];exact nF _
   unfold cR;rw [ht];simp only;omega
theorem newP_some {s:Pg} (b:Bs) (h:0<cR s):∃ n s',newP s b=some (n,s'):=by
 unfold newP;simp only;split
 ·rename_i hc;have:=totalP_full hc;unfold cR at h;omega
 ·exact ⟨_,_,rfl⟩
theorem length_word4s:∀ l:List Nat,(l.flatMap bP).length=4*l.length
 | []=>rfl
 | x::l=>by simp [List.flatMap_cons,length_word4s l,bP];omega
theorem jF (p:Bs) (h:p.length≤100):(bS p).length=p.length+1:=by
 unfold bS;rw [List.length_append,length_encL]
 have:sz p.length=1:=by
  unfold sz;have:bl p.length≤7:=bl_le (k:=7) (by show p.length<128;omega);omega
 omega
theorem length_bytesN {n:Nd} (h:bF n=true):(dC n).length≤500:=by
 have e1:∀ (l:bT),(∀ x∈l,x.1.length≤16∧x.2.length≤32)→(l.flatMap λ x=>bS x.1++bS x.2).length≤50*l.length:=by
  intro l
  induction l with
  | nil=>intro _;simp
  | cons x l ih =>
   intro hl;have h1:=ih λ y hy=>hl y (List.mem_cons_of_mem _ hy);have h2:=hl x sM;have h3:=jF x.1 oM;have h4:=jF x.2 oM;simp only [List.flatMap_cons,List.length_append,List.length_cons];omega
 have e2:∀ (l:List Bs),(∀ x∈l,x.length≤16)→(l.flatMap bS).length≤17*l.length:=by
  intro l
  induction l with
  | nil=>intro _;simp
  | cons x l ih =>
   intro hl;have h1:=ih λ y hy=>hl y (List.mem_cons_of_mem _ hy);have h2:=hl x sM;have h3:=jF x oM;simp only [List.flatMap_cons,List.length_append,List.length_cons];omega
 unfold bF at h;unfold dC;split at h
 ·rename_i hl;obtain ⟨h1,h2,h3⟩:=dG h;rw [if_pos hl];have:=e1 n.items λ x hx=>⟨(eM (mQ h3 hx).1).2,iD (mQ h3 hx).2⟩
  simp only [List.length_append,List.length_cons,List.length_nil];omega
 ·rename_i hl;obtain ⟨h1,h2,h3,h4,h5,h6⟩:=cO h;rw [if_neg hl];have:=e2 n.keys λ x hx=>(eM (key_ok' h6 hx)).2;have:=length_word4s n.kids;simp only [List.length_append,List.length_cons,List.length_nil];omega
structure Wrote (s s':Pg) (n:Nat) (nd:Nd):Prop where
 ext:Ext s s'
 free:bL s n=false
 used:∀ k,bL s' k=(decide (k=n) || bL s k)
 lt:n<s.count
 node:cB s' n=some nd
 ok:PgOk s'
 spare:cR s'+1=cR s
theorem writeP_wrote {s s':Pg} {n:Nat} {nd:Nd} (hs:PgOk s) (h:gV s nd=some (n,s')):Wrote s s' n nd∧bF nd=true:=by
 unfold gV at h;split at h
 ·rename_i hk;have hn:=newP_new hs h;refine ⟨⟨hn.ext,hn.free,hn.used,hn.lt,?_,hn.ok,hn.spare⟩,hk⟩;unfold cB;rw [if_pos (by rw [hn.used];simp),hn.body];exact readN_bytes hk _
 ·cases h
theorem hQ {s:Pg} {nd:Nd} (hs:PgOk s) (h:0<cR s) (hk:bF nd=true):∃ n s',gV s nd=some (n,s')∧Wrote s s' n nd:=by
 obtain ⟨n,s',e⟩:=newP_some (dC nd) h;have e2:gV s nd=some (n,s'):=by unfold gV;rw [if_pos hk];exact e
 exact ⟨n,s',e2,(writeP_wrote hs e2).1⟩
structure Sb where
 page:Nat
 its:bT
 ps:List Nat
inductive Tok where
 | T (x:Sb)
 | K (k:Bs)
def RT:Tok→Tok→Prop
 | .T x,.T y=>∀ a∈x.its,∀ b∈y.its,eO a.1 b.1
 | .T x,.K k=>∀ a∈x.its,eO a.1 k
 | .K k,.T y=>∀ b∈y.its,kle k b.1
 | .K k,.K l=>eO k l
def tb:Tok→Bs→Prop
 | .T x,a=>∀ y∈x.its,eO y.1 a
 | .K k,a=>kle k a
def ta:Bs→Tok→Prop
 | a,.T x=>∀ y∈x.its,eO a y.1
 | a,.K k=>eO a k
theorem RT_K {t u:Tok} {k:Bs} (h:RT t (.K k)) (g:RT (.K k) u):RT t u:=by
 cases t<;>cases u<;>simp only [RT] at *
 ·exact λ a ha b hb=>nP (h a ha) (g b hb)
 ·exact λ a ha=>dK (h a ha) g
 ·exact λ b hb=>nQ (nP h (g b hb))
 ·exact dK h g
theorem RT_T {t:Tok} {x:Sb}:RT t (.T x)↔∀ a∈x.its,tb t a.1:=by
 cases t<;>simp only [RT,tb]
 exact ⟨λ h b hb a ha=>h a ha b hb,λ h a ha b hb=>h b hb a ha⟩
theorem T_RT {u:Tok} {x:Sb}:RT (.T x) u↔∀ a∈x.its,ta a.1 u:=by
 cases u<;>simp only [RT,ta]
theorem tb_K {t:Tok} {a k:Bs} (h:tb t a) (g:eO a k):RT t (.K k):=by
 cases t<;>simp only [RT,tb] at *
 ·exact λ y hy=>dK (h y hy) g
 ·exact klt_of_le h g
theorem K_ta {u:Tok} {a k:Bs} (h:ta a u) (g:kle k a):RT (.K k) u:=by
 cases u<;>simp only [RT,ta] at *
 ·exact λ y hy=>nQ (klt_of_le g (h y hy))
 ·exact klt_of_le g h
theorem tb_of_K {t:Tok} {k a:Bs} (h:RT t (.K k)) (g:kle k a):tb t a:=by
 cases t<;>simp only [RT,tb] at *
 ·exact λ y hy=>nP (h y hy) g
 ·exact nQ (nP h g)
theorem ta_of_K {u:Tok} {k a:Bs} (h:RT (.K k) u) (g:eO a k):ta a u:=by
 cases u<;>simp only [RT,ta] at *
 ·exact λ y hy=>nP g (h y hy)
 ·exact dK g h
def KT:List Bs→List Sb→List Tok
 | k::ks,x::r=>.K k::.T x::KT ks r
 | _,_=>[]
def toks:List Sb→List Bs→List Tok
 | x::r,ks=>.T x::KT ks r
 | [],_=>[]
def TK:List Sb→List Bs→List Tok
 | x::r,k::ks=>.T x::.K k::TK r ks
 | _,_=>[]
theorem toks_left:∀ {la:List Sb} {ka:List Bs} {ls:List Sb} {ks:List Bs},la.length=ka.length→ls≠[]→toks (la++ls) (ka++ks)=TK la ka++toks ls ks
 | [],[],ls,ks,_,_=>rfl
 | [],_::_,_,_,h,_=>by cases h
 | _::_,[],_,_,h,_=>by cases h
 | y::la,k::ka,ls,ks,h,hn=>by
  have ih:=toks_left (la:=la) (ka:=ka) (ls:=ls) (ks:=ks) (by simpa using h) hn
  cases hz:la++ls with
  | nil=>simp at hz;exact absurd hz.2 hn
  | cons z zs =>
   rw [hz] at ih;have e:toks ((y::la)++ls) ((k::ka)++ks)=Tok.T y::Tok.K k::toks (z::zs) (ka++ks):=by simp only [List.cons_append,toks,hz,KT]
   rw [e,ih];rfl
theorem KT_right:∀ {ur:List Sb} {uk:List Bs} {lb:List Sb} {kb:List Bs},ur.length=uk.length→KT (uk++kb) (ur++lb)=KT uk ur++KT kb lb
 | [],[],lb,kb,_=>rfl
 | [],_::_,_,_,h=>by cases h
 | _::_,[],_,_,h=>by cases h
 | y::la,k::ka,ls,ks,h=>by
  simp only [List.cons_append,KT];rw [KT_right (by simpa using h)]
theorem toks_right {us:List Sb} {uk:List Bs} {lb:List Sb} {kb:List Bs} (h:us.length=uk.length+1):toks (us++lb) (uk++kb)=toks us uk++KT kb lb:=by
 cases us with
 | nil=>cases h
 | cons x r =>
  simp only [List.cons_append,toks];rw [KT_right (by simpa using h)]
theorem toks_mid {la us lb:List Sb} {ka uk kb:List Bs} (h1:la.length=ka.length) (h2:us.length=uk.length+1):toks (la++us++lb) (ka++uk++kb)=TK la ka++toks us uk++KT kb lb:=by
 have hn:us++lb≠[]:=by
  cases us with
  | nil=>cases h2
  | cons _ _=>simp
 rw [List.append_assoc,List.append_assoc,toks_left h1 hn,toks_right h2,List.append_assoc]
theorem toks_join {la lb:List Sb} {ka kb:List Bs} {k:Bs} (h1:la.length=ka.length+1) (h2:lb≠[]):toks (la++lb) (ka++k::kb)=toks la ka++.K k::toks lb kb:=by
 rw [toks_right h1]
 cases lb with
 | nil=>exact absurd rfl h2
 | cons x r=>rfl
theorem mem_toks {t:Tok}:∀ {ls:List Sb} {ks:List Bs},t∈toks ls ks→(∃ x∈ls,t=.T x)∨∃ k∈ks,t=.K k:=by
 have key:∀ {ks:List Bs} {ls:List Sb},t∈KT ks ls→(∃ x∈ls,t=.T x)∨∃ k∈ks,t=.K k:=by
  intro ks
  induction ks with
  | nil=>intro ls h;simp [KT] at h
  | cons k ks ih =>
   intro ls h
   cases ls with
   | nil=>simp [KT] at h
   | cons x r =>
    simp only [KT,List.mem_cons] at h;rcases h with rfl|rfl|h
    ·exact .inr ⟨k,sM,rfl⟩
    ·exact .inl ⟨x,sM,rfl⟩
    ·rcases ih h with ⟨y,hy,e⟩|⟨y,hy,e⟩
     ·exact .inl ⟨y,List.mem_cons_of_mem _ hy,e⟩
     ·exact .inr ⟨y,List.mem_cons_of_mem _ hy,e⟩
 intro ls ks h
 cases ls with
 | nil=>simp [toks] at h
 | cons x r =>
  simp only [toks,List.mem_cons] at h;rcases h with rfl|h
  ·exact .inl ⟨x,sM,rfl⟩
  ·rcases key h with ⟨y,hy,e⟩|⟨y,hy,e⟩
   ·exact .inl ⟨y,List.mem_cons_of_mem _ hy,e⟩
   ·exact .inr ⟨y,hy,e⟩
theorem nW {x:Sb}:∀ {ks:List Bs} {ls:List Sb},ls.length=ks.length→x∈ls→Tok.T x∈KT ks ls
 | [],[],_,hx=>by cases hx
 | [],_::_,h,_=>by cases h
 | _::_,[],h,_=>by cases h
 | k::ks,y::r,h,hx=>by
  simp only [KT,List.mem_cons];rcases List.mem_cons.1 hx with rfl|hx
  ·exact .inr (.inl rfl)
  ·exact .inr (.inr (nW (by simpa using h) hx))
theorem T_mem {x:Sb}:∀ {ls:List Sb} {ks:List Bs},ls.length=ks.length+1→x∈ls→Tok.T x∈toks ls ks
 | [],_,_,hx=>by cases hx
 | y::r,ks,h,hx=>by
  simp only [toks,List.mem_cons];rcases List.mem_cons.1 hx with rfl|hx
  ·exact .inl rfl
  ·exact .inr (nW (by simpa using h) hx)
theorem K_mem {k:Bs}:∀ {ls:List Sb} {ks:List Bs},ls.length=ks.length+1→k∈ks→Tok.K k∈toks ls ks:=by
 have key:∀ {ks:List Bs} {ls:List Sb},ls.length=ks.length→k∈ks→Tok.K k∈KT ks ls:=by
  intro ks
  induction ks with
  | nil=>intro ls h hx;cases hx
  | cons k' ks ih =>
   intro ls h hx
   cases ls with
   | nil=>cases h
   | cons y r =>
    simp only [KT,List.mem_cons];rcases List.mem_cons.1 hx with rfl|hx
    ·exact .inl rfl
    ·exact .inr (.inr (ih (by simpa using h) hx))
 intro ls ks h hx
 cases ls with
 | nil=>cases h
 | cons y r =>
  simp only [toks,List.mem_cons];exact .inr (key (by simpa using h) hx)
theorem key_between {ls:List Sb} {ks:List Bs} (hl:ls.length=ks.length+1) (hp:(toks ls ks).Pairwise RT) (hn:∀ x∈ls,x.its≠[]) {k:Bs} (hk:k∈ks) :
  (∃ a∈ls.flatMap (·.its),eO a.1 k)∧∃ b∈ls.flatMap (·.its),kle k b.1:=by
 obtain ⟨ka,kb,rfl⟩:=List.append_of_mem hk;have hl2:ls.length=ka.length+1+kb.length+1:=by simp at hl;omega
 obtain ⟨la,lb,rfl,hla⟩:∃ la lb,ls=la++lb∧la.length=ka.length+1:=⟨ls.take (ka.length+1),ls.drop (ka.length+1),(List.take_append_drop _ _).symm,by simp;omega⟩
 have hlb:lb.length=kb.length+1:=by simp at hl2;omega
 have hb0:lb≠[]:=by intro e;subst e;cases hlb
 rw [toks_join hla hb0] at hp;obtain ⟨p1,p2,p3⟩:=List.pairwise_append.1 hp;obtain ⟨p4,p5⟩:=List.pairwise_cons.1 p2;have ha0:la≠[]:=by intro e;subst e;cases hla
 obtain ⟨x,hx⟩:=List.exists_mem_of_ne_nil _ ha0;obtain ⟨y,hy⟩:=List.exists_mem_of_ne_nil _ hb0;obtain ⟨a,ha⟩:=List.exists_mem_of_ne_nil _ (hn x (by simp [hx]));obtain ⟨b,hb⟩:=List.exists_mem_of_ne_nil _ (hn y (by simp [hy]));have r1:=p3 (.T x) (T_mem hla hx) (.K k) sM;have r2:=p4 (.T y) (T_mem hlb hy);refine ⟨⟨a,List.mem_flatMap.2 ⟨x,by simp [hx],ha⟩,r1 a ha⟩,⟨b,List.mem_flatMap.2 ⟨y,by simp [hy],hb⟩,r2 b hb⟩⟩
theorem before_all {t:Tok} {ls:List Sb} {ks:List Bs} (hl:ls.length=ks.length+1) (hp:(toks ls ks).Pairwise RT) (hn:∀ x∈ls,x.its≠[]) (h:∀ a∈ls.flatMap (·.its),tb t a.1):∀ u∈toks ls ks,RT t u:=by
 intro u hu;rcases mem_toks hu with ⟨x,hx,rfl⟩|⟨k,hk,rfl⟩
 ·exact RT_T.2 λ a ha=>h a (List.mem_flatMap.2 ⟨x,hx,ha⟩)
 ·obtain ⟨⟨a,ha,h1⟩,_⟩:=key_between hl hp hn hk;exact tb_K (h a ha) h1
theorem after_all {t:Tok} {ls:List Sb} {ks:List Bs} (hl:ls.length=ks.length+1) (hp:(toks ls ks).Pairwise RT) (hn:∀ x∈ls,x.its≠[]) (h:∀ a∈ls.flatMap (·.its),ta a.1 t):∀ u∈toks ls ks,RT u t:=by
 intro u hu;rcases mem_toks hu with ⟨x,hx,rfl⟩|⟨k,hk,rfl⟩
 ·exact T_RT.2 λ a ha=>h a (List.mem_flatMap.2 ⟨x,hx,ha⟩)
 ·obtain ⟨_,b,hb,h1⟩:=key_between hl hp hn hk;exact K_ta (h b hb) h1
theorem splice_ok {la us lb:List Sb} {ka uk kb:List Bs} {old:List Tok} (hp:(TK la ka++old++KT kb lb).Pairwise RT) (h2:us.length=uk.length+1) (hu:(toks us uk).Pairwise RT) (hn:∀ x∈us,x.its≠[])
  (hb:∀ t∈TK la ka,∀ a∈us.flatMap (·.its),tb t a.1) (ha:∀ t∈KT kb lb,∀ a∈us.flatMap (·.its),ta a.1 t):(TK la ka++toks us uk++KT kb lb).Pairwise RT:=by
 obtain ⟨p1,p2,p3⟩:=List.pairwise_append.1 hp;obtain ⟨p4,p5,p6⟩:=List.pairwise_append.1 p1;refine List.pairwise_append.2 ⟨List.pairwise_append.2 ⟨p4,hu,λ t ht u hu'=>before_all h2 hu hn (hb t ht) u hu'⟩,p2,λ u hu' t ht=>?_⟩;rcases List.mem_append.1 hu' with h|h
 ·exact p3 u (List.mem_append_left _ h) t ht
 ·exact after_all h2 hu hn (ha t ht) u h
def Vt (s:Pg):Nat→Nd→bT→List Nat→Prop
 | 0,nd,l,ps=>nd=⟨l,[],[]⟩∧ps=[]∧Srt l∧∀ x∈l,eF x.1=true∧fC x.2=true
 | h+1,nd,l,ps=>∃ ls:List Sb,nd.items=[]∧nd.kids=ls.map (·.page)∧ls.length=nd.keys.length+1∧(toks ls nd.keys).Pairwise RT∧(∀ k∈nd.keys,eF k=true) ∧
  l=ls.flatMap (·.its)∧ps=ls.flatMap (λ x=>x.page::x.ps)∧∀ x∈ls,∃ nd',cB s x.page=some nd'∧4≤aR nd'∧Vt s h nd' x.its x.ps
theorem Vt.ext {s s':Pg} (hx:Ext s s'):∀ {h:Nat} {nd:Nd} {l:bT} {ps:List Nat},Vt s h nd l ps→Vt s' h nd l ps
 | 0,_,_,_,h=>h
 | h+1,nd,l,ps,⟨ls,h1,h2,h3,h4,h5,h6,h7,h8⟩=>⟨ls,h1,h2,h3,h4,h5,h6,h7,λ x hx2=>by
  obtain ⟨nd',g1,g2,g3⟩:=h8 x hx2
  exact ⟨nd',hx.node g1,g2,g3.ext hx⟩⟩
theorem Vt.items {s:Pg}:∀ {h:Nat} {nd:Nd} {l:bT} {ps:List Nat},Vt s h nd l ps→∀ x∈l,eF x.1=true∧fC x.2=true
 | 0,_,_,_,h=>h.2.2.2
 | h+1,nd,l,ps,⟨ls,h1,h2,h3,h4,h5,h6,h7,h8⟩=>by
  subst h6;intro x hx;obtain ⟨y,hy,hxy⟩:=List.mem_flatMap.1 hx;obtain ⟨nd',g1,g2,g3⟩:=h8 y hy;exact g3.items x hxy
theorem Vt.ne {s:Pg}:∀ {h:Nat} {nd:Nd} {l:bT} {ps:List Nat},Vt s h nd l ps→1≤aR nd→l≠[]
 | 0,_,_,_,h,hs=>by
  obtain ⟨rfl,rfl,_⟩:=h;intro e;subst e;simp [aR] at hs
 | h+1,nd,l,ps,⟨ls,h1,h2,h3,h4,h5,h6,h7,h8⟩,hs=>by
  subst h6
  cases ls with
  | nil=>cases h3
  | cons x r =>
   obtain ⟨nd',g1,g2,g3⟩:=h8 x sM;have:=g3.ne oM;intro e;simp only [List.flatMap_cons,List.append_eq_nil_iff] at e;exact this e.1
theorem Vt.same {s:Pg}:∀ {h:Nat} {nd:Nd} {l l':bT} {ps ps':List Nat},Vt s h nd l ps→Vt s h nd l' ps'→l=l'∧ps=ps'
 | 0,_,_,_,_,_,h,k=>by
  obtain ⟨e1,e2,_⟩:=h;obtain ⟨e3,e4,_⟩:=k;rw [e1] at e3;simp only [Nd.mk.injEq,and_true] at e3;exact ⟨e3,e2.trans e4.symm⟩
 | h+1,nd,l,l',ps,ps',⟨ls,h1,h2,h3,h4,h5,h6,h7,h8⟩,⟨ls',k1,k2,k3,k4,k5,k6,k7,k8⟩=>by
  have e:ls=ls':=by
   rw [h2] at k2;clear h1 h2 h3 h4 h5 h6 h7 k1 k3 k4 k5 k6 k7
   induction ls generalizing ls' with
   | nil=>cases ls' with
    | nil=>rfl
    | cons _ _=>simp at k2
   | cons x r ih=>cases ls' with
    | nil=>simp at k2
    | cons y r' =>
     simp only [List.map_cons,List.cons.injEq] at k2;obtain ⟨nd1,g1,g2,g3⟩:=h8 x sM;obtain ⟨nd2,g4,g5,g6⟩:=k8 y sM;rw [← k2.1,g1] at g4;cases g4;obtain ⟨e1,e2⟩:=g3.same g6
     have exy:x=y:=by
      cases x;cases y
      simp only at k2 e1 e2 ⊢;rw [k2.1,e1,e2]
     rw [exy,ih (λ z hz=>h8 z (List.mem_cons_of_mem _ hz)) r' k2.2 (λ z hz=>k8 z (List.mem_cons_of_mem _ hz))]
  subst e;exact ⟨h6.trans k6.symm,h7.trans k7.symm⟩
theorem srt_KT:∀ {ks:List Bs} {ls:List Sb},ls.length=ks.length→(KT ks ls).Pairwise RT→(∀ x∈ls,Srt x.its)→Srt (ls.flatMap (·.its))
 | [],[],_,_,_=>List.Pairwise.nil
 | [],_::_,h,_,_=>by cases h
 | _::_,[],h,_,_=>by cases h
 | k::ks,x::r,h,hp,hs=>by
  simp only [KT] at hp;obtain ⟨h3,h4⟩:=List.pairwise_cons.1 (List.pairwise_cons.1 hp).2;have hr:r.length=ks.length:=by simpa using h
  simp only [List.flatMap_cons];refine List.pairwise_append.2 ⟨hs x sM,srt_KT hr h4 (λ y hy=>hs y (List.mem_cons_of_mem _ hy)),λ a ha b hb=>?_⟩;obtain ⟨y,hy,hby⟩:=List.mem_flatMap.1 hb;exact h3 _ (nW hr hy) a ha b hby
theorem srt_flat {ls:List Sb} {ks:List Bs} (hl:ls.length=ks.length+1) (hp:(toks ls ks).Pairwise RT) (hs:∀ x∈ls,Srt x.its):Srt (ls.flatMap (·.its)):=by
 cases ls with
 | nil=>exact List.Pairwise.nil
 | cons x r =>
  simp only [toks] at hp;obtain ⟨h3,h4⟩:=List.pairwise_cons.1 hp;have hr:r.length=ks.length:=by simpa using hl
  simp only [List.flatMap_cons];refine List.pairwise_append.2 ⟨hs x sM,srt_KT hr h4 (λ y hy=>hs y (List.mem_cons_of_mem _ hy)),λ a ha b hb=>?_⟩;obtain ⟨y,hy,hby⟩:=List.mem_flatMap.1 hb;exact h3 _ (nW hr hy) a ha b hby
theorem Vt.srt {s:Pg}:∀ {h:Nat} {nd:Nd} {l:bT} {ps:List Nat},Vt s h nd l ps→Srt l
 | 0,_,_,_,h=>h.2.2.1
 | h+1,nd,l,ps,⟨ls,h1,h2,h3,h4,h5,h6,h7,h8⟩=>by
  subst h6;refine srt_flat h3 h4 λ x hx=>?_;obtain ⟨nd',g1,g2,g3⟩:=h8 x hx;exact g3.srt
theorem fG {s:Pg} {n:Nat} {nd:Nd} (h:cB s n=some nd):bF nd=true:=by
 unfold cB at h;split at h
 ·exact readN_ok h
 ·cases h
theorem dN {s:Pg} {n:Nat} {nd:Nd} (h:cB s n=some nd):bL s n=true:=by
 unfold cB at h;split at h
 ·assumption
 ·cases h
theorem dW {s:Pg} {n:Nat} (h:bL s n=true):n<s.count:=by
 simp only [bL,Bool.and_eq_true,decide_eq_true_eq] at h;exact h.1
theorem leaf_ok {l:bT} (hs:Srt l) (hk:∀ x∈l,eF x.1=true∧fC x.2=true) (h8:l.length≤8):bF ⟨l,[],[]⟩=true:=by
 unfold bF;rw [if_pos (by rfl)];simp only [wholeL,Bool.and_eq_true,decide_eq_true_eq,List.isEmpty_nil,true_and];refine ⟨h8,nV λ i hi=>?_⟩;have h1:=hk _ (List.getElem_mem hi)
 cases i with
 | zero=>simp only [gM,List.getElem?_eq_getElem hi,h1.1,h1.2,Bool.and_self]
 | succ j =>
  have hj:j<l.length:=by omega
  have h2:=(List.pairwise_iff_getElem.1 hs) j (j+1) hj hi oM;simp only [gM,List.getElem?_eq_getElem hi,List.getElem?_eq_getElem hj,h1.1,h1.2,Bool.and_self,Bool.true_and,decide_eq_true_eq];exact h2
theorem keys_at {l:List Bs} (hs:l.Pairwise eO) (hk:∀ x∈l,eF x=true):gF (jI l) l.length=true:=by
 refine nV λ i hi=>?_;have h1:=hk _ (List.getElem_mem hi)
 cases i with
 | zero=>simp only [jI,List.getElem?_eq_getElem hi,h1,Bool.and_self]
 | succ j =>
  have hj:j<l.length:=by omega
  have h2:=(List.pairwise_iff_getElem.1 hs) j (j+1) hj hi oM;simp only [jI,List.getElem?_eq_getElem hi,List.getElem?_eq_getElem hj,h1,Bool.true_and,decide_eq_true_eq];exact h2
theorem kids_at {l:List Nat} (hn:l.Nodup) (hk:∀ x∈l,x<2147483648):gF (kG l) l.length=true:=by
 refine nV λ i hi=>?_;have h1:=hk _ (List.getElem_mem hi);simp only [kG,List.getElem?_eq_getElem hi,Bool.and_eq_true,decide_eq_true_eq,Bool.not_eq_true',h1,true_and];rw [← Bool.not_eq_true,List.contains_iff_mem];intro hm;obtain ⟨j,hj,e⟩:=List.mem_take_iff_getElem.1 hm;have:=(List.pairwise_iff_getElem.1 hn) j i oM hi oM;exact this e
theorem KT_keys:∀ {ks:List Bs} {ls:List Sb},ls.length=ks.length→(KT ks ls).Pairwise RT→ks.Pairwise eO
 | [],_,_,_=>List.Pairwise.nil
 | k::ks,[],h,_=>by cases h
 | k::ks,x::r,h,hp=>by
  simp only [KT] at hp;obtain ⟨h1,h2⟩:=List.pairwise_cons.1 hp;have hr:r.length=ks.length:=by simpa using h
  refine List.pairwise_cons.2 ⟨λ l hl=>?_,KT_keys hr (List.pairwise_cons.1 h2).2⟩
  have:Tok.K l∈KT ks r:=by
   have:=K_mem (ls:=x::r) (ks:=ks) (by simpa using h) hl;simp only [toks,List.mem_cons] at this;rcases this with e|e
   ·cases e
   ·exact e
  exact h1 (.K l) (by simp [this])
theorem toks_keys {ls:List Sb} {ks:List Bs} (h:ls.length=ks.length+1) (hp:(toks ls ks).Pairwise RT):ks.Pairwise eO:=by
 cases ls with
 | nil=>cases h
 | cons x r =>
  simp only [toks] at hp;exact KT_keys (by simpa using h) (List.pairwise_cons.1 hp).2
theorem pages_nodup {s:Pg} {h:Nat}:∀ {ks:List Bs} {ls:List Sb},ls.length=ks.length+1→(toks ls ks).Pairwise RT→(∀ x∈ls,∃ nd',cB s x.page=some nd'∧4≤aR nd'∧Vt s h nd' x.its x.ps)→(ls.map (·.page)).Nodup:=by
 intro ks ls hl hp hv;refine List.pairwise_map.2 ?_
 have key:∀ {ls:List Sb} {ks:List Bs},ls.length=ks.length+1→(toks ls ks).Pairwise RT→ls.Pairwise λ x y=>RT (.T x) (.T y):=by
  intro ls
  induction ls with
  | nil=>intro ks _ _;exact List.Pairwise.nil
  | cons x r ih =>
   intro ks hl hp;simp only [toks] at hp;obtain ⟨h1,h2⟩:=List.pairwise_cons.1 hp;have hr:r.length=ks.length:=by simpa using hl
   refine List.pairwise_cons.2 ⟨λ y hy=>h1 _ (nW hr hy),?_⟩
   cases r with
   | nil=>exact List.Pairwise.nil
   | cons z zs=>cases ks with
    | nil=>cases hr
    | cons k ks =>
     simp only [KT] at h2;exact ih (ks:=ks) (by simpa using hr) (List.pairwise_cons.1 h2).2
 have h1:=key hl hp;refine List.Pairwise.imp_of_mem (λ {x y} hx hy hxy e=>?_) h1;obtain ⟨n1,g1,g2,g3⟩:=hv x hx;obtain ⟨n2,g4,g5,g6⟩:=hv y hy;rw [← e,g1] at g4;cases g4;have es:=(g3.same g6).1;obtain ⟨a,ha⟩:=List.exists_mem_of_ne_nil _ (g3.ne oM);exact eI _ (hxy a ha a (by rw [← es];exact ha))
theorem branch_ok {s:Pg} (hs:PgOk s) {h:Nat} {nd:Nd} {l:bT} {ps:List Nat} (hv:Vt s (h+1) nd l ps) (h2:2≤nd.kids.length) (h8:nd.kids.length≤8):bF nd=true:=by
 obtain ⟨ls,e1,e2,e3,e4,e5,e6,e7,e8⟩:=hv;unfold bF;rw [if_neg (by rw [bM];intro e;rw [e] at h2;simp at h2)];simp only [wholeB,Bool.and_eq_true,decide_eq_true_eq,List.isEmpty_iff];refine ⟨⟨⟨⟨⟨e1,h2⟩,h8⟩,?_⟩,?_⟩,?_⟩
 ·rw [e2,List.length_map,e3]
 ·rw [e2];refine kids_at (pages_nodup e3 e4 e8) λ x hx=>?_;obtain ⟨y,hy,rfl⟩:=List.mem_map.1 hx;obtain ⟨n1,g1,_⟩:=e8 y hy;have:=dW (dN g1);have:=hs.cnt;omega
 ·exact keys_at (toks_keys e3 e4) e5
theorem Vt.ok {s:Pg} (hs:PgOk s) {h:Nat} {nd:Nd} {l:bT} {ps:List Nat} (hv:Vt s h nd l ps) (h2:2≤aR nd∨h=0) (h8:aR nd≤8):bF nd=true:=by
 cases h with
 | zero =>
  obtain ⟨rfl,_,h3,h4⟩:=hv;exact leaf_ok h3 h4 (by simpa [aR] using h8)
 | succ h =>
  have hv':=hv;obtain ⟨ls,e1,_⟩:=hv';have hz:aR nd=nd.kids.length:=by simp [aR,e1]
  rw [hz] at h2 h8;exact branch_ok hs hv oM h8
theorem kid_split {ls:List Sb} {ks:List Bs} (hl:ls.length=ks.length+1) (hp:(toks ls ks).Pairwise RT) (key:Bs) :
  ∃ la x lb ka kb,ls=la++x::lb∧ks=ka++kb∧la.length=fX ks key∧ka.length=la.length∧kb.length=lb.length∧(∀ t∈TK la ka,tb t key)∧(∀ t∈KT kb lb,ta key t)∧(TK la ka++[Tok.T x]++KT kb lb).Pairwise RT:=by
 have hi:fX ks key≤ks.length:=dX _ _;generalize hi0:fX ks key=i at hi
 have hka:∀ k∈ks.take i,kle k key:=by
  intro k hk;obtain ⟨j,hj,rfl⟩:=List.mem_take_iff_getElem.1 hk;have:=gC (λ x=>decide (bW x key≤0)) ks j _ (show j<fX ks key by omega) (List.getElem?_eq_getElem oM);exact cmpB_le.1 (by simpa using this)
 have hkb:∀ k∈ks.drop i,eO key k:=by
  have hsort:=toks_keys hl hp;intro k hk;obtain ⟨j,hj,rfl⟩:=List.mem_drop_iff_getElem.1 hk;have hlt:i<ks.length:=by omega
  have h1:eO key ks[i]:=by
   have:=jN (λ x=>decide (bW x key≤0)) ks ks[i] (by rw [show (ks.takeWhile λ x=>decide (bW x key≤0)).length=i from hi0];exact List.getElem?_eq_getElem hlt);rcases klt_or key ks[i] with g|g|g
   ·exact g
   ·rw [← g,nT] at this;simp at this
   ·have h2:=cmpB_le.2 (nQ g);simp at this;omega
  cases j with
  | zero=>simpa using h1
  | succ j=>exact dK h1 ((List.pairwise_iff_getElem.1 hsort) i (i+(j+1)) hlt oM oM)
 have hx:i<ls.length:=by omega
 have e1:ls=ls.take i++ls[i]::ls.drop (i+1):=by
  rw [← List.drop_eq_getElem_cons hx,List.take_append_drop]
 have e2:ks=ks.take i++ks.drop i:=(List.take_append_drop _ _).symm;have l1:(ls.take i).length=(ks.take i).length:=by simp;omega
 have l2:(ks.drop i).length=(ls.drop (i+1)).length:=by simp;omega
 have et:toks ls ks=TK (ls.take i) (ks.take i)++[Tok.T ls[i]]++KT (ks.drop i) (ls.drop (i+1)):=by
  have:=toks_mid (la:=ls.take i) (us:=[ls[i]]) (lb:=ls.drop (i+1)) (ka:=ks.take i) (uk:=[]) (kb:=ks.drop i) l1 rfl;rw [← show TK (ls.take i) (ks.take i)++toks [ls[i]] []++KT (ks.drop i) (ls.drop (i+1))=TK (ls.take i) (ks.take i)++[Tok.T ls[i]]++KT (ks.drop i) (ls.drop (i+1)) from rfl,← this];congr 1
  ·simpa using e1
  ·simpa using e2
 rw [et] at hp;refine ⟨ls.take i,ls[i],ls.drop (i+1),ks.take i,ks.drop i,e1,e2,by simp;omega,l1.symm,l2,?_,?_,hp⟩
 ·
  have key1:∀ {la:List Sb} {ka:List Bs},la.length=ka.length→(TK la ka).Pairwise RT→(∀ k∈ka,kle k key)→∀ t∈TK la ka,tb t key:=by
   intro la
   induction la with
   | nil=>intro ka _ _ _ t ht;simp [TK] at ht
   | cons x la ih =>
    intro ka h hp hk t ht
    cases ka with
    | nil=>cases h
    | cons k ka =>
     simp only [TK] at hp ht;obtain ⟨p1,p2⟩:=List.pairwise_cons.1 hp;rcases List.mem_cons.1 ht with rfl|ht
     ·exact tb_of_K (p1 (.K k) sM) (hk k sM)
     ·rcases List.mem_cons.1 ht with rfl|ht
      ·exact hk k sM
      ·exact ih (by simpa using h) (List.pairwise_cons.1 p2).2 (λ k hk2=>hk k (List.mem_cons_of_mem _ hk2)) t ht
  exact key1 l1 (List.pairwise_append.1 (List.pairwise_append.1 hp).1).1 hka
 ·have key2:∀ {kb:List Bs} {lb:List Sb},kb.length=lb.length→(KT kb lb).Pairwise RT→(∀ k∈kb,eO key k)→∀ t∈KT kb lb,ta key t:=by
   intro kb
   induction kb with
   | nil=>intro lb _ _ _ t ht;simp [KT] at ht
   | cons k kb ih =>
    intro lb h hp hk t ht
    cases lb with
    | nil=>cases h
    | cons x lb =>
     simp only [KT] at hp ht;obtain ⟨p1,p2⟩:=List.pairwise_cons.1 hp;rcases List.mem_cons.1 ht with rfl|ht
     ·exact hk k sM
     ·rcases List.mem_cons.1 ht with rfl|ht
      ·exact ta_of_K (p1 (.T x) sM) (hk k sM)
      ·exact ih (by simpa using h) (List.pairwise_cons.1 p2).2 (λ k hk2=>hk k (List.mem_cons_of_mem _ hk2)) t ht
  exact key2 l2 (List.pairwise_append.1 hp).2.1 hkb
theorem TK_its {la:List Sb} {key:Bs}:∀ {ka:List Bs},la.length=ka.length→(∀ t∈TK la ka,tb t key)→∀ a∈la.flatMap (·.its),eO a.1 key:=by
 induction la with
 | nil=>intro ka _ _ a ha;simp at ha
 | cons x la ih =>
  intro ka h ht a ha
  cases ka with
  | nil=>cases h
  | cons k ka =>
   simp only [TK] at ht;simp only [List.flatMap_cons,List.mem_append] at ha;rcases ha with ha|ha
   ·exact ht (.T x) sM a ha
   ·exact ih (by simpa using h) (λ t h2=>ht t (by simp [h2])) a ha
theorem KT_its {lb:List Sb} {key:Bs}:∀ {kb:List Bs},kb.length=lb.length→(∀ t∈KT kb lb,ta key t)→∀ a∈lb.flatMap (·.its),eO key a.1:=by
 induction lb with
 | nil=>intro ka _ _ a ha;simp at ha
 | cons x la ih =>
  intro ka h ht a ha
  cases ka with
  | nil=>cases h
  | cons k ka =>
   simp only [KT] at ht;simp only [List.flatMap_cons,List.mem_append] at ha;rcases ha with ha|ha
   ·exact ht (.T x) sM a ha
   ·exact ih (by simpa using h) (λ t h2=>ht t (by simp [h2])) a ha
end Go.Proofs.YtfpadnmdafiddaaGreatDoor
