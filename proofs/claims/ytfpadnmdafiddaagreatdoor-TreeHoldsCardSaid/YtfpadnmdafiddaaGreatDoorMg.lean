import Derived.Test.YtfpadnmdafiddaaGreatDoorMf
set_option linter.all false
set_option maxHeartbeats 16000000
set_option maxRecDepth 100000
namespace Go.Proofs.YtfpadnmdafiddaaGreatDoor
abbrev Bs:=List Nat
def dX:Bs→Bs→Int
 | [],[]=>0
 | [],_::_=>-1
 | _::_,[]=>1
 | a::x,b::y=>if a<b then -1 else if b<a then 1 else dX x y
structure Nd where
 items:List (Bs×Bs)
 kids:List Nat
 keys:List Bs
def nd0:Nd:=⟨[],[],[]⟩
def cK (n:Nd):Bool:=n.kids.isEmpty
def bJ (n:Nd):Nat:=n.items.length+n.kids.length
def dB (k:Bs):Bool:=decide (1≤k.length)&&decide (k.length≤16)
def fR (v:Bs):Bool:=decide (v.length≤32)
def iB (l:List (Bs×Bs)) (i:Nat):Bool :=
 match l[i]? with
 | none=>true
 | some x=>dB x.1&&fR x.2&&(match i with
  | 0=>true
  | j+1=>match l[j]? with
   | none=>true
   | some y=>decide (dX y.1 x.1<0))
def jO (l:List Bs) (i:Nat):Bool :=
 match l[i]? with
 | none=>true
 | some x=>dB x&&(match i with
  | 0=>true
  | j+1=>match l[j]? with
   | none=>true
   | some y=>decide (dX y x<0))
def kK (l:List Nat) (i:Nat):Bool :=
 match l[i]? with
 | none=>true
 | some k=>decide (k<2147483648)&&!((l.take i).contains k)
def gM (f:Nat→Bool) (n:Nat):Bool:=(List.range n).all f
def wholeL (n:Nd):Bool:=n.keys.isEmpty&&decide (n.items.length≤8)&&gM (iB n.items) n.items.length
def wholeB (n:Nd):Bool:=n.items.isEmpty&&decide (2≤n.kids.length)&&decide (n.kids.length≤8)&&decide (n.keys.length+1=n.kids.length)&&gM (kK n.kids) n.kids.length&&gM (jO n.keys) n.keys.length
def cE (n:Nd):Bool:=if cK n then wholeL n else wholeB n
def gD (l:List (Bs×Bs)) (key:Bs):Nat:=(l.takeWhile λ x=>decide (dX x.1 key<0)).length
def gF (l:List (Bs×Bs)) (key:Bs):Bool:=match l[gD l key]? with
 | none=>false
 | some x=>decide (dX x.1 key=0)
def iQ (l:List Bs) (key:Bs):Nat:=(l.takeWhile λ x=>decide (dX x key≤0)).length
def jN (p:Bs):Bs:=encL p.length++p
def fW (n:Nat):Bs:=[n%256,n / 256%256,n / 65536%256,n / 16777216%256]
def fN (n:Nd):Bs :=
 if cK n then [0,n.items.length]++n.items.flatMap (λ x=>jN x.1++jN x.2)
 else [1,n.kids.length]++n.kids.flatMap fW++n.keys.flatMap jN
structure Pg where
 count:Nat
 words:List Nat
 body:Nat→Bs
def dE (s:Pg) (n:Nat):Bool:=decide (n<s.count)&&(s.words.getD (n / 64) 0).testBit (n%64)
def lowP (s:Pg):Nat:=((List.range s.count).takeWhile λ n=>dE s n).length
def hU (l:List Nat) (n:Nat):List Nat:=l.set (n / 64) (l.getD (n / 64) 0|||2^(n%64))
def padB (b:Bs):Bs:=b++List.replicate (500-b.length) 0
def newP (s:Pg) (b:Bs):Option (Nat×Pg) :=
 let n:=lowP s
 if n=s.count then none else some (n,{ s with words:=hU s.words n,body:=λ k=>if k=n then padB b else s.body k })
def gT (s:Pg):Nat:=((List.range s.count).filter λ n=>dE s n).length
def bZ (s:Pg):Nat:=s.count-gT s
end Go.Proofs.YtfpadnmdafiddaaGreatDoor
namespace Go.Proofs.YtfpadnmdafiddaaGreatDoor
theorem cmpB_self:∀ a:Bs,dX a a=0
 | []=>rfl
 | a::x=>by simp [dX,cmpB_self x]
theorem cmpB_eq:∀ {a b:Bs},dX a b=0→a=b
 | [],[],_=>rfl
 | [],_::_,h=>by simp [dX] at h
 | _::_,[],h=>by simp [dX] at h
 | a::x,b::y,h=>by
  unfold dX at h
  split at h
  ·cases h
  ·split at h
   ·cases h
   ·rw [cmpB_eq h,show a=b by omega]
theorem cmpB_three:∀ a b:Bs,dX a b = -1∨dX a b=0∨dX a b=1
 | [],[]=>by simp [dX]
 | [],_::_=>by simp [dX]
 | _::_,[]=>by simp [dX]
 | a::x,b::y=>by
  unfold dX
  split
  ·exact .inl rfl
  ·split
   ·exact .inr (.inr rfl)
   ·exact cmpB_three x y
theorem cmpB_swap:∀ a b:Bs,dX b a = - dX a b
 | [],[]=>rfl
 | [],_::_=>rfl
 | _::_,[]=>rfl
 | a::x,b::y=>by
  unfold dX
  by_cases h1:a<b
  ·rw [if_pos h1,if_neg (by omega),if_pos h1];rfl
  ·by_cases h2:b<a
   ·rw [if_pos h2,if_neg h1,if_pos h2]
   ·rw [if_neg h1,if_neg h2,if_neg h2,if_neg h1];exact cmpB_swap x y
def hX (a b:Bs):Prop:=dX a b<0
theorem gI:∀ {a b c:Bs},hX a b→hX b c→hX a c
 | [],[],_,h,_=>by simp [hX,dX] at h
 | [],_::_,[],_,h=>by simp [hX,dX] at h
 | [],_::_,_::_,_,_=>by simp [hX,dX]
 | _::_,[],_,h,_=>by simp [hX,dX] at h
 | _::_,_::_,[],_,h=>by simp [hX,dX] at h
 | a::x,b::y,c::z,h,k=>by
  unfold hX dX at *
  split at h
  ·split at k
   ·rw [if_pos (by omega)];omega
   ·split at k
    ·omega
    ·rw [if_pos (by omega)];omega
  ·split at h
   ·omega
   ·split at k
    ·rw [if_pos (by omega)];omega
    ·split at k
     ·omega
     ·rw [if_neg (by omega),if_neg (by omega)]
      exact gI (a:=x) (b:=y) (c:=z) h k
theorem dC (a:Bs):¬ hX a a:=by unfold hX;rw [cmpB_self];omega
theorem klt_asymm {a b:Bs} (h:hX a b):¬ hX b a:=λ k=>dC a (gI h k)
theorem klt_or (a b:Bs):hX a b∨a=b∨hX b a:=by
 rcases cmpB_three a b with h|h|h
 ·exact .inl (by unfold hX;omega)
 ·exact .inr (.inl (cmpB_eq h))
 ·exact .inr (.inr (by unfold hX;rw [cmpB_swap];omega))
def kle (a b:Bs):Prop:=¬ hX b a
theorem kle_refl (a:Bs):kle a a:=dC a
theorem klt_of_le {a b c:Bs} (h:kle a b) (k:hX b c):hX a c:=by
 rcases klt_or a c with g|g|g
 ·exact g
 ·subst g;exact absurd k h
 ·exact absurd (gI k g) h
theorem kW {a b c:Bs} (h:hX a b) (k:kle b c):hX a c:=by
 rcases klt_or a c with g|g|g
 ·exact g
 ·subst g;exact absurd h k
 ·exact absurd (gI g h) k
theorem kX {a b:Bs} (h:hX a b):kle a b:=klt_asymm h
instance (a b:Bs):Decidable (hX a b):=inferInstanceAs (Decidable (dX a b<0))
theorem cmpB_le {a b:Bs}:dX a b≤0↔kle a b:=by
 unfold kle hX
 rw [cmpB_swap a b]
 omega
abbrev dO:=List (Bs×Bs)
def Srt (l:dO):Prop:=l.Pairwise λ x y=>hX x.1 y.1
def gU (key v:Bs):dO→dO
 | []=>[(key,v)]
 | x::l=>if hX x.1 key then x::gU key v l else if x.1=key then (key,v)::l else (key,v)::x::l
def gV (key:Bs) (l:dO):dO:=l.filter λ x=>decide (x.1≠key)
theorem mem_insI {key v:Bs} {y:Bs×Bs}:∀ {l:dO},y∈gU key v l→y=(key,v)∨y∈l
 | [],h=>by simp only [gU,List.mem_singleton] at h;exact .inl h
 | x::l,h=>by
  unfold gU at h
  split at h
  ·rcases List.mem_cons.1 h with rfl|h
   ·exact .inr List.mem_cons_self
   ·rcases mem_insI h with h|h
    ·exact .inl h
    ·exact .inr (List.mem_cons_of_mem _ h)
  ·split at h
   ·rcases List.mem_cons.1 h with rfl|h
    ·exact .inl rfl
    ·exact .inr (List.mem_cons_of_mem _ h)
   ·rcases List.mem_cons.1 h with rfl|h
    ·exact .inl rfl
    ·exact .inr h
theorem insI_srt {key v:Bs}:∀ {l:dO},Srt l→Srt (gU key v l)
 | [],_=>by simp [gU,Srt]
 | x::l,h=>by
  have h1:=List.pairwise_cons.1 h
  unfold gU
  split
  ·rename_i hx
   refine List.pairwise_cons.2 ⟨λ y hy=>?_,insI_srt h1.2⟩
   rcases mem_insI hy with rfl|hy
   ·exact hx
   ·exact h1.1 y hy
  ·rename_i hx
   split
   ·rename_i he
    exact List.pairwise_cons.2 ⟨λ y hy=>by rw [← he];exact h1.1 y hy,h1.2⟩
   ·rename_i he
    have hk:hX key x.1:=by
     rcases klt_or x.1 key with g|g|g
     ·exact absurd g hx
     ·exact absurd g he
     ·exact g
    refine List.pairwise_cons.2 ⟨λ y hy=>?_,h⟩
    rcases List.mem_cons.1 hy with rfl|hy
    ·exact hk
    ·exact gI hk (h1.1 y hy)
theorem delI_srt {key:Bs} {l:dO} (h:Srt l):Srt (gV key l):=List.Pairwise.filter _ h
theorem insI_append {key v:Bs}:∀ {a b:dO},(∀ x∈a,hX x.1 key)→gU key v (a++b)=a++gU key v b
 | [],b,_=>rfl
 | x::a,b,h=>by
  simp only [List.cons_append,gU]
  rw [if_pos (h x (by simp)),insI_append (λ y hy=>h y (List.mem_cons_of_mem _ hy))]
theorem insI_before {key v:Bs}:∀ {a b:dO},(∀ x∈b,hX key x.1)→gU key v (a++b)=gU key v a++b
 | [],[],_=>rfl
 | [],x::b,h=>by
  have hx:=h x (by simp)
  simp only [List.nil_append,gU]
  rw [if_neg (klt_asymm hx),if_neg (λ e=>by rw [e] at hx;exact dC _ hx)]
  rfl
 | x::a,b,h=>by
  simp only [List.cons_append,gU]
  split
  ·rw [insI_before h];rfl
  ·split<;>rfl
theorem delI_append (key:Bs) (a b:dO):gV key (a++b)=gV key a++gV key b:=List.filter_append ..
theorem delI_same {key:Bs} {a:dO} (h:∀ x∈a,x.1≠key):gV key a=a:=by
 unfold gV
 rw [List.filter_eq_self]
 intro x hx
 simpa using h x hx
end Go.Proofs.YtfpadnmdafiddaaGreatDoor
