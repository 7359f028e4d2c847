import Derived.Test.YtfpadnmdafiddaaGreatDoorYf
set_option linter.all false
set_option maxHeartbeats 16000000
set_option maxRecDepth 100000
namespace Go.Proofs.YtfpadnmdafiddaaGreatDoor
abbrev Bs:=List Nat
def cmpB:Bs→Bs→Int
 | [],[]=>0
 | [],_::_=>-1
 | _::_,[]=>1
 | a::x,b::y=>if a<b then -1 else if b<a then 1 else cmpB x y
structure Nd where
 items:List (Bs×Bs)
 kids:List Nat
 keys:List Bs
def nd0:Nd:=⟨[],[],[]⟩
def leafN (n:Nd):Bool:=n.kids.isEmpty
def sizeN (n:Nd):Nat:=n.items.length+n.kids.length
def keyOk (k:Bs):Bool:=decide (1≤k.length)&&decide (k.length≤16)
def valOk (v:Bs):Bool:=decide (v.length≤32)
def itemAt (l:List (Bs×Bs)) (i:Nat):Bool :=
 match l[i]? with
 | none=>true
 | some x=>keyOk x.1&&valOk x.2&&(match i with
  | 0=>true
  | j+1=>match l[j]? with
   | none=>true
   | some y=>decide (cmpB y.1 x.1<0))
def keyAt (l:List Bs) (i:Nat):Bool :=
 match l[i]? with
 | none=>true
 | some x=>keyOk x&&(match i with
  | 0=>true
  | j+1=>match l[j]? with
   | none=>true
   | some y=>decide (cmpB y x<0))
def kidAt (l:List Nat) (i:Nat):Bool :=
 match l[i]? with
 | none=>true
 | some k=>decide (k<2147483648)&&!((l.take i).contains k)
def allAt (f:Nat→Bool) (n:Nat):Bool:=(List.range n).all f
def wholeL (n:Nd):Bool:=n.keys.isEmpty&&decide (n.items.length≤8)&&allAt (itemAt n.items) n.items.length
def wholeB (n:Nd):Bool:=n.items.isEmpty&&decide (2≤n.kids.length)&&decide (n.kids.length≤8)&&decide (n.keys.length+1=n.kids.length)&&allAt (kidAt n.kids) n.kids.length&&allAt (keyAt n.keys) n.keys.length
def nodeOk (n:Nd):Bool:=if leafN n then wholeL n else wholeB n
def findN (l:List (Bs×Bs)) (key:Bs):Nat:=(l.takeWhile λ x=>decide (cmpB x.1 key<0)).length
def thereN (l:List (Bs×Bs)) (key:Bs):Bool:=match l[findN l key]? with
 | none=>false
 | some x=>decide (cmpB x.1 key=0)
def kidN (l:List Bs) (key:Bs):Nat:=(l.takeWhile λ x=>decide (cmpB x key≤0)).length
def blkB (p:Bs):Bs:=encL p.length++p
def word4 (n:Nat):Bs:=[n%256,n / 256%256,n / 65536%256,n / 16777216%256]
def bytesN (n:Nd):Bs :=
 if leafN n then [0,n.items.length]++n.items.flatMap (λ x=>blkB x.1++blkB x.2)
 else [1,n.kids.length]++n.kids.flatMap word4++n.keys.flatMap blkB
structure Pg where
 count:Nat
 words:List Nat
 body:Nat→Bs
def usedP (s:Pg) (n:Nat):Bool:=decide (n<s.count)&&(s.words.getD (n / 64) 0).testBit (n%64)
def lowP (s:Pg):Nat:=((List.range s.count).takeWhile λ n=>usedP s n).length
def markW (l:List Nat) (n:Nat):List Nat:=l.set (n / 64) (l.getD (n / 64) 0|||2^(n%64))
def padB (b:Bs):Bs:=b++List.replicate (500-b.length) 0
def newP (s:Pg) (b:Bs):Option (Nat×Pg) :=
 let n:=lowP s
 if n=s.count then none else some (n,{ s with words:=markW s.words n,body:=λ k=>if k=n then padB b else s.body k })
def totalP (s:Pg):Nat:=((List.range s.count).filter λ n=>usedP s n).length
def spareP (s:Pg):Nat:=s.count-totalP s
end Go.Proofs.YtfpadnmdafiddaaGreatDoor
namespace Go.Proofs.YtfpadnmdafiddaaGreatDoor
theorem cmpB_self:∀ a:Bs,cmpB a a=0
 | []=>rfl
 | a::x=>by simp [cmpB,cmpB_self x]
theorem cmpB_eq:∀ {a b:Bs},cmpB a b=0→a=b
 | [],[],_=>rfl
 | [],_::_,h=>by simp [cmpB] at h
 | _::_,[],h=>by simp [cmpB] at h
 | a::x,b::y,h=>by
  unfold cmpB at h
  split at h
  ·cases h
  ·split at h
   ·cases h
   ·rw [cmpB_eq h,show a=b by omega]
theorem cmpB_three:∀ a b:Bs,cmpB a b = -1∨cmpB a b=0∨cmpB a b=1
 | [],[]=>by simp [cmpB]
 | [],_::_=>by simp [cmpB]
 | _::_,[]=>by simp [cmpB]
 | a::x,b::y=>by
  unfold cmpB
  split
  ·exact .inl rfl
  ·split
   ·exact .inr (.inr rfl)
   ·exact cmpB_three x y
theorem cmpB_swap:∀ a b:Bs,cmpB b a = - cmpB a b
 | [],[]=>rfl
 | [],_::_=>rfl
 | _::_,[]=>rfl
 | a::x,b::y=>by
  unfold cmpB
  by_cases h1:a<b
  ·rw [if_pos h1,if_neg (by omega),if_pos h1];rfl
  ·by_cases h2:b<a
   ·rw [if_pos h2,if_neg h1,if_pos h2]
   ·rw [if_neg h1,if_neg h2,if_neg h2,if_neg h1];exact cmpB_swap x y
def klt (a b:Bs):Prop:=cmpB a b<0
theorem klt_trans:∀ {a b c:Bs},klt a b→klt b c→klt a c
 | [],[],_,h,_=>by simp [klt,cmpB] at h
 | [],_::_,[],_,h=>by simp [klt,cmpB] at h
 | [],_::_,_::_,_,_=>by simp [klt,cmpB]
 | _::_,[],_,h,_=>by simp [klt,cmpB] at h
 | _::_,_::_,[],_,h=>by simp [klt,cmpB] at h
 | a::x,b::y,c::z,h,k=>by
  unfold klt cmpB at *
  split at h
  ·split at k
   ·rw [if_pos (by omega)];omega
   ·split at k
    ·omega
    ·rw [if_pos (by omega)];omega
  ·split at h
   ·omega
   ·split at k
    ·rw [if_pos (by omega)];omega
    ·split at k
     ·omega
     ·rw [if_neg (by omega),if_neg (by omega)]
      exact klt_trans (a:=x) (b:=y) (c:=z) h k
theorem klt_irrefl (a:Bs):¬ klt a a:=by unfold klt;rw [cmpB_self];omega
theorem klt_asymm {a b:Bs} (h:klt a b):¬ klt b a:=λ k=>klt_irrefl a (klt_trans h k)
theorem klt_or (a b:Bs):klt a b∨a=b∨klt b a:=by
 rcases cmpB_three a b with h|h|h
 ·exact .inl (by unfold klt;omega)
 ·exact .inr (.inl (cmpB_eq h))
 ·exact .inr (.inr (by unfold klt;rw [cmpB_swap];omega))
def kle (a b:Bs):Prop:=¬ klt b a
theorem kle_refl (a:Bs):kle a a:=klt_irrefl a
theorem klt_of_le {a b c:Bs} (h:kle a b) (k:klt b c):klt a c:=by
 rcases klt_or a c with g|g|g
 ·exact g
 ·subst g;exact absurd k h
 ·exact absurd (klt_trans k g) h
theorem klt_of_lt {a b c:Bs} (h:klt a b) (k:kle b c):klt a c:=by
 rcases klt_or a c with g|g|g
 ·exact g
 ·subst g;exact absurd h k
 ·exact absurd (klt_trans g h) k
theorem kle_of_lt {a b:Bs} (h:klt a b):kle a b:=klt_asymm h
instance (a b:Bs):Decidable (klt a b):=inferInstanceAs (Decidable (cmpB a b<0))
theorem cmpB_le {a b:Bs}:cmpB a b≤0↔kle a b:=by
 unfold kle klt
 rw [cmpB_swap a b]
 omega
abbrev Its:=List (Bs×Bs)
def Srt (l:Its):Prop:=l.Pairwise λ x y=>klt x.1 y.1
def insI (key v:Bs):Its→Its
 | []=>[(key,v)]
 | x::l=>if klt x.1 key then x::insI key v l else if x.1=key then (key,v)::l else (key,v)::x::l
def delI (key:Bs) (l:Its):Its:=l.filter λ x=>decide (x.1≠key)
theorem mem_insI {key v:Bs} {y:Bs×Bs}:∀ {l:Its},y∈insI key v l→y=(key,v)∨y∈l
 | [],h=>by simp only [insI,List.mem_singleton] at h;exact .inl h
 | x::l,h=>by
  unfold insI at h
  split at h
  ·rcases List.mem_cons.1 h with rfl|h
   ·exact .inr List.mem_cons_self
   ·rcases mem_insI h with h|h
    ·exact .inl h
    ·exact .inr (List.mem_cons_of_mem _ h)
  ·split at h
   ·rcases List.mem_cons.1 h with rfl|h
    ·exact .inl rfl
    ·exact .inr (List.mem_cons_of_mem _ h)
   ·rcases List.mem_cons.1 h with rfl|h
    ·exact .inl rfl
    ·exact .inr h
theorem insI_srt {key v:Bs}:∀ {l:Its},Srt l→Srt (insI key v l)
 | [],_=>by simp [insI,Srt]
 | x::l,h=>by
  have h1:=List.pairwise_cons.1 h
  unfold insI
  split
  ·rename_i hx
   refine List.pairwise_cons.2 ⟨λ y hy=>?_,insI_srt h1.2⟩
   rcases mem_insI hy with rfl|hy
   ·exact hx
   ·exact h1.1 y hy
  ·rename_i hx
   split
   ·rename_i he
    exact List.pairwise_cons.2 ⟨λ y hy=>by rw [← he];exact h1.1 y hy,h1.2⟩
   ·rename_i he
    have hk:klt key x.1:=by
     rcases klt_or x.1 key with g|g|g
     ·exact absurd g hx
     ·exact absurd g he
     ·exact g
    refine List.pairwise_cons.2 ⟨λ y hy=>?_,h⟩
    rcases List.mem_cons.1 hy with rfl|hy
    ·exact hk
    ·exact klt_trans hk (h1.1 y hy)
theorem delI_srt {key:Bs} {l:Its} (h:Srt l):Srt (delI key l):=List.Pairwise.filter _ h
theorem insI_append {key v:Bs}:∀ {a b:Its},(∀ x∈a,klt x.1 key)→insI key v (a++b)=a++insI key v b
 | [],b,_=>rfl
 | x::a,b,h=>by
  simp only [List.cons_append,insI]
  rw [if_pos (h x (by simp)),insI_append (λ y hy=>h y (List.mem_cons_of_mem _ hy))]
theorem insI_before {key v:Bs}:∀ {a b:Its},(∀ x∈b,klt key x.1)→insI key v (a++b)=insI key v a++b
 | [],[],_=>rfl
 | [],x::b,h=>by
  have hx:=h x (by simp)
  simp only [List.nil_append,insI]
  rw [if_neg (klt_asymm hx),if_neg (λ e=>by rw [e] at hx;exact klt_irrefl _ hx)]
  rfl
 | x::a,b,h=>by
  simp only [List.cons_append,insI]
  split
  ·rw [insI_before h];rfl
  ·split<;>rfl
theorem delI_append (key:Bs) (a b:Its):delI key (a++b)=delI key a++delI key b:=List.filter_append ..
theorem delI_same {key:Bs} {a:Its} (h:∀ x∈a,x.1≠key):delI key a=a:=by
 unfold delI
 rw [List.filter_eq_self]
 intro x hx
 simpa using h x hx
end Go.Proofs.YtfpadnmdafiddaaGreatDoor
