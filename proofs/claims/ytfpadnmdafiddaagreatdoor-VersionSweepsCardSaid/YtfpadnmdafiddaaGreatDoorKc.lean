import Derived.Test.YtfpadnmdafiddaaGreatDoorKb
import Derived.Lib.Mul64
import Derived.RangeFuncIn
import Derived.Test.YtfpadnmdafiddaaGreatDoorKa
set_option linter.all false
set_option maxHeartbeats 16000000
set_option maxRecDepth 100000
namespace Go.Proofs.YtfpadnmdafiddaaGreatDoor
structure PgOk (s:Pg):Prop where
 wl:s.words.length=(s.count+63) / 64
 w64:∀ x∈s.words,x<18446744073709551616
 top:∀ n,s.count≤n→(s.words.getD (n / 64) 0).testBit (n%64)=false
 cnt:s.count≤8192
structure Ext (s s':Pg):Prop where
 count:s'.count=s.count
 used:∀ k,cV s k=true→cV s' k=true∧s'.body k=s.body k
theorem Ext.refl (s:Pg):Ext s s:=⟨rfl,λ _ h=>⟨h,rfl⟩⟩
theorem Ext.trans {a b c:Pg} (h:Ext a b) (k:Ext b c):Ext a c :=
 ⟨k.count.trans h.count,λ n hn=>⟨(k.used n (h.used n hn).1).1,((k.used n (h.used n hn).1).2).trans (h.used n hn).2⟩⟩
theorem Ext.node {s s':Pg} (h:Ext s s') {n:Nat} {nd:Nd} (hn:dQ s n=some nd):dQ s' n=some nd:=by
 unfold dQ at *
 split at hn
 ·rename_i hu
  rw [if_pos (h.used n hu).1,(h.used n hu).2]
  exact hn
 ·cases hn
theorem fZ {α : Type} (p : α→Bool):∀ l:List α,(l.takeWhile p).length≤l.length
 | []=>Nat.le_refl _
 | a::l=>by
  rw [List.takeWhile_cons]
  split
  ·exact Nat.succ_le_succ (fZ p l)
  ·simp
theorem takeWhile_at {α : Type} (p : α→Bool):∀ (l:List α) (x : α),l[(l.takeWhile p).length]? = some x→p x=false
 | [],x,h=>by simp at h
 | a::l,x,h=>by
  rw [List.takeWhile_cons] at h
  split at h
  ·simp only [List.length_cons,List.getElem?_cons_succ] at h
   exact takeWhile_at p l x h
  ·rename_i ha
   simp at h
   subst h
   simpa using ha
theorem jR {α : Type} (p : α→Bool):∀ (l:List α) (i:Nat) (x : α),i<(l.takeWhile p).length→l[i]? = some x→p x=true
 | [],i,x,h,_=>by simp at h
 | a::l,i,x,h,hx=>by
  rw [List.takeWhile_cons] at h
  split at h
  ·rename_i ha
   cases i with
   | zero=>simp at hx;subst hx;exact ha
   | succ i=>exact jR p l i x (by simpa using h) (by simpa using hx)
  ·simp at h
theorem lowP_le (s:Pg):lowP s≤s.count:=by
 have:=fZ (λ n=>cV s n) (List.range s.count)
 simpa [lowP] using this
theorem lowP_free {s:Pg} (h:lowP s≠s.count):lowP s<s.count∧cV s (lowP s)=false:=by
 have hl:=lowP_le s
 have hlt:lowP s<s.count:=by omega
 refine ⟨hlt,takeWhile_at (λ n=>cV s n) (List.range s.count) (lowP s) ?_⟩
 rw [show ((List.range s.count).takeWhile λ n=>cV s n).length=lowP s from rfl]
 simp [hlt]
theorem lowP_used {s:Pg} {k:Nat} (h:k<lowP s):cV s k=true:=by
 have hl:=lowP_le s
 exact jR (λ n=>cV s n) (List.range s.count) k k h (List.getElem?_range (by omega))
theorem cnt_add (p:Nat→Bool) (n:Nat) (hp:p n=false):∀ N,((List.range N).filter λ k=>k==n || p k).length=((List.range N).filter p).length+if n<N then 1 else 0
 | 0=>rfl
 | N+1=>by
  have ih:=cnt_add p n hp N
  simp only [List.range_succ,List.filter_append,List.length_append,ih]
  by_cases h1:N=n
  ·subst h1
   simp [hp]
  ·have h2:(N==n)=false:=by simpa using h1
   by_cases h3:n<N
   ·rw [if_pos h3,if_pos (by omega)]
    cases hN:p N<;>simp [List.filter,h2,hN]
   ·rw [if_neg h3,if_neg (by omega)]
    cases hN:p N<;>simp [List.filter,h2,hN]
theorem totalP_le (s:Pg):iL s≤s.count:=by
 have:=List.length_filter_le (λ n=>cV s n) (List.range s.count)
 simpa [iL] using this
theorem totalP_full {s:Pg} (h:lowP s=s.count):iL s=s.count:=by
 unfold iL
 rw [List.filter_eq_self.2 (λ k hk=>lowP_used (s:=s) (by rw [h];exact List.mem_range.1 hk))]
 simp
theorem testBit_or_pow (x i j:Nat):(x|||2^i).testBit j=(x.testBit j || decide (i=j)):=by
 rw [Nat.testBit_or,Nat.testBit_two_pow]
theorem divmod64 {a b:Nat}:(a / 64=b / 64∧a%64=b%64)↔a=b:=by omega
theorem markW_bit (l:List Nat) (n k:Nat) (hn:n / 64<l.length):((gY l n).getD (k / 64) 0).testBit (k%64)=(decide (k=n) || (l.getD (k / 64) 0).testBit (k%64)):=by
 unfold gY
 rw [List.getD_eq_getElem?_getD,List.getElem?_set]
 by_cases h:n / 64=k / 64
 ·rw [if_pos h,if_pos hn]
  simp only [Option.getD_some]
  rw [testBit_or_pow,← h]
  by_cases h2:n%64=k%64
  ·have:k=n:=divmod64.1 ⟨h.symm,h2.symm⟩
   simp [this]
  ·have:k≠n:=λ e=>h2 (by rw [e])
   simp [h2,this]
 ·rw [if_neg h,← List.getD_eq_getElem?_getD]
  have:k≠n:=λ e=>h (by rw [e])
  simp [this]
theorem used_div {s:Pg} (hs:PgOk s) {n:Nat} (hn:n<s.count):n / 64<s.words.length:=by rw [hs.wl];omega
structure New (s s':Pg) (n:Nat) (b:Bs):Prop where
 free:cV s n=false
 lt:n<s.count
 count:s'.count=s.count
 used:∀ k,cV s' k=(decide (k=n) || cV s k)
 body:s'.body n=padB b
 other:∀ k,k≠n→s'.body k=s.body k
 ok:PgOk s'
 spare:cP s'+1=cP s
theorem New.ext {s s':Pg} {n:Nat} {b:Bs} (h:New s s' n b):Ext s s' :=
 ⟨h.count,λ k hk=>⟨by rw [h.used,hk];simp,h.other k λ e=>by rw [e,h.free] at hk;cases hk⟩⟩
theorem newP_new {s s':Pg} {n:Nat} {b:Bs} (hs:PgOk s) (h:newP s b=some (n,s')):New s s' n b:=by
 unfold newP at h
 simp only at h
 split at h
 ·cases h
 ·rename_i hne
  simp only [Option.some.injEq,Prod.mk.injEq] at h
  obtain ⟨hn,rfl⟩:=h
  obtain ⟨h1,h2⟩:=lowP_free hne
  rw [hn] at h1 h2
  have hd:=used_div hs h1
  have hu:∀ k,cV { s with words:=gY s.words n,body:=λ k=>if k=n then padB b else s.body k } k=(decide (k=n) || cV s k):=by
   intro k
   unfold cV
   simp only
   rw [markW_bit _ _ _ hd]
   by_cases hk:k=n
   ·subst hk;simp [h1]
   ·simp [hk]
  rw [hn]
  refine ⟨h2,h1,rfl,hu,by simp,λ k hk=>by simp [hk],⟨?_,?_,?_,hs.cnt⟩,?_⟩
  ·simp [gY,hs.wl]
  ·intro x hx
   unfold gY at hx
   rcases List.mem_or_eq_of_mem_set hx with hx|rfl
   ·exact hs.w64 x hx
   ·have h5:s.words.getD (n / 64) 0<2^64:=by
     rw [List.getD_eq_getElem?_getD,List.getElem?_eq_getElem hd]
     exact hs.w64 _ (List.getElem_mem hd)
    have h6:2^(n%64)<2^64:=Nat.pow_lt_pow_right (by decide) (Nat.mod_lt _ (by decide))
    exact Nat.or_lt_two_pow h5 h6
  ·intro k hk
   simp only at hk ⊢
   rw [markW_bit _ _ _ hd,hs.top k hk]
   have:k≠n:=by omega
   simp [this]
  ·have ht:iL { s with words:=gY s.words n,body:=λ k=>if k=n then padB b else s.body k }=iL s+1:=by
    unfold iL
    simp only
    have:=cnt_add (λ k=>cV s k) n h2 s.count
    rw [if_pos h1] at this
    rw [← this]
    congr 1
    apply List.filter_congr
    intro k _
    rw [hu k]
    by_cases hk:k=n<;>simp [hk]
   have h7:iL s+1≤s.count:=by
    rw [← ht]
    exact totalP_le _
   unfold cP
   rw [ht]
   simp only
   omega
theorem newP_some {s:Pg} (b:Bs) (h:0<cP s):∃ n s',newP s b=some (n,s'):=by
 unfold newP
 simp only
 split
 ·rename_i hc
  have:=totalP_full hc
  unfold cP at h
  omega
 ·exact ⟨_,_,rfl⟩
theorem length_word4s:∀ l:List Nat,(l.flatMap fQ).length=4*l.length
 | []=>rfl
 | x::l=>by simp [List.flatMap_cons,length_word4s l,fQ];omega
theorem jE (p:Bs) (h:p.length≤100):(jO p).length=p.length+1:=by
 unfold jO
 rw [List.length_append,length_encL]
 have:sz p.length=1:=by
  unfold sz
  have:bl p.length≤7:=bl_le (k:=7) (by show p.length<128;omega)
  omega
 omega
theorem length_bytesN {n:Nd} (h:cH n=true):(fI n).length≤500:=by
 have e1:∀ (l:dS),(∀ x∈l,x.1.length≤16∧x.2.length≤32)→(l.flatMap λ x=>jO x.1++jO x.2).length≤50*l.length:=by
  intro l
  induction l with
  | nil=>intro _;simp
  | cons x l ih =>
   intro hl
   have h1:=ih λ y hy=>hl y (List.mem_cons_of_mem _ hy)
   have h2:=hl x (by simp)
   have h3:=jE x.1 (by omega)
   have h4:=jE x.2 (by omega)
   simp only [List.flatMap_cons,List.length_append,List.length_cons]
   omega
 have e2:∀ (l:List Bs),(∀ x∈l,x.length≤16)→(l.flatMap jO).length≤17*l.length:=by
  intro l
  induction l with
  | nil=>intro _;simp
  | cons x l ih =>
   intro hl
   have h1:=ih λ y hy=>hl y (List.mem_cons_of_mem _ hy)
   have h2:=hl x (by simp)
   have h3:=jE x (by omega)
   simp only [List.flatMap_cons,List.length_append,List.length_cons]
   omega
 unfold cH at h
 unfold fI
 split at h
 ·rename_i hl
  obtain ⟨h1,h2,h3⟩:=dL h
  rw [if_pos hl]
  have:=e1 n.items λ x hx=>⟨(gV (mG h3 hx).1).2,kZ (mG h3 hx).2⟩
  simp only [List.length_append,List.length_cons,List.length_nil]
  omega
 ·rename_i hl
  obtain ⟨h1,h2,h3,h4,h5,h6⟩:=cU h
  rw [if_neg hl]
  have:=e2 n.keys λ x hx=>(gV (key_ok' h6 hx)).2
  have:=length_word4s n.kids
  simp only [List.length_append,List.length_cons,List.length_nil]
  omega
structure Wrote (s s':Pg) (n:Nat) (nd:Nd):Prop where
 ext:Ext s s'
 free:cV s n=false
 used:∀ k,cV s' k=(decide (k=n) || cV s k)
 lt:n<s.count
 node:dQ s' n=some nd
 ok:PgOk s'
 spare:cP s'+1=cP s
theorem writeP_wrote {s s':Pg} {n:Nat} {nd:Nd} (hs:PgOk s) (h:fU s nd=some (n,s')):Wrote s s' n nd∧cH nd=true:=by
 unfold fU at h
 split at h
 ·rename_i hk
  have hn:=newP_new hs h
  refine ⟨⟨hn.ext,hn.free,hn.used,hn.lt,?_,hn.ok,hn.spare⟩,hk⟩
  unfold dQ
  rw [if_pos (by rw [hn.used];simp),hn.body]
  exact readN_bytes hk _
 ·cases h
theorem eY {s:Pg} {nd:Nd} (hs:PgOk s) (h:0<cP s) (hk:cH nd=true):∃ n s',fU s nd=some (n,s')∧Wrote s s' n nd:=by
 obtain ⟨n,s',e⟩:=newP_some (fI nd) h
 have e2:fU s nd=some (n,s'):=by unfold fU;rw [if_pos hk];exact e
 exact ⟨n,s',e2,(writeP_wrote hs e2).1⟩
end Go.Proofs.YtfpadnmdafiddaaGreatDoor
namespace Go.Proofs.YtfpadnmdafiddaaGreatDoor
structure Sb where
 page:Nat
 its:dS
 ps:List Nat
inductive Tok where
 | T (x:Sb)
 | K (k:Bs)
def RT:Tok→Tok→Prop
 | .T x,.T y=>∀ a∈x.its,∀ b∈y.its,iM a.1 b.1
 | .T x,.K k=>∀ a∈x.its,iM a.1 k
 | .K k,.T y=>∀ b∈y.its,kle k b.1
 | .K k,.K l=>iM k l
def tb:Tok→Bs→Prop
 | .T x,a=>∀ y∈x.its,iM y.1 a
 | .K k,a=>kle k a
def ta:Bs→Tok→Prop
 | a,.T x=>∀ y∈x.its,iM a y.1
 | a,.K k=>iM a k
theorem RT_K {t u:Tok} {k:Bs} (h:RT t (.K k)) (g:RT (.K k) u):RT t u:=by
 cases t<;>cases u<;>simp only [RT] at *
 ·exact λ a ha b hb=>lD (h a ha) (g b hb)
 ·exact λ a ha=>gD (h a ha) g
 ·exact λ b hb=>lE (lD h (g b hb))
 ·exact gD h g
theorem RT_T {t:Tok} {x:Sb}:RT t (.T x)↔∀ a∈x.its,tb t a.1:=by
 cases t<;>simp only [RT,tb]
 exact ⟨λ h b hb a ha=>h a ha b hb,λ h a ha b hb=>h b hb a ha⟩
theorem T_RT {u:Tok} {x:Sb}:RT (.T x) u↔∀ a∈x.its,ta a.1 u:=by
 cases u<;>simp only [RT,ta]
theorem tb_K {t:Tok} {a k:Bs} (h:tb t a) (g:iM a k):RT t (.K k):=by
 cases t<;>simp only [RT,tb] at *
 ·exact λ y hy=>gD (h y hy) g
 ·exact klt_of_le h g
theorem K_ta {u:Tok} {a k:Bs} (h:ta a u) (g:kle k a):RT (.K k) u:=by
 cases u<;>simp only [RT,ta] at *
 ·exact λ y hy=>lE (klt_of_le g (h y hy))
 ·exact klt_of_le g h
theorem tb_of_K {t:Tok} {k a:Bs} (h:RT t (.K k)) (g:kle k a):tb t a:=by
 cases t<;>simp only [RT,tb] at *
 ·exact λ y hy=>lD (h y hy) g
 ·exact lE (lD h g)
theorem ta_of_K {u:Tok} {k a:Bs} (h:RT (.K k) u) (g:iM a k):ta a u:=by
 cases u<;>simp only [RT,ta] at *
 ·exact λ y hy=>lD g (h y hy)
 ·exact gD g h
def KT:List Bs→List Sb→List Tok
 | k::ks,x::r=>.K k::.T x::KT ks r
 | _,_=>[]
def toks:List Sb→List Bs→List Tok
 | x::r,ks=>.T x::KT ks r
 | [],_=>[]
def TK:List Sb→List Bs→List Tok
 | x::r,k::ks=>.T x::.K k::TK r ks
 | _,_=>[]
theorem toks_left:∀ {la:List Sb} {ka:List Bs} {ls:List Sb} {ks:List Bs},la.length=ka.length→ls≠[]→toks (la++ls) (ka++ks)=TK la ka++toks ls ks
 | [],[],ls,ks,_,_=>rfl
 | [],_::_,_,_,h,_=>by cases h
 | _::_,[],_,_,h,_=>by cases h
 | y::la,k::ka,ls,ks,h,hn=>by
  have ih:=toks_left (la:=la) (ka:=ka) (ls:=ls) (ks:=ks) (by simpa using h) hn
  cases hz:la++ls with
  | nil=>simp at hz;exact absurd hz.2 hn
  | cons z zs =>
   rw [hz] at ih
   have e:toks ((y::la)++ls) ((k::ka)++ks)=Tok.T y::Tok.K k::toks (z::zs) (ka++ks):=by simp only [List.cons_append,toks,hz,KT]
   rw [e,ih]
   rfl
theorem KT_right:∀ {ur:List Sb} {uk:List Bs} {lb:List Sb} {kb:List Bs},ur.length=uk.length→KT (uk++kb) (ur++lb)=KT uk ur++KT kb lb
 | [],[],lb,kb,_=>rfl
 | [],_::_,_,_,h=>by cases h
 | _::_,[],_,_,h=>by cases h
 | y::la,k::ka,ls,ks,h=>by
  simp only [List.cons_append,KT]
  rw [KT_right (by simpa using h)]
theorem toks_right {us:List Sb} {uk:List Bs} {lb:List Sb} {kb:List Bs} (h:us.length=uk.length+1):toks (us++lb) (uk++kb)=toks us uk++KT kb lb:=by
 cases us with
 | nil=>cases h
 | cons x r =>
  simp only [List.cons_append,toks]
  rw [KT_right (by simpa using h)]
theorem toks_mid {la us lb:List Sb} {ka uk kb:List Bs} (h1:la.length=ka.length) (h2:us.length=uk.length+1):toks (la++us++lb) (ka++uk++kb)=TK la ka++toks us uk++KT kb lb:=by
 have hn:us++lb≠[]:=by
  cases us with
  | nil=>cases h2
  | cons _ _=>simp
 rw [List.append_assoc,List.append_assoc,toks_left h1 hn,toks_right h2,List.append_assoc]
theorem toks_join {la lb:List Sb} {ka kb:List Bs} {k:Bs} (h1:la.length=ka.length+1) (h2:lb≠[]):toks (la++lb) (ka++k::kb)=toks la ka++.K k::toks lb kb:=by
 rw [toks_right h1]
 cases lb with
 | nil=>exact absurd rfl h2
 | cons x r=>rfl
theorem mem_toks {t:Tok}:∀ {ls:List Sb} {ks:List Bs},t∈toks ls ks→(∃ x∈ls,t=.T x)∨∃ k∈ks,t=.K k:=by
 have key:∀ {ks:List Bs} {ls:List Sb},t∈KT ks ls→(∃ x∈ls,t=.T x)∨∃ k∈ks,t=.K k:=by
  intro ks
  induction ks with
  | nil=>intro ls h;simp [KT] at h
  | cons k ks ih =>
   intro ls h
   cases ls with
   | nil=>simp [KT] at h
   | cons x r =>
    simp only [KT,List.mem_cons] at h
    rcases h with rfl|rfl|h
    ·exact .inr ⟨k,by simp,rfl⟩
    ·exact .inl ⟨x,by simp,rfl⟩
    ·rcases ih h with ⟨y,hy,e⟩|⟨y,hy,e⟩
     ·exact .inl ⟨y,List.mem_cons_of_mem _ hy,e⟩
     ·exact .inr ⟨y,List.mem_cons_of_mem _ hy,e⟩
 intro ls ks h
 cases ls with
 | nil=>simp [toks] at h
 | cons x r =>
  simp only [toks,List.mem_cons] at h
  rcases h with rfl|h
  ·exact .inl ⟨x,by simp,rfl⟩
  ·rcases key h with ⟨y,hy,e⟩|⟨y,hy,e⟩
   ·exact .inl ⟨y,List.mem_cons_of_mem _ hy,e⟩
   ·exact .inr ⟨y,hy,e⟩
theorem T_mem_KT {x:Sb}:∀ {ks:List Bs} {ls:List Sb},ls.length=ks.length→x∈ls→Tok.T x∈KT ks ls
 | [],[],_,hx=>by cases hx
 | [],_::_,h,_=>by cases h
 | _::_,[],h,_=>by cases h
 | k::ks,y::r,h,hx=>by
  simp only [KT,List.mem_cons]
  rcases List.mem_cons.1 hx with rfl|hx
  ·exact .inr (.inl rfl)
  ·exact .inr (.inr (T_mem_KT (by simpa using h) hx))
theorem T_mem {x:Sb}:∀ {ls:List Sb} {ks:List Bs},ls.length=ks.length+1→x∈ls→Tok.T x∈toks ls ks
 | [],_,_,hx=>by cases hx
 | y::r,ks,h,hx=>by
  simp only [toks,List.mem_cons]
  rcases List.mem_cons.1 hx with rfl|hx
  ·exact .inl rfl
  ·exact .inr (T_mem_KT (by simpa using h) hx)
theorem K_mem {k:Bs}:∀ {ls:List Sb} {ks:List Bs},ls.length=ks.length+1→k∈ks→Tok.K k∈toks ls ks:=by
 have key:∀ {ks:List Bs} {ls:List Sb},ls.length=ks.length→k∈ks→Tok.K k∈KT ks ls:=by
  intro ks
  induction ks with
  | nil=>intro ls h hx;cases hx
  | cons k' ks ih =>
   intro ls h hx
   cases ls with
   | nil=>cases h
   | cons y r =>
    simp only [KT,List.mem_cons]
    rcases List.mem_cons.1 hx with rfl|hx
    ·exact .inl rfl
    ·exact .inr (.inr (ih (by simpa using h) hx))
 intro ls ks h hx
 cases ls with
 | nil=>cases h
 | cons y r =>
  simp only [toks,List.mem_cons]
  exact .inr (key (by simpa using h) hx)
theorem key_between {ls:List Sb} {ks:List Bs} (hl:ls.length=ks.length+1) (hp:(toks ls ks).Pairwise RT) (hn:∀ x∈ls,x.its≠[]) {k:Bs} (hk:k∈ks) :
  (∃ a∈ls.flatMap (·.its),iM a.1 k)∧∃ b∈ls.flatMap (·.its),kle k b.1:=by
 obtain ⟨ka,kb,rfl⟩:=List.append_of_mem hk
 have hl2:ls.length=ka.length+1+kb.length+1:=by simp at hl;omega
 obtain ⟨la,lb,rfl,hla⟩:∃ la lb,ls=la++lb∧la.length=ka.length+1:=⟨ls.take (ka.length+1),ls.drop (ka.length+1),(List.take_append_drop _ _).symm,by simp;omega⟩
 have hlb:lb.length=kb.length+1:=by simp at hl2;omega
 have hb0:lb≠[]:=by intro e;subst e;cases hlb
 rw [toks_join hla hb0] at hp
 obtain ⟨p1,p2,p3⟩:=List.pairwise_append.1 hp
 obtain ⟨p4,p5⟩:=List.pairwise_cons.1 p2
 have ha0:la≠[]:=by intro e;subst e;cases hla
 obtain ⟨x,hx⟩:=List.exists_mem_of_ne_nil _ ha0
 obtain ⟨y,hy⟩:=List.exists_mem_of_ne_nil _ hb0
 obtain ⟨a,ha⟩:=List.exists_mem_of_ne_nil _ (hn x (by simp [hx]))
 obtain ⟨b,hb⟩:=List.exists_mem_of_ne_nil _ (hn y (by simp [hy]))
 have r1:=p3 (.T x) (T_mem hla hx) (.K k) (by simp)
 have r2:=p4 (.T y) (T_mem hlb hy)
 refine ⟨⟨a,List.mem_flatMap.2 ⟨x,by simp [hx],ha⟩,r1 a ha⟩,⟨b,List.mem_flatMap.2 ⟨y,by simp [hy],hb⟩,r2 b hb⟩⟩
theorem before_all {t:Tok} {ls:List Sb} {ks:List Bs} (hl:ls.length=ks.length+1) (hp:(toks ls ks).Pairwise RT) (hn:∀ x∈ls,x.its≠[]) (h:∀ a∈ls.flatMap (·.its),tb t a.1):∀ u∈toks ls ks,RT t u:=by
 intro u hu
 rcases mem_toks hu with ⟨x,hx,rfl⟩|⟨k,hk,rfl⟩
 ·exact RT_T.2 λ a ha=>h a (List.mem_flatMap.2 ⟨x,hx,ha⟩)
 ·obtain ⟨⟨a,ha,h1⟩,_⟩:=key_between hl hp hn hk
  exact tb_K (h a ha) h1
theorem after_all {t:Tok} {ls:List Sb} {ks:List Bs} (hl:ls.length=ks.length+1) (hp:(toks ls ks).Pairwise RT) (hn:∀ x∈ls,x.its≠[]) (h:∀ a∈ls.flatMap (·.its),ta a.1 t):∀ u∈toks ls ks,RT u t:=by
 intro u hu
 rcases mem_toks hu with ⟨x,hx,rfl⟩|⟨k,hk,rfl⟩
 ·exact T_RT.2 λ a ha=>h a (List.mem_flatMap.2 ⟨x,hx,ha⟩)
 ·obtain ⟨_,b,hb,h1⟩:=key_between hl hp hn hk
  exact K_ta (h b hb) h1
theorem splice_ok {la us lb:List Sb} {ka uk kb:List Bs} {old:List Tok} (hp:(TK la ka++old++KT kb lb).Pairwise RT) (h2:us.length=uk.length+1) (hu:(toks us uk).Pairwise RT) (hn:∀ x∈us,x.its≠[])
  (hb:∀ t∈TK la ka,∀ a∈us.flatMap (·.its),tb t a.1) (ha:∀ t∈KT kb lb,∀ a∈us.flatMap (·.its),ta a.1 t):(TK la ka++toks us uk++KT kb lb).Pairwise RT:=by
 obtain ⟨p1,p2,p3⟩:=List.pairwise_append.1 hp
 obtain ⟨p4,p5,p6⟩:=List.pairwise_append.1 p1
 refine List.pairwise_append.2 ⟨List.pairwise_append.2 ⟨p4,hu,λ t ht u hu'=>before_all h2 hu hn (hb t ht) u hu'⟩,p2,λ u hu' t ht=>?_⟩
 rcases List.mem_append.1 hu' with h|h
 ·exact p3 u (List.mem_append_left _ h) t ht
 ·exact after_all h2 hu hn (ha t ht) u h
theorem join_ok {la lb:List Sb} {ka kb:List Bs} {k:Bs} (h1:la.length=ka.length+1) (h2:lb.length=kb.length+1) (hp:(toks la ka).Pairwise RT) (hq:(toks lb kb).Pairwise RT) (hn:∀ x∈la,x.its≠[]) (hm:∀ x∈lb,x.its≠[])
  (ha:∀ a∈la.flatMap (·.its),iM a.1 k) (hb:∀ b∈lb.flatMap (·.its),kle k b.1):(toks (la++lb) (ka++k::kb)).Pairwise RT:=by
 have hb0:lb≠[]:=by intro e;subst e;cases h2
 rw [toks_join h1 hb0]
 have r1:∀ u∈toks la ka,RT u (.K k):=after_all h1 hp hn (λ a h=>ha a h)
 have r2:∀ u∈toks lb kb,RT (.K k) u:=before_all h2 hq hm (λ a h=>hb a h)
 refine List.pairwise_append.2 ⟨hp,List.pairwise_cons.2 ⟨r2,hq⟩,λ u hu t ht=>?_⟩
 rcases List.mem_cons.1 ht with rfl|ht
 ·exact r1 u hu
 ·exact RT_K (r1 u hu) (r2 t ht)
def Vt (s:Pg):Nat→Nd→dS→List Nat→Prop
 | 0,nd,l,ps=>nd=⟨l,[],[]⟩∧ps=[]∧Srt l∧∀ x∈l,dR x.1=true∧gH x.2=true
 | h+1,nd,l,ps=>∃ ls:List Sb,nd.items=[]∧nd.kids=ls.map (·.page)∧ls.length=nd.keys.length+1∧(toks ls nd.keys).Pairwise RT∧(∀ k∈nd.keys,dR k=true) ∧
  l=ls.flatMap (·.its)∧ps=ls.flatMap (λ x=>x.page::x.ps)∧∀ x∈ls,∃ nd',dQ s x.page=some nd'∧4≤bK nd'∧Vt s h nd' x.its x.ps
theorem Vt.ext {s s':Pg} (hx:Ext s s'):∀ {h:Nat} {nd:Nd} {l:dS} {ps:List Nat},Vt s h nd l ps→Vt s' h nd l ps
 | 0,_,_,_,h=>h
 | h+1,nd,l,ps,⟨ls,h1,h2,h3,h4,h5,h6,h7,h8⟩=>⟨ls,h1,h2,h3,h4,h5,h6,h7,λ x hx2=>by
  obtain ⟨nd',g1,g2,g3⟩:=h8 x hx2
  exact ⟨nd',hx.node g1,g2,g3.ext hx⟩⟩
theorem Vt.items {s:Pg}:∀ {h:Nat} {nd:Nd} {l:dS} {ps:List Nat},Vt s h nd l ps→∀ x∈l,dR x.1=true∧gH x.2=true
 | 0,_,_,_,h=>h.2.2.2
 | h+1,nd,l,ps,⟨ls,h1,h2,h3,h4,h5,h6,h7,h8⟩=>by
  subst h6
  intro x hx
  obtain ⟨y,hy,hxy⟩:=List.mem_flatMap.1 hx
  obtain ⟨nd',g1,g2,g3⟩:=h8 y hy
  exact g3.items x hxy
theorem Vt.ne {s:Pg}:∀ {h:Nat} {nd:Nd} {l:dS} {ps:List Nat},Vt s h nd l ps→1≤bK nd→l≠[]
 | 0,_,_,_,h,hs=>by
  obtain ⟨rfl,rfl,_⟩:=h
  intro e;subst e;simp [bK] at hs
 | h+1,nd,l,ps,⟨ls,h1,h2,h3,h4,h5,h6,h7,h8⟩,hs=>by
  subst h6
  cases ls with
  | nil=>cases h3
  | cons x r =>
   obtain ⟨nd',g1,g2,g3⟩:=h8 x (by simp)
   have:=g3.ne (by omega)
   intro e
   simp only [List.flatMap_cons,List.append_eq_nil_iff] at e
   exact this e.1
theorem Vt.same {s:Pg}:∀ {h:Nat} {nd:Nd} {l l':dS} {ps ps':List Nat},Vt s h nd l ps→Vt s h nd l' ps'→l=l'∧ps=ps'
 | 0,_,_,_,_,_,h,k=>by
  obtain ⟨e1,e2,_⟩:=h
  obtain ⟨e3,e4,_⟩:=k
  rw [e1] at e3
  simp only [Nd.mk.injEq,and_true] at e3
  exact ⟨e3,e2.trans e4.symm⟩
 | h+1,nd,l,l',ps,ps',⟨ls,h1,h2,h3,h4,h5,h6,h7,h8⟩,⟨ls',k1,k2,k3,k4,k5,k6,k7,k8⟩=>by
  have e:ls=ls':=by
   rw [h2] at k2
   clear h1 h2 h3 h4 h5 h6 h7 k1 k3 k4 k5 k6 k7
   induction ls generalizing ls' with
   | nil=>cases ls' with
    | nil=>rfl
    | cons _ _=>simp at k2
   | cons x r ih=>cases ls' with
    | nil=>simp at k2
    | cons y r' =>
     simp only [List.map_cons,List.cons.injEq] at k2
     obtain ⟨nd1,g1,g2,g3⟩:=h8 x (by simp)
     obtain ⟨nd2,g4,g5,g6⟩:=k8 y (by simp)
     rw [← k2.1,g1] at g4
     cases g4
     obtain ⟨e1,e2⟩:=g3.same g6
     have exy:x=y:=by
      cases x;cases y
      simp only at k2 e1 e2 ⊢
      rw [k2.1,e1,e2]
     rw [exy,ih (λ z hz=>h8 z (List.mem_cons_of_mem _ hz)) r' k2.2 (λ z hz=>k8 z (List.mem_cons_of_mem _ hz))]
  subst e
  exact ⟨h6.trans k6.symm,h7.trans k7.symm⟩
theorem srt_KT:∀ {ks:List Bs} {ls:List Sb},ls.length=ks.length→(KT ks ls).Pairwise RT→(∀ x∈ls,Srt x.its)→Srt (ls.flatMap (·.its))
 | [],[],_,_,_=>List.Pairwise.nil
 | [],_::_,h,_,_=>by cases h
 | _::_,[],h,_,_=>by cases h
 | k::ks,x::r,h,hp,hs=>by
  simp only [KT] at hp
  obtain ⟨h3,h4⟩:=List.pairwise_cons.1 (List.pairwise_cons.1 hp).2
  have hr:r.length=ks.length:=by simpa using h
  simp only [List.flatMap_cons]
  refine List.pairwise_append.2 ⟨hs x (by simp),srt_KT hr h4 (λ y hy=>hs y (List.mem_cons_of_mem _ hy)),λ a ha b hb=>?_⟩
  obtain ⟨y,hy,hby⟩:=List.mem_flatMap.1 hb
  exact h3 _ (T_mem_KT hr hy) a ha b hby
theorem srt_flat {ls:List Sb} {ks:List Bs} (hl:ls.length=ks.length+1) (hp:(toks ls ks).Pairwise RT) (hs:∀ x∈ls,Srt x.its):Srt (ls.flatMap (·.its)):=by
 cases ls with
 | nil=>exact List.Pairwise.nil
 | cons x r =>
  simp only [toks] at hp
  obtain ⟨h3,h4⟩:=List.pairwise_cons.1 hp
  have hr:r.length=ks.length:=by simpa using hl
  simp only [List.flatMap_cons]
  refine List.pairwise_append.2 ⟨hs x (by simp),srt_KT hr h4 (λ y hy=>hs y (List.mem_cons_of_mem _ hy)),λ a ha b hb=>?_⟩
  obtain ⟨y,hy,hby⟩:=List.mem_flatMap.1 hb
  exact h3 _ (T_mem_KT hr hy) a ha b hby
theorem Vt.srt {s:Pg}:∀ {h:Nat} {nd:Nd} {l:dS} {ps:List Nat},Vt s h nd l ps→Srt l
 | 0,_,_,_,h=>h.2.2.1
 | h+1,nd,l,ps,⟨ls,h1,h2,h3,h4,h5,h6,h7,h8⟩=>by
  subst h6
  refine srt_flat h3 h4 λ x hx=>?_
  obtain ⟨nd',g1,g2,g3⟩:=h8 x hx
  exact g3.srt
end Go.Proofs.YtfpadnmdafiddaaGreatDoor
namespace Go.Proofs.YtfpadnmdafiddaaGreatDoor
theorem iO {s:Pg} {n:Nat} {nd:Nd} (h:dQ s n=some nd):cH nd=true:=by
 unfold dQ at h
 split at h
 ·exact readN_ok h
 ·cases h
theorem eQ {s:Pg} {n:Nat} {nd:Nd} (h:dQ s n=some nd):cV s n=true:=by
 unfold dQ at h
 split at h
 ·assumption
 ·cases h
theorem eF {s:Pg} {n:Nat} (h:cV s n=true):n<s.count:=by
 simp only [cV,Bool.and_eq_true,decide_eq_true_eq] at h
 exact h.1
theorem leaf_ok {l:dS} (hs:Srt l) (hk:∀ x∈l,dR x.1=true∧gH x.2=true) (h8:l.length≤8):cH ⟨l,[],[]⟩=true:=by
 unfold cH
 rw [if_pos (by rfl)]
 simp only [wholeL,Bool.and_eq_true,decide_eq_true_eq,List.isEmpty_nil,true_and]
 refine ⟨h8,nB λ i hi=>?_⟩
 have h1:=hk _ (List.getElem_mem hi)
 cases i with
 | zero=>simp only [iB,List.getElem?_eq_getElem hi,h1.1,h1.2,Bool.and_self]
 | succ j =>
  have hj:j<l.length:=by omega
  have h2:=(List.pairwise_iff_getElem.1 hs) j (j+1) hj hi (by omega)
  simp only [iB,List.getElem?_eq_getElem hi,List.getElem?_eq_getElem hj,h1.1,h1.2,Bool.and_self,Bool.true_and,decide_eq_true_eq]
  exact h2
theorem keys_at {l:List Bs} (hs:l.Pairwise iM) (hk:∀ x∈l,dR x=true):gF (jP l) l.length=true:=by
 refine nB λ i hi=>?_
 have h1:=hk _ (List.getElem_mem hi)
 cases i with
 | zero=>simp only [jP,List.getElem?_eq_getElem hi,h1,Bool.and_self]
 | succ j =>
  have hj:j<l.length:=by omega
  have h2:=(List.pairwise_iff_getElem.1 hs) j (j+1) hj hi (by omega)
  simp only [jP,List.getElem?_eq_getElem hi,List.getElem?_eq_getElem hj,h1,Bool.true_and,decide_eq_true_eq]
  exact h2
theorem kids_at {l:List Nat} (hn:l.Nodup) (hk:∀ x∈l,x<2147483648):gF (kO l) l.length=true:=by
 refine nB λ i hi=>?_
 have h1:=hk _ (List.getElem_mem hi)
 simp only [kO,List.getElem?_eq_getElem hi,Bool.and_eq_true,decide_eq_true_eq,Bool.not_eq_true',h1,true_and]
 rw [← Bool.not_eq_true,List.contains_iff_mem]
 intro hm
 obtain ⟨j,hj,e⟩:=List.mem_take_iff_getElem.1 hm
 have:=(List.pairwise_iff_getElem.1 hn) j i (by omega) hi (by omega)
 exact this e
theorem KT_keys:∀ {ks:List Bs} {ls:List Sb},ls.length=ks.length→(KT ks ls).Pairwise RT→ks.Pairwise iM
 | [],_,_,_=>List.Pairwise.nil
 | k::ks,[],h,_=>by cases h
 | k::ks,x::r,h,hp=>by
  simp only [KT] at hp
  obtain ⟨h1,h2⟩:=List.pairwise_cons.1 hp
  have hr:r.length=ks.length:=by simpa using h
  refine List.pairwise_cons.2 ⟨λ l hl=>?_,KT_keys hr (List.pairwise_cons.1 h2).2⟩
  have:Tok.K l∈KT ks r:=by
   have:=K_mem (ls:=x::r) (ks:=ks) (by simpa using h) hl
   simp only [toks,List.mem_cons] at this
   rcases this with e|e
   ·cases e
   ·exact e
  exact h1 (.K l) (by simp [this])
theorem toks_keys {ls:List Sb} {ks:List Bs} (h:ls.length=ks.length+1) (hp:(toks ls ks).Pairwise RT):ks.Pairwise iM:=by
 cases ls with
 | nil=>cases h
 | cons x r =>
  simp only [toks] at hp
  exact KT_keys (by simpa using h) (List.pairwise_cons.1 hp).2
theorem pages_nodup {s:Pg} {h:Nat}:∀ {ks:List Bs} {ls:List Sb},ls.length=ks.length+1→(toks ls ks).Pairwise RT→(∀ x∈ls,∃ nd',dQ s x.page=some nd'∧4≤bK nd'∧Vt s h nd' x.its x.ps)→(ls.map (·.page)).Nodup:=by
 intro ks ls hl hp hv
 refine List.pairwise_map.2 ?_
 have key:∀ {ls:List Sb} {ks:List Bs},ls.length=ks.length+1→(toks ls ks).Pairwise RT→ls.Pairwise λ x y=>RT (.T x) (.T y):=by
  intro ls
  induction ls with
  | nil=>intro ks _ _;exact List.Pairwise.nil
  | cons x r ih =>
   intro ks hl hp
   simp only [toks] at hp
   obtain ⟨h1,h2⟩:=List.pairwise_cons.1 hp
   have hr:r.length=ks.length:=by simpa using hl
   refine List.pairwise_cons.2 ⟨λ y hy=>h1 _ (T_mem_KT hr hy),?_⟩
   cases r with
   | nil=>exact List.Pairwise.nil
   | cons z zs=>cases ks with
    | nil=>cases hr
    | cons k ks =>
     simp only [KT] at h2
     exact ih (ks:=ks) (by simpa using hr) (List.pairwise_cons.1 h2).2
 have h1:=key hl hp
 refine List.Pairwise.imp_of_mem (λ {x y} hx hy hxy e=>?_) h1
 obtain ⟨n1,g1,g2,g3⟩:=hv x hx
 obtain ⟨n2,g4,g5,g6⟩:=hv y hy
 rw [← e,g1] at g4
 cases g4
 have es:=(g3.same g6).1
 obtain ⟨a,ha⟩:=List.exists_mem_of_ne_nil _ (g3.ne (by omega))
 exact dF _ (hxy a ha a (by rw [← es];exact ha))
theorem branch_ok {s:Pg} (hs:PgOk s) {h:Nat} {nd:Nd} {l:dS} {ps:List Nat} (hv:Vt s (h+1) nd l ps) (h2:2≤nd.kids.length) (h8:nd.kids.length≤8):cH nd=true:=by
 obtain ⟨ls,e1,e2,e3,e4,e5,e6,e7,e8⟩:=hv
 unfold cH
 rw [if_neg (by rw [dK];intro e;rw [e] at h2;simp at h2)]
 simp only [wholeB,Bool.and_eq_true,decide_eq_true_eq,List.isEmpty_iff]
 refine ⟨⟨⟨⟨⟨e1,h2⟩,h8⟩,?_⟩,?_⟩,?_⟩
 ·rw [e2,List.length_map,e3]
 ·rw [e2]
  refine kids_at (pages_nodup e3 e4 e8) λ x hx=>?_
  obtain ⟨y,hy,rfl⟩:=List.mem_map.1 hx
  obtain ⟨n1,g1,_⟩:=e8 y hy
  have:=eF (eQ g1)
  have:=hs.cnt
  omega
 ·exact keys_at (toks_keys e3 e4) e5
theorem Vt.ok {s:Pg} (hs:PgOk s) {h:Nat} {nd:Nd} {l:dS} {ps:List Nat} (hv:Vt s h nd l ps) (h2:2≤bK nd∨h=0) (h8:bK nd≤8):cH nd=true:=by
 cases h with
 | zero =>
  obtain ⟨rfl,_,h3,h4⟩:=hv
  exact leaf_ok h3 h4 (by simpa [bK] using h8)
 | succ h =>
  have hv':=hv
  obtain ⟨ls,e1,_⟩:=hv'
  have hz:bK nd=nd.kids.length:=by simp [bK,e1]
  rw [hz] at h2 h8
  exact branch_ok hs hv (by omega) h8
theorem kid_split {ls:List Sb} {ks:List Bs} (hl:ls.length=ks.length+1) (hp:(toks ls ks).Pairwise RT) (key:Bs) :
  ∃ la x lb ka kb,ls=la++x::lb∧ks=ka++kb∧la.length=iR ks key∧ka.length=la.length∧kb.length=lb.length∧(∀ t∈TK la ka,tb t key)∧(∀ t∈KT kb lb,ta key t)∧(TK la ka++[Tok.T x]++KT kb lb).Pairwise RT:=by
 have hi:iR ks key≤ks.length:=fZ _ _
 generalize hi0:iR ks key=i at hi
 have hka:∀ k∈ks.take i,kle k key:=by
  intro k hk
  obtain ⟨j,hj,rfl⟩:=List.mem_take_iff_getElem.1 hk
  have:=jR (λ x=>decide (dU x key≤0)) ks j _ (show j<iR ks key by omega) (List.getElem?_eq_getElem (by omega))
  exact cmpB_le.1 (by simpa using this)
 have hkb:∀ k∈ks.drop i,iM key k:=by
  have hsort:=toks_keys hl hp
  intro k hk
  obtain ⟨j,hj,rfl⟩:=List.mem_drop_iff_getElem.1 hk
  have hlt:i<ks.length:=by omega
  have h1:iM key ks[i]:=by
   have:=takeWhile_at (λ x=>decide (dU x key≤0)) ks ks[i] (by rw [show (ks.takeWhile λ x=>decide (dU x key≤0)).length=i from hi0];exact List.getElem?_eq_getElem hlt)
   rcases klt_or key ks[i] with g|g|g
   ·exact g
   ·rw [← g,cmpB_self] at this;simp at this
   ·have h2:=cmpB_le.2 (lE g)
    simp at this
    omega
  cases j with
  | zero=>simpa using h1
  | succ j=>exact gD h1 ((List.pairwise_iff_getElem.1 hsort) i (i+(j+1)) hlt (by omega) (by omega))
 have hx:i<ls.length:=by omega
 have e1:ls=ls.take i++ls[i]::ls.drop (i+1):=by
  rw [← List.drop_eq_getElem_cons hx,List.take_append_drop]
 have e2:ks=ks.take i++ks.drop i:=(List.take_append_drop _ _).symm
 have l1:(ls.take i).length=(ks.take i).length:=by simp;omega
 have l2:(ks.drop i).length=(ls.drop (i+1)).length:=by simp;omega
 have et:toks ls ks=TK (ls.take i) (ks.take i)++[Tok.T ls[i]]++KT (ks.drop i) (ls.drop (i+1)):=by
  have:=toks_mid (la:=ls.take i) (us:=[ls[i]]) (lb:=ls.drop (i+1)) (ka:=ks.take i) (uk:=[]) (kb:=ks.drop i) l1 rfl
  rw [← show TK (ls.take i) (ks.take i)++toks [ls[i]] []++KT (ks.drop i) (ls.drop (i+1))=TK (ls.take i) (ks.take i)++[Tok.T ls[i]]++KT (ks.drop i) (ls.drop (i+1)) from rfl,← this]
  congr 1
  ·simpa using e1
  ·simpa using e2
 rw [et] at hp
 refine ⟨ls.take i,ls[i],ls.drop (i+1),ks.take i,ks.drop i,e1,e2,by simp;omega,l1.symm,l2,?_,?_,hp⟩
 ·
  have key1:∀ {la:List Sb} {ka:List Bs},la.length=ka.length→(TK la ka).Pairwise RT→(∀ k∈ka,kle k key)→∀ t∈TK la ka,tb t key:=by
   intro la
   induction la with
   | nil=>intro ka _ _ _ t ht;simp [TK] at ht
   | cons x la ih =>
    intro ka h hp hk t ht
    cases ka with
    | nil=>cases h
    | cons k ka =>
     simp only [TK] at hp ht
     obtain ⟨p1,p2⟩:=List.pairwise_cons.1 hp
     rcases List.mem_cons.1 ht with rfl|ht
     ·exact tb_of_K (p1 (.K k) (by simp)) (hk k (by simp))
     ·rcases List.mem_cons.1 ht with rfl|ht
      ·exact hk k (by simp)
      ·exact ih (by simpa using h) (List.pairwise_cons.1 p2).2 (λ k hk2=>hk k (List.mem_cons_of_mem _ hk2)) t ht
  exact key1 l1 (List.pairwise_append.1 (List.pairwise_append.1 hp).1).1 hka
 ·have key2:∀ {kb:List Bs} {lb:List Sb},kb.length=lb.length→(KT kb lb).Pairwise RT→(∀ k∈kb,iM key k)→∀ t∈KT kb lb,ta key t:=by
   intro kb
   induction kb with
   | nil=>intro lb _ _ _ t ht;simp [KT] at ht
   | cons k kb ih =>
    intro lb h hp hk t ht
    cases lb with
    | nil=>cases h
    | cons x lb =>
     simp only [KT] at hp ht
     obtain ⟨p1,p2⟩:=List.pairwise_cons.1 hp
     rcases List.mem_cons.1 ht with rfl|ht
     ·exact hk k (by simp)
     ·rcases List.mem_cons.1 ht with rfl|ht
      ·exact ta_of_K (p1 (.T x) (by simp)) (hk k (by simp))
      ·exact ih (by simpa using h) (List.pairwise_cons.1 p2).2 (λ k hk2=>hk k (List.mem_cons_of_mem _ hk2)) t ht
  exact key2 l2 (List.pairwise_append.1 hp).2.1 hkb
theorem TK_its {la:List Sb} {key:Bs}:∀ {ka:List Bs},la.length=ka.length→(∀ t∈TK la ka,tb t key)→∀ a∈la.flatMap (·.its),iM a.1 key:=by
 induction la with
 | nil=>intro ka _ _ a ha;simp at ha
 | cons x la ih =>
  intro ka h ht a ha
  cases ka with
  | nil=>cases h
  | cons k ka =>
   simp only [TK] at ht
   simp only [List.flatMap_cons,List.mem_append] at ha
   rcases ha with ha|ha
   ·exact ht (.T x) (by simp) a ha
   ·exact ih (by simpa using h) (λ t h2=>ht t (by simp [h2])) a ha
theorem KT_its {lb:List Sb} {key:Bs}:∀ {kb:List Bs},kb.length=lb.length→(∀ t∈KT kb lb,ta key t)→∀ a∈lb.flatMap (·.its),iM key a.1:=by
 induction lb with
 | nil=>intro ka _ _ a ha;simp at ha
 | cons x la ih =>
  intro ka h ht a ha
  cases ka with
  | nil=>cases h
  | cons k ka =>
   simp only [KT] at ht
   simp only [List.flatMap_cons,List.mem_append] at ha
   rcases ha with ha|ha
   ·exact ht (.T x) (by simp) a ha
   ·exact ih (by simpa using h) (λ t h2=>ht t (by simp [h2])) a ha
end Go.Proofs.YtfpadnmdafiddaaGreatDoor
namespace Go.Proofs.YtfpadnmdafiddaaGreatDoor
theorem lS (x:Bs×Bs) (l:dS) (key:Bs):fX (x::l) key=if iM x.1 key then fX l key+1 else 0:=by
 unfold fX
 rw [List.takeWhile_cons]
 by_cases h:iM x.1 key
 ·rw [if_pos h,if_pos (show decide (dU x.1 key<0)=true by simpa [iM] using h)];rfl
 ·rw [if_neg h,if_neg (show ¬ decide (dU x.1 key<0)=true by simpa [iM] using h)];rfl
theorem thereN_cons (x:Bs×Bs) (l:dS) (key:Bs):gA (x::l) key=if iM x.1 key then gA l key else decide (x.1=key):=by
 unfold gA
 rw [lS]
 by_cases h:iM x.1 key
 ·simp only [if_pos h,List.getElem?_cons_succ]
 ·simp only [if_neg h,List.getElem?_cons_zero]
  by_cases e:x.1=key
  ·simp [e,cmpB_self]
  ·have:dU x.1 key≠0:=λ g=>e (cmpB_eq g)
   simp [e,this]
theorem ins_eq (key v:Bs):∀ l:dS,(if gA l key then dE (cL l (fX l key) (fX l key+1)) (fX l key) [(key,v)] else dE l (fX l key) [(key,v)])=hE key v l
 | []=>rfl
 | x::l=>by
  have ih:=ins_eq key v l
  rw [lS,thereN_cons,hE]
  by_cases h:iM x.1 key
  ·simp only [if_pos h,← ih]
   split<;>simp [dE,cL]
  ·simp only [if_neg h]
   by_cases e:x.1=key<;>simp [e,dE,cL]
theorem mV (key:Bs):∀ {l:dS},Srt l→(gA l key=true↔∃ x∈l,x.1=key)
 | [],_=>by simp [gA,fX]
 | x::l,h=>by
  obtain ⟨h1,h2⟩:=List.pairwise_cons.1 h
  rw [thereN_cons]
  by_cases hx:iM x.1 key
  ·rw [if_pos hx,mV key h2]
   constructor
   ·rintro ⟨y,hy,e⟩;exact ⟨y,List.mem_cons_of_mem _ hy,e⟩
   ·rintro ⟨y,hy,e⟩
    rcases List.mem_cons.1 hy with rfl|hy
    ·rw [e] at hx;exact absurd hx (dF _)
    ·exact ⟨y,hy,e⟩
  ·rw [if_neg hx,decide_eq_true_eq]
   constructor
   ·intro e;exact ⟨x,by simp,e⟩
   ·rintro ⟨y,hy,e⟩
    rcases List.mem_cons.1 hy with rfl|hy
    ·exact e
    ·have:=h1 y hy
     rw [e] at this
     exact absurd this hx
theorem insI_len (key v:Bs):∀ l:dS,l.length≤(hE key v l).length∧(hE key v l).length≤l.length+1
 | []=>by simp [hE]
 | x::l=>by
  have ih:=insI_len key v l
  unfold hE
  split
  ·simp only [List.length_cons];omega
  ·split<;>simp
def pgs (ls:List Sb):List Nat:=ls.flatMap λ x=>x.page::x.ps
theorem iW (a b:List Sb):pgs (a++b)=pgs a++pgs b:=List.flatMap_append ..
theorem pgs_one (x:Sb):pgs [x]=x.page::x.ps:=by simp [pgs]
structure Up (s s':Pg) (h m:Nat) (up:Nd) (l:dS) (uls:List Sb):Prop where
 items:up.items=[]
 kids:up.kids=uls.map (·.page)
 len:uls.length=up.keys.length+1
 two:uls.length≤2
 toks:(toks uls up.keys).Pairwise RT
 keys:∀ k∈up.keys,dR k=true
 its:l=uls.flatMap (·.its)
 sub:∀ x∈uls,∃ nd',dQ s' x.page=some nd'∧min m 4≤bK nd'∧Vt s' h nd' x.its x.ps
 ext:Ext s s'
 ok:PgOk s'
 big:uls.length=2→∀ x∈uls,∃ nd',dQ s' x.page=some nd'∧4≤bK nd'
theorem split_leaf {l:dS} (h:l.length=9):l=l.take 4++l.drop 4∧(l.take 4).length=4∧(l.drop 4).length=5:=⟨(List.take_append_drop _ _).symm,by simp;omega,by simp;omega⟩
theorem store_up {s:Pg} (hs:PgOk s) {h:Nat} {N:Nd} {l:dS} {ps:List Nat} (hv:Vt s h N l ps) (h1:2≤bK N∨h=0) (h9:bK N≤9) (hsp:2≤cP s) :
  ∃ up s' uls,storeP s N=some (up,s')∧Up s s' h (bK N) up l uls∧cP s'+(pgs uls).length=cP s+ps.length∧(pgs uls).length≤ps.length+2:=by
 unfold storeP
 by_cases hz:8<bK N
 ·rw [if_pos hz]
  have hz9:bK N=9:=by omega
  cases h with
  | zero =>
   obtain ⟨rfl,rfl,h3,h4⟩:=hv
   have hl:l.length=9:=by simpa [bK] using hz9
   obtain ⟨e1,e2,e3⟩:=split_leaf hl
   have hA:(dM ⟨l,[],[]⟩).1=⟨l.take 4,[],[]⟩:=by simp [dM,cK,cL]
   have hB:(dM ⟨l,[],[]⟩).2.1=⟨l.drop 4,[],[]⟩:=by simp [dM,cK,cL]
   have hK:(dM ⟨l,[],[]⟩).2.2=((l.drop 4).getD 0 ([],[])).1:=by simp [dM,cK,cL]
   have hsrt:Srt (l.take 4++l.drop 4):=by rw [← e1];exact h3
   obtain ⟨p1,p2,p3⟩:=List.pairwise_append.1 hsrt
   have hkA:∀ x∈l.take 4,dR x.1=true∧gH x.2=true:=λ x hx=>h4 x (List.mem_of_mem_take hx)
   have hkB:∀ x∈l.drop 4,dR x.1=true∧gH x.2=true:=λ x hx=>h4 x (List.mem_of_mem_drop hx)
   obtain ⟨p,s1,w1,w2⟩:=eY hs (by omega) (leaf_ok p1 hkA (by omega))
   have:=w2.spare
   obtain ⟨q,s2,w3,w4⟩:=eY w2.ok (by omega) (leaf_ok p2 hkB (by omega))
   have:=w4.spare
   rw [hA,hB,hK,w1]
   simp only
   rw [w3]
   obtain ⟨x0,r0,er⟩:∃ x0 r0,l.drop 4=x0::r0:=by
    cases hd:l.drop 4 with
    | nil=>rw [hd] at e3;cases e3
    | cons a b=>exact ⟨a,b,rfl⟩
   refine ⟨_,s2,[⟨p,l.take 4,[]⟩,⟨q,l.drop 4,[]⟩],rfl,⟨rfl,rfl,rfl,by simp,?_,?_,by simp,?_,w2.ext.trans w4.ext,w4.ok,λ _ x hx=>?_⟩,by simp [pgs];omega,by simp [pgs]⟩
   ·simp only [toks,KT,er,List.getD_cons_zero]
    rw [er] at p2 p3
    have r1:RT (.T ⟨p,l.take 4,[]⟩) (.K x0.1):=λ a ha=>p3 a ha x0 (by simp)
    have r2:RT (.K x0.1) (.T ⟨q,x0::r0,[]⟩):=λ b hb=>by
     rcases List.mem_cons.1 hb with rfl|hb
     ·exact kle_refl _
     ·exact lE ((List.pairwise_cons.1 p2).1 b hb)
    refine List.pairwise_cons.2 ⟨λ t ht=>?_,List.pairwise_cons.2 ⟨λ t ht=>?_,List.pairwise_cons.2 ⟨λ t ht=>(by cases ht),List.Pairwise.nil⟩⟩⟩
    ·rcases List.mem_cons.1 ht with rfl|ht
     ·exact r1
     ·rcases List.mem_cons.1 ht with rfl|ht
      ·exact RT_K r1 r2
      ·cases ht
    ·rcases List.mem_cons.1 ht with rfl|ht
     ·exact r2
     ·cases ht
   ·intro k hk
    simp only [List.mem_singleton] at hk
    subst hk
    rw [er]
    exact (hkB x0 (by rw [er];simp)).1
   ·intro x hx
    simp only [List.mem_cons,List.not_mem_nil,or_false] at hx
    rcases hx with rfl|rfl
    ·exact ⟨_,w4.ext.node w2.node,by simp [bK];omega,rfl,rfl,p1,hkA⟩
    ·exact ⟨_,w4.node,by simp [bK];omega,rfl,rfl,p2,hkB⟩
   ·simp only [List.mem_cons,List.not_mem_nil,or_false] at hx
    rcases hx with rfl|rfl
    ·exact ⟨_,w4.ext.node w2.node,by simp [bK];omega⟩
    ·exact ⟨_,w4.node,by simp [bK];omega⟩
  | succ h =>
   obtain ⟨ls,e1,e2,e3,e4,e5,e6,e7,e8⟩:=hv
   have hkl:N.kids.length=9:=by simpa [bK,e1] using hz9
   have hll:ls.length=9:=by rw [← hkl,e2,List.length_map]
   have hyl:N.keys.length=8:=by omega
   have hlf:cK N=false:=by
    cases hh:cK N with
    | false=>rfl
    | true=>rw [dK.1 hh] at hkl;cases hkl
   have e3k:∃ k,N.keys=N.keys.take 3++k::N.keys.drop 4∧N.keys.getD 3 []=k:=by
    have hlt:3<N.keys.length:=by omega
    refine ⟨N.keys[3],?_,by simp [List.getD_eq_getElem?_getD,hlt]⟩
    rw [← List.drop_eq_getElem_cons hlt,List.take_append_drop]
   obtain ⟨k,ek,ek2⟩:=e3k
   have hA:(dM N).1=⟨[],N.kids.take 4,N.keys.take 3⟩:=by simp [dM,hlf,cL]
   have hB:(dM N).2.1=⟨[],N.kids.drop 4,N.keys.drop 4⟩:=by simp [dM,hlf,cL]
   have hK:(dM N).2.2=k:=by simp only [dM,hlf];simpa using ek2
   have el:ls=ls.take 4++ls.drop 4:=(List.take_append_drop _ _).symm
   have l1:(ls.take 4).length=(N.keys.take 3).length+1:=by simp;omega
   have l2:(ls.drop 4).length=(N.keys.drop 4).length+1:=by simp;omega
   have hb0:ls.drop 4≠[]:=by intro e;rw [e] at l2;simp at l2
   have et:toks ls N.keys=toks (ls.take 4) (N.keys.take 3)++.K k::toks (ls.drop 4) (N.keys.drop 4):=by
    rw [← toks_join l1 hb0,← el,← ek]
   rw [et] at e4
   obtain ⟨p1,p2,p3⟩:=List.pairwise_append.1 e4
   obtain ⟨p4,p5⟩:=List.pairwise_cons.1 p2
   have vA:Vt s (h+1) ⟨[],N.kids.take 4,N.keys.take 3⟩ ((ls.take 4).flatMap (·.its)) (pgs (ls.take 4)) :=
    ⟨ls.take 4,rfl,by rw [e2,List.map_take],l1,p1,λ k hk=>e5 k (List.mem_of_mem_take hk),rfl,rfl,λ x hx=>e8 x (List.mem_of_mem_take hx)⟩
   have vB:Vt s (h+1) ⟨[],N.kids.drop 4,N.keys.drop 4⟩ ((ls.drop 4).flatMap (·.its)) (pgs (ls.drop 4)) :=
    ⟨ls.drop 4,rfl,by rw [e2,List.map_drop],l2,p5,λ k hk=>e5 k (List.mem_of_mem_drop hk),rfl,rfl,λ x hx=>e8 x (List.mem_of_mem_drop hx)⟩
   have sA:bK ⟨[],N.kids.take 4,N.keys.take 3⟩=4:=by simp [bK];omega
   have sB:bK ⟨[],N.kids.drop 4,N.keys.drop 4⟩=5:=by simp [bK];omega
   obtain ⟨p,s1,w1,w2⟩:=eY hs (by omega) (vA.ok hs (by omega) (by omega))
   have:=w2.spare
   have vB1:=vB.ext w2.ext
   obtain ⟨q,s2,w3,w4⟩:=eY w2.ok (by omega) (vB1.ok w2.ok (by omega) (by omega))
   have:=w4.spare
   rw [hA,hB,hK,w1]
   simp only
   rw [w3]
   have hp:ps.length=(pgs (ls.take 4)).length+(pgs (ls.drop 4)).length:=by
    rw [e7,show ls.flatMap (λ x=>x.page::x.ps)=pgs ls from rfl]
    conv=>lhs;rw [el]
    rw [iW,List.length_append]
   refine ⟨_,s2,[⟨p,(ls.take 4).flatMap (·.its),pgs (ls.take 4)⟩,⟨q,(ls.drop 4).flatMap (·.its),pgs (ls.drop 4)⟩],rfl,⟨rfl,rfl,rfl,by simp,?_,?_,?_,?_,w2.ext.trans w4.ext,w4.ok,λ _ x hx=>?_⟩,by simp [pgs] at hp ⊢;omega,by simp [pgs] at hp ⊢;omega⟩
   ·have r1:RT (.T ⟨p,(ls.take 4).flatMap (·.its),pgs (ls.take 4)⟩) (.K k):=λ a ha=>by
     obtain ⟨x,hx,hax⟩:=List.mem_flatMap.1 ha
     exact p3 (.T x) (T_mem l1 hx) (.K k) (by simp) a hax
    have r2:RT (.K k) (.T ⟨q,(ls.drop 4).flatMap (·.its),pgs (ls.drop 4)⟩):=λ a ha=>by
     obtain ⟨x,hx,hax⟩:=List.mem_flatMap.1 ha
     exact p4 (.T x) (T_mem l2 hx) a hax
    simp only [toks,KT]
    refine List.pairwise_cons.2 ⟨λ t ht=>?_,List.pairwise_cons.2 ⟨λ t ht=>?_,List.pairwise_cons.2 ⟨λ t ht=>(by cases ht),List.Pairwise.nil⟩⟩⟩
    ·rcases List.mem_cons.1 ht with rfl|ht
     ·exact r1
     ·rcases List.mem_cons.1 ht with rfl|ht
      ·exact RT_K r1 r2
      ·cases ht
    ·rcases List.mem_cons.1 ht with rfl|ht
     ·exact r2
     ·cases ht
   ·intro k' hk
    simp only [List.mem_singleton] at hk
    subst hk
    exact e5 k' (by rw [ek];simp)
   ·simp only [List.flatMap_cons,List.flatMap_nil,List.append_nil]
    rw [← List.flatMap_append,← el]
    exact e6
   ·intro x hx
    simp only [List.mem_cons,List.not_mem_nil,or_false] at hx
    rcases hx with rfl|rfl
    ·exact ⟨_,w4.ext.node w2.node,by omega,(vA.ext w2.ext).ext w4.ext⟩
    ·exact ⟨_,w4.node,by omega,vB1.ext w4.ext⟩
   ·simp only [List.mem_cons,List.not_mem_nil,or_false] at hx
    rcases hx with rfl|rfl
    ·exact ⟨_,w4.ext.node w2.node,by omega⟩
    ·exact ⟨_,w4.node,by omega⟩
 ·rw [if_neg hz]
  obtain ⟨p,s1,w1,w2⟩:=eY hs (by omega) (hv.ok hs h1 (by omega))
  have:=w2.spare
  rw [w1]
  refine ⟨_,s1,[⟨p,l,ps⟩],rfl,⟨rfl,rfl,rfl,by simp,by simp [toks,KT],by simp,by simp,?_,w2.ext,w2.ok,λ h2=>by simp at h2⟩,by simp [pgs];omega,by simp [pgs]⟩
  intro x hx
  simp only [List.mem_singleton] at hx
  subst hx
  exact ⟨N,w2.node,by omega,hv.ext w2.ext⟩
theorem mid_put {α : Type} {la lb us:List α} {x : α}:dE (cL (la++x::lb) la.length (la.length+1)) la.length us=la++us++lb:=by
 have e1:(la++x::lb).take la.length=la:=List.take_left' rfl
 have e2:(la++x::lb).drop (la.length+1)=lb:=by
  rw [← List.drop_drop,List.drop_left' rfl];rfl
 unfold dE cL
 rw [e1,e2,List.take_left' rfl,List.drop_left' rfl]
theorem mid_ins {α : Type} {la lb us:List α}:dE (la++lb) la.length us=la++us++lb:=by
 unfold dE
 rw [List.take_left' rfl,List.drop_left' rfl]
theorem put_up (key v:Bs) (hk:dR key=true) (hval:gH v=true):∀ (h:Nat) {s:Pg} {n f:Nat} {nd:Nd} {l:dS} {ps:List Nat},PgOk s→dQ s n=some nd→Vt s h nd l ps→h<f→1≤bK nd→2*(h+1)≤cP s →
  ∃ fr th,hZ s key f n=some (fr,th)∧fr.length=h+1∧(th=true↔∃ x∈l,x.1=key)∧∃ up s' uls,putUp (key,v) th fr s=some (up,s')∧Up s s' h (bK nd) up (hE key v l) uls ∧
   cP s'+(h+1)+(pgs uls).length=cP s+1+ps.length∧(pgs uls).length≤1+ps.length+(h+1)
 | 0,s,n,f,nd,l,ps,hs,hn,hv,hf,h1,hsp=>by
  obtain ⟨rfl,rfl,h3,h4⟩:=hv
  obtain ⟨f,rfl⟩:∃ g,f=g+1:=⟨f-1,by omega⟩
  have hok:=iO hn
  unfold cH at hok
  rw [if_pos (by rfl)] at hok
  obtain ⟨_,h8,_⟩:=dL hok
  simp only at h8
  refine ⟨[(⟨l,[],[]⟩,fX l key)],gA l key,by simp only [hZ,hn];rfl,rfl,?_,?_⟩
  ·exact mV key h3
  ·have hN:eH ⟨l,[],[]⟩ (fX l key) nd0 (key,v) (gA l key)=⟨hE key v l,[],[]⟩:=by
    rw [← ins_eq]
    simp only [eH,cK,List.isEmpty_nil,if_true]
    split<;>rfl
   have hln:=insI_len key v l
   obtain ⟨up,s',uls,q1,q2,q3,q4⟩:=store_up (h:=0) (N:=⟨hE key v l,[],[]⟩) (l:=hE key v l) (ps:=[]) hs ⟨rfl,rfl,insI_srt h3,λ x hx=>by
    rcases mem_insI hx with rfl|hx
    ·exact ⟨hk,hval⟩
    ·exact h4 x hx⟩ (.inr rfl) (by simp [bK];omega) (by omega)
   refine ⟨up,s',uls,?_,⟨q2.items,q2.kids,q2.len,q2.two,q2.toks,q2.keys,q2.its,λ x hx=>?_,q2.ext,q2.ok,q2.big⟩,by simpa using (by simp at q3;omega),by simpa using (by simp at q4;omega)⟩
   ·simp only [putUp]
    rw [hN]
    exact q1
   ·obtain ⟨nd',g1,g2,g3⟩:=q2.sub x hx
    exact ⟨nd',g1,by simp only [bK,List.length_nil,Nat.add_zero] at g2 ⊢;omega,g3⟩
 | h+1,s,n,f,nd,l,ps,hs,hn,hv,hf,h1,hsp=>by
  have hok:=iO hn
  have hv0:=hv
  obtain ⟨ls,e1,e2,e3,e4,e5,e6,e7,e8⟩:=hv
  obtain ⟨f,rfl⟩:∃ g,f=g+1:=⟨f-1,by omega⟩
  have hlf:cK nd=false:=by
   cases hh:cK nd with
   | false=>rfl
   | true =>
    rw [dK.1 hh] at e2
    cases ls with
    | nil=>cases e3
    | cons _ _=>cases e2
  unfold cH at hok
  rw [if_neg (by rw [hlf];simp)] at hok
  obtain ⟨_,w2,w8,w4,_,_⟩:=cU hok
  obtain ⟨la,x,lb,ka,kb,a1,a2,a3,a4,a5,a6,a7,a8⟩:=kid_split e3 e4 key
  obtain ⟨ndx,x1,x2,x3⟩:=e8 x (by rw [a1];simp)
  obtain ⟨fr,th,i1,i2,i3,up,s1,uls,i4,i5,i6,i7⟩:=put_up key v hk hval h (s:=s) (n:=x.page) (f:=f) hs x1 x3 (by omega) (by omega) (by omega)
  have hkid:nd.kids[iR nd.keys key]? = some x.page:=by
   rw [e2,a1,← a3]
   simp
  have hlt:=TK_its a4.symm a6
  have hgt:=KT_its a5 a7
  have hflat:l=la.flatMap (·.its)++(x.its++lb.flatMap (·.its)):=by rw [e6,a1];simp
  have hnotx:∀ y∈x.its,y∈l:=λ y hy=>by rw [hflat];simp [hy]
  refine ⟨(nd,iR nd.keys key)::fr,th,?_,by simp [i2],?_,?_⟩
  ·simp only [hZ,hn,hlf,Bool.false_eq_true,if_false,hkid,i1]
  ·rw [i3]
   constructor
   ·rintro ⟨y,hy,e⟩;exact ⟨y,hnotx y hy,e⟩
   ·rintro ⟨y,hy,e⟩
    rw [hflat] at hy
    rcases List.mem_append.1 hy with hy|hy
    ·exact absurd (hlt y hy) (by rw [e];exact dF _)
    ·rcases List.mem_append.1 hy with hy|hy
     ·exact ⟨y,hy,e⟩
     ·exact absurd (hgt y hy) (by rw [e];exact dF _)
  ·have hN:eH nd (iR nd.keys key) up (key,v) th=⟨[],(la++uls++lb).map (·.page),ka++up.keys++kb⟩:=by
    simp only [eH,hlf,Bool.false_eq_true,if_false]
    have m1:dE (cL nd.kids (iR nd.keys key) (iR nd.keys key+1)) (iR nd.keys key) up.kids=(la++uls++lb).map (·.page):=by
     rw [e2,a1,i5.kids,← a3]
     simp only [List.map_append,List.map_cons]
     have:=mid_put (la:=la.map (·.page)) (lb:=lb.map (·.page)) (us:=uls.map (·.page)) (x:=x.page)
     rw [List.length_map] at this
     exact this
    have m2:dE nd.keys (iR nd.keys key) up.keys=ka++up.keys++kb:=by
     conv=>lhs;arg 1;rw [a2]
     rw [← a3,← a4]
     exact mid_ins
    rw [m1,m2]
    cases nd
    simp only at e1 ⊢
    rw [e1]
   have hne:∀ y∈uls,y.its≠[]:=λ y hy=>by
    obtain ⟨n1,g1,g2,g3⟩:=i5.sub y hy
    exact g3.ne (by omega)
   have hin:hE key v l=(la++uls++lb).flatMap (·.its):=by
    rw [hflat,insI_append hlt,insI_before hgt,i5.its]
    simp
   have hvN:Vt s1 (h+1) ⟨[],(la++uls++lb).map (·.page),ka++up.keys++kb⟩ (hE key v l) (pgs (la++uls++lb)):=by
    refine ⟨la++uls++lb,rfl,rfl,?_,?_,?_,hin,rfl,?_⟩
    ·have:=i5.len
     simp only [List.length_append]
     omega
    ·rw [toks_mid a4.symm i5.len]
     refine splice_ok a8 i5.len i5.toks hne (λ t ht a ha=>?_) (λ t ht a ha=>?_)
     ·rw [← i5.its] at ha
      rcases mem_insI ha with rfl|ha
      ·exact a6 t ht
      ·have:=(List.pairwise_append.1 (List.pairwise_append.1 a8).1).2.2 t ht (.T x) (by simp)
       exact RT_T.1 this a ha
     ·rw [← i5.its] at ha
      rcases mem_insI ha with rfl|ha
      ·exact a7 t ht
      ·have:=(List.pairwise_append.1 a8).2.2 (.T x) (by simp) t ht
       exact T_RT.1 this a ha
    ·intro k hk2
     simp only [List.mem_append] at hk2
     rcases hk2 with (hk2|hk2)|hk2
     ·exact e5 k (by rw [a2];simp [hk2])
     ·exact i5.keys k hk2
     ·exact e5 k (by rw [a2];simp [hk2])
    ·intro y hy
     simp only [List.mem_append] at hy
     have old:∀ y∈ls,∃ nd',dQ s1 y.page=some nd'∧4≤bK nd'∧Vt s1 h nd' y.its y.ps:=λ y hy=>by
      obtain ⟨n1,g1,g2,g3⟩:=e8 y hy
      exact ⟨n1,i5.ext.node g1,g2,g3.ext i5.ext⟩
     rcases hy with (hy|hy)|hy
     ·exact old y (by rw [a1];simp [hy])
     ·obtain ⟨n1,g1,g2,g3⟩:=i5.sub y hy
      exact ⟨n1,g1,by omega,g3⟩
     ·exact old y (by rw [a1];simp [hy])
   have hlsz:ls.length=la.length+1+lb.length:=by rw [a1];simp;omega
   have hkz:nd.kids.length=ls.length:=by rw [e2,List.length_map]
   have hu1:1≤uls.length:=by have:=i5.len;omega
   have hu2:=i5.two
   have hsN:bK ⟨[],(la++uls++lb).map (·.page),ka++up.keys++kb⟩=la.length+uls.length+lb.length:=by simp [bK];omega
   have hsnd:bK nd=nd.kids.length:=by simp [bK,e1]
   have hpl:ps.length=(pgs la).length+(1+x.ps.length)+(pgs lb).length:=by
    rw [e7,show ls.flatMap (λ x=>x.page::x.ps)=pgs ls from rfl,a1,show la++x::lb=la++[x]++lb by simp,iW,iW,pgs_one]
    simp
    omega
   obtain ⟨up2,s2,uls2,q1,q2,q3,q4⟩:=store_up i5.ok hvN (by omega) (by omega) (by omega)
   refine ⟨up2,s2,uls2,?_,⟨q2.items,q2.kids,q2.len,q2.two,q2.toks,q2.keys,q2.its,λ y hy=>?_,i5.ext.trans q2.ext,q2.ok,q2.big⟩,?_,?_⟩
   ·simp only [putUp,i4,hN]
    exact q1
   ·obtain ⟨n1,g1,g2,g3⟩:=q2.sub y hy
    exact ⟨n1,g1,by omega,g3⟩
   ·rw [iW,iW,List.length_append,List.length_append] at q3
    omega
   ·rw [iW,iW,List.length_append,List.length_append] at q4
    omega
end Go.Proofs.YtfpadnmdafiddaaGreatDoor
namespace Go.Proofs.YtfpadnmdafiddaaGreatDoor
open Go Go.RowKit Go.V
theorem findN_eq {key:Bs}:∀ {l:dS} {i:Nat},(∀ j x,j<i→l[j]? = some x→iM x.1 key)→(∀ x,l[i]? = some x→¬ iM x.1 key)→i≤l.length→fX l key=i
 | [],i,_,_,h=>by simp at h;subst h;rfl
 | x::l,0,_,h2,_=>by rw [lS,if_neg (h2 x rfl)]
 | x::l,i+1,h1,h2,h3=>by
  rw [lS,if_pos (h1 0 x (by omega) rfl),findN_eq (l:=l) (i:=i) (λ j y hj hy=>h1 (j+1) y (by omega) (by simpa using hy)) (λ y hy=>h2 y (by simpa using hy)) (by simpa using h3)]
theorem kidN_eq {key:Bs}:∀ {l:List Bs} {i:Nat},(∀ j x,j<i→l[j]? = some x→dU x key≤0)→(∀ x,l[i]? = some x→¬ dU x key≤0)→i≤l.length→iR l key=i
 | [],i,_,_,h=>by simp at h;subst h;rfl
 | x::l,0,_,h2,_=>by
  have:=h2 x rfl
  unfold iR
  rw [List.takeWhile_cons,if_neg (by simpa using this)];rfl
 | x::l,i+1,h1,h2,h3=>by
  have:=kidN_eq (key:=key) (l:=l) (i:=i) (λ j y hj hy=>h1 (j+1) y (by omega) (by simpa using hy)) (λ y hy=>h2 y (by simpa using hy)) (by simpa using h3)
  unfold iR at this ⊢
  rw [List.takeWhile_cons,if_pos (by simpa using h1 0 x (by omega) rfl),List.length_cons,this]
theorem find_c (F G:Nat→Prop) (x:NV) (nd:Nd) (b:Option Addr) (m d:Nat) (key:Bs) (w:World) (h:NdAt F w x nd) (hk:Sl G w 1 b m d (cX key)) (hok:cH nd=true) (hl:cK nd=true) :
  Calls Tryz.prog 149 #[x.val,.slice b m d] w (Ret λ v w'=>v=.tuple #[.int .i64 (fX nd.items key:Int),.bool (gA nd.items key)]∧Grow w w'):=by
 have hn1:=h.its.len
 have hn2:=dX h.kids
 have h2:x.n2=0:=by rw [hn2,dK.1 hl];rfl
 have hle:x.n1≤8:=by
  unfold cH at hok
  rw [if_pos hl] at hok
  rw [hn1]
  exact (dL hok).2.1
 refine V.calls (args:=[_,_]) Tryz.func149 rfl Tryz.ntmps149 rfl rfl ?_
 obtain ⟨cs,hs,hcell⟩:=h.its.at'
 repeat (first|(refine aB ?_;refine TL.pure rfl rfl ?_)|(refine aD ?_;refine TL.pure rfl rfl ?_)|(refine aU ?_;first|refine aK rfl yM rfl ?_|refine bE rfl yB (by exact rfl) rfl ?_)|refine aF rfl rfl ?_|refine TL.nil ?_|refine aA ?_|refine aJ ?_|refine aC ?_|refine T.block ?_|(refine aH ?_;refine aR rfl yD rfl ?_)|(refine aP ?_;(refine aY rfl rfl yB (by exact rfl) (by exact rfl) (by exact rfl) ?_;intro w' hu hbk hsz))|(refine bW ?_;(refine dJ rfl rfl ?_;intro bk w' hg hbk hsz hsz'))|(refine bD ?_;(refine TL.alloc rfl rfl ?_;intro bk w' hg hbk hsz hsz'))|refine aO rfl rfl ?_|refine aN rfl ?_|refine aE rfl ?_|refine aV ?_|refine TL.pure rfl rfl ?_|(refine aL 188 ?_;refine aI rfl (check_ok (h.go (Carry.grow yG)) hok) rfl ?_;rintro _ _ ⟨rfl,hgc⟩)|(refine aL 189 ?_;refine aI rfl (shape_leaf x _ h2) rfl ?_;rintro _ _ ⟨rfl,hgc⟩)|(refine mN ?_;refine kY rfl rfl ?_))
 have hg0:Grow w w':=by exact yG
 refine cM (S:=Nat) (λ i=>[(21,.int .i64 (i:Int)),(20,.int .i64 (x.n1:Int)),(19,.slice x.a1 x.n1 x.c1),(1,.slice b m d),(6,.pointer (some ⟨bk,0,none⟩))]) (λ i w1=>Blk w1 bk 269 [.slice x.a1 x.n1 x.c1,.slice x.a3 x.n3 x.c3]∧Grow w w1∧i≤x.n1∧∀ j y,j<i→nd.items[j]? = some y→iM y.1 key) (λ i=>x.n1-i) 0 ⟨rfl,rfl,rfl,rfl,rfl,trivial⟩ ⟨hbk,hg0,by omega,λ j y hj=>by omega⟩ ?_
 clear hbk hg0 hg hu
 rintro i w1 ⟨hbk,hg1,hi,hall⟩
 have hblt:=hbk.lt
 have hs1:=hs.grow hg1
 have hk1:=hk.grow hg1
 by_cases hlt:i<x.n1
 rotate_left
 ·have he:fX nd.items key=x.n1:=findN_eq (λ j y hj hy=>hall j y (by omega) hy) (λ y hy=>by rw [List.getElem?_eq_none (by omega)] at hy;cases hy) (by omega)
  have ht:gA nd.items key=false:=by unfold gA;rw [he,List.getElem?_eq_none (by omega)]
  repeat (first|(refine aD ?_;refine TL.pure rfl rfl ?_)|refine aK rfl yM rfl ?_|refine aF rfl rfl ?_|refine TL.nil ?_|refine aA ?_|refine aJ ?_|refine aC ?_|(refine aH ?_;refine aR rfl yD rfl ?_)|refine aO rfl rfl ?_|refine aE rfl ?_|refine bC ?_|refine cN ?_|refine bI ?_|refine bM ?_|refine bO ?_|refine dB ?_|refine bN ?_)
  exact jS rfl rfl ⟨_,rfl,by rw [he,ht],yG⟩
 obtain ⟨y,hy⟩:∃ y,nd.items[i]? = some y:=⟨_,List.getElem?_eq_getElem (by omega)⟩
 obtain ⟨ka,kc,va,vc,g1,g2,s1,s2⟩:=hcell i y hy
 by_cases hc:dU y.1 key<0
 ·repeat (first|refine aW rfl rfl rfl hlt rfl ⟨F,_,hs1⟩ rfl ?_|(refine aU ?_;refine eP rfl hs1 (two_at g1 g2) rfl rfl ?_)|(refine aL 139 ?_;refine aI rfl (gE _ _ _ _ _ _ _ _ _ _ _ (s1.grow yG) (hk.grow yG)) rfl ?_;rintro _ _ ⟨rfl,hgc⟩)|(refine aB ?_;refine TL.pure rfl rfl ?_)|(refine aD ?_;refine TL.pure rfl rfl ?_)|refine aK rfl yM rfl ?_|refine aF rfl rfl ?_|(refine bJ ?_;refine bT rfl rfl (by omega) rfl ?_)|refine TL.nil ?_|refine aA ?_|refine aJ ?_|refine aC ?_|refine T.block ?_|refine aT ?_|(refine aH ?_;first|refine bA rfl yD rfl ?_|refine aR rfl yD rfl ?_)|(refine aP ?_;(refine aY rfl rfl yB (by exact rfl) (by exact rfl) (by exact rfl) ?_;intro w' hu hbk hsz))|(refine bD ?_;(refine TL.alloc rfl rfl ?_;intro bk w' hg hbk hsz hsz'))|refine aN rfl ?_|refine aE rfl ?_|refine aV ?_)
  exact bG (i+1) ⟨rfl,rfl,rfl,rfl,rfl,trivial⟩ ⟨yB,yG,by omega,λ j z hj hz=>by
   by_cases hj2:j=i
   ·subst hj2;rw [hy] at hz;cases hz;exact hc
   ·exact hall j z (by omega) hz⟩ (by omega)
 ·have he:fX nd.items key=i:=findN_eq hall (λ z hz=>by rw [hy] at hz;cases hz;exact hc) (by omega)
  have ht:gA nd.items key=decide (dU y.1 key=0):=by unfold gA;rw [he,hy]
  repeat (first|refine aW rfl rfl rfl hlt rfl ⟨F,_,hs1⟩ rfl ?_|(refine aU ?_;refine eP rfl hs1 (two_at g1 g2) rfl rfl ?_)|(refine aL 139 ?_;refine aI rfl (gE _ _ _ _ _ _ _ _ _ _ _ (s1.grow yG) (hk.grow yG)) rfl ?_;rintro _ _ ⟨rfl,hgc⟩)|(refine aB ?_;refine TL.pure rfl rfl ?_)|(refine aD ?_;refine TL.pure rfl rfl ?_)|refine aK rfl yM rfl ?_|refine aF rfl rfl ?_|refine TL.nil ?_|refine aA ?_|refine aJ ?_|refine aC ?_|refine T.block ?_|(refine aH ?_;first|refine bA rfl yD rfl ?_|refine TL.pure rfl rfl ?_)|(refine aP ?_;(refine aY rfl rfl yB (by exact rfl) (by exact rfl) (by exact rfl) ?_;intro w' hu hbk hsz))|(refine bD ?_;(refine TL.alloc rfl rfl ?_;intro bk w' hg hbk hsz hsz'))|refine aN rfl ?_|refine bC ?_|refine aV ?_|refine bI ?_|refine dB ?_|refine dW ?_)
  refine jS rfl rfl ⟨_,rfl,by rw [he,ht];rfl,yG⟩
theorem kid_c (F G:Nat→Prop) (x:NV) (nd:Nd) (b:Option Addr) (m d:Nat) (key:Bs) (w:World) (h:NdAt F w x nd) (hk:Sl G w 1 b m d (cX key)) (hok:cH nd=true) (hl:cK nd=false) :
  Calls Tryz.prog 150 #[x.val,.slice b m d] w (Ret λ v w'=>v=.int .i64 (iR nd.keys key:Int)∧Grow w w'):=by
 have hn2:=dX h.kids
 have hn3:=h.kys.len
 have h2:x.n2≠0:=by rw [hn2];intro e;rw [dK.2 (List.eq_nil_of_length_eq_zero e)] at hl;cases hl
 have hle:x.n3≤8:=by
  unfold cH at hok
  rw [if_neg (by rw [hl];simp)] at hok
  have:=cU hok
  omega
 refine V.calls (args:=[_,_]) Tryz.func150 rfl Tryz.ntmps150 rfl rfl ?_
 obtain ⟨cs,hs,hcell⟩:=h.kys.at'
 repeat (first|(refine aB ?_;refine TL.pure rfl rfl ?_)|(refine aD ?_;refine TL.pure rfl rfl ?_)|(refine aU ?_;first|refine aK rfl yM rfl ?_|refine bE rfl yB (by exact rfl) rfl ?_)|refine aF rfl rfl ?_|refine TL.nil ?_|refine aA ?_|refine aJ ?_|refine aC ?_|refine T.block ?_|(refine aH ?_;refine aR rfl yD rfl ?_)|(refine aP ?_;(refine aY rfl rfl yB (by exact rfl) (by exact rfl) (by exact rfl) ?_;intro w' hu hbk hsz))|(refine bW ?_;(refine dJ rfl rfl ?_;intro bk w' hg hbk hsz hsz'))|(refine bD ?_;(refine TL.alloc rfl rfl ?_;intro bk w' hg hbk hsz hsz'))|refine aO rfl rfl ?_|refine aN rfl ?_|refine aE rfl ?_|refine aV ?_|refine TL.pure rfl rfl ?_|(refine aL 188 ?_;refine aI rfl (check_ok (h.go (Carry.grow yG)) hok) rfl ?_;rintro _ _ ⟨rfl,hgc⟩)|(refine aL 189 ?_;refine aI rfl (kR x _ h2) rfl ?_;rintro _ _ ⟨rfl,hgc⟩)|(refine mN ?_;refine kY rfl rfl ?_))
 have hg0:Grow w w':=by exact yG
 refine cM (S:=Nat) (λ i=>[(19,.int .i64 (i:Int)),(18,.int .i64 (x.n3:Int)),(17,.slice x.a3 x.n3 x.c3),(1,.slice b m d),(5,.pointer (some ⟨bk,0,none⟩))]) (λ i w1=>Blk w1 bk 271 x.cs∧Grow w w1∧i≤x.n3∧∀ j y,j<i→nd.keys[j]? = some y→dU y key≤0) (λ i=>x.n3-i) 0 ⟨rfl,rfl,rfl,rfl,rfl,trivial⟩ ⟨hbk,hg0,by omega,λ j y hj=>by omega⟩ ?_
 clear hbk hg0 hg hu
 rintro i w1 ⟨hbk,hg1,hi,hall⟩
 have hblt:=hbk.lt
 have hs1:=hs.grow hg1
 have hk1:=hk.grow hg1
 by_cases hlt:i<x.n3
 rotate_left
 ·have he:iR nd.keys key=x.n3:=kidN_eq (λ j y hj hy=>hall j y (by omega) hy) (λ y hy=>by rw [List.getElem?_eq_none (by omega)] at hy;cases hy) (by omega)
  repeat (first|(refine aD ?_;refine TL.pure rfl rfl ?_)|refine aK rfl yM rfl ?_|refine aF rfl rfl ?_|refine TL.nil ?_|refine aA ?_|refine aJ ?_|refine aC ?_|(refine aH ?_;refine aR rfl yD rfl ?_)|refine aO rfl rfl ?_|refine aE rfl ?_|refine bC ?_|refine cN ?_|refine bI ?_|refine bM ?_|refine bO ?_|refine dB ?_|refine bN ?_)
  exact cF rfl ⟨_,rfl,by rw [he],yG⟩
 obtain ⟨y,hy⟩:∃ y,nd.keys[i]? = some y:=⟨_,List.getElem?_eq_getElem (by omega)⟩
 obtain ⟨ka,kc,g1,s1⟩:=hcell i y hy
 have hcx:w1.cell? (at' x.a3 i)=some (.slice ka y.length kc):=hs1.row.cell g1
 by_cases hc:dU y key≤0
 ·repeat (first|(refine bF ?_;refine aW rfl rfl rfl hlt (Nat.mul_one _) ⟨F,_,hs1⟩ rfl ?_)|(refine aL 139 ?_;refine aI rfl (gE _ _ _ _ _ _ _ _ _ _ _ (s1.grow yG) (hk.grow yG)) rfl ?_;rintro _ _ ⟨rfl,hgc⟩)|(refine aB ?_;refine TL.pure rfl rfl ?_)|(refine aD ?_;refine TL.pure rfl rfl ?_)|refine aK rfl yM rfl ?_|(refine bJ ?_;refine bT rfl rfl (by omega) rfl ?_)|refine TL.nil ?_|refine aA ?_|refine aJ ?_|refine aC ?_|refine T.block ?_|refine aT ?_|(refine aH ?_;first|refine bA rfl yD rfl ?_|refine aR rfl yD rfl ?_)|refine aN rfl ?_|refine aE rfl ?_|refine aV ?_)
  exact bG (i+1) ⟨rfl,rfl,rfl,rfl,rfl,trivial⟩ ⟨yB,yG,by omega,λ j z hj hz=>by
   by_cases hj2:j=i
   ·subst hj2;rw [hy] at hz;cases hz;exact hc
   ·exact hall j z (by omega) hz⟩ (by omega)
 ·have he:iR nd.keys key=i:=kidN_eq hall (λ z hz=>by rw [hy] at hz;cases hz;exact hc) (by omega)
  repeat (first|(refine bF ?_;refine aW rfl rfl rfl hlt (Nat.mul_one _) ⟨F,_,hs1⟩ rfl ?_)|(refine aL 139 ?_;refine aI rfl (gE _ _ _ _ _ _ _ _ _ _ _ (s1.grow yG) (hk.grow yG)) rfl ?_;rintro _ _ ⟨rfl,hgc⟩)|(refine aB ?_;refine TL.pure rfl rfl ?_)|(refine aD ?_;refine TL.pure rfl rfl ?_)|refine aK rfl yM rfl ?_|refine TL.nil ?_|refine aA ?_|refine aJ ?_|refine aC ?_|refine T.block ?_|(refine aH ?_;refine bA rfl yD rfl ?_)|refine aN rfl ?_|refine bC ?_|refine aV ?_|refine bI ?_|refine dB ?_|refine dW ?_)
  refine cF rfl ⟨_,rfl,by rw [he],yG⟩
end Go.Proofs.YtfpadnmdafiddaaGreatDoor
namespace Go.Proofs.YtfpadnmdafiddaaGreatDoor
open Go Go.RowKit Go.V
theorem own_nil {w:World} {base e sz:Nat}:w.ownsRow base e sz (.slice none 0 0) 0 []:=⟨by simp,.inl ⟨rfl,rfl⟩⟩
theorem take_step {α : Type} {l:List α} {i:Nat} {x : α} (h:l[i]? = some x):l.take (i+1)=l.take i++[x]:=by
 obtain ⟨hi,rfl⟩:=List.getElem?_eq_some_iff.1 h
 rw [List.take_succ_eq_append_getElem hi]
theorem bytes_leaf (F:Nat→Prop) (x:NV) (nd:Nd) (w:World) (h:NdAt F w x nd) (hok:cH nd=true) (hl:cK nd=true) :
  Calls Tryz.prog 154 #[x.val] w (Ret λ v w'=>∃ u,v=.tuple #[u,.int .i64 0]∧w'.ownsRow w.heap.size 5 1 u (fI nd).length (cX (fI nd))∧Grow w w'):=by
 have hn1:=h.its.len
 have hn2:=dX h.kids
 have h2:x.n2=0:=by rw [hn2,dK.1 hl];rfl
 have hwl:=hok
 unfold cH at hwl
 rw [if_pos hl] at hwl
 obtain ⟨_,h8,hits⟩:=dL hwl
 have hle:x.n1≤8:=by rw [hn1];exact h8
 refine V.calls (args:=[_]) Tryz.func154 rfl Tryz.ntmps154 rfl rfl ?_
 obtain ⟨cs,hs,hcell⟩:=h.its.at'
 repeat (first|(refine aB ?_;refine TL.pure rfl rfl ?_)|(refine aD ?_;refine TL.pure rfl rfl ?_)|(refine aU ?_;first|refine aK rfl yM rfl ?_|refine bE rfl yB (by exact rfl) rfl ?_)|refine aF rfl rfl ?_|refine TL.nil ?_|refine aA ?_|refine aJ ?_|refine aC ?_|refine T.block ?_|(refine aH ?_;refine aR rfl yD rfl ?_)|(refine cZ ?_;refine eV rfl rfl (by omega) rfl ?_)|(refine aP ?_;(refine aY rfl rfl yB (by exact rfl) (by exact rfl) (by exact rfl) ?_;intro w' hu hbk hsz))|(refine bW ?_;(refine dJ rfl rfl ?_;intro bk w' hg hbk hsz hsz'))|(refine bD ?_;(refine TL.alloc rfl rfl ?_;intro bk w' hg hbk hsz hsz'))|refine aO rfl rfl ?_|refine aN rfl ?_|refine aE rfl ?_|refine aV ?_|refine TL.pure rfl rfl ?_|(refine aL 188 ?_;refine aI rfl (check_ok (h.go (Carry.grow yG)) hok) rfl ?_;rintro _ _ ⟨rfl,hgc⟩)|(refine aL 189 ?_;refine aI rfl (shape_leaf x _ h2) rfl ?_;rintro _ _ ⟨rfl,hgc⟩)|(refine mN ?_;refine kY rfl rfl ?_))
 have hg0:Grow w w':=by exact yG
 refine TL.buildSlice rfl rfl rfl rfl rfl ?_
 intro b w3 hg3 hb3 hs3 hs4 hs5
 have hsl:Sl (λ _=>True) w3 1 (some ⟨b,0,none⟩) 2 2 (cX [0,x.n1]):=(bR (sz:=1) (m:=2) hb3 hs5 (by decide)).mono (λ _ _=>trivial)
 have hbk3:=hbk.grow hg3
 have hsz3:=hg3.size
 have hsz0:=hg0.size
 refine TL.append (base:=w.heap.size) rfl rfl own_nil hsl (dY [0,x.n1]) (by unfold maxLen;omega) (by omega) (by omega) rfl ?_
 intro v1 w4 hown4 hgb4 _
 have hbk4:Blk w4 bk 269 [.slice x.a1 x.n1 x.c1,.slice x.a3 x.n3 x.c3]:=fB hgb4 (by simp [Value.ownBlock]) hbk3
 have hg4:Grow w w4:=Grow.mk (cA hgb4 (by omega) (λ k hk=>by cases hk) (hg0.trans hg3).1)
 clear hbk hbk3 hgb4 hb3 hg3 hsl hu hg
 repeat (first|(refine aB ?_;refine TL.pure rfl rfl ?_)|(refine aD ?_;refine TL.pure rfl rfl ?_)|refine aK rfl yM rfl ?_|refine aF rfl rfl ?_|refine TL.nil ?_|refine aA ?_|refine aJ ?_|refine aC ?_|refine T.block ?_|refine aO rfl rfl ?_)
 refine cM (S:=Value×Nat×Nat) (λ s=>[(34,.int .i64 (s.2.2:Int)),(33,.int .i64 (x.n1:Int)),(32,.slice x.a1 x.n1 x.c1),(5,s.1)]) (λ s w2=>s.2.2≤x.n1∧s.2.1≤2+50*s.2.2∧w2.ownsRow w.heap.size 5 1 s.1 s.2.1 (cX ([0,x.n1]++(nd.items.take s.2.2).flatMap (λ y=>jO y.1++jO y.2)))∧Grow w w2) (λ s=>x.n1-s.2.2) (v1,2,0) ⟨rfl,rfl,rfl,rfl,trivial⟩ ⟨by show 0≤x.n1;omega,by show 2≤2+50*0;omega,by simpa using hown4,hg4⟩ ?_
 clear hbk4 hg4 hown4
 rintro ⟨u,k,i⟩ w1 ⟨hi,hk,hown,hg1⟩
 simp only at hi hk hown
 refine cT (e':=[(34,.int .i64 (i:Int)),(33,.int .i64 (x.n1:Int)),(32,.slice x.a1 x.n1 x.c1),(5,u)]) ?_ ⟨rfl,rfl,rfl,rfl,trivial⟩
 have hs1:=hs.grow hg1
 have hsz1:=hg1.size
 by_cases hlt:i<x.n1
 rotate_left
 ·obtain rfl:i=x.n1:=by omega
  repeat (first|(refine aB ?_;refine TL.pure rfl rfl ?_)|(refine aD ?_;refine TL.pure rfl rfl ?_)|refine TL.nil ?_|refine aA ?_|refine aJ ?_|refine aC ?_|refine aT ?_|(refine aH ?_;refine aR rfl yD rfl ?_)|refine aE rfl ?_|refine bC ?_|refine cN ?_|refine bM ?_|refine bO ?_|refine bN ?_)
  refine jS rfl rfl ⟨_,rfl,_,rfl,?_,hg1⟩
  have e:fI nd=[0,x.n1]++(nd.items.take x.n1).flatMap (λ y=>jO y.1++jO y.2):=by
   unfold fI
   rw [if_pos hl,hn1,List.take_length]
  rw [e]
  have:=hown.1
  rw [dA,Nat.mul_one] at this
  rw [this]
  exact hown
 obtain ⟨y,hy⟩:∃ y,nd.items[i]? = some y:=⟨_,List.getElem?_eq_getElem (by omega)⟩
 obtain ⟨ka,kc,va,vc,g1,g2,s1,s2⟩:=hcell i y hy
 have hko:=mG hits (List.mem_of_getElem? hy)
 have hk1:=gV hko.1
 have hv1:=kZ hko.2
 have lk:=jE y.1 (by omega)
 have lv:=jE y.2 (by omega)
 repeat (first|refine aW rfl rfl rfl hlt rfl ⟨F,_,hs1⟩ rfl ?_|(refine aU ?_;refine eP rfl hs1 (two_at g1 g2) rfl rfl ?_)|(refine aB ?_;refine TL.pure rfl rfl ?_)|refine aK rfl yM rfl ?_|refine aF rfl rfl ?_|refine TL.nil ?_|refine aA ?_|refine aJ ?_|refine aC ?_|refine T.block ?_|(refine aH ?_;refine bA rfl yD rfl ?_)|(refine aP ?_;(refine aY rfl rfl yB (by exact rfl) (by exact rfl) (by exact rfl) ?_;intro w' hu hbk hsz))|(refine bD ?_;(refine TL.alloc rfl rfl ?_;intro bk w' hg hbk hsz hsz'))|refine aN rfl ?_|refine aV ?_)
 have hgA1:Grow w1 w':=by exact yG
 have hgA:Grow w w':=hg1.trans hgA1
 have hownA:=cO hown hgA1
 refine aI rfl (block_c F ka _ kc y.1 _ (s1.grow hgA) (by omega)) rfl ?_
 rintro bv wb ⟨hob,hgb⟩
 obtain ⟨ba,bc,rfl,hsb⟩:=cE hob
 have hszA:=hgA.size
 have hszb:=hgb.size
 refine TL.append rfl rfl (cO hownA hgb) hsb (dY _) (by unfold maxLen;omega) (by omega) (by omega) rfl ?_
 intro v5 w5 hown5 hgb5 _
 have hg5:Grow w w5:=Grow.mk (cA hgb5 (by omega) (λ k hk=>(cY (cO hownA hgb) hk).1) (hgA.trans hgb).1)
 have hbkB:=hbk.grow hgb
 have hbk5:Blk w5 bk 58 [.slice ka y.1.length kc,.slice va y.2.length vc]:=fB hgb5 (λ e=>by have:=cY hown e;omega) hbkB
 clear hownA hgA hgA1 hob hsb hgb hgb5 hbk hbkB hu hg hown
 repeat (first|(refine aB ?_;refine TL.pure rfl rfl ?_)|(refine aD ?_;refine TL.pure rfl rfl ?_)|refine aK rfl yM rfl ?_|refine aF rfl rfl ?_|refine TL.nil ?_|refine aA ?_|refine aC ?_)
 refine aI rfl (block_c F va _ vc y.2 _ (s2.grow hg5) (by omega)) rfl ?_
 rintro bv wb ⟨hob,hgb⟩
 obtain ⟨ba,bc,rfl,hsb⟩:=cE hob
 have hsz5:=hg5.size
 have hszb:=hgb.size
 refine TL.append rfl rfl (cO hown5 hgb) hsb (dY _) (by unfold maxLen;omega) (by omega) (by omega) rfl ?_
 intro v6 w6 hown6 hgb6 _
 have hg6:Grow w w6:=Grow.mk (cA hgb6 (by omega) (λ k hk=>(cY (cO hown5 hgb) hk).1) (hg5.trans hgb).1)
 repeat (first|(refine aB ?_;refine TL.pure rfl rfl ?_)|(refine aD ?_;refine TL.pure rfl rfl ?_)|(refine bJ ?_;refine bT rfl rfl (by omega) rfl ?_)|refine TL.nil ?_|refine aA ?_|refine aC ?_|refine aT ?_)
 refine bG (v6,k+(jO y.1).length+(jO y.2).length,i+1) ⟨rfl,rfl,rfl,rfl,trivial⟩ ⟨hlt,by simp only;omega,?_,hg6⟩ (by simp only;omega)
 simp only
 rw [take_step hy,List.flatMap_append]
 simp only [List.flatMap_cons,List.flatMap_nil,List.append_nil,gO,← List.append_assoc] at hown6 ⊢
 exact hown6
end Go.Proofs.YtfpadnmdafiddaaGreatDoor
namespace Go.Proofs.YtfpadnmdafiddaaGreatDoor
open Go Go.RowKit Go.V
theorem bytes_branch (F:Nat→Prop) (x:NV) (nd:Nd) (w:World) (h:NdAt F w x nd) (hok:cH nd=true) (hl:cK nd=false) :
  Calls Tryz.prog 154 #[x.val] w (Ret λ v w'=>∃ u,v=.tuple #[u,.int .i64 0]∧w'.ownsRow w.heap.size 5 1 u (fI nd).length (cX (fI nd))∧Grow w w'):=by
 have hn2:=dX h.kids
 have hn3:=h.kys.len
 have h2:x.n2≠0:=by rw [hn2];intro e;rw [dK.2 (List.eq_nil_of_length_eq_zero e)] at hl;cases hl
 have hwl:=hok
 unfold cH at hwl
 rw [if_neg (by rw [hl];simp)] at hwl
 obtain ⟨_,p2,p8,p4,pk,py⟩:=cU hwl
 have hle:x.n2≤8:=by rw [hn2];exact p8
 have hle3:x.n3≤8:=by omega
 refine V.calls (args:=[_]) Tryz.func154 rfl Tryz.ntmps154 rfl rfl ?_
 obtain ⟨cs,hs,hcell⟩:=h.kys.at'
 repeat (first|(refine aB ?_;refine TL.pure rfl rfl ?_)|(refine aD ?_;refine TL.pure rfl rfl ?_)|(refine aU ?_;first|refine aK rfl yM rfl ?_|refine bE rfl yB (by exact rfl) rfl ?_)|refine aF rfl rfl ?_|refine TL.nil ?_|refine aA ?_|refine aJ ?_|refine aC ?_|refine T.block ?_|(refine aH ?_;refine aR rfl yD rfl ?_)|(refine cZ ?_;refine eV rfl rfl (by omega) rfl ?_)|(refine aP ?_;(refine aY rfl rfl yB (by exact rfl) (by exact rfl) (by exact rfl) ?_;intro w' hu hbk hsz))|(refine bW ?_;(refine dJ rfl rfl ?_;intro bk w' hg hbk hsz hsz'))|(refine bD ?_;(refine TL.alloc rfl rfl ?_;intro bk w' hg hbk hsz hsz'))|refine aO rfl rfl ?_|refine aN rfl ?_|refine aE rfl ?_|refine aV ?_|refine TL.pure rfl rfl ?_|(refine aL 188 ?_;refine aI rfl (check_ok (h.go (Carry.grow yG)) hok) rfl ?_;rintro _ _ ⟨rfl,hgc⟩)|(refine aL 189 ?_;refine aI rfl (kR x _ h2) rfl ?_;rintro _ _ ⟨rfl,hgc⟩)|(refine mN ?_;first|refine kY rfl rfl ?_|refine TL.assertNo rfl rfl rfl ?_))
 have hg0:Grow w w':=by exact yG
 refine TL.buildSlice rfl rfl rfl rfl rfl ?_
 intro b w3 hg3 hb3 hs3 hs4 hs5
 have hsl:Sl (λ _=>True) w3 1 (some ⟨b,0,none⟩) 2 2 (cX [1,x.n2]):=(bR (sz:=1) (m:=2) hb3 hs5 (by decide)).mono (λ _ _=>trivial)
 have hbk3:=hbk.grow hg3
 have hsz3:=hg3.size
 have hsz0:=hg0.size
 refine TL.append (base:=bk+1) rfl rfl own_nil hsl (dY [1,x.n2]) (by unfold maxLen;omega) (by omega) (by omega) rfl ?_
 intro v1 w4 hown4 hgb4 _
 have hbk4:Blk w4 bk 271 x.cs:=fB hgb4 (by simp [Value.ownBlock]) hbk3
 have hg4:Grow w w4:=Grow.mk (cA hgb4 (by omega) (λ k hk=>by cases hk) (hg0.trans hg3).1)
 have hbkw:w.heap.size≤bk:=by omega
 clear hbk hbk3 hgb4 hb3 hg3 hsl hu hg
 repeat (first|(refine aB ?_;refine TL.pure rfl rfl ?_)|(refine aD ?_;refine TL.pure rfl rfl ?_)|refine aK rfl yM rfl ?_|refine aF rfl rfl ?_|refine TL.nil ?_|refine aA ?_|refine aJ ?_|refine aC ?_|refine T.block ?_|refine aO rfl rfl ?_)
 refine cM (S:=Value×Nat×Nat) (λ s=>[(62,.int .i64 (s.2.2:Int)),(61,.int .i64 (x.n2:Int)),(60,.slice x.a2 x.n2 x.c2),(9,.pointer (some ⟨bk,0,none⟩)),(5,s.1)]) (λ s w2=>s.2.2≤x.n2∧s.2.1≤2+50*s.2.2∧w2.ownsRow (bk+1) 5 1 s.1 s.2.1 (cX ([1,x.n2]++(nd.kids.take s.2.2).flatMap fQ))∧Blk w2 bk 271 x.cs∧Grow w w2) (λ s=>x.n2-s.2.2) (v1,2,0) ⟨rfl,rfl,rfl,rfl,rfl,trivial⟩ ⟨by show 0≤x.n2;omega,by show 2≤2+50*0;omega,by simpa using hown4,hbk4,hg4⟩ ?_
 clear hbk4 hg4 hown4
 rintro ⟨u,k,i⟩ w1 ⟨hi,hk,hown,hbk,hg1⟩
 simp only at hi hk hown
 refine cT (e':=[(62,.int .i64 (i:Int)),(61,.int .i64 (x.n2:Int)),(60,.slice x.a2 x.n2 x.c2),(9,.pointer (some ⟨bk,0,none⟩)),(5,u)]) ?_ ⟨rfl,rfl,rfl,rfl,rfl,trivial⟩
 have hs1:=h.kids.grow hg1
 have hsz1:=hg1.size
 by_cases hlt:i<x.n2
 ·obtain ⟨p,hp⟩:∃ p,nd.kids[i]? = some p:=⟨_,List.getElem?_eq_getElem (by omega)⟩
  have hcx:w1.cell? (at' x.a2 i)=some (.int .i64 (p:Int)):=hs1.row.cell (ints_at hp)
  have hpl:=kid_ok pk (List.mem_of_getElem? hp)
  repeat (first|(refine bF ?_;refine aW rfl rfl rfl hlt (Nat.mul_one _) ⟨F,_,hs1⟩ rfl ?_)|(refine aB ?_;refine TL.pure rfl rfl ?_)|(refine aD ?_;refine TL.pure rfl rfl ?_)|refine aK rfl yM rfl ?_|refine TL.nil ?_|refine aA ?_|refine aJ ?_|refine aC ?_|refine T.block ?_|(refine aH ?_;refine bA rfl yD rfl ?_)|(refine cZ ?_;refine eV rfl rfl (by omega) rfl ?_)|refine aN rfl ?_|refine aV ?_)
  refine aI rfl (word_c p (by omega) _) rfl ?_
  rintro bv wb ⟨hob,hgb⟩
  obtain ⟨ba,bc,rfl,hsb⟩:=cE hob
  have hszb:=hgb.size
  have hbl:=hbk.lt
  refine TL.append rfl rfl (cO hown hgb) hsb (dY _) (by unfold maxLen;omega) (by omega) (by omega) rfl ?_
  intro v6 w6 hown6 hgb6 _
  have hg6:Grow w w6:=Grow.mk (cA hgb6 (by omega) (λ k hk=>by have:=cY (cO hown hgb) hk;omega) (hg1.trans hgb).1)
  have hbk6:Blk w6 bk 271 x.cs:=fB hgb6 (λ e=>by have:=cY hown e;omega) (hbk.grow hgb)
  repeat (first|(refine aB ?_;refine TL.pure rfl rfl ?_)|(refine aD ?_;refine TL.pure rfl rfl ?_)|(refine bJ ?_;refine bT rfl rfl (by omega) rfl ?_)|refine TL.nil ?_|refine aA ?_|refine aC ?_|refine aT ?_)
  refine bG (v6,k+4,i+1) ⟨rfl,rfl,rfl,rfl,rfl,trivial⟩ ⟨hlt,by simp only;omega,?_,hbk6,hg6⟩ (by simp only;omega)
  ·simp only
   rw [take_step hp,List.flatMap_append]
   simp only [List.flatMap_cons,List.flatMap_nil,List.append_nil,gO,← List.append_assoc] at hown6 ⊢
   exact hown6
 obtain rfl:i=x.n2:=by omega
 repeat (first|(refine aB ?_;refine TL.pure rfl rfl ?_)|refine aK rfl yM rfl ?_|refine aF rfl rfl ?_|refine TL.nil ?_|refine aA ?_|refine aJ ?_|refine aC ?_|refine T.block ?_|(refine aH ?_;refine aR rfl yD rfl ?_)|refine aO rfl rfl ?_|refine aE rfl ?_|refine cN ?_|refine bM ?_|refine bO ?_|refine bN ?_)
 have hpre:(nd.kids.take x.n2).flatMap fQ=nd.kids.flatMap fQ:=by rw [hn2,List.take_length]
 rw [hpre] at hown
 refine cM (S:=Value×Nat×Nat) (λ s=>[(75,.int .i64 (s.2.2:Int)),(74,.int .i64 (x.n3:Int)),(73,.slice x.a3 x.n3 x.c3),(5,s.1)]) (λ s w2=>bk<w2.heap.size∧s.2.2≤x.n3∧s.2.1≤1000+50*s.2.2∧w2.ownsRow (bk+1) 5 1 s.1 s.2.1 (cX ([1,x.n2]++nd.kids.flatMap fQ++(nd.keys.take s.2.2).flatMap jO))∧Grow w w2) (λ s=>x.n3-s.2.2) (u,k,0) ⟨rfl,rfl,rfl,rfl,trivial⟩ ⟨hbk.lt,by show 0≤x.n3;omega,by show k≤1000+50*0;omega,by simpa using hown,hg1⟩ ?_
 clear hbk hg1 hown hsz1 hs1 hi hk
 rintro ⟨u,k,i⟩ w1 ⟨hbl,hi,hk,hown,hg1⟩
 simp only at hi hk hown
 refine cT (e':=[(75,.int .i64 (i:Int)),(74,.int .i64 (x.n3:Int)),(73,.slice x.a3 x.n3 x.c3),(5,u)]) ?_ ⟨rfl,rfl,rfl,rfl,trivial⟩
 have hs1:=hs.grow hg1
 have hsz1:=hg1.size
 by_cases hlt3:i<x.n3
 ·obtain ⟨p,hp⟩:∃ p,nd.keys[i]? = some p:=⟨_,List.getElem?_eq_getElem (by omega)⟩
  obtain ⟨ka,kc,g1,s1⟩:=hcell i p hp
  have hcx:w1.cell? (at' x.a3 i)=some (.slice ka p.length kc):=hs1.row.cell g1
  have hpl:=gV (key_ok' py (List.mem_of_getElem? hp))
  have lk:=jE p (by omega)
  repeat (first|(refine bF ?_;refine aW rfl rfl rfl hlt3 (Nat.mul_one _) ⟨F,_,hs1⟩ rfl ?_)|(refine aB ?_;refine TL.pure rfl rfl ?_)|(refine aD ?_;refine TL.pure rfl rfl ?_)|refine aK rfl yM rfl ?_|refine TL.nil ?_|refine aA ?_|refine aJ ?_|refine aC ?_|refine T.block ?_|(refine aH ?_;refine bA rfl yD rfl ?_)|refine aN rfl ?_|refine aV ?_)
  refine aI rfl (block_c F ka _ kc p _ (s1.grow hg1) (by omega)) rfl ?_
  rintro bv wb ⟨hob,hgb⟩
  obtain ⟨ba,bc,rfl,hsb⟩:=cE hob
  have hszb:=hgb.size
  refine TL.append rfl rfl (cO hown hgb) hsb (dY _) (by unfold maxLen;omega) (by omega) (by omega) rfl ?_
  intro v6 w6 hown6 hgb6 _
  have hg6:Grow w w6:=Grow.mk (cA hgb6 (by omega) (λ k hk=>by have:=cY (cO hown hgb) hk;omega) (hg1.trans hgb).1)
  repeat (first|(refine aB ?_;refine TL.pure rfl rfl ?_)|(refine aD ?_;refine TL.pure rfl rfl ?_)|(refine bJ ?_;refine bT rfl rfl (by omega) rfl ?_)|refine TL.nil ?_|refine aA ?_|refine aC ?_|refine aT ?_)
  have hsz6:=hgb6.size
  refine bG (v6,k+(jO p).length,i+1) ⟨rfl,rfl,rfl,rfl,trivial⟩ ⟨by omega,hlt3,by simp only;omega,?_,hg6⟩ (by simp only;omega)
  simp only
  rw [take_step hp,List.flatMap_append]
  simp only [List.flatMap_cons,List.flatMap_nil,List.append_nil,gO,← List.append_assoc] at hown6 ⊢
  exact hown6
 obtain rfl:i=x.n3:=by omega
 repeat (first|(refine aB ?_;refine TL.pure rfl rfl ?_)|(refine aD ?_;refine TL.pure rfl rfl ?_)|refine TL.nil ?_|refine aA ?_|refine aJ ?_|refine aC ?_|refine aT ?_|(refine aH ?_;refine aR rfl yD rfl ?_)|refine aE rfl ?_|refine bC ?_|refine cN ?_|refine bM ?_|refine bO ?_|refine bN ?_)
 refine jS rfl rfl ⟨_,rfl,_,rfl,?_,hg1⟩
 have e:fI nd=[1,x.n2]++nd.kids.flatMap fQ++(nd.keys.take x.n3).flatMap jO:=by
  unfold fI
  rw [if_neg (by rw [hl];simp),hn2,hn3,List.take_length]
 rw [e]
 have:=hown.1
 rw [dA,Nat.mul_one] at this
 rw [this]
 exact fC hown (by omega)
end Go.Proofs.YtfpadnmdafiddaaGreatDoor
namespace Go.Proofs.YtfpadnmdafiddaaGreatDoor
open Go Go.RowKit Go.V
theorem eR {b:Nat} {w w':World} (m:Mut b w w'):But b w w':=⟨m.os,m.tape,m.output,m.size,λ k hk hb=>m.block k hk (λ e=>hb (by cases e;rfl))⟩
theorem Carry.but {F:Nat→Prop} {w w':World} {b:Nat} (u:But b w w') (hb:∀ k,F k→k<w.heap.size→k≠b):Carry F w F w':=⟨u.size,λ k hk h=>⟨hk,u.block k h (hb k hk h)⟩⟩
theorem own_but {w w':World} {base n sz e b:Nat} {v:Value} {xs:List Value} (h:w.ownsRow base e sz v n xs) (u:But b w w') (hb:b<base):w'.ownsRow base e sz v n xs:=lL h λ k hk hv=>u.block k (cY h hv).2 (by omega)
theorem but_grow' {b:Nat} {w w':World} (g:Grow w w'):But b w w':=lX g (But.refl b w)
end Go.Proofs.YtfpadnmdafiddaaGreatDoor
namespace Go.Proofs.YtfpadnmdafiddaaGreatDoor
open Go Go.RowKit Go.V
section
variable [Rn]
variable {P:Program} {n:Nat} {e:dN} {w w':World} {Q:dO} {ops:Array Oper} {rest:List Oper} {d:Nat} {ty:TypeId} {pos:String} {aft:Array Edge}
def zs (n:Nat):Bs:=List.replicate n 0
theorem iH (m:Nat) {t:TypeId} (hz:(P.info? t).bind (·.zero)=some (.agg (cX (zs m)).toArray)) (hd:Nat.blt d n=true)
  (k:∀ b w',Grow w w'→Blk w' b t (cX (zs m))→w.heap.size=b→w'.heap.size=b+1→TL P n ops rest ((d,.pointer (some ⟨b,0,none⟩))::e) w' Q) :
  TL P n ops (⟨some d,.alloc t,ty,pos,aft,none⟩::rest) e w Q:=@TL.alloc _ P n e w Q ops rest d ty pos aft t _ (cX (zs m)) ⟨hz⟩ rfl hd k
theorem TL.loadBy {t bt:TypeId} {m b:Nat} {x:Operand} {l:Bs} [ht:Agg P t m] (hx:val e x=some (.pointer (some ⟨b,0,none⟩))) (hb:Blk w b bt (cX l)) (hl:l.length=m) (hd:Nat.blt d n=true)
  (k:TL P n ops rest ((d,.agg (cX l).toArray)::e) w Q):TL P n ops (⟨some d,.load t x,ty,pos,aft,none⟩::rest) e w Q :=
 bE hx hb (by rw [dA,hl];exact Nat.beq_refl m) hd k
theorem iZ {t bt:TypeId} {m b:Nat} {x y:Operand} {l v:Bs} [ht:Agg P t m] (hx:val e x=some (.pointer (some ⟨b,0,none⟩))) (hy:val e y=some (.agg (cX v).toArray)) (hb:Blk w b bt (cX l)) (hl:l.length=m) (hv:v.length=m)
  (k:∀ w',Upd b w w'→Blk w' b bt (cX v)→w'.heap.size=w.heap.size→TL P n ops rest e w' Q):TL P n ops (⟨none,.store t x y,ty,pos,aft,none⟩::rest) e w Q :=
 aY hx hy hb (by rw [dA,hv];exact Nat.beq_refl m) (by rw [dA,hl];exact Nat.beq_refl m) (List.all_eq_true.2 (dY v)) k
theorem TL.loadAll {t m:Nat} {x:Operand} {a:Option Addr} {F:Nat→Prop} {c:Nat} {cs:List Value} [ht:Agg P t m] (hx:val e x=some (.pointer a)) (hs:Sl F w 1 a m c cs) (hm:Nat.ble 1 m=true) (hd:Nat.blt d n=true)
  (k:TL P n ops rest ((d,.agg cs.toArray)::e) w Q):TL P n ops (⟨some d,.load t x,ty,pos,aft,none⟩::rest) e w Q:=by
 have hm:=Nat.le_of_ble_eq_true hm
 cases a with
 | none=>have:=hs.nil rfl;have:=hs.cap;omega
 | some p =>
  have hl:=hs.len
  exact TL.run (λ r hr=>by simp [execOp,Instr.loadAt,hr.eval hx,Instr.sureAddr,gT ht (by omega) (hs.row.cell_add rfl)]) hd k
theorem putAt_eq:∀ (vs cs:List Value) (o:Nat),o+vs.length≤cs.length→jD cs o vs=cs.take o++vs++cs.drop (o+vs.length)
 | [],cs,o,_=>by simp [jD]
 | v::vs,cs,o,h=>by
  simp only [List.length_cons] at h
  have hlt:o<cs.length:=by omega
  rw [jD,putAt_eq vs (cs.set o v) (o+1) (by simp;omega)]
  have e1:(cs.set o v).take (o+1)=cs.take o++[v]:=by
   rw [List.take_succ_eq_append_getElem (by simpa using hlt),List.take_set_of_le (Nat.le_refl _)]
   simp
  have e2:(cs.set o v).drop (o+1+vs.length)=cs.drop (o+(v::vs).length):=by
   rw [List.drop_set_of_lt (by omega)]
   congr 1
   simp only [List.length_cons]
   omega
  rw [e1,e2]
  simp
theorem putAt_bys {l v:Bs} {o:Nat} (h:o+v.length≤l.length):jD (cX l) o (cX v)=cX (l.take o++v++l.drop (o+v.length)):=by
 rw [putAt_eq _ _ _ (by simpa [dA] using h),dA]
 simp [cX,List.map_take,List.map_drop]
theorem lI {b o m c:Nat} {t:TypeId} {l:Bs} (hb:Blk w b t (cX l)) (hm:o+m≤l.length) (hc:m≤c) (hc2:c≤maxLen):Sl (λ k=>k=b) w 1 (some ⟨b,o,none⟩) m c (cX ((l.drop o).take m)) :=
 ⟨by rw [dA,List.length_take,List.length_drop];omega,hc,hc2,(λ h=>by cases h),λ _=>⟨rfl,rfl,hb.lt,λ j v hj=>hb.cell (by
  unfold cX at *
  rw [List.getElem?_map,List.getElem?_take] at hj
  split at hj
  ·rw [List.getElem?_drop] at hj
   rw [List.getElem?_map]
   exact hj
  ·cases hj)⟩⟩
end
theorem zero_sector:(Tryz.prog.info? 247).bind (·.zero)=some (.agg (cX (zs 256)).toArray):=by kernel_rfl
theorem zero_page:(Tryz.prog.info? 197).bind (·.zero)=some (.agg (cX (zs 512)).toArray):=by kernel_rfl
theorem zero_dig:(Tryz.prog.info? 243).bind (·.zero)=some (.agg (cX (zs 32)).toArray):=by kernel_rfl
theorem dT (n:Nat):(zs n).length=n:=List.length_replicate
instance:PtrTy Tryz.prog 118:=⟨by kernel_rfl⟩
instance:MapTy Tryz.prog 248 3 247:=⟨by kernel_rfl⟩
structure DkAt (w:World) (d:Nat) (s m N:Nat) (f:Nat→Option Value):Prop where
 blk:Blk w d 250 [.pointer (some ⟨d,0,none⟩),.slice (some ⟨s,0,none⟩) N N,.map (some m)]
 map:MapF w m f
 ne:d≠m
 le:N≤16384
theorem DkAt.keep {w w':World} {d s m N:Nat} {f:Nat→Option Value} (h:DkAt w d s m N f) (hd:w'.heap[d]? = w.heap[d]?) (hm:w'.heap[m]? = w.heap[m]?):DkAt w' d s m N f :=
 ⟨by have:=h.blk;unfold Blk at *;rw [hd];exact this,h.map.keep hm,h.ne,h.le⟩
theorem DkAt.grow {w w':World} {d s m N:Nat} {f:Nat→Option Value} (g:Grow w w') (h:DkAt w d s m N f):DkAt w' d s m N f:=h.keep (g.block d h.blk.lt) (g.block m h.map.lt)
theorem dmade_c (s N:Nat) (w:World) (hN:N≤16384) :
  Calls Tryz.prog 141 #[.slice (some ⟨s,0,none⟩) N N] w (Ret λ v w'=>∃ d m,v=.pointer (some ⟨d,0,none⟩)∧w.heap.size≤d∧w.heap.size≤m∧DkAt w' d s m N (λ _=>none)∧Grow w w'):=by
 refine V.calls (args:=[_]) Tryz.func141 rfl Tryz.ntmps141 rfl rfl ?_
 repeat (first|(refine kX ?_;refine mK rfl ?_;intro m w1 hg1 hm1 hs1 hs2)|(refine aB ?_;refine TL.pure rfl rfl ?_)|(refine aD ?_;refine TL.pure rfl rfl ?_)|refine aF rfl rfl ?_|refine TL.nil ?_|refine aA ?_|refine aJ ?_|refine aC ?_|(refine aP ?_;(refine bP rfl rfl yB (by exact rfl) (by exact rfl) (by exact rfl) ?_;intro w' hu hbk hsz))|(refine bW ?_;(refine TL.box rfl rfl rfl ?_;intro bk w' hg hbk hsz hsz'))|refine TL.build rfl rfl rfl ?_|refine bL rfl rfl ?_|refine bC ?_)
 refine cF rfl ⟨_,rfl,bk,m,rfl,by omega,by omega,⟨hbk,MapF.upd hu (by omega) (hm1.grow hg),by omega,hN⟩,yG⟩
theorem dnew_c (n:Nat) (w:World) (h1:1≤n) (hn:n≤16384) :
  Calls Tryz.prog 67 #[.int .i64 (n:Int)] w (Ret λ v w'=>∃ d s m,v=.tuple #[.pointer (some ⟨d,0,none⟩),.int .i64 0]∧w.heap.size≤d∧w.heap.size≤m∧DkAt w' d s m n (λ _=>none)∧Grow w w'):=by
 refine V.calls (args:=[_]) Tryz.func67 rfl Tryz.ntmps67 rfl rfl ?_
 repeat (first|refine aX rfl rfl rfl ?_|(refine aB ?_;refine TL.pure rfl rfl ?_)|(refine aD ?_;refine TL.pure rfl rfl ?_)|refine TL.nil ?_|refine aA ?_|refine aJ ?_|refine aC ?_|(refine aH ?_;refine aR rfl yD rfl ?_)|refine aE rfl ?_|refine aV ?_|refine TL.pure rfl rfl ?_)
 haveI:Zero Tryz.prog 247 (.agg (cX (zs 256)).toArray):=⟨zero_sector⟩
 refine TL.makeAll rfl rfl (by omega) (by unfold maxLen;omega) rfl ?_
 intro b w1 hb hown hg1
 clear hown
 have:=hg1.size
 refine aI rfl (dmade_c b n _ hn) rfl ?_
 rintro _ w2 ⟨d,m,rfl,q1,q2,q3,hg2⟩
 repeat (first|(refine aD ?_;refine TL.pure rfl rfl ?_)|refine TL.nil ?_|refine aA ?_|refine bC ?_)
 exact jS rfl rfl ⟨_,rfl,d,b,m,rfl,by omega,by omega,q3,hg1.trans hg2⟩
theorem dvalid_c {w:World} {d s m N:Nat} {f:Nat→Option Value} (h:DkAt w d s m N f) :
  Calls Tryz.prog 184 #[.pointer (some ⟨d,0,none⟩)] w (Ret λ v w'=>v=.bool true∧w=w'):=by
 refine V.calls (args:=[_]) Tryz.func184 rfl Tryz.ntmps184 rfl rfl ?_
 have hb:=h.blk
 repeat (first|(refine TL.isNeT 118 ?_;refine TL.neNilP rfl rfl rfl ?_)|(refine TL.isEqT 118 ?_;refine TL.eqSame rfl rfl rfl ?_)|refine aX rfl rfl rfl ?_|(refine aB ?_;refine TL.pure rfl rfl ?_)|(refine aD ?_;refine TL.pure rfl rfl ?_)|refine aK rfl yM rfl ?_|refine aF rfl rfl ?_|refine TL.nil ?_|refine aA ?_|refine aJ ?_|refine aC ?_|refine bL rfl rfl ?_|refine bC ?_|refine TL.pure rfl rfl ?_)
 exact cF rfl ⟨_,rfl,rfl,rfl⟩
theorem dsize_c {w:World} {d s m N:Nat} {f:Nat→Option Value} (h:DkAt w d s m N f) :
  Calls Tryz.prog 142 #[.pointer (some ⟨d,0,none⟩)] w (Ret λ v w'=>v=.int .i64 (N:Int)∧w=w'):=by
 refine V.calls (args:=[_]) Tryz.func142 rfl Tryz.ntmps142 rfl rfl ?_
 have hb:=h.blk
 repeat (first|(refine aL 184 ?_;refine aI rfl (dvalid_c h) rfl ?_;rintro _ _ ⟨rfl,rfl⟩)|(refine aB ?_;refine TL.pure rfl rfl ?_)|(refine aD ?_;refine TL.pure rfl rfl ?_)|refine aK rfl yM rfl ?_|refine aF rfl rfl ?_|refine TL.nil ?_|refine aA ?_|refine aJ ?_|refine aC ?_|refine bL rfl rfl ?_|refine aO rfl rfl ?_|refine aE rfl ?_|refine bC ?_|refine aV ?_|refine TL.pure rfl rfl ?_)
 exact cF rfl ⟨_,rfl,rfl,rfl⟩
theorem dcheck_c {w:World} {d s m N:Nat} {f:Nat→Option Value} (h:DkAt w d s m N f) (k:Nat) (hk:k<N) :
  Calls Tryz.prog 171 #[.pointer (some ⟨d,0,none⟩),.int .i64 (k:Int)] w (Ret λ v w'=>v=.int .i64 0∧w=w'):=by
 refine V.calls (args:=[_,_]) Tryz.func171 rfl Tryz.ntmps171 rfl rfl ?_
 have hb:=h.blk
 repeat (first|(refine aL 184 ?_;refine aI rfl (dvalid_c h) rfl ?_;rintro _ _ ⟨rfl,rfl⟩)|refine aX rfl rfl rfl ?_|(refine aB ?_;refine TL.pure rfl rfl ?_)|(refine aD ?_;refine TL.pure rfl rfl ?_)|refine aK rfl yM rfl ?_|refine aF rfl rfl ?_|refine TL.nil ?_|refine aA ?_|refine aJ ?_|refine aC ?_|(refine aH ?_;refine aR rfl yD rfl ?_)|refine bL rfl rfl ?_|refine aO rfl rfl ?_|refine aE rfl ?_|refine bC ?_|refine aV ?_|refine TL.pure rfl rfl ?_)
 exact cF rfl ⟨_,rfl,rfl,rfl⟩
theorem dread_c {w:World} {d s m N:Nat} {f:Nat→Option Value} (h:DkAt w d s m N f) (k:Nat) (hk:k<N) (vs:Bs) (hf:f k=some (.agg (cX vs).toArray)) (hl:vs.length=256) :
  Calls Tryz.prog 129 #[.pointer (some ⟨d,0,none⟩),.int .i64 (k:Int)] w (Ret λ v w'=>∃ b,v=.tuple #[.slice (some ⟨b,0,none⟩) 256 256,.int .i64 0]∧w.heap.size≤b∧Sl (λ k=>k=b) w' 1 (some ⟨b,0,none⟩) 256 256 (cX vs)∧Grow w w'):=by
 have hN:=h.le
 refine V.calls (args:=[_,_]) Tryz.func129 rfl Tryz.ntmps129 rfl rfl ?_
 have hb:=h.blk
 have hlb:(cX vs).length=256:=by rw [dA,hl]
 repeat (first|(refine aL 171 ?_;refine aI rfl (dcheck_c h k hk) rfl ?_;rintro _ _ ⟨rfl,rfl⟩)|(refine kI ?_;refine TL.lookupYes rfl rfl h.map hf (by omega) rfl ?_)|(refine aB ?_;refine TL.pure rfl rfl ?_)|(refine aD ?_;refine TL.pure rfl rfl ?_)|refine aK rfl yM rfl ?_|refine aF rfl rfl ?_|refine TL.nil ?_|refine aA ?_|refine aJ ?_|refine aC ?_|(refine aH ?_;refine aR rfl yD rfl ?_)|refine bL rfl rfl ?_|refine aE rfl ?_|refine aV ?_|refine TL.pure rfl rfl ?_)
 refine iH 256 zero_sector rfl ?_
 intro b w1 hg1 hb1 hs1 hs2
 refine iZ rfl rfl hb1 (dT _) hl ?_
 intro w2 hu2 hb2 hs3
 repeat (first|(refine aB ?_;refine TL.pure rfl rfl ?_)|(refine aD ?_;refine TL.pure rfl rfl ?_)|refine TL.nil ?_|refine aA ?_|refine aJ ?_|refine aC ?_|(refine eB ?_;refine eM rfl (bZ _) (bZ _) (by omega) (by omega) (by omega) rfl rfl ?_)|refine aE rfl ?_|refine bC ?_|refine aV ?_|refine TL.pure rfl rfl ?_)
 refine jS rfl rfl ⟨_,rfl,b,rfl,by omega,?_,yG⟩
 have:=lI (o:=0) (m:=256) (c:=256) hb2 (by omega) (by omega) (by decide)
 rw [List.drop_zero,List.take_of_length_le (by omega)] at this
 exact this
theorem dwrite_c {w:World} {d s m N:Nat} {f:Nat→Option Value} (h:DkAt w d s m N f) (k:Nat) (hk:k<N) (F:Nat→Prop) (a:Option Addr) (c:Nat) (vs:Bs) (hs:Sl F w 1 a 256 c (cX vs)) :
  Calls Tryz.prog 124 #[.pointer (some ⟨d,0,none⟩),.int .i64 (k:Int),.slice a 256 c] w (Ret λ v w'=>DkAt w' d s m N (upF f k (.agg (cX vs).toArray))∧But m w w'):=by
 have hN:=h.le
 refine V.calls (args:=[_,_,_]) Tryz.func124 rfl Tryz.ntmps124 rfl rfl ?_
 have hb:=h.blk
 have hlb:(cX vs).length=256:=by have:=hs.len;omega
 repeat (first|(refine aL 171 ?_;refine aI rfl (dcheck_c h k hk) rfl ?_;rintro _ _ ⟨rfl,rfl⟩)|(refine aB ?_;refine TL.pure rfl rfl ?_)|(refine aD ?_;refine TL.pure rfl rfl ?_)|refine TL.nil ?_|refine aA ?_|refine aJ ?_|refine aC ?_|(refine aH ?_;refine aR rfl yD rfl ?_)|refine aO rfl rfl ?_|refine aE rfl ?_|refine aV ?_)
 apply T.any 8 [is _,is _,is _,is _,is _,is _,is (.pointer a),is (.agg (cX vs).toArray)]
 ·kernel_rfl
 ·repeat' (first|exact bX|refine bU ?_ ?_)
  iterate 6
   ·(refine aQ rfl rfl rfl ?_);( intro wq _ _ hgq;(repeat (refine aG rfl rfl ?_;intro vq hvq;try (obtain rfl:=hvq)));(refine aM ?_))
    repeat (first|(refine aB ?_;refine TL.pure rfl rfl ?_)|refine aK rfl yM rfl ?_|refine aF rfl rfl ?_|refine TL.nil ?_|refine bL rfl rfl ?_)
    exact aS rfl yG rfl
  ·(refine aQ rfl rfl rfl ?_);( intro wq _ _ hgq;(repeat (refine aG rfl rfl ?_;intro vq hvq;try (obtain rfl:=hvq)));(refine aM ?_))
   refine TL.arrayAt rfl (Nat.le_refl _) rfl ?_
   repeat (refine TL.nil ?_)
   exact aS rfl yG rfl
  ·(refine aQ rfl rfl rfl ?_);( intro wq _ _ hgq;(repeat (refine aG rfl rfl ?_;intro vq hvq;try (obtain rfl:=hvq)));(refine aM ?_))
   refine TL.loadAll rfl (hs.grow yG) rfl rfl ?_
   repeat (refine TL.nil ?_)
   exact aS rfl yG rfl
 ·intro w6 lo6 hi6 hg6 _ _
  ((repeat (refine aG rfl rfl ?_;intro vq hvq;try (obtain rfl:=hvq)));(refine aM ?_))
  refine TL.updateF rfl rfl rfl (h.map.grow hg6) (by omega) ?_
  intro w7 hu7 hm7
  repeat (first|(refine aD ?_;refine TL.pure rfl rfl ?_)|refine TL.nil ?_|refine aA ?_|refine aJ ?_|refine aC ?_|refine bC ?_)
  have hb7:Blk w7 d 250 _:=Blk.upd hu7 h.ne (hb.grow hg6)
  exact cF rfl ⟨_,rfl,⟨hb7,hm7,h.ne,h.le⟩,but_upd hu7 (but_grow' hg6)⟩
end Go.Proofs.YtfpadnmdafiddaaGreatDoor
namespace Go.Proofs.YtfpadnmdafiddaaGreatDoor
open Go Go.RowKit Go.V
theorem mulw_c (x y:Nat) (hx:x<18446744073709551616) (hy:y<18446744073709551616) (w:World) :
  Calls Tryz.prog 267 #[.int .u64 (x:Int),.int .u64 (y:Int)] w (Ret λ v w'=>v=.tuple #[.int .u64 ((x*y / 18446744073709551616:Nat):Int),.int .u64 ((x*y%18446744073709551616:Nat):Int)]∧Grow w w'):=by
 refine V.calls (args:=[_,_]) Tryz.func267 rfl Tryz.ntmps267 rfl rfl ?_
 have ha:=Lib.half_mul_le (a:=x / 4294967296) (b:=y / 4294967296) (by omega) (by omega)
 have hb:=Lib.half_mul_le (a:=x / 4294967296) (b:=y%4294967296) (by omega) (by omega)
 have hc:=Lib.half_mul_le (a:=x%4294967296) (b:=y / 4294967296) (by omega) (by omega)
 have hd:=Lib.half_mul_le (a:=x%4294967296) (b:=y%4294967296) (by omega) (by omega)
 have hl:=(Lib.mul64_hi x y hx hy).2.2.2
 repeat (first|(refine aB ?_;refine TL.pure rfl rfl ?_)|(refine aD ?_;refine TL.pure rfl rfl ?_)|(refine bJ ?_;refine TL.addU rfl rfl rfl (by omega) rfl ?_)|(refine gU ?_;first|refine TL.mulU rfl rfl rfl (by omega) rfl ?_|refine TL.mulW rfl rfl rfl rfl ?_)|(refine TL.isAnd ?_;refine TL.andU rfl rfl rfl rfl (by omega) (by omega) rfl ?_)|refine TL.nil ?_|refine aA ?_|refine aJ ?_|refine aC ?_|refine TL.shrU rfl rfl rfl rfl rfl rfl ?_|refine bC ?_)
 refine jS rfl rfl ⟨_,rfl,?_,yG⟩
 rw [hl]
theorem mul8_c (L:Nat) (h:L≤100000) (w:World) :
  Calls Tryz.prog 267 #[.int .u64 (L:Int),.int .u64 8] w (Ret λ v w'=>v=.tuple #[.int .u64 0,.int .u64 ((8*L:Nat):Int)]∧Grow w w') :=
 Calls.mono (mulw_c L 8 (by omega) (by omega) w) λ e w' ⟨v,h1,h2,h3⟩=>⟨v,h1,by
  rw [h2]
  have e1:L*8 / 18446744073709551616=0:=by omega
  have e2:L*8%18446744073709551616=8*L:=by omega
  rw [e1,e2];rfl,h3⟩
def padZ (n:Nat):Nat:=(239-n%128)%128
def be8 (n:Nat):Bs:=(List.range 8).map λ i=>n / 2^(56-8*i)%256
def padS (l:Bs):Bs:=l++[128]++zs (padZ l.length)++be8 0++be8 (8*l.length)
theorem length_be8 (n:Nat):(be8 n).length=8:=by simp [be8]
theorem length_padS (l:Bs):(padS l).length=l.length+17+padZ l.length:=by simp [padS,length_be8,dT];omega
theorem flat_take {bss:List Bs} {i:Nat} {p:Bs} (h:bss[i]? = some p):(bss.take (i+1)).flatten=(bss.take i).flatten++p:=by
 rw [List.take_add_one,h];simp
theorem flat_le (bss:List Bs) (i:Nat):(bss.take i).flatten.length≤bss.flatten.length:=by
 have:bss.flatten=(bss.take i).flatten++(bss.drop i).flatten:=by rw [← List.flatten_append,List.take_append_drop]
 rw [this,List.length_append];omega
theorem padded_c (F:Nat→Prop) (a:Option Addr) (n c:Nat) (bss:List Bs) (w:World) (h:KysAt F w a n c bss) (hn:bss.flatten.length≤100000) :
  Calls Tryz.prog 250 #[.slice a n c] w (Ret λ v w'=>w'.ownsRow w.heap.size 5 1 v (padS bss.flatten).length (cX (padS bss.flatten))∧Grow w w'):=by
 have hlen:=h.len
 obtain ⟨cs,hs,hcell⟩:=h.at'
 have hnle:=hs.le
 refine V.calls (args:=[_]) Tryz.func250 rfl Tryz.ntmps250 rfl rfl ?_
 repeat (first|(refine aB ?_;refine TL.pure rfl rfl ?_)|(refine aD ?_;refine TL.pure rfl rfl ?_)|refine TL.nil ?_|refine aA ?_|refine aJ ?_|refine aC ?_|refine T.block ?_|refine aO rfl rfl ?_)
 refine cM (S:=Nat) (λ i=>[(16,.int .i64 (i:Int)),(15,.int .i64 (n:Int)),(14,.slice a n c),(3,.int .i64 (((bss.take i).flatten.length:Nat):Int)),(0,.slice a n c)]) (λ i w1=>Grow w w1∧i≤n) (λ i=>n-i) 0 ⟨rfl,rfl,rfl,rfl,rfl,trivial⟩ ⟨Grow.refl _,by omega⟩ ?_
 rintro i w1 ⟨hg1,hi⟩
 have hs1:=hs.grow hg1
 have hle:=flat_le bss i
 by_cases hlt:i<n
 ·obtain ⟨p,hp⟩:∃ p,bss[i]? = some p:=⟨_,List.getElem?_eq_getElem (by omega)⟩
  obtain ⟨ka,kc,g1,s1⟩:=hcell i p hp
  have hcx:w1.cell? (at' a i)=some (.slice ka p.length kc):=hs1.row.cell g1
  have hle2:=flat_le bss (i+1)
  rw [flat_take hp,List.length_append] at hle2
  repeat (first|(refine bF ?_;refine aW rfl rfl rfl hlt (Nat.mul_one _) ⟨F,_,hs1⟩ rfl ?_)|(refine aB ?_;refine TL.pure rfl rfl ?_)|(refine aD ?_;refine TL.pure rfl rfl ?_)|refine aK rfl yM rfl ?_|(refine bJ ?_;refine bT rfl rfl (by omega) rfl ?_)|refine TL.nil ?_|refine aA ?_|refine aJ ?_|refine aC ?_|refine T.block ?_|refine aT ?_|(refine aH ?_;refine bA rfl yD rfl ?_)|refine aO rfl rfl ?_|refine aN rfl ?_|refine aV ?_)
  exact bG (i+1) ⟨rfl,rfl,rfl,by rw [flat_take hp,List.length_append];rfl,rfl,trivial⟩ ⟨hg1,by omega⟩ (by omega)
 obtain rfl:i=n:=by omega
 have htk:bss.take i=bss:=List.take_of_length_le (by omega)
 rw [htk]
 rw [htk] at hle
 generalize hL:bss.flatten.length=L at *
 repeat (first|(refine aB ?_;refine TL.pure rfl rfl ?_)|(refine bJ ?_;refine bT rfl rfl (by omega) rfl ?_)|(refine gU ?_;refine gZ rfl rfl (by omega) rfl ?_)|refine TL.nil ?_|refine aA ?_|refine aJ ?_|refine aC ?_|(refine kH ?_;refine mJ rfl rfl (by omega) (by omega) rfl ?_)|(refine aH ?_;refine aR rfl yD rfl ?_)|refine aE rfl ?_|refine cN ?_|refine bM ?_|refine bO ?_|refine bN ?_)
 refine TL.make0 (bytes:=1) (c:=(L+16) / 128*128+128) rfl rfl (by omega) (by unfold maxLen;omega) rfl ?_
 rintro b w2 hb hown hg2
 have h2:=hg2.size
 repeat (first|(refine aB ?_;refine TL.pure rfl rfl ?_)|(refine aD ?_;refine TL.pure rfl rfl ?_)|refine TL.nil ?_|refine aA ?_|refine aJ ?_|refine aC ?_|refine T.block ?_|refine aO rfl rfl ?_)
 have hown':=fC hown (show w.heap.size≤w1.heap.size from hg1.size)
 have hg3:=hg1.trans hg2
 refine cM (S:=Value×Nat) (λ s=>[(33,.int .i64 (s.2:Int)),(32,.int .i64 (i:Int)),(31,.slice a i c),(6,s.1),(3,.int .i64 (L:Int))]) (λ s w3=>s.2≤i∧w3.ownsRow w.heap.size 5 1 s.1 (bss.take s.2).flatten.length (cX (bss.take s.2).flatten)∧Grow w w3) (λ s=>i-s.2) (_,0) ⟨rfl,rfl,rfl,rfl,rfl,trivial⟩ ⟨by omega,hown',hg3⟩ ?_
 clear hown hown' hg2 hg3 hg1 hs1 h2 hb
 rintro ⟨v,j⟩ w3 ⟨hj,hown,hg3⟩
 simp only at hj hown
 have hsz:=hg3.size
 have hs3:=hs.grow hg3
 by_cases hlt:j<i
 ·obtain ⟨p,hp⟩:∃ p,bss[j]? = some p:=⟨_,List.getElem?_eq_getElem (by omega)⟩
  obtain ⟨ka,kc,g1,s1⟩:=hcell j p hp
  have hcx:w3.cell? (at' a j)=some (.slice ka p.length kc):=hs3.row.cell g1
  have hle2:=flat_le bss (j+1)
  rw [flat_take hp,List.length_append,hL] at hle2
  repeat (first|(refine bF ?_;refine aW rfl rfl rfl hlt (Nat.mul_one _) ⟨F,_,hs3⟩ rfl ?_)|(refine aB ?_;refine TL.pure rfl rfl ?_)|(refine aD ?_;refine TL.pure rfl rfl ?_)|refine aK rfl yM rfl ?_|refine TL.nil ?_|refine aA ?_|refine aJ ?_|refine aC ?_|refine T.block ?_|(refine aH ?_;refine bA rfl yD rfl ?_)|refine aN rfl ?_|refine aV ?_)
  refine TL.append rfl rfl hown (s1.grow hg3) (dY p) (by unfold maxLen;omega) (by omega) (by omega) rfl ?_
  intro v' w4 hown4 hgb _
  repeat (first|(refine aB ?_;refine TL.pure rfl rfl ?_)|(refine aD ?_;refine TL.pure rfl rfl ?_)|(refine bJ ?_;refine bT rfl rfl (by omega) rfl ?_)|refine TL.nil ?_|refine aA ?_|refine aC ?_|refine aT ?_)
  refine bG (v',j+1) ⟨rfl,rfl,rfl,rfl,rfl,trivial⟩ ⟨by simp only;omega,?_,Grow.mk (cA hgb (by omega) (λ k hk=>(cY hown hk).1) hg3.1)⟩ (by simp only;omega)
  simp only
  rw [flat_take hp,gO,List.length_append]
  exact hown4
 obtain rfl:j=i:=by omega
 rw [htk,hL] at hown
 repeat (first|(refine aB ?_;refine TL.pure rfl rfl ?_)|refine TL.nil ?_|refine aA ?_|refine aJ ?_|refine aC ?_|(refine aH ?_;refine aR rfl yD rfl ?_)|refine aE rfl ?_|refine cN ?_|refine bM ?_|refine bO ?_|refine bN ?_)
 refine TL.buildSlice rfl rfl rfl rfl rfl ?_
 intro b' wa hga hba hsa hsb hsc
 have hsl:Sl (λ _=>True) wa 1 (some ⟨b',0,none⟩) 1 1 (cX [128]):=(bR (sz:=1) (m:=1) hba hsc (by decide)).mono (λ _ _=>trivial)
 have hga':=hga.size
 refine TL.append rfl rfl (cO hown hga) hsl (dY [128]) (by unfold maxLen;omega) (by omega) (by omega) rfl ?_
 intro v' wb hownb hgb _
 have hgn:Grow w wb:=Grow.mk (cA hgb (by omega) (λ k hk=>(cY (cO hown hga) hk).1) (hg3.trans hga).1)
 repeat (first|(refine aD ?_;refine TL.pure rfl rfl ?_)|refine TL.nil ?_|refine aA ?_|refine aJ ?_|refine T.block ?_)
 clear hown hg3 hsz hs3 hgb hga hga' hsl hba hsa hsb hsc
 refine cM (S:=Value×Nat) (λ s=>[(6,s.1),(3,.int .i64 (L:Int))]) (λ s w3=>s.2≤padZ L∧w3.ownsRow w.heap.size 5 1 s.1 (L+1+s.2) (cX (bss.flatten++[128]++zs s.2))∧Grow w w3) (λ s=>padZ L-s.2) (v',0) ⟨rfl,rfl,trivial⟩ ⟨by simp only;omega,by simp only [zs,List.replicate_zero,List.append_nil];rw [gO];exact hownb,hgn⟩ ?_
 clear hownb hgn
 rintro ⟨v,z⟩ w3 ⟨hz,hown,hg3⟩
 simp only at hz hown
 have hsz:=hg3.size
 have hpz:padZ L=(239-L%128)%128:=rfl
 have hpz2:padZ L<128:=by unfold padZ;omega
 obtain ⟨va,vc,rfl,hsv⟩:=cE hown
 by_cases hlt:z<padZ L
 ·have hne:(L+1+z)%128≠112:=by omega
  repeat (first|(refine aB ?_;refine TL.pure rfl rfl ?_)|refine TL.nil ?_|refine aA ?_|refine aJ ?_|refine aC ?_|refine T.block ?_|(refine TL.isRem ?_;refine TL.remU rfl rfl (by omega) rfl ?_)|(refine aH ?_;refine bA rfl yD rfl ?_)|refine aO rfl rfl ?_|refine aN rfl ?_|refine aV ?_)
  refine TL.buildSlice rfl rfl rfl rfl rfl ?_
  intro b' wa hga hba hsa hsb hsc
  have hsl:Sl (λ _=>True) wa 1 (some ⟨b',0,none⟩) 1 1 (cX [0]):=(bR (sz:=1) (m:=1) hba hsc (by decide)).mono (λ _ _=>trivial)
  have hga':=hga.size
  refine TL.append rfl rfl (cO hown hga) hsl (dY [0]) (by unfold maxLen;omega) (by omega) (by omega) rfl ?_
  intro v' wb hownb hgb _
  have hgn:Grow w wb:=Grow.mk (cA hgb (by omega) (λ k hk=>(cY (cO hown hga) hk).1) (hg3.trans hga).1)
  repeat (first|(refine aD ?_;refine TL.pure rfl rfl ?_)|refine TL.nil ?_|refine aT ?_)
  refine bG (v',z+1) ⟨rfl,rfl,trivial⟩ ⟨by simp only;omega,?_,hgn⟩ (by simp only;omega)
  simp only
  rw [show zs (z+1)=zs z++[0] by simp [zs,List.replicate_succ'],← List.append_assoc,gO]
  exact hownb
 obtain rfl:z=padZ L:=by omega
 have hne:(L+1+padZ L)%128=112:=by omega
 obtain ⟨pre,hpre⟩:∃ pre,pre=bss.flatten++[128]++zs (padZ L):=⟨_,rfl⟩
 rw [← hpre] at hown
 obtain ⟨N,hN⟩:∃ N,N=L+1+padZ L:=⟨_,rfl⟩
 rw [← hN] at hown hsv hne
 rw [← hN]
 have hN1:N≤200000:=by omega
 repeat (first|(refine cZ ?_;refine nD (a:=L) rfl (M:=18446744073709551616) rfl rfl ?_;rw [show L%18446744073709551616=L by omega])|(refine aB ?_;refine TL.pure rfl rfl ?_)|(refine aD ?_;refine TL.pure rfl rfl ?_)|refine TL.nil ?_|refine aA ?_|refine aJ ?_|refine aC ?_|refine T.block ?_|(refine TL.isRem ?_;refine TL.remU rfl rfl (by omega) rfl ?_)|(refine aH ?_;refine aR rfl yD rfl ?_)|refine mO rfl rfl rfl ?_|refine aO rfl rfl ?_|refine aE rfl ?_|refine cN ?_|refine bM ?_|refine bO ?_|refine bN ?_|refine TL.pure rfl rfl ?_|(refine aL 267 ?_;refine aI rfl (mul8_c L hn _) rfl ?_;rintro _ _ ⟨rfl,hgc⟩))
 have hsz4:=hg3.size
 refine cM (S:=Value×Nat) (λ s=>[(60,.int .i64 (s.2:Int)),(59,.agg #[.int .u64 0,.int .u64 ((8*L:Nat):Int)]),(6,s.1)]) (λ s w4=>s.2≤2∧w4.ownsRow w.heap.size 5 1 s.1 (N+8*s.2) (cX (pre++(be8 0++be8 (8*L)).take (8*s.2)))∧Grow w w4) (λ s=>2-s.2) (.slice va N vc,0) ⟨rfl,rfl,rfl,trivial⟩ ⟨by simp only;omega,by simpa using cO hown yG,yG⟩ ?_
 clear hown hsv hg3 hsz4 hsz
 rintro ⟨v,k⟩ w4 ⟨hk,hown,hg3⟩
 simp only at hk hown
 by_cases hlt:k<2
 ·obtain ⟨x,hx,hxv,htk⟩:∃ x:Nat,x<18446744073709551616∧[Value.int .u64 0,.int .u64 ((8*L:Nat):Int)][k]? = some (.int .u64 (x:Int))∧(be8 0++be8 (8*L)).take (8*(k+1))=(be8 0++be8 (8*L)).take (8*k)++be8 x:=by
   obtain rfl|rfl:k=0∨k=1:=by omega
   ·exact ⟨0,by omega,rfl,rfl⟩
   ·exact ⟨8*L,by omega,rfl,rfl⟩
  repeat (first|(refine TL.isIndexV ?_;refine TL.indexV rfl rfl (by omega) rfl hxv rfl ?_)|(refine aD ?_;refine TL.pure rfl rfl ?_)|refine TL.nil ?_|refine aA ?_|refine aJ ?_|refine aC ?_|refine T.block ?_|(refine aH ?_;refine bA rfl yD rfl ?_)|refine aN rfl ?_|refine aV ?_)
  refine cM (S:=Value×Nat) (λ s=>[(13,.int .i64 (56-8*(s.2:Int))),(12,.int .u64 (x:Int)),(60,.int .i64 (k:Int)),(59,.agg #[.int .u64 0,.int .u64 ((8*L:Nat):Int)]),(6,s.1)]) (λ s w5=>s.2≤8∧w5.ownsRow w.heap.size 5 1 s.1 (N+8*k+s.2) (cX (pre++(be8 0++be8 (8*L)).take (8*k)++(be8 x).take s.2))∧Grow w w5) (λ s=>8-s.2) (v,0) ⟨rfl,rfl,rfl,rfl,rfl,trivial⟩ ⟨by simp only;omega,by simpa using hown,hg3⟩ ?_
  clear hown hg3
  rintro ⟨v,i⟩ w5 ⟨hi,hown,hg3⟩
  simp only at hi hown
  have hsz:=hg3.size
  by_cases hlt2:i<8
  ·have hsh:(56-8*(i:Int))=((56-8*i:Nat):Int):=by omega
   rw [hsh]
   repeat (first|(refine fT ?_;refine jL rfl rfl (by show 56-8*i≤64;omega) rfl ?_)|(refine cZ ?_;refine nD rfl (M:=256) rfl rfl ?_)|(refine aB ?_;refine TL.pure rfl rfl ?_)|refine TL.nil ?_|refine aA ?_|refine aJ ?_|refine aC ?_|refine T.block ?_|(refine aH ?_;refine bA rfl yD rfl ?_)|refine aN rfl ?_|refine aV ?_)
   refine TL.buildSlice rfl rfl rfl rfl rfl ?_
   intro b' wa hga hba hsa hsb hsc
   have hsl:Sl (λ _=>True) wa 1 (some ⟨b',0,none⟩) 1 1 (cX [x / 2^(56-8*i)%256]):=(bR (sz:=1) (m:=1) hba hsc (by decide)).mono (λ _ _=>trivial)
   have hga':=hga.size
   refine TL.append rfl rfl (cO hown hga) hsl (dY [x / 2^(56-8*i)%256]) (by unfold maxLen;omega) (by omega) (by omega) rfl ?_
   intro v' wb hownb hgb _
   have hgn:Grow w wb:=Grow.mk (cA hgb (by omega) (λ k hk=>(cY (cO hown hga) hk).1) (hg3.trans hga).1)
   repeat (first|(refine aB ?_;refine TL.pure rfl rfl ?_)|(refine aD ?_;refine TL.pure rfl rfl ?_)|(refine cJ ?_;refine iT rfl rfl (by omega) (by omega) rfl ?_)|refine TL.nil ?_|refine aA ?_|refine aC ?_|refine aT ?_)
   refine bG (v',i+1) ⟨?_,rfl,rfl,rfl,rfl,trivial⟩ ⟨by simp only;omega,?_,hgn⟩ (by simp only;omega)
   ·show some (Value.int .i64 _)=some (Value.int .i64 _)
    congr 2
    simp only
    omega
   ·simp only
    have hx8:(be8 x).take (i+1)=(be8 x).take i++[x / 2^(56-8*i)%256]:=by
     rw [List.take_add_one]
     have:(be8 x)[i]? = some (x / 2^(56-8*i)%256):=by simp [be8,hlt2]
     rw [this];rfl
    rw [hx8,← List.append_assoc,gO]
    exact hownb
  obtain rfl:i=8:=by omega
  repeat (first|(refine aB ?_;refine TL.pure rfl rfl ?_)|(refine bJ ?_;refine bT rfl rfl (by omega) rfl ?_)|refine TL.nil ?_|refine aA ?_|refine aJ ?_|refine aC ?_|refine aT ?_|(refine aH ?_;refine aR rfl yD rfl ?_)|refine aE rfl ?_|refine cN ?_|refine bM ?_|refine bO ?_|refine bN ?_)
  refine bG (v,k+1) ⟨rfl,rfl,rfl,trivial⟩ ⟨by simp only;omega,?_,hg3⟩ (by simp only;omega)
  simp only
  rw [htk,← List.append_assoc,show N+8*(k+1)=N+8*k+8 by omega]
  have:(be8 x).take 8=be8 x:=List.take_of_length_le (by rw [length_be8];omega)
  rw [this] at hown
  exact hown
 obtain rfl:k=2:=by omega
 repeat (first|(refine aB ?_;refine TL.pure rfl rfl ?_)|(refine aD ?_;refine TL.pure rfl rfl ?_)|refine TL.nil ?_|refine aA ?_|refine aJ ?_|refine aC ?_|(refine aH ?_;refine aR rfl yD rfl ?_)|refine aE rfl ?_|refine bC ?_|refine cN ?_|refine bM ?_|refine bO ?_|refine bN ?_)
 have hfin:pre++(be8 0++be8 (8*L)).take (8*2)=padS bss.flatten:=by
  rw [List.take_of_length_le (by rw [List.length_append,length_be8,length_be8];omega),hpre]
  unfold padS
  rw [hL]
  simp only [List.append_assoc]
 rw [hfin] at hown
 have hll:(padS bss.flatten).length=N+8*2:=by rw [length_padS,hL];omega
 exact cF rfl ⟨_,rfl,by rw [hll];exact hown,hg3⟩
end Go.Proofs.YtfpadnmdafiddaaGreatDoor
namespace Go.V
open Go Go.RowKit
theorem gL (b:Nat) (w:World) (o:Obj):Upd b w (w.putObj b o):=⟨rfl,rfl,rfl,World.putObj_size,λ k hk=>World.putObj_heap_other hk⟩
def T2 [Rn] (P:Program) (n:Nat) (x y:Code) (e:dN) (w:World) (Q:dO):Prop :=
 ∀ a,Fits n e a→x.wpIn (FR Rn.ro) 0 P (Exit.then (y.wpIn (FR Rn.ro) 0 P (iQ n Q)) (iQ n Q)) a w
def thenQ2 [Rn] (P:Program) (n:Nat) (x y:Code) (Q:dO):dO:=λ ex e w =>
 match ex with
 | .normal=>T2 P n x y e w Q
 | ex=>Q ex e w
def roundQ (l:Nat) (rc:LoopState→Option Code→Loop) (R:Value→World→Prop):dO:=λ ex _ w =>
 match ex with
 | .normal=>w.heap[l]? = some (.loop (rc .busy none))∧∀ w',Upd l w w'→w'.heap[l]? = some (.loop (rc .ready none))→R (.bool true) w'
 | .ret=>w.heap[l]? = some (.loop (rc .busy none))∧∀ w',Upd l w w'→w'.heap[l]? = some (.loop (rc .done (some .ret)))→R (.bool false) w'
 | .exit j=>w.heap[l]? = some (.loop (rc .busy none))∧∀ w',Upd l w w'→w'.heap[l]? = some (.loop (rc .done (some (.exit j))))→R (.bool false) w'
 | _=>False
structure LoopIn (n:Nat) (ps:List Tmp) (x y:Code) (e:dN) (rc:LoopState→Option Code→Loop):Prop where
 is:∃ fn tm D,(tm.size=n∧∀ t v,find e t=some v→tm.getD t undef=v)∧rc=λ st pd=>{ state:=st,pending:=pd,fn:=fn,tmps:=tm,params:=ps.toArray,assign:=x,body:=y,defers:=D }
def Yld (P:Program) (l:Nat) (vs:List Value) (w:World) (R:Value→World→Prop):Prop :=
 ∃ f tmps x y,(Instr.yield l vs.toArray).run P w=.ok (.round l f tmps x y) w∧RoundIn Fence.wide 0 P l f tmps x y w (Ret R)
theorem Yld.mono {P:Program} {l:Nat} {vs:List Value} {w:World} {R R':Value→World→Prop} (h:Yld P l vs w R) (hr:∀ v w,R v w→R' v w):Yld P l vs w R':=by
 obtain ⟨f,tmps,x,y,h1,h2⟩:=h
 exact ⟨f,tmps,x,y,h1,RoundIn.mono h2 λ e w ⟨v,h3,h4⟩=>⟨v,h3,hr _ _ h4⟩⟩
def psEnv:List Tmp→List Value→dN→dN
 | p::ps,v::vs,e=>psEnv ps vs ((p,v)::e)
 | _,_,e=>e
abbrev inR (l:Nat):Rn:=⟨some l,[],0⟩
theorem fits_ps [Rn] {n:Nat} (hds:Rn.ds=[]):∀ (ps:List Tmp) (vs:List Value) (e:dN) (tm:Array Value),(∀ p∈ps,p<n)→Fits n e { tmps:=tm,defers:=[] }→Fits n (psEnv ps vs e) { tmps:=(ps.zip vs).foldl (λ t (p,v)=>t.setIfInBounds p v) tm,defers:=[] }
 | [],_,e,tm,_,h=>by simpa [psEnv] using h
 | p::ps,[],e,tm,_,h=>by simpa [psEnv] using h
 | p::ps,v::vs,e,tm,hp,h=>by
  have h1:=h.put (d:=p) (Nat.ble_eq_true_of_le (hp p (by simp))) v
  exact fits_ps hds ps vs _ _ (λ q hq=>hp q (by simp [hq])) h1
theorem yld_of {P:Program} {n l:Nat} {ps:List Tmp} {x y:Code} {e:dN} {w:World} {rc:LoopState→Option Code→Loop} {vs:List Value} {R:Value→World→Prop} (hl:LoopIn n ps x y e rc) (h:w.heap[l]? = some (.loop (rc .ready none)))
  (hlen:vs.length=ps.length) (hb:ps.all (λ p=>Nat.blt p n)=true)
  (ha':∀ I:Rn,T P n x (psEnv ps vs e) w (λ ex e1 w1=>match ex with
   | .normal=>w1.heap[l]? = some (.loop (rc .ready none))∧∀ w2,Upd l w1 w2→w2.heap[l]? = some (.loop (rc .busy none))→T P n y e1 w2 (roundQ l rc R)
   | _=>False)):Yld P l vs w R:=by
 letI:=inR l
 have ha:=ha' (inR l)
 obtain ⟨fn,tm,D,⟨ht,hg⟩,hrc⟩:=hl.is
 have hy:=run_yield (P:=P) (args:=vs.toArray) h (by subst hrc;simp [hlen])
 refine ⟨_,_,_,_,hy,?_⟩
 have hb':∀ p∈ps,p<n:=λ p hp=>Nat.le_of_ble_eq_true (List.all_eq_true.1 hb p hp)
 have hfit:Fits n (psEnv ps vs e) { tmps:=((rc .ready none).params.zip vs.toArray).foldl (λ t (p,v)=>t.setIfInBounds p v) (rc .ready none).tmps,defers:=[] }:=by
  have hT:((rc .ready none).params.zip vs.toArray).foldl (λ t (p,v)=>t.setIfInBounds p v) (rc .ready none).tmps=(ps.zip vs).foldl (λ t (p,v)=>t.setIfInBounds p v) tm:=by
   subst hrc
   rw [← Array.foldl_toList];simp
  rw [hT]
  exact fits_ps rfl ps vs e tm hb' ⟨rfl,ht,hg⟩
 have hx0:(rc .ready none).assign=x:=by subst hrc;rfl
 have hy0:(rc .ready none).body=y:=by subst hrc;rfl
 have hbusy : { (rc .ready none) with state:=LoopState.busy }=rc .busy none:=by subst hrc;rfl
 have hend:∀ j:Option Code,{ (rc .busy none) with state:=if j.isNone then LoopState.ready else LoopState.done,pending:=j }=rc (if j.isNone then .ready else .done) j:=by subst hrc;exact λ _=>rfl
 refine roundIn_of_wpIn (F:=Fence.wide) trivial ?_
 rw [hx0,hy0]
 refine wpIn_mono (T.out ha hfit) ?_
 intro ex a1 w1 hx
 cases ex with
 | normal =>
  obtain ⟨e1,he1,h1,h2⟩:=hx
  have hlt:=(Array.getElem?_eq_some_iff.1 h1).1
  refine ⟨_,run_beginRound h1 (by subst hrc;rfl),?_⟩
  rw [hbusy]
  refine wpIn_mono (T.out (h2 _ (gL l w1 _) (World.putObj_heap_same hlt)) he1) ?_
  intro ex a2 w3 hx
  have fin:∀ jump:Option Code,w3.heap[l]? = some (.loop (rc .busy none))→(∀ w',Upd l w3 w'→w'.heap[l]? = some (.loop (rc (if jump.isNone then .ready else .done) jump))→R (.bool jump.isNone) w') →
    ∃ v w',(Instr.endRound l jump).run P w3=.ok v w'∧Ret R (.returned v) w':=λ jump h3 h4=>by
   refine ⟨_,_,run_endRound jump h3,_,rfl,h4 _ (gL l w3 _) ?_⟩
   rw [hend]
   exact World.putObj_heap_same (Array.getElem?_eq_some_iff.1 h3).1
  cases ex with
  | normal=>obtain ⟨e2,he2,h3,h4⟩:=hx;exact fin none h3 h4
  | ret =>
   obtain ⟨e2,ms,he2,hq⟩:=hx
   have hms:ms=[]:=he2.rnd.resolve_left (by simp [Rn.ro])
   subst hms
   obtain ⟨h3,h4⟩:=hq
   exact fin (some .ret) h3 h4
  | exit j=>obtain ⟨e2,he2,h3,h4⟩:=hx;exact fin (some (.exit j)) h3 h4
  | goto t=>obtain ⟨e2,he2,hq⟩:=hx;exact hq.elim
  | panic c=>obtain ⟨e2,he2,hq⟩:=hx;exact hq.elim
  | outgrown=>obtain ⟨e2,he2,hq⟩:=hx;exact hq.elim
 | ret=>obtain ⟨e2,ms,he2,hq⟩:=hx;exact hq.elim
 | exit j=>obtain ⟨e2,he2,hq⟩:=hx;exact hq.elim
 | goto t=>obtain ⟨e2,he2,hq⟩:=hx;exact hq.elim
 | panic c=>obtain ⟨e2,he2,hq⟩:=hx;exact hq.elim
 | outgrown=>obtain ⟨e2,he2,hq⟩:=hx;exact hq.elim
theorem TL.makeFunc [Rn] {P:Program} {n:Nat} {e:dN} {w:World} {Q:dO} {ops:Array Oper} {rest:List Oper} {d:Nat} {ty:TypeId} {pos:String} {aft:Array Edge} {f:Fn} {xs cs:List Operand} {us vs:List Value} (hxs:argsV (val e) xs=some us) (hcs:argsV (val e) cs=some vs) (hd:Nat.blt d n=true)
  (k:TL P n ops rest ((d,.func f us.toArray vs.toArray)::e) w Q):TL P n ops (⟨some d,.makeFunc f xs.toArray cs.toArray,ty,pos,aft,none⟩::rest) e w Q :=
 TL.run (λ r hr=>by
  have h1:=argsV_eval hr xs us hxs
  have h2:=argsV_eval hr cs vs hcs
  simp [execOp,Instr.makeFunc] at h1 h2 ⊢
  rw [h1,h2];exact ⟨rfl,rfl⟩) hd k
theorem jX [Rn] {P:Program} {n:Nat} {e:dN} {w:World} {Q:dO} {ops:Array Oper} {rest:List Oper} {ty:TypeId} {pos:String} {aft:Array Edge} {f:Fn} {xs cs:Array Operand} {d:Option Nat} (h:TL P n ops (⟨d,.makeFunc f xs cs,ty,pos,aft,none⟩::rest) e w Q):TL P n ops (⟨d,.makeFunc f xs cs,ty,pos,aft,none⟩::rest) e w Q:=h
theorem TL.yield [Rn] {P:Program} {n:Nat} {e:dN} {w:World} {Q:dO} {ops:Array Oper} {rest:List Oper} {d:Nat} {ty:TypeId} {pos:String} {aft:Array Edge} {l:Nat} {x:Operand} {xs:List Operand} {tys:Array TypeId} {vs:List Value} {R:Value→World→Prop} (hx:val e x=some (.func (.yield l) #[] #[])) (hxs:argsV (val e) xs=some vs)
  (hy:Yld P l vs w R) (hd:Nat.blt d n=true) (k:∀ v w',R v w'→TL P n ops rest ((d,v)::e) w' Q) :
  TL P n ops (⟨some d,.call ⟨.value x,xs.toArray,tys⟩,ty,pos,aft,none⟩::rest) e w Q:=TL.mk λ a ha =>
 wpListIn_plain rfl λ K hK=>by
  obtain ⟨f,tmps,y,z,h1,h2⟩:=hy
  have hr:(execOp a.eval ⟨some d,.call ⟨.value x,xs.toArray,tys⟩,ty,pos,aft,none⟩).run P w=.ok (.round l f tmps y z) w:=by
   have:=argsV_eval ha xs vs hxs
   simp [execOp,resolve,ha.eval hx,Deferred.ofValue,invoke,h1] at this ⊢
   rw [this];exact h1
  refine Oper.wpFR _ (.inr (.inr (.inr ⟨_,_,_,_,_,_,hr,RoundIn.mono h2 ?_⟩)))
  rintro x w' ⟨v,rfl,hv⟩
  exact ⟨v,rfl,hK _ _ ((k v w' hv).out (ha.put hd v))⟩
section
variable [Rn]
variable {P:Program} {n:Nat} {e:dN} {w:World} {Q:dO}
theorem T.seq2 {x y z:Code} (h:T P n x e w (thenQ2 P n y z Q)):T P n (.seq (.seq x y) z) e w Q:=T.mk λ a ha =>
 wpIn_seq (wpIn_seq (wpIn_mono (T.out h ha) λ ex a w hx=>by
  cases ex<;>first|exact hx|(obtain ⟨e,he,hq⟩:=hx;exact hq a he)))
theorem mQ {x y:Code} (h:T2 P n x y e w Q):thenQ2 P n x y Q .normal e w:=h
theorem T.seqR {i:Nat} {x z p q:Code} {g:Operand} {ps:Array Tmp} (h:T P n x e w (thenQ2 P n (.block i (.rangeFunc g ps p q)) z Q)):T P n (.seq (.seq x (.block i (.rangeFunc g ps p q))) z) e w Q:=T.seq2 h
def markQ (D:Nat) (Q:dO):dO:=λ x e w =>
 match x with
 | .ret=>w.heap[D]? = some (.deferred (some []))∧∀ w',Upd D w w'→Q .ret e w'
 | _=>False
abbrev behind (D:Nat):Rn:=⟨none,mkD D::Rn.ds,D+1⟩
theorem lift_mark {D:Nat} {x:Exit} {a:Act} {w:World} (hro:Rn.ro=none) (hlo:Rn.lo≤D) (h:@iQ (behind D) n (markQ D Q) x a w):iQ n Q x a w:=by
 cases x with
 | ret =>
  obtain ⟨e,ms,⟨k1,k2,k3,k4,k5,k6⟩,h1,h2⟩:=h
  have k5:∀ r∈ms,D+1≤r∧w.heap[r]? = some (.deferred (some [])):=k5
  have k1:a.defers=ms.map mkD++mkD D::Rn.ds:=k1
  have hD:D∉ms:=λ hm=>by have:=(k5 D hm).1;omega
  refine ⟨e,ms++[D],⟨by rw [k1];simp,k2,k3,?_,λ r hr=>?_,.inl hro⟩,?_⟩
  ·rw [List.nodup_append]
   exact ⟨k4,by simp,λ x hx y hy=>by simp only [List.mem_singleton] at hy;subst hy;exact λ e=>hD (by rw [← e];exact hx)⟩
  ·rcases List.mem_append.1 hr with h3|h3
   ·have:=k5 r h3
    exact ⟨by omega,this.2⟩
   ·simp only [List.mem_singleton] at h3
    subst h3
    exact ⟨hlo,by rw [shut_other hD] at h1;exact h1⟩
  ·rw [shut_append]
   exact h2 _ (gL D _ _)
 | normal=>obtain ⟨e,he,hq⟩:=h;exact hq.elim
 | exit j=>obtain ⟨e,he,hq⟩:=h;exact hq.elim
 | goto j=>obtain ⟨e,he,hq⟩:=h;exact hq.elim
 | panic c=>obtain ⟨e,he,hq⟩:=h;exact hq.elim
 | outgrown=>obtain ⟨e,he,hq⟩:=h;exact hq.elim
structure RangeOut (P:Program) (n:Nat) (i:Nat) (B:Code) (Q:dO) (e:dN) (D:Nat) (rc:LoopState→Option Code→Loop) (w:World):Prop where
 mark:w.heap[D]? = some (.deferred (some []))
 cases':(w.heap[D+1]? = some (.loop (rc .ready none))∧∀ (I:Rn) (w4:World),Upd (D+1) w w4→@T I P n B e w4 (markQ D Q)) ∨
  (w.heap[D+1]? = some (.loop (rc .done (some .ret)))∧∀ w4 w5,Upd (D+1) w w4→Upd D w4 w5→Q .ret e w5) ∨
  (w.heap[D+1]? = some (.loop (rc .done (some (.exit i))))∧∀ (I:Rn) (w4:World),Upd (D+1) w w4→@T I P n B e w4 (markQ D Q))
theorem T2.range {i:Nat} {g:Operand} {ps:List Tmp} {x y B:Code} {gf:FuncId} {lb:List Value} [hf:FnOk P gf] (hro:Rn.ro=none) (hlo:Rn.lo≤w.heap.size) (hg:val e g=some (.func (.func gf) #[] lb.toArray))
  (h:∀ rc w1,LoopIn n ps x y e rc→w1.heap.size=w.heap.size+2→Grow w w1→w1.heap[w.heap.size+1]? = some (.loop (rc .ready none))→w1.heap[w.heap.size]? = some (.deferred (some [])) →
   Calls P gf (.func (.yield (w.heap.size+1)) #[] #[]::lb).toArray w1 (Ret λ _ w2=>RangeOut P n i B Q e w.heap.size rc w2)) :
  T2 P n (.block i (.rangeFunc g ps.toArray x y)) B e w Q:=λ a ha=>by
 have hF:FR Rn.ro=FR none:=by rw [hro]
 refine wpIn_block (wpIn_rangeFunc λ fn _=>?_)
 obtain ⟨rc,hrc⟩:∃ rc:LoopState→Option Code→Loop,rc=λ st pd=>{ state:=st,pending:=pd,fn:=fn,tmps:=a.tmps,params:=ps.toArray,assign:=x,body:=y,defers:=w.heap.size }:=⟨_,rfl⟩
 have hent:(Instr.enterLoop fn a.tmps ps.toArray x y (FR Rn.ro).round).run P w=.ok (w.heap.size+1,[mkD w.heap.size]) ((w.alloc (.deferred (some []))).alloc (.loop (rc .ready none))):=by
  rw [hF,hrc];exact run_enterLoop_outer _ _ _ _ _
 generalize hW:(w.alloc (.deferred (some []))).alloc (.loop (rc .ready none))=W1 at hent
 have hl1:W1.heap[w.heap.size+1]? = some (.loop (rc .ready none)):=by
  rw [← hW]
  have:=World.alloc_heap_new (w.alloc (.deferred (some []))) (.loop (rc .ready none));rwa [World.size_alloc] at this
 have hk1:W1.heap[w.heap.size]? = some (.deferred (some [])):=by
  rw [← hW];exact (Below.heap_alloc _ _ _ (by simp)).trans (World.alloc_heap_new w _)
 have hgr:Grow w W1:=by rw [← hW];exact Grow.mk (((Below.refl _ w).alloc (Nat.le_refl _) _).alloc (by simp) _)
 have hc:=h rc W1 ⟨fn,a.tmps,w.heap.size,⟨ha.size,ha.get⟩,hrc⟩ (by rw [← hW];simp) hgr hl1 hk1
 have hend:∀ st pd,{ (rc st pd) with state:=LoopState.exhausted }=rc .exhausted pd:=by subst hrc;exact λ _ _=>rfl
 have hst:∀ st pd,(rc st pd).state=st:=by subst hrc;exact λ _ _=>rfl
 have hpd:∀ st pd,(rc st pd).pending=pd:=by subst hrc;exact λ _ _=>rfl
 refine ⟨w.heap.size+1,[mkD w.heap.size],_,⟨.fn (.func gf) lb.toArray,#[.func (.yield (w.heap.size+1)) #[] #[]]⟩,W1,gf,(.func (.yield (w.heap.size+1)) #[] #[]::lb).toArray,W1,hent,?_,λ _ _=>trivial,?_,(λ h=>by cases h),?_⟩
 ·simp [rangeCall,resolve,ha.eval hg,Deferred.ofValue,Sem.run_bind,Result.andThen]
  rfl
 ·show (callFunc gf (#[Value.func (.yield (w.heap.size+1)) #[] #[]]++lb.toArray)).run P _=_
  have:=kS (P:=P) (f:=gf) (.func (.yield (w.heap.size+1)) #[] #[]::lb).toArray W1
  simpa using this
 ·refine CallsIn.mono (calls_fr hc) λ en w2 hen=>?_
  obtain ⟨v,rfl,hD,hcase⟩:=hen
  have hfit:@Fits (behind w.heap.size) n e { a with defers:=mkD w.heap.size::a.defers } :=
   @Fits.mk (behind w.heap.size) n e _ (show mkD w.heap.size::a.defers=mkD w.heap.size::Rn.ds by rw [ha.defers]) ha.size ha.get
  have hB:∀ w4,@T (behind w.heap.size) P n B e w4 (markQ w.heap.size Q)→B.wpIn (FR Rn.ro) 0 P (iQ n Q) { a with defers:=mkD w.heap.size::a.defers } w4:=λ w4 hT=>by
   rw [hF]
   exact wpIn_mono (@T.out (behind w.heap.size) _ _ _ _ _ _ hT _ hfit) λ ex a w hx=>lift_mark hro hlo hx
  rcases hcase with ⟨h1,h2⟩|⟨h1,h2⟩|⟨h1,h2⟩
  ·exact ⟨none,_,by have:=run_endLoop (P:=P) h1 (by rw [hst];simp);rw [hpd] at this;exact this,hB _ (h2 _ _ (gL _ _ _))⟩
  ·refine ⟨some .ret,_,by have:=run_endLoop (P:=P) h1 (by rw [hst];simp);rw [hpd] at this;exact this,wpIn_ret ?_⟩
   refine ⟨e,[w.heap.size],⟨by rw [← ha.defers];rfl,ha.size,ha.get,by simp,λ r hr=>?_,.inl hro⟩,h2 _ _ (gL _ _ _) (gL _ _ _)⟩
   simp only [List.mem_singleton] at hr
   subst hr
   exact ⟨hlo,by rw [World.putObj_heap_other (by omega)];exact hD⟩
  ·refine ⟨some (.exit i),_,by have:=run_endLoop (P:=P) h1 (by rw [hst];simp);rw [hpd] at this;exact this,wpIn_exit ?_⟩
   simp only [Exit.inBlock,if_true]
   exact hB _ (h2 _ _ (gL _ _ _))
end
end Go.V
namespace Go.Proofs.YtfpadnmdafiddaaGreatDoor
open Go Go.RowKit Go.V
theorem chunk_c (a:Option Addr) (n c:Nat) (w:World) :
  Calls Tryz.prog 249 #[.slice a n c,.int .i64 128] w (Ret λ v w'=>∃ b1 b2,v=.func (.func 266) #[] #[.pointer (some ⟨b1,0,none⟩),.pointer (some ⟨b2,0,none⟩)] ∧
   w.heap.size≤b1∧w.heap.size≤b2∧Blk w' b1 30 [.slice a n c]∧Blk w' b2 3 [.int .i64 128]∧Grow w w'):=by
 refine V.calls (args:=[_,_]) Tryz.func249 rfl Tryz.ntmps249 rfl rfl ?_
 repeat (first|(refine jX ?_;refine TL.makeFunc (xs:=[]) (cs:=[_,_]) rfl rfl rfl ?_)|(refine aD ?_;refine TL.pure rfl rfl ?_)|refine aK rfl yM rfl ?_|refine TL.nil ?_|refine aA ?_|refine aJ ?_|refine aC ?_|(refine aH ?_;refine TL.pure rfl rfl ?_)|(refine bW ?_;(refine TL.box rfl rfl rfl ?_;intro bk w' hg hbk hsz hsz'))|refine aE rfl ?_|refine bC ?_|refine aV ?_)
 exact cF rfl ⟨_,rfl,_,_,rfl,by omega,by omega,yB,yB,yG⟩
theorem chunks_c (G:Nat→Prop) (l b1 b2 m:Nat) (a:Option Addr) (c:Nat) (bs:Bs) (J:Nat→World→Prop) (hl:bs.length=128*m) (hm:m≤1000000)
  (hpre:∀ k w,J k w→Blk w b1 30 [.slice a (128*m) c]∧Blk w b2 3 [.int .i64 128]∧Sl G w 1 a (128*m) c (cX bs))
  (hgr:∀ k w w',J k w→Grow w w'→J k w')
  (hround:∀ k w a',k<m→J k w→Sl G w 1 a' 128 128 (cX ((bs.drop (128*k)).take 128))→Yld Tryz.prog l [.slice a' 128 128] w (λ v w'=>v=.bool true∧J (k+1) w'))
  (w:World) (h0:J 0 w) :
  Calls Tryz.prog 266 #[.func (.yield l) #[] #[],.pointer (some ⟨b1,0,none⟩),.pointer (some ⟨b2,0,none⟩)] w (Ret λ _ w'=>J m w'):=by
 refine V.calls (args:=[_,_,_]) Tryz.func266 rfl Tryz.ntmps266 rfl rfl ?_
 repeat (first|(refine aD ?_;refine TL.pure rfl rfl ?_)|refine TL.nil ?_|refine aA ?_|refine aJ ?_|refine aC ?_|refine T.block ?_)
 refine cM (S:=Nat) (λ k=>[(4,.int .i64 ((128*k:Nat):Int)),(2,.pointer (some ⟨b2,0,none⟩)),(1,.pointer (some ⟨b1,0,none⟩)),(0,.func (.yield l) #[] #[])]) (λ k w1=>k≤m∧J k w1) (λ k=>m-k) 0 ⟨rfl,rfl,rfl,rfl,trivial⟩ ⟨by omega,h0⟩ ?_
 clear h0
 rintro k w1 ⟨hk,hj⟩
 obtain ⟨hb1,hb2,hs⟩:=hpre k w1 hj
 by_cases hlt:128*k<128*m
 rotate_left
 ·obtain rfl:k=m:=by omega
  repeat (first|(refine aB ?_;refine TL.pure rfl rfl ?_)|refine aK rfl yM rfl ?_|refine TL.nil ?_|refine aA ?_|refine aJ ?_|refine aC ?_|(refine aH ?_;refine aR rfl yD rfl ?_)|refine aO rfl rfl ?_|refine aE rfl ?_|refine cN ?_|refine bM ?_|refine bO ?_|refine bN ?_)
  exact kB (vs:=[]) rfl rfl ⟨_,rfl,hj⟩
 have hcap:=hs.cap
 repeat (first|(refine aB ?_;refine TL.pure rfl rfl ?_)|refine aK rfl yM rfl ?_|refine TL.nil ?_|refine aA ?_|refine aJ ?_|refine aC ?_|refine T.block ?_|(refine aH ?_;refine bA rfl yD rfl ?_)|refine aO rfl rfl ?_|refine aN rfl ?_|refine aV ?_)
 apply T.any 6 [is (.int .i64 ((128:Nat):Int)),is (.slice a (128*m) c),is (.int .i64 ((128*k:Nat):Int)),slF G 1 (128*m-128*k) (c-128*k) ((cX bs).drop (128*k)),is (.int .i64 ((128*m-128*k:Nat):Int)),is (.int .i64 ((128:Nat):Int))]
 ·rfl
 ·repeat' (first|exact bX|refine bU ?_ ?_)
  iterate 3
   ·(refine aQ rfl rfl rfl ?_);( intro wq _ _ hgq;(repeat (refine aG rfl rfl ?_;intro vq hvq;try (obtain rfl:=hvq)));(refine aM ?_))
    repeat (first|(refine aB ?_;refine TL.pure rfl rfl ?_)|refine aK rfl yM rfl ?_|refine TL.nil ?_)
    exact aS rfl yG rfl
  ·(refine aQ rfl rfl rfl ?_);( intro wq _ _ hgq;(repeat (refine aG rfl rfl ?_;intro vq hvq;try (obtain rfl:=hvq)));(refine aM ?_))
   refine TL.slice (l:=128*k) (h:=128*m) (mm:=c) rfl (hs.grow hgq) (dG rfl rfl) (bZ _) (bZ c) (λ _=>rfl) (by omega) (by omega) (by omega) (Nat.le_refl _) rfl ?_
   intro a' hsl _
   repeat (refine TL.nil ?_)
   refine aS rfl yG ⟨a',rfl,?_⟩
   rw [Nat.mul_one,Nat.mul_one,List.take_of_length_le (by rw [List.length_drop,dA,hl];omega)] at hsl
   exact hsl
  ·(refine aQ rfl rfl rfl ?_);( intro wq _ _ hgq;(repeat (refine aG rfl rfl ?_;intro vq hvq;try (obtain rfl:=hvq)));(refine aM ?_))
   obtain ⟨a',rfl,hsl⟩:=hvq
   repeat (first|refine TL.nil ?_|refine aO rfl rfl ?_)
   exact aS rfl yG rfl
  ·(refine aQ rfl rfl rfl ?_);( intro wq _ _ hgq;(repeat (refine aG rfl rfl ?_;intro vq hvq;try (obtain rfl:=hvq)));(refine aM ?_))
   refine TL.minV (r:=((128:Nat):Int)) rfl rfl (by split<;>omega) rfl ?_
   repeat (refine TL.nil ?_)
   exact aS rfl yG rfl
 ·intro w6 lo6 hi6 hg6 _ _
  ((repeat (refine aG rfl rfl ?_;intro vq hvq;try (obtain rfl:=hvq)));(refine aM ?_))
  repeat (first|(refine aB ?_;refine TL.pure rfl rfl ?_)|(refine aD ?_;refine TL.pure rfl rfl ?_)|refine aK rfl yM rfl ?_|(refine bJ ?_;refine bT rfl rfl (by omega) rfl ?_)|refine TL.nil ?_|refine aA ?_|refine aJ ?_|refine aC ?_)
  have hj6:=hgr k _ _ hj hg6
  obtain ⟨hb16,hb26,hs6⟩:=hpre k _ hj6
  repeat (refine aJ ?_)
  refine TL.slice (l:=128*k) (h:=128*k+128) (mm:=128*k+128) rfl hs6 (dG rfl rfl) (dG rfl rfl) (dG rfl rfl) (by intro h;cases h) (by omega) (by omega) (by omega) (by omega) rfl ?_
  intro a' hsl _
  rw [show 128*k+128-128*k=128 by omega,Nat.mul_one,Nat.mul_one] at hsl
  rw [show 128*k+128-128*k=128 by omega]
  repeat (refine aJ ?_)
  refine TL.yield rfl rfl (hround k _ a' (by omega) hj6 (by simpa [cX,List.map_take,List.map_drop] using hsl)) rfl ?_
  rintro _ w7 ⟨rfl,hj7⟩
  obtain ⟨hb17,hb27,hs7⟩:=hpre (k+1) _ hj7
  repeat (first|(refine aB ?_;refine TL.pure rfl rfl ?_)|(refine aD ?_;refine TL.pure rfl rfl ?_)|refine aK rfl yM rfl ?_|(refine bJ ?_;refine bT rfl rfl (by omega) rfl ?_)|refine TL.nil ?_|refine aA ?_|refine aC ?_|refine aT ?_|refine aE rfl ?_|refine aV ?_|refine TL.pure rfl rfl ?_)
  exact bG (k+1) ⟨rfl,rfl,rfl,rfl,trivial⟩ ⟨by omega,hj7⟩ (by omega)
end Go.Proofs.YtfpadnmdafiddaaGreatDoor
namespace Go.V
open Go Go.RowKit
abbrev wB (x:BitVec 64):Value:=.int .u64 (x.toNat:Int)
theorem ofB (x:BitVec 64):BitVec.ofInt 64 (x.toNat:Int)=x:=by simp
theorem wrapB (x:BitVec 64):IntKind.u64.wrap (x.toNat:Int)=(x.toNat:Int):=eW (M:=18446744073709551616) rfl x.isLt
theorem wrapM (a:Nat):IntKind.u64.wrap (a:Int)=((a%18446744073709551616:Nat):Int):=by
 simp [IntKind.wrap,IntKind.signed,IntKind.bits]
section
variable {P:Program} {n:Nat} {e:dN} {w:World} {Q:dO} {ops:Array Oper} {rest:List Oper} {d:Nat} {ty:TypeId} {pos:String} {aft:Array Edge} {a b:BitVec 64} {x y:Operand} {t1 t2:TypeId}
theorem TL.addB6 (hx:val e x=some (wB a)) (hy:val e y=some (wB b)) (hd:Nat.blt d n=true) (k:TL P n ops rest ((d,wB (a+b))::e) w Q) :
  TL P n ops (⟨some d,.binOp .add t1 x y t2,ty,pos,aft,none⟩::rest) e w Q :=
 TL.run (λ r hr=>by
  have h:IntKind.u64.wrap ((a.toNat:Int)+(b.toNat:Int))=((a+b).toNat:Int):=by rw [← Int.natCast_add,wrapM,BitVec.toNat_add]
  simp [execOp,binOp,cC,Op.intArith,hr.eval hx,hr.eval hy,h]) hd k
theorem TL.xorB6 (hx:val e x=some (wB a)) (hy:val e y=some (wB b)) (hd:Nat.blt d n=true) (k:TL P n ops rest ((d,wB (a ^^^ b))::e) w Q) :
  TL P n ops (⟨some d,.binOp .xor t1 x y t2,ty,pos,aft,none⟩::rest) e w Q :=
 TL.pure (v:=wB (a ^^^ b)) (by simp only [pureOp,hx,hy,kindEq,cond_true,intOp];show some (Value.int .u64 (IntKind.u64.wrap ((BitVec.ofInt 64 (a.toNat:Int) ^^^ BitVec.ofInt 64 (b.toNat:Int)).toNat:Int)))=_;rw [ofB,ofB,wrapB]) hd k
theorem TL.andB6 (hx:val e x=some (wB a)) (hy:val e y=some (wB b)) (hd:Nat.blt d n=true) (k:TL P n ops rest ((d,wB (a&&&b))::e) w Q) :
  TL P n ops (⟨some d,.binOp .and t1 x y t2,ty,pos,aft,none⟩::rest) e w Q :=
 TL.pure (v:=wB (a&&&b)) (by simp only [pureOp,hx,hy,kindEq,cond_true,intOp];show some (Value.int .u64 (IntKind.u64.wrap ((BitVec.ofInt 64 (a.toNat:Int)&&&BitVec.ofInt 64 (b.toNat:Int)).toNat:Int)))=_;rw [ofB,ofB,wrapB]) hd k
theorem TL.orB6 (hx:val e x=some (wB a)) (hy:val e y=some (wB b)) (hd:Nat.blt d n=true) (k:TL P n ops rest ((d,wB (a|||b))::e) w Q) :
  TL P n ops (⟨some d,.binOp .or t1 x y t2,ty,pos,aft,none⟩::rest) e w Q :=
 TL.pure (v:=wB (a|||b)) (by simp only [pureOp,hx,hy,kindEq,cond_true,intOp];show some (Value.int .u64 (IntKind.u64.wrap ((BitVec.ofInt 64 (a.toNat:Int)|||BitVec.ofInt 64 (b.toNat:Int)).toNat:Int)))=_;rw [ofB,ofB,wrapB]) hd k
theorem TL.notB6 (hx:val e x=some (wB a)) (hd:Nat.blt d n=true) (k:TL P n ops rest ((d,wB (~~~a))::e) w Q) :
  TL P n ops (⟨some d,.unOp .xor t1 x,ty,pos,aft,none⟩::rest) e w Q :=
 TL.run (λ r hr=>by
  have h:Op.unary .xor (wB a)=(Pure.pure (wB (~~~a)):Sem Value):=by
   show (Pure.pure (Value.int .u64 (IntKind.u64.wrap ((BitVec.ofInt 64 _ ^^^ BitVec.ofInt 64 (a.toNat:Int)).toNat:Int))):Sem Value)=_
   rw [ofB]
   have:BitVec.ofInt 64 (if IntKind.u64.signed=true then -1 else IntKind.u64.max)=BitVec.allOnes 64:=by decide
   rw [this,BitVec.allOnes_xor,wrapB]
  simp [execOp,hr.eval hx,h]) hd k
theorem TL.shlB6 {s:Nat} {zs:Int} {ky:IntKind} (hx:val e x=some (wB a)) (hy:val e y=some (.int ky zs)) [iy:Lit zs s] (hs:s≤64) (hd:Nat.blt d n=true) (k:TL P n ops rest ((d,wB (a<<<s))::e) w Q) :
  TL P n ops (⟨some d,.binOp .shl t1 x y t2,ty,pos,aft,none⟩::rest) e w Q :=
 TL.run (λ r hr=>by
  rw [iy.h] at hy
  have h3:min s IntKind.u64.bits=s:=Nat.min_eq_left hs
  have h4:¬ ((s:Int)<0):=by omega
  have h:IntKind.u64.wrap ((a.toNat:Int)*2^s)=((a<<<s).toNat:Int):=by
   rw [show (a.toNat:Int)*2^s=((a.toNat*2^s:Nat):Int) by simp,wrapM,BitVec.toNat_shiftLeft,Nat.shiftLeft_eq]
  simp only [execOp,binOp,cC,Op.shift,hr.eval hx,hr.eval hy]
  simp [h3,h4,h]) hd k
theorem TL.shrB6 {s:Nat} {zs:Int} {ky:IntKind} (hx:val e x=some (wB a)) (hy:val e y=some (.int ky zs)) [iy:Lit zs s] (hs:s≤64) (hd:Nat.blt d n=true) (k:TL P n ops rest ((d,wB (a>>>s))::e) w Q) :
  TL P n ops (⟨some d,.binOp .shr t1 x y t2,ty,pos,aft,none⟩::rest) e w Q :=
 TL.run (λ r hr=>by
  rw [iy.h] at hy
  have h3:min s IntKind.u64.bits=s:=Nat.min_eq_left hs
  have h4:¬ ((s:Int)<0):=by omega
  have h:(a.toNat:Int).fdiv (2^s)=((a>>>s).toNat:Int):=by
   rw [Int.fdiv_eq_ediv_of_nonneg _ (by exact_mod_cast Nat.zero_le (2^s)),BitVec.toNat_ushiftRight,Nat.shiftRight_eq_div_pow]
   simp
  simp only [execOp,binOp,cC,Op.shift,hr.eval hx,hr.eval hy]
  simp [h3,h4,h]) hd k
theorem TL.convZ6 {z z':Int} {s t:TypeId} {k1 k2 kd:IntKind} [hs:IntTy P s k1] [ht:IntTy P t k2] (hx:val e x=some (.int kd z)) (h:k2.wrap z=z') (hd:Nat.blt d n=true)
  (k:TL P n ops rest ((d,.int k2 z')::e) w Q):TL P n ops (⟨some d,.convert s t x,ty,pos,aft,none⟩::rest) e w Q :=
 TL.run (λ r hr=>by simp [execOp,hr.eval hx,jB hs ht,h]) hd k
theorem TL.convW8 {c:Nat} {zc:Int} {s t:TypeId} [hs:IntTy P s .u8] [ht:IntTy P t .u64] (hx:val e x=some (.int .u8 zc)) [ix:Lit zc c] (hc:c<256) (hd:Nat.blt d n=true) (k:TL P n ops rest ((d,wB (BitVec.ofNat 64 c))::e) w Q) :
  TL P n ops (⟨some d,.convert s t x,ty,pos,aft,none⟩::rest) e w Q :=
 TL.run (λ r hr=>by
  rw [ix.h] at hx
  have h:IntKind.u64.wrap (c:Int)=((BitVec.ofNat 64 c).toNat:Int):=by rw [wrapM,BitVec.toNat_ofNat]
  simp [execOp,hr.eval hx,jB hs ht,h]) hd k
end
def rotl (x:BitVec 64) (s:Nat):BitVec 64:=(x<<<s)|||(x>>>(64-s))
attribute [irreducible] rotl
def rotA (k:Int):Nat:=(BitVec.ofInt 64 (IntKind.u64.wrap k)&&&BitVec.ofInt 64 63).toNat
theorem rotA_le (k:Int):rotA k≤64:=by
 unfold rotA
 rw [BitVec.toNat_and]
 exact Nat.le_trans Nat.and_le_right (by decide)
end Go.V
namespace Go.Proofs.YtfpadnmdafiddaaGreatDoor
open Go Go.RowKit Go.V
theorem rotl_c (x:BitVec 64) (k:Int) (w:World) :
  Calls Tryz.prog 270 #[wB x,.int .i64 k] w (Ret λ v w'=>v=wB (rotl x (rotA k))∧w'=w):=by
 have hk:IntKind.u64.wrap (BitVec.ofInt 64 (IntKind.u64.wrap k)&&&BitVec.ofInt 64 63).toNat=(rotA k:Int):=wrapB _
 have hs:=rotA_le k
 generalize rotA k=s at *
 refine V.calls (args:=[_,_]) Tryz.func270 rfl Tryz.ntmps270 rfl rfl ?_
 unfold rotl
 repeat (first|(refine aB ?_;refine TL.pure rfl rfl ?_)|(refine aD ?_;refine TL.pure rfl rfl ?_)|refine TL.nil ?_|refine aA ?_|refine aJ ?_|refine aC ?_)
 refine TL.convZ6 rfl rfl rfl ?_
 refine TL.pure (v:=.int .u64 (s:Int)) (congrArg (λ z=>some (Value.int .u64 z)) hk) rfl ?_
 repeat (first|refine TL.shlB6 rfl rfl hs rfl ?_|(refine fT ?_;refine TL.shrB6 rfl rfl (by omega) rfl ?_)|refine TL.orB6 rfl rfl rfl ?_|(refine cJ ?_;refine TL.subU rfl rfl rfl (by omega) (by omega) rfl ?_)|(refine aB ?_;refine TL.pure rfl rfl ?_)|(refine aD ?_;refine TL.pure rfl rfl ?_)|refine TL.nil ?_|refine aA ?_|refine aJ ?_|refine aC ?_|refine bC ?_)
 exact cF rfl ⟨_,rfl,rfl,rfl⟩
end Go.Proofs.YtfpadnmdafiddaaGreatDoor
namespace Go.Proofs.YtfpadnmdafiddaaGreatDoor
open Go Go.RowKit Go.V
def be (l:List Nat):BitVec 64:=l.foldl (λ x b=>(x<<<8)|||BitVec.ofNat 64 b) 0#64
def part (bs:List Nat) (i:Nat):List (BitVec 64):=(List.range 80).map λ j=>be (((bs.take i).drop (8*j)).take 8)
theorem lK (bs:List Nat) (i:Nat):(part bs i).length=80:=by simp [part]
theorem part_at (bs:List Nat) (i:Nat) {j:Nat} (h:j<80):(part bs i).getD j 0#64=be (((bs.take i).drop (8*j)).take 8):=by
 rw [List.getD_eq_getElem?_getD,part,List.getElem?_map,List.getElem?_range h];rfl
theorem part_zero (bs:List Nat):part bs 0=List.replicate 80 0#64:=by
 apply List.ext_getElem?
 intro j
 by_cases h:j<80
 ·rw [part,List.getElem?_map,List.getElem?_range h,List.getElem?_replicate,if_pos h];simp [be]
 ·rw [List.getElem?_eq_none (by rw [lK];omega),List.getElem?_eq_none (by simp;omega)]
theorem part_step {bs:List Nat} {i:Nat} (hi:i<128) (hl:bs.length=128):(part bs i).set (i / 8) (((part bs i).getD (i / 8) 0#64<<<8)|||BitVec.ofNat 64 (bs.getD i 0))=part bs (i+1):=by
 apply List.ext_getElem?
 intro j
 have htk:bs.take (i+1)=bs.take i++[bs.getD i 0]:=by rw [List.getD_eq_getElem?_getD,List.getElem?_eq_getElem (by omega)];simp only [Option.getD_some];exact (List.take_append_getElem (by omega)).symm
 by_cases h:j<80
 ·have e2:(part bs (i+1))[j]? = some (be (((bs.take (i+1)).drop (8*j)).take 8)):=by rw [part,List.getElem?_map,List.getElem?_range h];rfl
  have e1:(part bs i)[j]? = some (be (((bs.take i).drop (8*j)).take 8)):=by rw [part,List.getElem?_map,List.getElem?_range h];rfl
  have hlen:(bs.take i).length=i:=by rw [List.length_take];omega
  rw [e2]
  by_cases hj:i / 8=j
  ·subst hj
   rw [List.getElem?_set_self (by rw [lK];omega),part_at _ _ h,htk,List.drop_append_of_le_length (by omega)]
   have h1:((bs.take i).drop (8*(i / 8))).length≤7:=by rw [List.length_drop,hlen];omega
   rw [List.take_of_length_le (l:=(bs.take i).drop (8*(i / 8))) (by omega),List.take_of_length_le (l:=(bs.take i).drop (8*(i / 8))++[bs.getD i 0]) (by rw [List.length_append];simp only [List.length_singleton];omega)]
   simp only [be,List.foldl_append,List.foldl_cons,List.foldl_nil]
  ·rw [List.getElem?_set_ne hj,e1,htk]
   rcases Nat.lt_or_gt_of_ne hj with hj|hj
   ·rw [List.drop_eq_nil_of_le (by rw [hlen];omega),List.drop_eq_nil_of_le (by rw [List.length_append,hlen];simp only [List.length_singleton];omega)]
   ·rw [List.drop_append_of_le_length (by omega),List.take_append_of_le_length (by rw [List.length_drop,hlen];omega)]
 ·rw [List.getElem?_eq_none (by rw [List.length_set,lK];omega),List.getElem?_eq_none (by rw [lK];omega)]
attribute [irreducible] part
def sg0 (x:BitVec 64):BitVec 64:=rotl x (rotA (-1)) ^^^ rotl x (rotA (-8)) ^^^ (x>>>7)
def sg1 (x:BitVec 64):BitVec 64:=rotl x (rotA (-19)) ^^^ rotl x (rotA (-61)) ^^^ (x>>>6)
def nextW (r:List (BitVec 64)) (t:Nat):BitVec 64:=r.getD (t-16) 0#64+sg0 (r.getD (t-15) 0#64)+r.getD (t-7) 0#64+sg1 (r.getD (t-2) 0#64)
def sched:Nat→List (BitVec 64)→List (BitVec 64)
 | 0,ws=>ws
 | n+1,ws=>(sched n ws).set (n+16) (nextW (sched n ws) (n+16))
theorem sched_len (n:Nat) (ws:List (BitVec 64)):(sched n ws).length=ws.length:=by induction n<;>simp [sched, *]
theorem wcell {ws:List (BitVec 64)} {j:Nat} (h:j<ws.length):(ws.map wB)[j]? = some (wB (ws.getD j 0#64)):=by
 simp [List.getD_eq_getElem?_getD,h]
theorem map_set (ws:List (BitVec 64)) (j:Nat) (x:BitVec 64):(ws.map wB).set j (wB x)=(ws.set j x).map wB:=by rw [List.map_set]
def pbs (bs:List Nat):List Value:=bs.map λ (b:Nat)=>Value.int .u8 (b:Int)
theorem pbs_at {bs:List Nat} {j:Nat} (h:j<bs.length):(pbs bs)[j]? = some (.int .u8 ((bs.getD j 0:Nat):Int)):=by
 simp [pbs,List.getD_eq_getElem?_getD,h]
instance:Zero Tryz.prog 340 (.agg ((List.replicate 80 0#64).map wB).toArray):=⟨by kernel_rfl⟩
theorem schedule_c (bs:List Nat) (hl:bs.length=128) (hb:∀ b∈bs,b<256) (w:World):Calls Tryz.prog 268 #[.agg (pbs bs).toArray] w
  (Ret λ v w'=>v=.agg ((sched 64 (part bs 128)).map wB).toArray∧Grow w w'):=by
 refine V.calls (args:=[_]) Tryz.func268 rfl Tryz.ntmps268 rfl rfl ?_
 have hpl:(pbs bs).length=128:=by simp [pbs,hl]
 repeat (first|refine TL.nil ?_|refine aA ?_|refine aJ ?_|refine aC ?_|(refine bW ?_;(refine dJ rfl rfl ?_;intro bk w' hg hbk hsz hsz'))|(refine bD ?_;(refine TL.alloc rfl rfl ?_;intro bk w' hg hbk hsz hsz')))
 refine bE rfl yB (by rw [hpl];rfl) rfl ?_
 rename_i bp wp hgp hbp hszp hszp' br wr hgr hbr hszr hszr'
 have hr2:bk≠br∧w.heap.size≤br∧w.heap.size≤bk:=by omega
 have hbr':=hbr.grow hg
 replace hg:Grow w w':=by exact yG
 clear hgp hgr hbp hbr
 have hb0:Blk w' bk 340 ((part bs 0).map wB):=by rw [part_zero];exact hbk
 repeat (first|(refine aB ?_;refine TL.pure rfl rfl ?_)|refine TL.nil ?_|refine aA ?_|refine T.block ?_)
 refine cM (S:=Nat) (λ i=>[(12,.int .i64 (i:Int)),(11,.agg (pbs bs).toArray),(3,.pointer (some ⟨bk,0,none⟩)),(2,.pointer (some ⟨br,0,none⟩))])
  (λ i w6=>i≤128∧Blk w6 bk 340 ((part bs i).map wB)∧w6.heap.size=w'.heap.size∧Grow w w6∧Upd bk w' w6) (λ i=>128-i) 0 ⟨rfl,rfl,rfl,rfl,trivial⟩ ⟨Nat.zero_le _,hb0,rfl,hg,Upd.refl _ _⟩ ?_
 rintro i w6 ⟨hi,hb6,hs6,hg6,hu6⟩
 by_cases hik:i<128
 ·have ht:(decide ((i:Int)<128))=true:=decide_eq_true (by omega)
  have hpi:=lK bs i
  have hbi:bs.getD i 0<256:=by rw [List.getD_eq_getElem?_getD,List.getElem?_eq_getElem (by omega)];exact hb _ (List.getElem_mem _)
  have hps:=part_step hik hl
  repeat (first|(refine aB ?_;refine TL.pure rfl rfl ?_)|refine TL.nil ?_|refine aA ?_|refine aJ ?_|refine aC ?_|refine T.block ?_|(refine aH ?_;refine bA rfl yD rfl ?_)|refine aN rfl ?_|refine aV ?_)
  refine TL.indexV rfl rfl (by omega) rfl (pbs_at (by omega)) rfl ?_
  generalize bs.getD i 0=bi at *
  repeat (first|(refine aU ?_;refine aK rfl (Blk.cell hb6 (wcell (by omega))) rfl ?_)|(refine TL.isShl ?_;refine TL.shlB6 rfl rfl (by decide) rfl ?_)|refine TL.convW8 rfl hbi rfl ?_|refine TL.orB6 rfl rfl rfl ?_|(refine aB ?_;refine TL.pure rfl rfl ?_)|(refine aD ?_;refine TL.pure rfl rfl ?_)|(refine bF ?_;refine eS rfl rfl (by omega) rfl ?_)|refine TL.nil ?_|refine aA ?_|refine aC ?_|(refine kH ?_;refine mJ rfl rfl (by omega) (by omega) rfl ?_))
  (refine bP rfl rfl hb6 rfl (by rw [List.length_map,hpi];exact Nat.ble_eq_true_of_le (by omega)) (map_set _ _ _) ?_;intro w7 hu7 hb7 hs7)
  rw [hps] at hb7
  clear hps hpi hbi
  replace hg6:=aZ hu7 (by omega) hg6
  replace hu6:=hu6.trans hu7
  clear hu7 hb6
  repeat (first|(refine aB ?_;refine TL.pure rfl rfl ?_)|(refine bJ ?_;refine bT rfl rfl (by omega) rfl ?_)|refine TL.nil ?_|refine aA ?_|refine aC ?_|refine aT ?_)
  exact bG (i+1) ⟨rfl,rfl,rfl,rfl,trivial⟩ ⟨hik,hb7,by omega,hg6,hu6⟩ (by omega)
 ·obtain rfl:i=128:=by omega
  have ht:(decide (((128:Nat):Int)<128))=false:=by decide
  have hbr6:=hbr'.upd hu6 (by omega)
  clear hb0 hbr' hu6 hi hik
  have hpl0:=lK bs 128
  obtain ⟨ws,hws⟩:∃ ws,ws=part bs 128:=⟨_,rfl⟩
  rw [← hws] at hb6 hpl0 ⊢
  repeat (first|(refine aD ?_;refine TL.pure rfl rfl ?_)|refine TL.nil ?_|refine aA ?_|refine aJ ?_|refine aC ?_|refine T.block ?_|(refine aH ?_;refine aR rfl yD rfl ?_)|refine aE rfl ?_|refine cN ?_|refine bM ?_|refine bO ?_|refine bN ?_)
  refine cM (S:=Nat) (λ t=>[(6,.int .i64 ((t+16:Nat):Int)),(3,.pointer (some ⟨bk,0,none⟩)),(2,.pointer (some ⟨br,0,none⟩))])
   (λ t w7=>t≤64∧Blk w7 bk 340 ((sched t ws).map wB)∧Blk w7 br 340 (Value.agg ((List.replicate 80 0#64).map wB).toArray).cells.toList∧Grow w w7) (λ t=>64-t) 0 ⟨rfl,rfl,rfl,trivial⟩ ⟨Nat.zero_le _,hb6,hbr6,hg6⟩ ?_
  clear hb6 hg6 hbr6 hs6 hbk hg hszp hszp' hszr' hsz' hb ht hpl
  rintro t w7 ⟨ht',hb7,hbr7,hg7⟩
  by_cases htk:t<64
  ·have htc:(decide (((t+16:Nat):Int)<80))=true:=decide_eq_true (by omega)
   have hln:(sched t ws).length=80:=by rw [sched_len,hpl0]
   repeat (first|(refine aB ?_;refine TL.pure rfl rfl ?_)|refine TL.nil ?_|refine aA ?_|refine aJ ?_|refine aC ?_|refine T.block ?_|(refine aH ?_;refine bA rfl yD rfl ?_)|refine aN rfl ?_|refine aV ?_)
   apply T.any 10 [is _,is _,is _,is _,is _,is _,is _,is _,is _,is _];(· kernel_rfl);(· ((repeat' (first|exact bX|refine bU ?_ ?_));(iterate 10 (· ((refine aQ rfl rfl rfl ?_);( intro wq _ _ hgq;(repeat (refine aG rfl rfl ?_;intro vq hvq;try (obtain rfl:=hvq)));(refine aM ?_));(repeat (first|(refine aB ?_;refine TL.pure rfl rfl ?_)|(refine aD ?_;refine TL.pure rfl rfl ?_)|(refine bF ?_;refine eS rfl rfl (by omega) rfl ?_)|(refine cJ ?_;refine dI rfl rfl (by omega) (by omega) rfl ?_)|refine TL.nil ?_|(refine aU ?_;refine aK rfl (Blk.cell yB (wcell (by omega))) rfl ?_)));exact aS rfl yG rfl)))));(rintro _ _ _ hgr _ _;(repeat (refine aG rfl rfl ?_;intro vq hvq;try (obtain rfl:=hvq)));(refine aM ?_))
   have hb8:=hb7.grow hgr
   have hbr8:=hbr7.grow hgr
   replace hg7:=hg7.trans hgr
   clear hgr hb7 hbr7
   repeat (first|(refine aL 270 ?_;refine aI rfl (rotl_c _ _ _) rfl ?_;rintro _ _ ⟨rfl,rfl⟩)|refine TL.xorB6 rfl rfl rfl ?_|(refine fT ?_;refine TL.shrB6 rfl rfl (by decide) rfl ?_)|(refine aB ?_;refine TL.pure rfl rfl ?_)|(refine aD ?_;refine TL.pure rfl rfl ?_)|refine TL.nil ?_|refine aA ?_|refine aJ ?_|refine aC ?_)
   apply T.any 14 [is _,is _,is _,is _,is _,is _,is _,is _,is _,is _,is _,is _,is _,is _];(· kernel_rfl);(· ((repeat' (first|exact bX|refine bU ?_ ?_));(iterate 14 (· ((refine aQ rfl rfl rfl ?_);( intro wq _ _ hgq;(repeat (refine aG rfl rfl ?_;intro vq hvq;try (obtain rfl:=hvq)));(refine aM ?_));(repeat (first|(refine aU ?_;refine aK rfl (Blk.cell yB (wcell (by omega))) rfl ?_)|refine TL.addB6 rfl rfl rfl ?_|(refine aB ?_;refine TL.pure rfl rfl ?_)|(refine bF ?_;refine eS rfl rfl (by omega) rfl ?_)|(refine cJ ?_;refine dI rfl rfl (by omega) (by omega) rfl ?_)|refine TL.nil ?_));exact aS rfl yG rfl)))));(rintro _ _ _ hgr _ _;(repeat (refine aG rfl rfl ?_;intro vq hvq;try (obtain rfl:=hvq)));(refine aM ?_))
   have hb9:=hb8.grow hgr
   have hbr9:=hbr8.grow hgr
   replace hg7:=hg7.trans hgr
   clear hgr hb8 hbr8
   repeat (first|(refine aP ?_;refine bP rfl rfl hb9 rfl (by rw [List.length_map,hln];exact Nat.ble_eq_true_of_le (by omega)) (map_set _ _ _) ?_;intro w10 hu10 hb10 hs10;have hbr10:=hbr9.upd hu10 (by omega);replace hg7:=aZ hu10 (by omega) hg7;clear hu10 hb9 hbr9)|(refine aB ?_;refine TL.pure rfl rfl ?_)|(refine aD ?_;refine TL.pure rfl rfl ?_)|(refine bF ?_;refine eS rfl rfl (by omega) rfl ?_)|(refine bJ ?_;refine bT rfl rfl (by omega) rfl ?_)|refine TL.nil ?_|refine aA ?_|refine aC ?_|refine aT ?_)
   refine bG (t+1) ⟨rfl,rfl,rfl,trivial⟩ ⟨htk,?_,hbr10,hg7⟩ (by omega)
   simp only [sched,nextW,sg0,sg1]
   exact hb10
  ·obtain rfl:t=64:=by omega
   have htc:(decide (((64+16:Nat):Int)<80))=false:=by decide
   have hln:(sched 64 ws).length=80:=by rw [sched_len,hpl0]
   obtain ⟨sw,hsw⟩:∃ sw,sw=sched 64 ws:=⟨_,rfl⟩
   rw [← hsw] at hb7 hln
   repeat (first|(refine aU ?_;refine bE rfl hb7 (by rw [List.length_map,hln];rfl) rfl ?_)|(refine aP ?_;refine aY rfl rfl hbr7 (by rw [List.length_map,hln];rfl) rfl (by simp [Value.oneCell']) ?_;intro w8 hu8 hb8 hs8)|(refine aB ?_;refine TL.pure rfl rfl ?_)|refine TL.nil ?_|refine aA ?_|refine aJ ?_|refine aC ?_|(refine aH ?_;refine aR rfl yD rfl ?_)|refine aE rfl ?_|refine bC ?_|refine cN ?_|refine bM ?_|refine bO ?_|refine bN ?_)
   rw [← hsw]
   exact retC rfl (bY hb8 (by rw [List.length_map,hln];rfl)) ⟨_,rfl,rfl,aZ hu8 (by omega) hg7⟩
end Go.Proofs.YtfpadnmdafiddaaGreatDoor
namespace Go.Proofs.YtfpadnmdafiddaaGreatDoor
open Go Go.RowKit Go.V
set_option maxRecDepth 20000
def Kw:List (BitVec 64):=[0x428a2f98d728ae22#64,0x7137449123ef65cd#64,0xb5c0fbcfec4d3b2f#64,0xe9b5dba58189dbbc#64,0x3956c25bf348b538#64,0x59f111f1b605d019#64,0x923f82a4af194f9b#64,0xab1c5ed5da6d8118#64,0xd807aa98a3030242#64,0x12835b0145706fbe#64,0x243185be4ee4b28c#64,0x550c7dc3d5ffb4e2#64,0x72be5d74f27b896f#64,0x80deb1fe3b1696b1#64,0x9bdc06a725c71235#64,0xc19bf174cf692694#64,0xe49b69c19ef14ad2#64,0xefbe4786384f25e3#64,0x0fc19dc68b8cd5b5#64,0x240ca1cc77ac9c65#64,0x2de92c6f592b0275#64,0x4a7484aa6ea6e483#64,0x5cb0a9dcbd41fbd4#64,0x76f988da831153b5#64,0x983e5152ee66dfab#64,0xa831c66d2db43210#64,0xb00327c898fb213f#64,0xbf597fc7beef0ee4#64,0xc6e00bf33da88fc2#64,0xd5a79147930aa725#64,0x06ca6351e003826f#64,0x142929670a0e6e70#64,0x27b70a8546d22ffc#64,0x2e1b21385c26c926#64,0x4d2c6dfc5ac42aed#64,0x53380d139d95b3df#64,0x650a73548baf63de#64,0x766a0abb3c77b2a8#64,0x81c2c92e47edaee6#64,0x92722c851482353b#64,0xa2bfe8a14cf10364#64,0xa81a664bbc423001#64,0xc24b8b70d0f89791#64,0xc76c51a30654be30#64,0xd192e819d6ef5218#64,0xd69906245565a910#64,0xf40e35855771202a#64,0x106aa07032bbd1b8#64,0x19a4c116b8d2d0c8#64,0x1e376c085141ab53#64,0x2748774cdf8eeb99#64,0x34b0bcb5e19b48a8#64,0x391c0cb3c5c95a63#64,0x4ed8aa4ae3418acb#64,0x5b9cca4f7763e373#64,0x682e6ff3d6b2b8a3#64,0x748f82ee5defb2fc#64,0x78a5636f43172f60#64,0x84c87814a1f0ab72#64,0x8cc702081a6439ec#64,0x90befffa23631e28#64,0xa4506cebde82bde9#64,0xbef9a3f7b2c67915#64,0xc67178f2e372532b#64,0xca273eceea26619c#64,0xd186b8c721c0c207#64,0xeada7dd6cde0eb1e#64,0xf57d4f7fee6ed178#64,0x06f067aa72176fba#64,0x0a637dc5a2c898a6#64,0x113f9804bef90dae#64,0x1b710b35131c471b#64,0x28db77f523047d84#64,0x32caab7b40c72493#64,0x3c9ebe0a15c9bebc#64,0x431d67c49c100d4c#64,0x4cc5d4becb3e42b6#64,0x597f299cfc657e2a#64,0x5fcb6fab3ad6faec#64,0x6c44198c4a475817#64]
theorem K_c (w:World):Calls Tryz.prog 269 #[] w (Ret λ v w'=>v=.agg (Kw.map wB).toArray∧Grow w w'):=by
 refine V.calls (args:=[]) Tryz.func269 rfl Tryz.ntmps269 rfl rfl ?_
 refine aJ ?_
 refine aC ?_
 refine TL.alloc rfl rfl ?_
 intro bk w1 hg1 hb1 hsz hsz'
 refine TL.nil ?_
 refine aA ?_
 refine aJ ?_
 refine aC ?_
 refine mO (cs:=Kw.map wB) rfl (by kernel_rfl) rfl ?_
 (refine aY rfl rfl hb1 rfl rfl rfl ?_;intro w2 hu2 hb2 hs2)
 refine TL.nil ?_
 refine aA ?_
 refine bC ?_
 exact retC rfl (bY hb2 rfl) ⟨_,rfl,rfl,aZ hu2 (by omega) hg1⟩
structure St where
 (a b c d e f g h:BitVec 64)
def bs0 (x:BitVec 64):BitVec 64:=rotl x (rotA (-28)) ^^^ rotl x (rotA (-34)) ^^^ rotl x (rotA (-39))
def bs1 (x:BitVec 64):BitVec 64:=rotl x (rotA (-14)) ^^^ rotl x (rotA (-18)) ^^^ rotl x (rotA (-41))
def tOne (s:St) (k w:BitVec 64):BitVec 64:=s.h+bs1 s.e+((s.e&&&s.f) ^^^ (~~~s.e&&&s.g))+k+w
def tTwo (s:St):BitVec 64:=bs0 s.a+((s.a&&&s.b) ^^^ (s.a&&&s.c) ^^^ (s.b&&&s.c))
def rnd (s:St) (k w:BitVec 64):St:=⟨tOne s k w+tTwo s,s.a,s.b,s.c,s.d+tOne s k w,s.e,s.f,s.g⟩
def rnK (ks ws:List (BitVec 64)) (s:St):Nat→St
 | 0=>s
 | t+1=>rnd (rnK ks ws s t) (ks.getD t 0#64) (ws.getD t 0#64)
def rn (ws:List (BitVec 64)) (s:St):Nat→St:=rnK Kw ws s
def St.l (s:St):List (BitVec 64):=[s.a,s.b,s.c,s.d,s.e,s.f,s.g,s.h]
def addL (st s:List (BitVec 64)):Nat→List (BitVec 64)
 | 0=>st
 | q+1=>(addL st s q).set q ((addL st s q).getD q 0#64+s.getD q 0#64)
theorem addL_len (st s:List (BitVec 64)) (q:Nat):(addL st s q).length=st.length:=by induction q<;>simp [addL, *]
def pieceB (s:St) (bs:List Nat):List (BitVec 64):=addL s.l (rn (sched 64 (part bs 128)) s 80).l 8
theorem piece_c (s:St) (bs:List Nat) (hl:bs.length=128) (hb:∀ b∈bs,b<256) (w:World):Calls Tryz.prog 251 #[.agg (s.l.map wB).toArray,.agg (pbs bs).toArray] w
  (Ret λ v w'=>v=.agg ((pieceB s bs).map wB).toArray∧Grow w w'):=by
 refine V.calls (args:=[_,_]) Tryz.func251 rfl Tryz.ntmps251 rfl rfl ?_
 have hpl:(pbs bs).length=128:=by simp [pbs,hl]
 obtain ⟨ws,hws⟩:∃ ws,ws=sched 64 (part bs 128):=⟨_,rfl⟩
 have hwl:ws.length=80:=by rw [hws,sched_len,lK]
 obtain ⟨ks,hks⟩:∃ ks,ks=Kw:=⟨_,rfl⟩
 have hkl:ks.length=80:=by rw [hks];rfl
 have hsc:∀ w,Calls Tryz.prog 268 #[.agg (pbs bs).toArray] w (Ret λ v w'=>v=.agg (ws.map wB).toArray∧Grow w w'):=by rw [hws];exact schedule_c bs hl hb
 have hkc:∀ w,Calls Tryz.prog 269 #[] w (Ret λ v w'=>v=.agg (ks.map wB).toArray∧Grow w w'):=by rw [hks];exact K_c
 have hpb:pieceB s bs=addL s.l (rnK ks ws s 80).l 8:=by rw [hws,hks];rfl
 have hwo:(ws.map wB).all Value.oneCell'=true:=by simp [Value.oneCell']
 have hko:(ks.map wB).all Value.oneCell'=true:=by simp [Value.oneCell']
 repeat (first|(refine aU ?_;refine bE rfl yB (by rw [hpl];rfl) rfl ?_)|(refine aL 268 ?_;refine aI rfl (hsc _) rfl ?_;rintro _ _ ⟨rfl,hgc⟩)|(refine aL 269 ?_;refine aI rfl (hkc _) rfl ?_;rintro _ _ ⟨rfl,hgc⟩)|(refine aP ?_;refine aY rfl rfl yB (by rw [List.length_map,hwl];rfl) rfl hwo ?_;intro w' hu hbk hsz)|(refine aP ?_;refine aY rfl rfl yB (by rw [List.length_map,hkl];rfl) rfl hko ?_;intro w' hu hbk hsz)|refine TL.nil ?_|refine aA ?_|refine aJ ?_|refine aC ?_|(refine bW ?_;(refine dJ rfl rfl ?_;intro bk w' hg hbk hsz hsz'))|(refine bD ?_;(refine TL.alloc rfl rfl ?_;intro bk w' hg hbk hsz hsz')))
 rename_i b2 w2 hg2 hb2 hz2 hz2' b3 w3 hg3 hb3 hz3 hz3' b4 w4 hg4 hb4 hz4 hz4' w5 hg5 w6 b5 w7 hg7 hb5 hz5 hz5' w8 hb6 hz6 w9 hu9 hb9 hz9
 have hsz5:=hg5.2
 have hsz6:=hgc.2
 have h2:Blk w' b2 295 (s.l.map wB):=by exact yB
 have h5:Blk w' b5 340 (ws.map wB):=by exact yB
 have h4:=((((((hb4.grow hg5).grow hgc).grow hg7).grow hg).upd hu9 (by omega)).upd hu (by omega))
 have hlt:w.heap.size≤b2∧w.heap.size≤b4∧b2≠b4∧b2<b5∧b5<bk:=by omega
 have hG:Grow w w':=by exact yG
 clear hg2 hb2 hz2 hz2' hg3 hb3 hz3 hz3' hg4 hb4 hz4 hz4' hg5 hgc hg7 hb5 hz5 hz5' hg hb6 hz6 hu9 hb9 hz9 hu hsz hsz' hsz5 hsz6 hws hsc hks hkc hwo hko hl hb hpl
 refine cT (e':=[(2,.pointer (some ⟨b2,0,none⟩)),(4,.pointer (some ⟨b4,0,none⟩)),(5,.pointer (some ⟨b5,0,none⟩)),(6,.pointer (some ⟨bk,0,none⟩))]) ?_ ⟨rfl,rfl,rfl,rfl,trivial⟩
 repeat (refine aJ ?_)
 apply T.any 12 [is _,is _,is _,is _,is _,is _,is _,is _,is _,is _,is _,is _];(· kernel_rfl);(· ((repeat' (first|exact bX|refine bU ?_ ?_));(iterate 12 (· ((refine aQ rfl rfl rfl ?_);( intro wq _ _ hgq;(repeat (refine aG rfl rfl ?_;intro vq hvq;try (obtain rfl:=hvq)));(refine aM ?_));(repeat (first|(refine aD ?_;refine TL.pure rfl rfl ?_)|refine aK rfl yM rfl ?_|(refine bF ?_;refine eS rfl rfl (by omega) rfl ?_)|refine TL.nil ?_));exact aS rfl yG rfl)))));(rintro _ _ _ hgr _ _;(repeat (refine aG rfl rfl ?_;intro vq hvq;try (obtain rfl:=hvq)));(refine aM ?_))
 replace h2:=h2.grow hgr
 replace h4:=h4.grow hgr
 replace h5:=h5.grow hgr
 replace hbk:=hbk.grow hgr
 replace hG:=hG.trans hgr
 clear hgr
 repeat (first|refine TL.nil ?_|refine aA ?_|refine aJ ?_)
 apply T.any 12 [is _,is _,is _,is _,is _,is _,is _,is _,is _,is _,is _,is _];(· kernel_rfl);(· ((repeat' (first|exact bX|refine bU ?_ ?_));(iterate 12 (· ((refine aQ rfl rfl rfl ?_);( intro wq _ _ hgq;(repeat (refine aG rfl rfl ?_;intro vq hvq;try (obtain rfl:=hvq)));(refine aM ?_));(repeat (first|(refine aD ?_;refine TL.pure rfl rfl ?_)|refine aK rfl yM rfl ?_|(refine bF ?_;refine eS rfl rfl (by omega) rfl ?_)|refine TL.nil ?_));exact aS rfl yG rfl)))));(rintro _ _ _ hgr _ _;(repeat (refine aG rfl rfl ?_;intro vq hvq;try (obtain rfl:=hvq)));(refine aM ?_))
 replace h2:=h2.grow hgr
 replace h4:=h4.grow hgr
 replace h5:=h5.grow hgr
 replace hbk:=hbk.grow hgr
 replace hG:=hG.trans hgr
 clear hgr
 rename_i wA _ _
 repeat (first|(refine aB ?_;refine TL.pure rfl rfl ?_)|refine TL.nil ?_|refine aA ?_|refine aJ ?_|refine aC ?_|refine T.block ?_)
 refine cM (S:=Nat×St) (λ q=>[(41,.int .i64 (q.1:Int)),(14,wB q.2.h),(13,wB q.2.g),(12,wB q.2.f),(11,wB q.2.e),(10,wB q.2.d),(9,wB q.2.c),(8,wB q.2.b),(7,wB q.2.a),(6,.pointer (some ⟨bk,0,none⟩)),(5,.pointer (some ⟨b5,0,none⟩)),(4,.pointer (some ⟨b4,0,none⟩)),(2,.pointer (some ⟨b2,0,none⟩))])
  (λ q w7=>q.1≤80∧q.2=rnK ks ws s q.1∧Blk w7 b2 295 (s.l.map wB)∧Blk w7 b4 295 (List.replicate 8 (wB 0#64))∧Blk w7 b5 340 (ws.map wB)∧Blk w7 bk 340 (ks.map wB)∧Grow w w7) (λ q=>80-q.1) (0,s) ⟨rfl,rfl,rfl,rfl,rfl,rfl,rfl,rfl,rfl,rfl,rfl,rfl,rfl,trivial⟩ ⟨Nat.zero_le _,rfl,h2,h4,h5,hbk,hG⟩ ?_
 clear h2 h4 h5 hbk hG
 rintro ⟨t,s'⟩ w7 ⟨ht,hs',h2,h4,h5,hbk,hG⟩
 simp only at ht hs'
 by_cases htk:t<80
 ·have htc:(decide ((t:Int)<80))=true:=decide_eq_true (by omega)
  repeat (first|(refine aB ?_;refine TL.pure rfl rfl ?_)|(refine aD ?_;refine TL.pure rfl rfl ?_)|refine TL.nil ?_|refine aA ?_|refine aJ ?_|refine aC ?_|refine T.block ?_|(refine aH ?_;refine bA rfl yD rfl ?_)|refine aN rfl ?_|refine aV ?_)
  repeat (first|(refine aL 270 ?_;refine aI rfl (rotl_c _ _ _) rfl ?_;rintro _ _ ⟨rfl,rfl⟩)|refine TL.xorB6 rfl rfl rfl ?_|(refine aB ?_;refine TL.pure rfl rfl ?_)|(refine aD ?_;refine TL.pure rfl rfl ?_)|refine TL.nil ?_|refine aA ?_|refine aJ ?_)
  apply T.any 20 [is _,is _,is _,is _,is _,is _,is _,is _,is _,is _,is _,is _,is _,is _,is _,is _,is _,is _,is _,is _];(· kernel_rfl);(· ((repeat' (first|exact bX|refine bU ?_ ?_));(iterate 20 (· ((refine aQ rfl rfl rfl ?_);( intro wq _ _ hgq;(repeat (refine aG rfl rfl ?_;intro vq hvq;try (obtain rfl:=hvq)));(refine aM ?_));(repeat (first|(refine aU ?_;first|refine aK rfl (Blk.cell (b:=b5) yB (wcell (by omega))) rfl ?_|refine aK rfl (Blk.cell (b:=bk) yB (wcell (by omega))) rfl ?_)|refine TL.xorB6 rfl rfl rfl ?_|refine TL.addB6 rfl rfl rfl ?_|refine TL.andB6 rfl rfl rfl ?_|refine TL.notB6 rfl rfl ?_|(refine aB ?_;refine TL.pure rfl rfl ?_)|(refine bF ?_;refine eS rfl rfl (by omega) rfl ?_)|refine TL.nil ?_));exact aS rfl yG rfl)))));(rintro _ _ _ hgr _ _;(repeat (refine aG rfl rfl ?_;intro vq hvq;try (obtain rfl:=hvq)));(refine aM ?_))
  replace h2:=h2.grow hgr
  replace h4:=h4.grow hgr
  replace h5:=h5.grow hgr
  replace hbk:=hbk.grow hgr
  replace hG:=hG.trans hgr
  clear hgr
  repeat (first|(refine aL 270 ?_;refine aI rfl (rotl_c _ _ _) rfl ?_;rintro _ _ ⟨rfl,rfl⟩)|refine TL.xorB6 rfl rfl rfl ?_|refine TL.addB6 rfl rfl rfl ?_|refine TL.andB6 rfl rfl rfl ?_|(refine aB ?_;refine TL.pure rfl rfl ?_)|(refine aD ?_;refine TL.pure rfl rfl ?_)|(refine bJ ?_;refine bT rfl rfl (by omega) rfl ?_)|refine TL.nil ?_|refine aA ?_|refine aJ ?_|refine aC ?_|refine aT ?_)
  exact bG (t+1,rnd s' (ks.getD t 0#64) (ws.getD t 0#64)) ⟨rfl,rfl,rfl,rfl,rfl,rfl,rfl,rfl,rfl,rfl,rfl,rfl,rfl,trivial⟩ ⟨htk,by rw [hs'];rfl,h2,h4,h5,hbk,hG⟩ (by simp only;omega)
 ·obtain rfl:t=80:=by omega
  have htc:(decide (((80:Nat):Int)<80))=false:=by decide
  repeat (first|(refine aB ?_;refine TL.pure rfl rfl ?_)|refine TL.nil ?_|refine aA ?_|refine aJ ?_|refine aC ?_|refine T.block ?_|(refine aH ?_;refine aR rfl yD rfl ?_)|refine mO rfl rfl rfl ?_|refine aE rfl ?_|refine cN ?_|refine bM ?_|refine bO ?_|refine bN ?_)
  refine cM (S:=Nat) (λ q=>[(115,.int .i64 (q:Int)),(114,.agg (s'.l.map wB).toArray),(4,.pointer (some ⟨b4,0,none⟩)),(2,.pointer (some ⟨b2,0,none⟩))])
   (λ q w8=>q≤8∧Blk w8 b2 295 ((addL s.l s'.l q).map wB)∧Blk w8 b4 295 (List.replicate 8 (wB 0#64))∧Grow w w8) (λ q=>8-q) 0 ⟨rfl,rfl,rfl,rfl,trivial⟩ ⟨Nat.zero_le _,h2,h4,hG⟩ ?_
  clear h2 h4 h5 hbk hG
  rintro q w8 ⟨hq,h2,h4,hG⟩
  have hal:(addL s.l s'.l q).length=8:=by rw [addL_len];rfl
  by_cases hqk:q<8
  ·have hqc:(decide ((q:Int)<8))=true:=decide_eq_true (by omega)
   repeat (first|(refine TL.isIndexV ?_;refine TL.indexV rfl rfl (by omega) rfl (wcell (by show q<8;omega)) rfl ?_)|(refine aU ?_;refine aK rfl (Blk.cell h2 (wcell (by omega))) rfl ?_)|refine TL.addB6 rfl rfl rfl ?_|(refine aB ?_;refine TL.pure rfl rfl ?_)|(refine aD ?_;refine TL.pure rfl rfl ?_)|(refine bF ?_;refine eS rfl rfl (by omega) rfl ?_)|refine TL.nil ?_|refine aA ?_|refine aJ ?_|refine aC ?_|refine T.block ?_|(refine aH ?_;refine bA rfl yD rfl ?_)|refine aN rfl ?_|refine aV ?_)
   (refine bP rfl rfl h2 rfl (by rw [List.length_map,hal];exact Nat.ble_eq_true_of_le (by omega)) (map_set _ _ _) ?_;intro w9 hu9 hb9 hs9)
   replace h4:=h4.upd hu9 (by omega)
   replace hG:=aZ hu9 (by omega) hG
   clear hu9 h2
   repeat (first|(refine aB ?_;refine TL.pure rfl rfl ?_)|(refine bJ ?_;refine bT rfl rfl (by omega) rfl ?_)|refine TL.nil ?_|refine aA ?_|refine aC ?_|refine aT ?_)
   exact bG (q+1) ⟨rfl,rfl,rfl,rfl,trivial⟩ ⟨hqk,hb9,h4,hG⟩ (by omega)
  ·obtain rfl:q=8:=by omega
   have hqc:(decide (((8:Nat):Int)<8))=false:=by decide
   obtain ⟨rl,hrl⟩:∃ rl,rl=addL s.l s'.l 8:=⟨_,rfl⟩
   rw [← hrl] at h2 hal
   repeat (first|(refine aU ?_;refine bE rfl h2 (by rw [List.length_map,hal];rfl) rfl ?_)|(refine aP ?_;refine aY rfl rfl h4 (by rw [List.length_map,hal];rfl) rfl (by simp [Value.oneCell']) ?_;intro w9 hu9 hb9 hs9)|refine TL.nil ?_|refine aA ?_|refine aJ ?_|refine aC ?_|(refine aH ?_;refine aR rfl yD rfl ?_)|refine aE rfl ?_|refine bC ?_|refine cN ?_|refine bM ?_|refine bO ?_|refine bN ?_)
   exact retC rfl (bY hb9 (by rw [List.length_map,hal];rfl)) ⟨_,rfl,by rw [hpb,hrl,hs'],aZ hu9 (by omega) hG⟩
end Go.Proofs.YtfpadnmdafiddaaGreatDoor
namespace Go.Proofs.YtfpadnmdafiddaaGreatDoor
open Go Go.RowKit Go.V
def St.of (l:List (BitVec 64)):St:=⟨l.getD 0 0,l.getD 1 0,l.getD 2 0,l.getD 3 0,l.getD 4 0,l.getD 5 0,l.getD 6 0,l.getD 7 0⟩
theorem St.of_l {l:List (BitVec 64)} (h:l.length=8):(St.of l).l=l:=by
 match l,h with
 | [a,b,c,d,e,f,g,i],_=>rfl
theorem pieceB_len (s:St) (bs:List Nat):(pieceB s bs).length=8:=by
 unfold pieceB;rw [addL_len];rfl
def wordsB (s:St) (bs:Bs):Nat→St
 | 0=>s
 | k+1=>St.of (pieceB (wordsB s bs k) ((bs.drop (128*k)).take 128))
theorem wordsB_l (s:St) (bs:Bs) (k:Nat):(wordsB s bs (k+1)).l=pieceB (wordsB s bs k) ((bs.drop (128*k)).take 128):=St.of_l (pieceB_len _ _)
theorem padS_mod (l:Bs):(padS l).length=128*((padS l).length / 128):=by
 have:=length_padS l
 have hz:padZ l.length=(239-l.length%128)%128:=rfl
 omega
theorem padS_lt {l:Bs} (h:∀ b∈l,b<256):∀ b∈padS l,b<256:=by
 intro b hb
 simp only [padS,List.mem_append,List.mem_singleton,zs,List.mem_replicate,be8,List.mem_map] at hb
 rcases hb with (((hb|hb)|hb)|⟨i,_,hb⟩)|⟨i,_,hb⟩
 ·exact h b hb
 ·omega
 ·omega
 ·omega
 ·omega
def wholeS (s:St) (l:Bs):St:=wordsB s (padS l) ((padS l).length / 128)
theorem whole_c (F:Nat→Prop) (s:St) (a:Option Addr) (n c:Nat) (bss:List Bs) (w:World) (h:KysAt F w a n c bss) (hn:bss.flatten.length≤100000) (hb:∀ b∈bss.flatten,b<256) :
  Calls Tryz.prog 212 #[.agg (s.l.map wB).toArray,.slice a n c] w (Ret λ v w'=>v=.agg ((wholeS s bss.flatten).l.map wB).toArray∧Grow w w'):=by
 refine V.calls (args:=[_,_]) Tryz.func212 rfl Tryz.ntmps212 rfl rfl ?_
 repeat (first|refine T.seqR ?_|(refine aB ?_;refine TL.pure rfl rfl ?_)|refine TL.nil ?_|refine aA ?_|refine aJ ?_|refine aC ?_|(refine bW ?_;(refine TL.box rfl rfl rfl ?_;intro bk w' hg hbk hsz hsz'))|(refine bD ?_;(refine TL.alloc rfl rfl ?_;intro bk w' hg hbk hsz hsz')))
 rename_i b0 w0 g0 k0 s0 s0'
 have hg2:Grow w w':=by exact yG
 have hb0:Blk w' b0 295 (s.l.map wB):=Blk.grow hg k0
 have hsz2:=hg2.size
 have hbk':Blk w' bk 295 ((List.replicate 8 0#64).map wB):=hbk
 have hne:bk≠b0:=by omega
 have hbkl:=hbk.lt
 clear hbk
 refine aL 250 ?_
 refine aI rfl (padded_c F a n c bss _ (h.go (Carry.grow hg2)) hn) rfl ?_
 rintro v w2 ⟨hown,hg3⟩
 have hm:=padS_mod bss.flatten
 have hlt:=padS_lt hb
 have hlp:=length_padS bss.flatten
 have hz:padZ bss.flatten.length<128:=by unfold padZ;omega
 unfold wholeS
 generalize (padS bss.flatten).length / 128=m at *
 generalize padS bss.flatten=bs at *
 rw [hm] at hown
 obtain ⟨va,vc,rfl,hsv⟩:=cE hown
 obtain ⟨G,hG,hsG⟩:∃ G:Nat→Prop,(∀ k,G k→w'.heap.size≤k∧k<w2.heap.size)∧Sl G w2 1 va (128*m) vc (cX bs):=⟨_,λ k hk=>⟨hk.1.1,hk.2⟩,hsv.tight⟩
 refine aL 249 ?_
 refine aI rfl (chunk_c va _ vc _) rfl ?_
 rintro _ w3 ⟨b1,b2,rfl,h1,h2,hb1,hb2,hg4⟩
 repeat (refine TL.nil ?_)
 refine mQ (T2.range (ps:=[9]) (lb:=[_,_]) rfl (Nat.zero_le _) rfl ?_)
 intro rc w4 hli hs4 hg5 hl4 hD4
 have h3:=hg3.size
 have h4:=hg4.size
 have hbb:=hb0.lt
 have hbl1:=hb1.lt
 have hbl2:=hb2.lt
 obtain ⟨D,hD⟩:∃ D,D=w3.heap.size:=⟨_,rfl⟩
 rw [← hD] at hl4 hD4 hs4 ⊢
 refine Calls.mono (chunks_c G (D+1) b1 b2 m va vc bs (λ k w'=>Blk w' b0 295 ((wordsB s bs k).l.map wB)∧Blk w' b1 30 [.slice va (128*m) vc]∧Blk w' b2 3 [.int .i64 128] ∧
   Sl G w' 1 va (128*m) vc (cX bs)∧w'.heap[D+1]? = some (.loop (rc .ready none))∧w'.heap[D]? = some (.deferred (some []))∧Grow w w'∧Blk w' bk 295 ((List.replicate 8 0#64).map wB)) hm (by omega) (λ k w' h=>⟨h.2.1,h.2.2.1,h.2.2.2.1⟩) ?_ ?_ _ ?_) ?_
 ·rintro k w5 w6 ⟨q1,q2,q3,q4,q5,q6,q7,q8⟩ hg
  exact ⟨q1.grow hg,q2.grow hg,q3.grow hg,q4.grow hg,(hg.block _ (Array.getElem?_eq_some_iff.1 q5).1).trans q5,(hg.block _ (Array.getElem?_eq_some_iff.1 q6).1).trans q6,q7.trans hg,q8.grow hg⟩
 ·rintro k w5 a' hk ⟨q1,q2,q3,q4,q5,q6,q7,q8⟩ hs'
  refine yld_of hli q5 rfl rfl λ I=>?_
  repeat (first|(refine aD ?_;refine TL.pure rfl rfl ?_)|refine TL.nil ?_|refine aC ?_)
  refine ⟨q5,λ w6 hu6 hl6=>?_⟩
  have q1':=q1.upd hu6 (by omega)
  have hs6:=hs'.upd hu6 (λ k hk=>by have:=hG k hk;omega)
  repeat (refine T.block ?_)
  apply T.any 4 [is (.agg ((wordsB s bs k).l.map wB).toArray),is (.slice a' 128 128),is (.pointer a'),is (.agg (cX ((bs.drop (128*k)).take 128)).toArray)]
  ·rfl
  ·repeat' (first|exact bX|refine bU ?_ ?_)
   iterate 2
    ·(refine aQ rfl rfl rfl ?_);( intro wq _ _ hgq;(repeat (refine aG rfl rfl ?_;intro vq hvq;try (obtain rfl:=hvq)));(refine aM ?_))
     repeat (first|(refine aB ?_;refine TL.pure rfl rfl ?_)|(refine aU ?_;refine bE rfl yB (by exact rfl) rfl ?_)|refine TL.nil ?_)
     exact aS rfl yG rfl
   ·(refine aQ rfl rfl rfl ?_);( intro wq _ _ hgq;(repeat (refine aG rfl rfl ?_;intro vq hvq;try (obtain rfl:=hvq)));(refine aM ?_))
    refine TL.arrayAt rfl (Nat.le_refl _) rfl ?_
    repeat (refine TL.nil ?_)
    exact aS rfl yG rfl
   ·(refine aQ rfl rfl rfl ?_);( intro wq _ _ hgq;(repeat (refine aG rfl rfl ?_;intro vq hvq;try (obtain rfl:=hvq)));(refine aM ?_))
    refine TL.loadAll rfl (hs6.grow yG) rfl rfl ?_
    repeat (refine TL.nil ?_)
    exact aS rfl yG rfl
  ·intro w7 lo7 hi7 hg7 _ _
   ((repeat (refine aG rfl rfl ?_;intro vq hvq;try (obtain rfl:=hvq)));(refine aM ?_))
   refine aL 251 ?_
   refine aI rfl (piece_c (wordsB s bs k) _ ?_ ?_ _) rfl ?_
   ·rw [List.length_take,List.length_drop];omega
   ·exact λ b hb=>hlt b (List.mem_of_mem_drop (List.mem_of_mem_take hb))
   rintro _ w8 ⟨rfl,hg8⟩
   have q1'':=q1'.grow (hg7.trans hg8)
   rw [← wordsB_l]
   repeat (first|refine TL.nil ?_|refine aT ?_|(refine aP ?_;(refine aY rfl rfl yB (by exact rfl) (by exact rfl) (by exact rfl) ?_;intro w' hu hbk hsz)))
   have z7:=hg7.size
   have z8:=hg8.size
   have zu:=hu6.size
   rename_i wf hu hbk _
   refine ⟨?_,λ wz huz hlz=>?_⟩
   ·rw [hu.block _ (by omega),hg8.block _ (by have:=(Array.getElem?_eq_some_iff.1 hl6).1;omega),hg7.block _ (Array.getElem?_eq_some_iff.1 hl6).1]
    exact hl6
   ·have keep:∀ x,x≠b0→x≠D+1→x<w5.heap.size→wz.heap[x]? = w5.heap[x]?:=λ x hx hx1 hx2 =>
     (huz.block x hx1).trans ((hu.block x hx).trans ((hg8.block x (by omega)).trans ((hg7.block x (by omega)).trans (hu6.block x hx1))))
    have hsz5:w5.heap.size≤wz.heap.size:=by have:=hu.size;have:=huz.size;omega
    have hgw:Grow w wz:=aZ huz (by have:=q7.size;omega) (aZ hu (by omega) ((aZ hu6 (by omega) q7).trans (hg7.trans hg8)))
    refine ⟨rfl,hbk.upd huz (by omega),?_,?_,q4.keep (λ x hx hx2=>keep x (by have:=hG x hx;omega) (by have:=hG x hx;omega) hx2) hsz5,hlz,?_,hgw,?_⟩
    ·have hlx:=q2.lt;unfold Blk at q2 ⊢;rw [keep b1 (by omega) (by omega) hlx];exact q2
    ·have hlx:=q3.lt;unfold Blk at q3 ⊢;rw [keep b2 (by omega) (by omega) hlx];exact q3
    ·rw [keep D (by omega) (by omega) (Array.getElem?_eq_some_iff.1 q6).1];exact q6
    ·have hlx:=q8.lt;unfold Blk at q8 ⊢;rw [keep bk hne (by omega) hlx];exact q8
 ·have hg24:Grow w2 w4:=hg4.trans hg5
  exact ⟨(hb0.grow (hg3.trans hg24)),hb1.grow hg5,hb2.grow hg5,hsG.grow hg24,hl4,hD4,hg2.trans (hg3.trans hg24),hbk'.grow (hg3.trans hg24)⟩
 ·rintro _ w5 ⟨v,rfl,q1,q2,q3,q4,q5,q6,q7,q8⟩
  refine ⟨v,rfl,q6,.inl ⟨q5,λ I w6 hu6=>?_⟩⟩
  have q1':=q1.upd hu6 (by omega)
  have q8':=q8.upd hu6 (by omega)
  repeat (first|(refine aU ?_;refine bE rfl yB (by exact rfl) rfl ?_)|refine TL.nil ?_|refine aA ?_|refine aJ ?_|refine aC ?_|(refine aP ?_;(refine aY rfl rfl yB (by exact rfl) (by exact rfl) (by exact rfl) ?_;intro w' hu hbk hsz))|refine bC ?_)
  refine ⟨?_,λ wz huz=>?_⟩
  ·rw [hu.block _ (by omega),hu6.block _ (by omega)];exact q6
  ·exact retC rfl (bY (hbk.upd huz (by omega)) rfl) ⟨_,rfl,rfl,aZ huz (by have:=q7.size;have:=hg2.size;omega) (aZ hu (by omega) (aZ hu6 (by omega) q7))⟩
end Go.Proofs.YtfpadnmdafiddaaGreatDoor
namespace Go.V
open Go Go.RowKit
section
variable [Rn]
variable {P:Program} {n:Nat} {e:dN} {w:World} {Q:dO} {ops:Array Oper} {rest:List Oper} {d:Nat} {ty:TypeId} {pos:String} {aft:Array Edge}
theorem TL.convSl {t elem size bytes b m c:Nat} {x:Operand} {t0:TypeId} {cs:List Value} [ht:SliceTy P t elem size bytes] [h8:IntTy P elem .u8] (hx:val e x=some (.slice (some ⟨b,0,none⟩) m c)) (hb:Blk w b t0 cs) (hm:cs.length=m) (hc:m≤c) (hc2:c≤maxLen) (hd:Nat.blt d n=true)
  (k:∀ w',Upd b w w'→Sl (λ k=>k=b) w' 1 (some ⟨b,0,none⟩) m c cs→TL P n ops rest ((d,.slice (some ⟨b,0,none⟩) m c)::e) w' Q):TL P n ops (⟨some d,.convert t t x,ty,pos,aft,none⟩::rest) e w Q:=by
 have hlt:=hb.lt
 have hw0:w.heap[b]? = some (.cells cs.toArray t0 (0,0)):=by unfold Blk at hb;exact hb
 have hs:w.shape? b=some (t0,cs.toArray.size):=by simp [World.shape?,hw0]
 refine TL.run (w':=w.freeze ⟨b,cs.toArray.size,none⟩ 1) (λ r hr=>?_) hd (k _ ⟨rfl,rfl,rfl,by simp [World.freeze],λ k hk=>?_⟩ ⟨by omega,hc,hc2,(λ h=>by cases h),λ _=>⟨rfl,rfl,by simpa [World.freeze] using hlt,λ j v hj=>?_⟩⟩)
 ·have m1:(markStringish ⟨b,0,none⟩).run P w=.ok () (w.freeze ⟨b,cs.toArray.size,none⟩ 1):=by simp [markStringish,shape,freeze,Sem.run,hs]
  simp [execOp,hr.eval hx,convert,underlying,ht.und,h8.und,m1]
 ·simp only [World.freeze,Nat.one_ne_zero,if_false,Array.getElem?_modify,if_neg (Ne.symm hk)]
 ·have hw':(w.freeze ⟨b,cs.toArray.size,none⟩ 1).heap[b]? = some (.cells cs.toArray t0 (if ((0:Nat),(0:Nat)).1==((0:Nat),(0:Nat)).2 then (cs.toArray.size,cs.toArray.size+1) else (min 0 cs.toArray.size,max 0 (cs.toArray.size+1)))):=by
   simp only [World.freeze,Nat.one_ne_zero,if_false,Array.getElem?_modify,if_true,hw0,Option.map_some]
  simp only [World.cell?,hw',Nat.zero_add]
  simpa using hj
end
end Go.V
namespace Go.Proofs.YtfpadnmdafiddaaGreatDoor
open Go Go.RowKit Go.V
def startL:List (BitVec 64):=[7640891576956012808#64,13503953896175478587#64,4354685564936845355#64,11912009170470909681#64,5840696475078001361#64,11170449401992604703#64,2270897969802886507#64,6620516959819538809#64]
def xorK:BitVec 64:=11936128518282651045#64
def xorL:Nat→List (BitVec 64)
 | 0=>startL
 | q+1=>(xorL q).set q ((xorL q).getD q 0#64 ^^^ xorK)
theorem xorL_len (q:Nat):(xorL q).length=8:=by induction q with|zero=>rfl|succ q ih=>simp [xorL,ih]
def shaName:Bs:=[83,72,65,45,53,49,50,47,50,53,54]
def shortS:St:=wholeS (St.of (xorL 8)) shaName
theorem start_c (w:World):Calls Tryz.prog 252 #[] w (Ret λ v w'=>v=.agg (startL.map wB).toArray∧Grow w w'):=by
 refine V.calls (args:=[]) Tryz.func252 rfl Tryz.ntmps252 rfl rfl ?_
 repeat (first|refine TL.nil ?_|refine aA ?_|refine aJ ?_|refine aC ?_|(refine aP ?_;(refine aY rfl rfl yB (by exact rfl) (by exact rfl) (by exact rfl) ?_;intro w' hu hbk hsz))|(refine bD ?_;(refine TL.alloc rfl rfl ?_;intro bk w' hg hbk hsz hsz'))|refine mO rfl rfl rfl ?_|refine bC ?_)
 exact retC rfl (bY (by assumption) rfl) ⟨_,rfl,rfl,yG⟩
theorem short_c (w:World):Calls Tryz.prog 213 #[] w (Ret λ v w'=>v=.agg (shortS.l.map wB).toArray∧Grow w w'):=by
 refine V.calls (args:=[]) Tryz.func213 rfl Tryz.ntmps213 rfl rfl ?_
 repeat (first|refine TL.nil ?_|refine aA ?_|refine aJ ?_|refine aC ?_|(refine bD ?_;(refine TL.alloc rfl rfl ?_;intro bk w' hg hbk hsz hsz')))
 refine aL 252 ?_
 refine aI (vs:=[]) rfl (start_c _) rfl ?_
 rintro _ w2 ⟨rfl,hg2⟩
 have hbr:Blk w2 bk 295 ((List.replicate 8 0#64).map wB):=Blk.grow hg2 hbk
 have hgw:Grow w w2:=hg.trans hg2
 have hz1:=hg2.size
 have hz2:w.heap.size=bk:=hsz
 have hz3:=hsz'
 clear hg hbk hsz hsz' hg2
 repeat (first|(refine aB ?_;refine TL.pure rfl rfl ?_)|refine TL.nil ?_|refine aA ?_|refine aJ ?_|refine aC ?_|refine T.block ?_|(refine aP ?_;(refine aY rfl rfl yB (by exact rfl) (by exact rfl) (by exact rfl) ?_;intro w' hu hbk hsz))|(refine bD ?_;(refine TL.alloc rfl rfl ?_;intro bk w' hg hbk hsz hsz')))
 rename_i b0 wa wb hbz hsz0
 have hbr2:Blk w' b0 295 ((List.replicate 8 0#64).map wB):=by exact yB
 have hgw2:Grow w w':=by exact yG
 have hne:b0≠bk:=by omega
 have hle1:w.heap.size≤b0:=by omega
 have hle:w.heap.size≤bk:=by omega
 clear hbr hgw hz1 hz2 hz3 hu hsz hg hsz' hbz hsz0
 refine cM (S:=Nat) (λ i=>[(4,.int .i64 (i:Int)),(1,.pointer (some ⟨bk,0,none⟩)),(0,.pointer (some ⟨b0,0,none⟩))]) (λ i w3=>i≤8∧Blk w3 bk 295 ((xorL i).map wB)∧Blk w3 b0 295 ((List.replicate 8 0#64).map wB)∧Grow w w3) (λ i=>8-i) 0 ⟨rfl,rfl,rfl,trivial⟩ ⟨by omega,hbk,hbr2,hgw2⟩ ?_
 clear hbk hbr2 hgw2
 rintro i w3 ⟨hi,hbk,hbr,hg⟩
 have hln:=xorL_len i
 by_cases hlt:i<8
 ·repeat (first|(refine aU ?_;refine aK rfl (Blk.cell hbk (wcell (by omega))) rfl ?_)|refine TL.xorB6 (b:=xorK) rfl rfl rfl ?_|(refine aB ?_;refine TL.pure rfl rfl ?_)|(refine aD ?_;refine TL.pure rfl rfl ?_)|(refine bF ?_;refine eS rfl rfl (by omega) rfl ?_)|refine TL.nil ?_|refine aA ?_|refine aJ ?_|refine aC ?_|refine T.block ?_|(refine aH ?_;refine bA rfl yD rfl ?_)|refine aN rfl ?_|refine aV ?_)
  refine bP rfl rfl hbk rfl (by rw [List.length_map,hln];exact Nat.ble_eq_true_of_le (by omega)) (map_set _ _ _) ?_
  intro w7 hu7 hb7 hs7
  repeat (first|(refine aB ?_;refine TL.pure rfl rfl ?_)|(refine bJ ?_;refine bT rfl rfl (by omega) rfl ?_)|refine TL.nil ?_|refine aA ?_|refine aC ?_|refine aT ?_)
  exact bG (i+1) ⟨rfl,rfl,rfl,trivial⟩ ⟨hlt,hb7,hbr.upd hu7 hne,aZ hu7 hle hg⟩ (by omega)
 obtain rfl:i=8:=by omega
 repeat (first|(refine aU ?_;refine bE rfl hbk (by rw [List.length_map,hln];rfl) rfl ?_)|refine TL.nil ?_|refine aA ?_|refine aJ ?_|refine aC ?_|(refine aH ?_;refine aR rfl yD rfl ?_)|refine aE rfl ?_|refine cN ?_|refine bM ?_|refine bO ?_|refine bN ?_)
 refine TL.buildSlice rfl rfl rfl rfl rfl ?_
 intro b1 w4 hg4 hb1 q1 q2 q3
 have hb1':Blk w4 b1 5 (cX shaName):=hb1
 refine TL.convSl rfl hb1' rfl (Nat.le_refl _) (by decide) rfl ?_
 intro w5 hu5 hs5
 refine TL.buildSlice rfl rfl rfl rfl rfl ?_
 intro b2 w6 hg6 hb2 r1 r2 r3
 have hz3:=hg.size
 have hbrl:=hbr.lt
 have hle0:w.heap.size≤b0:=hle1
 have hz4:=hg4.size
 have hz5:=hu5.size
 have hz6:=hg6.size
 have hs2:Sl (λ k=>k=b2∨k=b1) w6 1 (some ⟨b2,0,none⟩) 1 1 [.slice (some ⟨b1,0,none⟩) 11 11]:=(bR (sz:=1) (m:=1) hb2 r3 (by decide)).mono (λ k hk=>.inl hk)
 have hky:KysAt (λ k=>k=b2∨k=b1) w6 (some ⟨b2,0,none⟩) 1 1 [shaName]:=⟨_,hs2,⟨_,_,_,rfl,(hs5.grow hg6).mono (λ k hk=>.inr hk)⟩,trivial⟩
 refine aL 212 ?_
 have hsl:(St.of (xorL 8)).l=xorL 8:=St.of_l (xorL_len 8)
 rw [← hsl]
 refine aI rfl (whole_c _ (St.of (xorL 8)) _ 1 1 [shaName] _ hky (by decide) (by decide)) rfl ?_
 rintro _ w7 ⟨rfl,hg7⟩
 rw [show wholeS (St.of (xorL 8)) [shaName].flatten=shortS from rfl]
 have hz7:=hg7.size
 have hbr7:Blk w7 b0 295 ((List.replicate 8 0#64).map wB):=((((hbr.grow hg4).upd hu5 (by omega)).grow hg6).grow hg7)
 have hg8:Grow w w7:=(((aZ hu5 (by omega) (hg.trans hg4)).trans hg6).trans hg7)
 repeat (first|(refine aP ?_;refine aY rfl rfl hbr7 rfl rfl (by simp [Value.oneCell']) ?_;intro w' hu hbk hsz)|refine TL.nil ?_|refine aA ?_|refine bC ?_)
 exact retC rfl (bY hbk rfl) ⟨_,rfl,rfl,aZ hu (by omega) hg8⟩
end Go.Proofs.YtfpadnmdafiddaaGreatDoor
namespace Go.Proofs.YtfpadnmdafiddaaGreatDoor
open Go Go.RowKit Go.V
def sumB (s:St) (i:Nat):Nat:=(s.l.getD (i / 8) 0#64).toNat / 2^(56-8*(i%8))%256
def sumS (s:St):Bs:=(List.range 64).map (sumB s)
def sumL (s:St):Nat→Bs
 | 0=>zs 64
 | i+1=>(sumL s i).set i (sumB s i)
theorem sumL_len (s:St) (i:Nat):(sumL s i).length=64:=by induction i with|zero=>rfl|succ i ih=>simp [sumL,ih]
theorem sumL_at (s:St):∀ (i:Nat),i≤64→∀ j,j<i→(sumL s i)[j]? = some (sumB s j)
 | 0,_,j,h=>by omega
 | i+1,hi,j,h=>by
  simp only [sumL]
  have hl:=sumL_len s i
  by_cases hj:j=i
  ·subst hj;rw [List.getElem?_set_self (by omega)]
  ·rw [List.getElem?_set_ne (by omega)];exact sumL_at s i (by omega) j (by omega)
theorem sumL_end (s:St):sumL s 64=sumS s:=by
 apply List.ext_getElem?
 intro j
 by_cases hj:j<64
 ·rw [sumL_at s 64 (Nat.le_refl _) j hj];simp [sumS,hj]
 ·rw [List.getElem?_eq_none (by rw [sumL_len];omega),List.getElem?_eq_none (by simp [sumS];omega)]
theorem length_sumS (s:St):(sumS s).length=64:=by simp [sumS]
def shaB (l:Bs):Bs:=(sumS (wholeS shortS l)).take 32
theorem length_shaB (l:Bs):(shaB l).length=32:=by simp [shaB,length_sumS]
theorem bys_set (l:Bs) (i x:Nat):(cX l).set i (.int .u8 (x:Int))=cX (l.set i x):=by simp [cX,List.map_set]
theorem zero_64:(Tryz.prog.info? 238).bind (·.zero)=some (.agg (cX (zs 64)).toArray):=by kernel_rfl
theorem sum_c (s:St) (w:World):Calls Tryz.prog 211 #[.agg (s.l.map wB).toArray] w (Ret λ v w'=>v=.agg (cX (sumS s)).toArray∧Grow w w'):=by
 refine V.calls (args:=[_]) Tryz.func211 rfl Tryz.ntmps211 rfl rfl ?_
 repeat (first|(refine bD ?_;refine iH 64 zero_64 rfl ?_;intro bk w' hg hbk hsz hsz')|(refine aB ?_;refine TL.pure rfl rfl ?_)|refine TL.nil ?_|refine aA ?_|refine aJ ?_|refine aC ?_|refine T.block ?_|(refine bW ?_;(refine dJ rfl rfl ?_;intro bk w' hg hbk hsz hsz')))
 rename_i b1 w1 hg1 hb1 q1 q1' b2 w2 hg2 hb2 q2 q2'
 have hb1':Blk w' b1 295 (s.l.map wB):=by exact yB
 have hb2':Blk w' b2 238 (cX (zs 64)):=by exact yB
 have hgw:Grow w w':=by exact yG
 have hn:b1≠bk∧b2≠bk∧w.heap.size≤bk∧w.heap.size≤b2:=by omega
 clear hg1 hb1 q1 q1' hg2 hb2 q2 q2' hg hsz hsz'
 refine cM (S:=Nat) (λ i=>[(5,.int .i64 (i:Int)),(3,.pointer (some ⟨bk,0,none⟩)),(2,.pointer (some ⟨b2,0,none⟩)),(1,.pointer (some ⟨b1,0,none⟩))]) (λ i w3=>i≤64∧Blk w3 bk 238 (cX (sumL s i))∧Blk w3 b1 295 (s.l.map wB)∧Blk w3 b2 238 (cX (zs 64))∧Grow w w3) (λ i=>64-i) 0 ⟨rfl,rfl,rfl,rfl,trivial⟩ ⟨by omega,hbk,hb1',hb2',hgw⟩ ?_
 clear hbk hb1' hb2' hgw
 rintro i w3 ⟨hi,hbk,hb1,hb2,hg⟩
 have hln:=sumL_len s i
 by_cases hlt:i<64
 ·have hsl:s.l.length=8:=rfl
  repeat (first|(refine aU ?_;refine aK rfl (Blk.cell hb1 (wcell (by omega))) rfl ?_)|(refine bF ?_;refine eS (j:=i / 8) rfl rfl (by omega) rfl ?_)|(refine gU ?_;refine gZ (a:=8) rfl rfl (by omega) rfl ?_)|(refine cJ ?_;refine dI (a:=56) (b:=8*(i%8)) rfl rfl (by omega) (by omega) rfl ?_)|(refine fT ?_;refine jL rfl rfl (by show 56-8*(i%8)≤64;omega) rfl ?_)|(refine cZ ?_;refine nD rfl (M:=256) rfl rfl ?_)|(refine aB ?_;refine TL.pure rfl rfl ?_)|(refine aD ?_;refine TL.pure rfl rfl ?_)|(refine bF ?_;refine eS rfl rfl (by omega) rfl ?_)|refine TL.nil ?_|refine aA ?_|refine aJ ?_|refine aC ?_|refine T.block ?_|(refine TL.isRem ?_;refine TL.remU rfl rfl (by omega) rfl ?_)|(refine kH ?_;refine mJ rfl rfl (by omega) (by omega) rfl ?_)|(refine aH ?_;refine bA rfl yD rfl ?_)|refine aN rfl ?_|refine aV ?_)
  have hget:(s.l.getD (i / 8) 0#64).toNat / 2^(56-8*(i%8))%256=sumB s i:=rfl
  rw [hget]
  refine bP rfl rfl hbk rfl (by rw [dA,hln];exact Nat.ble_eq_true_of_le (by omega)) (bys_set _ _ _) ?_
  intro w7 hu7 hb7 hs7
  repeat (first|(refine aB ?_;refine TL.pure rfl rfl ?_)|(refine bJ ?_;refine bT rfl rfl (by omega) rfl ?_)|refine TL.nil ?_|refine aA ?_|refine aC ?_|refine aT ?_)
  exact bG (i+1) ⟨rfl,rfl,rfl,rfl,trivial⟩ ⟨hlt,hb7,hb1.upd hu7 hn.1,hb2.upd hu7 hn.2.1,aZ hu7 hn.2.2.1 hg⟩ (by omega)
 obtain rfl:i=64:=by omega
 rw [sumL_end] at hbk
 have hl:=length_sumS s
 generalize sumS s=l at *
 clear hln
 obtain ⟨z,hz⟩:∃ z,z=zs 64:=⟨_,rfl⟩
 have hzl:z.length=64:=by rw [hz];exact dT _
 rw [← hz] at hb2
 clear hz
 repeat (first|refine TL.loadBy rfl hbk hl rfl ?_|(refine aP ?_;refine iZ rfl rfl hb2 hzl hl ?_;intro w' hu hb2' hsz)|refine TL.nil ?_|refine aA ?_|refine aJ ?_|refine aC ?_|(refine aH ?_;refine aR rfl yD rfl ?_)|refine aE rfl ?_|refine bC ?_|refine cN ?_|refine bM ?_|refine bO ?_|refine bN ?_)
 exact retC rfl (bY hb2' (by rw [dA,hl];rfl)) ⟨_,rfl,rfl,aZ hu hn.2.2.2 hg⟩
theorem sha_c (F:Nat→Prop) (a:Option Addr) (n c:Nat) (bss:List Bs) (w:World) (h:KysAt F w a n c bss) (hn:bss.flatten.length≤100000) (hb:∀ b∈bss.flatten,b<256) :
  Calls Tryz.prog 169 #[.slice a n c] w (Ret λ v w'=>v=.agg (cX (shaB bss.flatten)).toArray∧Grow w w'):=by
 refine V.calls (args:=[_]) Tryz.func169 rfl Tryz.ntmps169 rfl rfl ?_
 repeat (first|(refine bD ?_;refine iH 32 zero_dig rfl ?_;intro bk w' hg hbk hsz hsz')|refine TL.nil ?_|refine aA ?_|refine aJ ?_|refine aC ?_)
 refine aL 213 ?_
 refine aI (vs:=[]) rfl (short_c _) rfl ?_
 rintro _ w2 ⟨rfl,hg2⟩
 repeat ((refine aB ?_;refine TL.pure rfl rfl ?_))
 refine aL 212 ?_
 refine aI rfl (whole_c F shortS a n c bss _ (h.go (Carry.grow (hg.trans hg2))) hn hb) rfl ?_
 rintro _ w3 ⟨rfl,hg3⟩
 refine aL 211 ?_
 refine aI rfl (sum_c _ _) rfl ?_
 rintro _ w4 ⟨rfl,hg4⟩
 unfold shaB
 have hl:=length_sumS (wholeS shortS bss.flatten)
 generalize sumS (wholeS shortS bss.flatten)=l at *
 have hb4:Blk w4 bk 243 (cX (zs 32)):=((hbk.grow hg2).grow hg3).grow hg4
 have hgw:Grow w w4:=((hg.trans hg2).trans hg3).trans hg4
 have hle:w.heap.size≤bk:=by omega
 have hbl:=hb4.lt
 clear hg hbk hsz hsz' hg2 hg3 hg4
 repeat (first|(refine bD ?_;refine iH 64 zero_64 rfl ?_;intro b2 w5 hg5 hb5 q1 q2)|(refine aP ?_;refine iZ rfl rfl hb5 (dT _) hl ?_;intro w6 hu6 hb6 q3)|refine TL.nil ?_|refine aA ?_|refine aJ ?_|refine aC ?_|(refine eB ?_;refine eM rfl (bZ _) (jW rfl) (by omega) (by omega) (by omega) rfl rfl ?_))
 have hb46:Blk w6 bk 243 (cX (zs 32)):=(hb4.grow hg5).upd hu6 (by omega)
 have hsl:Sl (λ k=>k=b2) w6 1 (some ⟨b2,0,none⟩) 32 64 (cX ((l.drop 0).take 32)):=lI (o:=0) (m:=32) (c:=64) hb6 (by omega) (by omega) (by decide)
 rw [List.drop_zero] at hsl
 refine TL.arrayAt (a:=some ⟨b2,0,none⟩) (n:=11) rfl (Nat.le_refl 32) rfl ?_
 refine TL.loadAll rfl hsl rfl rfl ?_
 have hl2:(l.take 32).length=32:=by rw [List.length_take,hl];rfl
 generalize l.take 32=l2 at *
 refine iZ rfl rfl hb46 (dT _) hl2 ?_
 intro w7 hu7 hb7 _
 repeat (first|refine TL.nil ?_|refine aA ?_|refine bC ?_)
 exact retC rfl (bY hb7 (by rw [dA,hl2];rfl)) ⟨_,rfl,rfl,aZ hu7 hle (aZ hu6 (by omega) (hgw.trans hg5))⟩
end Go.Proofs.YtfpadnmdafiddaaGreatDoor
namespace Go.Proofs.YtfpadnmdafiddaaGreatDoor
open Go Go.RowKit Go.V
def eA (b:Bs):Bs:=b++zs (500-b.length)
def mD (n:Nat) (b:Bs):Bs:=(shaB (fQ n++eA b)).take 12++eA b
theorem mE (b:Bs) (h:b.length≤500):(eA b).length=500:=by simp [eA,dT];omega
theorem length_pageB (n:Nat) (b:Bs) (h:b.length≤500):(mD n b).length=512:=by
 unfold mD;rw [List.length_append,List.length_take,length_shaB,mE b h];rfl
theorem length_word4 (n:Nat):(fQ n).length=4:=rfl
theorem word4_lt (n:Nat):∀ b∈fQ n,b<256:=by
 intro b hb
 simp only [fQ,List.mem_cons,List.not_mem_nil,or_false] at hb
 omega
theorem body_lt {b:Bs} (h:∀ x∈b,x<256):∀ x∈eA b,x<256:=by
 intro x hx
 simp only [eA,zs,List.mem_append,List.mem_replicate] at hx
 rcases hx with hx|hx
 ·exact h x hx
 ·omega
def kyF {B:Nat} (m:Nat) (l:List Bs):SFact B:={ G:=λ v _ _ w=>∃ a c,v=.slice a m c∧KysAt (λ _=>True) w a m c l,st:=λ v _ _ w w' g h=>by obtain ⟨a,c,h1,h2⟩:=h;exact ⟨a,c,h1,h2.go (Carry.grow g)⟩ }
theorem page_c (F:Nat→Prop) (n:Nat) (hn:n<4294967296) (a:Option Addr) (m c:Nat) (b:Bs) (w:World) (hs:Sl F w 1 a m c (cX b)) (hm:m≤500) (hb:∀ x∈b,x<256) :
  Calls Tryz.prog 123 #[.int .i64 (n:Int),.slice a m c] w (Ret λ v w'=>v=.agg (cX (mD n b)).toArray∧Grow w w'):=by
 have hlb:=iE hs
 refine V.calls (args:=[_,_]) Tryz.func123 rfl Tryz.ntmps123 rfl rfl ?_
 repeat (first|(refine bD ?_;refine iH 512 zero_page rfl ?_;intro bk w' hg hbk hsz hsz')|(refine aB ?_;refine TL.pure rfl rfl ?_)|refine TL.nil ?_|refine aA ?_|refine aJ ?_|refine aC ?_|(refine eB ?_;refine eM rfl (jW rfl) (bZ _) (by omega) (by omega) (by omega) rfl rfl ?_))
 rename_i b4 w1 hg1 hb4 q1 q2
 have hsz1:=hg.size
 refine TL.copyB (b:=bk) (o:=12) (m:=500) (c:=500) rfl rfl hbk (hs.grow (hg1.trans hg)) (dY b) (by rw [dA,dT];omega) rfl ?_
 intro w2 hu2 hb2 hz2
 have hb0:jD (cX (zs 512)) 12 ((cX b).take (min m 500))=cX (zs 12++eA b):=by
  rw [List.take_of_length_le (by rw [dA];omega),putAt_eq _ _ _ (by rw [dA,dA,dT];omega),dA]
  unfold eA cX zs
  rw [← List.append_assoc]
  simp only [List.map_append,List.map_replicate,List.take_replicate,List.drop_replicate]
  rw [show min 12 512=12 from rfl,show 512-(12+b.length)=500-b.length by omega]
 rw [hb0] at hb2
 have hb42:Blk w2 b4 197 (cX (zs 512)):=(hb4.grow hg).upd hu2 (by omega)
 have hgw:Grow w w2:=aZ hu2 (by omega) (hg1.trans hg)
 have hne:b4≠bk∧w.heap.size≤bk∧w.heap.size≤b4:=by omega
 have hl5:=mE b (by omega)
 have hlt5:=body_lt hb
 have hpg:mD n b=(shaB (fQ n++eA b)).take 12++eA b:=rfl
 rw [hpg]
 generalize eA b=B at *
 clear hbk hb4 hg1 hg q1 q2 hsz hsz' hsz1 hu2 hz2 hb0 hpg
 repeat (first|refine TL.nil ?_|refine aA ?_|refine aJ ?_)
 apply T.any 7 [is (.int .i64 (n:Int)),is (.int .u64 (n:Int)),own w2.heap.size 5 1 4 (cX (fQ n)),is (.slice (some ⟨bk,12,none⟩) 500 500),kyF 2 [fQ n,B],is (.agg (cX (shaB (fQ n++B))).toArray),newB 243 (cX (zs 32))]
 ·rfl
 ·repeat' (first|exact bX|refine bU ?_ ?_)
  ·(refine aQ rfl rfl rfl ?_);( intro wq _ _ hgq;(repeat (refine aG rfl rfl ?_;intro vq hvq;try (obtain rfl:=hvq)));(refine aM ?_))
   repeat (first|(refine aB ?_;refine TL.pure rfl rfl ?_)|refine TL.nil ?_)
   exact aS rfl yG rfl
  ·(refine aQ rfl rfl rfl ?_);( intro wq _ _ hgq;(repeat (refine aG rfl rfl ?_;intro vq hvq;try (obtain rfl:=hvq)));(refine aM ?_))
   repeat (first|refine TL.nil ?_|(refine cZ ?_;refine eV rfl rfl (by omega) rfl ?_))
   exact aS rfl yG rfl
  ·(refine aQ rfl rfl rfl ?_);( intro wq _ _ hgq;(repeat (refine aG rfl rfl ?_;intro vq hvq;try (obtain rfl:=hvq)));(refine aM ?_))
   refine aL 170 ?_
   refine aI rfl (word_c n (by omega) _) rfl ?_
   rintro v w4 ⟨hown,hg4⟩
   repeat (refine TL.nil ?_)
   exact aS rfl yG (fC hown hgq.size)
  ·(refine aQ rfl rfl rfl ?_);( intro wq _ _ hgq;(repeat (refine aG rfl rfl ?_;intro vq hvq;try (obtain rfl:=hvq)));(refine aM ?_))
   repeat (first|refine TL.nil ?_|(refine eB ?_;refine eM rfl (jW rfl) (bZ _) (by omega) (by omega) (by omega) rfl rfl ?_))
   exact aS rfl yG rfl
  ·(refine aQ rfl rfl rfl ?_);( intro wq _ _ hgq;(repeat (refine aG rfl rfl ?_;intro vq hvq;try (obtain rfl:=hvq)));(refine aM ?_))
   obtain ⟨a1,c1,rfl,hs1⟩:=cE hvq
   have hbq:=hb2.grow hgq
   have hs5:Sl (λ _=>True) _ 1 (some ⟨bk,12,none⟩) 500 500 (cX (((zs 12++B).drop 12).take 500)):=(lI (o:=12) (m:=500) (c:=500) hbq (by rw [List.length_append,dT,hl5];omega) (Nat.le_refl _) (by decide)).mono (λ _ _=>trivial)
   rw [List.drop_left' (dT 12),List.take_of_length_le (by omega)] at hs5
   refine TL.buildSlice rfl rfl rfl rfl rfl ?_
   intro b3 w4 hg4 hb3 r1 r2 r3
   repeat (refine TL.nil ?_)
   have hsl:Sl (λ _=>True) w4 1 (some ⟨b3,0,none⟩) 2 2 [.slice a1 4 c1,.slice (some ⟨bk,12,none⟩) 500 500]:=(bR (sz:=1) (m:=2) hb3 r3 (by decide)).mono (λ _ _=>trivial)
   exact aS rfl yG ⟨_,_,rfl,⟨_,hsl,⟨_,_,_,rfl,(hs1.grow hg4).mono (λ _ _=>trivial)⟩,⟨_,_,_,rfl,hs5.grow hg4⟩,trivial⟩⟩
  ·refine aQ rfl rfl rfl ?_
   intro wq _ _ hgq
   refine aG rfl rfl ?_
   intro v4 h4
   refine aG rfl rfl ?_
   intro v2 h2
   refine aM ?_
   obtain ⟨a4,c4,rfl,h4⟩:=h4
   refine aL 169 ?_
   refine aI rfl (sha_c _ a4 2 c4 [fQ n,B] _ h4 (by simp [length_word4,hl5]) (by
    intro x hx
    simp only [List.flatten_cons,List.flatten_nil,List.append_nil,List.mem_append] at hx
    rcases hx with hx|hx
    ·exact word4_lt n x hx
    ·exact hlt5 x hx)) rfl ?_
   rintro _ w4 ⟨rfl,hg4⟩
   rw [show [fQ n,B].flatten=fQ n++B by simp]
   repeat (refine TL.nil ?_)
   exact aS rfl yG rfl
  ·(refine aQ rfl rfl rfl ?_);( intro wq _ _ hgq;(repeat (refine aG rfl rfl ?_;intro vq hvq;try (obtain rfl:=hvq)));(refine aM ?_))
   refine iH 32 zero_dig rfl ?_
   intro b5 w4 hg4 hb5 q1 q2
   repeat (refine TL.nil ?_)
   exact aS rfl yG ⟨b5,rfl,by omega,by omega,hb5⟩
 ·intro w6 lo6 hi6 hg6 _ _
  iterate 7 (refine aG rfl rfl ?_;intro vq hvq;try (obtain rfl:=hvq))
  refine aM ?_
  obtain ⟨b5,rfl,h51,h52,hb5⟩:=hvq
  have hD:=length_shaB (fQ n++B)
  generalize shaB (fQ n++B)=D at *
  have hb2':=hb2.grow hg6
  have hb4':=hb42.grow hg6
  have hgw':=hgw.trans hg6
  have hl2:=hb2.lt
  have hl4:=hb42.lt
  have hspan:=‹∀ (i:Nat),i<7→w2.heap.size≤lo6 i∧lo6 i≤hi6 i∧hi6 i≤w6.heap.size› 6 (by omega)
  have h51':lo6 6≤b5:=h51
  have hb5n:bk≠b5∧b4≠b5∧w.heap.size≤b5:=by have:=hgw.size;omega
  repeat (first|(refine aP ?_;refine iZ rfl rfl hb5 (dT _) hD ?_;intro w7 hu7 hb7 _)|refine TL.nil ?_|refine aA ?_|refine aJ ?_)
  have hb27:=hb2'.upd hu7 hb5n.1
  have hb47:=hb4'.upd hu7 hb5n.2.1
  have hgw7:Grow w w7:=aZ hu7 hb5n.2.2 hgw'
  apply T.any 2 [is (.slice (some ⟨bk,0,none⟩) 12 512),is (.slice (some ⟨b5,0,none⟩) 32 32)]
  ·rfl
  ·repeat' (first|exact bX|refine bU ?_ ?_)
   iterate 2
    ·(refine aQ rfl rfl rfl ?_);( intro wq _ _ hgq;(repeat (refine aG rfl rfl ?_;intro vq hvq;try (obtain rfl:=hvq)));(refine aM ?_))
     repeat (first|refine TL.nil ?_|(refine eB ?_;first|refine eM rfl (bZ _) (jW rfl) (by omega) (by omega) (by omega) rfl rfl ?_|refine eM rfl (bZ _) (bZ _) (by omega) (by omega) (by omega) rfl rfl ?_))
     exact aS rfl yG rfl
  ·intro w8 lo8 hi8 hg8 _ _
   ((repeat (refine aG rfl rfl ?_;intro vq hvq;try (obtain rfl:=hvq)));(refine aM ?_))
   have hb78:=hb7.grow hg8
   have hs8:=lI (o:=0) (m:=32) (c:=32) hb78 (by omega) (Nat.le_refl _) (by decide)
   rw [List.drop_zero,List.take_of_length_le (by omega)] at hs8
   refine TL.copyB (b:=bk) (o:=0) (m:=12) (c:=512) rfl rfl (hb27.grow hg8) hs8 (dY D) (by rw [dA,List.length_append,dT,hl5];omega) rfl ?_
   intro w9 hu9 hb9 hz9
   have hfin:jD (cX (zs 12++B)) 0 ((cX D).take (min 32 12))=cX (D.take 12++B):=by
    rw [show min 32 12=12 from rfl,show (cX D).take 12=cX (D.take 12) by simp [cX,List.map_take],putAt_bys (by rw [List.length_take,List.length_append,dT];omega)]
    have e1:(D.take 12).length=12:=by rw [List.length_take,hD];rfl
    rw [e1,List.take_zero,List.nil_append,Nat.zero_add,List.drop_left' (dT 12)]
   rw [hfin] at hb9
   have hl9:(D.take 12++B).length=512:=by rw [List.length_append,List.length_take,hD,hl5];rfl
   have hb49:=(hb47.grow hg8).upd hu9 hne.1
   have hgw9:Grow w w9:=aZ hu9 hne.2.1 (hgw7.trans hg8)
   generalize D.take 12++B=R at *
   repeat (first|refine TL.loadBy rfl hb9 hl9 rfl ?_|(refine aP ?_;refine iZ rfl rfl hb49 (dT _) hl9 ?_;intro w10 hu10 hb10 _)|refine TL.nil ?_|refine aA ?_|refine aJ ?_|refine aC ?_|refine bC ?_)
   exact retC rfl (bY hb10 (by rw [dA,hl9];rfl)) ⟨_,rfl,rfl,aZ hu10 hne.2.2 hgw9⟩
end Go.Proofs.YtfpadnmdafiddaaGreatDoor
namespace Go.Proofs.YtfpadnmdafiddaaGreatDoor
open Go Go.RowKit Go.V
def jY (l:List Nat):List Value:=l.map λ (x:Nat)=>.int .u64 (x:Int)
theorem fR (l:List Nat):(jY l).length=l.length:=by simp [jY]
theorem ws64_at {l:List Nat} {i:Nat} (h:i<l.length):(jY l)[i]? = some (.int .u64 ((l.getD i 0:Nat):Int)):=by
 simp [jY,List.getD_eq_getElem?_getD,h]
instance:PtrTy Tryz.prog 25:=⟨by kernel_rfl⟩
def pgc (p d u c W:Nat):List Value:=[.pointer (some ⟨p,0,none⟩),.pointer (some ⟨d,0,none⟩),.int .i64 (c:Int),.slice (some ⟨u,0,none⟩) W W]
structure PL where
 p:Nat
 d:Nat
 u:Nat
 m:Nat
 s:Nat
structure PgAt (w:World) (L:PL) (g:Pg):Prop where
 blk:Blk w L.p 150 (pgc L.p L.d L.u g.count g.words.length)
 used:Blk w L.u 168 (jY g.words)
 ok:PgOk g
 cnt:g.count≤8192
 f:∃ f:Nat→Option Value,DkAt w L.d L.s L.m (2*g.count) f∧∀ n,cV g n=true→f (2*n)=some (.agg (cX ((mD n (g.body n)).take 256)).toArray)∧f (2*n+1)=some (.agg (cX ((mD n (g.body n)).drop 256)).toArray)
 lt:∀ n,∀ x∈g.body n,x<256
 bl:∀ n,cV g n=true→(g.body n).length=500
 ne:L.p≠L.u∧L.p≠L.m∧L.u≠L.m∧L.d≠L.u∧L.d≠L.p
theorem valid_c {w:World} {L:PL} {g:Pg} (h:PgAt w L g) :
  Calls Tryz.prog 85 #[.pointer (some ⟨L.p,0,none⟩)] w (Ret λ v w'=>v=.bool true∧w=w'):=by
 refine V.calls (args:=[_]) Tryz.func85 rfl Tryz.ntmps85 rfl rfl ?_
 have hb:=h.blk
 unfold pgc at hb
 repeat (first|(refine TL.isNeT 25 ?_;refine TL.neNilP rfl rfl rfl ?_)|(refine TL.isEqT 25 ?_;refine TL.eqSame rfl rfl rfl ?_)|refine aX rfl rfl rfl ?_|(refine aB ?_;refine TL.pure rfl rfl ?_)|(refine aD ?_;refine TL.pure rfl rfl ?_)|refine aK rfl yM rfl ?_|refine aF rfl rfl ?_|refine TL.nil ?_|refine aA ?_|refine aJ ?_|refine aC ?_|refine bL rfl rfl ?_|refine bC ?_|refine TL.pure rfl rfl ?_)
 exact cF rfl ⟨_,rfl,rfl,rfl⟩
theorem has_c {w:World} {L:PL} {g:Pg} (h:PgAt w L g) (n:Nat) (hn:n<9223372036854775808) :
  Calls Tryz.prog 91 #[.pointer (some ⟨L.p,0,none⟩),.int .i64 (n:Int)] w (Ret λ v w'=>v=.bool (cV g n)∧w=w'):=by
 refine V.calls (args:=[_,_]) Tryz.func91 rfl Tryz.ntmps91 rfl rfl ?_
 have hb:=h.blk
 have hu:=h.used
 have hcn:=h.cnt
 unfold pgc at hb
 by_cases hlt:n<g.count
 ·have hdv:=used_div h.ok hlt
  have hux:Sl (λ k=>k=L.u) w 1 (some ⟨L.u,0,none⟩) g.words.length g.words.length (jY g.words):=bR (sz:=1) (m:=g.words.length) hu (by rw [fR,Nat.mul_one]) (by unfold maxLen;have:=h.ok.wl;omega)
  have hcell:w.cell? (at' (some ⟨L.u,0,none⟩) (n / 64))=some (.int .u64 ((g.words.getD (n / 64) 0:Nat):Int)):=hux.row.cell (ws64_at hdv)
  have hup:cV g n=(g.words.getD (n / 64) 0).testBit (n%64):=by simp [cV,hlt]
  rw [hup,Nat.testBit_eq_decide_div_mod_eq]
  have hxl:g.words.getD (n / 64) 0<18446744073709551616:=by
   rw [List.getD_eq_getElem?_getD,List.getElem?_eq_getElem hdv];exact h.ok.w64 _ (List.getElem_mem _)
  generalize g.words.getD (n / 64) 0=x at *
  have hq:x / 2^(n%64)<18446744073709551616:=Nat.lt_of_le_of_lt (Nat.div_le_self ..) hxl
  have hr:x / 2^(n%64)%2=1∨x / 2^(n%64)%2=0:=by omega
  repeat (first|(refine bF ?_;refine aW (j:=n / 64) rfl rfl (by omega) hdv (Nat.mul_one _) ⟨_,_,hux⟩ rfl ?_)|(refine TL.isAnd ?_;refine TL.andU rfl rfl rfl rfl hq (by omega) rfl ?_)|refine aX rfl rfl rfl ?_|(refine aB ?_;refine TL.pure rfl rfl ?_)|(refine aD ?_;refine TL.pure rfl rfl ?_)|refine aK rfl yM rfl ?_|refine aF rfl rfl ?_|refine TL.nil ?_|refine aA ?_|refine aJ ?_|refine aC ?_|(refine fT ?_;refine jL rfl rfl (by (simp only [IntKind.bits];omega)) rfl ?_)|(refine TL.isRem ?_;refine TL.remU rfl rfl (by omega) rfl ?_)|(refine kH ?_;refine mJ rfl rfl (by omega) (by omega) rfl ?_)|(refine aH ?_;first|refine bA rfl yD rfl ?_|refine TL.pure rfl rfl ?_)|refine bL rfl rfl ?_|refine bC ?_|refine TL.pure rfl rfl ?_)
  exact cF rfl ⟨_,rfl,by
   congr 1
   rcases hr with hr|hr<;>rw [hr]<;>rfl,rfl⟩
 ·have hup:cV g n=false:=by simp [cV,hlt]
  rw [hup]
  repeat (first|(refine iG ?_;first|refine bQ rfl rfl rfl ?_|refine aX rfl rfl rfl ?_)|(refine aB ?_;refine TL.pure rfl rfl ?_)|(refine aD ?_;refine TL.pure rfl rfl ?_)|refine aK rfl yM rfl ?_|refine aF rfl rfl ?_|refine TL.nil ?_|refine aA ?_|refine aJ ?_|refine aC ?_|(refine aH ?_;first|refine bA rfl yD rfl ?_|refine aR rfl yD rfl ?_)|refine bL rfl rfl ?_|refine bC ?_|refine TL.pure rfl rfl ?_)
  exact cF rfl ⟨_,rfl,rfl,rfl⟩
theorem has_neg {w:World} {L:PL} (p':List Value) :
  Calls Tryz.prog 91 #[.pointer (some ⟨L.p,0,none⟩),.int .i64 (-1)] w (Ret λ v w'=>v=.bool false∧w=w'):=by
 refine V.calls (args:=[_,_]) Tryz.func91 rfl Tryz.ntmps91 rfl rfl ?_
 repeat (first|refine bQ rfl rfl rfl ?_|(refine aB ?_;refine TL.pure rfl rfl ?_)|(refine aD ?_;refine TL.pure rfl rfl ?_)|refine TL.nil ?_|refine aA ?_|refine aJ ?_|refine aC ?_|(refine aH ?_;refine TL.pure rfl rfl ?_)|refine bC ?_|refine TL.pure rfl rfl ?_)
 exact cF rfl ⟨_,rfl,rfl,rfl⟩
theorem pcheck_c {w:World} {L:PL} {g:Pg} (h:PgAt w L g) (n:Nat) (hn:n<9223372036854775808) :
  Calls Tryz.prog 128 #[.pointer (some ⟨L.p,0,none⟩),.int .i64 (n:Int)] w (Ret λ v w'=>v=.int .i64 (if cV g n=true then 0 else 6)∧w=w'):=by
 refine V.calls (args:=[_,_]) Tryz.func128 rfl Tryz.ntmps128 rfl rfl ?_
 repeat (first|(refine aL 85 ?_;refine aI rfl (valid_c h) rfl ?_;rintro _ _ ⟨rfl,rfl⟩)|(refine aL 91 ?_;refine aI rfl (has_c h n hn) rfl ?_;rintro _ _ ⟨rfl,rfl⟩)|(refine aB ?_;refine TL.pure rfl rfl ?_)|(refine aD ?_;refine TL.pure rfl rfl ?_)|refine TL.nil ?_|refine aA ?_|refine aJ ?_|refine aC ?_|refine aE rfl ?_|refine aV ?_|refine TL.pure rfl rfl ?_)
 cases hu:cV g n with
 | true =>
  repeat (first|(refine aD ?_;refine TL.pure rfl rfl ?_)|refine TL.nil ?_|refine aA ?_|refine aJ ?_|refine aC ?_|refine aE rfl ?_|refine bC ?_|refine aV ?_)
  exact cF rfl ⟨_,rfl,rfl,rfl⟩
 | false =>
  repeat (first|(refine aD ?_;refine TL.pure rfl rfl ?_)|refine TL.nil ?_|refine aA ?_|refine aJ ?_|refine aC ?_|refine aN rfl ?_|refine bC ?_|refine bI ?_)
  exact cF rfl ⟨_,rfl,rfl,rfl⟩
theorem pcheck_neg {w:World} {L:PL} {g:Pg} (h:PgAt w L g) :
  Calls Tryz.prog 128 #[.pointer (some ⟨L.p,0,none⟩),.int .i64 (-1)] w (Ret λ v w'=>v=.int .i64 6∧w=w'):=by
 refine V.calls (args:=[_,_]) Tryz.func128 rfl Tryz.ntmps128 rfl rfl ?_
 repeat (first|(refine aL 85 ?_;refine aI rfl (valid_c h) rfl ?_;rintro _ _ ⟨rfl,rfl⟩)|(refine aL 91 ?_;refine aI rfl (has_neg []) rfl ?_;rintro _ _ ⟨rfl,rfl⟩)|(refine aB ?_;refine TL.pure rfl rfl ?_)|(refine aD ?_;refine TL.pure rfl rfl ?_)|refine TL.nil ?_|refine aA ?_|refine aJ ?_|refine aC ?_|refine aN rfl ?_|refine aE rfl ?_|refine bC ?_|refine aV ?_|refine bI ?_|refine TL.pure rfl rfl ?_)
 exact cF rfl ⟨_,rfl,rfl,rfl⟩
end Go.Proofs.YtfpadnmdafiddaaGreatDoor
namespace Go.V
open Go Go.RowKit
section
variable [Rn]
variable {P:Program} {n:Nat} {e:dN} {w:World} {Q:dO} {ops:Array Oper} {rest:List Oper} {d:Nat} {ty:TypeId} {pos:String} {aft:Array Edge}
theorem TL.orN6 {x y:Operand} {a b:Nat} {zx zy:Int} {t1 t2:TypeId} (hx:val e x=some (.int .u64 zx)) [ix:Lit zx a] (hy:val e y=some (.int .u64 zy)) [iy:Lit zy b] (ha:a<18446744073709551616) (hb:b<18446744073709551616) (hd:Nat.blt d n=true)
  (k:TL P n ops rest ((d,.int .u64 ((a|||b:Nat):Int))::e) w Q):TL P n ops (⟨some d,.binOp .or t1 x y t2,ty,pos,aft,none⟩::rest) e w Q :=
 TL.run (λ r hr=>by
  rw [ix.h] at hx;rw [iy.h] at hy
  have e1:((BitVec.ofInt IntKind.u64.bits (a:Int))|||(BitVec.ofInt IntKind.u64.bits (b:Int))).toNat=a|||b:=by
   rw [BitVec.toNat_or,bits_nat (M:=18446744073709551616) rfl,bits_nat (M:=18446744073709551616) rfl,Nat.mod_eq_of_lt ha,Nat.mod_eq_of_lt hb]
  have e2:=eW (kd:=.u64) (M:=18446744073709551616) rfl (show a|||b<18446744073709551616 from Nat.or_lt_two_pow (n:=64) ha hb)
  rw [← e1] at e2
  have hb:binOp .or t1 (.int .u64 (a:Int)) (.int .u64 (b:Int))=Pure.pure (.int .u64 ((a|||b:Nat):Int)):=by
   simp only [binOp,Op.intBits,ne_eq,not_true_eq_false,if_false]
   rw [e2,e1]
  simp only [execOp,cC,hr.eval hx,hr.eval hy,hb]
  rfl) hd k
end
end Go.V
namespace Go.Proofs.YtfpadnmdafiddaaGreatDoor
open Go Go.RowKit Go.V
theorem ws64_set (l:List Nat) (i x:Nat):(jY l).set i (.int .u64 (x:Int))=jY (l.set i x):=by simp [jY,List.map_set]
theorem pow_lt64 (n:Nat):2^(n%64)<18446744073709551616:=by
 have:n%64<64:=Nat.mod_lt _ (by omega)
 calc 2^(n%64)<2^64:=Nat.pow_lt_pow_right (by omega) this
  _=18446744073709551616:=by decide
theorem mark_c {w:World} {p u W:Nat} {x0 x1 x2:Value} {l:List Nat} (hb:Blk w p 150 [x0,x1,x2,.slice (some ⟨u,0,none⟩) W W]) (hu:Blk w u 168 (jY l)) (hW:l.length=W) (h64:∀ x∈l,x<18446744073709551616) (n:Nat) (hn:n / 64<W) (hW2:W≤1000) :
  Calls Tryz.prog 92 #[.pointer (some ⟨p,0,none⟩),.int .i64 (n:Int)] w (Ret λ v w'=>Blk w' u 168 (jY (gY l n))∧But u w w'):=by
 refine V.calls (args:=[_,_]) Tryz.func92 rfl Tryz.ntmps92 rfl rfl ?_
 subst hW
 have hx64:l.getD (n / 64) 0<18446744073709551616:=by
  rw [List.getD_eq_getElem?_getD,List.getElem?_eq_getElem hn];exact h64 _ (List.getElem_mem _)
 have hp64:=pow_lt64 n
 have hmk:gY l n=l.set (n / 64) (l.getD (n / 64) 0|||2^(n%64)):=rfl
 rw [hmk]
 have hg:=ws64_at hn
 generalize l.getD (n / 64) 0=x at *
 generalize hpw:2^(n%64)=y at *
 have hux:∀ w',Grow w w'→Sl (λ k=>k=u) w' 1 (some ⟨u,0,none⟩) l.length l.length (jY l):=λ w' g=>bR (sz:=1) (m:=l.length) (hu.grow g) (by rw [fR,Nat.mul_one]) (by unfold maxLen;omega)
 have hux2:∀ w',Grow w w'→w'.cell? (at' (some ⟨u,0,none⟩) (n / 64))=some (.int .u64 (x:Int)):=λ w' g=>(hux w' g).row.cell hg
 repeat (refine aJ ?_)
 apply T.any 12 [is (.pointer (some ⟨p,0,none⟩)),is (.pointer (some ⟨p,0,none⟩)),is (.pointer (some ⟨p,3,none⟩)),is (.slice (some ⟨u,0,none⟩) l.length l.length),is (.int .i64 (n:Int)),is (.int .i64 ((n / 64:Nat):Int)),is (.pointer (some (at' (some ⟨u,0,none⟩) (n / 64)))),is (.int .u64 (x:Int)),is (.int .i64 (n:Int)),is (.int .i64 ((n%64:Nat):Int)),is (.int .u64 (y:Int)),is (.int .u64 ((x|||y:Nat):Int))]
 ·rfl
 ·repeat' (first|exact bX|refine bU ?_ ?_)
  iterate 6
   ·(refine aQ rfl rfl rfl ?_);( intro wq _ _ hgq;(repeat (refine aG rfl rfl ?_;intro vq hvq;try (obtain rfl:=hvq)));(refine aM ?_))
    repeat (first|(refine aB ?_;refine TL.pure rfl rfl ?_)|refine aK rfl yM rfl ?_|refine aF rfl rfl ?_|refine TL.nil ?_|(refine kH ?_;refine mJ rfl rfl (by omega) (by omega) rfl ?_)|refine bL rfl rfl ?_)
    exact aS rfl yG rfl
  ·(refine aQ rfl rfl rfl ?_);( intro wq _ _ hgq;(repeat (refine aG rfl rfl ?_;intro vq hvq;try (obtain rfl:=hvq)));(refine aM ?_))
   refine aW (j:=n / 64) rfl rfl rfl hn (Nat.mul_one _) ⟨_,_,hux _ hgq⟩ rfl ?_
   repeat (refine TL.nil ?_)
   exact aS rfl yG rfl
  ·(refine aQ rfl rfl rfl ?_);( intro wq _ _ hgq;(repeat (refine aG rfl rfl ?_;intro vq hvq;try (obtain rfl:=hvq)));(refine aM ?_))
   refine aK rfl (hux2 _ hgq) rfl ?_
   repeat (refine TL.nil ?_)
   exact aS rfl yG rfl
  iterate 2
   ·(refine aQ rfl rfl rfl ?_);( intro wq _ _ hgq;(repeat (refine aG rfl rfl ?_;intro vq hvq;try (obtain rfl:=hvq)));(refine aM ?_))
    repeat (first|(refine aB ?_;refine TL.pure rfl rfl ?_)|refine TL.nil ?_|(refine TL.isRem ?_;refine TL.remU rfl rfl (by omega) rfl ?_))
    exact aS rfl yG rfl
  ·(refine aQ rfl rfl rfl ?_);( intro wq _ _ hgq;(repeat (refine aG rfl rfl ?_;intro vq hvq;try (obtain rfl:=hvq)));(refine aM ?_))
   refine TL.shlS (a:=1) (M:=18446744073709551616) rfl rfl rfl (by show n%64≤64;omega) (by rw [Nat.one_mul,hpw];exact hp64) rfl ?_
   rw [Nat.one_mul,hpw]
   repeat (refine TL.nil ?_)
   exact aS rfl yG rfl
  ·(refine aQ rfl rfl rfl ?_);( intro wq _ _ hgq;(repeat (refine aG rfl rfl ?_;intro vq hvq;try (obtain rfl:=hvq)));(refine aM ?_))
   refine TL.orN6 rfl rfl hx64 hp64 rfl ?_
   repeat (refine TL.nil ?_)
   exact aS rfl yG rfl
 ·intro w6 lo6 hi6 hg6 _ _
  ((repeat (refine aG rfl rfl ?_;intro vq hvq;try (obtain rfl:=hvq)));(refine aM ?_))
  refine aW (j:=n / 64) rfl rfl rfl hn (Nat.mul_one _) ⟨_,_,hux _ hg6⟩ rfl ?_
  rw [show at' (some ⟨u,0,none⟩) (n / 64)=⟨u,n / 64,none⟩ by rw [at_some,Nat.zero_add]]
  repeat (refine aJ ?_)
  refine bP rfl rfl (hu.grow hg6) rfl (by rw [fR];exact Nat.ble_eq_true_of_le hn) (ws64_set _ _ _) ?_
  intro w7 hu7 hb7 _
  repeat (refine TL.nil ?_)
  exact kB (vs:=[]) rfl rfl ⟨_,rfl,hb7,but_upd hu7 (but_grow' hg6)⟩
end Go.Proofs.YtfpadnmdafiddaaGreatDoor
