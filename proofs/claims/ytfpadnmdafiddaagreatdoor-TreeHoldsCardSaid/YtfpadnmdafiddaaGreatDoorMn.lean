import Derived.Test.YtfpadnmdafiddaaGreatDoorMi
set_option linter.all false
set_option maxHeartbeats 16000000
set_option maxRecDepth 100000
namespace Go.Proofs.YtfpadnmdafiddaaGreatDoor
structure PgOk (s:Pg):Prop where
 wl:s.words.length=(s.count+63) / 64
 w64:∀ x∈s.words,x<18446744073709551616
 top:∀ n,s.count≤n→(s.words.getD (n / 64) 0).testBit (n%64)=false
 cnt:s.count≤8192
structure Ext (s s':Pg):Prop where
 count:s'.count=s.count
 used:∀ k,dE s k=true→dE s' k=true∧s'.body k=s.body k
theorem Ext.refl (s:Pg):Ext s s:=⟨rfl,λ _ h=>⟨h,rfl⟩⟩
theorem Ext.trans {a b c:Pg} (h:Ext a b) (k:Ext b c):Ext a c :=
 ⟨k.count.trans h.count,λ n hn=>⟨(k.used n (h.used n hn).1).1,((k.used n (h.used n hn).1).2).trans (h.used n hn).2⟩⟩
theorem Ext.node {s s':Pg} (h:Ext s s') {n:Nat} {nd:Nd} (hn:dR s n=some nd):dR s' n=some nd:=by
 unfold dR at *
 split at hn
 ·rename_i hu
  rw [if_pos (h.used n hu).1,(h.used n hu).2]
  exact hn
 ·cases hn
theorem gE {α : Type} (p : α→Bool):∀ l:List α,(l.takeWhile p).length≤l.length
 | []=>Nat.le_refl _
 | a::l=>by
  rw [List.takeWhile_cons]
  split
  ·exact Nat.succ_le_succ (gE p l)
  ·simp
theorem takeWhile_at {α : Type} (p : α→Bool):∀ (l:List α) (x : α),l[(l.takeWhile p).length]? = some x→p x=false
 | [],x,h=>by simp at h
 | a::l,x,h=>by
  rw [List.takeWhile_cons] at h
  split at h
  ·simp only [List.length_cons,List.getElem?_cons_succ] at h
   exact takeWhile_at p l x h
  ·rename_i ha
   simp at h
   subst h
   simpa using ha
theorem jP {α : Type} (p : α→Bool):∀ (l:List α) (i:Nat) (x : α),i<(l.takeWhile p).length→l[i]? = some x→p x=true
 | [],i,x,h,_=>by simp at h
 | a::l,i,x,h,hx=>by
  rw [List.takeWhile_cons] at h
  split at h
  ·rename_i ha
   cases i with
   | zero=>simp at hx;subst hx;exact ha
   | succ i=>exact jP p l i x (by simpa using h) (by simpa using hx)
  ·simp at h
theorem lowP_le (s:Pg):lowP s≤s.count:=by
 have:=gE (λ n=>dE s n) (List.range s.count)
 simpa [lowP] using this
theorem lowP_free {s:Pg} (h:lowP s≠s.count):lowP s<s.count∧dE s (lowP s)=false:=by
 have hl:=lowP_le s
 have hlt:lowP s<s.count:=by omega
 refine ⟨hlt,takeWhile_at (λ n=>dE s n) (List.range s.count) (lowP s) ?_⟩
 rw [show ((List.range s.count).takeWhile λ n=>dE s n).length=lowP s from rfl]
 simp [hlt]
theorem lowP_used {s:Pg} {k:Nat} (h:k<lowP s):dE s k=true:=by
 have hl:=lowP_le s
 exact jP (λ n=>dE s n) (List.range s.count) k k h (List.getElem?_range (by omega))
theorem cnt_add (p:Nat→Bool) (n:Nat) (hp:p n=false):∀ N,((List.range N).filter λ k=>k==n || p k).length=((List.range N).filter p).length+if n<N then 1 else 0
 | 0=>rfl
 | N+1=>by
  have ih:=cnt_add p n hp N
  simp only [List.range_succ,List.filter_append,List.length_append,ih]
  by_cases h1:N=n
  ·subst h1
   simp [hp]
  ·have h2:(N==n)=false:=by simpa using h1
   by_cases h3:n<N
   ·rw [if_pos h3,if_pos (by omega)]
    cases hN:p N<;>simp [List.filter,h2,hN]
   ·rw [if_neg h3,if_neg (by omega)]
    cases hN:p N<;>simp [List.filter,h2,hN]
theorem totalP_le (s:Pg):gT s≤s.count:=by
 have:=List.length_filter_le (λ n=>dE s n) (List.range s.count)
 simpa [gT] using this
theorem totalP_full {s:Pg} (h:lowP s=s.count):gT s=s.count:=by
 unfold gT
 rw [List.filter_eq_self.2 (λ k hk=>lowP_used (s:=s) (by rw [h];exact List.mem_range.1 hk))]
 simp
theorem testBit_or_pow (x i j:Nat):(x|||2^i).testBit j=(x.testBit j || decide (i=j)):=by
 rw [Nat.testBit_or,Nat.testBit_two_pow]
theorem divmod64 {a b:Nat}:(a / 64=b / 64∧a%64=b%64)↔a=b:=by omega
theorem markW_bit (l:List Nat) (n k:Nat) (hn:n / 64<l.length):((hU l n).getD (k / 64) 0).testBit (k%64)=(decide (k=n) || (l.getD (k / 64) 0).testBit (k%64)):=by
 unfold hU
 rw [List.getD_eq_getElem?_getD,List.getElem?_set]
 by_cases h:n / 64=k / 64
 ·rw [if_pos h,if_pos hn]
  simp only [Option.getD_some]
  rw [testBit_or_pow,← h]
  by_cases h2:n%64=k%64
  ·have:k=n:=divmod64.1 ⟨h.symm,h2.symm⟩
   simp [this]
  ·have:k≠n:=λ e=>h2 (by rw [e])
   simp [h2,this]
 ·rw [if_neg h,← List.getD_eq_getElem?_getD]
  have:k≠n:=λ e=>h (by rw [e])
  simp [this]
theorem used_div {s:Pg} (hs:PgOk s) {n:Nat} (hn:n<s.count):n / 64<s.words.length:=by rw [hs.wl];omega
structure New (s s':Pg) (n:Nat) (b:Bs):Prop where
 free:dE s n=false
 lt:n<s.count
 count:s'.count=s.count
 used:∀ k,dE s' k=(decide (k=n) || dE s k)
 body:s'.body n=padB b
 other:∀ k,k≠n→s'.body k=s.body k
 ok:PgOk s'
 spare:bZ s'+1=bZ s
theorem New.ext {s s':Pg} {n:Nat} {b:Bs} (h:New s s' n b):Ext s s' :=
 ⟨h.count,λ k hk=>⟨by rw [h.used,hk];simp,h.other k λ e=>by rw [e,h.free] at hk;cases hk⟩⟩
theorem newP_new {s s':Pg} {n:Nat} {b:Bs} (hs:PgOk s) (h:newP s b=some (n,s')):New s s' n b:=by
 unfold newP at h
 simp only at h
 split at h
 ·cases h
 ·rename_i hne
  simp only [Option.some.injEq,Prod.mk.injEq] at h
  obtain ⟨hn,rfl⟩:=h
  obtain ⟨h1,h2⟩:=lowP_free hne
  rw [hn] at h1 h2
  have hd:=used_div hs h1
  have hu:∀ k,dE { s with words:=hU s.words n,body:=λ k=>if k=n then padB b else s.body k } k=(decide (k=n) || dE s k):=by
   intro k
   unfold dE
   simp only
   rw [markW_bit _ _ _ hd]
   by_cases hk:k=n
   ·subst hk;simp [h1]
   ·simp [hk]
  rw [hn]
  refine ⟨h2,h1,rfl,hu,by simp,λ k hk=>by simp [hk],⟨?_,?_,?_,hs.cnt⟩,?_⟩
  ·simp [hU,hs.wl]
  ·intro x hx
   unfold hU at hx
   rcases List.mem_or_eq_of_mem_set hx with hx|rfl
   ·exact hs.w64 x hx
   ·have h5:s.words.getD (n / 64) 0<2^64:=by
     rw [List.getD_eq_getElem?_getD,List.getElem?_eq_getElem hd]
     exact hs.w64 _ (List.getElem_mem hd)
    have h6:2^(n%64)<2^64:=Nat.pow_lt_pow_right (by decide) (Nat.mod_lt _ (by decide))
    exact Nat.or_lt_two_pow h5 h6
  ·intro k hk
   simp only at hk ⊢
   rw [markW_bit _ _ _ hd,hs.top k hk]
   have:k≠n:=by omega
   simp [this]
  ·have ht:gT { s with words:=hU s.words n,body:=λ k=>if k=n then padB b else s.body k }=gT s+1:=by
    unfold gT
    simp only
    have:=cnt_add (λ k=>dE s k) n h2 s.count
    rw [if_pos h1] at this
    rw [← this]
    congr 1
    apply List.filter_congr
    intro k _
    rw [hu k]
    by_cases hk:k=n<;>simp [hk]
   have h7:gT s+1≤s.count:=by
    rw [← ht]
    exact totalP_le _
   unfold bZ
   rw [ht]
   simp only
   omega
theorem newP_some {s:Pg} (b:Bs) (h:0<bZ s):∃ n s',newP s b=some (n,s'):=by
 unfold newP
 simp only
 split
 ·rename_i hc
  have:=totalP_full hc
  unfold bZ at h
  omega
 ·exact ⟨_,_,rfl⟩
theorem length_word4s:∀ l:List Nat,(l.flatMap fW).length=4*l.length
 | []=>rfl
 | x::l=>by simp [List.flatMap_cons,length_word4s l,fW];omega
theorem jE (p:Bs) (h:p.length≤100):(jN p).length=p.length+1:=by
 unfold jN
 rw [List.length_append,length_encL]
 have:sz p.length=1:=by
  unfold sz
  have:bl p.length≤7:=bl_le (k:=7) (by show p.length<128;omega)
  omega
 omega
theorem length_bytesN {n:Nd} (h:cE n=true):(fN n).length≤500:=by
 have e1:∀ (l:dO),(∀ x∈l,x.1.length≤16∧x.2.length≤32)→(l.flatMap λ x=>jN x.1++jN x.2).length≤50*l.length:=by
  intro l
  induction l with
  | nil=>intro _;simp
  | cons x l ih =>
   intro hl
   have h1:=ih λ y hy=>hl y (List.mem_cons_of_mem _ hy)
   have h2:=hl x (by simp)
   have h3:=jE x.1 (by omega)
   have h4:=jE x.2 (by omega)
   simp only [List.flatMap_cons,List.length_append,List.length_cons]
   omega
 have e2:∀ (l:List Bs),(∀ x∈l,x.length≤16)→(l.flatMap jN).length≤17*l.length:=by
  intro l
  induction l with
  | nil=>intro _;simp
  | cons x l ih =>
   intro hl
   have h1:=ih λ y hy=>hl y (List.mem_cons_of_mem _ hy)
   have h2:=hl x (by simp)
   have h3:=jE x (by omega)
   simp only [List.flatMap_cons,List.length_append,List.length_cons]
   omega
 unfold cE at h
 unfold fN
 split at h
 ·rename_i hl
  obtain ⟨h1,h2,h3⟩:=dL h
  rw [if_pos hl]
  have:=e1 n.items λ x hx=>⟨(gJ (mB h3 hx).1).2,jA (mB h3 hx).2⟩
  simp only [List.length_append,List.length_cons,List.length_nil]
  omega
 ·rename_i hl
  obtain ⟨h1,h2,h3,h4,h5,h6⟩:=cT h
  rw [if_neg hl]
  have:=e2 n.keys λ x hx=>(gJ (key_ok' h6 hx)).2
  have:=length_word4s n.kids
  simp only [List.length_append,List.length_cons,List.length_nil]
  omega
structure Wrote (s s':Pg) (n:Nat) (nd:Nd):Prop where
 ext:Ext s s'
 free:dE s n=false
 used:∀ k,dE s' k=(decide (k=n) || dE s k)
 lt:n<s.count
 node:dR s' n=some nd
 ok:PgOk s'
 spare:bZ s'+1=bZ s
theorem writeP_wrote {s s':Pg} {n:Nat} {nd:Nd} (hs:PgOk s) (h:gB s nd=some (n,s')):Wrote s s' n nd∧cE nd=true:=by
 unfold gB at h
 split at h
 ·rename_i hk
  have hn:=newP_new hs h
  refine ⟨⟨hn.ext,hn.free,hn.used,hn.lt,?_,hn.ok,hn.spare⟩,hk⟩
  unfold dR
  rw [if_pos (by rw [hn.used];simp),hn.body]
  exact readN_bytes hk _
 ·cases h
theorem fE {s:Pg} {nd:Nd} (hs:PgOk s) (h:0<bZ s) (hk:cE nd=true):∃ n s',gB s nd=some (n,s')∧Wrote s s' n nd:=by
 obtain ⟨n,s',e⟩:=newP_some (fN nd) h
 have e2:gB s nd=some (n,s'):=by unfold gB;rw [if_pos hk];exact e
 exact ⟨n,s',e2,(writeP_wrote hs e2).1⟩
end Go.Proofs.YtfpadnmdafiddaaGreatDoor
namespace Go.Proofs.YtfpadnmdafiddaaGreatDoor
structure Sb where
 page:Nat
 its:dO
 ps:List Nat
inductive Tok where
 | T (x:Sb)
 | K (k:Bs)
def RT:Tok→Tok→Prop
 | .T x,.T y=>∀ a∈x.its,∀ b∈y.its,hX a.1 b.1
 | .T x,.K k=>∀ a∈x.its,hX a.1 k
 | .K k,.T y=>∀ b∈y.its,kle k b.1
 | .K k,.K l=>hX k l
def tb:Tok→Bs→Prop
 | .T x,a=>∀ y∈x.its,hX y.1 a
 | .K k,a=>kle k a
def ta:Bs→Tok→Prop
 | a,.T x=>∀ y∈x.its,hX a y.1
 | a,.K k=>hX a k
theorem RT_K {t u:Tok} {k:Bs} (h:RT t (.K k)) (g:RT (.K k) u):RT t u:=by
 cases t<;>cases u<;>simp only [RT] at *
 ·exact λ a ha b hb=>kW (h a ha) (g b hb)
 ·exact λ a ha=>gI (h a ha) g
 ·exact λ b hb=>kX (kW h (g b hb))
 ·exact gI h g
theorem RT_T {t:Tok} {x:Sb}:RT t (.T x)↔∀ a∈x.its,tb t a.1:=by
 cases t<;>simp only [RT,tb]
 exact ⟨λ h b hb a ha=>h a ha b hb,λ h a ha b hb=>h b hb a ha⟩
theorem T_RT {u:Tok} {x:Sb}:RT (.T x) u↔∀ a∈x.its,ta a.1 u:=by
 cases u<;>simp only [RT,ta]
theorem tb_K {t:Tok} {a k:Bs} (h:tb t a) (g:hX a k):RT t (.K k):=by
 cases t<;>simp only [RT,tb] at *
 ·exact λ y hy=>gI (h y hy) g
 ·exact klt_of_le h g
theorem K_ta {u:Tok} {a k:Bs} (h:ta a u) (g:kle k a):RT (.K k) u:=by
 cases u<;>simp only [RT,ta] at *
 ·exact λ y hy=>kX (klt_of_le g (h y hy))
 ·exact klt_of_le g h
theorem tb_of_K {t:Tok} {k a:Bs} (h:RT t (.K k)) (g:kle k a):tb t a:=by
 cases t<;>simp only [RT,tb] at *
 ·exact λ y hy=>kW (h y hy) g
 ·exact kX (kW h g)
theorem ta_of_K {u:Tok} {k a:Bs} (h:RT (.K k) u) (g:hX a k):ta a u:=by
 cases u<;>simp only [RT,ta] at *
 ·exact λ y hy=>kW g (h y hy)
 ·exact gI g h
def KT:List Bs→List Sb→List Tok
 | k::ks,x::r=>.K k::.T x::KT ks r
 | _,_=>[]
def toks:List Sb→List Bs→List Tok
 | x::r,ks=>.T x::KT ks r
 | [],_=>[]
def TK:List Sb→List Bs→List Tok
 | x::r,k::ks=>.T x::.K k::TK r ks
 | _,_=>[]
theorem toks_left:∀ {la:List Sb} {ka:List Bs} {ls:List Sb} {ks:List Bs},la.length=ka.length→ls≠[]→toks (la++ls) (ka++ks)=TK la ka++toks ls ks
 | [],[],ls,ks,_,_=>rfl
 | [],_::_,_,_,h,_=>by cases h
 | _::_,[],_,_,h,_=>by cases h
 | y::la,k::ka,ls,ks,h,hn=>by
  have ih:=toks_left (la:=la) (ka:=ka) (ls:=ls) (ks:=ks) (by simpa using h) hn
  cases hz:la++ls with
  | nil=>simp at hz;exact absurd hz.2 hn
  | cons z zs =>
   rw [hz] at ih
   have e:toks ((y::la)++ls) ((k::ka)++ks)=Tok.T y::Tok.K k::toks (z::zs) (ka++ks):=by simp only [List.cons_append,toks,hz,KT]
   rw [e,ih]
   rfl
theorem KT_right:∀ {ur:List Sb} {uk:List Bs} {lb:List Sb} {kb:List Bs},ur.length=uk.length→KT (uk++kb) (ur++lb)=KT uk ur++KT kb lb
 | [],[],lb,kb,_=>rfl
 | [],_::_,_,_,h=>by cases h
 | _::_,[],_,_,h=>by cases h
 | y::la,k::ka,ls,ks,h=>by
  simp only [List.cons_append,KT]
  rw [KT_right (by simpa using h)]
theorem toks_right {us:List Sb} {uk:List Bs} {lb:List Sb} {kb:List Bs} (h:us.length=uk.length+1):toks (us++lb) (uk++kb)=toks us uk++KT kb lb:=by
 cases us with
 | nil=>cases h
 | cons x r =>
  simp only [List.cons_append,toks]
  rw [KT_right (by simpa using h)]
theorem toks_mid {la us lb:List Sb} {ka uk kb:List Bs} (h1:la.length=ka.length) (h2:us.length=uk.length+1):toks (la++us++lb) (ka++uk++kb)=TK la ka++toks us uk++KT kb lb:=by
 have hn:us++lb≠[]:=by
  cases us with
  | nil=>cases h2
  | cons _ _=>simp
 rw [List.append_assoc,List.append_assoc,toks_left h1 hn,toks_right h2,List.append_assoc]
theorem toks_join {la lb:List Sb} {ka kb:List Bs} {k:Bs} (h1:la.length=ka.length+1) (h2:lb≠[]):toks (la++lb) (ka++k::kb)=toks la ka++.K k::toks lb kb:=by
 rw [toks_right h1]
 cases lb with
 | nil=>exact absurd rfl h2
 | cons x r=>rfl
theorem mem_toks {t:Tok}:∀ {ls:List Sb} {ks:List Bs},t∈toks ls ks→(∃ x∈ls,t=.T x)∨∃ k∈ks,t=.K k:=by
 have key:∀ {ks:List Bs} {ls:List Sb},t∈KT ks ls→(∃ x∈ls,t=.T x)∨∃ k∈ks,t=.K k:=by
  intro ks
  induction ks with
  | nil=>intro ls h;simp [KT] at h
  | cons k ks ih =>
   intro ls h
   cases ls with
   | nil=>simp [KT] at h
   | cons x r =>
    simp only [KT,List.mem_cons] at h
    rcases h with rfl|rfl|h
    ·exact .inr ⟨k,by simp,rfl⟩
    ·exact .inl ⟨x,by simp,rfl⟩
    ·rcases ih h with ⟨y,hy,e⟩|⟨y,hy,e⟩
     ·exact .inl ⟨y,List.mem_cons_of_mem _ hy,e⟩
     ·exact .inr ⟨y,List.mem_cons_of_mem _ hy,e⟩
 intro ls ks h
 cases ls with
 | nil=>simp [toks] at h
 | cons x r =>
  simp only [toks,List.mem_cons] at h
  rcases h with rfl|h
  ·exact .inl ⟨x,by simp,rfl⟩
  ·rcases key h with ⟨y,hy,e⟩|⟨y,hy,e⟩
   ·exact .inl ⟨y,List.mem_cons_of_mem _ hy,e⟩
   ·exact .inr ⟨y,hy,e⟩
theorem T_mem_KT {x:Sb}:∀ {ks:List Bs} {ls:List Sb},ls.length=ks.length→x∈ls→Tok.T x∈KT ks ls
 | [],[],_,hx=>by cases hx
 | [],_::_,h,_=>by cases h
 | _::_,[],h,_=>by cases h
 | k::ks,y::r,h,hx=>by
  simp only [KT,List.mem_cons]
  rcases List.mem_cons.1 hx with rfl|hx
  ·exact .inr (.inl rfl)
  ·exact .inr (.inr (T_mem_KT (by simpa using h) hx))
theorem T_mem {x:Sb}:∀ {ls:List Sb} {ks:List Bs},ls.length=ks.length+1→x∈ls→Tok.T x∈toks ls ks
 | [],_,_,hx=>by cases hx
 | y::r,ks,h,hx=>by
  simp only [toks,List.mem_cons]
  rcases List.mem_cons.1 hx with rfl|hx
  ·exact .inl rfl
  ·exact .inr (T_mem_KT (by simpa using h) hx)
theorem K_mem {k:Bs}:∀ {ls:List Sb} {ks:List Bs},ls.length=ks.length+1→k∈ks→Tok.K k∈toks ls ks:=by
 have key:∀ {ks:List Bs} {ls:List Sb},ls.length=ks.length→k∈ks→Tok.K k∈KT ks ls:=by
  intro ks
  induction ks with
  | nil=>intro ls h hx;cases hx
  | cons k' ks ih =>
   intro ls h hx
   cases ls with
   | nil=>cases h
   | cons y r =>
    simp only [KT,List.mem_cons]
    rcases List.mem_cons.1 hx with rfl|hx
    ·exact .inl rfl
    ·exact .inr (.inr (ih (by simpa using h) hx))
 intro ls ks h hx
 cases ls with
 | nil=>cases h
 | cons y r =>
  simp only [toks,List.mem_cons]
  exact .inr (key (by simpa using h) hx)
theorem key_between {ls:List Sb} {ks:List Bs} (hl:ls.length=ks.length+1) (hp:(toks ls ks).Pairwise RT) (hn:∀ x∈ls,x.its≠[]) {k:Bs} (hk:k∈ks) :
  (∃ a∈ls.flatMap (·.its),hX a.1 k)∧∃ b∈ls.flatMap (·.its),kle k b.1:=by
 obtain ⟨ka,kb,rfl⟩:=List.append_of_mem hk
 have hl2:ls.length=ka.length+1+kb.length+1:=by simp at hl;omega
 obtain ⟨la,lb,rfl,hla⟩:∃ la lb,ls=la++lb∧la.length=ka.length+1:=⟨ls.take (ka.length+1),ls.drop (ka.length+1),(List.take_append_drop _ _).symm,by simp;omega⟩
 have hlb:lb.length=kb.length+1:=by simp at hl2;omega
 have hb0:lb≠[]:=by intro e;subst e;cases hlb
 rw [toks_join hla hb0] at hp
 obtain ⟨p1,p2,p3⟩:=List.pairwise_append.1 hp
 obtain ⟨p4,p5⟩:=List.pairwise_cons.1 p2
 have ha0:la≠[]:=by intro e;subst e;cases hla
 obtain ⟨x,hx⟩:=List.exists_mem_of_ne_nil _ ha0
 obtain ⟨y,hy⟩:=List.exists_mem_of_ne_nil _ hb0
 obtain ⟨a,ha⟩:=List.exists_mem_of_ne_nil _ (hn x (by simp [hx]))
 obtain ⟨b,hb⟩:=List.exists_mem_of_ne_nil _ (hn y (by simp [hy]))
 have r1:=p3 (.T x) (T_mem hla hx) (.K k) (by simp)
 have r2:=p4 (.T y) (T_mem hlb hy)
 refine ⟨⟨a,List.mem_flatMap.2 ⟨x,by simp [hx],ha⟩,r1 a ha⟩,⟨b,List.mem_flatMap.2 ⟨y,by simp [hy],hb⟩,r2 b hb⟩⟩
theorem before_all {t:Tok} {ls:List Sb} {ks:List Bs} (hl:ls.length=ks.length+1) (hp:(toks ls ks).Pairwise RT) (hn:∀ x∈ls,x.its≠[]) (h:∀ a∈ls.flatMap (·.its),tb t a.1):∀ u∈toks ls ks,RT t u:=by
 intro u hu
 rcases mem_toks hu with ⟨x,hx,rfl⟩|⟨k,hk,rfl⟩
 ·exact RT_T.2 λ a ha=>h a (List.mem_flatMap.2 ⟨x,hx,ha⟩)
 ·obtain ⟨⟨a,ha,h1⟩,_⟩:=key_between hl hp hn hk
  exact tb_K (h a ha) h1
theorem after_all {t:Tok} {ls:List Sb} {ks:List Bs} (hl:ls.length=ks.length+1) (hp:(toks ls ks).Pairwise RT) (hn:∀ x∈ls,x.its≠[]) (h:∀ a∈ls.flatMap (·.its),ta a.1 t):∀ u∈toks ls ks,RT u t:=by
 intro u hu
 rcases mem_toks hu with ⟨x,hx,rfl⟩|⟨k,hk,rfl⟩
 ·exact T_RT.2 λ a ha=>h a (List.mem_flatMap.2 ⟨x,hx,ha⟩)
 ·obtain ⟨_,b,hb,h1⟩:=key_between hl hp hn hk
  exact K_ta (h b hb) h1
theorem splice_ok {la us lb:List Sb} {ka uk kb:List Bs} {old:List Tok} (hp:(TK la ka++old++KT kb lb).Pairwise RT) (h2:us.length=uk.length+1) (hu:(toks us uk).Pairwise RT) (hn:∀ x∈us,x.its≠[])
  (hb:∀ t∈TK la ka,∀ a∈us.flatMap (·.its),tb t a.1) (ha:∀ t∈KT kb lb,∀ a∈us.flatMap (·.its),ta a.1 t):(TK la ka++toks us uk++KT kb lb).Pairwise RT:=by
 obtain ⟨p1,p2,p3⟩:=List.pairwise_append.1 hp
 obtain ⟨p4,p5,p6⟩:=List.pairwise_append.1 p1
 refine List.pairwise_append.2 ⟨List.pairwise_append.2 ⟨p4,hu,λ t ht u hu'=>before_all h2 hu hn (hb t ht) u hu'⟩,p2,λ u hu' t ht=>?_⟩
 rcases List.mem_append.1 hu' with h|h
 ·exact p3 u (List.mem_append_left _ h) t ht
 ·exact after_all h2 hu hn (ha t ht) u h
theorem join_ok {la lb:List Sb} {ka kb:List Bs} {k:Bs} (h1:la.length=ka.length+1) (h2:lb.length=kb.length+1) (hp:(toks la ka).Pairwise RT) (hq:(toks lb kb).Pairwise RT) (hn:∀ x∈la,x.its≠[]) (hm:∀ x∈lb,x.its≠[])
  (ha:∀ a∈la.flatMap (·.its),hX a.1 k) (hb:∀ b∈lb.flatMap (·.its),kle k b.1):(toks (la++lb) (ka++k::kb)).Pairwise RT:=by
 have hb0:lb≠[]:=by intro e;subst e;cases h2
 rw [toks_join h1 hb0]
 have r1:∀ u∈toks la ka,RT u (.K k):=after_all h1 hp hn (λ a h=>ha a h)
 have r2:∀ u∈toks lb kb,RT (.K k) u:=before_all h2 hq hm (λ a h=>hb a h)
 refine List.pairwise_append.2 ⟨hp,List.pairwise_cons.2 ⟨r2,hq⟩,λ u hu t ht=>?_⟩
 rcases List.mem_cons.1 ht with rfl|ht
 ·exact r1 u hu
 ·exact RT_K (r1 u hu) (r2 t ht)
def Vt (s:Pg):Nat→Nd→dO→List Nat→Prop
 | 0,nd,l,ps=>nd=⟨l,[],[]⟩∧ps=[]∧Srt l∧∀ x∈l,dB x.1=true∧fR x.2=true
 | h+1,nd,l,ps=>∃ ls:List Sb,nd.items=[]∧nd.kids=ls.map (·.page)∧ls.length=nd.keys.length+1∧(toks ls nd.keys).Pairwise RT∧(∀ k∈nd.keys,dB k=true) ∧
  l=ls.flatMap (·.its)∧ps=ls.flatMap (λ x=>x.page::x.ps)∧∀ x∈ls,∃ nd',dR s x.page=some nd'∧4≤bJ nd'∧Vt s h nd' x.its x.ps
theorem Vt.ext {s s':Pg} (hx:Ext s s'):∀ {h:Nat} {nd:Nd} {l:dO} {ps:List Nat},Vt s h nd l ps→Vt s' h nd l ps
 | 0,_,_,_,h=>h
 | h+1,nd,l,ps,⟨ls,h1,h2,h3,h4,h5,h6,h7,h8⟩=>⟨ls,h1,h2,h3,h4,h5,h6,h7,λ x hx2=>by
  obtain ⟨nd',g1,g2,g3⟩:=h8 x hx2
  exact ⟨nd',hx.node g1,g2,g3.ext hx⟩⟩
theorem Vt.items {s:Pg}:∀ {h:Nat} {nd:Nd} {l:dO} {ps:List Nat},Vt s h nd l ps→∀ x∈l,dB x.1=true∧fR x.2=true
 | 0,_,_,_,h=>h.2.2.2
 | h+1,nd,l,ps,⟨ls,h1,h2,h3,h4,h5,h6,h7,h8⟩=>by
  subst h6
  intro x hx
  obtain ⟨y,hy,hxy⟩:=List.mem_flatMap.1 hx
  obtain ⟨nd',g1,g2,g3⟩:=h8 y hy
  exact g3.items x hxy
theorem Vt.ne {s:Pg}:∀ {h:Nat} {nd:Nd} {l:dO} {ps:List Nat},Vt s h nd l ps→1≤bJ nd→l≠[]
 | 0,_,_,_,h,hs=>by
  obtain ⟨rfl,rfl,_⟩:=h
  intro e;subst e;simp [bJ] at hs
 | h+1,nd,l,ps,⟨ls,h1,h2,h3,h4,h5,h6,h7,h8⟩,hs=>by
  subst h6
  cases ls with
  | nil=>cases h3
  | cons x r =>
   obtain ⟨nd',g1,g2,g3⟩:=h8 x (by simp)
   have:=g3.ne (by omega)
   intro e
   simp only [List.flatMap_cons,List.append_eq_nil_iff] at e
   exact this e.1
theorem Vt.same {s:Pg}:∀ {h:Nat} {nd:Nd} {l l':dO} {ps ps':List Nat},Vt s h nd l ps→Vt s h nd l' ps'→l=l'∧ps=ps'
 | 0,_,_,_,_,_,h,k=>by
  obtain ⟨e1,e2,_⟩:=h
  obtain ⟨e3,e4,_⟩:=k
  rw [e1] at e3
  simp only [Nd.mk.injEq,and_true] at e3
  exact ⟨e3,e2.trans e4.symm⟩
 | h+1,nd,l,l',ps,ps',⟨ls,h1,h2,h3,h4,h5,h6,h7,h8⟩,⟨ls',k1,k2,k3,k4,k5,k6,k7,k8⟩=>by
  have e:ls=ls':=by
   rw [h2] at k2
   clear h1 h2 h3 h4 h5 h6 h7 k1 k3 k4 k5 k6 k7
   induction ls generalizing ls' with
   | nil=>cases ls' with
    | nil=>rfl
    | cons _ _=>simp at k2
   | cons x r ih=>cases ls' with
    | nil=>simp at k2
    | cons y r' =>
     simp only [List.map_cons,List.cons.injEq] at k2
     obtain ⟨nd1,g1,g2,g3⟩:=h8 x (by simp)
     obtain ⟨nd2,g4,g5,g6⟩:=k8 y (by simp)
     rw [← k2.1,g1] at g4
     cases g4
     obtain ⟨e1,e2⟩:=g3.same g6
     have exy:x=y:=by
      cases x;cases y
      simp only at k2 e1 e2 ⊢
      rw [k2.1,e1,e2]
     rw [exy,ih (λ z hz=>h8 z (List.mem_cons_of_mem _ hz)) r' k2.2 (λ z hz=>k8 z (List.mem_cons_of_mem _ hz))]
  subst e
  exact ⟨h6.trans k6.symm,h7.trans k7.symm⟩
theorem srt_KT:∀ {ks:List Bs} {ls:List Sb},ls.length=ks.length→(KT ks ls).Pairwise RT→(∀ x∈ls,Srt x.its)→Srt (ls.flatMap (·.its))
 | [],[],_,_,_=>List.Pairwise.nil
 | [],_::_,h,_,_=>by cases h
 | _::_,[],h,_,_=>by cases h
 | k::ks,x::r,h,hp,hs=>by
  simp only [KT] at hp
  obtain ⟨h3,h4⟩:=List.pairwise_cons.1 (List.pairwise_cons.1 hp).2
  have hr:r.length=ks.length:=by simpa using h
  simp only [List.flatMap_cons]
  refine List.pairwise_append.2 ⟨hs x (by simp),srt_KT hr h4 (λ y hy=>hs y (List.mem_cons_of_mem _ hy)),λ a ha b hb=>?_⟩
  obtain ⟨y,hy,hby⟩:=List.mem_flatMap.1 hb
  exact h3 _ (T_mem_KT hr hy) a ha b hby
theorem srt_flat {ls:List Sb} {ks:List Bs} (hl:ls.length=ks.length+1) (hp:(toks ls ks).Pairwise RT) (hs:∀ x∈ls,Srt x.its):Srt (ls.flatMap (·.its)):=by
 cases ls with
 | nil=>exact List.Pairwise.nil
 | cons x r =>
  simp only [toks] at hp
  obtain ⟨h3,h4⟩:=List.pairwise_cons.1 hp
  have hr:r.length=ks.length:=by simpa using hl
  simp only [List.flatMap_cons]
  refine List.pairwise_append.2 ⟨hs x (by simp),srt_KT hr h4 (λ y hy=>hs y (List.mem_cons_of_mem _ hy)),λ a ha b hb=>?_⟩
  obtain ⟨y,hy,hby⟩:=List.mem_flatMap.1 hb
  exact h3 _ (T_mem_KT hr hy) a ha b hby
theorem Vt.srt {s:Pg}:∀ {h:Nat} {nd:Nd} {l:dO} {ps:List Nat},Vt s h nd l ps→Srt l
 | 0,_,_,_,h=>h.2.2.1
 | h+1,nd,l,ps,⟨ls,h1,h2,h3,h4,h5,h6,h7,h8⟩=>by
  subst h6
  refine srt_flat h3 h4 λ x hx=>?_
  obtain ⟨nd',g1,g2,g3⟩:=h8 x hx
  exact g3.srt
end Go.Proofs.YtfpadnmdafiddaaGreatDoor
namespace Go.Proofs.YtfpadnmdafiddaaGreatDoor
theorem iN {s:Pg} {n:Nat} {nd:Nd} (h:dR s n=some nd):cE nd=true:=by
 unfold dR at h
 split at h
 ·exact readN_ok h
 ·cases h
theorem eT {s:Pg} {n:Nat} {nd:Nd} (h:dR s n=some nd):dE s n=true:=by
 unfold dR at h
 split at h
 ·assumption
 ·cases h
theorem fH {s:Pg} {n:Nat} (h:dE s n=true):n<s.count:=by
 simp only [dE,Bool.and_eq_true,decide_eq_true_eq] at h
 exact h.1
theorem leaf_ok {l:dO} (hs:Srt l) (hk:∀ x∈l,dB x.1=true∧fR x.2=true) (h8:l.length≤8):cE ⟨l,[],[]⟩=true:=by
 unfold cE
 rw [if_pos (by rfl)]
 simp only [wholeL,Bool.and_eq_true,decide_eq_true_eq,List.isEmpty_nil,true_and]
 refine ⟨h8,mW λ i hi=>?_⟩
 have h1:=hk _ (List.getElem_mem hi)
 cases i with
 | zero=>simp only [iB,List.getElem?_eq_getElem hi,h1.1,h1.2,Bool.and_self]
 | succ j =>
  have hj:j<l.length:=by omega
  have h2:=(List.pairwise_iff_getElem.1 hs) j (j+1) hj hi (by omega)
  simp only [iB,List.getElem?_eq_getElem hi,List.getElem?_eq_getElem hj,h1.1,h1.2,Bool.and_self,Bool.true_and,decide_eq_true_eq]
  exact h2
theorem keys_at {l:List Bs} (hs:l.Pairwise hX) (hk:∀ x∈l,dB x=true):gM (jO l) l.length=true:=by
 refine mW λ i hi=>?_
 have h1:=hk _ (List.getElem_mem hi)
 cases i with
 | zero=>simp only [jO,List.getElem?_eq_getElem hi,h1,Bool.and_self]
 | succ j =>
  have hj:j<l.length:=by omega
  have h2:=(List.pairwise_iff_getElem.1 hs) j (j+1) hj hi (by omega)
  simp only [jO,List.getElem?_eq_getElem hi,List.getElem?_eq_getElem hj,h1,Bool.true_and,decide_eq_true_eq]
  exact h2
theorem kids_at {l:List Nat} (hn:l.Nodup) (hk:∀ x∈l,x<2147483648):gM (kK l) l.length=true:=by
 refine mW λ i hi=>?_
 have h1:=hk _ (List.getElem_mem hi)
 simp only [kK,List.getElem?_eq_getElem hi,Bool.and_eq_true,decide_eq_true_eq,Bool.not_eq_true',h1,true_and]
 rw [← Bool.not_eq_true,List.contains_iff_mem]
 intro hm
 obtain ⟨j,hj,e⟩:=List.mem_take_iff_getElem.1 hm
 have:=(List.pairwise_iff_getElem.1 hn) j i (by omega) hi (by omega)
 exact this e
theorem KT_keys:∀ {ks:List Bs} {ls:List Sb},ls.length=ks.length→(KT ks ls).Pairwise RT→ks.Pairwise hX
 | [],_,_,_=>List.Pairwise.nil
 | k::ks,[],h,_=>by cases h
 | k::ks,x::r,h,hp=>by
  simp only [KT] at hp
  obtain ⟨h1,h2⟩:=List.pairwise_cons.1 hp
  have hr:r.length=ks.length:=by simpa using h
  refine List.pairwise_cons.2 ⟨λ l hl=>?_,KT_keys hr (List.pairwise_cons.1 h2).2⟩
  have:Tok.K l∈KT ks r:=by
   have:=K_mem (ls:=x::r) (ks:=ks) (by simpa using h) hl
   simp only [toks,List.mem_cons] at this
   rcases this with e|e
   ·cases e
   ·exact e
  exact h1 (.K l) (by simp [this])
theorem toks_keys {ls:List Sb} {ks:List Bs} (h:ls.length=ks.length+1) (hp:(toks ls ks).Pairwise RT):ks.Pairwise hX:=by
 cases ls with
 | nil=>cases h
 | cons x r =>
  simp only [toks] at hp
  exact KT_keys (by simpa using h) (List.pairwise_cons.1 hp).2
theorem pages_nodup {s:Pg} {h:Nat}:∀ {ks:List Bs} {ls:List Sb},ls.length=ks.length+1→(toks ls ks).Pairwise RT→(∀ x∈ls,∃ nd',dR s x.page=some nd'∧4≤bJ nd'∧Vt s h nd' x.its x.ps)→(ls.map (·.page)).Nodup:=by
 intro ks ls hl hp hv
 refine List.pairwise_map.2 ?_
 have key:∀ {ls:List Sb} {ks:List Bs},ls.length=ks.length+1→(toks ls ks).Pairwise RT→ls.Pairwise λ x y=>RT (.T x) (.T y):=by
  intro ls
  induction ls with
  | nil=>intro ks _ _;exact List.Pairwise.nil
  | cons x r ih =>
   intro ks hl hp
   simp only [toks] at hp
   obtain ⟨h1,h2⟩:=List.pairwise_cons.1 hp
   have hr:r.length=ks.length:=by simpa using hl
   refine List.pairwise_cons.2 ⟨λ y hy=>h1 _ (T_mem_KT hr hy),?_⟩
   cases r with
   | nil=>exact List.Pairwise.nil
   | cons z zs=>cases ks with
    | nil=>cases hr
    | cons k ks =>
     simp only [KT] at h2
     exact ih (ks:=ks) (by simpa using hr) (List.pairwise_cons.1 h2).2
 have h1:=key hl hp
 refine List.Pairwise.imp_of_mem (λ {x y} hx hy hxy e=>?_) h1
 obtain ⟨n1,g1,g2,g3⟩:=hv x hx
 obtain ⟨n2,g4,g5,g6⟩:=hv y hy
 rw [← e,g1] at g4
 cases g4
 have es:=(g3.same g6).1
 obtain ⟨a,ha⟩:=List.exists_mem_of_ne_nil _ (g3.ne (by omega))
 exact dC _ (hxy a ha a (by rw [← es];exact ha))
theorem branch_ok {s:Pg} (hs:PgOk s) {h:Nat} {nd:Nd} {l:dO} {ps:List Nat} (hv:Vt s (h+1) nd l ps) (h2:2≤nd.kids.length) (h8:nd.kids.length≤8):cE nd=true:=by
 obtain ⟨ls,e1,e2,e3,e4,e5,e6,e7,e8⟩:=hv
 unfold cE
 rw [if_neg (by rw [dK];intro e;rw [e] at h2;simp at h2)]
 simp only [wholeB,Bool.and_eq_true,decide_eq_true_eq,List.isEmpty_iff]
 refine ⟨⟨⟨⟨⟨e1,h2⟩,h8⟩,?_⟩,?_⟩,?_⟩
 ·rw [e2,List.length_map,e3]
 ·rw [e2]
  refine kids_at (pages_nodup e3 e4 e8) λ x hx=>?_
  obtain ⟨y,hy,rfl⟩:=List.mem_map.1 hx
  obtain ⟨n1,g1,_⟩:=e8 y hy
  have:=fH (eT g1)
  have:=hs.cnt
  omega
 ·exact keys_at (toks_keys e3 e4) e5
theorem Vt.ok {s:Pg} (hs:PgOk s) {h:Nat} {nd:Nd} {l:dO} {ps:List Nat} (hv:Vt s h nd l ps) (h2:2≤bJ nd∨h=0) (h8:bJ nd≤8):cE nd=true:=by
 cases h with
 | zero =>
  obtain ⟨rfl,_,h3,h4⟩:=hv
  exact leaf_ok h3 h4 (by simpa [bJ] using h8)
 | succ h =>
  have hv':=hv
  obtain ⟨ls,e1,_⟩:=hv'
  have hz:bJ nd=nd.kids.length:=by simp [bJ,e1]
  rw [hz] at h2 h8
  exact branch_ok hs hv (by omega) h8
theorem kid_split {ls:List Sb} {ks:List Bs} (hl:ls.length=ks.length+1) (hp:(toks ls ks).Pairwise RT) (key:Bs) :
  ∃ la x lb ka kb,ls=la++x::lb∧ks=ka++kb∧la.length=iQ ks key∧ka.length=la.length∧kb.length=lb.length∧(∀ t∈TK la ka,tb t key)∧(∀ t∈KT kb lb,ta key t)∧(TK la ka++[Tok.T x]++KT kb lb).Pairwise RT:=by
 have hi:iQ ks key≤ks.length:=gE _ _
 generalize hi0:iQ ks key=i at hi
 have hka:∀ k∈ks.take i,kle k key:=by
  intro k hk
  obtain ⟨j,hj,rfl⟩:=List.mem_take_iff_getElem.1 hk
  have:=jP (λ x=>decide (dX x key≤0)) ks j _ (show j<iQ ks key by omega) (List.getElem?_eq_getElem (by omega))
  exact cmpB_le.1 (by simpa using this)
 have hkb:∀ k∈ks.drop i,hX key k:=by
  have hsort:=toks_keys hl hp
  intro k hk
  obtain ⟨j,hj,rfl⟩:=List.mem_drop_iff_getElem.1 hk
  have hlt:i<ks.length:=by omega
  have h1:hX key ks[i]:=by
   have:=takeWhile_at (λ x=>decide (dX x key≤0)) ks ks[i] (by rw [show (ks.takeWhile λ x=>decide (dX x key≤0)).length=i from hi0];exact List.getElem?_eq_getElem hlt)
   rcases klt_or key ks[i] with g|g|g
   ·exact g
   ·rw [← g,cmpB_self] at this;simp at this
   ·have h2:=cmpB_le.2 (kX g)
    simp at this
    omega
  cases j with
  | zero=>simpa using h1
  | succ j=>exact gI h1 ((List.pairwise_iff_getElem.1 hsort) i (i+(j+1)) hlt (by omega) (by omega))
 have hx:i<ls.length:=by omega
 have e1:ls=ls.take i++ls[i]::ls.drop (i+1):=by
  rw [← List.drop_eq_getElem_cons hx,List.take_append_drop]
 have e2:ks=ks.take i++ks.drop i:=(List.take_append_drop _ _).symm
 have l1:(ls.take i).length=(ks.take i).length:=by simp;omega
 have l2:(ks.drop i).length=(ls.drop (i+1)).length:=by simp;omega
 have et:toks ls ks=TK (ls.take i) (ks.take i)++[Tok.T ls[i]]++KT (ks.drop i) (ls.drop (i+1)):=by
  have:=toks_mid (la:=ls.take i) (us:=[ls[i]]) (lb:=ls.drop (i+1)) (ka:=ks.take i) (uk:=[]) (kb:=ks.drop i) l1 rfl
  rw [← show TK (ls.take i) (ks.take i)++toks [ls[i]] []++KT (ks.drop i) (ls.drop (i+1))=TK (ls.take i) (ks.take i)++[Tok.T ls[i]]++KT (ks.drop i) (ls.drop (i+1)) from rfl,← this]
  congr 1
  ·simpa using e1
  ·simpa using e2
 rw [et] at hp
 refine ⟨ls.take i,ls[i],ls.drop (i+1),ks.take i,ks.drop i,e1,e2,by simp;omega,l1.symm,l2,?_,?_,hp⟩
 ·
  have key1:∀ {la:List Sb} {ka:List Bs},la.length=ka.length→(TK la ka).Pairwise RT→(∀ k∈ka,kle k key)→∀ t∈TK la ka,tb t key:=by
   intro la
   induction la with
   | nil=>intro ka _ _ _ t ht;simp [TK] at ht
   | cons x la ih =>
    intro ka h hp hk t ht
    cases ka with
    | nil=>cases h
    | cons k ka =>
     simp only [TK] at hp ht
     obtain ⟨p1,p2⟩:=List.pairwise_cons.1 hp
     rcases List.mem_cons.1 ht with rfl|ht
     ·exact tb_of_K (p1 (.K k) (by simp)) (hk k (by simp))
     ·rcases List.mem_cons.1 ht with rfl|ht
      ·exact hk k (by simp)
      ·exact ih (by simpa using h) (List.pairwise_cons.1 p2).2 (λ k hk2=>hk k (List.mem_cons_of_mem _ hk2)) t ht
  exact key1 l1 (List.pairwise_append.1 (List.pairwise_append.1 hp).1).1 hka
 ·have key2:∀ {kb:List Bs} {lb:List Sb},kb.length=lb.length→(KT kb lb).Pairwise RT→(∀ k∈kb,hX key k)→∀ t∈KT kb lb,ta key t:=by
   intro kb
   induction kb with
   | nil=>intro lb _ _ _ t ht;simp [KT] at ht
   | cons k kb ih =>
    intro lb h hp hk t ht
    cases lb with
    | nil=>cases h
    | cons x lb =>
     simp only [KT] at hp ht
     obtain ⟨p1,p2⟩:=List.pairwise_cons.1 hp
     rcases List.mem_cons.1 ht with rfl|ht
     ·exact hk k (by simp)
     ·rcases List.mem_cons.1 ht with rfl|ht
      ·exact ta_of_K (p1 (.T x) (by simp)) (hk k (by simp))
      ·exact ih (by simpa using h) (List.pairwise_cons.1 p2).2 (λ k hk2=>hk k (List.mem_cons_of_mem _ hk2)) t ht
  exact key2 l2 (List.pairwise_append.1 hp).2.1 hkb
theorem TK_its {la:List Sb} {key:Bs}:∀ {ka:List Bs},la.length=ka.length→(∀ t∈TK la ka,tb t key)→∀ a∈la.flatMap (·.its),hX a.1 key:=by
 induction la with
 | nil=>intro ka _ _ a ha;simp at ha
 | cons x la ih =>
  intro ka h ht a ha
  cases ka with
  | nil=>cases h
  | cons k ka =>
   simp only [TK] at ht
   simp only [List.flatMap_cons,List.mem_append] at ha
   rcases ha with ha|ha
   ·exact ht (.T x) (by simp) a ha
   ·exact ih (by simpa using h) (λ t h2=>ht t (by simp [h2])) a ha
theorem KT_its {lb:List Sb} {key:Bs}:∀ {kb:List Bs},kb.length=lb.length→(∀ t∈KT kb lb,ta key t)→∀ a∈lb.flatMap (·.its),hX key a.1:=by
 induction lb with
 | nil=>intro ka _ _ a ha;simp at ha
 | cons x la ih =>
  intro ka h ht a ha
  cases ka with
  | nil=>cases h
  | cons k ka =>
   simp only [KT] at ht
   simp only [List.flatMap_cons,List.mem_append] at ha
   rcases ha with ha|ha
   ·exact ht (.T x) (by simp) a ha
   ·exact ih (by simpa using h) (λ t h2=>ht t (by simp [h2])) a ha
end Go.Proofs.YtfpadnmdafiddaaGreatDoor
namespace Go.Proofs.YtfpadnmdafiddaaGreatDoor
theorem lL (x:Bs×Bs) (l:dO) (key:Bs):gD (x::l) key=if hX x.1 key then gD l key+1 else 0:=by
 unfold gD
 rw [List.takeWhile_cons]
 by_cases h:hX x.1 key
 ·rw [if_pos h,if_pos (show decide (dX x.1 key<0)=true by simpa [hX] using h)];rfl
 ·rw [if_neg h,if_neg (show ¬ decide (dX x.1 key<0)=true by simpa [hX] using h)];rfl
theorem thereN_cons (x:Bs×Bs) (l:dO) (key:Bs):gF (x::l) key=if hX x.1 key then gF l key else decide (x.1=key):=by
 unfold gF
 rw [lL]
 by_cases h:hX x.1 key
 ·simp only [if_pos h,List.getElem?_cons_succ]
 ·simp only [if_neg h,List.getElem?_cons_zero]
  by_cases e:x.1=key
  ·simp [e,cmpB_self]
  ·have:dX x.1 key≠0:=λ g=>e (cmpB_eq g)
   simp [e,this]
theorem ins_eq (key v:Bs):∀ l:dO,(if gF l key then dH (cO l (gD l key) (gD l key+1)) (gD l key) [(key,v)] else dH l (gD l key) [(key,v)])=gU key v l
 | []=>rfl
 | x::l=>by
  have ih:=ins_eq key v l
  rw [lL,thereN_cons,gU]
  by_cases h:hX x.1 key
  ·simp only [if_pos h,← ih]
   split<;>simp [dH,cO]
  ·simp only [if_neg h]
   by_cases e:x.1=key<;>simp [e,dH,cO]
theorem mP (key:Bs):∀ {l:dO},Srt l→(gF l key=true↔∃ x∈l,x.1=key)
 | [],_=>by simp [gF,gD]
 | x::l,h=>by
  obtain ⟨h1,h2⟩:=List.pairwise_cons.1 h
  rw [thereN_cons]
  by_cases hx:hX x.1 key
  ·rw [if_pos hx,mP key h2]
   constructor
   ·rintro ⟨y,hy,e⟩;exact ⟨y,List.mem_cons_of_mem _ hy,e⟩
   ·rintro ⟨y,hy,e⟩
    rcases List.mem_cons.1 hy with rfl|hy
    ·rw [e] at hx;exact absurd hx (dC _)
    ·exact ⟨y,hy,e⟩
  ·rw [if_neg hx,decide_eq_true_eq]
   constructor
   ·intro e;exact ⟨x,by simp,e⟩
   ·rintro ⟨y,hy,e⟩
    rcases List.mem_cons.1 hy with rfl|hy
    ·exact e
    ·have:=h1 y hy
     rw [e] at this
     exact absurd this hx
theorem insI_len (key v:Bs):∀ l:dO,l.length≤(gU key v l).length∧(gU key v l).length≤l.length+1
 | []=>by simp [gU]
 | x::l=>by
  have ih:=insI_len key v l
  unfold gU
  split
  ·simp only [List.length_cons];omega
  ·split<;>simp
def pgs (ls:List Sb):List Nat:=ls.flatMap λ x=>x.page::x.ps
theorem iW (a b:List Sb):pgs (a++b)=pgs a++pgs b:=List.flatMap_append ..
theorem pgs_one (x:Sb):pgs [x]=x.page::x.ps:=by simp [pgs]
structure Up (s s':Pg) (h m:Nat) (up:Nd) (l:dO) (uls:List Sb):Prop where
 items:up.items=[]
 kids:up.kids=uls.map (·.page)
 len:uls.length=up.keys.length+1
 two:uls.length≤2
 toks:(toks uls up.keys).Pairwise RT
 keys:∀ k∈up.keys,dB k=true
 its:l=uls.flatMap (·.its)
 sub:∀ x∈uls,∃ nd',dR s' x.page=some nd'∧min m 4≤bJ nd'∧Vt s' h nd' x.its x.ps
 ext:Ext s s'
 ok:PgOk s'
 big:uls.length=2→∀ x∈uls,∃ nd',dR s' x.page=some nd'∧4≤bJ nd'
theorem split_leaf {l:dO} (h:l.length=9):l=l.take 4++l.drop 4∧(l.take 4).length=4∧(l.drop 4).length=5:=⟨(List.take_append_drop _ _).symm,by simp;omega,by simp;omega⟩
theorem store_up {s:Pg} (hs:PgOk s) {h:Nat} {N:Nd} {l:dO} {ps:List Nat} (hv:Vt s h N l ps) (h1:2≤bJ N∨h=0) (h9:bJ N≤9) (hsp:2≤bZ s) :
  ∃ up s' uls,storeP s N=some (up,s')∧Up s s' h (bJ N) up l uls∧bZ s'+(pgs uls).length=bZ s+ps.length∧(pgs uls).length≤ps.length+2:=by
 unfold storeP
 by_cases hz:8<bJ N
 ·rw [if_pos hz]
  have hz9:bJ N=9:=by omega
  cases h with
  | zero =>
   obtain ⟨rfl,rfl,h3,h4⟩:=hv
   have hl:l.length=9:=by simpa [bJ] using hz9
   obtain ⟨e1,e2,e3⟩:=split_leaf hl
   have hA:(dM ⟨l,[],[]⟩).1=⟨l.take 4,[],[]⟩:=by simp [dM,cK,cO]
   have hB:(dM ⟨l,[],[]⟩).2.1=⟨l.drop 4,[],[]⟩:=by simp [dM,cK,cO]
   have hK:(dM ⟨l,[],[]⟩).2.2=((l.drop 4).getD 0 ([],[])).1:=by simp [dM,cK,cO]
   have hsrt:Srt (l.take 4++l.drop 4):=by rw [← e1];exact h3
   obtain ⟨p1,p2,p3⟩:=List.pairwise_append.1 hsrt
   have hkA:∀ x∈l.take 4,dB x.1=true∧fR x.2=true:=λ x hx=>h4 x (List.mem_of_mem_take hx)
   have hkB:∀ x∈l.drop 4,dB x.1=true∧fR x.2=true:=λ x hx=>h4 x (List.mem_of_mem_drop hx)
   obtain ⟨p,s1,w1,w2⟩:=fE hs (by omega) (leaf_ok p1 hkA (by omega))
   have:=w2.spare
   obtain ⟨q,s2,w3,w4⟩:=fE w2.ok (by omega) (leaf_ok p2 hkB (by omega))
   have:=w4.spare
   rw [hA,hB,hK,w1]
   simp only
   rw [w3]
   obtain ⟨x0,r0,er⟩:∃ x0 r0,l.drop 4=x0::r0:=by
    cases hd:l.drop 4 with
    | nil=>rw [hd] at e3;cases e3
    | cons a b=>exact ⟨a,b,rfl⟩
   refine ⟨_,s2,[⟨p,l.take 4,[]⟩,⟨q,l.drop 4,[]⟩],rfl,⟨rfl,rfl,rfl,by simp,?_,?_,by simp,?_,w2.ext.trans w4.ext,w4.ok,λ _ x hx=>?_⟩,by simp [pgs];omega,by simp [pgs]⟩
   ·simp only [toks,KT,er,List.getD_cons_zero]
    rw [er] at p2 p3
    have r1:RT (.T ⟨p,l.take 4,[]⟩) (.K x0.1):=λ a ha=>p3 a ha x0 (by simp)
    have r2:RT (.K x0.1) (.T ⟨q,x0::r0,[]⟩):=λ b hb=>by
     rcases List.mem_cons.1 hb with rfl|hb
     ·exact kle_refl _
     ·exact kX ((List.pairwise_cons.1 p2).1 b hb)
    refine List.pairwise_cons.2 ⟨λ t ht=>?_,List.pairwise_cons.2 ⟨λ t ht=>?_,List.pairwise_cons.2 ⟨λ t ht=>(by cases ht),List.Pairwise.nil⟩⟩⟩
    ·rcases List.mem_cons.1 ht with rfl|ht
     ·exact r1
     ·rcases List.mem_cons.1 ht with rfl|ht
      ·exact RT_K r1 r2
      ·cases ht
    ·rcases List.mem_cons.1 ht with rfl|ht
     ·exact r2
     ·cases ht
   ·intro k hk
    simp only [List.mem_singleton] at hk
    subst hk
    rw [er]
    exact (hkB x0 (by rw [er];simp)).1
   ·intro x hx
    simp only [List.mem_cons,List.not_mem_nil,or_false] at hx
    rcases hx with rfl|rfl
    ·exact ⟨_,w4.ext.node w2.node,by simp [bJ];omega,rfl,rfl,p1,hkA⟩
    ·exact ⟨_,w4.node,by simp [bJ];omega,rfl,rfl,p2,hkB⟩
   ·simp only [List.mem_cons,List.not_mem_nil,or_false] at hx
    rcases hx with rfl|rfl
    ·exact ⟨_,w4.ext.node w2.node,by simp [bJ];omega⟩
    ·exact ⟨_,w4.node,by simp [bJ];omega⟩
  | succ h =>
   obtain ⟨ls,e1,e2,e3,e4,e5,e6,e7,e8⟩:=hv
   have hkl:N.kids.length=9:=by simpa [bJ,e1] using hz9
   have hll:ls.length=9:=by rw [← hkl,e2,List.length_map]
   have hyl:N.keys.length=8:=by omega
   have hlf:cK N=false:=by
    cases hh:cK N with
    | false=>rfl
    | true=>rw [dK.1 hh] at hkl;cases hkl
   have e3k:∃ k,N.keys=N.keys.take 3++k::N.keys.drop 4∧N.keys.getD 3 []=k:=by
    have hlt:3<N.keys.length:=by omega
    refine ⟨N.keys[3],?_,by simp [List.getD_eq_getElem?_getD,hlt]⟩
    rw [← List.drop_eq_getElem_cons hlt,List.take_append_drop]
   obtain ⟨k,ek,ek2⟩:=e3k
   have hA:(dM N).1=⟨[],N.kids.take 4,N.keys.take 3⟩:=by simp [dM,hlf,cO]
   have hB:(dM N).2.1=⟨[],N.kids.drop 4,N.keys.drop 4⟩:=by simp [dM,hlf,cO]
   have hK:(dM N).2.2=k:=by simp only [dM,hlf];simpa using ek2
   have el:ls=ls.take 4++ls.drop 4:=(List.take_append_drop _ _).symm
   have l1:(ls.take 4).length=(N.keys.take 3).length+1:=by simp;omega
   have l2:(ls.drop 4).length=(N.keys.drop 4).length+1:=by simp;omega
   have hb0:ls.drop 4≠[]:=by intro e;rw [e] at l2;simp at l2
   have et:toks ls N.keys=toks (ls.take 4) (N.keys.take 3)++.K k::toks (ls.drop 4) (N.keys.drop 4):=by
    rw [← toks_join l1 hb0,← el,← ek]
   rw [et] at e4
   obtain ⟨p1,p2,p3⟩:=List.pairwise_append.1 e4
   obtain ⟨p4,p5⟩:=List.pairwise_cons.1 p2
   have vA:Vt s (h+1) ⟨[],N.kids.take 4,N.keys.take 3⟩ ((ls.take 4).flatMap (·.its)) (pgs (ls.take 4)) :=
    ⟨ls.take 4,rfl,by rw [e2,List.map_take],l1,p1,λ k hk=>e5 k (List.mem_of_mem_take hk),rfl,rfl,λ x hx=>e8 x (List.mem_of_mem_take hx)⟩
   have vB:Vt s (h+1) ⟨[],N.kids.drop 4,N.keys.drop 4⟩ ((ls.drop 4).flatMap (·.its)) (pgs (ls.drop 4)) :=
    ⟨ls.drop 4,rfl,by rw [e2,List.map_drop],l2,p5,λ k hk=>e5 k (List.mem_of_mem_drop hk),rfl,rfl,λ x hx=>e8 x (List.mem_of_mem_drop hx)⟩
   have sA:bJ ⟨[],N.kids.take 4,N.keys.take 3⟩=4:=by simp [bJ];omega
   have sB:bJ ⟨[],N.kids.drop 4,N.keys.drop 4⟩=5:=by simp [bJ];omega
   obtain ⟨p,s1,w1,w2⟩:=fE hs (by omega) (vA.ok hs (by omega) (by omega))
   have:=w2.spare
   have vB1:=vB.ext w2.ext
   obtain ⟨q,s2,w3,w4⟩:=fE w2.ok (by omega) (vB1.ok w2.ok (by omega) (by omega))
   have:=w4.spare
   rw [hA,hB,hK,w1]
   simp only
   rw [w3]
   have hp:ps.length=(pgs (ls.take 4)).length+(pgs (ls.drop 4)).length:=by
    rw [e7,show ls.flatMap (λ x=>x.page::x.ps)=pgs ls from rfl]
    conv=>lhs;rw [el]
    rw [iW,List.length_append]
   refine ⟨_,s2,[⟨p,(ls.take 4).flatMap (·.its),pgs (ls.take 4)⟩,⟨q,(ls.drop 4).flatMap (·.its),pgs (ls.drop 4)⟩],rfl,⟨rfl,rfl,rfl,by simp,?_,?_,?_,?_,w2.ext.trans w4.ext,w4.ok,λ _ x hx=>?_⟩,by simp [pgs] at hp ⊢;omega,by simp [pgs] at hp ⊢;omega⟩
   ·have r1:RT (.T ⟨p,(ls.take 4).flatMap (·.its),pgs (ls.take 4)⟩) (.K k):=λ a ha=>by
     obtain ⟨x,hx,hax⟩:=List.mem_flatMap.1 ha
     exact p3 (.T x) (T_mem l1 hx) (.K k) (by simp) a hax
    have r2:RT (.K k) (.T ⟨q,(ls.drop 4).flatMap (·.its),pgs (ls.drop 4)⟩):=λ a ha=>by
     obtain ⟨x,hx,hax⟩:=List.mem_flatMap.1 ha
     exact p4 (.T x) (T_mem l2 hx) a hax
    simp only [toks,KT]
    refine List.pairwise_cons.2 ⟨λ t ht=>?_,List.pairwise_cons.2 ⟨λ t ht=>?_,List.pairwise_cons.2 ⟨λ t ht=>(by cases ht),List.Pairwise.nil⟩⟩⟩
    ·rcases List.mem_cons.1 ht with rfl|ht
     ·exact r1
     ·rcases List.mem_cons.1 ht with rfl|ht
      ·exact RT_K r1 r2
      ·cases ht
    ·rcases List.mem_cons.1 ht with rfl|ht
     ·exact r2
     ·cases ht
   ·intro k' hk
    simp only [List.mem_singleton] at hk
    subst hk
    exact e5 k' (by rw [ek];simp)
   ·simp only [List.flatMap_cons,List.flatMap_nil,List.append_nil]
    rw [← List.flatMap_append,← el]
    exact e6
   ·intro x hx
    simp only [List.mem_cons,List.not_mem_nil,or_false] at hx
    rcases hx with rfl|rfl
    ·exact ⟨_,w4.ext.node w2.node,by omega,(vA.ext w2.ext).ext w4.ext⟩
    ·exact ⟨_,w4.node,by omega,vB1.ext w4.ext⟩
   ·simp only [List.mem_cons,List.not_mem_nil,or_false] at hx
    rcases hx with rfl|rfl
    ·exact ⟨_,w4.ext.node w2.node,by omega⟩
    ·exact ⟨_,w4.node,by omega⟩
 ·rw [if_neg hz]
  obtain ⟨p,s1,w1,w2⟩:=fE hs (by omega) (hv.ok hs h1 (by omega))
  have:=w2.spare
  rw [w1]
  refine ⟨_,s1,[⟨p,l,ps⟩],rfl,⟨rfl,rfl,rfl,by simp,by simp [toks,KT],by simp,by simp,?_,w2.ext,w2.ok,λ h2=>by simp at h2⟩,by simp [pgs];omega,by simp [pgs]⟩
  intro x hx
  simp only [List.mem_singleton] at hx
  subst hx
  exact ⟨N,w2.node,by omega,hv.ext w2.ext⟩
theorem mid_put {α : Type} {la lb us:List α} {x : α}:dH (cO (la++x::lb) la.length (la.length+1)) la.length us=la++us++lb:=by
 have e1:(la++x::lb).take la.length=la:=List.take_left' rfl
 have e2:(la++x::lb).drop (la.length+1)=lb:=by
  rw [← List.drop_drop,List.drop_left' rfl];rfl
 unfold dH cO
 rw [e1,e2,List.take_left' rfl,List.drop_left' rfl]
theorem mid_ins {α : Type} {la lb us:List α}:dH (la++lb) la.length us=la++us++lb:=by
 unfold dH
 rw [List.take_left' rfl,List.drop_left' rfl]
theorem put_up (key v:Bs) (hk:dB key=true) (hval:fR v=true):∀ (h:Nat) {s:Pg} {n f:Nat} {nd:Nd} {l:dO} {ps:List Nat},PgOk s→dR s n=some nd→Vt s h nd l ps→h<f→1≤bJ nd→2*(h+1)≤bZ s →
  ∃ fr th,gZ s key f n=some (fr,th)∧fr.length=h+1∧(th=true↔∃ x∈l,x.1=key)∧∃ up s' uls,putUp (key,v) th fr s=some (up,s')∧Up s s' h (bJ nd) up (gU key v l) uls ∧
   bZ s'+(h+1)+(pgs uls).length=bZ s+1+ps.length∧(pgs uls).length≤1+ps.length+(h+1)
 | 0,s,n,f,nd,l,ps,hs,hn,hv,hf,h1,hsp=>by
  obtain ⟨rfl,rfl,h3,h4⟩:=hv
  obtain ⟨f,rfl⟩:∃ g,f=g+1:=⟨f-1,by omega⟩
  have hok:=iN hn
  unfold cE at hok
  rw [if_pos (by rfl)] at hok
  obtain ⟨_,h8,_⟩:=dL hok
  simp only at h8
  refine ⟨[(⟨l,[],[]⟩,gD l key)],gF l key,by simp only [gZ,hn];rfl,rfl,?_,?_⟩
  ·exact mP key h3
  ·have hN:eM ⟨l,[],[]⟩ (gD l key) nd0 (key,v) (gF l key)=⟨gU key v l,[],[]⟩:=by
    rw [← ins_eq]
    simp only [eM,cK,List.isEmpty_nil,if_true]
    split<;>rfl
   have hln:=insI_len key v l
   obtain ⟨up,s',uls,q1,q2,q3,q4⟩:=store_up (h:=0) (N:=⟨gU key v l,[],[]⟩) (l:=gU key v l) (ps:=[]) hs ⟨rfl,rfl,insI_srt h3,λ x hx=>by
    rcases mem_insI hx with rfl|hx
    ·exact ⟨hk,hval⟩
    ·exact h4 x hx⟩ (.inr rfl) (by simp [bJ];omega) (by omega)
   refine ⟨up,s',uls,?_,⟨q2.items,q2.kids,q2.len,q2.two,q2.toks,q2.keys,q2.its,λ x hx=>?_,q2.ext,q2.ok,q2.big⟩,by simpa using (by simp at q3;omega),by simpa using (by simp at q4;omega)⟩
   ·simp only [putUp]
    rw [hN]
    exact q1
   ·obtain ⟨nd',g1,g2,g3⟩:=q2.sub x hx
    exact ⟨nd',g1,by simp only [bJ,List.length_nil,Nat.add_zero] at g2 ⊢;omega,g3⟩
 | h+1,s,n,f,nd,l,ps,hs,hn,hv,hf,h1,hsp=>by
  have hok:=iN hn
  have hv0:=hv
  obtain ⟨ls,e1,e2,e3,e4,e5,e6,e7,e8⟩:=hv
  obtain ⟨f,rfl⟩:∃ g,f=g+1:=⟨f-1,by omega⟩
  have hlf:cK nd=false:=by
   cases hh:cK nd with
   | false=>rfl
   | true =>
    rw [dK.1 hh] at e2
    cases ls with
    | nil=>cases e3
    | cons _ _=>cases e2
  unfold cE at hok
  rw [if_neg (by rw [hlf];simp)] at hok
  obtain ⟨_,w2,w8,w4,_,_⟩:=cT hok
  obtain ⟨la,x,lb,ka,kb,a1,a2,a3,a4,a5,a6,a7,a8⟩:=kid_split e3 e4 key
  obtain ⟨ndx,x1,x2,x3⟩:=e8 x (by rw [a1];simp)
  obtain ⟨fr,th,i1,i2,i3,up,s1,uls,i4,i5,i6,i7⟩:=put_up key v hk hval h (s:=s) (n:=x.page) (f:=f) hs x1 x3 (by omega) (by omega) (by omega)
  have hkid:nd.kids[iQ nd.keys key]? = some x.page:=by
   rw [e2,a1,← a3]
   simp
  have hlt:=TK_its a4.symm a6
  have hgt:=KT_its a5 a7
  have hflat:l=la.flatMap (·.its)++(x.its++lb.flatMap (·.its)):=by rw [e6,a1];simp
  have hnotx:∀ y∈x.its,y∈l:=λ y hy=>by rw [hflat];simp [hy]
  refine ⟨(nd,iQ nd.keys key)::fr,th,?_,by simp [i2],?_,?_⟩
  ·simp only [gZ,hn,hlf,Bool.false_eq_true,if_false,hkid,i1]
  ·rw [i3]
   constructor
   ·rintro ⟨y,hy,e⟩;exact ⟨y,hnotx y hy,e⟩
   ·rintro ⟨y,hy,e⟩
    rw [hflat] at hy
    rcases List.mem_append.1 hy with hy|hy
    ·exact absurd (hlt y hy) (by rw [e];exact dC _)
    ·rcases List.mem_append.1 hy with hy|hy
     ·exact ⟨y,hy,e⟩
     ·exact absurd (hgt y hy) (by rw [e];exact dC _)
  ·have hN:eM nd (iQ nd.keys key) up (key,v) th=⟨[],(la++uls++lb).map (·.page),ka++up.keys++kb⟩:=by
    simp only [eM,hlf,Bool.false_eq_true,if_false]
    have m1:dH (cO nd.kids (iQ nd.keys key) (iQ nd.keys key+1)) (iQ nd.keys key) up.kids=(la++uls++lb).map (·.page):=by
     rw [e2,a1,i5.kids,← a3]
     simp only [List.map_append,List.map_cons]
     have:=mid_put (la:=la.map (·.page)) (lb:=lb.map (·.page)) (us:=uls.map (·.page)) (x:=x.page)
     rw [List.length_map] at this
     exact this
    have m2:dH nd.keys (iQ nd.keys key) up.keys=ka++up.keys++kb:=by
     conv=>lhs;arg 1;rw [a2]
     rw [← a3,← a4]
     exact mid_ins
    rw [m1,m2]
    cases nd
    simp only at e1 ⊢
    rw [e1]
   have hne:∀ y∈uls,y.its≠[]:=λ y hy=>by
    obtain ⟨n1,g1,g2,g3⟩:=i5.sub y hy
    exact g3.ne (by omega)
   have hin:gU key v l=(la++uls++lb).flatMap (·.its):=by
    rw [hflat,insI_append hlt,insI_before hgt,i5.its]
    simp
   have hvN:Vt s1 (h+1) ⟨[],(la++uls++lb).map (·.page),ka++up.keys++kb⟩ (gU key v l) (pgs (la++uls++lb)):=by
    refine ⟨la++uls++lb,rfl,rfl,?_,?_,?_,hin,rfl,?_⟩
    ·have:=i5.len
     simp only [List.length_append]
     omega
    ·rw [toks_mid a4.symm i5.len]
     refine splice_ok a8 i5.len i5.toks hne (λ t ht a ha=>?_) (λ t ht a ha=>?_)
     ·rw [← i5.its] at ha
      rcases mem_insI ha with rfl|ha
      ·exact a6 t ht
      ·have:=(List.pairwise_append.1 (List.pairwise_append.1 a8).1).2.2 t ht (.T x) (by simp)
       exact RT_T.1 this a ha
     ·rw [← i5.its] at ha
      rcases mem_insI ha with rfl|ha
      ·exact a7 t ht
      ·have:=(List.pairwise_append.1 a8).2.2 (.T x) (by simp) t ht
       exact T_RT.1 this a ha
    ·intro k hk2
     simp only [List.mem_append] at hk2
     rcases hk2 with (hk2|hk2)|hk2
     ·exact e5 k (by rw [a2];simp [hk2])
     ·exact i5.keys k hk2
     ·exact e5 k (by rw [a2];simp [hk2])
    ·intro y hy
     simp only [List.mem_append] at hy
     have old:∀ y∈ls,∃ nd',dR s1 y.page=some nd'∧4≤bJ nd'∧Vt s1 h nd' y.its y.ps:=λ y hy=>by
      obtain ⟨n1,g1,g2,g3⟩:=e8 y hy
      exact ⟨n1,i5.ext.node g1,g2,g3.ext i5.ext⟩
     rcases hy with (hy|hy)|hy
     ·exact old y (by rw [a1];simp [hy])
     ·obtain ⟨n1,g1,g2,g3⟩:=i5.sub y hy
      exact ⟨n1,g1,by omega,g3⟩
     ·exact old y (by rw [a1];simp [hy])
   have hlsz:ls.length=la.length+1+lb.length:=by rw [a1];simp;omega
   have hkz:nd.kids.length=ls.length:=by rw [e2,List.length_map]
   have hu1:1≤uls.length:=by have:=i5.len;omega
   have hu2:=i5.two
   have hsN:bJ ⟨[],(la++uls++lb).map (·.page),ka++up.keys++kb⟩=la.length+uls.length+lb.length:=by simp [bJ];omega
   have hsnd:bJ nd=nd.kids.length:=by simp [bJ,e1]
   have hpl:ps.length=(pgs la).length+(1+x.ps.length)+(pgs lb).length:=by
    rw [e7,show ls.flatMap (λ x=>x.page::x.ps)=pgs ls from rfl,a1,show la++x::lb=la++[x]++lb by simp,iW,iW,pgs_one]
    simp
    omega
   obtain ⟨up2,s2,uls2,q1,q2,q3,q4⟩:=store_up i5.ok hvN (by omega) (by omega) (by omega)
   refine ⟨up2,s2,uls2,?_,⟨q2.items,q2.kids,q2.len,q2.two,q2.toks,q2.keys,q2.its,λ y hy=>?_,i5.ext.trans q2.ext,q2.ok,q2.big⟩,?_,?_⟩
   ·simp only [putUp,i4,hN]
    exact q1
   ·obtain ⟨n1,g1,g2,g3⟩:=q2.sub y hy
    exact ⟨n1,g1,by omega,g3⟩
   ·rw [iW,iW,List.length_append,List.length_append] at q3
    omega
   ·rw [iW,iW,List.length_append,List.length_append] at q4
    omega
end Go.Proofs.YtfpadnmdafiddaaGreatDoor
