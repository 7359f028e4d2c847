import Derived.Test.YtfpadnmdafiddaaGreatDoorMg
import Derived.Test.YtfpadnmdafiddaaGreatDoorMh
set_option linter.all false
set_option maxHeartbeats 16000000
set_option maxRecDepth 100000
namespace Go.Proofs.YtfpadnmdafiddaaGreatDoor
def kI (r:Bs):Option (Bs×Bs) :=
 if (gP r).2.2=0 then
  if (gP r).1≤(r.drop (gP r).2.1).length then some ((r.drop (gP r).2.1).take (gP r).1,(r.drop (gP r).2.1).drop (gP r).1) else none
 else none
def le4 (r:Bs):Nat:=r.getD 0 0+256*r.getD 1 0+65536*r.getD 2 0+16777216*r.getD 3 0
def rdWord (r:Bs):Option (Nat×Bs):=if 4≤r.length then some (le4 r,r.drop 4) else none
def kP:Nat→Bs→Option (dO×Bs)
 | 0,r=>some ([],r)
 | c+1,r=>match kI r with
  | none=>none
  | some (k,r1)=>match kI r1 with
   | none=>none
   | some (v,r2)=>match kP c r2 with
    | none=>none
    | some (l,r3)=>some ((k,v)::l,r3)
def rdKids:Nat→Bs→Option (List Nat×Bs)
 | 0,r=>some ([],r)
 | c+1,r=>match rdWord r with
  | none=>none
  | some (k,r1)=>match rdKids c r1 with
   | none=>none
   | some (l,r3)=>some (k::l,r3)
def rdKeys:Nat→Bs→Option (List Bs×Bs)
 | 0,r=>some ([],r)
 | c+1,r=>match kI r with
  | none=>none
  | some (k,r1)=>match rdKeys c r1 with
   | none=>none
   | some (l,r3)=>some (k::l,r3)
def finN (n:Nd) (r:Bs):Option Nd:=if r.all (λ x=>x==0)&&cE n then some n else none
def gG (b:Bs):Option Nd :=
 match b with
 | kd::c::r =>
  if 8<c then none
  else if kd=0 then (match kP c r with
   | none=>none
   | some (l,r1)=>finN ⟨l,[],[]⟩ r1)
  else if kd=1∧2≤c then (match rdKids c r with
   | none=>none
   | some (l,r1)=>match rdKeys (c-1) r1 with
    | none=>none
    | some (ks,r2)=>finN ⟨[],l,ks⟩ r2)
  else none
 | _=>none
theorem readN_ok {b:Bs} {n:Nd} (h:gG b=some n):cE n=true:=by
 have hf:∀ m r,finN m r=some n→cE n=true:=by
  intro m r h
  unfold finN at h
  split at h
  ·rename_i hc
   cases h
   exact (Bool.and_eq_true _ _▸hc).2
  ·cases h
 unfold gG at h
 split at h
 ·split at h
  ·cases h
  ·split at h
   ·split at h
    ·cases h
    ·exact hf _ _ h
   ·split at h
    ·split at h
     ·cases h
     ·split at h
      ·cases h
      ·exact hf _ _ h
    ·cases h
 ·cases h
theorem rdBlk_enc {p:Bs} (hp:p.length<18446744073709551616) (t:Bs):kI (jN p++t)=some (p,t):=by
 unfold kI jN
 rw [List.append_assoc,numV_enc hp]
 have e:(encL p.length++(p++t)).drop (sz p.length)=p++t:=by
  rw [← length_encL];exact List.drop_left' rfl
 simp only [e]
 simp
theorem rdWord_enc {n:Nat} (hn:n<4294967296) (t:Bs):rdWord (fW n++t)=some (n,t):=by
 unfold rdWord fW
 simp [le4]
 omega
theorem rdItems_enc:∀ (l:dO) (t:Bs),(∀ x∈l,x.1.length<1000∧x.2.length<1000)→kP l.length (l.flatMap (λ x=>jN x.1++jN x.2)++t)=some (l,t)
 | [],t,_=>rfl
 | x::l,t,h=>by
  have hx:=h x (by simp)
  simp only [List.flatMap_cons,List.length_cons,kP,List.append_assoc]
  rw [rdBlk_enc (by omega)]
  simp only
  rw [rdBlk_enc (by omega)]
  simp only
  rw [rdItems_enc l t (λ y hy=>h y (List.mem_cons_of_mem _ hy))]
theorem rdKids_enc:∀ (l:List Nat) (t:Bs),(∀ x∈l,x<4294967296)→rdKids l.length (l.flatMap fW++t)=some (l,t)
 | [],t,_=>rfl
 | x::l,t,h=>by
  have hx:=h x (by simp)
  simp only [List.flatMap_cons,List.length_cons,rdKids,List.append_assoc]
  rw [rdWord_enc hx]
  simp only
  rw [rdKids_enc l t (λ y hy=>h y (List.mem_cons_of_mem _ hy))]
theorem rdKeys_enc:∀ (l:List Bs) (t:Bs),(∀ x∈l,x.length<1000)→rdKeys l.length (l.flatMap jN++t)=some (l,t)
 | [],t,_=>rfl
 | x::l,t,h=>by
  have hx:=h x (by simp)
  simp only [List.flatMap_cons,List.length_cons,rdKeys,List.append_assoc]
  rw [rdBlk_enc (by omega)]
  simp only
  rw [rdKeys_enc l t (λ y hy=>h y (List.mem_cons_of_mem _ hy))]
theorem mX {f:Nat→Bool} {n:Nat} (h:gM f n=true) {i:Nat} (hi:i<n):f i=true:=List.all_eq_true.1 h i (List.mem_range.2 hi)
theorem mW {f:Nat→Bool} {n:Nat} (h:∀ i,i<n→f i=true):gM f n=true:=List.all_eq_true.2 λ i hi=>h i (List.mem_range.1 hi)
theorem mB {l:dO} (h:gM (iB l) l.length=true) {x:Bs×Bs} (hx:x∈l):dB x.1=true∧fR x.2=true:=by
 obtain ⟨i,hi,rfl⟩:=List.mem_iff_getElem.1 hx
 have h:=mX h hi
 simp only [iB,List.getElem?_eq_getElem hi,Bool.and_eq_true] at h
 exact h.1
theorem key_ok' {l:List Bs} (h:gM (jO l) l.length=true) {x:Bs} (hx:x∈l):dB x=true:=by
 obtain ⟨i,hi,rfl⟩:=List.mem_iff_getElem.1 hx
 have h:=mX h hi
 simp only [jO,List.getElem?_eq_getElem hi,Bool.and_eq_true] at h
 exact h.1
theorem kid_ok {l:List Nat} (h:gM (kK l) l.length=true) {x:Nat} (hx:x∈l):x<2147483648:=by
 obtain ⟨i,hi,rfl⟩:=List.mem_iff_getElem.1 hx
 have h:=mX h hi
 simp only [kK,List.getElem?_eq_getElem hi,Bool.and_eq_true,decide_eq_true_eq] at h
 exact h.1
theorem gJ {k:Bs} (h:dB k=true):1≤k.length∧k.length≤16:=by simpa [dB] using h
theorem jA {k:Bs} (h:fR k=true):k.length≤32:=by simpa [fR] using h
theorem cT {n:Nd} (h:wholeB n=true):n.items=[]∧2≤n.kids.length∧n.kids.length≤8∧n.keys.length+1=n.kids.length∧gM (kK n.kids) n.kids.length=true∧gM (jO n.keys) n.keys.length=true:=by
 simp only [wholeB,Bool.and_eq_true,decide_eq_true_eq,List.isEmpty_iff] at h
 exact ⟨h.1.1.1.1.1,h.1.1.1.1.2,h.1.1.1.2,h.1.1.2,h.1.2,h.2⟩
theorem dL {n:Nd} (h:wholeL n=true):n.keys=[]∧n.items.length≤8∧gM (iB n.items) n.items.length=true:=by
 simp only [wholeL,Bool.and_eq_true,decide_eq_true_eq,List.isEmpty_iff] at h
 exact ⟨h.1.1,h.1.2,h.2⟩
theorem dK {n:Nd}:cK n=true↔n.kids=[]:=List.isEmpty_iff
theorem all0 (n:Nat):(List.replicate n 0).all (λ x=>x==0)=true:=by
 rw [List.all_eq_true]
 intro x hx
 have:=List.eq_of_mem_replicate hx
 subst this
 rfl
theorem readN_bytes {n:Nd} (h:cE n=true) (z:Nat):gG (fN n++List.replicate z 0)=some n:=by
 have hk:=h
 unfold cE at h
 unfold fN
 split at h
 ·rename_i hl
  obtain ⟨h1,h2,h3⟩:=dL h
  have h4:=dK.1 hl
  rw [if_pos hl]
  simp only [List.cons_append,List.nil_append,gG]
  rw [if_neg (by omega),if_pos trivial,rdItems_enc n.items _ (λ x hx=>by
   have:=mB h3 hx
   have:=gJ this.1
   have:=jA (mB h3 hx).2
   omega)]
  simp only [finN]
  have e:(⟨n.items,[],[]⟩:Nd)=n:=by cases n;simp_all
  rw [e,all0,hk]
  rfl
 ·rename_i hl
  obtain ⟨h1,h2,h3,h4,h5,h6⟩:=cT h
  rw [if_neg hl]
  simp only [List.cons_append,List.nil_append,gG]
  rw [if_neg (by omega),if_neg (by omega),if_pos ⟨trivial,h2⟩,List.append_assoc,rdKids_enc n.kids _ (λ x hx=>by have:=kid_ok h5 hx;omega)]
  simp only
  rw [show n.kids.length-1=n.keys.length by omega,rdKeys_enc n.keys _ (λ x hx=>by have:=gJ (key_ok' h6 hx);omega)]
  simp only [finN]
  have e:(⟨[],n.kids,n.keys⟩:Nd)=n:=by cases n;simp_all
  rw [e,all0,hk]
  rfl
end Go.Proofs.YtfpadnmdafiddaaGreatDoor
namespace Go.Proofs.YtfpadnmdafiddaaGreatDoor
def dR (s:Pg) (n:Nat):Option Nd:=if dE s n then gG (s.body n) else none
def gB (s:Pg) (n:Nd):Option (Nat×Pg):=if cE n then newP s (fN n) else none
def dH {α : Type} (l:List α) (at':Nat) (x:List α):List α:=l.take at'++x++l.drop at'
def cO {α : Type} (l:List α) (a b:Nat):List α:=l.take a++l.drop b
def gZ (s:Pg) (key:Bs):Nat→Nat→Option (List (Nd×Nat)×Bool)
 | 0,_=>none
 | f+1,n=>match dR s n with
  | none=>none
  | some nd =>
   if cK nd then some ([(nd,gD nd.items key)],gF nd.items key)
   else match nd.kids[iQ nd.keys key]? with
    | none=>none
    | some k=>match gZ s key f k with
     | none=>none
     | some (l,th)=>some ((nd,iQ nd.keys key)::l,th)
def eM (n:Nd) (at':Nat) (up:Nd) (item:Bs×Bs) (there:Bool):Nd :=
 if cK n then (if there then { n with items:=dH (cO n.items at' (at'+1)) at' [item] } else { n with items:=dH n.items at' [item] })
 else { n with kids:=dH (cO n.kids at' (at'+1)) at' up.kids,keys:=dH n.keys at' up.keys }
def dM (n:Nd):Nd×Nd×Bs :=
 if cK n then (⟨cO n.items 4 n.items.length,[],[]⟩,⟨cO n.items 0 4,[],[]⟩,((cO n.items 0 4).getD 0 ([],[])).1)
 else (⟨[],cO n.kids 4 n.kids.length,cO n.keys 3 n.keys.length⟩,⟨[],cO n.kids 0 4,cO n.keys 0 4⟩,n.keys.getD 3 [])
def storeP (s:Pg) (n:Nd):Option (Nd×Pg) :=
 if 8<bJ n then match gB s (dM n).1 with
  | none=>none
  | some (p,s1)=>match gB s1 (dM n).2.1 with
   | none=>none
   | some (q,s2)=>some (⟨[],[p,q],[(dM n).2.2]⟩,s2)
 else match gB s n with
  | none=>none
  | some (p,s1)=>some (⟨[],[p],[]⟩,s1)
def putUp (item:Bs×Bs) (there:Bool):List (Nd×Nat)→Pg→Option (Nd×Pg)
 | [],s=>some (nd0,s)
 | f::r,s=>match putUp item there r s with
  | none=>none
  | some (up,s1)=>storeP s1 (eM f.1 f.2 up item there)
def putP (s:Pg) (root:Option Nat) (key v:Bs):Option (Nat×Pg) :=
 match root with
 | none=>gB s ⟨[(key,v)],[],[]⟩
 | some n=>match gZ s key 16 n with
  | none=>none
  | some (l,there)=>match putUp (key,v) there l s with
   | none=>none
   | some (up,s1)=>match up.kids with
    | [k]=>some (k,s1)
    | _=>gB s1 up
def lG (a:Nd) (key:Bs) (b:Nd):Nd:=if cK a then ⟨a.items++b.items,[],[]⟩ else ⟨[],a.kids++b.kids,a.keys++[key]++b.keys⟩
def gC (a:Nd) (key:Bs) (b:Nd):Nd×Bs×Nd :=
 if cK a then
  let k:=a.items.length-1
  let bi:=dH b.items 0 [a.items.getD k ([],[])]
  ({ a with items:=cO a.items k (k+1) },(bi.getD 0 ([],[])).1,{ b with items:=bi })
 else
  let k:=a.kids.length-1
  ({ a with kids:=cO a.kids k (k+1),keys:=cO a.keys (k-1) k },a.keys.getD (k-1) [],{ b with kids:=dH b.kids 0 [a.kids.getD k 0],keys:=dH b.keys 0 [key] })
def iR (a:Nd) (key:Bs) (b:Nd):Nd×Bs×Nd :=
 if cK a then
  let bi:=cO b.items 0 1
  ({ a with items:=dH a.items a.items.length [b.items.getD 0 ([],[])] },(bi.getD 0 ([],[])).1,{ b with items:=bi })
 else
  ({ a with kids:=dH a.kids a.kids.length [b.kids.getD 0 0],keys:=dH a.keys a.keys.length [key] },b.keys.getD 0 [],{ b with kids:=cO b.kids 0 1,keys:=cO b.keys 0 1 })
def lS (n:Nd) (first:Nat) (kids:List Nat) (keys:List Bs):Nd :=
 { n with kids:=dH (cO n.kids first (first+2)) first kids,keys:=dH (cO n.keys first (first+1)) first keys }
def eN (s:Pg):List Nd→Option (List Nat×Pg)
 | []=>some ([],s)
 | x::r=>match gB s x with
  | none=>none
  | some (p,s1)=>match eN s1 r with
   | none=>none
   | some (l,s2)=>some (p::l,s2)
def hQ (sib low:Nd) (at':Nat) (key:Bs):List Nd×List Bs :=
 let a:=if at'=0 then low else sib
 let b:=if at'=0 then sib else low
 if bJ sib≤4 then ([lG a key b],[])
 else if 0<at' then ([(gC a key b).1,(gC a key b).2.2],[(gC a key b).2.1])
 else ([(iR a key b).1,(iR a key b).2.2],[(iR a key b).2.1])
def repairP (s:Pg) (n:Nd) (at':Nat) (low:Nd):Option (Nd×Pg) :=
 let first:=at'-1
 let other:=if at'=0 then 1 else first
 match n.kids[other]? with
 | none=>none
 | some k=>match dR s k with
  | none=>none
  | some sib =>
   if cK sib != cK low then none
   else match eN s (hQ sib low at' (n.keys.getD first [])).1 with
    | none=>none
    | some (kids,s1)=>some (lS n first kids (hQ sib low at' (n.keys.getD first [])).2,s1)
def lowerP (s:Pg) (n:Nd) (at':Nat) (low:Nd):Option (Nd×Pg) :=
 if bJ low<4 then repairP s n at' low
 else match gB s low with
  | none=>none
  | some (p,s1)=>some ({ n with kids:=dH (cO n.kids at' (at'+1)) at' [p] },s1)
def mT:List (Nd×Nat)→Pg→Option (Nd×Pg)
 | [],s=>some (nd0,s)
 | f::r,s=>match mT r s with
  | none=>none
  | some (low,s1)=>if cK f.1 then some ({ f.1 with items:=cO f.1.items f.2 (f.2+1) },s1) else lowerP s1 f.1 f.2 low
def delP (s:Pg) (l:List (Nd×Nat)):Option (Option Nat×Pg) :=
 match mT l s with
 | none=>none
 | some (low,s1) =>
  if bJ low=0 then some (none,s1)
  else match low.kids with
   | [k]=>some (some k,s1)
   | _=>match gB s1 low with
    | none=>none
    | some (p,s2)=>some (some p,s2)
structure Part where
 node:Nd
 levels:Nat
 low:Bs
 high:Bs
abbrev eR:=List (Nat×Part)
def gK (m:eR) (n:Nat):Option Part:=(m.find? λ x=>x.1==n).map (·.2)
def fL (nd:Nd):Part:=⟨nd,1,(nd.items.getD 0 ([],[])).1,(nd.items.getD (nd.items.length-1) ([],[])).1⟩
def lH (rec:Nat→eR→Option (Part×eR)) (nd:Nd):List Nat→Nat→Part→eR→Option (Part×eR)
 | [],_,t,m=>if 16<t.levels then none else some (t,m)
 | k::r,i,t,m=>match rec k m with
  | none=>none
  | some (p,m1) =>
   let t1:Part:=if i=0 then ⟨nd,p.levels+1,p.low,p.high⟩ else ⟨nd,t.levels,t.low,p.high⟩
   if bJ p.node<4 || !(p.levels+1==t1.levels) || (decide (0<i)&&decide (dX p.low (nd.keys.getD (i-1) [])<0)) || (decide (i<nd.keys.length)&&decide (0≤dX p.high (nd.keys.getD i []))) then none
   else lH rec nd r (i+1) t1 m1
def kJ (s:Pg):Nat→Nat→eR→Option (Part×eR)
 | f,n,m=>match gK m n with
  | some t=>some (t,m)
  | none=>match f with
   | 0=>none
   | f+1=>match dR s n with
    | none=>none
    | some nd =>
     if cK nd then some (fL nd,(n,fL nd)::m)
     else match lH (kJ s f) nd nd.kids 0 ⟨nd,0,[],[]⟩ m with
      | none=>none
      | some (t,m1)=>some (t,(n,t)::m1)
def treeP (s:Pg) (root:Option Nat) (m:eR):Option (Nat×eR) :=
 match root with
 | none=>some (0,m)
 | some n=>match kJ s 16 n m with
  | none=>none
  | some (t,m1)=>if bJ t.node=0 then none else some (t.levels,m1)
def fT (m:eR):Nat→Nat→dO
 | 0,_=>[]
 | f+1,n=>match gK m n with
  | none=>[]
  | some t=>t.node.items++t.node.kids.flatMap (fT m f)
end Go.Proofs.YtfpadnmdafiddaaGreatDoor
