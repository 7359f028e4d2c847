import Derived.Test.YtfpadnmdafiddaaGreatDoorYg
import Derived.Test.YtfpadnmdafiddaaGreatDoorYh
set_option linter.all false
set_option maxHeartbeats 16000000
set_option maxRecDepth 100000
namespace Go.Proofs.YtfpadnmdafiddaaGreatDoor
def rdBlk (r:Bs):Option (Bs×Bs) :=
 if (numV r).2.2=0 then
  if (numV r).1≤(r.drop (numV r).2.1).length then some ((r.drop (numV r).2.1).take (numV r).1,(r.drop (numV r).2.1).drop (numV r).1) else none
 else none
def le4 (r:Bs):Nat:=r.getD 0 0+256*r.getD 1 0+65536*r.getD 2 0+16777216*r.getD 3 0
def rdWord (r:Bs):Option (Nat×Bs):=if 4≤r.length then some (le4 r,r.drop 4) else none
def rdItems:Nat→Bs→Option (Its×Bs)
 | 0,r=>some ([],r)
 | c+1,r=>match rdBlk r with
  | none=>none
  | some (k,r1)=>match rdBlk r1 with
   | none=>none
   | some (v,r2)=>match rdItems c r2 with
    | none=>none
    | some (l,r3)=>some ((k,v)::l,r3)
def rdKids:Nat→Bs→Option (List Nat×Bs)
 | 0,r=>some ([],r)
 | c+1,r=>match rdWord r with
  | none=>none
  | some (k,r1)=>match rdKids c r1 with
   | none=>none
   | some (l,r3)=>some (k::l,r3)
def rdKeys:Nat→Bs→Option (List Bs×Bs)
 | 0,r=>some ([],r)
 | c+1,r=>match rdBlk r with
  | none=>none
  | some (k,r1)=>match rdKeys c r1 with
   | none=>none
   | some (l,r3)=>some (k::l,r3)
def finN (n:Nd) (r:Bs):Option Nd:=if r.all (λ x=>x==0)&&nodeOk n then some n else none
def readN (b:Bs):Option Nd :=
 match b with
 | kd::c::r =>
  if 8<c then none
  else if kd=0 then (match rdItems c r with
   | none=>none
   | some (l,r1)=>finN ⟨l,[],[]⟩ r1)
  else if kd=1∧2≤c then (match rdKids c r with
   | none=>none
   | some (l,r1)=>match rdKeys (c-1) r1 with
    | none=>none
    | some (ks,r2)=>finN ⟨[],l,ks⟩ r2)
  else none
 | _=>none
theorem readN_ok {b:Bs} {n:Nd} (h:readN b=some n):nodeOk n=true:=by
 have hf:∀ m r,finN m r=some n→nodeOk n=true:=by
  intro m r h
  unfold finN at h
  split at h
  ·rename_i hc
   cases h
   exact (Bool.and_eq_true _ _▸hc).2
  ·cases h
 unfold readN at h
 split at h
 ·split at h
  ·cases h
  ·split at h
   ·split at h
    ·cases h
    ·exact hf _ _ h
   ·split at h
    ·split at h
     ·cases h
     ·split at h
      ·cases h
      ·exact hf _ _ h
    ·cases h
 ·cases h
theorem rdBlk_enc {p:Bs} (hp:p.length<18446744073709551616) (t:Bs):rdBlk (blkB p++t)=some (p,t):=by
 unfold rdBlk blkB
 rw [List.append_assoc,numV_enc hp]
 have e:(encL p.length++(p++t)).drop (sz p.length)=p++t:=by
  rw [← length_encL];exact List.drop_left' rfl
 simp only [e]
 simp
theorem rdWord_enc {n:Nat} (hn:n<4294967296) (t:Bs):rdWord (word4 n++t)=some (n,t):=by
 unfold rdWord word4
 simp [le4]
 omega
theorem rdItems_enc:∀ (l:Its) (t:Bs),(∀ x∈l,x.1.length<1000∧x.2.length<1000)→rdItems l.length (l.flatMap (λ x=>blkB x.1++blkB x.2)++t)=some (l,t)
 | [],t,_=>rfl
 | x::l,t,h=>by
  have hx:=h x (by simp)
  simp only [List.flatMap_cons,List.length_cons,rdItems,List.append_assoc]
  rw [rdBlk_enc (by omega)]
  simp only
  rw [rdBlk_enc (by omega)]
  simp only
  rw [rdItems_enc l t (λ y hy=>h y (List.mem_cons_of_mem _ hy))]
theorem rdKids_enc:∀ (l:List Nat) (t:Bs),(∀ x∈l,x<4294967296)→rdKids l.length (l.flatMap word4++t)=some (l,t)
 | [],t,_=>rfl
 | x::l,t,h=>by
  have hx:=h x (by simp)
  simp only [List.flatMap_cons,List.length_cons,rdKids,List.append_assoc]
  rw [rdWord_enc hx]
  simp only
  rw [rdKids_enc l t (λ y hy=>h y (List.mem_cons_of_mem _ hy))]
theorem rdKeys_enc:∀ (l:List Bs) (t:Bs),(∀ x∈l,x.length<1000)→rdKeys l.length (l.flatMap blkB++t)=some (l,t)
 | [],t,_=>rfl
 | x::l,t,h=>by
  have hx:=h x (by simp)
  simp only [List.flatMap_cons,List.length_cons,rdKeys,List.append_assoc]
  rw [rdBlk_enc (by omega)]
  simp only
  rw [rdKeys_enc l t (λ y hy=>h y (List.mem_cons_of_mem _ hy))]
theorem allAt_at {f:Nat→Bool} {n:Nat} (h:allAt f n=true) {i:Nat} (hi:i<n):f i=true:=List.all_eq_true.1 h i (List.mem_range.2 hi)
theorem allAt_mk {f:Nat→Bool} {n:Nat} (h:∀ i,i<n→f i=true):allAt f n=true:=List.all_eq_true.2 λ i hi=>h i (List.mem_range.1 hi)
theorem item_ok {l:Its} (h:allAt (itemAt l) l.length=true) {x:Bs×Bs} (hx:x∈l):keyOk x.1=true∧valOk x.2=true:=by
 obtain ⟨i,hi,rfl⟩:=List.mem_iff_getElem.1 hx
 have h:=allAt_at h hi
 simp only [itemAt,List.getElem?_eq_getElem hi,Bool.and_eq_true] at h
 exact h.1
theorem key_ok' {l:List Bs} (h:allAt (keyAt l) l.length=true) {x:Bs} (hx:x∈l):keyOk x=true:=by
 obtain ⟨i,hi,rfl⟩:=List.mem_iff_getElem.1 hx
 have h:=allAt_at h hi
 simp only [keyAt,List.getElem?_eq_getElem hi,Bool.and_eq_true] at h
 exact h.1
theorem kid_ok {l:List Nat} (h:allAt (kidAt l) l.length=true) {x:Nat} (hx:x∈l):x<2147483648:=by
 obtain ⟨i,hi,rfl⟩:=List.mem_iff_getElem.1 hx
 have h:=allAt_at h hi
 simp only [kidAt,List.getElem?_eq_getElem hi,Bool.and_eq_true,decide_eq_true_eq] at h
 exact h.1
theorem keyOk_len {k:Bs} (h:keyOk k=true):1≤k.length∧k.length≤16:=by simpa [keyOk] using h
theorem valOk_len {k:Bs} (h:valOk k=true):k.length≤32:=by simpa [valOk] using h
theorem wholeB_parts {n:Nd} (h:wholeB n=true):n.items=[]∧2≤n.kids.length∧n.kids.length≤8∧n.keys.length+1=n.kids.length∧allAt (kidAt n.kids) n.kids.length=true∧allAt (keyAt n.keys) n.keys.length=true:=by
 simp only [wholeB,Bool.and_eq_true,decide_eq_true_eq,List.isEmpty_iff] at h
 exact ⟨h.1.1.1.1.1,h.1.1.1.1.2,h.1.1.1.2,h.1.1.2,h.1.2,h.2⟩
theorem wholeL_parts {n:Nd} (h:wholeL n=true):n.keys=[]∧n.items.length≤8∧allAt (itemAt n.items) n.items.length=true:=by
 simp only [wholeL,Bool.and_eq_true,decide_eq_true_eq,List.isEmpty_iff] at h
 exact ⟨h.1.1,h.1.2,h.2⟩
theorem leafN_iff {n:Nd}:leafN n=true↔n.kids=[]:=List.isEmpty_iff
theorem all0 (n:Nat):(List.replicate n 0).all (λ x=>x==0)=true:=by
 rw [List.all_eq_true]
 intro x hx
 have:=List.eq_of_mem_replicate hx
 subst this
 rfl
theorem readN_bytes {n:Nd} (h:nodeOk n=true) (z:Nat):readN (bytesN n++List.replicate z 0)=some n:=by
 have hk:=h
 unfold nodeOk at h
 unfold bytesN
 split at h
 ·rename_i hl
  obtain ⟨h1,h2,h3⟩:=wholeL_parts h
  have h4:=leafN_iff.1 hl
  rw [if_pos hl]
  simp only [List.cons_append,List.nil_append,readN]
  rw [if_neg (by omega),if_pos trivial,rdItems_enc n.items _ (λ x hx=>by
   have:=item_ok h3 hx
   have:=keyOk_len this.1
   have:=valOk_len (item_ok h3 hx).2
   omega)]
  simp only [finN]
  have e:(⟨n.items,[],[]⟩:Nd)=n:=by cases n;simp_all
  rw [e,all0,hk]
  rfl
 ·rename_i hl
  obtain ⟨h1,h2,h3,h4,h5,h6⟩:=wholeB_parts h
  rw [if_neg hl]
  simp only [List.cons_append,List.nil_append,readN]
  rw [if_neg (by omega),if_neg (by omega),if_pos ⟨trivial,h2⟩,List.append_assoc,rdKids_enc n.kids _ (λ x hx=>by have:=kid_ok h5 hx;omega)]
  simp only
  rw [show n.kids.length-1=n.keys.length by omega,rdKeys_enc n.keys _ (λ x hx=>by have:=keyOk_len (key_ok' h6 hx);omega)]
  simp only [finN]
  have e:(⟨[],n.kids,n.keys⟩:Nd)=n:=by cases n;simp_all
  rw [e,all0,hk]
  rfl
end Go.Proofs.YtfpadnmdafiddaaGreatDoor
namespace Go.Proofs.YtfpadnmdafiddaaGreatDoor
def nodeP (s:Pg) (n:Nat):Option Nd:=if usedP s n then readN (s.body n) else none
def writeP (s:Pg) (n:Nd):Option (Nat×Pg):=if nodeOk n then newP s (bytesN n) else none
def insL {α : Type} (l:List α) (at':Nat) (x:List α):List α:=l.take at'++x++l.drop at'
def cutL {α : Type} (l:List α) (a b:Nat):List α:=l.take a++l.drop b
def pathP (s:Pg) (key:Bs):Nat→Nat→Option (List (Nd×Nat)×Bool)
 | 0,_=>none
 | f+1,n=>match nodeP s n with
  | none=>none
  | some nd =>
   if leafN nd then some ([(nd,findN nd.items key)],thereN nd.items key)
   else match nd.kids[kidN nd.keys key]? with
    | none=>none
    | some k=>match pathP s key f k with
     | none=>none
     | some (l,th)=>some ((nd,kidN nd.keys key)::l,th)
def putNode (n:Nd) (at':Nat) (up:Nd) (item:Bs×Bs) (there:Bool):Nd :=
 if leafN n then (if there then { n with items:=insL (cutL n.items at' (at'+1)) at' [item] } else { n with items:=insL n.items at' [item] })
 else { n with kids:=insL (cutL n.kids at' (at'+1)) at' up.kids,keys:=insL n.keys at' up.keys }
def splitN (n:Nd):Nd×Nd×Bs :=
 if leafN n then (⟨cutL n.items 4 n.items.length,[],[]⟩,⟨cutL n.items 0 4,[],[]⟩,((cutL n.items 0 4).getD 0 ([],[])).1)
 else (⟨[],cutL n.kids 4 n.kids.length,cutL n.keys 3 n.keys.length⟩,⟨[],cutL n.kids 0 4,cutL n.keys 0 4⟩,n.keys.getD 3 [])
def storeP (s:Pg) (n:Nd):Option (Nd×Pg) :=
 if 8<sizeN n then match writeP s (splitN n).1 with
  | none=>none
  | some (p,s1)=>match writeP s1 (splitN n).2.1 with
   | none=>none
   | some (q,s2)=>some (⟨[],[p,q],[(splitN n).2.2]⟩,s2)
 else match writeP s n with
  | none=>none
  | some (p,s1)=>some (⟨[],[p],[]⟩,s1)
def putUp (item:Bs×Bs) (there:Bool):List (Nd×Nat)→Pg→Option (Nd×Pg)
 | [],s=>some (nd0,s)
 | f::r,s=>match putUp item there r s with
  | none=>none
  | some (up,s1)=>storeP s1 (putNode f.1 f.2 up item there)
def putP (s:Pg) (root:Option Nat) (key v:Bs):Option (Nat×Pg) :=
 match root with
 | none=>writeP s ⟨[(key,v)],[],[]⟩
 | some n=>match pathP s key 16 n with
  | none=>none
  | some (l,there)=>match putUp (key,v) there l s with
   | none=>none
   | some (up,s1)=>match up.kids with
    | [k]=>some (k,s1)
    | _=>writeP s1 up
def mergeN (a:Nd) (key:Bs) (b:Nd):Nd:=if leafN a then ⟨a.items++b.items,[],[]⟩ else ⟨[],a.kids++b.kids,a.keys++[key]++b.keys⟩
def forthN (a:Nd) (key:Bs) (b:Nd):Nd×Bs×Nd :=
 if leafN a then
  let k:=a.items.length-1
  let bi:=insL b.items 0 [a.items.getD k ([],[])]
  ({ a with items:=cutL a.items k (k+1) },(bi.getD 0 ([],[])).1,{ b with items:=bi })
 else
  let k:=a.kids.length-1
  ({ a with kids:=cutL a.kids k (k+1),keys:=cutL a.keys (k-1) k },a.keys.getD (k-1) [],{ b with kids:=insL b.kids 0 [a.kids.getD k 0],keys:=insL b.keys 0 [key] })
def backN (a:Nd) (key:Bs) (b:Nd):Nd×Bs×Nd :=
 if leafN a then
  let bi:=cutL b.items 0 1
  ({ a with items:=insL a.items a.items.length [b.items.getD 0 ([],[])] },(bi.getD 0 ([],[])).1,{ b with items:=bi })
 else
  ({ a with kids:=insL a.kids a.kids.length [b.kids.getD 0 0],keys:=insL a.keys a.keys.length [key] },b.keys.getD 0 [],{ b with kids:=cutL b.kids 0 1,keys:=cutL b.keys 0 1 })
def spliceN (n:Nd) (first:Nat) (kids:List Nat) (keys:List Bs):Nd :=
 { n with kids:=insL (cutL n.kids first (first+2)) first kids,keys:=insL (cutL n.keys first (first+1)) first keys }
def writeAll (s:Pg):List Nd→Option (List Nat×Pg)
 | []=>some ([],s)
 | x::r=>match writeP s x with
  | none=>none
  | some (p,s1)=>match writeAll s1 r with
   | none=>none
   | some (l,s2)=>some (p::l,s2)
def mendN (sib low:Nd) (at':Nat) (key:Bs):List Nd×List Bs :=
 let a:=if at'=0 then low else sib
 let b:=if at'=0 then sib else low
 if sizeN sib≤4 then ([mergeN a key b],[])
 else if 0<at' then ([(forthN a key b).1,(forthN a key b).2.2],[(forthN a key b).2.1])
 else ([(backN a key b).1,(backN a key b).2.2],[(backN a key b).2.1])
def repairP (s:Pg) (n:Nd) (at':Nat) (low:Nd):Option (Nd×Pg) :=
 let first:=at'-1
 let other:=if at'=0 then 1 else first
 match n.kids[other]? with
 | none=>none
 | some k=>match nodeP s k with
  | none=>none
  | some sib =>
   if leafN sib != leafN low then none
   else match writeAll s (mendN sib low at' (n.keys.getD first [])).1 with
    | none=>none
    | some (kids,s1)=>some (spliceN n first kids (mendN sib low at' (n.keys.getD first [])).2,s1)
def lowerP (s:Pg) (n:Nd) (at':Nat) (low:Nd):Option (Nd×Pg) :=
 if sizeN low<4 then repairP s n at' low
 else match writeP s low with
  | none=>none
  | some (p,s1)=>some ({ n with kids:=insL (cutL n.kids at' (at'+1)) at' [p] },s1)
def delUp:List (Nd×Nat)→Pg→Option (Nd×Pg)
 | [],s=>some (nd0,s)
 | f::r,s=>match delUp r s with
  | none=>none
  | some (low,s1)=>if leafN f.1 then some ({ f.1 with items:=cutL f.1.items f.2 (f.2+1) },s1) else lowerP s1 f.1 f.2 low
def delP (s:Pg) (l:List (Nd×Nat)):Option (Option Nat×Pg) :=
 match delUp l s with
 | none=>none
 | some (low,s1) =>
  if sizeN low=0 then some (none,s1)
  else match low.kids with
   | [k]=>some (some k,s1)
   | _=>match writeP s1 low with
    | none=>none
    | some (p,s2)=>some (some p,s2)
structure Part where
 node:Nd
 levels:Nat
 low:Bs
 high:Bs
abbrev Memo:=List (Nat×Part)
def getM (m:Memo) (n:Nat):Option Part:=(m.find? λ x=>x.1==n).map (·.2)
def leafPart (nd:Nd):Part:=⟨nd,1,(nd.items.getD 0 ([],[])).1,(nd.items.getD (nd.items.length-1) ([],[])).1⟩
def kidsP (rec:Nat→Memo→Option (Part×Memo)) (nd:Nd):List Nat→Nat→Part→Memo→Option (Part×Memo)
 | [],_,t,m=>if 16<t.levels then none else some (t,m)
 | k::r,i,t,m=>match rec k m with
  | none=>none
  | some (p,m1) =>
   let t1:Part:=if i=0 then ⟨nd,p.levels+1,p.low,p.high⟩ else ⟨nd,t.levels,t.low,p.high⟩
   if sizeN p.node<4 || !(p.levels+1==t1.levels) || (decide (0<i)&&decide (cmpB p.low (nd.keys.getD (i-1) [])<0)) || (decide (i<nd.keys.length)&&decide (0≤cmpB p.high (nd.keys.getD i []))) then none
   else kidsP rec nd r (i+1) t1 m1
def partP (s:Pg):Nat→Nat→Memo→Option (Part×Memo)
 | f,n,m=>match getM m n with
  | some t=>some (t,m)
  | none=>match f with
   | 0=>none
   | f+1=>match nodeP s n with
    | none=>none
    | some nd =>
     if leafN nd then some (leafPart nd,(n,leafPart nd)::m)
     else match kidsP (partP s f) nd nd.kids 0 ⟨nd,0,[],[]⟩ m with
      | none=>none
      | some (t,m1)=>some (t,(n,t)::m1)
def treeP (s:Pg) (root:Option Nat) (m:Memo):Option (Nat×Memo) :=
 match root with
 | none=>some (0,m)
 | some n=>match partP s 16 n m with
  | none=>none
  | some (t,m1)=>if sizeN t.node=0 then none else some (t.levels,m1)
def itemsP (m:Memo):Nat→Nat→Its
 | 0,_=>[]
 | f+1,n=>match getM m n with
  | none=>[]
  | some t=>t.node.items++t.node.kids.flatMap (itemsP m f)
end Go.Proofs.YtfpadnmdafiddaaGreatDoor
