import Derived.Test.YtfpadnmdafiddaaGreatDoorMw
set_option linter.all false
set_option maxHeartbeats 16000000
set_option maxRecDepth 100000
namespace Go.Proofs.YtfpadnmdafiddaaGreatDoor
def kD (b:Bs):Prop:=∀ x∈b,x<256
def NdB (n:Nd):Prop:=(∀ x∈n.items,kD x.1∧kD x.2)∧∀ k∈n.keys,kD k
def PgB (s:Pg):Prop:=∀ n,kD (s.body n)
theorem lN {a b:Bs} (ha:kD a) (hb:kD b):kD (a++b):=λ x hx=>(List.mem_append.1 hx).elim (ha x) (hb x)
theorem rdBlk_by {r p t:Bs} (hr:kD r) (h:kI r=some (p,t)):kD p∧kD t:=by
 unfold kI at h
 split at h
 ·split at h
  ·simp only [Option.some.injEq,Prod.mk.injEq] at h
   obtain ⟨rfl,rfl⟩:=h
   exact ⟨λ x hx=>hr x (List.mem_of_mem_drop (List.mem_of_mem_take hx)),λ x hx=>hr x (List.mem_of_mem_drop (List.mem_of_mem_drop hx))⟩
  ·cases h
 ·cases h
theorem rdItems_by:∀ {c:Nat} {r t:Bs} {l:dO},kD r→kP c r=some (l,t)→(∀ x∈l,kD x.1∧kD x.2)∧kD t
 | 0,r,t,l,hr,h=>by
  simp only [kP,Option.some.injEq,Prod.mk.injEq] at h
  obtain ⟨rfl,rfl⟩:=h
  exact ⟨by simp,hr⟩
 | c+1,r,t,l,hr,h=>by
  unfold kP at h
  split at h
  ·cases h
  rename_i k r1 e1
  split at h
  ·cases h
  rename_i v r2 e2
  split at h
  ·cases h
  rename_i l' r3 e3
  simp only [Option.some.injEq,Prod.mk.injEq] at h
  obtain ⟨rfl,rfl⟩:=h
  obtain ⟨b1,b2⟩:=rdBlk_by hr e1
  obtain ⟨b3,b4⟩:=rdBlk_by b2 e2
  obtain ⟨b5,b6⟩:=rdItems_by b4 e3
  refine ⟨λ x hx=>?_,b6⟩
  rcases List.mem_cons.1 hx with rfl|hx
  ·exact ⟨b1,b3⟩
  ·exact b5 x hx
theorem rdKids_by:∀ {c:Nat} {r t:Bs} {l:List Nat},kD r→rdKids c r=some (l,t)→kD t
 | 0,r,t,l,hr,h=>by
  simp only [rdKids,Option.some.injEq,Prod.mk.injEq] at h
  obtain ⟨rfl,rfl⟩:=h
  exact hr
 | c+1,r,t,l,hr,h=>by
  unfold rdKids at h
  split at h
  ·cases h
  rename_i k r1 e1
  split at h
  ·cases h
  rename_i l' r3 e3
  simp only [Option.some.injEq,Prod.mk.injEq] at h
  obtain ⟨rfl,rfl⟩:=h
  refine rdKids_by (r:=r1) ?_ e3
  unfold rdWord at e1
  split at e1
  ·simp only [Option.some.injEq,Prod.mk.injEq] at e1
   obtain ⟨rfl,rfl⟩:=e1
   exact λ x hx=>hr x (List.mem_of_mem_drop hx)
  ·cases e1
theorem rdKeys_by:∀ {c:Nat} {r t:Bs} {l:List Bs},kD r→rdKeys c r=some (l,t)→(∀ x∈l,kD x)∧kD t
 | 0,r,t,l,hr,h=>by
  simp only [rdKeys,Option.some.injEq,Prod.mk.injEq] at h
  obtain ⟨rfl,rfl⟩:=h
  exact ⟨by simp,hr⟩
 | c+1,r,t,l,hr,h=>by
  unfold rdKeys at h
  split at h
  ·cases h
  rename_i k r1 e1
  split at h
  ·cases h
  rename_i l' r3 e3
  simp only [Option.some.injEq,Prod.mk.injEq] at h
  obtain ⟨rfl,rfl⟩:=h
  obtain ⟨b1,b2⟩:=rdBlk_by hr e1
  obtain ⟨b5,b6⟩:=rdKeys_by b2 e3
  refine ⟨λ x hx=>?_,b6⟩
  rcases List.mem_cons.1 hx with rfl|hx
  ·exact b1
  ·exact b5 x hx
theorem finN_eq {m n:Nd} {r:Bs} (h:finN m r=some n):m=n:=by
 unfold finN at h
 split at h
 ·simpa using h
 ·cases h
theorem readN_by {b:Bs} {n:Nd} (hb:kD b) (h:gG b=some n):NdB n:=by
 unfold gG at h
 split at h
 rotate_left
 ·cases h
 rename_i kd c r
 have hr:kD r:=λ x hx=>hb x (by simp [hx])
 split at h
 ·cases h
 ·split at h
  ·split at h
   ·cases h
   ·rename_i l r1 e1
    have:=finN_eq h
    subst this
    exact ⟨(rdItems_by hr e1).1,by simp⟩
  ·split at h
   ·split at h
    ·cases h
    ·rename_i l r1 e1
     split at h
     ·cases h
     ·rename_i ks r2 e2
      have:=finN_eq h
      subst this
      exact ⟨by simp,(rdKeys_by (rdKids_by hr e1) e2).1⟩
   ·cases h
theorem nodeP_by {s:Pg} {n:Nat} {nd:Nd} (hs:PgB s) (h:dR s n=some nd):NdB nd:=by
 unfold dR at h
 split at h
 ·exact readN_by (hs n) h
 ·cases h
theorem encL_by:∀ n:Fin 40,∀ x∈encL n.val,x<256:=by decide +kernel
theorem blkB_by {p:Bs} (h:p.length<40) (hp:kD p):kD (jN p):=lN (λ x hx=>encL_by ⟨p.length,h⟩ x hx) hp
theorem kY {n:Nd} (hk:cE n=true) (h:NdB n):kD (fN n):=by
 unfold cE at hk
 unfold fN
 split at hk
 ·rename_i hl
  obtain ⟨h1,h2,h3⟩:=dL hk
  rw [if_pos hl]
  refine lN (λ x hx=>?_) (λ x hx=>?_)
  ·simp only [List.mem_cons,List.not_mem_nil,or_false] at hx
   omega
  ·obtain ⟨y,hy,hxy⟩:=List.mem_flatMap.1 hx
   have g1:=gJ (mB h3 hy).1
   have g2:=jA (mB h3 hy).2
   exact lN (blkB_by (by omega) (h.1 y hy).1) (blkB_by (by omega) (h.1 y hy).2) x hxy
 ·rename_i hl
  obtain ⟨h1,h2,h3,h4,h5,h6⟩:=cT hk
  rw [if_neg hl]
  refine lN (lN (λ x hx=>?_) (λ x hx=>?_)) (λ x hx=>?_)
  ·simp only [List.mem_cons,List.not_mem_nil,or_false] at hx
   omega
  ·obtain ⟨y,hy,hxy⟩:=List.mem_flatMap.1 hx
   simp only [fW,List.mem_cons,List.not_mem_nil,or_false] at hxy
   omega
  ·obtain ⟨y,hy,hxy⟩:=List.mem_flatMap.1 hx
   have g1:=gJ (key_ok' h6 hy)
   exact blkB_by (by omega) (h.2 y hy) x hxy
theorem jY {α : Type} {l x:List α} {i:Nat} {a : α} (h:a∈dH l i x):a∈l∨a∈x:=by
 simp only [dH,List.mem_append] at h
 rcases h with (h|h)|h
 ·exact .inl (List.mem_of_mem_take h)
 ·exact .inr h
 ·exact .inl (List.mem_of_mem_drop h)
theorem gH {α : Type} {l:List α} {i j:Nat} {a : α} (h:a∈cO l i j):a∈l:=by
 simp only [cO,List.mem_append] at h
 rcases h with h|h
 ·exact List.mem_of_mem_take h
 ·exact List.mem_of_mem_drop h
theorem putNode_by {n up:Nd} {i:Nat} {item:Bs×Bs} {th:Bool} (hn:NdB n) (hu:NdB up) (h1:kD item.1) (h2:kD item.2):NdB (eM n i up item th):=by
 unfold eM
 split
 ·split
  ·refine ⟨λ x hx=>?_,hn.2⟩
   rcases jY hx with hx|hx
   ·exact hn.1 x (gH hx)
   ·simp only [List.mem_singleton] at hx;subst hx;exact ⟨h1,h2⟩
  ·refine ⟨λ x hx=>?_,hn.2⟩
   rcases jY hx with hx|hx
   ·exact hn.1 x hx
   ·simp only [List.mem_singleton] at hx;subst hx;exact ⟨h1,h2⟩
 ·refine ⟨hn.1,λ x hx=>?_⟩
  rcases jY hx with hx|hx
  ·exact hn.2 x hx
  ·exact hu.2 x hx
theorem getD_by {l:List Bs} (h:∀ k∈l,kD k) (i:Nat):kD (l.getD i []):=by
 rw [List.getD_eq_getElem?_getD]
 cases e:l[i]? with
 | none=>intro x hx;cases hx
 | some y=>exact h y (List.mem_of_getElem? e)
theorem getI_by {l:dO} (h:∀ x∈l,kD x.1∧kD x.2) (i:Nat):kD (l.getD i ([],[])).1∧kD (l.getD i ([],[])).2:=by
 rw [List.getD_eq_getElem?_getD]
 cases e:l[i]? with
 | none=>refine ⟨λ x hx=>?_,λ x hx=>?_⟩<;>cases hx
 | some y=>exact h y (List.mem_of_getElem? e)
theorem splitN_by {n:Nd} (hn:NdB n):NdB (dM n).1∧NdB (dM n).2.1∧kD (dM n).2.2:=by
 unfold dM
 split
 ·exact ⟨⟨λ x hx=>hn.1 x (gH hx),by simp⟩,⟨λ x hx=>hn.1 x (gH hx),by simp⟩,(getI_by (λ x hx=>hn.1 x (gH hx)) 0).1⟩
 ·exact ⟨⟨by simp,λ x hx=>hn.2 x (gH hx)⟩,⟨by simp,λ x hx=>hn.2 x (gH hx)⟩,getD_by hn.2 3⟩
theorem mendN_by {sib low:Nd} {i:Nat} {key:Bs} (h1:NdB sib) (h2:NdB low) (hk:kD key):(∀ x∈(hQ sib low i key).1,NdB x)∧∀ k∈(hQ sib low i key).2,kD k:=by
 have ha:NdB (if i=0 then low else sib):=by split<;>assumption
 have hb:NdB (if i=0 then sib else low):=by split<;>assumption
 unfold hQ
 generalize (if i=0 then low else sib)=a at *
 generalize (if i=0 then sib else low)=b at *
 simp only
 split
 ·refine ⟨λ x hx=>?_,by simp⟩
  simp only [List.mem_singleton] at hx
  subst hx
  unfold lG
  split
  ·exact ⟨λ x hx=>(List.mem_append.1 hx).elim (ha.1 x) (hb.1 x),by simp⟩
  ·refine ⟨by simp,λ x hx=>?_⟩
   simp only [List.mem_append,List.mem_singleton] at hx
   rcases hx with (hx|rfl)|hx
   ·exact ha.2 x hx
   ·exact hk
   ·exact hb.2 x hx
 ·split
  ·simp only [List.mem_cons,List.not_mem_nil,or_false,forall_eq_or_imp,forall_eq]
   unfold gC
   split
   ·have hi:∀ x∈dH b.items 0 [a.items.getD (a.items.length-1) ([],[])],kD x.1∧kD x.2:=λ x hx=>by
     rcases jY hx with hx|hx
     ·exact hb.1 x hx
     ·simp only [List.mem_singleton] at hx;subst hx;exact getI_by ha.1 _
    exact ⟨⟨⟨λ x hx=>ha.1 x (gH hx),ha.2⟩,⟨hi,hb.2⟩⟩,(getI_by hi 0).1⟩
   ·refine ⟨⟨⟨ha.1,λ x hx=>ha.2 x (gH hx)⟩,⟨hb.1,λ x hx=>?_⟩⟩,getD_by ha.2 _⟩
    rcases jY hx with hx|hx
    ·exact hb.2 x hx
    ·simp only [List.mem_singleton] at hx;subst hx;exact hk
  ·simp only [List.mem_cons,List.not_mem_nil,or_false,forall_eq_or_imp,forall_eq]
   unfold iR
   split
   ·refine ⟨⟨⟨λ x hx=>?_,ha.2⟩,⟨λ x hx=>hb.1 x (gH hx),hb.2⟩⟩,(getI_by (λ x hx=>hb.1 x (gH hx)) 0).1⟩
    rcases jY hx with hx|hx
    ·exact ha.1 x hx
    ·simp only [List.mem_singleton] at hx;subst hx;exact getI_by hb.1 _
   ·refine ⟨⟨⟨ha.1,λ x hx=>?_⟩,⟨hb.1,λ x hx=>hb.2 x (gH hx)⟩⟩,getD_by hb.2 _⟩
    rcases jY hx with hx|hx
    ·exact ha.2 x hx
    ·simp only [List.mem_singleton] at hx;subst hx;exact hk
theorem spliceN_by {n:Nd} {i:Nat} {kids:List Nat} {keys:List Bs} (hn:NdB n) (hk:∀ k∈keys,kD k):NdB (lS n i kids keys) :=
 ⟨hn.1,λ x hx=>(jY hx).elim (λ h=>hn.2 x (gH h)) (hk x)⟩
end Go.Proofs.YtfpadnmdafiddaaGreatDoor
