import Derived.Test.YtfpadnmdafiddaaGreatDoorMk
import Derived.Test.YtfpadnmdafiddaaGreatDoorMn
import Derived.Test.YtfpadnmdafiddaaGreatDoorMm
import Derived.Test.YtfpadnmdafiddaaGreatDoorMl
set_option linter.all false
set_option maxHeartbeats 16000000
set_option maxRecDepth 100000
namespace Go.Proofs.YtfpadnmdafiddaaGreatDoor
open Go Go.RowKit Go.V
theorem findN_eq {key:Bs}:∀ {l:dO} {i:Nat},(∀ j x,j<i→l[j]? = some x→hX x.1 key)→(∀ x,l[i]? = some x→¬ hX x.1 key)→i≤l.length→gD l key=i
 | [],i,_,_,h=>by simp at h;subst h;rfl
 | x::l,0,_,h2,_=>by rw [lL,if_neg (h2 x rfl)]
 | x::l,i+1,h1,h2,h3=>by
  rw [lL,if_pos (h1 0 x (by omega) rfl),findN_eq (l:=l) (i:=i) (λ j y hj hy=>h1 (j+1) y (by omega) (by simpa using hy)) (λ y hy=>h2 y (by simpa using hy)) (by simpa using h3)]
theorem kidN_eq {key:Bs}:∀ {l:List Bs} {i:Nat},(∀ j x,j<i→l[j]? = some x→dX x key≤0)→(∀ x,l[i]? = some x→¬ dX x key≤0)→i≤l.length→iQ l key=i
 | [],i,_,_,h=>by simp at h;subst h;rfl
 | x::l,0,_,h2,_=>by
  have:=h2 x rfl
  unfold iQ
  rw [List.takeWhile_cons,if_neg (by simpa using this)];rfl
 | x::l,i+1,h1,h2,h3=>by
  have:=kidN_eq (key:=key) (l:=l) (i:=i) (λ j y hj hy=>h1 (j+1) y (by omega) (by simpa using hy)) (λ y hy=>h2 y (by simpa using hy)) (by simpa using h3)
  unfold iQ at this ⊢
  rw [List.takeWhile_cons,if_pos (by simpa using h1 0 x (by omega) rfl),List.length_cons,this]
theorem find_c (F G:Nat→Prop) (x:NV) (nd:Nd) (b:Option Addr) (m d:Nat) (key:Bs) (w:World) (h:NdAt F w x nd) (hk:Sl G w 1 b m d (cX key)) (hok:cE nd=true) (hl:cK nd=true) :
  Calls Tryz.prog 149 #[x.val,.slice b m d] w (Ret λ v w'=>v=.tuple #[.int .i64 (gD nd.items key:Int),.bool (gF nd.items key)]∧Grow w w'):=by
 have hn1:=h.its.len
 have hn2:=eI h.kids
 have h2:x.n2=0:=by rw [hn2,dK.1 hl];rfl
 have hle:x.n1≤8:=by
  unfold cE at hok
  rw [if_pos hl] at hok
  rw [hn1]
  exact (dL hok).2.1
 refine V.calls (args:=[_,_]) Tryz.func149 rfl Tryz.ntmps149 rfl rfl ?_
 obtain ⟨cs,hs,hcell⟩:=h.its.at'
 repeat (first|(refine aB ?_;refine TL.pure rfl rfl ?_)|(refine aD ?_;refine TL.pure rfl rfl ?_)|(refine aY ?_;first|refine aK rfl yM rfl ?_|refine bK rfl yB (by exact rfl) rfl ?_)|refine aF rfl rfl ?_|refine TL.nil ?_|refine aA ?_|refine aJ ?_|refine aC ?_|refine T.block ?_|(refine aH ?_;refine aQ rfl yD rfl ?_)|(refine aP ?_;(refine bA rfl rfl yB (by exact rfl) (by exact rfl) (by exact rfl) ?_;intro w' hu hbk hsz))|(refine cD ?_;(refine dP rfl rfl ?_;intro bk w' hg hbk hsz hsz'))|(refine bF ?_;(refine TL.alloc rfl rfl ?_;intro bk w' hg hbk hsz hsz'))|refine aO rfl rfl ?_|refine aM rfl ?_|refine aE rfl ?_|refine aW ?_|refine TL.pure rfl rfl ?_|(refine aL 188 ?_;refine aI rfl (check_ok (h.go (Carry.grow yG)) hok) rfl ?_;rintro _ _ ⟨rfl,hgc⟩)|(refine aL 189 ?_;refine aI rfl (shape_leaf x _ h2) rfl ?_;rintro _ _ ⟨rfl,hgc⟩)|(refine mH ?_;refine kU rfl rfl ?_))
 have hg0:Grow w w':=by exact yG
 refine cU (S:=Nat) (λ i=>[(21,.int .i64 (i:Int)),(20,.int .i64 (x.n1:Int)),(19,.slice x.a1 x.n1 x.c1),(1,.slice b m d),(6,.pointer (some ⟨bk,0,none⟩))]) (λ i w1=>Blk w1 bk 269 [.slice x.a1 x.n1 x.c1,.slice x.a3 x.n3 x.c3]∧Grow w w1∧i≤x.n1∧∀ j y,j<i→nd.items[j]? = some y→hX y.1 key) (λ i=>x.n1-i) 0 ⟨rfl,rfl,rfl,rfl,rfl,trivial⟩ ⟨hbk,hg0,by omega,λ j y hj=>by omega⟩ ?_
 clear hbk hg0 hg hu
 rintro i w1 ⟨hbk,hg1,hi,hall⟩
 have hblt:=hbk.lt
 have hs1:=hs.grow hg1
 have hk1:=hk.grow hg1
 by_cases hlt:i<x.n1
 rotate_left
 ·have he:gD nd.items key=x.n1:=findN_eq (λ j y hj hy=>hall j y (by omega) hy) (λ y hy=>by rw [List.getElem?_eq_none (by omega)] at hy;cases hy) (by omega)
  have ht:gF nd.items key=false:=by unfold gF;rw [he,List.getElem?_eq_none (by omega)]
  repeat (first|(refine aD ?_;refine TL.pure rfl rfl ?_)|refine aK rfl yM rfl ?_|refine aF rfl rfl ?_|refine TL.nil ?_|refine aA ?_|refine aJ ?_|refine aC ?_|(refine aH ?_;refine aQ rfl yD rfl ?_)|refine aO rfl rfl ?_|refine aE rfl ?_|refine bE ?_|refine cV ?_|refine bI ?_|refine bN ?_|refine bP ?_|refine cZ ?_|refine bO ?_)
  exact jM rfl rfl ⟨_,rfl,by rw [he,ht],yG⟩
 obtain ⟨y,hy⟩:∃ y,nd.items[i]? = some y:=⟨_,List.getElem?_eq_getElem (by omega)⟩
 obtain ⟨ka,kc,va,vc,g1,g2,s1,s2⟩:=hcell i y hy
 by_cases hc:dX y.1 key<0
 ·repeat (first|refine aV rfl rfl rfl hlt rfl ⟨F,_,hs1⟩ rfl ?_|(refine aY ?_;refine eL rfl hs1 (two_at g1 g2) rfl rfl ?_)|(refine aL 139 ?_;refine aI rfl (gL _ _ _ _ _ _ _ _ _ _ _ (s1.grow yG) (hk.grow yG)) rfl ?_;rintro _ _ ⟨rfl,hgc⟩)|(refine aB ?_;refine TL.pure rfl rfl ?_)|(refine aD ?_;refine TL.pure rfl rfl ?_)|refine aK rfl yM rfl ?_|refine aF rfl rfl ?_|(refine bL ?_;refine bT rfl rfl (by omega) rfl ?_)|refine TL.nil ?_|refine aA ?_|refine aJ ?_|refine aC ?_|refine T.block ?_|refine aS ?_|(refine aH ?_;first|refine aZ rfl yD rfl ?_|refine aQ rfl yD rfl ?_)|(refine aP ?_;(refine bA rfl rfl yB (by exact rfl) (by exact rfl) (by exact rfl) ?_;intro w' hu hbk hsz))|(refine bF ?_;(refine TL.alloc rfl rfl ?_;intro bk w' hg hbk hsz hsz'))|refine aM rfl ?_|refine aE rfl ?_|refine aW ?_)
  exact bG (i+1) ⟨rfl,rfl,rfl,rfl,rfl,trivial⟩ ⟨yB,yG,by omega,λ j z hj hz=>by
   by_cases hj2:j=i
   ·subst hj2;rw [hy] at hz;cases hz;exact hc
   ·exact hall j z (by omega) hz⟩ (by omega)
 ·have he:gD nd.items key=i:=findN_eq hall (λ z hz=>by rw [hy] at hz;cases hz;exact hc) (by omega)
  have ht:gF nd.items key=decide (dX y.1 key=0):=by unfold gF;rw [he,hy]
  repeat (first|refine aV rfl rfl rfl hlt rfl ⟨F,_,hs1⟩ rfl ?_|(refine aY ?_;refine eL rfl hs1 (two_at g1 g2) rfl rfl ?_)|(refine aL 139 ?_;refine aI rfl (gL _ _ _ _ _ _ _ _ _ _ _ (s1.grow yG) (hk.grow yG)) rfl ?_;rintro _ _ ⟨rfl,hgc⟩)|(refine aB ?_;refine TL.pure rfl rfl ?_)|(refine aD ?_;refine TL.pure rfl rfl ?_)|refine aK rfl yM rfl ?_|refine aF rfl rfl ?_|refine TL.nil ?_|refine aA ?_|refine aJ ?_|refine aC ?_|refine T.block ?_|(refine aH ?_;first|refine aZ rfl yD rfl ?_|refine TL.pure rfl rfl ?_)|(refine aP ?_;(refine bA rfl rfl yB (by exact rfl) (by exact rfl) (by exact rfl) ?_;intro w' hu hbk hsz))|(refine bF ?_;(refine TL.alloc rfl rfl ?_;intro bk w' hg hbk hsz hsz'))|refine aM rfl ?_|refine bE ?_|refine aW ?_|refine bI ?_|refine cZ ?_|refine dY ?_)
  refine jM rfl rfl ⟨_,rfl,by rw [he,ht];rfl,yG⟩
theorem kid_c (F G:Nat→Prop) (x:NV) (nd:Nd) (b:Option Addr) (m d:Nat) (key:Bs) (w:World) (h:NdAt F w x nd) (hk:Sl G w 1 b m d (cX key)) (hok:cE nd=true) (hl:cK nd=false) :
  Calls Tryz.prog 150 #[x.val,.slice b m d] w (Ret λ v w'=>v=.int .i64 (iQ nd.keys key:Int)∧Grow w w'):=by
 have hn2:=eI h.kids
 have hn3:=h.kys.len
 have h2:x.n2≠0:=by rw [hn2];intro e;rw [dK.2 (List.eq_nil_of_length_eq_zero e)] at hl;cases hl
 have hle:x.n3≤8:=by
  unfold cE at hok
  rw [if_neg (by rw [hl];simp)] at hok
  have:=cT hok
  omega
 refine V.calls (args:=[_,_]) Tryz.func150 rfl Tryz.ntmps150 rfl rfl ?_
 obtain ⟨cs,hs,hcell⟩:=h.kys.at'
 repeat (first|(refine aB ?_;refine TL.pure rfl rfl ?_)|(refine aD ?_;refine TL.pure rfl rfl ?_)|(refine aY ?_;first|refine aK rfl yM rfl ?_|refine bK rfl yB (by exact rfl) rfl ?_)|refine aF rfl rfl ?_|refine TL.nil ?_|refine aA ?_|refine aJ ?_|refine aC ?_|refine T.block ?_|(refine aH ?_;refine aQ rfl yD rfl ?_)|(refine aP ?_;(refine bA rfl rfl yB (by exact rfl) (by exact rfl) (by exact rfl) ?_;intro w' hu hbk hsz))|(refine cD ?_;(refine dP rfl rfl ?_;intro bk w' hg hbk hsz hsz'))|(refine bF ?_;(refine TL.alloc rfl rfl ?_;intro bk w' hg hbk hsz hsz'))|refine aO rfl rfl ?_|refine aM rfl ?_|refine aE rfl ?_|refine aW ?_|refine TL.pure rfl rfl ?_|(refine aL 188 ?_;refine aI rfl (check_ok (h.go (Carry.grow yG)) hok) rfl ?_;rintro _ _ ⟨rfl,hgc⟩)|(refine aL 189 ?_;refine aI rfl (kN x _ h2) rfl ?_;rintro _ _ ⟨rfl,hgc⟩)|(refine mH ?_;refine kU rfl rfl ?_))
 have hg0:Grow w w':=by exact yG
 refine cU (S:=Nat) (λ i=>[(19,.int .i64 (i:Int)),(18,.int .i64 (x.n3:Int)),(17,.slice x.a3 x.n3 x.c3),(1,.slice b m d),(5,.pointer (some ⟨bk,0,none⟩))]) (λ i w1=>Blk w1 bk 271 x.cs∧Grow w w1∧i≤x.n3∧∀ j y,j<i→nd.keys[j]? = some y→dX y key≤0) (λ i=>x.n3-i) 0 ⟨rfl,rfl,rfl,rfl,rfl,trivial⟩ ⟨hbk,hg0,by omega,λ j y hj=>by omega⟩ ?_
 clear hbk hg0 hg hu
 rintro i w1 ⟨hbk,hg1,hi,hall⟩
 have hblt:=hbk.lt
 have hs1:=hs.grow hg1
 have hk1:=hk.grow hg1
 by_cases hlt:i<x.n3
 rotate_left
 ·have he:iQ nd.keys key=x.n3:=kidN_eq (λ j y hj hy=>hall j y (by omega) hy) (λ y hy=>by rw [List.getElem?_eq_none (by omega)] at hy;cases hy) (by omega)
  repeat (first|(refine aD ?_;refine TL.pure rfl rfl ?_)|refine aK rfl yM rfl ?_|refine aF rfl rfl ?_|refine TL.nil ?_|refine aA ?_|refine aJ ?_|refine aC ?_|(refine aH ?_;refine aQ rfl yD rfl ?_)|refine aO rfl rfl ?_|refine aE rfl ?_|refine bE ?_|refine cV ?_|refine bI ?_|refine bN ?_|refine bP ?_|refine cZ ?_|refine bO ?_)
  exact cI rfl ⟨_,rfl,by rw [he],yG⟩
 obtain ⟨y,hy⟩:∃ y,nd.keys[i]? = some y:=⟨_,List.getElem?_eq_getElem (by omega)⟩
 obtain ⟨ka,kc,g1,s1⟩:=hcell i y hy
 have hcx:w1.cell? (at' x.a3 i)=some (.slice ka y.length kc):=hs1.row.cell g1
 by_cases hc:dX y key≤0
 ·repeat (first|(refine bC ?_;refine aV rfl rfl rfl hlt (Nat.mul_one _) ⟨F,_,hs1⟩ rfl ?_)|(refine aL 139 ?_;refine aI rfl (gL _ _ _ _ _ _ _ _ _ _ _ (s1.grow yG) (hk.grow yG)) rfl ?_;rintro _ _ ⟨rfl,hgc⟩)|(refine aB ?_;refine TL.pure rfl rfl ?_)|(refine aD ?_;refine TL.pure rfl rfl ?_)|refine aK rfl yM rfl ?_|(refine bL ?_;refine bT rfl rfl (by omega) rfl ?_)|refine TL.nil ?_|refine aA ?_|refine aJ ?_|refine aC ?_|refine T.block ?_|refine aS ?_|(refine aH ?_;first|refine aZ rfl yD rfl ?_|refine aQ rfl yD rfl ?_)|refine aM rfl ?_|refine aE rfl ?_|refine aW ?_)
  exact bG (i+1) ⟨rfl,rfl,rfl,rfl,rfl,trivial⟩ ⟨yB,yG,by omega,λ j z hj hz=>by
   by_cases hj2:j=i
   ·subst hj2;rw [hy] at hz;cases hz;exact hc
   ·exact hall j z (by omega) hz⟩ (by omega)
 ·have he:iQ nd.keys key=i:=kidN_eq hall (λ z hz=>by rw [hy] at hz;cases hz;exact hc) (by omega)
  repeat (first|(refine bC ?_;refine aV rfl rfl rfl hlt (Nat.mul_one _) ⟨F,_,hs1⟩ rfl ?_)|(refine aL 139 ?_;refine aI rfl (gL _ _ _ _ _ _ _ _ _ _ _ (s1.grow yG) (hk.grow yG)) rfl ?_;rintro _ _ ⟨rfl,hgc⟩)|(refine aB ?_;refine TL.pure rfl rfl ?_)|(refine aD ?_;refine TL.pure rfl rfl ?_)|refine aK rfl yM rfl ?_|refine TL.nil ?_|refine aA ?_|refine aJ ?_|refine aC ?_|refine T.block ?_|(refine aH ?_;refine aZ rfl yD rfl ?_)|refine aM rfl ?_|refine bE ?_|refine aW ?_|refine bI ?_|refine cZ ?_|refine dY ?_)
  refine cI rfl ⟨_,rfl,by rw [he],yG⟩
end Go.Proofs.YtfpadnmdafiddaaGreatDoor
namespace Go.Proofs.YtfpadnmdafiddaaGreatDoor
open Go Go.RowKit Go.V
theorem kQ {w:World} {base e sz:Nat}:w.ownsRow base e sz (.slice none 0 0) 0 []:=⟨by simp,.inl ⟨rfl,rfl⟩⟩
theorem take_step {α : Type} {l:List α} {i:Nat} {x : α} (h:l[i]? = some x):l.take (i+1)=l.take i++[x]:=by
 obtain ⟨hi,rfl⟩:=List.getElem?_eq_some_iff.1 h
 rw [List.take_succ_eq_append_getElem hi]
theorem bytes_leaf (F:Nat→Prop) (x:NV) (nd:Nd) (w:World) (h:NdAt F w x nd) (hok:cE nd=true) (hl:cK nd=true) :
  Calls Tryz.prog 154 #[x.val] w (Ret λ v w'=>∃ u,v=.tuple #[u,.int .i64 0]∧w'.ownsRow w.heap.size 5 1 u (fN nd).length (cX (fN nd))∧Grow w w'):=by
 have hn1:=h.its.len
 have hn2:=eI h.kids
 have h2:x.n2=0:=by rw [hn2,dK.1 hl];rfl
 have hwl:=hok
 unfold cE at hwl
 rw [if_pos hl] at hwl
 obtain ⟨_,h8,hits⟩:=dL hwl
 have hle:x.n1≤8:=by rw [hn1];exact h8
 refine V.calls (args:=[_]) Tryz.func154 rfl Tryz.ntmps154 rfl rfl ?_
 obtain ⟨cs,hs,hcell⟩:=h.its.at'
 repeat (first|(refine aB ?_;refine TL.pure rfl rfl ?_)|(refine aD ?_;refine TL.pure rfl rfl ?_)|(refine aY ?_;first|refine aK rfl yM rfl ?_|refine bK rfl yB (by exact rfl) rfl ?_)|refine aF rfl rfl ?_|refine TL.nil ?_|refine aA ?_|refine aJ ?_|refine aC ?_|refine T.block ?_|(refine aH ?_;refine aQ rfl yD rfl ?_)|(refine cR ?_;refine eQ rfl rfl (by omega) rfl ?_)|(refine aP ?_;(refine bA rfl rfl yB (by exact rfl) (by exact rfl) (by exact rfl) ?_;intro w' hu hbk hsz))|(refine cD ?_;(refine dP rfl rfl ?_;intro bk w' hg hbk hsz hsz'))|(refine bF ?_;(refine TL.alloc rfl rfl ?_;intro bk w' hg hbk hsz hsz'))|refine aO rfl rfl ?_|refine aM rfl ?_|refine aE rfl ?_|refine aW ?_|refine TL.pure rfl rfl ?_|(refine aL 188 ?_;refine aI rfl (check_ok (h.go (Carry.grow yG)) hok) rfl ?_;rintro _ _ ⟨rfl,hgc⟩)|(refine aL 189 ?_;refine aI rfl (shape_leaf x _ h2) rfl ?_;rintro _ _ ⟨rfl,hgc⟩)|(refine mH ?_;refine kU rfl rfl ?_))
 have hg0:Grow w w':=by exact yG
 refine TL.buildSlice rfl rfl rfl rfl rfl ?_
 intro b w3 hg3 hb3 hs3 hs4 hs5
 have hsl:Sl (λ _=>True) w3 1 (some ⟨b,0,none⟩) 2 2 (cX [0,x.n1]):=(bR (sz:=1) (m:=2) hb3 hs5 (by decide)).mono (λ _ _=>trivial)
 have hbk3:=hbk.grow hg3
 have hsz3:=hg3.size
 have hsz0:=hg0.size
 refine TL.append (base:=w.heap.size) rfl rfl kQ hsl (eD [0,x.n1]) (by unfold maxLen;omega) (by omega) (by omega) rfl ?_
 intro v1 w4 hown4 hgb4 _
 have hbk4:Blk w4 bk 269 [.slice x.a1 x.n1 x.c1,.slice x.a3 x.n3 x.c3]:=fG hgb4 (by simp [Value.ownBlock]) hbk3
 have hg4:Grow w w4:=Grow.mk (cH hgb4 (by omega) (λ k hk=>by cases hk) (hg0.trans hg3).1)
 clear hbk hbk3 hgb4 hb3 hg3 hsl hu hg
 repeat (first|(refine aB ?_;refine TL.pure rfl rfl ?_)|(refine aD ?_;refine TL.pure rfl rfl ?_)|refine aK rfl yM rfl ?_|refine aF rfl rfl ?_|refine TL.nil ?_|refine aA ?_|refine aJ ?_|refine aC ?_|refine T.block ?_|refine aO rfl rfl ?_)
 refine cU (S:=Value×Nat×Nat) (λ s=>[(34,.int .i64 (s.2.2:Int)),(33,.int .i64 (x.n1:Int)),(32,.slice x.a1 x.n1 x.c1),(5,s.1)]) (λ s w2=>s.2.2≤x.n1∧s.2.1≤2+50*s.2.2∧w2.ownsRow w.heap.size 5 1 s.1 s.2.1 (cX ([0,x.n1]++(nd.items.take s.2.2).flatMap (λ y=>jN y.1++jN y.2)))∧Grow w w2) (λ s=>x.n1-s.2.2) (v1,2,0) ⟨rfl,rfl,rfl,rfl,trivial⟩ ⟨by show 0≤x.n1;omega,by show 2≤2+50*0;omega,by simpa using hown4,hg4⟩ ?_
 clear hbk4 hg4 hown4
 rintro ⟨u,k,i⟩ w1 ⟨hi,hk,hown,hg1⟩
 simp only at hi hk hown
 refine dD (e':=[(34,.int .i64 (i:Int)),(33,.int .i64 (x.n1:Int)),(32,.slice x.a1 x.n1 x.c1),(5,u)]) ?_ ⟨rfl,rfl,rfl,rfl,trivial⟩
 have hs1:=hs.grow hg1
 have hsz1:=hg1.size
 by_cases hlt:i<x.n1
 rotate_left
 ·obtain rfl:i=x.n1:=by omega
  repeat (first|(refine aB ?_;refine TL.pure rfl rfl ?_)|(refine aD ?_;refine TL.pure rfl rfl ?_)|refine TL.nil ?_|refine aA ?_|refine aJ ?_|refine aC ?_|refine aS ?_|(refine aH ?_;refine aQ rfl yD rfl ?_)|refine aE rfl ?_|refine bE ?_|refine cV ?_|refine bN ?_|refine bP ?_|refine bO ?_)
  refine jM rfl rfl ⟨_,rfl,_,rfl,?_,hg1⟩
  have e:fN nd=[0,x.n1]++(nd.items.take x.n1).flatMap (λ y=>jN y.1++jN y.2):=by
   unfold fN
   rw [if_pos hl,hn1,List.take_length]
  rw [e]
  have:=hown.1
  rw [dA,Nat.mul_one] at this
  rw [this]
  exact hown
 obtain ⟨y,hy⟩:∃ y,nd.items[i]? = some y:=⟨_,List.getElem?_eq_getElem (by omega)⟩
 obtain ⟨ka,kc,va,vc,g1,g2,s1,s2⟩:=hcell i y hy
 have hko:=mB hits (List.mem_of_getElem? hy)
 have hk1:=gJ hko.1
 have hv1:=jA hko.2
 have lk:=jE y.1 (by omega)
 have lv:=jE y.2 (by omega)
 repeat (first|refine aV rfl rfl rfl hlt rfl ⟨F,_,hs1⟩ rfl ?_|(refine aY ?_;refine eL rfl hs1 (two_at g1 g2) rfl rfl ?_)|(refine aB ?_;refine TL.pure rfl rfl ?_)|refine aK rfl yM rfl ?_|refine aF rfl rfl ?_|refine TL.nil ?_|refine aA ?_|refine aJ ?_|refine aC ?_|refine T.block ?_|(refine aH ?_;refine aZ rfl yD rfl ?_)|(refine aP ?_;(refine bA rfl rfl yB (by exact rfl) (by exact rfl) (by exact rfl) ?_;intro w' hu hbk hsz))|(refine bF ?_;(refine TL.alloc rfl rfl ?_;intro bk w' hg hbk hsz hsz'))|refine aM rfl ?_|refine aW ?_)
 have hgA1:Grow w1 w':=by exact yG
 have hgA:Grow w w':=hg1.trans hgA1
 have hownA:=cL hown hgA1
 refine aI rfl (block_c F ka _ kc y.1 _ (s1.grow hgA) (by omega)) rfl ?_
 rintro bv wb ⟨hob,hgb⟩
 obtain ⟨ba,bc,rfl,hsb⟩:=bX hob
 have hszA:=hgA.size
 have hszb:=hgb.size
 refine TL.append rfl rfl (cL hownA hgb) hsb (eD _) (by unfold maxLen;omega) (by omega) (by omega) rfl ?_
 intro v5 w5 hown5 hgb5 _
 have hg5:Grow w w5:=Grow.mk (cH hgb5 (by omega) (λ k hk=>(cJ (cL hownA hgb) hk).1) (hgA.trans hgb).1)
 have hbkB:=hbk.grow hgb
 have hbk5:Blk w5 bk 58 [.slice ka y.1.length kc,.slice va y.2.length vc]:=fG hgb5 (λ e=>by have:=cJ hown e;omega) hbkB
 clear hownA hgA hgA1 hob hsb hgb hgb5 hbk hbkB hu hg hown
 repeat (first|(refine aB ?_;refine TL.pure rfl rfl ?_)|(refine aD ?_;refine TL.pure rfl rfl ?_)|refine aK rfl yM rfl ?_|refine aF rfl rfl ?_|refine TL.nil ?_|refine aA ?_|refine aC ?_)
 refine aI rfl (block_c F va _ vc y.2 _ (s2.grow hg5) (by omega)) rfl ?_
 rintro bv wb ⟨hob,hgb⟩
 obtain ⟨ba,bc,rfl,hsb⟩:=bX hob
 have hsz5:=hg5.size
 have hszb:=hgb.size
 refine TL.append rfl rfl (cL hown5 hgb) hsb (eD _) (by unfold maxLen;omega) (by omega) (by omega) rfl ?_
 intro v6 w6 hown6 hgb6 _
 have hg6:Grow w w6:=Grow.mk (cH hgb6 (by omega) (λ k hk=>(cJ (cL hown5 hgb) hk).1) (hg5.trans hgb).1)
 repeat (first|(refine aB ?_;refine TL.pure rfl rfl ?_)|(refine aD ?_;refine TL.pure rfl rfl ?_)|(refine bL ?_;refine bT rfl rfl (by omega) rfl ?_)|refine TL.nil ?_|refine aA ?_|refine aC ?_|refine aS ?_)
 refine bG (v6,k+(jN y.1).length+(jN y.2).length,i+1) ⟨rfl,rfl,rfl,rfl,trivial⟩ ⟨hlt,by simp only;omega,?_,hg6⟩ (by simp only;omega)
 simp only
 rw [take_step hy,List.flatMap_append]
 simp only [List.flatMap_cons,List.flatMap_nil,List.append_nil,gW,← List.append_assoc] at hown6 ⊢
 exact hown6
end Go.Proofs.YtfpadnmdafiddaaGreatDoor
namespace Go.Proofs.YtfpadnmdafiddaaGreatDoor
open Go Go.RowKit Go.V
theorem bytes_branch (F:Nat→Prop) (x:NV) (nd:Nd) (w:World) (h:NdAt F w x nd) (hok:cE nd=true) (hl:cK nd=false) :
  Calls Tryz.prog 154 #[x.val] w (Ret λ v w'=>∃ u,v=.tuple #[u,.int .i64 0]∧w'.ownsRow w.heap.size 5 1 u (fN nd).length (cX (fN nd))∧Grow w w'):=by
 have hn2:=eI h.kids
 have hn3:=h.kys.len
 have h2:x.n2≠0:=by rw [hn2];intro e;rw [dK.2 (List.eq_nil_of_length_eq_zero e)] at hl;cases hl
 have hwl:=hok
 unfold cE at hwl
 rw [if_neg (by rw [hl];simp)] at hwl
 obtain ⟨_,p2,p8,p4,pk,py⟩:=cT hwl
 have hle:x.n2≤8:=by rw [hn2];exact p8
 have hle3:x.n3≤8:=by omega
 refine V.calls (args:=[_]) Tryz.func154 rfl Tryz.ntmps154 rfl rfl ?_
 obtain ⟨cs,hs,hcell⟩:=h.kys.at'
 repeat (first|(refine aB ?_;refine TL.pure rfl rfl ?_)|(refine aD ?_;refine TL.pure rfl rfl ?_)|(refine aY ?_;first|refine aK rfl yM rfl ?_|refine bK rfl yB (by exact rfl) rfl ?_)|refine aF rfl rfl ?_|refine TL.nil ?_|refine aA ?_|refine aJ ?_|refine aC ?_|refine T.block ?_|(refine aH ?_;refine aQ rfl yD rfl ?_)|(refine cR ?_;refine eQ rfl rfl (by omega) rfl ?_)|(refine aP ?_;(refine bA rfl rfl yB (by exact rfl) (by exact rfl) (by exact rfl) ?_;intro w' hu hbk hsz))|(refine cD ?_;(refine dP rfl rfl ?_;intro bk w' hg hbk hsz hsz'))|(refine bF ?_;(refine TL.alloc rfl rfl ?_;intro bk w' hg hbk hsz hsz'))|refine aO rfl rfl ?_|refine aM rfl ?_|refine aE rfl ?_|refine aW ?_|refine TL.pure rfl rfl ?_|(refine aL 188 ?_;refine aI rfl (check_ok (h.go (Carry.grow yG)) hok) rfl ?_;rintro _ _ ⟨rfl,hgc⟩)|(refine aL 189 ?_;refine aI rfl (kN x _ h2) rfl ?_;rintro _ _ ⟨rfl,hgc⟩)|(refine mH ?_;first|refine kU rfl rfl ?_|refine TL.assertNo rfl rfl rfl ?_))
 have hg0:Grow w w':=by exact yG
 refine TL.buildSlice rfl rfl rfl rfl rfl ?_
 intro b w3 hg3 hb3 hs3 hs4 hs5
 have hsl:Sl (λ _=>True) w3 1 (some ⟨b,0,none⟩) 2 2 (cX [1,x.n2]):=(bR (sz:=1) (m:=2) hb3 hs5 (by decide)).mono (λ _ _=>trivial)
 have hbk3:=hbk.grow hg3
 have hsz3:=hg3.size
 have hsz0:=hg0.size
 refine TL.append (base:=bk+1) rfl rfl kQ hsl (eD [1,x.n2]) (by unfold maxLen;omega) (by omega) (by omega) rfl ?_
 intro v1 w4 hown4 hgb4 _
 have hbk4:Blk w4 bk 271 x.cs:=fG hgb4 (by simp [Value.ownBlock]) hbk3
 have hg4:Grow w w4:=Grow.mk (cH hgb4 (by omega) (λ k hk=>by cases hk) (hg0.trans hg3).1)
 have hbkw:w.heap.size≤bk:=by omega
 clear hbk hbk3 hgb4 hb3 hg3 hsl hu hg
 repeat (first|(refine aB ?_;refine TL.pure rfl rfl ?_)|(refine aD ?_;refine TL.pure rfl rfl ?_)|refine aK rfl yM rfl ?_|refine aF rfl rfl ?_|refine TL.nil ?_|refine aA ?_|refine aJ ?_|refine aC ?_|refine T.block ?_|refine aO rfl rfl ?_)
 refine cU (S:=Value×Nat×Nat) (λ s=>[(62,.int .i64 (s.2.2:Int)),(61,.int .i64 (x.n2:Int)),(60,.slice x.a2 x.n2 x.c2),(9,.pointer (some ⟨bk,0,none⟩)),(5,s.1)]) (λ s w2=>s.2.2≤x.n2∧s.2.1≤2+50*s.2.2∧w2.ownsRow (bk+1) 5 1 s.1 s.2.1 (cX ([1,x.n2]++(nd.kids.take s.2.2).flatMap fW))∧Blk w2 bk 271 x.cs∧Grow w w2) (λ s=>x.n2-s.2.2) (v1,2,0) ⟨rfl,rfl,rfl,rfl,rfl,trivial⟩ ⟨by show 0≤x.n2;omega,by show 2≤2+50*0;omega,by simpa using hown4,hbk4,hg4⟩ ?_
 clear hbk4 hg4 hown4
 rintro ⟨u,k,i⟩ w1 ⟨hi,hk,hown,hbk,hg1⟩
 simp only at hi hk hown
 refine dD (e':=[(62,.int .i64 (i:Int)),(61,.int .i64 (x.n2:Int)),(60,.slice x.a2 x.n2 x.c2),(9,.pointer (some ⟨bk,0,none⟩)),(5,u)]) ?_ ⟨rfl,rfl,rfl,rfl,rfl,trivial⟩
 have hs1:=h.kids.grow hg1
 have hsz1:=hg1.size
 by_cases hlt:i<x.n2
 ·obtain ⟨p,hp⟩:∃ p,nd.kids[i]? = some p:=⟨_,List.getElem?_eq_getElem (by omega)⟩
  have hcx:w1.cell? (at' x.a2 i)=some (.int .i64 (p:Int)):=hs1.row.cell (ints_at hp)
  have hpl:=kid_ok pk (List.mem_of_getElem? hp)
  repeat (first|(refine bC ?_;refine aV rfl rfl rfl hlt (Nat.mul_one _) ⟨F,_,hs1⟩ rfl ?_)|(refine aB ?_;refine TL.pure rfl rfl ?_)|(refine aD ?_;refine TL.pure rfl rfl ?_)|refine aK rfl yM rfl ?_|refine TL.nil ?_|refine aA ?_|refine aJ ?_|refine aC ?_|refine T.block ?_|(refine aH ?_;refine aZ rfl yD rfl ?_)|(refine cR ?_;refine eQ rfl rfl (by omega) rfl ?_)|refine aM rfl ?_|refine aW ?_)
  refine aI rfl (word_c p (by omega) _) rfl ?_
  rintro bv wb ⟨hob,hgb⟩
  obtain ⟨ba,bc,rfl,hsb⟩:=bX hob
  have hszb:=hgb.size
  have hbl:=hbk.lt
  refine TL.append rfl rfl (cL hown hgb) hsb (eD _) (by unfold maxLen;omega) (by omega) (by omega) rfl ?_
  intro v6 w6 hown6 hgb6 _
  have hg6:Grow w w6:=Grow.mk (cH hgb6 (by omega) (λ k hk=>by have:=cJ (cL hown hgb) hk;omega) (hg1.trans hgb).1)
  have hbk6:Blk w6 bk 271 x.cs:=fG hgb6 (λ e=>by have:=cJ hown e;omega) (hbk.grow hgb)
  repeat (first|(refine aB ?_;refine TL.pure rfl rfl ?_)|(refine aD ?_;refine TL.pure rfl rfl ?_)|(refine bL ?_;refine bT rfl rfl (by omega) rfl ?_)|refine TL.nil ?_|refine aA ?_|refine aC ?_|refine aS ?_)
  refine bG (v6,k+4,i+1) ⟨rfl,rfl,rfl,rfl,rfl,trivial⟩ ⟨hlt,by simp only;omega,?_,hbk6,hg6⟩ (by simp only;omega)
  ·simp only
   rw [take_step hp,List.flatMap_append]
   simp only [List.flatMap_cons,List.flatMap_nil,List.append_nil,gW,← List.append_assoc] at hown6 ⊢
   exact hown6
 obtain rfl:i=x.n2:=by omega
 repeat (first|(refine aB ?_;refine TL.pure rfl rfl ?_)|refine aK rfl yM rfl ?_|refine aF rfl rfl ?_|refine TL.nil ?_|refine aA ?_|refine aJ ?_|refine aC ?_|refine T.block ?_|(refine aH ?_;refine aQ rfl yD rfl ?_)|refine aO rfl rfl ?_|refine aE rfl ?_|refine cV ?_|refine bN ?_|refine bP ?_|refine bO ?_)
 have hpre:(nd.kids.take x.n2).flatMap fW=nd.kids.flatMap fW:=by rw [hn2,List.take_length]
 rw [hpre] at hown
 refine cU (S:=Value×Nat×Nat) (λ s=>[(75,.int .i64 (s.2.2:Int)),(74,.int .i64 (x.n3:Int)),(73,.slice x.a3 x.n3 x.c3),(5,s.1)]) (λ s w2=>bk<w2.heap.size∧s.2.2≤x.n3∧s.2.1≤1000+50*s.2.2∧w2.ownsRow (bk+1) 5 1 s.1 s.2.1 (cX ([1,x.n2]++nd.kids.flatMap fW++(nd.keys.take s.2.2).flatMap jN))∧Grow w w2) (λ s=>x.n3-s.2.2) (u,k,0) ⟨rfl,rfl,rfl,rfl,trivial⟩ ⟨hbk.lt,by show 0≤x.n3;omega,by show k≤1000+50*0;omega,by simpa using hown,hg1⟩ ?_
 clear hbk hg1 hown hsz1 hs1 hi hk
 rintro ⟨u,k,i⟩ w1 ⟨hbl,hi,hk,hown,hg1⟩
 simp only at hi hk hown
 refine dD (e':=[(75,.int .i64 (i:Int)),(74,.int .i64 (x.n3:Int)),(73,.slice x.a3 x.n3 x.c3),(5,u)]) ?_ ⟨rfl,rfl,rfl,rfl,trivial⟩
 have hs1:=hs.grow hg1
 have hsz1:=hg1.size
 by_cases hlt3:i<x.n3
 ·obtain ⟨p,hp⟩:∃ p,nd.keys[i]? = some p:=⟨_,List.getElem?_eq_getElem (by omega)⟩
  obtain ⟨ka,kc,g1,s1⟩:=hcell i p hp
  have hcx:w1.cell? (at' x.a3 i)=some (.slice ka p.length kc):=hs1.row.cell g1
  have hpl:=gJ (key_ok' py (List.mem_of_getElem? hp))
  have lk:=jE p (by omega)
  repeat (first|(refine bC ?_;refine aV rfl rfl rfl hlt3 (Nat.mul_one _) ⟨F,_,hs1⟩ rfl ?_)|(refine aB ?_;refine TL.pure rfl rfl ?_)|(refine aD ?_;refine TL.pure rfl rfl ?_)|refine aK rfl yM rfl ?_|refine TL.nil ?_|refine aA ?_|refine aJ ?_|refine aC ?_|refine T.block ?_|(refine aH ?_;refine aZ rfl yD rfl ?_)|refine aM rfl ?_|refine aW ?_)
  refine aI rfl (block_c F ka _ kc p _ (s1.grow hg1) (by omega)) rfl ?_
  rintro bv wb ⟨hob,hgb⟩
  obtain ⟨ba,bc,rfl,hsb⟩:=bX hob
  have hszb:=hgb.size
  refine TL.append rfl rfl (cL hown hgb) hsb (eD _) (by unfold maxLen;omega) (by omega) (by omega) rfl ?_
  intro v6 w6 hown6 hgb6 _
  have hg6:Grow w w6:=Grow.mk (cH hgb6 (by omega) (λ k hk=>by have:=cJ (cL hown hgb) hk;omega) (hg1.trans hgb).1)
  repeat (first|(refine aB ?_;refine TL.pure rfl rfl ?_)|(refine aD ?_;refine TL.pure rfl rfl ?_)|(refine bL ?_;refine bT rfl rfl (by omega) rfl ?_)|refine TL.nil ?_|refine aA ?_|refine aC ?_|refine aS ?_)
  have hsz6:=hgb6.size
  refine bG (v6,k+(jN p).length,i+1) ⟨rfl,rfl,rfl,rfl,trivial⟩ ⟨by omega,hlt3,by simp only;omega,?_,hg6⟩ (by simp only;omega)
  simp only
  rw [take_step hp,List.flatMap_append]
  simp only [List.flatMap_cons,List.flatMap_nil,List.append_nil,gW,← List.append_assoc] at hown6 ⊢
  exact hown6
 obtain rfl:i=x.n3:=by omega
 repeat (first|(refine aB ?_;refine TL.pure rfl rfl ?_)|(refine aD ?_;refine TL.pure rfl rfl ?_)|refine TL.nil ?_|refine aA ?_|refine aJ ?_|refine aC ?_|refine aS ?_|(refine aH ?_;refine aQ rfl yD rfl ?_)|refine aE rfl ?_|refine bE ?_|refine cV ?_|refine bN ?_|refine bP ?_|refine bO ?_)
 refine jM rfl rfl ⟨_,rfl,_,rfl,?_,hg1⟩
 have e:fN nd=[1,x.n2]++nd.kids.flatMap fW++(nd.keys.take x.n3).flatMap jN:=by
  unfold fN
  rw [if_neg (by rw [hl];simp),hn2,hn3,List.take_length]
 rw [e]
 have:=hown.1
 rw [dA,Nat.mul_one] at this
 rw [this]
 exact fI hown (by omega)
end Go.Proofs.YtfpadnmdafiddaaGreatDoor
namespace Go.Proofs.YtfpadnmdafiddaaGreatDoor
open Go Go.RowKit Go.V
theorem eV {b:Nat} {w w':World} (m:Mut b w w'):But b w w':=⟨m.os,m.tape,m.output,m.size,λ k hk hb=>m.block k hk (λ e=>hb (by cases e;rfl))⟩
theorem Carry.but {F:Nat→Prop} {w w':World} {b:Nat} (u:But b w w') (hb:∀ k,F k→k<w.heap.size→k≠b):Carry F w F w':=⟨u.size,λ k hk h=>⟨hk,u.block k h (hb k hk h)⟩⟩
theorem own_but {w w':World} {base n sz e b:Nat} {v:Value} {xs:List Value} (h:w.ownsRow base e sz v n xs) (u:But b w w') (hb:b<base):w'.ownsRow base e sz v n xs:=eZ h λ k hk hv=>u.block k (cJ h hv).2 (by omega)
theorem but_grow' {b:Nat} {w w':World} (g:Grow w w'):But b w w':=lO g (But.refl b w)
end Go.Proofs.YtfpadnmdafiddaaGreatDoor
