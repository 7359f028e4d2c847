import Derived.Test.YtfpadnmdafiddaaGreatDoorYk
import Derived.Test.YtfpadnmdafiddaaGreatDoorYn
import Derived.Test.YtfpadnmdafiddaaGreatDoorYm
import Derived.Test.YtfpadnmdafiddaaGreatDoorYl
set_option linter.all false
set_option maxHeartbeats 16000000
set_option maxRecDepth 100000
namespace Go.Proofs.YtfpadnmdafiddaaGreatDoor
open Go Go.RowKit Go.V
theorem findN_eq {key:Bs}:∀ {l:Its} {i:Nat},(∀ j x,j<i→l[j]? = some x→klt x.1 key)→(∀ x,l[i]? = some x→¬ klt x.1 key)→i≤l.length→findN l key=i
 | [],i,_,_,h=>by simp at h;subst h;rfl
 | x::l,0,_,h2,_=>by rw [findN_cons,if_neg (h2 x rfl)]
 | x::l,i+1,h1,h2,h3=>by
  rw [findN_cons,if_pos (h1 0 x (by omega) rfl),findN_eq (l:=l) (i:=i) (λ j y hj hy=>h1 (j+1) y (by omega) (by simpa using hy)) (λ y hy=>h2 y (by simpa using hy)) (by simpa using h3)]
theorem kidN_eq {key:Bs}:∀ {l:List Bs} {i:Nat},(∀ j x,j<i→l[j]? = some x→cmpB x key≤0)→(∀ x,l[i]? = some x→¬ cmpB x key≤0)→i≤l.length→kidN l key=i
 | [],i,_,_,h=>by simp at h;subst h;rfl
 | x::l,0,_,h2,_=>by
  have:=h2 x rfl
  unfold kidN
  rw [List.takeWhile_cons,if_neg (by simpa using this)];rfl
 | x::l,i+1,h1,h2,h3=>by
  have:=kidN_eq (key:=key) (l:=l) (i:=i) (λ j y hj hy=>h1 (j+1) y (by omega) (by simpa using hy)) (λ y hy=>h2 y (by simpa using hy)) (by simpa using h3)
  unfold kidN at this ⊢
  rw [List.takeWhile_cons,if_pos (by simpa using h1 0 x (by omega) rfl),List.length_cons,this]
theorem find_c (F G:Nat→Prop) (x:NV) (nd:Nd) (b:Option Addr) (m d:Nat) (key:Bs) (w:World) (h:NdAt F w x nd) (hk:Sl G w 1 b m d (bys key)) (hok:nodeOk nd=true) (hl:leafN nd=true) :
  Calls Tryz.prog 149 #[x.val,.slice b m d] w (Ret λ v w'=>v=.tuple #[.int .i64 (findN nd.items key:Int),.bool (thereN nd.items key)]∧Grow w w'):=by
 have hn1:=h.its.len
 have hn2:=kids_len h.kids
 have h2:x.n2=0:=by rw [hn2,leafN_iff.1 hl];rfl
 have hle:x.n1≤8:=by
  unfold nodeOk at hok
  rw [if_pos hl] at hok
  rw [hn1]
  exact (wholeL_parts hok).2.1
 refine V.calls (args:=[_,_]) Tryz.func149 rfl Tryz.ntmps149 rfl rfl ?_
 obtain ⟨cs,hs,hcell⟩:=h.its.at'
 repeat (first|(refine TL.isMove ?_;refine TL.pure rfl rfl ?_)|(refine TL.isAsg ?_;refine TL.pure rfl rfl ?_)|(refine TL.isLoad ?_;first|refine TL.load1 rfl yM rfl ?_|refine TL.loadW rfl yB (by exact rfl) rfl ?_)|refine TL.fieldAddr rfl rfl ?_|refine TL.nil ?_|refine thenQ_normal ?_|refine T.seq ?_|refine T.region ?_|refine T.block ?_|(refine TL.isBin ?_;refine TL.pureF rfl yD rfl ?_)|(refine TL.isStore ?_;(refine TL.storeWh rfl rfl yB (by exact rfl) (by exact rfl) (by exact rfl) ?_;intro w' hu hbk hsz))|(refine TL.isBox ?_;(refine TL.boxA rfl rfl ?_;intro bk w' hg hbk hsz hsz'))|(refine TL.isAlloc ?_;(refine TL.alloc rfl rfl ?_;intro bk w' hg hbk hsz hsz'))|refine TL.len_slice rfl rfl ?_|refine T.cond_true rfl ?_|refine T.cond_false rfl ?_|refine T.skip ?_|refine TL.pure rfl rfl ?_|(refine TL.isFn 188 ?_;refine TL.call rfl (check_ok (h.go (Carry.grow yG)) hok) rfl ?_;rintro _ _ ⟨rfl,hgc⟩)|(refine TL.isFn 189 ?_;refine TL.call rfl (shape_leaf x _ h2) rfl ?_;rintro _ _ ⟨rfl,hgc⟩)|(refine TL.isAssert ?_;refine TL.assertYes rfl rfl ?_))
 have hg0:Grow w w':=by exact yG
 refine T.loop (S:=Nat) (λ i=>[(21,.int .i64 (i:Int)),(20,.int .i64 (x.n1:Int)),(19,.slice x.a1 x.n1 x.c1),(1,.slice b m d),(6,.pointer (some ⟨bk,0,none⟩))]) (λ i w1=>Blk w1 bk 269 [.slice x.a1 x.n1 x.c1,.slice x.a3 x.n3 x.c3]∧Grow w w1∧i≤x.n1∧∀ j y,j<i→nd.items[j]? = some y→klt y.1 key) (λ i=>x.n1-i) 0 ⟨rfl,rfl,rfl,rfl,rfl,trivial⟩ ⟨hbk,hg0,by omega,λ j y hj=>by omega⟩ ?_
 clear hbk hg0 hg hu
 rintro i w1 ⟨hbk,hg1,hi,hall⟩
 have hblt:=hbk.lt
 have hs1:=hs.grow hg1
 have hk1:=hk.grow hg1
 by_cases hlt:i<x.n1
 rotate_left
 ·have he:findN nd.items key=x.n1:=findN_eq (λ j y hj hy=>hall j y (by omega) hy) (λ y hy=>by rw [List.getElem?_eq_none (by omega)] at hy;cases hy) (by omega)
  have ht:thereN nd.items key=false:=by unfold thereN;rw [he,List.getElem?_eq_none (by omega)]
  repeat (first|(refine TL.isAsg ?_;refine TL.pure rfl rfl ?_)|refine TL.load1 rfl yM rfl ?_|refine TL.fieldAddr rfl rfl ?_|refine TL.nil ?_|refine thenQ_normal ?_|refine T.seq ?_|refine T.region ?_|(refine TL.isBin ?_;refine TL.pureF rfl yD rfl ?_)|refine TL.len_slice rfl rfl ?_|refine T.cond_false rfl ?_|refine T.ret ?_|refine T.exit ?_|refine thenQ_ret ?_|refine thenQ_exit ?_|refine blockQ_hit ?_|refine blockQ_ret ?_|refine loopQ_exit ?_)
  exact ret2 rfl rfl ⟨_,rfl,by rw [he,ht],yG⟩
 obtain ⟨y,hy⟩:∃ y,nd.items[i]? = some y:=⟨_,List.getElem?_eq_getElem (by omega)⟩
 obtain ⟨ka,kc,va,vc,g1,g2,s1,s2⟩:=hcell i y hy
 by_cases hc:cmpB y.1 key<0
 ·repeat (first|refine TL.indexAddr rfl rfl rfl hlt rfl ⟨F,_,hs1⟩ rfl ?_|(refine TL.isLoad ?_;refine TL.loadSl rfl hs1 (two_at g1 g2) rfl rfl ?_)|(refine TL.isFn 139 ?_;refine TL.call rfl (compare_c _ _ _ _ _ _ _ _ _ _ _ (s1.grow yG) (hk.grow yG)) rfl ?_;rintro _ _ ⟨rfl,hgc⟩)|(refine TL.isMove ?_;refine TL.pure rfl rfl ?_)|(refine TL.isAsg ?_;refine TL.pure rfl rfl ?_)|refine TL.load1 rfl yM rfl ?_|refine TL.fieldAddr rfl rfl ?_|(refine TL.isAdd ?_;refine TL.addN rfl rfl (by omega) rfl ?_)|refine TL.nil ?_|refine thenQ_normal ?_|refine T.seq ?_|refine T.region ?_|refine T.block ?_|refine blockQ_normal ?_|(refine TL.isBin ?_;first|refine TL.pureT rfl yD rfl ?_|refine TL.pureF rfl yD rfl ?_)|(refine TL.isStore ?_;(refine TL.storeWh rfl rfl yB (by exact rfl) (by exact rfl) (by exact rfl) ?_;intro w' hu hbk hsz))|(refine TL.isAlloc ?_;(refine TL.alloc rfl rfl ?_;intro bk w' hg hbk hsz hsz'))|refine T.cond_true rfl ?_|refine T.cond_false rfl ?_|refine T.skip ?_)
  exact loopQ_normal (i+1) ⟨rfl,rfl,rfl,rfl,rfl,trivial⟩ ⟨yB,yG,by omega,λ j z hj hz=>by
   by_cases hj2:j=i
   ·subst hj2;rw [hy] at hz;cases hz;exact hc
   ·exact hall j z (by omega) hz⟩ (by omega)
 ·have he:findN nd.items key=i:=findN_eq hall (λ z hz=>by rw [hy] at hz;cases hz;exact hc) (by omega)
  have ht:thereN nd.items key=decide (cmpB y.1 key=0):=by unfold thereN;rw [he,hy]
  repeat (first|refine TL.indexAddr rfl rfl rfl hlt rfl ⟨F,_,hs1⟩ rfl ?_|(refine TL.isLoad ?_;refine TL.loadSl rfl hs1 (two_at g1 g2) rfl rfl ?_)|(refine TL.isFn 139 ?_;refine TL.call rfl (compare_c _ _ _ _ _ _ _ _ _ _ _ (s1.grow yG) (hk.grow yG)) rfl ?_;rintro _ _ ⟨rfl,hgc⟩)|(refine TL.isMove ?_;refine TL.pure rfl rfl ?_)|(refine TL.isAsg ?_;refine TL.pure rfl rfl ?_)|refine TL.load1 rfl yM rfl ?_|refine TL.fieldAddr rfl rfl ?_|refine TL.nil ?_|refine thenQ_normal ?_|refine T.seq ?_|refine T.region ?_|refine T.block ?_|(refine TL.isBin ?_;first|refine TL.pureT rfl yD rfl ?_|refine TL.pure rfl rfl ?_)|(refine TL.isStore ?_;(refine TL.storeWh rfl rfl yB (by exact rfl) (by exact rfl) (by exact rfl) ?_;intro w' hu hbk hsz))|(refine TL.isAlloc ?_;(refine TL.alloc rfl rfl ?_;intro bk w' hg hbk hsz hsz'))|refine T.cond_true rfl ?_|refine T.ret ?_|refine T.skip ?_|refine thenQ_ret ?_|refine blockQ_ret ?_|refine loopQ_ret ?_)
  refine ret2 rfl rfl ⟨_,rfl,by rw [he,ht];rfl,yG⟩
theorem kid_c (F G:Nat→Prop) (x:NV) (nd:Nd) (b:Option Addr) (m d:Nat) (key:Bs) (w:World) (h:NdAt F w x nd) (hk:Sl G w 1 b m d (bys key)) (hok:nodeOk nd=true) (hl:leafN nd=false) :
  Calls Tryz.prog 150 #[x.val,.slice b m d] w (Ret λ v w'=>v=.int .i64 (kidN nd.keys key:Int)∧Grow w w'):=by
 have hn2:=kids_len h.kids
 have hn3:=h.kys.len
 have h2:x.n2≠0:=by rw [hn2];intro e;rw [leafN_iff.2 (List.eq_nil_of_length_eq_zero e)] at hl;cases hl
 have hle:x.n3≤8:=by
  unfold nodeOk at hok
  rw [if_neg (by rw [hl];simp)] at hok
  have:=wholeB_parts hok
  omega
 refine V.calls (args:=[_,_]) Tryz.func150 rfl Tryz.ntmps150 rfl rfl ?_
 obtain ⟨cs,hs,hcell⟩:=h.kys.at'
 repeat (first|(refine TL.isMove ?_;refine TL.pure rfl rfl ?_)|(refine TL.isAsg ?_;refine TL.pure rfl rfl ?_)|(refine TL.isLoad ?_;first|refine TL.load1 rfl yM rfl ?_|refine TL.loadW rfl yB (by exact rfl) rfl ?_)|refine TL.fieldAddr rfl rfl ?_|refine TL.nil ?_|refine thenQ_normal ?_|refine T.seq ?_|refine T.region ?_|refine T.block ?_|(refine TL.isBin ?_;refine TL.pureF rfl yD rfl ?_)|(refine TL.isStore ?_;(refine TL.storeWh rfl rfl yB (by exact rfl) (by exact rfl) (by exact rfl) ?_;intro w' hu hbk hsz))|(refine TL.isBox ?_;(refine TL.boxA rfl rfl ?_;intro bk w' hg hbk hsz hsz'))|(refine TL.isAlloc ?_;(refine TL.alloc rfl rfl ?_;intro bk w' hg hbk hsz hsz'))|refine TL.len_slice rfl rfl ?_|refine T.cond_true rfl ?_|refine T.cond_false rfl ?_|refine T.skip ?_|refine TL.pure rfl rfl ?_|(refine TL.isFn 188 ?_;refine TL.call rfl (check_ok (h.go (Carry.grow yG)) hok) rfl ?_;rintro _ _ ⟨rfl,hgc⟩)|(refine TL.isFn 189 ?_;refine TL.call rfl (shape_branch x _ h2) rfl ?_;rintro _ _ ⟨rfl,hgc⟩)|(refine TL.isAssert ?_;refine TL.assertYes rfl rfl ?_))
 have hg0:Grow w w':=by exact yG
 refine T.loop (S:=Nat) (λ i=>[(19,.int .i64 (i:Int)),(18,.int .i64 (x.n3:Int)),(17,.slice x.a3 x.n3 x.c3),(1,.slice b m d),(5,.pointer (some ⟨bk,0,none⟩))]) (λ i w1=>Blk w1 bk 271 x.cs∧Grow w w1∧i≤x.n3∧∀ j y,j<i→nd.keys[j]? = some y→cmpB y key≤0) (λ i=>x.n3-i) 0 ⟨rfl,rfl,rfl,rfl,rfl,trivial⟩ ⟨hbk,hg0,by omega,λ j y hj=>by omega⟩ ?_
 clear hbk hg0 hg hu
 rintro i w1 ⟨hbk,hg1,hi,hall⟩
 have hblt:=hbk.lt
 have hs1:=hs.grow hg1
 have hk1:=hk.grow hg1
 by_cases hlt:i<x.n3
 rotate_left
 ·have he:kidN nd.keys key=x.n3:=kidN_eq (λ j y hj hy=>hall j y (by omega) hy) (λ y hy=>by rw [List.getElem?_eq_none (by omega)] at hy;cases hy) (by omega)
  repeat (first|(refine TL.isAsg ?_;refine TL.pure rfl rfl ?_)|refine TL.load1 rfl yM rfl ?_|refine TL.fieldAddr rfl rfl ?_|refine TL.nil ?_|refine thenQ_normal ?_|refine T.seq ?_|refine T.region ?_|(refine TL.isBin ?_;refine TL.pureF rfl yD rfl ?_)|refine TL.len_slice rfl rfl ?_|refine T.cond_false rfl ?_|refine T.ret ?_|refine T.exit ?_|refine thenQ_ret ?_|refine thenQ_exit ?_|refine blockQ_hit ?_|refine blockQ_ret ?_|refine loopQ_exit ?_)
  exact ret1 rfl ⟨_,rfl,by rw [he],yG⟩
 obtain ⟨y,hy⟩:∃ y,nd.keys[i]? = some y:=⟨_,List.getElem?_eq_getElem (by omega)⟩
 obtain ⟨ka,kc,g1,s1⟩:=hcell i y hy
 have hcx:w1.cell? (at' x.a3 i)=some (.slice ka y.length kc):=hs1.row.cell g1
 by_cases hc:cmpB y key≤0
 ·repeat (first|(refine TL.isIndex ?_;refine TL.indexAddr rfl rfl rfl hlt (Nat.mul_one _) ⟨F,_,hs1⟩ rfl ?_)|(refine TL.isFn 139 ?_;refine TL.call rfl (compare_c _ _ _ _ _ _ _ _ _ _ _ (s1.grow yG) (hk.grow yG)) rfl ?_;rintro _ _ ⟨rfl,hgc⟩)|(refine TL.isMove ?_;refine TL.pure rfl rfl ?_)|(refine TL.isAsg ?_;refine TL.pure rfl rfl ?_)|refine TL.load1 rfl yM rfl ?_|(refine TL.isAdd ?_;refine TL.addN rfl rfl (by omega) rfl ?_)|refine TL.nil ?_|refine thenQ_normal ?_|refine T.seq ?_|refine T.region ?_|refine T.block ?_|refine blockQ_normal ?_|(refine TL.isBin ?_;first|refine TL.pureT rfl yD rfl ?_|refine TL.pureF rfl yD rfl ?_)|refine T.cond_true rfl ?_|refine T.cond_false rfl ?_|refine T.skip ?_)
  exact loopQ_normal (i+1) ⟨rfl,rfl,rfl,rfl,rfl,trivial⟩ ⟨yB,yG,by omega,λ j z hj hz=>by
   by_cases hj2:j=i
   ·subst hj2;rw [hy] at hz;cases hz;exact hc
   ·exact hall j z (by omega) hz⟩ (by omega)
 ·have he:kidN nd.keys key=i:=kidN_eq hall (λ z hz=>by rw [hy] at hz;cases hz;exact hc) (by omega)
  repeat (first|(refine TL.isIndex ?_;refine TL.indexAddr rfl rfl rfl hlt (Nat.mul_one _) ⟨F,_,hs1⟩ rfl ?_)|(refine TL.isFn 139 ?_;refine TL.call rfl (compare_c _ _ _ _ _ _ _ _ _ _ _ (s1.grow yG) (hk.grow yG)) rfl ?_;rintro _ _ ⟨rfl,hgc⟩)|(refine TL.isMove ?_;refine TL.pure rfl rfl ?_)|(refine TL.isAsg ?_;refine TL.pure rfl rfl ?_)|refine TL.load1 rfl yM rfl ?_|refine TL.nil ?_|refine thenQ_normal ?_|refine T.seq ?_|refine T.region ?_|refine T.block ?_|(refine TL.isBin ?_;refine TL.pureT rfl yD rfl ?_)|refine T.cond_true rfl ?_|refine T.ret ?_|refine T.skip ?_|refine thenQ_ret ?_|refine blockQ_ret ?_|refine loopQ_ret ?_)
  refine ret1 rfl ⟨_,rfl,by rw [he],yG⟩
end Go.Proofs.YtfpadnmdafiddaaGreatDoor
namespace Go.Proofs.YtfpadnmdafiddaaGreatDoor
open Go Go.RowKit Go.V
theorem own_nil {w:World} {base e sz:Nat}:w.ownsRow base e sz (.slice none 0 0) 0 []:=⟨by simp,.inl ⟨rfl,rfl⟩⟩
theorem take_step {α : Type} {l:List α} {i:Nat} {x : α} (h:l[i]? = some x):l.take (i+1)=l.take i++[x]:=by
 obtain ⟨hi,rfl⟩:=List.getElem?_eq_some_iff.1 h
 rw [List.take_succ_eq_append_getElem hi]
theorem bytes_leaf (F:Nat→Prop) (x:NV) (nd:Nd) (w:World) (h:NdAt F w x nd) (hok:nodeOk nd=true) (hl:leafN nd=true) :
  Calls Tryz.prog 154 #[x.val] w (Ret λ v w'=>∃ u,v=.tuple #[u,.int .i64 0]∧w'.ownsRow w.heap.size 5 1 u (bytesN nd).length (bys (bytesN nd))∧Grow w w'):=by
 have hn1:=h.its.len
 have hn2:=kids_len h.kids
 have h2:x.n2=0:=by rw [hn2,leafN_iff.1 hl];rfl
 have hwl:=hok
 unfold nodeOk at hwl
 rw [if_pos hl] at hwl
 obtain ⟨_,h8,hits⟩:=wholeL_parts hwl
 have hle:x.n1≤8:=by rw [hn1];exact h8
 refine V.calls (args:=[_]) Tryz.func154 rfl Tryz.ntmps154 rfl rfl ?_
 obtain ⟨cs,hs,hcell⟩:=h.its.at'
 repeat (first|(refine TL.isMove ?_;refine TL.pure rfl rfl ?_)|(refine TL.isAsg ?_;refine TL.pure rfl rfl ?_)|(refine TL.isLoad ?_;first|refine TL.load1 rfl yM rfl ?_|refine TL.loadW rfl yB (by exact rfl) rfl ?_)|refine TL.fieldAddr rfl rfl ?_|refine TL.nil ?_|refine thenQ_normal ?_|refine T.seq ?_|refine T.region ?_|refine T.block ?_|(refine TL.isBin ?_;refine TL.pureF rfl yD rfl ?_)|(refine TL.isConv ?_;refine TL.convU rfl rfl (by omega) rfl ?_)|(refine TL.isStore ?_;(refine TL.storeWh rfl rfl yB (by exact rfl) (by exact rfl) (by exact rfl) ?_;intro w' hu hbk hsz))|(refine TL.isBox ?_;(refine TL.boxA rfl rfl ?_;intro bk w' hg hbk hsz hsz'))|(refine TL.isAlloc ?_;(refine TL.alloc rfl rfl ?_;intro bk w' hg hbk hsz hsz'))|refine TL.len_slice rfl rfl ?_|refine T.cond_true rfl ?_|refine T.cond_false rfl ?_|refine T.skip ?_|refine TL.pure rfl rfl ?_|(refine TL.isFn 188 ?_;refine TL.call rfl (check_ok (h.go (Carry.grow yG)) hok) rfl ?_;rintro _ _ ⟨rfl,hgc⟩)|(refine TL.isFn 189 ?_;refine TL.call rfl (shape_leaf x _ h2) rfl ?_;rintro _ _ ⟨rfl,hgc⟩)|(refine TL.isAssert ?_;refine TL.assertYes rfl rfl ?_))
 have hg0:Grow w w':=by exact yG
 refine TL.buildSlice rfl rfl rfl rfl rfl ?_
 intro b w3 hg3 hb3 hs3 hs4 hs5
 have hsl:Sl (λ _=>True) w3 1 (some ⟨b,0,none⟩) 2 2 (bys [0,x.n1]):=(sl_of_blk (sz:=1) (m:=2) hb3 hs5 (by decide)).mono (λ _ _=>trivial)
 have hbk3:=hbk.grow hg3
 have hsz3:=hg3.size
 have hsz0:=hg0.size
 refine TL.append (base:=w.heap.size) rfl rfl own_nil hsl (bys_one [0,x.n1]) (by unfold maxLen;omega) (by omega) (by omega) rfl ?_
 intro v1 w4 hown4 hgb4 _
 have hbk4:Blk w4 bk 269 [.slice x.a1 x.n1 x.c1,.slice x.a3 x.n3 x.c3]:=blk_grownBy hgb4 (by simp [Value.ownBlock]) hbk3
 have hg4:Grow w w4:=Grow.mk (below_grownBy hgb4 (by omega) (λ k hk=>by cases hk) (hg0.trans hg3).1)
 clear hbk hbk3 hgb4 hb3 hg3 hsl hu hg
 repeat (first|(refine TL.isMove ?_;refine TL.pure rfl rfl ?_)|(refine TL.isAsg ?_;refine TL.pure rfl rfl ?_)|refine TL.load1 rfl yM rfl ?_|refine TL.fieldAddr rfl rfl ?_|refine TL.nil ?_|refine thenQ_normal ?_|refine T.seq ?_|refine T.region ?_|refine T.block ?_|refine TL.len_slice rfl rfl ?_)
 refine T.loop (S:=Value×Nat×Nat) (λ s=>[(34,.int .i64 (s.2.2:Int)),(33,.int .i64 (x.n1:Int)),(32,.slice x.a1 x.n1 x.c1),(5,s.1)]) (λ s w2=>s.2.2≤x.n1∧s.2.1≤2+50*s.2.2∧w2.ownsRow w.heap.size 5 1 s.1 s.2.1 (bys ([0,x.n1]++(nd.items.take s.2.2).flatMap (λ y=>blkB y.1++blkB y.2)))∧Grow w w2) (λ s=>x.n1-s.2.2) (v1,2,0) ⟨rfl,rfl,rfl,rfl,trivial⟩ ⟨by show 0≤x.n1;omega,by show 2≤2+50*0;omega,by simpa using hown4,hg4⟩ ?_
 clear hbk4 hg4 hown4
 rintro ⟨u,k,i⟩ w1 ⟨hi,hk,hown,hg1⟩
 simp only at hi hk hown
 refine T.weaken (e':=[(34,.int .i64 (i:Int)),(33,.int .i64 (x.n1:Int)),(32,.slice x.a1 x.n1 x.c1),(5,u)]) ?_ ⟨rfl,rfl,rfl,rfl,trivial⟩
 have hs1:=hs.grow hg1
 have hsz1:=hg1.size
 by_cases hlt:i<x.n1
 rotate_left
 ·obtain rfl:i=x.n1:=by omega
  repeat (first|(refine TL.isMove ?_;refine TL.pure rfl rfl ?_)|(refine TL.isAsg ?_;refine TL.pure rfl rfl ?_)|refine TL.nil ?_|refine thenQ_normal ?_|refine T.seq ?_|refine T.region ?_|refine blockQ_normal ?_|(refine TL.isBin ?_;refine TL.pureF rfl yD rfl ?_)|refine T.cond_false rfl ?_|refine T.ret ?_|refine T.exit ?_|refine thenQ_exit ?_|refine blockQ_hit ?_|refine loopQ_exit ?_)
  refine ret2 rfl rfl ⟨_,rfl,_,rfl,?_,hg1⟩
  have e:bytesN nd=[0,x.n1]++(nd.items.take x.n1).flatMap (λ y=>blkB y.1++blkB y.2):=by
   unfold bytesN
   rw [if_pos hl,hn1,List.take_length]
  rw [e]
  have:=hown.1
  rw [length_bys,Nat.mul_one] at this
  rw [this]
  exact hown
 obtain ⟨y,hy⟩:∃ y,nd.items[i]? = some y:=⟨_,List.getElem?_eq_getElem (by omega)⟩
 obtain ⟨ka,kc,va,vc,g1,g2,s1,s2⟩:=hcell i y hy
 have hko:=item_ok hits (List.mem_of_getElem? hy)
 have hk1:=keyOk_len hko.1
 have hv1:=valOk_len hko.2
 have lk:=length_blkB y.1 (by omega)
 have lv:=length_blkB y.2 (by omega)
 repeat (first|refine TL.indexAddr rfl rfl rfl hlt rfl ⟨F,_,hs1⟩ rfl ?_|(refine TL.isLoad ?_;refine TL.loadSl rfl hs1 (two_at g1 g2) rfl rfl ?_)|(refine TL.isMove ?_;refine TL.pure rfl rfl ?_)|refine TL.load1 rfl yM rfl ?_|refine TL.fieldAddr rfl rfl ?_|refine TL.nil ?_|refine thenQ_normal ?_|refine T.seq ?_|refine T.region ?_|refine T.block ?_|(refine TL.isBin ?_;refine TL.pureT rfl yD rfl ?_)|(refine TL.isStore ?_;(refine TL.storeWh rfl rfl yB (by exact rfl) (by exact rfl) (by exact rfl) ?_;intro w' hu hbk hsz))|(refine TL.isAlloc ?_;(refine TL.alloc rfl rfl ?_;intro bk w' hg hbk hsz hsz'))|refine T.cond_true rfl ?_|refine T.skip ?_)
 have hgA1:Grow w1 w':=by exact yG
 have hgA:Grow w w':=hg1.trans hgA1
 have hownA:=own_grow hown hgA1
 refine TL.call rfl (block_c F ka _ kc y.1 _ (s1.grow hgA) (by omega)) rfl ?_
 rintro bv wb ⟨hob,hgb⟩
 obtain ⟨ba,bc,rfl,hsb⟩:=sl_of_own hob
 have hszA:=hgA.size
 have hszb:=hgb.size
 refine TL.append rfl rfl (own_grow hownA hgb) hsb (bys_one _) (by unfold maxLen;omega) (by omega) (by omega) rfl ?_
 intro v5 w5 hown5 hgb5 _
 have hg5:Grow w w5:=Grow.mk (below_grownBy hgb5 (by omega) (λ k hk=>(own_lt (own_grow hownA hgb) hk).1) (hgA.trans hgb).1)
 have hbkB:=hbk.grow hgb
 have hbk5:Blk w5 bk 58 [.slice ka y.1.length kc,.slice va y.2.length vc]:=blk_grownBy hgb5 (λ e=>by have:=own_lt hown e;omega) hbkB
 clear hownA hgA hgA1 hob hsb hgb hgb5 hbk hbkB hu hg hown
 repeat (first|(refine TL.isMove ?_;refine TL.pure rfl rfl ?_)|(refine TL.isAsg ?_;refine TL.pure rfl rfl ?_)|refine TL.load1 rfl yM rfl ?_|refine TL.fieldAddr rfl rfl ?_|refine TL.nil ?_|refine thenQ_normal ?_|refine T.region ?_)
 refine TL.call rfl (block_c F va _ vc y.2 _ (s2.grow hg5) (by omega)) rfl ?_
 rintro bv wb ⟨hob,hgb⟩
 obtain ⟨ba,bc,rfl,hsb⟩:=sl_of_own hob
 have hsz5:=hg5.size
 have hszb:=hgb.size
 refine TL.append rfl rfl (own_grow hown5 hgb) hsb (bys_one _) (by unfold maxLen;omega) (by omega) (by omega) rfl ?_
 intro v6 w6 hown6 hgb6 _
 have hg6:Grow w w6:=Grow.mk (below_grownBy hgb6 (by omega) (λ k hk=>(own_lt (own_grow hown5 hgb) hk).1) (hg5.trans hgb).1)
 repeat (first|(refine TL.isMove ?_;refine TL.pure rfl rfl ?_)|(refine TL.isAsg ?_;refine TL.pure rfl rfl ?_)|(refine TL.isAdd ?_;refine TL.addN rfl rfl (by omega) rfl ?_)|refine TL.nil ?_|refine thenQ_normal ?_|refine T.region ?_|refine blockQ_normal ?_)
 refine loopQ_normal (v6,k+(blkB y.1).length+(blkB y.2).length,i+1) ⟨rfl,rfl,rfl,rfl,trivial⟩ ⟨hlt,by simp only;omega,?_,hg6⟩ (by simp only;omega)
 simp only
 rw [take_step hy,List.flatMap_append]
 simp only [List.flatMap_cons,List.flatMap_nil,List.append_nil,bys_append,← List.append_assoc] at hown6 ⊢
 exact hown6
end Go.Proofs.YtfpadnmdafiddaaGreatDoor
namespace Go.Proofs.YtfpadnmdafiddaaGreatDoor
open Go Go.RowKit Go.V
theorem bytes_branch (F:Nat→Prop) (x:NV) (nd:Nd) (w:World) (h:NdAt F w x nd) (hok:nodeOk nd=true) (hl:leafN nd=false) :
  Calls Tryz.prog 154 #[x.val] w (Ret λ v w'=>∃ u,v=.tuple #[u,.int .i64 0]∧w'.ownsRow w.heap.size 5 1 u (bytesN nd).length (bys (bytesN nd))∧Grow w w'):=by
 have hn2:=kids_len h.kids
 have hn3:=h.kys.len
 have h2:x.n2≠0:=by rw [hn2];intro e;rw [leafN_iff.2 (List.eq_nil_of_length_eq_zero e)] at hl;cases hl
 have hwl:=hok
 unfold nodeOk at hwl
 rw [if_neg (by rw [hl];simp)] at hwl
 obtain ⟨_,p2,p8,p4,pk,py⟩:=wholeB_parts hwl
 have hle:x.n2≤8:=by rw [hn2];exact p8
 have hle3:x.n3≤8:=by omega
 refine V.calls (args:=[_]) Tryz.func154 rfl Tryz.ntmps154 rfl rfl ?_
 obtain ⟨cs,hs,hcell⟩:=h.kys.at'
 repeat (first|(refine TL.isMove ?_;refine TL.pure rfl rfl ?_)|(refine TL.isAsg ?_;refine TL.pure rfl rfl ?_)|(refine TL.isLoad ?_;first|refine TL.load1 rfl yM rfl ?_|refine TL.loadW rfl yB (by exact rfl) rfl ?_)|refine TL.fieldAddr rfl rfl ?_|refine TL.nil ?_|refine thenQ_normal ?_|refine T.seq ?_|refine T.region ?_|refine T.block ?_|(refine TL.isBin ?_;refine TL.pureF rfl yD rfl ?_)|(refine TL.isConv ?_;refine TL.convU rfl rfl (by omega) rfl ?_)|(refine TL.isStore ?_;(refine TL.storeWh rfl rfl yB (by exact rfl) (by exact rfl) (by exact rfl) ?_;intro w' hu hbk hsz))|(refine TL.isBox ?_;(refine TL.boxA rfl rfl ?_;intro bk w' hg hbk hsz hsz'))|(refine TL.isAlloc ?_;(refine TL.alloc rfl rfl ?_;intro bk w' hg hbk hsz hsz'))|refine TL.len_slice rfl rfl ?_|refine T.cond_true rfl ?_|refine T.cond_false rfl ?_|refine T.skip ?_|refine TL.pure rfl rfl ?_|(refine TL.isFn 188 ?_;refine TL.call rfl (check_ok (h.go (Carry.grow yG)) hok) rfl ?_;rintro _ _ ⟨rfl,hgc⟩)|(refine TL.isFn 189 ?_;refine TL.call rfl (shape_branch x _ h2) rfl ?_;rintro _ _ ⟨rfl,hgc⟩)|(refine TL.isAssert ?_;first|refine TL.assertYes rfl rfl ?_|refine TL.assertNo rfl rfl rfl ?_))
 have hg0:Grow w w':=by exact yG
 refine TL.buildSlice rfl rfl rfl rfl rfl ?_
 intro b w3 hg3 hb3 hs3 hs4 hs5
 have hsl:Sl (λ _=>True) w3 1 (some ⟨b,0,none⟩) 2 2 (bys [1,x.n2]):=(sl_of_blk (sz:=1) (m:=2) hb3 hs5 (by decide)).mono (λ _ _=>trivial)
 have hbk3:=hbk.grow hg3
 have hsz3:=hg3.size
 have hsz0:=hg0.size
 refine TL.append (base:=bk+1) rfl rfl own_nil hsl (bys_one [1,x.n2]) (by unfold maxLen;omega) (by omega) (by omega) rfl ?_
 intro v1 w4 hown4 hgb4 _
 have hbk4:Blk w4 bk 271 x.cs:=blk_grownBy hgb4 (by simp [Value.ownBlock]) hbk3
 have hg4:Grow w w4:=Grow.mk (below_grownBy hgb4 (by omega) (λ k hk=>by cases hk) (hg0.trans hg3).1)
 have hbkw:w.heap.size≤bk:=by omega
 clear hbk hbk3 hgb4 hb3 hg3 hsl hu hg
 repeat (first|(refine TL.isMove ?_;refine TL.pure rfl rfl ?_)|(refine TL.isAsg ?_;refine TL.pure rfl rfl ?_)|refine TL.load1 rfl yM rfl ?_|refine TL.fieldAddr rfl rfl ?_|refine TL.nil ?_|refine thenQ_normal ?_|refine T.seq ?_|refine T.region ?_|refine T.block ?_|refine TL.len_slice rfl rfl ?_)
 refine T.loop (S:=Value×Nat×Nat) (λ s=>[(62,.int .i64 (s.2.2:Int)),(61,.int .i64 (x.n2:Int)),(60,.slice x.a2 x.n2 x.c2),(9,.pointer (some ⟨bk,0,none⟩)),(5,s.1)]) (λ s w2=>s.2.2≤x.n2∧s.2.1≤2+50*s.2.2∧w2.ownsRow (bk+1) 5 1 s.1 s.2.1 (bys ([1,x.n2]++(nd.kids.take s.2.2).flatMap word4))∧Blk w2 bk 271 x.cs∧Grow w w2) (λ s=>x.n2-s.2.2) (v1,2,0) ⟨rfl,rfl,rfl,rfl,rfl,trivial⟩ ⟨by show 0≤x.n2;omega,by show 2≤2+50*0;omega,by simpa using hown4,hbk4,hg4⟩ ?_
 clear hbk4 hg4 hown4
 rintro ⟨u,k,i⟩ w1 ⟨hi,hk,hown,hbk,hg1⟩
 simp only at hi hk hown
 refine T.weaken (e':=[(62,.int .i64 (i:Int)),(61,.int .i64 (x.n2:Int)),(60,.slice x.a2 x.n2 x.c2),(9,.pointer (some ⟨bk,0,none⟩)),(5,u)]) ?_ ⟨rfl,rfl,rfl,rfl,rfl,trivial⟩
 have hs1:=h.kids.grow hg1
 have hsz1:=hg1.size
 by_cases hlt:i<x.n2
 ·obtain ⟨p,hp⟩:∃ p,nd.kids[i]? = some p:=⟨_,List.getElem?_eq_getElem (by omega)⟩
  have hcx:w1.cell? (at' x.a2 i)=some (.int .i64 (p:Int)):=hs1.row.cell (ints_at hp)
  have hpl:=kid_ok pk (List.mem_of_getElem? hp)
  repeat (first|(refine TL.isIndex ?_;refine TL.indexAddr rfl rfl rfl hlt (Nat.mul_one _) ⟨F,_,hs1⟩ rfl ?_)|(refine TL.isMove ?_;refine TL.pure rfl rfl ?_)|(refine TL.isAsg ?_;refine TL.pure rfl rfl ?_)|refine TL.load1 rfl yM rfl ?_|refine TL.nil ?_|refine thenQ_normal ?_|refine T.seq ?_|refine T.region ?_|refine T.block ?_|(refine TL.isBin ?_;refine TL.pureT rfl yD rfl ?_)|(refine TL.isConv ?_;refine TL.convU rfl rfl (by omega) rfl ?_)|refine T.cond_true rfl ?_|refine T.skip ?_)
  refine TL.call rfl (word_c p (by omega) _) rfl ?_
  rintro bv wb ⟨hob,hgb⟩
  obtain ⟨ba,bc,rfl,hsb⟩:=sl_of_own hob
  have hszb:=hgb.size
  have hbl:=hbk.lt
  refine TL.append rfl rfl (own_grow hown hgb) hsb (bys_one _) (by unfold maxLen;omega) (by omega) (by omega) rfl ?_
  intro v6 w6 hown6 hgb6 _
  have hg6:Grow w w6:=Grow.mk (below_grownBy hgb6 (by omega) (λ k hk=>by have:=own_lt (own_grow hown hgb) hk;omega) (hg1.trans hgb).1)
  have hbk6:Blk w6 bk 271 x.cs:=blk_grownBy hgb6 (λ e=>by have:=own_lt hown e;omega) (hbk.grow hgb)
  repeat (first|(refine TL.isMove ?_;refine TL.pure rfl rfl ?_)|(refine TL.isAsg ?_;refine TL.pure rfl rfl ?_)|(refine TL.isAdd ?_;refine TL.addN rfl rfl (by omega) rfl ?_)|refine TL.nil ?_|refine thenQ_normal ?_|refine T.region ?_|refine blockQ_normal ?_)
  refine loopQ_normal (v6,k+4,i+1) ⟨rfl,rfl,rfl,rfl,rfl,trivial⟩ ⟨hlt,by simp only;omega,?_,hbk6,hg6⟩ (by simp only;omega)
  ·simp only
   rw [take_step hp,List.flatMap_append]
   simp only [List.flatMap_cons,List.flatMap_nil,List.append_nil,bys_append,← List.append_assoc] at hown6 ⊢
   exact hown6
 obtain rfl:i=x.n2:=by omega
 repeat (first|(refine TL.isMove ?_;refine TL.pure rfl rfl ?_)|refine TL.load1 rfl yM rfl ?_|refine TL.fieldAddr rfl rfl ?_|refine TL.nil ?_|refine thenQ_normal ?_|refine T.seq ?_|refine T.region ?_|refine T.block ?_|(refine TL.isBin ?_;refine TL.pureF rfl yD rfl ?_)|refine TL.len_slice rfl rfl ?_|refine T.cond_false rfl ?_|refine T.exit ?_|refine thenQ_exit ?_|refine blockQ_hit ?_|refine loopQ_exit ?_)
 have hpre:(nd.kids.take x.n2).flatMap word4=nd.kids.flatMap word4:=by rw [hn2,List.take_length]
 rw [hpre] at hown
 refine T.loop (S:=Value×Nat×Nat) (λ s=>[(75,.int .i64 (s.2.2:Int)),(74,.int .i64 (x.n3:Int)),(73,.slice x.a3 x.n3 x.c3),(5,s.1)]) (λ s w2=>bk<w2.heap.size∧s.2.2≤x.n3∧s.2.1≤1000+50*s.2.2∧w2.ownsRow (bk+1) 5 1 s.1 s.2.1 (bys ([1,x.n2]++nd.kids.flatMap word4++(nd.keys.take s.2.2).flatMap blkB))∧Grow w w2) (λ s=>x.n3-s.2.2) (u,k,0) ⟨rfl,rfl,rfl,rfl,trivial⟩ ⟨hbk.lt,by show 0≤x.n3;omega,by show k≤1000+50*0;omega,by simpa using hown,hg1⟩ ?_
 clear hbk hg1 hown hsz1 hs1 hi hk
 rintro ⟨u,k,i⟩ w1 ⟨hbl,hi,hk,hown,hg1⟩
 simp only at hi hk hown
 refine T.weaken (e':=[(75,.int .i64 (i:Int)),(74,.int .i64 (x.n3:Int)),(73,.slice x.a3 x.n3 x.c3),(5,u)]) ?_ ⟨rfl,rfl,rfl,rfl,trivial⟩
 have hs1:=hs.grow hg1
 have hsz1:=hg1.size
 by_cases hlt3:i<x.n3
 ·obtain ⟨p,hp⟩:∃ p,nd.keys[i]? = some p:=⟨_,List.getElem?_eq_getElem (by omega)⟩
  obtain ⟨ka,kc,g1,s1⟩:=hcell i p hp
  have hcx:w1.cell? (at' x.a3 i)=some (.slice ka p.length kc):=hs1.row.cell g1
  have hpl:=keyOk_len (key_ok' py (List.mem_of_getElem? hp))
  have lk:=length_blkB p (by omega)
  repeat (first|(refine TL.isIndex ?_;refine TL.indexAddr rfl rfl rfl hlt3 (Nat.mul_one _) ⟨F,_,hs1⟩ rfl ?_)|(refine TL.isMove ?_;refine TL.pure rfl rfl ?_)|(refine TL.isAsg ?_;refine TL.pure rfl rfl ?_)|refine TL.load1 rfl yM rfl ?_|refine TL.nil ?_|refine thenQ_normal ?_|refine T.seq ?_|refine T.region ?_|refine T.block ?_|(refine TL.isBin ?_;refine TL.pureT rfl yD rfl ?_)|refine T.cond_true rfl ?_|refine T.skip ?_)
  refine TL.call rfl (block_c F ka _ kc p _ (s1.grow hg1) (by omega)) rfl ?_
  rintro bv wb ⟨hob,hgb⟩
  obtain ⟨ba,bc,rfl,hsb⟩:=sl_of_own hob
  have hszb:=hgb.size
  refine TL.append rfl rfl (own_grow hown hgb) hsb (bys_one _) (by unfold maxLen;omega) (by omega) (by omega) rfl ?_
  intro v6 w6 hown6 hgb6 _
  have hg6:Grow w w6:=Grow.mk (below_grownBy hgb6 (by omega) (λ k hk=>by have:=own_lt (own_grow hown hgb) hk;omega) (hg1.trans hgb).1)
  repeat (first|(refine TL.isMove ?_;refine TL.pure rfl rfl ?_)|(refine TL.isAsg ?_;refine TL.pure rfl rfl ?_)|(refine TL.isAdd ?_;refine TL.addN rfl rfl (by omega) rfl ?_)|refine TL.nil ?_|refine thenQ_normal ?_|refine T.region ?_|refine blockQ_normal ?_)
  have hsz6:=hgb6.size
  refine loopQ_normal (v6,k+(blkB p).length,i+1) ⟨rfl,rfl,rfl,rfl,trivial⟩ ⟨by omega,hlt3,by simp only;omega,?_,hg6⟩ (by simp only;omega)
  simp only
  rw [take_step hp,List.flatMap_append]
  simp only [List.flatMap_cons,List.flatMap_nil,List.append_nil,bys_append,← List.append_assoc] at hown6 ⊢
  exact hown6
 obtain rfl:i=x.n3:=by omega
 repeat (first|(refine TL.isMove ?_;refine TL.pure rfl rfl ?_)|(refine TL.isAsg ?_;refine TL.pure rfl rfl ?_)|refine TL.nil ?_|refine thenQ_normal ?_|refine T.seq ?_|refine T.region ?_|refine blockQ_normal ?_|(refine TL.isBin ?_;refine TL.pureF rfl yD rfl ?_)|refine T.cond_false rfl ?_|refine T.ret ?_|refine T.exit ?_|refine thenQ_exit ?_|refine blockQ_hit ?_|refine loopQ_exit ?_)
 refine ret2 rfl rfl ⟨_,rfl,_,rfl,?_,hg1⟩
 have e:bytesN nd=[1,x.n2]++nd.kids.flatMap word4++(nd.keys.take x.n3).flatMap blkB:=by
  unfold bytesN
  rw [if_neg (by rw [hl];simp),hn2,hn3,List.take_length]
 rw [e]
 have:=hown.1
 rw [length_bys,Nat.mul_one] at this
 rw [this]
 exact own_base hown (by omega)
end Go.Proofs.YtfpadnmdafiddaaGreatDoor
namespace Go.Proofs.YtfpadnmdafiddaaGreatDoor
open Go Go.RowKit Go.V
theorem but_of_mut {b:Nat} {w w':World} (m:Mut b w w'):But b w w':=⟨m.os,m.tape,m.output,m.size,λ k hk hb=>m.block k hk (λ e=>hb (by cases e;rfl))⟩
theorem Carry.but {F:Nat→Prop} {w w':World} {b:Nat} (u:But b w w') (hb:∀ k,F k→k<w.heap.size→k≠b):Carry F w F w':=⟨u.size,λ k hk h=>⟨hk,u.block k h (hb k hk h)⟩⟩
theorem own_but {w w':World} {base n sz e b:Nat} {v:Value} {xs:List Value} (h:w.ownsRow base e sz v n xs) (u:But b w w') (hb:b<base):w'.ownsRow base e sz v n xs:=own_keep h λ k hk hv=>u.block k (own_lt h hv).2 (by omega)
theorem but_grow' {b:Nat} {w w':World} (g:Grow w w'):But b w w':=but_grow g (But.refl b w)
end Go.Proofs.YtfpadnmdafiddaaGreatDoor
