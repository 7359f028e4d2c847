import Derived.Test.YtfpadnmdafiddaaGreatDoorYL
import Derived.Test.YtfpadnmdafiddaaGreatDoorYP
set_option linter.all false
set_option maxHeartbeats 16000000
set_option maxRecDepth 100000
namespace Go.Proofs.YtfpadnmdafiddaaGreatDoor
open Go Go.RowKit Go.V
theorem grow_own {w w4 w5:World} {v:Value} {xs:List Value} {n e:Nat} (hg:Grow w w4) (ho:w4.ownsRow w.heap.size e 1 v n xs) (hgb:w4.grownBy w5 v.ownBlock):Grow w w5 :=
 ⟨below_grownBy hgb hg.2 (λ k hk=>(own_lt ho hk).1) hg.1,by have:=hg.2;have:=hgb.size;omega⟩
theorem used_c {w:World} {L:PL} {g:Pg} (h:PgAt w L g) (ht:TabAt w) :
  Calls Tryz.prog 28 #[.pointer (some ⟨L.p,0,none⟩)] w (Ret λ v w'=>w'.ownsRow w.heap.size 3 1 v (usedL g).length (ints' (usedL g))∧Grow w w'):=by
 refine V.calls (args:=[_]) Tryz.func28 rfl Tryz.ntmps28 rfl rfl ?_
 have hb:=h.blk
 have hu:=h.used
 have hcn:=h.cnt
 have hwl:=h.ok.wl
 unfold pgc at hb
 have hux:∀ w',Grow w w'→Sl (λ k=>k=L.u) w' 1 (some ⟨L.u,0,none⟩) g.words.length g.words.length (ws64 g.words):=λ w' gr=>sl_of_blk (sz:=1) (m:=g.words.length) (hu.grow gr) (by rw [length_ws64,Nat.mul_one]) (by unfold maxLen;omega)
 have hux0:=hux w (Grow.refl _)
 have hol:=onesW_le g.words
 repeat (first|(refine TL.isFn 85 ?_;refine TL.call rfl (valid_c h) rfl ?_;rintro _ _ ⟨rfl,rfl⟩)|(refine TL.isFn 86 ?_;refine TL.call rfl (total_c _ _ _ _ _ _ hux0 h.ok.w64 (by omega)) rfl ?_;rintro _ _ ⟨rfl,rfl⟩)|(refine TL.isMove ?_;refine TL.pure rfl rfl ?_)|(refine TL.isAsg ?_;refine TL.pure rfl rfl ?_)|refine TL.load1 rfl yM rfl ?_|refine TL.fieldAddr rfl rfl ?_|refine TL.nil ?_|refine thenQ_normal ?_|refine T.seq ?_|refine T.region ?_|refine TL.nilCheck rfl rfl ?_|refine T.cond_false rfl ?_|refine T.skip ?_|refine TL.pure rfl rfl ?_)
 refine TL.make0 (c:=onesW g.words) rfl rfl (by omega) (by unfold maxLen;omega) rfl ?_
 intro b1 w1 hb1 hown1 hg1
 repeat (first|(refine TL.isMove ?_;refine TL.pure rfl rfl ?_)|(refine TL.isAsg ?_;refine TL.pure rfl rfl ?_)|refine TL.load1 rfl yM rfl ?_|refine TL.fieldAddr rfl rfl ?_|refine TL.nil ?_|refine thenQ_normal ?_|refine T.seq ?_|refine T.region ?_|refine T.block ?_|refine TL.nilCheck rfl rfl ?_|refine TL.len_slice rfl rfl ?_)
 refine T.loop (S:=Value×Nat×List Nat) (λ q=>[(20,.int .i64 (q.2.1:Int)),(19,.int .i64 (g.words.length:Int)),(18,.slice (some ⟨L.u,0,none⟩) g.words.length g.words.length),(3,q.1)])
  (λ q w2=>q.2.1≤g.words.length∧w2.ownsRow w.heap.size 3 1 q.1 q.2.2.length (ints' q.2.2)∧Grow w w2∧q.2.2=(List.range (64*q.2.1)).filter (bitF g.words))
  (λ q=>g.words.length-q.2.1) (.slice (some ⟨b1,0,none⟩) 0 (onesW g.words),0,[]) ⟨rfl,rfl,rfl,rfl,trivial⟩ ⟨Nat.zero_le _,hown1,hg1,rfl⟩ ?_
 rintro ⟨v,i,l⟩ w2 ⟨hi,hown,hg2,hl⟩
 simp only at hi hown hl
 have hll:l.length≤64*i:=by
  rw [hl]
  refine Nat.le_trans (List.length_filter_le _ _) ?_
  rw [List.length_range]
  omega
 by_cases hlt:i<g.words.length
 ·have hx64:g.words.getD i 0<18446744073709551616:=by
   rw [List.getD_eq_getElem?_getD,List.getElem?_eq_getElem hlt];exact h.ok.w64 _ (List.getElem_mem _)
  have hu2:=hux w2 hg2
  have hcell:w2.cell? (at' (some ⟨L.u,0,none⟩) i)=some (.int .u64 ((g.words.getD i 0:Nat):Int)):=hu2.row.cell (ws64_at hlt)
  have hst:Sift g.words i (g.words.getD i 0) l:=Sift.start hx64 hl
  repeat (first|(refine TL.isIndex ?_;refine TL.indexAddr (j:=i) rfl rfl rfl hlt (Nat.mul_one _) ⟨_,_,hu2⟩ rfl ?_)|(refine TL.isMove ?_;refine TL.pure rfl rfl ?_)|(refine TL.isAsg ?_;refine TL.pure rfl rfl ?_)|refine TL.load1 rfl yM rfl ?_|refine TL.nil ?_|refine thenQ_normal ?_|refine T.seq ?_|refine T.region ?_|refine T.block ?_|(refine TL.isBin ?_;refine TL.pureT rfl yD rfl ?_)|refine T.cond_true rfl ?_|refine T.skip ?_)
  refine T.loop (S:=Value×Nat×List Nat) (λ q=>[(20,.int .i64 (i:Int)),(19,.int .i64 (g.words.length:Int)),(18,.slice (some ⟨L.u,0,none⟩) g.words.length g.words.length),(5,.int .u64 (q.2.1:Int)),(4,.int .i64 (i:Int)),(3,q.1)])
   (λ q w3=>w3.ownsRow w.heap.size 3 1 q.1 q.2.2.length (ints' q.2.2)∧Grow w w3∧Sift g.words i q.2.1 q.2.2) (λ q=>q.2.1) (v,g.words.getD i 0,l) ⟨rfl,rfl,rfl,rfl,rfl,rfl,trivial⟩ ⟨hown,hg2,hst⟩ ?_
  clear hst hown hg2 hu2 hcell hll hl
  rintro ⟨v3,y,l3⟩ w3 ⟨hown,hg3,hst⟩
  simp only at hown hst
  refine T.weaken (e':=[(20,.int .i64 (i:Int)),(19,.int .i64 (g.words.length:Int)),(18,.slice (some ⟨L.u,0,none⟩) g.words.length g.words.length),(5,.int .u64 (y:Int)),(4,.int .i64 (i:Int)),(3,v3)]) ?_ ⟨rfl,rfl,rfl,rfl,rfl,rfl,trivial⟩
  have hy64:=hst.le
  have hl3:=hst.len
  by_cases hy0:y=0
  ·subst hy0
   have hdone:=hst.done
   repeat (first|(refine TL.isMove ?_;refine TL.pure rfl rfl ?_)|(refine TL.isAdd ?_;refine TL.addN rfl rfl (by omega) rfl ?_)|refine TL.nil ?_|refine thenQ_normal ?_|refine T.seq ?_|refine T.region ?_|refine blockQ_normal ?_|(refine TL.isBin ?_;refine TL.pureF rfl yD rfl ?_)|refine T.cond_false rfl ?_|refine T.exit ?_|refine thenQ_exit ?_|refine blockQ_hit ?_|refine loopQ_exit ?_)
   exact loopQ_normal (v3,i+1,l3) ⟨rfl,rfl,rfl,rfl,trivial⟩ ⟨by simp only;omega,hown,hg3,hdone⟩ (by simp only;omega)
  ·obtain ⟨k,m,rfl⟩:=odd_split y hy0
   obtain ⟨hk64,hst2⟩:=hst.step
   have hne:(((2^k*(2*m+1):Nat):Int) != 0)=true:=by simp only [bne_iff_ne,ne_eq];omega
   have ht3:=ht.grow hg3
   have z3:=hg3.size
   obtain ⟨y,hy⟩:∃ q,q=2^k*(2*m+1):=⟨_,rfl⟩
   have htz:=tz_c k m (by omega) hk64 w3 ht3
   have hoff:=low_off k m
   rw [← hy] at htz hst hne hy0 hy64 hoff ⊢
   repeat (first|(refine TL.isFn 102 ?_;refine TL.call rfl (htz) rfl ?_;rintro _ _ ⟨rfl,rfl⟩)|(refine TL.isMul ?_;refine TL.mulN (a:=64) rfl rfl (by omega) rfl ?_)|(refine TL.isMove ?_;refine TL.pure rfl rfl ?_)|(refine TL.isAdd ?_;refine TL.addN rfl rfl (by omega) rfl ?_)|refine TL.nil ?_|refine thenQ_normal ?_|refine T.seq ?_|refine T.region ?_|refine T.block ?_|(refine TL.isBin ?_;refine TL.pureT rfl yD rfl ?_)|refine T.cond_true rfl ?_|refine T.skip ?_)
   refine TL.buildSlice rfl rfl rfl rfl rfl ?_
   intro b8 w8 hg8 hb8 hs8 hs8' hs8''
   have hsl8:Sl (λ k=>k=b8) w8 1 (some ⟨b8,0,none⟩) 1 1 [.int .i64 ((64*i+k:Nat):Int)]:=sl_of_blk (sz:=1) (m:=1) (show Blk w8 b8 3 [.int .i64 ((64*i+k:Nat):Int)] from hb8) rfl (by decide)
   refine TL.append rfl rfl (own_grow hown hg8) hsl8 (λ u hu=>by rw [List.mem_singleton] at hu;subst hu;rfl) (by unfold maxLen;omega) (by omega) (by omega) rfl ?_
   intro v9 w9 hown9 hgb9 _
   have hg9:Grow w w9:=grow_own (hg3.trans hg8) (own_grow hown hg8) hgb9
   have hown10:w9.ownsRow w.heap.size 3 1 v9 (l3++[64*i+k]).length (ints' (l3++[64*i+k])):=by
    rw [List.length_append,ints',List.map_append]
    exact hown9
   have hlt2:2^k*(2*m)<y:=by rw [hy];exact Nat.mul_lt_mul_of_pos_left (by omega) (Nat.two_pow_pos k)
   repeat (first|(refine TL.isAndW ?_;refine TL.andN6 (a:=y) (b:=y-1) rfl rfl (by omega) (by omega) rfl ?_;rw [hoff])|(refine TL.isMove ?_;refine TL.pure rfl rfl ?_)|(refine TL.isAsg ?_;refine TL.pure rfl rfl ?_)|(refine TL.isSub ?_;refine TL.subU rfl rfl rfl (by omega) (by omega) rfl ?_)|refine TL.nil ?_|refine thenQ_normal ?_|refine T.region ?_|refine blockQ_normal ?_)
   exact loopQ_normal (v9,2^k*(2*m),l3++[64*i+k]) ⟨rfl,rfl,rfl,rfl,rfl,rfl,trivial⟩ ⟨hown10,hg9,hst2⟩ hlt2
 ·have hi2:i=g.words.length:=by omega
  subst hi2
  rw [← usedL_words h.ok] at hl
  subst hl
  repeat (first|(refine TL.isMove ?_;refine TL.pure rfl rfl ?_)|(refine TL.isAsg ?_;refine TL.pure rfl rfl ?_)|refine TL.nil ?_|refine thenQ_normal ?_|refine T.seq ?_|refine T.region ?_|(refine TL.isBin ?_;refine TL.pureF rfl yD rfl ?_)|refine T.cond_false rfl ?_|refine T.ret ?_|refine T.exit ?_|refine thenQ_exit ?_|refine blockQ_hit ?_|refine loopQ_exit ?_)
  exact ret1 rfl ⟨_,rfl,hown,hg2⟩
theorem ints_c {F:Nat→Prop} {w:World} {a1 a2:Option Addr} {n1 c1 n2 c2:Nat} {l r:List Nat} (h1:Sl F w 1 a1 n1 c1 (ints' l)) (h2:Sl F w 1 a2 n2 c2 (ints' r)) (hlr:l=r) :
  Calls Tryz.prog 30 #[.slice a1 n1 c1,.slice a2 n2 c2] w (Ret λ v w'=>v=.bool true∧Grow w w'):=by
 have e1:=kids_len h1
 have e2:=kids_len h2
 have l1:=h1.le
 subst hlr
 subst e1
 subst e2
 refine V.calls (args:=[_,_]) Tryz.func30 rfl Tryz.ntmps30 rfl rfl ?_
 have hq:(((l.length:Nat):Int) != ((l.length:Nat):Int))=false:=by simp
 repeat (first|(refine TL.isMove ?_;refine TL.pure rfl rfl ?_)|(refine TL.isAsg ?_;refine TL.pure rfl rfl ?_)|refine TL.nil ?_|refine thenQ_normal ?_|refine T.seq ?_|refine T.region ?_|refine T.block ?_|(refine TL.isBin ?_;refine TL.pureF rfl yD rfl ?_)|refine TL.len_slice rfl rfl ?_|refine T.cond_false rfl ?_|refine T.skip ?_)
 refine T.loop (S:=Nat) (λ i=>[(5,.int .i64 (i:Int)),(1,.slice a2 l.length c2),(0,.slice a1 l.length c1)]) (λ i w2=>i≤l.length∧Grow w w2) (λ i=>l.length-i) 0 ⟨rfl,rfl,rfl,trivial⟩ ⟨Nat.zero_le _,Grow.refl _⟩ ?_
 rintro i w2 ⟨hi,hg⟩
 by_cases hlt:i<l.length
 ·obtain ⟨x,hx⟩:∃ q,l[i]? = some q:=⟨_,List.getElem?_eq_getElem hlt⟩
  have g1:=h1.grow hg
  have g2:=h2.grow hg
  have f1:(ints' l)[i]? = some (.int .i64 (x:Int)):=by simp [ints',hx]
  have hc1:∀ w3,Grow w2 w3→w3.cell? (at' a1 i)=some (.int .i64 (x:Int)):=λ w3 g3=>(g1.grow g3).row.cell f1
  have hc2:∀ w3,Grow w2 w3→w3.cell? (at' a2 i)=some (.int .i64 (x:Int)):=λ w3 g3=>(g2.grow g3).row.cell f1
  have hqx:((x:Int) != (x:Int))=false:=by simp
  repeat (first|(refine TL.isMove ?_;refine TL.pure rfl rfl ?_)|refine TL.nil ?_|refine thenQ_normal ?_|refine T.seq ?_|refine T.region ?_|refine T.block ?_|(refine TL.isBin ?_;refine TL.pureT rfl yD rfl ?_)|refine TL.len_slice rfl rfl ?_|refine T.cond_true rfl ?_|refine T.skip ?_)
  apply T.any 9 [is (.slice a1 l.length c1),is (.int .i64 (i:Int)),is (.pointer (some (at' a1 i))),is (.int .i64 (x:Int)),is (.slice a2 l.length c2),is (.int .i64 (i:Int)),is (.pointer (some (at' a2 i))),is (.int .i64 (x:Int)),is (.bool false)]
  ·rfl
  ·repeat' (first|exact allDo_end|refine allDo_cons ?_ ?_)
   iterate 2
    ·(refine does_mk0 rfl rfl rfl ?_);( intro wq _ _ hgq;(repeat (refine need_cons rfl rfl ?_;intro vq hvq;try (obtain rfl:=hvq)));(refine need_nil ?_))
     repeat (first|(refine TL.isMove ?_;refine TL.pure rfl rfl ?_)|refine TL.nil ?_)
     exact one_end rfl yG rfl
   ·(refine does_mk0 rfl rfl rfl ?_);( intro wq _ _ hgq;(repeat (refine need_cons rfl rfl ?_;intro vq hvq;try (obtain rfl:=hvq)));(refine need_nil ?_))
    refine TL.indexAddr (j:=i) rfl rfl rfl hlt (Nat.mul_one _) ⟨_,_,g1.grow hgq⟩ rfl ?_
    repeat (refine TL.nil ?_)
    exact one_end rfl yG rfl
   ·(refine does_mk0 rfl rfl rfl ?_);( intro wq _ _ hgq;(repeat (refine need_cons rfl rfl ?_;intro vq hvq;try (obtain rfl:=hvq)));(refine need_nil ?_))
    refine TL.load1 rfl (hc1 _ hgq) rfl ?_
    repeat (refine TL.nil ?_)
    exact one_end rfl yG rfl
   iterate 2
    ·(refine does_mk0 rfl rfl rfl ?_);( intro wq _ _ hgq;(repeat (refine need_cons rfl rfl ?_;intro vq hvq;try (obtain rfl:=hvq)));(refine need_nil ?_))
     repeat (first|(refine TL.isMove ?_;refine TL.pure rfl rfl ?_)|refine TL.nil ?_)
     exact one_end rfl yG rfl
   ·(refine does_mk0 rfl rfl rfl ?_);( intro wq _ _ hgq;(repeat (refine need_cons rfl rfl ?_;intro vq hvq;try (obtain rfl:=hvq)));(refine need_nil ?_))
    refine TL.indexAddr (j:=i) rfl rfl rfl hlt (Nat.mul_one _) ⟨_,_,g2.grow hgq⟩ rfl ?_
    repeat (refine TL.nil ?_)
    exact one_end rfl yG rfl
   ·(refine does_mk0 rfl rfl rfl ?_);( intro wq _ _ hgq;(repeat (refine need_cons rfl rfl ?_;intro vq hvq;try (obtain rfl:=hvq)));(refine need_nil ?_))
    refine TL.load1 rfl (hc2 _ hgq) rfl ?_
    repeat (refine TL.nil ?_)
    exact one_end rfl yG rfl
   ·(refine does_mk0 rfl rfl rfl ?_);( intro wq _ _ hgq;(repeat (refine need_cons rfl rfl ?_;intro vq hvq;try (obtain rfl:=hvq)));(refine need_nil ?_))
    repeat (first|refine TL.nil ?_|(refine TL.isBin ?_;refine TL.pureF rfl yD rfl ?_))
    exact one_end rfl yG rfl
  ·intro w6 lo6 hi6 hg6 _ _
   ((repeat (refine need_cons rfl rfl ?_;intro vq hvq;try (obtain rfl:=hvq)));(refine need_nil ?_))
   repeat (first|(refine TL.isMove ?_;refine TL.pure rfl rfl ?_)|(refine TL.isAsg ?_;refine TL.pure rfl rfl ?_)|(refine TL.isAdd ?_;refine TL.addN rfl rfl (by omega) rfl ?_)|refine TL.nil ?_|refine thenQ_normal ?_|refine T.region ?_|refine blockQ_normal ?_|refine T.cond_false rfl ?_|refine T.skip ?_)
   exact loopQ_normal (i+1) ⟨rfl,rfl,rfl,trivial⟩ ⟨by omega,hg.trans hg6⟩ (by omega)
 ·obtain rfl:i=l.length:=by omega
  repeat (first|(refine TL.isMove ?_;refine TL.pure rfl rfl ?_)|(refine TL.isAsg ?_;refine TL.pure rfl rfl ?_)|refine TL.nil ?_|refine thenQ_normal ?_|refine T.seq ?_|refine T.region ?_|(refine TL.isBin ?_;refine TL.pureF rfl yD rfl ?_)|refine TL.len_slice rfl rfl ?_|refine T.cond_false rfl ?_|refine T.ret ?_|refine T.exit ?_|refine thenQ_exit ?_|refine blockQ_hit ?_|refine loopQ_exit ?_)
  exact ret1 rfl ⟨_,rfl,rfl,hg⟩
end Go.Proofs.YtfpadnmdafiddaaGreatDoor
namespace Go.Proofs.YtfpadnmdafiddaaGreatDoor
open Go Go.RowKit Go.V
theorem zeros_ws (n:Nat):(madeCells (Value.int IntKind.u64 0).cells (n*1)).toList=ws64 (List.replicate n 0):=by
 have h0:∀ x:Nat,(Value.int IntKind.u64 0).cells[x%(Value.int IntKind.u64 0).cells.size]! = .int .u64 0:=λ x=>by
  rw [show (Value.int IntKind.u64 0).cells = #[.int .u64 0] from rfl]
  simp [Nat.mod_one]
 simp only [ws64,madeCells,Nat.mul_one,Array.toList_map,Array.toList_range,h0,List.map_replicate]
 rw [List.map_const',List.length_range]
 rfl
theorem keep_c {F:Nat→Prop} {w:World} {L:PL} {g:Pg} (h:PgAt w L g) {a:Option Addr} {n c:Nat} {qs:List Nat} (hs:Sl F w 1 a n c (ints' qs)) (hF:∀ k,F k→k<w.heap.size) (hq:∀ q∈qs,usedP g q=true) (hn:n≤1000000) :
  Calls Tryz.prog 23 #[.pointer (some ⟨L.p,0,none⟩),.slice a n c] w (Ret λ v w'=>∃ L':PL,L'.p=L.p∧L'.d=L.d∧L'.m=L.m∧L'.s=L.s∧w.heap.size≤L'.u∧(∃ k:Int,v=.tuple #[.int .i64 k,.int .i64 0])∧PgAt w' L' (keepP g qs)∧ButS (λ k=>k=L.p) w w'):=by
 have hql:=kids_len hs
 subst hql
 have hnl:=hs.le
 refine V.calls (args:=[_,_]) Tryz.func23 rfl Tryz.ntmps23 rfl rfl ?_
 have hb:=h.blk
 have hu:=h.used
 have hcn:=h.cnt
 have hwl:=h.ok.wl
 unfold pgc at hb
 have hlts:=h.lts
 repeat (first|(refine TL.isFn 85 ?_;refine TL.call rfl (valid_c h) rfl ?_;rintro _ _ ⟨rfl,rfl⟩)|(refine TL.isMove ?_;refine TL.pure rfl rfl ?_)|(refine TL.isAsg ?_;refine TL.pure rfl rfl ?_)|refine TL.load1 rfl yM rfl ?_|refine TL.fieldAddr rfl rfl ?_|refine TL.nil ?_|refine thenQ_normal ?_|refine T.seq ?_|refine T.region ?_|refine TL.nilCheck rfl rfl ?_|refine TL.len_slice rfl rfl ?_|refine T.cond_false rfl ?_|refine T.skip ?_|refine TL.pure rfl rfl ?_)
 refine TL.makeAll (c:=g.words.length) (z:=.int .u64 0) rfl rfl (by omega) (by unfold maxLen;omega) rfl ?_
 intro b1 w1 hb1 hown hg1
 have hbu:=blk_of_own hown
 rw [zeros_ws] at hbu
 have z1:=hg1.size
 repeat (first|(refine TL.isMove ?_;refine TL.pure rfl rfl ?_)|(refine TL.isAsg ?_;refine TL.pure rfl rfl ?_)|refine TL.nil ?_|refine thenQ_normal ?_|refine T.seq ?_|refine T.region ?_|refine T.block ?_|(refine TL.isBox ?_;(refine TL.boxA rfl rfl ?_;intro bk w' hg hbk hsz hsz'))|refine TL.build rfl rfl rfl ?_|refine TL.len_slice rfl rfl ?_)
 have hG0:Grow w w':=hg1.trans hg
 have hbu0:Blk w' b1 168 (ws64 (List.replicate g.words.length 0)):=hbu.grow hg
 have hk0:Blk w' bk 150 [.pointer none,.pointer none,.int .i64 0,.slice (some ⟨b1,0,none⟩) g.words.length g.words.length]:=hbk
 have z0:=hG0.size
 have hg1z:b1<w1.heap.size:=hbu.lt
 have hne1:b1≠bk:=by omega
 clear hbk hown hbu hg
 obtain ⟨w0,rfl⟩:∃ z,z=w':=⟨w',rfl⟩
 have hdv:=keep_div h.ok hq
 rw [List.length_replicate] at hdv
 refine T.loop (S:=Nat) (λ i=>[(23,.int .i64 (i:Int)),(22,.int .i64 (qs.length:Int)),(21,.slice a qs.length c),(6,.pointer (some ⟨bk,0,none⟩)),(0,.pointer (some ⟨L.p,0,none⟩))])
  (λ i w2=>i≤qs.length∧Blk w2 b1 168 (ws64 ((qs.take i).foldl markW (List.replicate g.words.length 0)))∧But b1 w0 w2) (λ i=>qs.length-i) 0 ⟨rfl,rfl,rfl,rfl,rfl,trivial⟩ ⟨Nat.zero_le _,hbu0,But.refl _ _⟩ ?_
 rintro i w2 ⟨hi,hm2,hbt⟩
 have z2:=hbt.size
 have hp2:PgAt w2 L g:=(h.grow hG0).keep (λ k hk=>hbt.block k (by omega) (by omega))
 have hk2:Blk w2 bk 150 [.pointer none,.pointer none,.int .i64 0,.slice (some ⟨b1,0,none⟩) g.words.length g.words.length]:=blk_but hbt hk0 (Ne.symm hne1)
 have hs2:Sl F w2 1 a qs.length c (ints' qs):=hs.go ((Carry.grow hG0).trans (Carry.but hbt (λ k hk _=>by have:=hF k hk;omega)))
 by_cases hlt:i<qs.length
 ·obtain ⟨x,hx⟩:∃ q,qs[i]? = some q:=⟨_,List.getElem?_eq_getElem hlt⟩
  have hxm:=List.mem_of_getElem? hx
  have hxu:=hq x hxm
  have hxl:=usedP_lt hxu
  have hcell:w2.cell? (at' a i)=some (.int .i64 (x:Int)):=hs2.row.cell (by simp [ints',hx])
  have hhas:=has_c hp2 x (by omega)
  rw [hxu] at hhas
  have htk:qs.take (i+1)=qs.take i++[x]:=by rw [List.take_add_one,hx];rfl
  have hml:((qs.take i).foldl markW (List.replicate g.words.length 0)).length=g.words.length:=by rw [length_marks,List.length_replicate]
  have h64:∀ y∈(qs.take i).foldl markW (List.replicate g.words.length 0),y<18446744073709551616:=marks_64 (λ y hy=>by rw [(List.mem_replicate.1 hy).2];decide) (λ y hy=>by rw [List.length_replicate];exact hdv y (List.mem_of_mem_take hy))
  repeat (first|(refine TL.isIndex ?_;refine TL.indexAddr (j:=i) rfl rfl rfl hlt (Nat.mul_one _) ⟨_,_,hs2⟩ rfl ?_)|(refine TL.isFn 91 ?_;refine TL.call rfl (hhas) rfl ?_;rintro _ _ ⟨rfl,rfl⟩)|(refine TL.isMove ?_;refine TL.pure rfl rfl ?_)|(refine TL.isAsg ?_;refine TL.pure rfl rfl ?_)|refine TL.load1 rfl yM rfl ?_|refine TL.nil ?_|refine thenQ_normal ?_|refine T.seq ?_|refine T.region ?_|refine T.block ?_|(refine TL.isBin ?_;refine TL.pureT rfl yD rfl ?_)|refine T.cond_true rfl ?_|refine T.cond_false rfl ?_|refine T.skip ?_|refine TL.pure rfl rfl ?_)
  refine TL.isFn 92 ?_
  refine TL.call rfl (mark_c hk2 hm2 hml h64 x (hdv x hxm) (by omega)) rfl ?_
  rintro _ w3 ⟨hm3,hb3⟩
  repeat (first|(refine TL.isMove ?_;refine TL.pure rfl rfl ?_)|(refine TL.isAdd ?_;refine TL.addN rfl rfl (by omega) rfl ?_)|refine TL.nil ?_|refine thenQ_normal ?_|refine T.region ?_|refine blockQ_normal ?_)
  exact loopQ_normal (i+1) ⟨rfl,rfl,rfl,rfl,rfl,trivial⟩ ⟨by omega,by rw [htk,List.foldl_append];exact hm3,⟨hb3.os.trans hbt.os,hb3.tape.trans hbt.tape,hb3.output.trans hbt.output,Nat.le_trans hbt.size hb3.size,λ k hk hkb=>(hb3.block k (by omega) hkb).trans (hbt.block k hk hkb)⟩⟩ (by omega)
 ·obtain rfl:i=qs.length:=by omega
  rw [List.take_length] at hm2
  have hkw:qs.foldl markW (List.replicate g.words.length 0)=keepW g qs:=rfl
  rw [hkw] at hm2
  have hlk:(keepW g qs).length=g.words.length:=by unfold keepW;rw [length_marks,List.length_replicate]
  have hko:=keep_ok h.ok hq
  have hk64:∀ y∈keepW g qs,y<18446744073709551616:=hko.w64
  have hux:∀ w',Grow w2 w'→Sl (λ k=>k=L.u) w' 1 (some ⟨L.u,0,none⟩) g.words.length g.words.length (ws64 g.words):=λ w' gr=>sl_of_blk (sz:=1) (m:=g.words.length) (hp2.used.grow gr) (by rw [length_ws64,Nat.mul_one]) (by unfold maxLen;omega)
  have hkx:∀ w',Grow w2 w'→Sl (λ k=>k=b1) w' 1 (some ⟨b1,0,none⟩) g.words.length g.words.length (ws64 (keepW g qs)):=λ w' gr=>sl_of_blk (sz:=1) (m:=g.words.length) (hm2.grow gr) (by rw [length_ws64,Nat.mul_one,hlk]) (by unfold maxLen;omega)
  have hb2:=hp2.blk
  unfold pgc at hb2
  have o1:=onesW_le g.words
  have o2:=onesW_le (keepW g qs)
  rw [hlk] at o2
  repeat (first|refine TL.nil ?_|refine thenQ_normal ?_|refine T.seq ?_|refine T.region ?_|(refine TL.isBin ?_;refine TL.pureF rfl yD rfl ?_)|refine T.cond_false rfl ?_|refine T.exit ?_|refine thenQ_exit ?_|refine blockQ_hit ?_|refine loopQ_exit ?_)
  apply T.any 11 [is (.pointer (some ⟨L.p,0,none⟩)),is (.pointer (some ⟨L.p,0,none⟩)),is (.pointer (some ⟨L.p,3,none⟩)),is (.slice (some ⟨L.u,0,none⟩) g.words.length g.words.length),is (.int .i64 (onesW g.words:Int)),is (.pointer (some ⟨bk,0,none⟩)),is (.pointer (some ⟨bk,0,none⟩)),is (.pointer (some ⟨bk,3,none⟩)),is (.slice (some ⟨b1,0,none⟩) g.words.length g.words.length),is (.int .i64 (onesW (keepW g qs):Int)),is (.int .i64 ((onesW g.words:Int)-(onesW (keepW g qs):Int)))]
  ·rfl
  ·repeat' (first|exact allDo_end|refine allDo_cons ?_ ?_)
   iterate 4
    ·(refine does_mk0 rfl rfl rfl ?_);( intro wq _ _ hgq;(repeat (refine need_cons rfl rfl ?_;intro vq hvq;try (obtain rfl:=hvq)));(refine need_nil ?_))
     repeat (first|(refine TL.isMove ?_;refine TL.pure rfl rfl ?_)|refine TL.load1 rfl yM rfl ?_|refine TL.fieldAddr rfl rfl ?_|refine TL.nil ?_|refine TL.nilCheck rfl rfl ?_)
     exact one_end rfl yG rfl
   ·(refine does_mk0 rfl rfl rfl ?_);( intro wq _ _ hgq;(repeat (refine need_cons rfl rfl ?_;intro vq hvq;try (obtain rfl:=hvq)));(refine need_nil ?_))
    repeat (first|(refine TL.isFn 86 ?_;refine TL.call rfl (total_c _ _ _ _ _ _ (hux _ hgq) h.ok.w64 (by omega)) rfl ?_;rintro _ _ ⟨rfl,rfl⟩)|refine TL.nil ?_)
    exact one_end rfl yG rfl
   iterate 4
    ·(refine does_mk0 rfl rfl rfl ?_);( intro wq _ _ hgq;(repeat (refine need_cons rfl rfl ?_;intro vq hvq;try (obtain rfl:=hvq)));(refine need_nil ?_))
     repeat (first|(refine TL.isMove ?_;refine TL.pure rfl rfl ?_)|refine TL.load1 rfl yM rfl ?_|refine TL.fieldAddr rfl rfl ?_|refine TL.nil ?_|refine TL.nilCheck rfl rfl ?_)
     exact one_end rfl yG rfl
   ·(refine does_mk0 rfl rfl rfl ?_);( intro wq _ _ hgq;(repeat (refine need_cons rfl rfl ?_;intro vq hvq;try (obtain rfl:=hvq)));(refine need_nil ?_))
    repeat (first|(refine TL.isFn 86 ?_;refine TL.call rfl (total_c _ _ _ _ _ _ (hkx _ hgq) hk64 (by omega)) rfl ?_;rintro _ _ ⟨rfl,rfl⟩)|refine TL.nil ?_)
    exact one_end rfl yG rfl
   ·(refine does_mk0 rfl rfl rfl ?_);( intro wq _ _ hgq;(repeat (refine need_cons rfl rfl ?_;intro vq hvq;try (obtain rfl:=hvq)));(refine need_nil ?_))
    refine TL.subI rfl rfl (by omega) (by omega) rfl ?_
    repeat (refine TL.nil ?_)
    exact one_end rfl yG rfl
  ·intro w6 lo6 hi6 hg6 _ _
   ((repeat (refine need_cons rfl rfl ?_;intro vq hvq;try (obtain rfl:=hvq)));(refine need_nil ?_))
   repeat (first|(refine TL.isMove ?_;refine TL.pure rfl rfl ?_)|(refine TL.isAsg ?_;refine TL.pure rfl rfl ?_)|refine TL.load1 rfl yM rfl ?_|refine TL.fieldAddr rfl rfl ?_|refine TL.nil ?_|refine thenQ_normal ?_|refine T.seq ?_|refine T.region ?_|(refine TL.isStore ?_;(refine TL.store1 rfl rfl yB (by exact rfl) (by exact rfl) (by exact rfl) ?_;intro w' hu hbk hsz))|refine TL.nilCheck rfl rfl ?_|refine T.ret ?_)
   have z6:=hg6.size
   have hn:=h.ne
   obtain ⟨f,f1,f2⟩:=hp2.f
   have q1:=hu.block L.d (by omega)
   have q2:=hu.block L.m (by omega)
   refine ret2 rfl rfl ⟨_,rfl,⟨L.p,L.d,b1,L.m,L.s⟩,rfl,rfl,rfl,rfl,by simp only;omega,⟨_,rfl⟩,⟨?_,(hm2.grow hg6).upd hu (by simp only;omega),hko,h.cnt,⟨f,DkAt.keep (DkAt.grow hg6 f1) q1 q2,λ m hm=>?_⟩,h.lt,λ m hm=>h.bl m (hq m ?_),by simp only;omega⟩,?_⟩
   ·show Blk w' L.p 150 (pgc L.p L.d b1 g.count (keepW g qs).length)
    rw [hlk]
    exact hbk
   ·rw [keep_used h.ok hq,decide_eq_true_eq] at hm
    exact f2 m (hq m hm)
   ·rw [keep_used h.ok hq,decide_eq_true_eq] at hm
    exact hm
   ·refine ⟨hu.os.trans (hg6.1.os.trans (hbt.os.trans hG0.1.os)),hu.tape.trans (hg6.1.tape.trans (hbt.tape.trans hG0.1.tape)),hu.output.trans (hg6.1.output.trans (hbt.output.trans hG0.1.output)),by omega,λ k hk hne=>?_⟩
    exact (hu.block k hne).trans ((hg6.block k (by omega)).trans ((hbt.block k (by omega) (by omega)).trans (hG0.block k hk)))
end Go.Proofs.YtfpadnmdafiddaaGreatDoor
namespace Go.Proofs.YtfpadnmdafiddaaGreatDoor
open Go Go.RowKit Go.V
theorem tready_bad {w:World} {L:PL} {g:Pg} (h:PgAt w L g) (r:Int) (hr : -1≤r) (hr2:r≤9223372036854775807) (F F':Nat→Prop) (a a':Option Addr) (n c n' c':Nat) (k v:Bs) (hk:Sl F w 1 a n c (bys k)) (hv:Sl F' w 1 a' n' c' (bys v)) (hbad:(keyOk k&&valOk v)=false) :
  Calls Tryz.prog 77 #[.pointer (some ⟨L.p,0,none⟩),.int .i64 r,.slice a n c,.slice a' n' c'] w (Ret λ u w'=>u=.int .i64 2∧Grow w w'):=by
 refine V.calls (args:=[_,_,_,_]) Tryz.func77 rfl Tryz.ntmps77 rfl rfl ?_
 cases hko:keyOk k with
 | false =>
  repeat (first|(refine TL.isFn 93 ?_;refine TL.call rfl (ready_c h r hr hr2) rfl ?_;rintro _ _ ⟨rfl,rfl⟩)|(refine TL.isFn 94 ?_;refine TL.call rfl (key_t hk hko) rfl ?_;rintro _ _ ⟨rfl,rfl⟩)|refine TL.guard_skip rfl rfl rfl ?_|(refine TL.isMove ?_;refine TL.pure rfl rfl ?_)|(refine TL.isAsg ?_;refine TL.pure rfl rfl ?_)|refine TL.nil ?_|refine thenQ_normal ?_|refine T.seq ?_|refine T.region ?_|(refine TL.isBin ?_;refine TL.pureF rfl yD rfl ?_)|refine T.cond_true rfl ?_|refine T.cond_false rfl ?_|refine T.ret ?_|refine T.skip ?_|refine thenQ_ret ?_|refine TL.pure rfl rfl ?_)
  exact ret1 rfl ⟨_,rfl,rfl,yG⟩
 | true =>
  have hvo:valOk v=false:=by rw [hko] at hbad;simpa using hbad
  repeat (first|(refine TL.isFn 93 ?_;refine TL.call rfl (ready_c h r hr hr2) rfl ?_;rintro _ _ ⟨rfl,rfl⟩)|(refine TL.isFn 94 ?_;refine TL.call rfl (key_t hk hko) rfl ?_;rintro _ _ ⟨rfl,rfl⟩)|(refine TL.isFn 148 ?_;refine TL.call rfl (value_t hv hvo) rfl ?_;rintro _ _ ⟨rfl,rfl⟩)|refine TL.guard_run rfl rfl rfl ?_|(refine TL.isMove ?_;refine TL.pure rfl rfl ?_)|(refine TL.isAsg ?_;refine TL.pure rfl rfl ?_)|refine TL.nil ?_|refine thenQ_normal ?_|refine T.seq ?_|refine T.region ?_|(refine TL.isBin ?_;refine TL.pureF rfl yD rfl ?_)|refine T.cond_true rfl ?_|refine T.cond_false rfl ?_|refine T.ret ?_|refine T.skip ?_|refine thenQ_ret ?_|refine TL.pure rfl rfl ?_)
  exact ret1 rfl ⟨_,rfl,rfl,yG⟩
theorem rootI_in {g:Pg} (hc:g.count≤8192) {root:Option Nat} (hr:∀ n,root=some n→usedP g n=true) : -1≤rootI root∧rootI root≤9223372036854775807:=by
 cases root with
 | none=>show (-1:Int)≤-1∧(-1:Int)≤_;omega
 | some n =>
  have:=usedP_lt (hr n rfl)
  show (-1:Int)≤(n:Int)∧(n:Int)≤_
  omega
theorem put_bad {w:World} {L:PL} {g:Pg} (h:PgAt w L g) (root:Option Nat) (hr:∀ n,root=some n→usedP g n=true) {F F':Nat→Prop} (a a':Option Addr) (m c m' c':Nat) (key v:Bs) (hk:Sl F w 1 a m c (bys key)) (hv:Sl F' w 1 a' m' c' (bys v)) (hbad:(keyOk key&&valOk v)=false) :
  Calls Tryz.prog 25 #[.pointer (some ⟨L.p,0,none⟩),.int .i64 (rootI root),.slice a m c,.slice a' m' c'] w (Ret λ u w'=>u=.tuple #[.int .i64 0,.int .i64 2]∧Grow w w'):=by
 have hrr:=rootI_in h.cnt hr
 refine V.calls (args:=[_,_,_,_]) Tryz.func25 rfl Tryz.ntmps25 rfl rfl ?_
 repeat (first|(refine TL.isMove ?_;refine TL.pure rfl rfl ?_)|refine TL.load1 rfl yM rfl ?_|refine TL.nil ?_|refine thenQ_normal ?_|refine T.seq ?_|refine T.region ?_|(refine TL.isBox ?_;(refine TL.box rfl rfl rfl ?_;intro bk w' hg hbk hsz hsz'))|(refine TL.isAlloc ?_;(refine TL.alloc rfl rfl ?_;intro bk w' hg hbk hsz hsz')))
 rename_i b4 w1 g1 k1 p1 p1' b8 w2 g2 k2 p2 p2'
 obtain ⟨b9,rfl⟩:∃ y,y=bk:=⟨bk,rfl⟩
 refine TL.isFn 77 ?_
 have hg3:Grow w w':=g1.trans (g2.trans hg)
 refine TL.call rfl (tready_bad (h.grow hg3) _ hrr.1 hrr.2 _ _ a a' m c m' c' key v (hk.grow hg3) (hv.grow hg3) hbad) rfl ?_
 rintro _ w4 ⟨rfl,hg4⟩
 have k4:=(k1.grow (g2.trans hg)).grow hg4
 have k8:=(k2.grow hg).grow hg4
 have k9:=hbk.grow hg4
 have hgw:=hg3.trans hg4
 have q:b4=w.heap.size∧b8=b4+1∧b9=b8+1∧b9<w4.heap.size:=by have:=k9.lt;omega
 clear hbk hg hg3 hg4 k1 k2 g1 g2 hsz hsz' p1 p1' p2 p2'
 repeat (first|(refine TL.isMove ?_;refine TL.pure rfl rfl ?_)|(refine TL.isAsg ?_;refine TL.pure rfl rfl ?_)|refine TL.nil ?_|refine thenQ_normal ?_|refine T.seq ?_|refine T.region ?_|(refine TL.isBin ?_;refine TL.pureT rfl yD rfl ?_)|(refine TL.isStore ?_;(refine TL.store1 rfl rfl yB (by exact rfl) (by exact rfl) (by exact rfl) ?_;intro w' hu hbk hsz))|refine T.cond_true rfl ?_|refine T.ret ?_|refine thenQ_ret ?_)
 rename_i w5 hu5 hb5 z5
 exact retCC rfl (load_one (hb5.upd hu (by omega))) rfl (load_one hbk) ⟨_,rfl,rfl,grow_upd hu (by omega) (grow_upd hu5 (by omega) hgw)⟩
theorem delete_bad {w:World} {L:PL} {g:Pg} (h:PgAt w L g) (root:Option Nat) (hr:∀ n,root=some n→usedP g n=true) {F:Nat→Prop} (a:Option Addr) (m c:Nat) (key:Bs) (hk:Sl F w 1 a m c (bys key)) (hbad:keyOk key=false) :
  Calls Tryz.prog 19 #[.pointer (some ⟨L.p,0,none⟩),.int .i64 (rootI root),.slice a m c] w (Ret λ u w'=>u=.tuple #[.int .i64 0,.int .i64 2]∧Grow w w'):=by
 have hrr:=rootI_in h.cnt hr
 refine V.calls (args:=[_,_,_]) Tryz.func19 rfl Tryz.ntmps19 rfl rfl ?_
 repeat (first|(refine TL.isMove ?_;refine TL.pure rfl rfl ?_)|refine TL.load1 rfl yM rfl ?_|refine TL.nil ?_|refine thenQ_normal ?_|refine T.seq ?_|refine T.region ?_|(refine TL.isBox ?_;(refine TL.box rfl rfl rfl ?_;intro bk w' hg hbk hsz hsz'))|(refine TL.isAlloc ?_;(refine TL.alloc rfl rfl ?_;intro bk w' hg hbk hsz hsz')))
 rename_i b3 w1 g1 k1 p1 p1' b6 w2 g2 k2 p2 p2'
 obtain ⟨b7,rfl⟩:∃ y,y=bk:=⟨bk,rfl⟩
 refine TL.isFn 77 ?_
 have hg3:Grow w w':=g1.trans (g2.trans hg)
 refine TL.call rfl (tready_bad (h.grow hg3) _ hrr.1 hrr.2 _ (λ _=>True) a none m c 0 0 key [] (hk.grow hg3) ⟨by simp [bys],Nat.le_refl _,Nat.zero_le _,λ _=>rfl,by simp [Row,bys]⟩ (by rw [hbad];rfl)) rfl ?_
 rintro _ w4 ⟨rfl,hg4⟩
 have k3:=(k1.grow (g2.trans hg)).grow hg4
 have k6:=(k2.grow hg).grow hg4
 have k7:=hbk.grow hg4
 have hgw:=hg3.trans hg4
 have q:b3=w.heap.size∧b6=b3+1∧b7=b6+1∧b7<w4.heap.size:=by have:=k7.lt;omega
 clear hbk hg hg3 hg4 k1 k2 g1 g2 hsz hsz' p1 p1' p2 p2'
 repeat (first|(refine TL.isMove ?_;refine TL.pure rfl rfl ?_)|(refine TL.isAsg ?_;refine TL.pure rfl rfl ?_)|refine TL.nil ?_|refine thenQ_normal ?_|refine T.seq ?_|refine T.region ?_|(refine TL.isBin ?_;refine TL.pureT rfl yD rfl ?_)|(refine TL.isStore ?_;(refine TL.store1 rfl rfl yB (by exact rfl) (by exact rfl) (by exact rfl) ?_;intro w' hu hbk hsz))|refine T.cond_true rfl ?_|refine T.ret ?_|refine thenQ_ret ?_)
 rename_i w5 hu5 hb5 z5
 exact retCC rfl (load_one (hb5.upd hu (by omega))) rfl (load_one hbk) ⟨_,rfl,rfl,grow_upd hu (by omega) (grow_upd hu5 (by omega) hgw)⟩
theorem delete_none {w:World} {L:PL} {g:Pg} (h:PgAt w L g) (hsp:32≤spareP g) {F:Nat→Prop} (a:Option Addr) (m c:Nat) (key:Bs) (hk:Sl F w 1 a m c (bys key)) (hko:keyOk key=true) :
  Calls Tryz.prog 19 #[.pointer (some ⟨L.p,0,none⟩),.int .i64 (rootI none),.slice a m c] w (Ret λ u w'=>u=.tuple #[.int .i64 0,.int .i64 6]∧Grow w w'):=by
 refine V.calls (args:=[_,_,_]) Tryz.func19 rfl Tryz.ntmps19 rfl rfl ?_
 repeat (first|(refine TL.isMove ?_;refine TL.pure rfl rfl ?_)|refine TL.load1 rfl yM rfl ?_|refine TL.nil ?_|refine thenQ_normal ?_|refine T.seq ?_|refine T.region ?_|(refine TL.isBox ?_;(refine TL.box rfl rfl rfl ?_;intro bk w' hg hbk hsz hsz'))|(refine TL.isAlloc ?_;(refine TL.alloc rfl rfl ?_;intro bk w' hg hbk hsz hsz')))
 rename_i b3 w1 g1 k1 p1 p1' b6 w2 g2 k2 p2 p2'
 obtain ⟨b7,rfl⟩:∃ y,y=bk:=⟨bk,rfl⟩
 refine TL.isFn 77 ?_
 have hg3:Grow w w':=g1.trans (g2.trans hg)
 refine TL.call rfl (tready_c (h.grow hg3) (rootI none) (by decide) (by decide) _ (λ _=>True) a none m c 0 0 key [] (hk.grow hg3) ⟨by simp [bys],Nat.le_refl _,Nat.zero_le _,λ _=>rfl,by simp [Row,bys]⟩ hko rfl hsp) rfl ?_
 rintro _ w4 ⟨rfl,hg4⟩
 have k3:=(k1.grow (g2.trans hg)).grow hg4
 have k6:=(k2.grow hg).grow hg4
 have k7:=hbk.grow hg4
 have hgw:=hg3.trans hg4
 have q:b3=w.heap.size∧b6=b3+1∧b7=b6+1∧b7<w4.heap.size:=by have:=k7.lt;omega
 clear hbk hg hg3 hg4 k1 k2 g1 g2 hsz hsz' p1 p1' p2 p2'
 repeat (first|(refine TL.isMove ?_;refine TL.pure rfl rfl ?_)|(refine TL.isAsg ?_;refine TL.pure rfl rfl ?_)|refine TL.nil ?_|refine thenQ_normal ?_|refine T.seq ?_|refine T.region ?_|(refine TL.isBin ?_;first|refine TL.pureF rfl yD rfl ?_|refine TL.pure rfl rfl ?_)|(refine TL.isStore ?_;(refine TL.store1 rfl rfl yB (by exact rfl) (by exact rfl) (by exact rfl) ?_;intro w' hu hbk hsz))|refine T.cond_true rfl ?_|refine T.cond_false rfl ?_|refine T.ret ?_|refine T.skip ?_|refine thenQ_ret ?_)
 rename_i w5 hu5 hb5 z5
 exact retCC rfl (load_one (hb5.upd hu (by omega))) rfl (load_one hbk) ⟨_,rfl,rfl,grow_upd hu (by omega) (grow_upd hu5 (by omega) hgw)⟩
theorem delete_miss {w:World} {L:PL} {g:Pg} (h:PgAt w L g) (hsp:32≤spareP g) (n:Nat) {F:Nat→Prop} (a:Option Addr) (m c:Nat) (key:Bs) (hk:Sl F w 1 a m c (bys key)) (hko:keyOk key=true) (fr:List (Nd×Nat)) (hp:pathP g key 16 n=some (fr,false)) :
  Calls Tryz.prog 19 #[.pointer (some ⟨L.p,0,none⟩),.int .i64 (rootI (some n)),.slice a m c] w (Ret λ u w'=>u=.tuple #[.int .i64 0,.int .i64 6]∧Grow w w'):=by
 have hnn:n<8192:=by
  obtain ⟨_,_,_,hn,_⟩:=pathP_succ hp
  have:=usedP_lt (nodeP_used hn)
  have:=h.cnt
  omega
 refine V.calls (args:=[_,_,_]) Tryz.func19 rfl Tryz.ntmps19 rfl rfl ?_
 show T _ _ _ [(0,_),(1,.int .i64 (n:Int)),(2,_)] _ _
 repeat (first|(refine TL.isMove ?_;refine TL.pure rfl rfl ?_)|refine TL.load1 rfl yM rfl ?_|refine TL.nil ?_|refine thenQ_normal ?_|refine T.seq ?_|refine T.region ?_|(refine TL.isBox ?_;(refine TL.box rfl rfl rfl ?_;intro bk w' hg hbk hsz hsz'))|(refine TL.isAlloc ?_;(refine TL.alloc rfl rfl ?_;intro bk w' hg hbk hsz hsz')))
 rename_i b3 w1 g1 k1 p1 p1' b6 w2 g2 k2 p2 p2'
 obtain ⟨b7,rfl⟩:∃ y,y=bk:=⟨bk,rfl⟩
 refine TL.isFn 77 ?_
 have hg3:Grow w w':=g1.trans (g2.trans hg)
 refine TL.call rfl (tready_c (h.grow hg3) (n:Int) (by omega) (by omega) _ (λ _=>True) a none m c 0 0 key [] (hk.grow hg3) ⟨by simp [bys],Nat.le_refl _,Nat.zero_le _,λ _=>rfl,by simp [Row,bys]⟩ hko rfl hsp) rfl ?_
 rintro _ w4 ⟨rfl,hg4⟩
 have k3:=(k1.grow (g2.trans hg)).grow hg4
 have k6:=(k2.grow hg).grow hg4
 have k7:=hbk.grow hg4
 have hgw:=hg3.trans hg4
 have q:b3=w.heap.size∧b6=b3+1∧b7=b6+1∧b7<w4.heap.size:=by have:=k7.lt;omega
 clear hbk hg hg3 hg4 k1 k2 g1 g2 hsz hsz' p1 p1' p2 p2'
 repeat (first|(refine TL.isMove ?_;refine TL.pure rfl rfl ?_)|(refine TL.isAsg ?_;refine TL.pure rfl rfl ?_)|refine TL.load1 rfl yM rfl ?_|refine TL.nil ?_|refine thenQ_normal ?_|refine T.seq ?_|refine T.region ?_|(refine TL.isBin ?_;refine TL.pureF rfl yD rfl ?_)|refine T.cond_false rfl ?_|refine T.skip ?_)
 refine TL.isFn 78 ?_
 refine TL.call rfl (path_c (h.grow hgw) _ a m c n key fr false (hk.grow hgw) hp) rfl ?_
 rintro _ w6 ⟨⟨fb,fd,fcs,rfl,hfs,hfc⟩,hg6⟩
 have hgw6:=hgw.trans hg6
 have z6:=hg6.size
 have zw:=hgw.size
 replace k3:=k3.grow hg6
 replace k6:=k6.grow hg6
 replace k7:=k7.grow hg6
 clear hgw hg6
 repeat (first|(refine TL.isMove ?_;refine TL.pure rfl rfl ?_)|(refine TL.isAsg ?_;refine TL.pure rfl rfl ?_)|refine TL.load1 rfl yM rfl ?_|refine TL.nil ?_|refine thenQ_normal ?_|refine T.seq ?_|refine T.region ?_|(refine TL.isBin ?_;refine TL.pureF rfl yD rfl ?_)|(refine TL.isStore ?_;(refine TL.store1 rfl rfl yB (by exact rfl) (by exact rfl) (by exact rfl) ?_;intro w' hu hbk hsz))|(refine TL.isAlloc ?_;(refine TL.alloc rfl rfl ?_;intro bk w' hg hbk hsz hsz'))|refine T.cond_true rfl ?_|refine T.cond_false rfl ?_|refine T.ret ?_|refine T.skip ?_|refine thenQ_ret ?_|refine TL.pure rfl rfl ?_)
 rename_i w5 hu5 hb5 z5
 exact retCC rfl (load_one (hb5.upd hu (by omega))) rfl (load_one hbk) ⟨_,rfl,rfl,yG⟩
end Go.Proofs.YtfpadnmdafiddaaGreatDoor
