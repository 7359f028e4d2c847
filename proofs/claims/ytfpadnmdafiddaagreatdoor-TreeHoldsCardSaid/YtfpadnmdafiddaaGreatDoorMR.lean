import Derived.Test.YtfpadnmdafiddaaGreatDoorML
import Derived.Test.YtfpadnmdafiddaaGreatDoorMQ
set_option linter.all false
set_option maxHeartbeats 16000000
set_option maxRecDepth 100000
namespace Go.Proofs.YtfpadnmdafiddaaGreatDoor
open Go Go.RowKit Go.V
theorem grow_own {w w4 w5:World} {v:Value} {xs:List Value} {n e:Nat} (hg:Grow w w4) (ho:w4.ownsRow w.heap.size e 1 v n xs) (hgb:w4.grownBy w5 v.ownBlock):Grow w w5 :=
 ⟨cH hgb hg.2 (λ k hk=>(cJ ho hk).1) hg.1,by have:=hg.2;have:=hgb.size;omega⟩
end Go.Proofs.YtfpadnmdafiddaaGreatDoor
namespace Go.Proofs.YtfpadnmdafiddaaGreatDoor
open Go Go.RowKit Go.V
theorem zeros_ws (n:Nat):(madeCells (Value.int IntKind.u64 0).cells (n*1)).toList=kC (List.replicate n 0):=by
 have h0:∀ x:Nat,(Value.int IntKind.u64 0).cells[x%(Value.int IntKind.u64 0).cells.size]! = .int .u64 0:=λ x=>by
  rw [show (Value.int IntKind.u64 0).cells = #[.int .u64 0] from rfl]
  simp [Nat.mod_one]
 simp only [kC,madeCells,Nat.mul_one,Array.toList_map,Array.toList_range,h0,List.map_replicate]
 rw [List.map_const',List.length_range]
 rfl
theorem keep_c {F:Nat→Prop} {w:World} {L:PL} {g:Pg} (h:PgAt w L g) {a:Option Addr} {n c:Nat} {qs:List Nat} (hs:Sl F w 1 a n c (cM qs)) (hF:∀ k,F k→k<w.heap.size) (hq:∀ q∈qs,dE g q=true) (hn:n≤1000000) :
  Calls Tryz.prog 23 #[.pointer (some ⟨L.p,0,none⟩),.slice a n c] w (Ret λ v w'=>∃ L':PL,L'.p=L.p∧L'.d=L.d∧L'.m=L.m∧L'.s=L.s∧w.heap.size≤L'.u∧(∃ k:Int,v=.tuple #[.int .i64 k,.int .i64 0])∧PgAt w' L' (keepP g qs)∧ButS (λ k=>k=L.p) w w'):=by
 have hql:=eI hs
 subst hql
 have hnl:=hs.le
 refine V.calls (args:=[_,_]) Tryz.func23 rfl Tryz.ntmps23 rfl rfl ?_
 have hb:=h.blk
 have hu:=h.used
 have hcn:=h.cnt
 have hwl:=h.ok.wl
 unfold pgc at hb
 have hlts:=h.lts
 repeat (first|(refine aL 85 ?_;refine aI rfl (valid_c h) rfl ?_;rintro _ _ ⟨rfl,rfl⟩)|(refine aB ?_;refine TL.pure rfl rfl ?_)|(refine aD ?_;refine TL.pure rfl rfl ?_)|refine aK rfl yM rfl ?_|refine aF rfl rfl ?_|refine TL.nil ?_|refine aA ?_|refine aJ ?_|refine aC ?_|refine bM rfl rfl ?_|refine aO rfl rfl ?_|refine aE rfl ?_|refine aW ?_|refine TL.pure rfl rfl ?_)
 refine TL.makeAll (c:=g.words.length) (z:=.int .u64 0) rfl rfl (by omega) (by unfold maxLen;omega) rfl ?_
 intro b1 w1 hb1 hown hg1
 have hbu:=blk_of_own hown
 rw [zeros_ws] at hbu
 have z1:=hg1.size
 repeat (first|(refine aB ?_;refine TL.pure rfl rfl ?_)|(refine aD ?_;refine TL.pure rfl rfl ?_)|refine TL.nil ?_|refine aA ?_|refine aJ ?_|refine aC ?_|refine T.block ?_|(refine cD ?_;(refine dP rfl rfl ?_;intro bk w' hg hbk hsz hsz'))|refine TL.build rfl rfl rfl ?_|refine aO rfl rfl ?_)
 have hG0:Grow w w':=hg1.trans hg
 have hbu0:Blk w' b1 168 (kC (List.replicate g.words.length 0)):=hbu.grow hg
 have hk0:Blk w' bk 150 [.pointer none,.pointer none,.int .i64 0,.slice (some ⟨b1,0,none⟩) g.words.length g.words.length]:=hbk
 have z0:=hG0.size
 have hg1z:b1<w1.heap.size:=hbu.lt
 have hne1:b1≠bk:=by omega
 clear hbk hown hbu hg
 obtain ⟨w0,rfl⟩:∃ z,z=w':=⟨w',rfl⟩
 have hdv:=keep_div h.ok hq
 rw [List.length_replicate] at hdv
 refine cU (S:=Nat) (λ i=>[(23,.int .i64 (i:Int)),(22,.int .i64 (qs.length:Int)),(21,.slice a qs.length c),(6,.pointer (some ⟨bk,0,none⟩)),(0,.pointer (some ⟨L.p,0,none⟩))])
  (λ i w2=>i≤qs.length∧Blk w2 b1 168 (kC ((qs.take i).foldl hU (List.replicate g.words.length 0)))∧But b1 w0 w2) (λ i=>qs.length-i) 0 ⟨rfl,rfl,rfl,rfl,rfl,trivial⟩ ⟨Nat.zero_le _,hbu0,But.refl _ _⟩ ?_
 rintro i w2 ⟨hi,hm2,hbt⟩
 have z2:=hbt.size
 have hp2:PgAt w2 L g:=(h.grow hG0).keep (λ k hk=>hbt.block k (by omega) (by omega))
 have hk2:Blk w2 bk 150 [.pointer none,.pointer none,.int .i64 0,.slice (some ⟨b1,0,none⟩) g.words.length g.words.length]:=eH hbt hk0 (Ne.symm hne1)
 have hs2:Sl F w2 1 a qs.length c (cM qs):=hs.go ((Carry.grow hG0).trans (Carry.but hbt (λ k hk _=>by have:=hF k hk;omega)))
 by_cases hlt:i<qs.length
 ·obtain ⟨x,hx⟩:∃ q,qs[i]? = some q:=⟨_,List.getElem?_eq_getElem hlt⟩
  have hxm:=List.mem_of_getElem? hx
  have hxu:=hq x hxm
  have hxl:=fH hxu
  have hcell:w2.cell? (at' a i)=some (.int .i64 (x:Int)):=hs2.row.cell (by simp [cM,hx])
  have hhas:=has_c hp2 x (by omega)
  rw [hxu] at hhas
  have htk:qs.take (i+1)=qs.take i++[x]:=by rw [List.take_add_one,hx];rfl
  have hml:((qs.take i).foldl hU (List.replicate g.words.length 0)).length=g.words.length:=by rw [kR,List.length_replicate]
  have h64:∀ y∈(qs.take i).foldl hU (List.replicate g.words.length 0),y<18446744073709551616:=marks_64 (λ y hy=>by rw [(List.mem_replicate.1 hy).2];decide) (λ y hy=>by rw [List.length_replicate];exact hdv y (List.mem_of_mem_take hy))
  repeat (first|(refine bC ?_;refine aV (j:=i) rfl rfl rfl hlt (Nat.mul_one _) ⟨_,_,hs2⟩ rfl ?_)|(refine aL 91 ?_;refine aI rfl (hhas) rfl ?_;rintro _ _ ⟨rfl,rfl⟩)|(refine aB ?_;refine TL.pure rfl rfl ?_)|(refine aD ?_;refine TL.pure rfl rfl ?_)|refine aK rfl yM rfl ?_|refine TL.nil ?_|refine aA ?_|refine aJ ?_|refine aC ?_|refine T.block ?_|(refine aH ?_;refine aZ rfl yD rfl ?_)|refine aM rfl ?_|refine aE rfl ?_|refine aW ?_|refine TL.pure rfl rfl ?_)
  refine aL 92 ?_
  refine aI rfl (mark_c hk2 hm2 hml h64 x (hdv x hxm) (by omega)) rfl ?_
  rintro _ w3 ⟨hm3,hb3⟩
  repeat (first|(refine aB ?_;refine TL.pure rfl rfl ?_)|(refine bL ?_;refine bT rfl rfl (by omega) rfl ?_)|refine TL.nil ?_|refine aA ?_|refine aC ?_|refine aS ?_)
  exact bG (i+1) ⟨rfl,rfl,rfl,rfl,rfl,trivial⟩ ⟨by omega,by rw [htk,List.foldl_append];exact hm3,⟨hb3.os.trans hbt.os,hb3.tape.trans hbt.tape,hb3.output.trans hbt.output,Nat.le_trans hbt.size hb3.size,λ k hk hkb=>(hb3.block k (by omega) hkb).trans (hbt.block k hk hkb)⟩⟩ (by omega)
 ·obtain rfl:i=qs.length:=by omega
  rw [List.take_length] at hm2
  have hkw:qs.foldl hU (List.replicate g.words.length 0)=lI g qs:=rfl
  rw [hkw] at hm2
  have hlk:(lI g qs).length=g.words.length:=by unfold lI;rw [kR,List.length_replicate]
  have hko:=keep_ok h.ok hq
  have hk64:∀ y∈lI g qs,y<18446744073709551616:=hko.w64
  have hux:∀ w',Grow w2 w'→Sl (λ k=>k=L.u) w' 1 (some ⟨L.u,0,none⟩) g.words.length g.words.length (kC g.words):=λ w' gr=>bR (sz:=1) (m:=g.words.length) (hp2.used.grow gr) (by rw [gQ,Nat.mul_one]) (by unfold maxLen;omega)
  have hkx:∀ w',Grow w2 w'→Sl (λ k=>k=b1) w' 1 (some ⟨b1,0,none⟩) g.words.length g.words.length (kC (lI g qs)):=λ w' gr=>bR (sz:=1) (m:=g.words.length) (hm2.grow gr) (by rw [gQ,Nat.mul_one,hlk]) (by unfold maxLen;omega)
  have hb2:=hp2.blk
  unfold pgc at hb2
  have o1:=onesW_le g.words
  have o2:=onesW_le (lI g qs)
  rw [hlk] at o2
  repeat (first|refine TL.nil ?_|refine aA ?_|refine aJ ?_|refine aC ?_|(refine aH ?_;refine aQ rfl yD rfl ?_)|refine aE rfl ?_|refine cV ?_|refine bN ?_|refine bP ?_|refine bO ?_)
  apply T.any 11 [is (.pointer (some ⟨L.p,0,none⟩)),is (.pointer (some ⟨L.p,0,none⟩)),is (.pointer (some ⟨L.p,3,none⟩)),is (.slice (some ⟨L.u,0,none⟩) g.words.length g.words.length),is (.int .i64 (jD g.words:Int)),is (.pointer (some ⟨bk,0,none⟩)),is (.pointer (some ⟨bk,0,none⟩)),is (.pointer (some ⟨bk,3,none⟩)),is (.slice (some ⟨b1,0,none⟩) g.words.length g.words.length),is (.int .i64 (jD (lI g qs):Int)),is (.int .i64 ((jD g.words:Int)-(jD (lI g qs):Int)))]
  ·rfl
  ·repeat' (first|exact bW|refine bU ?_ ?_)
   iterate 4
    ·(refine aR rfl rfl rfl ?_);( intro wq _ _ hgq;(repeat (refine aG rfl rfl ?_;intro vq hvq;try (obtain rfl:=hvq)));(refine aN ?_))
     repeat (first|(refine aB ?_;refine TL.pure rfl rfl ?_)|refine aK rfl yM rfl ?_|refine aF rfl rfl ?_|refine TL.nil ?_|refine bM rfl rfl ?_)
     exact aT rfl yG rfl
   ·(refine aR rfl rfl rfl ?_);( intro wq _ _ hgq;(repeat (refine aG rfl rfl ?_;intro vq hvq;try (obtain rfl:=hvq)));(refine aN ?_))
    repeat (first|(refine aL 86 ?_;refine aI rfl (total_c _ _ _ _ _ _ (hux _ hgq) h.ok.w64 (by omega)) rfl ?_;rintro _ _ ⟨rfl,rfl⟩)|refine TL.nil ?_)
    exact aT rfl yG rfl
   iterate 4
    ·(refine aR rfl rfl rfl ?_);( intro wq _ _ hgq;(repeat (refine aG rfl rfl ?_;intro vq hvq;try (obtain rfl:=hvq)));(refine aN ?_))
     repeat (first|(refine aB ?_;refine TL.pure rfl rfl ?_)|refine aK rfl yM rfl ?_|refine aF rfl rfl ?_|refine TL.nil ?_|refine bM rfl rfl ?_)
     exact aT rfl yG rfl
   ·(refine aR rfl rfl rfl ?_);( intro wq _ _ hgq;(repeat (refine aG rfl rfl ?_;intro vq hvq;try (obtain rfl:=hvq)));(refine aN ?_))
    repeat (first|(refine aL 86 ?_;refine aI rfl (total_c _ _ _ _ _ _ (hkx _ hgq) hk64 (by omega)) rfl ?_;rintro _ _ ⟨rfl,rfl⟩)|refine TL.nil ?_)
    exact aT rfl yG rfl
   ·(refine aR rfl rfl rfl ?_);( intro wq _ _ hgq;(repeat (refine aG rfl rfl ?_;intro vq hvq;try (obtain rfl:=hvq)));(refine aN ?_))
    refine iT rfl rfl (by omega) (by omega) rfl ?_
    repeat (refine TL.nil ?_)
    exact aT rfl yG rfl
  ·intro w6 lo6 hi6 hg6 _ _
   ((repeat (refine aG rfl rfl ?_;intro vq hvq;try (obtain rfl:=hvq)));(refine aN ?_))
   repeat (first|(refine aB ?_;refine TL.pure rfl rfl ?_)|(refine aD ?_;refine TL.pure rfl rfl ?_)|refine aK rfl yM rfl ?_|refine aF rfl rfl ?_|refine TL.nil ?_|refine aA ?_|refine aJ ?_|refine aC ?_|(refine aP ?_;(refine bQ rfl rfl yB (by exact rfl) (by exact rfl) (by exact rfl) ?_;intro w' hu hbk hsz))|refine bM rfl rfl ?_|refine bE ?_)
   have z6:=hg6.size
   have hn:=h.ne
   obtain ⟨f,f1,f2⟩:=hp2.f
   have q1:=hu.block L.d (by omega)
   have q2:=hu.block L.m (by omega)
   refine jM rfl rfl ⟨_,rfl,⟨L.p,L.d,b1,L.m,L.s⟩,rfl,rfl,rfl,rfl,by simp only;omega,⟨_,rfl⟩,⟨?_,(hm2.grow hg6).upd hu (by simp only;omega),hko,h.cnt,⟨f,DkAt.keep (DkAt.grow hg6 f1) q1 q2,λ m hm=>?_⟩,h.lt,λ m hm=>h.bl m (hq m ?_),by simp only;omega⟩,?_⟩
   ·show Blk w' L.p 150 (pgc L.p L.d b1 g.count (lI g qs).length)
    rw [hlk]
    exact hbk
   ·rw [keep_used h.ok hq,decide_eq_true_eq] at hm
    exact f2 m (hq m hm)
   ·rw [keep_used h.ok hq,decide_eq_true_eq] at hm
    exact hm
   ·refine ⟨hu.os.trans (hg6.1.os.trans (hbt.os.trans hG0.1.os)),hu.tape.trans (hg6.1.tape.trans (hbt.tape.trans hG0.1.tape)),hu.output.trans (hg6.1.output.trans (hbt.output.trans hG0.1.output)),by omega,λ k hk hne=>?_⟩
    exact (hu.block k hne).trans ((hg6.block k (by omega)).trans ((hbt.block k (by omega) (by omega)).trans (hG0.block k hk)))
end Go.Proofs.YtfpadnmdafiddaaGreatDoor
namespace Go.Proofs.YtfpadnmdafiddaaGreatDoor
open Go Go.RowKit Go.V
theorem tready_bad {w:World} {L:PL} {g:Pg} (h:PgAt w L g) (r:Int) (hr : -1≤r) (hr2:r≤9223372036854775807) (F F':Nat→Prop) (a a':Option Addr) (n c n' c':Nat) (k v:Bs) (hk:Sl F w 1 a n c (cX k)) (hv:Sl F' w 1 a' n' c' (cX v)) (hbad:(dB k&&fR v)=false) :
  Calls Tryz.prog 77 #[.pointer (some ⟨L.p,0,none⟩),.int .i64 r,.slice a n c,.slice a' n' c'] w (Ret λ u w'=>u=.int .i64 2∧Grow w w'):=by
 refine V.calls (args:=[_,_,_,_]) Tryz.func77 rfl Tryz.ntmps77 rfl rfl ?_
 cases hko:dB k with
 | false =>
  repeat (first|(refine aL 93 ?_;refine aI rfl (kO h r hr hr2) rfl ?_;rintro _ _ ⟨rfl,rfl⟩)|(refine aL 94 ?_;refine aI rfl (lZ hk hko) rfl ?_;rintro _ _ ⟨rfl,rfl⟩)|refine bH rfl rfl rfl ?_|(refine aB ?_;refine TL.pure rfl rfl ?_)|(refine aD ?_;refine TL.pure rfl rfl ?_)|refine TL.nil ?_|refine aA ?_|refine aJ ?_|refine aC ?_|(refine aH ?_;refine aQ rfl yD rfl ?_)|refine aM rfl ?_|refine aE rfl ?_|refine bE ?_|refine aW ?_|refine bI ?_|refine TL.pure rfl rfl ?_)
  exact cI rfl ⟨_,rfl,rfl,yG⟩
 | true =>
  have hvo:fR v=false:=by rw [hko] at hbad;simpa using hbad
  repeat (first|(refine aL 93 ?_;refine aI rfl (kO h r hr hr2) rfl ?_;rintro _ _ ⟨rfl,rfl⟩)|(refine aL 94 ?_;refine aI rfl (lZ hk hko) rfl ?_;rintro _ _ ⟨rfl,rfl⟩)|(refine aL 148 ?_;refine aI rfl (value_t hv hvo) rfl ?_;rintro _ _ ⟨rfl,rfl⟩)|refine aU rfl rfl rfl ?_|(refine aB ?_;refine TL.pure rfl rfl ?_)|(refine aD ?_;refine TL.pure rfl rfl ?_)|refine TL.nil ?_|refine aA ?_|refine aJ ?_|refine aC ?_|(refine aH ?_;refine aQ rfl yD rfl ?_)|refine aM rfl ?_|refine aE rfl ?_|refine bE ?_|refine aW ?_|refine bI ?_|refine TL.pure rfl rfl ?_)
  exact cI rfl ⟨_,rfl,rfl,yG⟩
theorem rootI_in {g:Pg} (hc:g.count≤8192) {root:Option Nat} (hr:∀ n,root=some n→dE g n=true) : -1≤dF root∧dF root≤9223372036854775807:=by
 cases root with
 | none=>show (-1:Int)≤-1∧(-1:Int)≤_;omega
 | some n =>
  have:=fH (hr n rfl)
  show (-1:Int)≤(n:Int)∧(n:Int)≤_
  omega
theorem put_bad {w:World} {L:PL} {g:Pg} (h:PgAt w L g) (root:Option Nat) (hr:∀ n,root=some n→dE g n=true) {F F':Nat→Prop} (a a':Option Addr) (m c m' c':Nat) (key v:Bs) (hk:Sl F w 1 a m c (cX key)) (hv:Sl F' w 1 a' m' c' (cX v)) (hbad:(dB key&&fR v)=false) :
  Calls Tryz.prog 25 #[.pointer (some ⟨L.p,0,none⟩),.int .i64 (dF root),.slice a m c,.slice a' m' c'] w (Ret λ u w'=>u=.tuple #[.int .i64 0,.int .i64 2]∧Grow w w'):=by
 have hrr:=rootI_in h.cnt hr
 refine V.calls (args:=[_,_,_,_]) Tryz.func25 rfl Tryz.ntmps25 rfl rfl ?_
 repeat (first|(refine aB ?_;refine TL.pure rfl rfl ?_)|refine aK rfl yM rfl ?_|refine TL.nil ?_|refine aA ?_|refine aJ ?_|refine aC ?_|(refine cD ?_;(refine TL.box rfl rfl rfl ?_;intro bk w' hg hbk hsz hsz'))|(refine bF ?_;(refine TL.alloc rfl rfl ?_;intro bk w' hg hbk hsz hsz')))
 rename_i b4 w1 g1 k1 p1 p1' b8 w2 g2 k2 p2 p2'
 obtain ⟨b9,rfl⟩:∃ y,y=bk:=⟨bk,rfl⟩
 refine aL 77 ?_
 have hg3:Grow w w':=g1.trans (g2.trans hg)
 refine aI rfl (tready_bad (h.grow hg3) _ hrr.1 hrr.2 _ _ a a' m c m' c' key v (hk.grow hg3) (hv.grow hg3) hbad) rfl ?_
 rintro _ w4 ⟨rfl,hg4⟩
 have k4:=(k1.grow (g2.trans hg)).grow hg4
 have k8:=(k2.grow hg).grow hg4
 have k9:=hbk.grow hg4
 have hgw:=hg3.trans hg4
 have q:b4=w.heap.size∧b8=b4+1∧b9=b8+1∧b9<w4.heap.size:=by have:=k9.lt;omega
 clear hbk hg hg3 hg4 k1 k2 g1 g2 hsz hsz' p1 p1' p2 p2'
 repeat (first|(refine aB ?_;refine TL.pure rfl rfl ?_)|(refine aD ?_;refine TL.pure rfl rfl ?_)|refine TL.nil ?_|refine aA ?_|refine aJ ?_|refine aC ?_|(refine aH ?_;refine aZ rfl yD rfl ?_)|(refine aP ?_;(refine bQ rfl rfl yB (by exact rfl) (by exact rfl) (by exact rfl) ?_;intro w' hu hbk hsz))|refine aM rfl ?_|refine bE ?_|refine bI ?_)
 rename_i w5 hu5 hb5 z5
 exact retCC rfl (eC (hb5.upd hu (by omega))) rfl (eC hbk) ⟨_,rfl,rfl,aX hu (by omega) (aX hu5 (by omega) hgw)⟩
theorem delete_bad {w:World} {L:PL} {g:Pg} (h:PgAt w L g) (root:Option Nat) (hr:∀ n,root=some n→dE g n=true) {F:Nat→Prop} (a:Option Addr) (m c:Nat) (key:Bs) (hk:Sl F w 1 a m c (cX key)) (hbad:dB key=false) :
  Calls Tryz.prog 19 #[.pointer (some ⟨L.p,0,none⟩),.int .i64 (dF root),.slice a m c] w (Ret λ u w'=>u=.tuple #[.int .i64 0,.int .i64 2]∧Grow w w'):=by
 have hrr:=rootI_in h.cnt hr
 refine V.calls (args:=[_,_,_]) Tryz.func19 rfl Tryz.ntmps19 rfl rfl ?_
 repeat (first|(refine aB ?_;refine TL.pure rfl rfl ?_)|refine aK rfl yM rfl ?_|refine TL.nil ?_|refine aA ?_|refine aJ ?_|refine aC ?_|(refine cD ?_;(refine TL.box rfl rfl rfl ?_;intro bk w' hg hbk hsz hsz'))|(refine bF ?_;(refine TL.alloc rfl rfl ?_;intro bk w' hg hbk hsz hsz')))
 rename_i b3 w1 g1 k1 p1 p1' b6 w2 g2 k2 p2 p2'
 obtain ⟨b7,rfl⟩:∃ y,y=bk:=⟨bk,rfl⟩
 refine aL 77 ?_
 have hg3:Grow w w':=g1.trans (g2.trans hg)
 refine aI rfl (tready_bad (h.grow hg3) _ hrr.1 hrr.2 _ (λ _=>True) a none m c 0 0 key [] (hk.grow hg3) ⟨by simp [cX],Nat.le_refl _,Nat.zero_le _,λ _=>rfl,by simp [Row,cX]⟩ (by rw [hbad];rfl)) rfl ?_
 rintro _ w4 ⟨rfl,hg4⟩
 have k3:=(k1.grow (g2.trans hg)).grow hg4
 have k6:=(k2.grow hg).grow hg4
 have k7:=hbk.grow hg4
 have hgw:=hg3.trans hg4
 have q:b3=w.heap.size∧b6=b3+1∧b7=b6+1∧b7<w4.heap.size:=by have:=k7.lt;omega
 clear hbk hg hg3 hg4 k1 k2 g1 g2 hsz hsz' p1 p1' p2 p2'
 repeat (first|(refine aB ?_;refine TL.pure rfl rfl ?_)|(refine aD ?_;refine TL.pure rfl rfl ?_)|refine TL.nil ?_|refine aA ?_|refine aJ ?_|refine aC ?_|(refine aH ?_;refine aZ rfl yD rfl ?_)|(refine aP ?_;(refine bQ rfl rfl yB (by exact rfl) (by exact rfl) (by exact rfl) ?_;intro w' hu hbk hsz))|refine aM rfl ?_|refine bE ?_|refine bI ?_)
 rename_i w5 hu5 hb5 z5
 exact retCC rfl (eC (hb5.upd hu (by omega))) rfl (eC hbk) ⟨_,rfl,rfl,aX hu (by omega) (aX hu5 (by omega) hgw)⟩
theorem delete_none {w:World} {L:PL} {g:Pg} (h:PgAt w L g) (hsp:32≤bZ g) {F:Nat→Prop} (a:Option Addr) (m c:Nat) (key:Bs) (hk:Sl F w 1 a m c (cX key)) (hko:dB key=true) :
  Calls Tryz.prog 19 #[.pointer (some ⟨L.p,0,none⟩),.int .i64 (dF none),.slice a m c] w (Ret λ u w'=>u=.tuple #[.int .i64 0,.int .i64 6]∧Grow w w'):=by
 refine V.calls (args:=[_,_,_]) Tryz.func19 rfl Tryz.ntmps19 rfl rfl ?_
 repeat (first|(refine aB ?_;refine TL.pure rfl rfl ?_)|refine aK rfl yM rfl ?_|refine TL.nil ?_|refine aA ?_|refine aJ ?_|refine aC ?_|(refine cD ?_;(refine TL.box rfl rfl rfl ?_;intro bk w' hg hbk hsz hsz'))|(refine bF ?_;(refine TL.alloc rfl rfl ?_;intro bk w' hg hbk hsz hsz')))
 rename_i b3 w1 g1 k1 p1 p1' b6 w2 g2 k2 p2 p2'
 obtain ⟨b7,rfl⟩:∃ y,y=bk:=⟨bk,rfl⟩
 refine aL 77 ?_
 have hg3:Grow w w':=g1.trans (g2.trans hg)
 refine aI rfl (tready_c (h.grow hg3) (dF none) (by decide) (by decide) _ (λ _=>True) a none m c 0 0 key [] (hk.grow hg3) ⟨by simp [cX],Nat.le_refl _,Nat.zero_le _,λ _=>rfl,by simp [Row,cX]⟩ hko rfl hsp) rfl ?_
 rintro _ w4 ⟨rfl,hg4⟩
 have k3:=(k1.grow (g2.trans hg)).grow hg4
 have k6:=(k2.grow hg).grow hg4
 have k7:=hbk.grow hg4
 have hgw:=hg3.trans hg4
 have q:b3=w.heap.size∧b6=b3+1∧b7=b6+1∧b7<w4.heap.size:=by have:=k7.lt;omega
 clear hbk hg hg3 hg4 k1 k2 g1 g2 hsz hsz' p1 p1' p2 p2'
 repeat (first|(refine aB ?_;refine TL.pure rfl rfl ?_)|(refine aD ?_;refine TL.pure rfl rfl ?_)|refine TL.nil ?_|refine aA ?_|refine aJ ?_|refine aC ?_|(refine aH ?_;first|refine aQ rfl yD rfl ?_|refine TL.pure rfl rfl ?_)|(refine aP ?_;(refine bQ rfl rfl yB (by exact rfl) (by exact rfl) (by exact rfl) ?_;intro w' hu hbk hsz))|refine aM rfl ?_|refine aE rfl ?_|refine bE ?_|refine aW ?_|refine bI ?_)
 rename_i w5 hu5 hb5 z5
 exact retCC rfl (eC (hb5.upd hu (by omega))) rfl (eC hbk) ⟨_,rfl,rfl,aX hu (by omega) (aX hu5 (by omega) hgw)⟩
theorem delete_miss {w:World} {L:PL} {g:Pg} (h:PgAt w L g) (hsp:32≤bZ g) (n:Nat) {F:Nat→Prop} (a:Option Addr) (m c:Nat) (key:Bs) (hk:Sl F w 1 a m c (cX key)) (hko:dB key=true) (fr:List (Nd×Nat)) (hp:gZ g key 16 n=some (fr,false)) :
  Calls Tryz.prog 19 #[.pointer (some ⟨L.p,0,none⟩),.int .i64 (dF (some n)),.slice a m c] w (Ret λ u w'=>u=.tuple #[.int .i64 0,.int .i64 6]∧Grow w w'):=by
 have hnn:n<8192:=by
  obtain ⟨_,_,_,hn,_⟩:=iA hp
  have:=fH (eT hn)
  have:=h.cnt
  omega
 refine V.calls (args:=[_,_,_]) Tryz.func19 rfl Tryz.ntmps19 rfl rfl ?_
 show T _ _ _ [(0,_),(1,.int .i64 (n:Int)),(2,_)] _ _
 repeat (first|(refine aB ?_;refine TL.pure rfl rfl ?_)|refine aK rfl yM rfl ?_|refine TL.nil ?_|refine aA ?_|refine aJ ?_|refine aC ?_|(refine cD ?_;(refine TL.box rfl rfl rfl ?_;intro bk w' hg hbk hsz hsz'))|(refine bF ?_;(refine TL.alloc rfl rfl ?_;intro bk w' hg hbk hsz hsz')))
 rename_i b3 w1 g1 k1 p1 p1' b6 w2 g2 k2 p2 p2'
 obtain ⟨b7,rfl⟩:∃ y,y=bk:=⟨bk,rfl⟩
 refine aL 77 ?_
 have hg3:Grow w w':=g1.trans (g2.trans hg)
 refine aI rfl (tready_c (h.grow hg3) (n:Int) (by omega) (by omega) _ (λ _=>True) a none m c 0 0 key [] (hk.grow hg3) ⟨by simp [cX],Nat.le_refl _,Nat.zero_le _,λ _=>rfl,by simp [Row,cX]⟩ hko rfl hsp) rfl ?_
 rintro _ w4 ⟨rfl,hg4⟩
 have k3:=(k1.grow (g2.trans hg)).grow hg4
 have k6:=(k2.grow hg).grow hg4
 have k7:=hbk.grow hg4
 have hgw:=hg3.trans hg4
 have q:b3=w.heap.size∧b6=b3+1∧b7=b6+1∧b7<w4.heap.size:=by have:=k7.lt;omega
 clear hbk hg hg3 hg4 k1 k2 g1 g2 hsz hsz' p1 p1' p2 p2'
 repeat (first|(refine aB ?_;refine TL.pure rfl rfl ?_)|(refine aD ?_;refine TL.pure rfl rfl ?_)|refine aK rfl yM rfl ?_|refine TL.nil ?_|refine aA ?_|refine aJ ?_|refine aC ?_|(refine aH ?_;refine aQ rfl yD rfl ?_)|refine aE rfl ?_|refine aW ?_)
 refine aL 78 ?_
 refine aI rfl (path_c (h.grow hgw) _ a m c n key fr false (hk.grow hgw) hp) rfl ?_
 rintro _ w6 ⟨⟨fb,fd,fcs,rfl,hfs,hfc⟩,hg6⟩
 have hgw6:=hgw.trans hg6
 have z6:=hg6.size
 have zw:=hgw.size
 replace k3:=k3.grow hg6
 replace k6:=k6.grow hg6
 replace k7:=k7.grow hg6
 clear hgw hg6
 repeat (first|(refine aB ?_;refine TL.pure rfl rfl ?_)|(refine aD ?_;refine TL.pure rfl rfl ?_)|refine aK rfl yM rfl ?_|refine TL.nil ?_|refine aA ?_|refine aJ ?_|refine aC ?_|(refine aH ?_;refine aQ rfl yD rfl ?_)|(refine aP ?_;(refine bQ rfl rfl yB (by exact rfl) (by exact rfl) (by exact rfl) ?_;intro w' hu hbk hsz))|(refine bF ?_;(refine TL.alloc rfl rfl ?_;intro bk w' hg hbk hsz hsz'))|refine aM rfl ?_|refine aE rfl ?_|refine bE ?_|refine aW ?_|refine bI ?_|refine TL.pure rfl rfl ?_)
 rename_i w5 hu5 hb5 z5
 exact retCC rfl (eC (hb5.upd hu (by omega))) rfl (eC hbk) ⟨_,rfl,rfl,yG⟩
end Go.Proofs.YtfpadnmdafiddaaGreatDoor
