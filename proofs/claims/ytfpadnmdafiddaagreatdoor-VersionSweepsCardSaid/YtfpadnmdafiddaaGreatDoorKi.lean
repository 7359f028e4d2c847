import Derived.Test.YtfpadnmdafiddaaGreatDoorKg
import Derived.Test.YtfpadnmdafiddaaGreatDoorKh
set_option linter.all false
set_option maxHeartbeats 16000000
set_option maxRecDepth 100000
namespace Go.Proofs.YtfpadnmdafiddaaGreatDoor
open Go Go.RowKit Go.V
abbrev jN:=List (Option Nat×Nat×dS×List Nat)
def HsOk (g:Pg) (hs:jN):Prop:=∀ h∈hs,TrAt g h.1 h.2.1 h.2.2.1 h.2.2.2∧h.2.1≤15∧h.2.2.1.length≤100
theorem gI (rs:List (Option Nat)):hU rs=vers.ints (rs.map dD):=by simp [hU,vers.ints]
theorem rootI_ge (r:Option Nat) : -1≤dD r:=by cases r<;>simp only [dD]<;>omega
theorem foldl_min_ge:∀ (l:List Int) (a:Int),-1≤a→(∀ x∈l,-1≤x)→-1≤l.foldl min a
 | [],a,h,_=>h
 | x::l,a,h,hl=>by
  rw [List.foldl_cons]
  refine foldl_min_ge l _ ?_ λ y hy=>hl y (List.mem_cons_of_mem _ hy)
  have:=hl x (by simp)
  omega
theorem vok_roots {base:Nat} {rs:List (Option Nat)} (h0:rs≠[]) (hl:rs.length≤4096):vers.vok (base:Int) (rs.map dD)=true:=by
 have hp:=List.length_pos_iff.2 h0
 have hm : -1≤vers.minL (rs.map dD):=by
  unfold vers.minL
  refine foldl_min_ge _ _ ?_ λ x hx=>?_
  ·cases rs with
   | nil=>exact absurd rfl h0
   | cons r rs=>simpa using rootI_ge r
  ·obtain ⟨r,_,rfl⟩:=List.mem_map.1 (List.mem_of_mem_drop hx)
   exact rootI_ge r
 simp [vers.vok,hm,hl,hp]
theorem live_c {F:Nat→Prop} {w:World} {L:PL} {g:Pg} (h:PgAt w L g) {hs:jN} (hh:HsOk g hs) {base:Nat} {a:Option Addr} {n c:Nat} (hr:Sl F w 1 a n c (hU (hs.map (·.1)))) (hn:n=hs.length) (h0:hs≠[]) (hlen:hs.length≤4096) :
  Calls Tryz.prog 145 #[.pointer (some ⟨L.p,0,none⟩),.agg #[.int .i64 (base:Int),.slice a n c]] w (Ret λ v w'=>∃ (ls:List Nat) (a':Option Addr) (c':Nat),v=.tuple #[.slice a' ls.length c',.int .i64 0]∧Sl (λ k=>w.heap.size≤k∧k<w'.heap.size) w' 1 a' ls.length c' (cB ls) ∧
   (∀ k,k∈ls↔∃ q∈hs,k∈q.2.2.2)∧ls.Pairwise (· < ·)∧ls.length≤8192∧Grow w w'):=by
 have hlts:=h.lts
 have hvok:vers.errV (base:Int) ((hs.map (·.1)).map dD)=0:=by
  unfold vers.errV
  rw [vok_roots (by simpa using h0) (by simpa using hlen),if_pos rfl]
 have hr':=hr
 rw [gI] at hr'
 refine V.calls (args:=[_,_]) Tryz.func145 rfl Tryz.ntmps145 rfl rfl ?_
 repeat (first|(refine aB ?_;refine TL.pure rfl rfl ?_)|(refine aD ?_;refine TL.pure rfl rfl ?_)|refine TL.nil ?_|refine aA ?_|refine aJ ?_|refine aC ?_|(refine bW ?_;(refine dJ rfl rfl ?_;intro bk w' hg hbk hsz hsz')))
 refine aL 93 ?_
 refine aI rfl (ready_c (h.grow hg) (-1) (by omega) (by omega)) rfl ?_
 rintro _ _ ⟨rfl,rfl⟩
 repeat (first|(refine aB ?_;refine TL.pure rfl rfl ?_)|(refine aD ?_;refine TL.pure rfl rfl ?_)|(refine aU ?_;refine bE rfl yB (by exact rfl) rfl ?_)|refine TL.nil ?_|refine aA ?_|refine aJ ?_|refine aC ?_|(refine aH ?_;refine aR rfl yD rfl ?_)|refine aE rfl ?_|refine aV ?_)
 refine aL 147 ?_
 refine aI rfl (vers.check_c F base a n c _ _ (hr'.grow yG)) rfl ?_
 rw [hvok]
 rintro _ w1 ⟨rfl,hg1⟩
 have hg01:Grow w w1:=hg.trans hg1
 have hbk1:=hbk.grow hg1
 repeat (first|(refine aB ?_;refine TL.pure rfl rfl ?_)|(refine aD ?_;refine TL.pure rfl rfl ?_)|refine TL.nil ?_|refine aA ?_|refine aJ ?_|refine aC ?_|(refine aH ?_;refine aR rfl yD rfl ?_)|refine aE rfl ?_|refine aV ?_)
 refine aL 87 ?_
 refine aI rfl (walk_new L.p w1) rfl ?_
 rintro _ w2 ⟨b,m,rfl,hb,hm,hwk,hg2⟩
 have hbk2:=hbk1.grow hg2
 have hg02:=hg01.trans hg2
 have z1:=hg01.size
 have hml:=hwk.map.lt
 have hbl:=hwk.blk.lt
 have hne:=hwk.ne
 repeat (first|(refine aB ?_;refine TL.pure rfl rfl ?_)|(refine aD ?_;refine TL.pure rfl rfl ?_)|refine aK rfl yM rfl ?_|refine aF rfl rfl ?_|refine TL.nil ?_|refine aA ?_|refine aJ ?_|refine aC ?_|refine T.block ?_|refine aO rfl rfl ?_)
 subst hn
 refine cM (S:=Nat×eN) (λ q=>[(29,.int .i64 (q.1:Int)),(28,.int .i64 (hs.length:Int)),(27,.slice a hs.length c),(8,.pointer (some ⟨b,0,none⟩)),(0,.pointer (some ⟨L.p,0,none⟩))])
  (λ q v=>q.1≤hs.length∧MemAt (λ k=>k≠m) v m q.2∧MemoOk g q.2∧(∀ k,(∃ t,fH q.2 k=some t)↔∃ z∈hs.take q.1,k∈z.2.2.2)∧ButS (λ k=>k=m) w2 v) (λ q=>hs.length-q.1) (0,[]) ⟨rfl,rfl,rfl,rfl,rfl,trivial⟩
  ⟨Nat.zero_le _,mem_new (w':=w2) hwk,(λ n t ht=>by simp [fH] at ht),(λ k=>by simp [fH]),ButS.refl _ _⟩ ?_
 rintro ⟨i,M⟩ v ⟨hi,hM,hMo,hMk,hbv⟩
 simp only at hi hM hMo hMk
 refine cT (e':=[(29,.int .i64 (i:Int)),(28,.int .i64 (hs.length:Int)),(27,.slice a hs.length c),(8,.pointer (some ⟨b,0,none⟩)),(0,.pointer (some ⟨L.p,0,none⟩))]) ?_ ⟨rfl,rfl,rfl,rfl,rfl,trivial⟩
 have hwb:=dC hwk.blk hbv hne
 have hpv:PgAt v L g:=PgAt.keep (h.grow hg02) λ q hq=>hbv.block q (by omega) (by omega)
 have hgv:Grow w v:=grow_buts hg02 hbv (by omega)
 have zv:=hgv.size
 by_cases hlt:i<hs.length
 ·obtain ⟨z,hz⟩:∃ q,hs[i]? = some q:=⟨_,List.getElem?_eq_getElem hlt⟩
  have hzm:=List.mem_of_getElem? hz
  obtain ⟨ht,hlv,_⟩:=hh z hzm
  obtain ⟨M',hM',hMo',hMk'⟩:=tree_trM hMo ht (by omega)
  have hcell:v.cell? (at' a i)=some (.int .i64 (dD z.1)):=(hr.grow hgv).row.cell (by simp [hU,hz])
  have hr4:∀ n,z.1=some n→n<4294967296:=λ n hn=>by
   have h1:=eF (ht.root_used n hn)
   have h8:=h.ok.cnt
   omega
  have hrv:=hr.grow hgv
  repeat (first|(refine bF ?_;refine aW (j:=i) rfl rfl rfl hlt (Nat.mul_one _) ⟨_,_,hrv⟩ rfl ?_)|(refine aB ?_;refine TL.pure rfl rfl ?_)|(refine aD ?_;refine TL.pure rfl rfl ?_)|refine aK rfl yM rfl ?_|refine TL.nil ?_|refine aA ?_|refine aJ ?_|refine aC ?_|refine T.block ?_|(refine aH ?_;refine bA rfl yD rfl ?_)|refine aN rfl ?_|refine aV ?_)
  refine aL 88 ?_
  refine aI rfl (tree_c hpv hwb hM ⟨hne,by omega,by omega,by omega,by omega⟩ (λ k hk=>hk) (λ k hk=>by have:=hM.lt;omega) hr4 hM') rfl ?_
  rintro _ v2 ⟨rfl,hM2,hb2⟩
  repeat (first|(refine aB ?_;refine TL.pure rfl rfl ?_)|(refine aD ?_;refine TL.pure rfl rfl ?_)|(refine bJ ?_;refine bT rfl rfl (by omega) rfl ?_)|refine TL.nil ?_|refine aA ?_|refine aJ ?_|refine aC ?_|refine aT ?_|(refine aH ?_;refine aR rfl yD rfl ?_)|refine aE rfl ?_|refine aV ?_|refine TL.pure rfl rfl ?_)
  exact bG (i+1,M') ⟨rfl,rfl,rfl,rfl,rfl,trivial⟩ ⟨by simp only;omega,hM2,hMo',λ k=>by rw [hMk' k,hMk k,List.take_add_one,hz];simp [or_and_right,exists_or],hbv.trans hb2⟩ (by simp only;omega)
 ·obtain rfl:i=hs.length:=by omega
  rw [List.take_length] at hMk
  obtain ⟨ps,hps⟩:∃ ps:List Nat,ps=(mA g).filter λ k=>hs.any λ z=>decide (k∈z.2.2.2):=⟨_,rfl⟩
  have hpm:∀ k,k∈ps↔∃ z∈hs,k∈z.2.2.2:=λ k=>by
   rw [hps,List.mem_filter,List.any_eq_true]
   refine ⟨λ ⟨_,z,hz,e⟩=>⟨z,hz,by simpa using e⟩,λ ⟨z,hz,e⟩=>⟨usedL_mem.2 ((hh z hz).1.used k e),z,hz,by simpa using e⟩⟩
  have hpl:ps.length≤8192:=by
   have h1:=List.length_filter_le (λ k=>hs.any λ z=>decide (k∈z.2.2.2)) (mA g)
   have h2:=List.length_filter_le (λ n=>cV g n) (List.range g.count)
   rw [List.length_range] at h2
   have h3:=h.ok.cnt
   rw [← hps] at h1
   have h4:(mA g).length≤g.count:=h2
   omega
  obtain ⟨f,hf,hf0,hf1⟩:=hM
  have hfp:∀ k,(∃ v,f k=some v)↔k∈ps:=λ k=>by
   rw [hpm,← hMk]
   refine ⟨λ ⟨u,hu⟩=>?_,λ ⟨t,ht⟩=>?_⟩
   ·cases hg:fH M k with
    | none=>rw [hf0 k hg] at hu;cases hu
    | some t=>exact ⟨t,rfl⟩
   ·obtain ⟨x,lo,hi,e,_⟩:=hf1 k t ht
    exact ⟨_,e⟩
  repeat (first|(refine kX ?_;refine mK rfl ?_;intro s v3 hg3 hs3 hs4 hs5)|(refine aB ?_;refine TL.pure rfl rfl ?_)|(refine aD ?_;refine TL.pure rfl rfl ?_)|refine TL.nil ?_|refine aA ?_|refine aJ ?_|refine aC ?_|(refine aH ?_;refine aR rfl yD rfl ?_)|refine aE rfl ?_|refine cN ?_|refine bM ?_|refine bO ?_|refine bN ?_)
  refine aL 90 ?_
  refine aI rfl (wpages_c (hwb.grow hg3)) rfl ?_
  rintro _ v4 ⟨ci,rfl,hci,hcb,hg4⟩
  repeat (refine aJ ?_)
  refine aL 185 ?_
  refine aI rfl (add_c hcb (hf.grow (hg3.trans hg4)) hfp (by omega) (hs3.grow hg4) (by have:=hf.lt;omega) (by omega)) rfl ?_
  rintro _ v5 ⟨rfl,f5,hf5,hf5p,hb5⟩
  have hgw5:Grow w v5:=grow_buts (hgv.trans (hg3.trans hg4)) hb5 (by omega)
  repeat (first|(refine aB ?_;refine TL.pure rfl rfl ?_)|refine TL.nil ?_|refine aA ?_|refine aJ ?_|refine aC ?_)
  refine aL 186 ?_
  refine aI rfl (mkeysS_c s v5) rfl ?_
  rintro _ v6 ⟨c6,rfl,hc6,hcb6,hg6⟩
  repeat (refine aJ ?_)
  refine aL 89 ?_
  refine aI rfl (sortedS_c hcb6 (hf5.grow hg6) hf5p (by omega)) rfl ?_
  rintro v7 w7 ⟨ls,hv7,hls,hln,hsrt,hg7⟩
  obtain ⟨a7,c7,rfl,hsl⟩:=cE hv7
  have z5:=hgw5.size
  have z6:=hg6.size
  have hsl':=hsl.mono (F':=λ k=>w.heap.size≤k∧k<w7.heap.size) (λ k hk=>by have:=cY hv7 hk.2;omega)
  repeat (first|(refine aD ?_;refine TL.pure rfl rfl ?_)|refine TL.nil ?_|refine aA ?_|refine bC ?_)
  exact jS rfl rfl ⟨_,rfl,ls,a7,c7,rfl,hsl',λ k=>by rw [hls,hpm],hsrt,by omega,(hgw5.trans hg6).trans hg7⟩
end Go.Proofs.YtfpadnmdafiddaaGreatDoor
namespace Go.Proofs.YtfpadnmdafiddaaGreatDoor
open Go Go.RowKit Go.V
instance mapII:MapTy Tryz.prog 219 3 3:=⟨by kernel_rfl⟩
theorem keep_list {s:Pg} (hs:PgOk s) {qs:List Nat} (h:∀ q∈qs,cV s q=true) (hq:qs.Pairwise (· < ·)):mA (jQ s qs)=qs :=
 srt_same (usedL_srt _) hq λ k=>by rw [usedL_mem,keep_used hs h,decide_eq_true_eq]
theorem ones_used {s:Pg} (hs:PgOk s):gJ s.words=(mA s).length:=by rw [usedL_len,total_words hs];rfl
theorem MapF.size {w:World} {m:Nat} {f:Nat→Option Value} (h:MapF w m f) {ps:List Nat} (hnd:ps.Nodup) (hp:∀ k,(∃ v,f k=some v)↔k∈ps):∃ es c,w.heap[m]? = some (.map es c)∧es.size=ps.length:=by
 obtain ⟨es,clock,ks,ls,h1,h2,h3,h4,h5,h6,h7,h8,h9⟩:=map_keys h hp
 refine ⟨es.toArray,clock,h1,?_⟩
 have hl:es.length=ks.length:=by have:=congrArg List.length h2;simpa using this
 have a:=nodup_le hnd λ x hx=>(h9 x).2 hx
 have b:=h7.length_eq
 simp only [List.size_toArray]
 omega
theorem HsOk.keep {g:Pg} {hs:jN} (hok:PgOk g) (hh:HsOk g hs) {qs:List Nat} (hq:∀ q∈qs,cV g q=true) (hc:∀ z∈hs,∀ k∈z.2.2.2,k∈qs):HsOk (jQ g qs) hs :=
 λ z hz=>⟨(hh z hz).1.keep hok hq (hc z hz),(hh z hz).2⟩
theorem sweep_c {F:Nat→Prop} {w:World} {L:PL} {g:Pg} (h:PgAt w L g) {hs:jN} (hh:HsOk g hs) {base:Nat} {a:Option Addr} {n c:Nat} (hr:Sl F w 1 a n c (hU (hs.map (·.1)))) (hn:n=hs.length) (h0:hs≠[]) (hlen:hs.length≤4096) :
  Calls Tryz.prog 146 #[.pointer (some ⟨L.p,0,none⟩),.agg #[.int .i64 (base:Int),.slice a n c]] w (Ret λ v w'=>∃ (L':PL) (ls:List Nat),L'.p=L.p∧L'.d=L.d∧L'.m=L.m∧L'.s=L.s∧w.heap.size≤L'.u∧v=.tuple #[.int .i64 (((mA g).length:Int)-(ls.length:Int)),.int .i64 0] ∧
   (∀ k,k∈ls↔∃ q∈hs,k∈q.2.2.2)∧ls.Pairwise (· < ·)∧PgAt w' L' (jQ g ls)∧ButS (λ k=>k=L.p) w w'):=by
 have hlts:=h.lts
 refine V.calls (args:=[_,_]) Tryz.func146 rfl Tryz.ntmps146 rfl rfl ?_
 repeat (first|(refine aB ?_;refine TL.pure rfl rfl ?_)|(refine aD ?_;refine TL.pure rfl rfl ?_)|(refine aU ?_;refine bE rfl yB (by exact rfl) rfl ?_)|refine TL.nil ?_|refine aA ?_|refine aJ ?_|refine aC ?_|(refine bW ?_;(refine dJ rfl rfl ?_;intro bk w' hg hbk hsz hsz')))
 refine aL 145 ?_
 refine aI rfl (live_c (h.grow hg) hh (hr.grow hg) hn h0 hlen) rfl ?_
 rintro _ w1 ⟨ls,a1,c1,rfl,hs1,hls,hsrt,hl8,hg1⟩
 have hused:∀ q∈ls,cV g q=true:=λ q hq=>by
  obtain ⟨z,hz,e⟩:=(hls q).1 hq
  exact (hh z hz).1.used q e
 have hg01:=hg.trans hg1
 have z0:=hg.size
 have z1:=hg01.size
 repeat (first|(refine aB ?_;refine TL.pure rfl rfl ?_)|(refine aD ?_;refine TL.pure rfl rfl ?_)|refine TL.nil ?_|refine aA ?_|refine aJ ?_|refine aC ?_|(refine aH ?_;refine aR rfl yD rfl ?_)|refine aE rfl ?_|refine aV ?_|refine TL.pure rfl rfl ?_)
 refine aL 23 ?_
 refine aI rfl (keep_n (h.grow hg01) hs1 (λ k hk=>hk.2) hused (by omega)) rfl ?_
 rw [ones_used h.ok,show gJ (kE g ls)=ls.length from by
  have:=ones_used (keep_ok h.ok hused)
  rw [keep_list h.ok hused hsrt] at this
  exact this]
 rintro _ w2 ⟨L',e1,e2,e3,e4,e5,rfl,hp2,hb2⟩
 repeat (first|(refine aD ?_;refine TL.pure rfl rfl ?_)|refine TL.nil ?_|refine aA ?_|refine bC ?_|refine TL.pure rfl rfl ?_)
 exact jS rfl rfl ⟨_,rfl,L',ls,e1,e2,e3,e4,by omega,rfl,hls,hsrt,hp2,(ButS.grow hg01).trans hb2⟩
theorem swept_c {F:Nat→Prop} {w:World} {L:PL} {g:Pg} (hw:PgW w L g) {hs:jN} (hh:HsOk g hs) {base:Nat} {a:Option Addr} {n c:Nat} (hr:Sl F w 1 a n c (hU (hs.map (·.1)))) (hF:∀ k,F k→k≠L.p) (hn:n=hs.length) (h0:hs≠[]) (hlen:hs.length≤4096) :
  Calls Tryz.prog 72 #[.pointer (some ⟨L.p,0,none⟩),.agg #[.int .i64 (base:Int),.slice a n c]] w (Ret λ v w'=>v=.bool true∧∃ (L':PL) (qs:List Nat),L'.p=L.p∧L'.d=L.d∧L'.m=L.m∧L'.s=L.s∧w.heap.size≤L'.u∧PgW w' L' (jQ g qs)∧(∀ q∈qs,cV g q=true)∧HsOk (jQ g qs) hs∧ButS (λ k=>k=L.p) w w'):=by
 have h:=hw.at_
 have hlts:=h.lts
 have h8:=h.ok.cnt
 have hul:(mA g).length≤g.count:=by
  have h2:=List.length_filter_le (λ n=>cV g n) (List.range g.count)
  rw [List.length_range] at h2
  exact h2
 have hpu:=h.used.lt
 have hpb:=h.blk.lt
 refine V.calls (args:=[_,_]) Tryz.func72 rfl Tryz.ntmps72 rfl rfl ?_
 repeat (first|(refine aB ?_;refine TL.pure rfl rfl ?_)|(refine aD ?_;refine TL.pure rfl rfl ?_)|refine TL.nil ?_|refine aA ?_|refine aJ ?_|refine aC ?_|(refine bW ?_;(refine dJ rfl rfl ?_;intro bk w' hg hbk hsz hsz')))
 refine aL 28 ?_
 refine aI rfl (used_c (h.grow hg) (hw.tab.keep (hg.block 0 hw.tab.1) hg.size)) rfl ?_
 rintro u1 w1 ⟨hu1,hg1⟩
 obtain ⟨a1,c1,rfl,hs1⟩:=cE hu1
 have hg01:=hg.trans hg1
 have hbk1:=hbk.grow hg1
 repeat (first|(refine aB ?_;refine TL.pure rfl rfl ?_)|(refine aD ?_;refine TL.pure rfl rfl ?_)|(refine aU ?_;refine bE rfl yB (by exact rfl) rfl ?_)|refine TL.nil ?_|refine aA ?_|refine aJ ?_|refine aC ?_|refine aO rfl rfl ?_)
 refine aL 145 ?_
 refine aI rfl (live_c (h.grow hg01) hh (hr.grow hg01) hn h0 hlen) rfl ?_
 rintro _ w2 ⟨ls,a2,c2,rfl,hs2,hls,hsrt,hl8,hg2⟩
 have hg02:=hg01.trans hg2
 have hbk2:=hbk1.grow hg2
 repeat (first|(refine aB ?_;refine TL.pure rfl rfl ?_)|(refine aD ?_;refine TL.pure rfl rfl ?_)|(refine aU ?_;refine bE rfl yB (by exact rfl) rfl ?_)|refine TL.nil ?_|refine aA ?_|refine aJ ?_|refine aC ?_|refine TL.pure rfl rfl ?_)
 refine aL 146 ?_
 refine aI rfl (sweep_c (h.grow hg02) hh (hr.grow hg02) hn h0 hlen) rfl ?_
 rintro _ w3 ⟨L',ls',e1,e2,e3,e4,e5,rfl,hls',hsrt',hp3,hb3⟩
 obtain rfl:ls=ls':=srt_same hsrt hsrt' λ k=>by rw [hls,hls']
 have z2:=hg02.size
 have hused:∀ q∈ls,cV g q=true:=λ q hq=>by
  obtain ⟨z,hz,e⟩:=(hls q).1 hq
  exact (hh z hz).1.used q e
 have hb03:ButS (λ k=>k=L.p) w w3:=(ButS.grow hg02).trans hb3
 have hne0:L.p≠0:=λ e=>hw.ne0 (by unfold PL.S;omega)
 have hm0:L.m≠0:=λ e=>hw.ne0 (by unfold PL.S;omega)
 have h00:=hw.tab.1
 have ht3:TabAt w3:=hw.tab.buts hb03 (λ h=>hne0 h.symm)
 have hw3:PgW w3 L' (jQ g ls):=⟨hp3,ht3,λ h=>by unfold PL.S at h;omega⟩
 have hbk3:=dC hbk2 hb3 (by omega)
 have hh3:HsOk (jQ g ls) hs:=hh.keep h.ok hused λ z hz k hk=>(hls k).2 ⟨z,hz,hk⟩
 have hul3:=keep_list h.ok hused hsrt
 repeat (first|(refine aB ?_;refine TL.pure rfl rfl ?_)|(refine aD ?_;refine TL.pure rfl rfl ?_)|refine TL.nil ?_|refine aA ?_|refine aJ ?_|refine aC ?_|refine TL.pure rfl rfl ?_)
 rw [← e1]
 refine aL 28 ?_
 refine aI rfl (used_c hp3 ht3) rfl ?_
 rw [hul3]
 rintro u4 w4 ⟨hu4,hg4⟩
 obtain ⟨a4,c4,rfl,hs4⟩:=cE hu4
 have hs24:Sl (λ k=>k<w3.heap.size∧k≠L.p) w3 1 a2 ls.length c2 (cB ls):=hs2.go ((Carry.buts hb3 (λ k hk _=>by omega)).trans (Carry.mono λ k hk hl=>⟨hl,by omega⟩))
 repeat (first|refine aX rfl rfl rfl ?_|(refine aB ?_;refine TL.pure rfl rfl ?_)|(refine aD ?_;refine TL.pure rfl rfl ?_)|(refine cJ ?_;refine iT rfl rfl (by omega) (by omega) rfl ?_)|refine TL.nil ?_|refine aA ?_|refine aJ ?_|refine aC ?_|(refine aH ?_;refine aR rfl yD rfl ?_)|refine aO rfl rfl ?_|refine TL.pure rfl rfl ?_)
 refine aL 30 ?_
 refine aI rfl (ints_c (F:=λ _=>True) ((hs4.grow yG).mono λ _ _=>trivial) ((hs24.grow (hg4.trans yG)).mono λ _ _=>trivial) rfl) rfl ?_
 rintro _ w5 ⟨rfl,hg5⟩
 have hg35:Grow w3 w5:=hg4.trans yG
 have hbk5:=hbk3.grow hg35
 repeat (first|(refine kX ?_;refine mK rfl ?_;intro mi w6 hg6 hm6 hs6 hs6')|refine aX rfl rfl rfl ?_|(refine aD ?_;refine TL.pure rfl rfl ?_)|refine TL.nil ?_|refine aA ?_|refine aJ ?_|refine aC ?_|refine T.block ?_|refine aE rfl ?_|refine aV ?_|refine TL.pure rfl rfl ?_)
 have hg36:=hg35.trans hg6
 have z5:=hg35.size
 have z3:=hb3.size
 have hb06:ButS (λ k=>k=L'.p) w w6:=by rw [e1];exact hb03.trans (ButS.grow hg36)
 have hr6:Sl (λ k=>k<w.heap.size∧k≠L.p) w6 1 a n c (hU (hs.map (·.1))):=hr.go ((Carry.mono λ k hk hl=>⟨hl,hF k hk⟩).trans ((Carry.buts hb03 λ k hk _=>hk.2).trans (Carry.grow hg36)))
 have hbk6:=hbk5.grow hg6
 have hw6:=hw3.grow hg36
 have hs46:Sl (λ k=>k<mi) w6 1 a4 ls.length c4 (cB ls):=((hs4.grow (by exact yG:Grow w4 w5)).tight.grow hg6).mono λ k hk=>by have:=hk.2;omega
 subst hn
 have hbk6l:=hbk5.lt
 have hlts5:=(hw3.grow hg35).at_.lts
 clear hs1 hs2 hs4 hs24 hg1 hg2 hg4 hbk1 hbk2 hbk3 hbk5 hg01 hg02 hg35 hg36 hg5 hg6 hw3 hp3 ht3 hb3 hb03
 repeat (refine aJ ?_)
 refine cM (S:=Nat×(Nat→Option Value)) (λ q=>[(12,.int .i64 (q.1:Int)),(11,.map (some mi)),(10,.slice a4 ls.length c4),(3,.pointer (some ⟨bk,0,none⟩)),(0,.pointer (some ⟨L'.p,0,none⟩))])
  (λ q v=>q.1≤hs.length∧MapF v mi q.2∧(∀ k u,q.2 k=some u↔u=.int .i64 1∧∃ z∈hs.take q.1,k∈z.2.2.2)∧ButS (λ k=>k=mi) w6 v) (λ q=>hs.length-q.1) (0,λ _=>none) ⟨rfl,rfl,rfl,rfl,by rw [e1];rfl,trivial⟩
  ⟨Nat.zero_le _,hm6,(λ k u=>by simp),ButS.refl _ _⟩ ?_
 rintro ⟨i,f⟩ v ⟨hi,hm,hmk,hbv⟩
 simp only at hi hm hmk
 refine cT (e':=[(12,.int .i64 (i:Int)),(11,.map (some mi)),(10,.slice a4 ls.length c4),(3,.pointer (some ⟨bk,0,none⟩)),(0,.pointer (some ⟨L'.p,0,none⟩))]) ?_ ⟨rfl,rfl,rfl,rfl,rfl,trivial⟩
 have zv:=hbv.size
 have z1':=hg.size
 have hbkv:=dC hbk6 hbv (by omega)
 have hrv:=hr6.go (Carry.buts hbv λ k hk _=>by have:=hk.1;omega)
 have hpv:PgAt v L' (jQ g ls):=PgAt.keep hw6.at_ λ q hq=>hbv.block q (by omega) (by omega)
 by_cases hlt:i<hs.length
 ·obtain ⟨z,hz⟩:∃ q,hs[i]? = some q:=⟨_,List.getElem?_eq_getElem hlt⟩
  have hzm:=List.mem_of_getElem? hz
  obtain ⟨ht,hlv,hl100⟩:=hh3 z hzm
  obtain ⟨M,hM,hd,hpM⟩:=tree_tr ht (by omega)
  have hcell:v.cell? (at' a i)=some (.int .i64 (dD z.1)):=hrv.row.cell (by simp [hU,hz])
  have hr4:∀ n,z.1=some n→n<4294967296:=λ n hn=>by
   have h1:=eF (ht.root_used n hn)
   have h8:=hpv.ok.cnt
   omega
  have hpl:z.2.2.2.length≤1000000:=by have:=ht.pages;omega
  repeat (first|(refine bF ?_;refine aW (j:=i) rfl rfl rfl hlt (Nat.mul_one _) ⟨_,_,hrv⟩ rfl ?_)|(refine aB ?_;refine TL.pure rfl rfl ?_)|refine aK rfl yM rfl ?_|refine aF rfl rfl ?_|refine TL.nil ?_|refine aA ?_|refine aJ ?_|refine aC ?_|refine T.block ?_|(refine aH ?_;refine bA rfl yD rfl ?_)|refine aO rfl rfl ?_|refine aN rfl ?_|refine aV ?_)
  refine aL 22 ?_
  refine aI rfl (reach_c hpv hr4 hM hpM hpl) rfl ?_
  rintro _ v2 ⟨lr,ar,cr,rfl,hsr,hlr,hlrn,hgv2⟩
  repeat (first|(refine aB ?_;refine TL.pure rfl rfl ?_)|(refine aD ?_;refine TL.pure rfl rfl ?_)|refine TL.nil ?_|refine aA ?_|refine aJ ?_|refine aC ?_|refine T.block ?_|(refine aH ?_;refine aR rfl yD rfl ?_)|refine aE rfl ?_|refine aV ?_|refine TL.pure rfl rfl ?_)
  have hm2:=hm.grow hgv2
  refine cM (S:=Nat×(Nat→Option Value)) (λ q=>[(15,.int .i64 (q.1:Int)),(13,.slice ar lr.length cr),(12,.int .i64 (i:Int)),(11,.map (some mi)),(10,.slice a4 ls.length c4),(3,.pointer (some ⟨bk,0,none⟩)),(0,.pointer (some ⟨L'.p,0,none⟩))])
   (λ q v'=>q.1≤lr.length∧MapF v' mi q.2∧(∀ k u,q.2 k=some u↔u=.int .i64 1∧((∃ z∈hs.take i,k∈z.2.2.2)∨k∈lr.take q.1))∧ButS (λ k=>k=mi) v2 v') (λ q=>lr.length-q.1) (0,f) ⟨rfl,rfl,rfl,rfl,rfl,rfl,rfl,trivial⟩
   ⟨Nat.zero_le _,hm2,(λ k u=>by simpa using hmk k u),ButS.refl _ _⟩ ?_
  rintro ⟨j,f2⟩ v3 ⟨hj,hm3,hmk3,hbv3⟩
  simp only at hj hm3 hmk3
  refine cT (e':=[(15,.int .i64 (j:Int)),(13,.slice ar lr.length cr),(12,.int .i64 (i:Int)),(11,.map (some mi)),(10,.slice a4 ls.length c4),(3,.pointer (some ⟨bk,0,none⟩)),(0,.pointer (some ⟨L'.p,0,none⟩))]) ?_ ⟨rfl,rfl,rfl,rfl,rfl,rfl,rfl,trivial⟩
  have hsr3:=hsr.go (Carry.buts hbv3 λ k hk _=>by have:=hk.1;omega)
  by_cases hlt2:j<lr.length
  ·obtain ⟨x,hx⟩:∃ q,lr[j]? = some q:=⟨_,List.getElem?_eq_getElem hlt2⟩
   have hxm:=List.mem_of_getElem? hx
   have hcell3:v3.cell? (at' ar j)=some (.int .i64 (x:Int)):=hsr3.row.cell (by simp [cB,hx])
   have hx8:x<9223372036854775808:=by
    have:=eF (ht.used x ((hlr x).1 hxm))
    have h8:=hpv.ok.cnt
    omega
   repeat (first|(refine bF ?_;refine aW (j:=j) rfl rfl rfl hlt2 (Nat.mul_one _) ⟨_,_,hsr3⟩ rfl ?_)|(refine aB ?_;refine TL.pure rfl rfl ?_)|refine aK rfl yM rfl ?_|refine TL.nil ?_|refine aA ?_|refine aJ ?_|refine aC ?_|refine T.block ?_|(refine aH ?_;refine bA rfl yD rfl ?_)|refine aO rfl rfl ?_|refine aN rfl ?_|refine aV ?_)
   refine TL.isMapUp ?_
   refine TL.updateF rfl rfl rfl hm3 hx8 ?_
   intro v4 hu4 hm4
   repeat (first|(refine aB ?_;refine TL.pure rfl rfl ?_)|(refine aD ?_;refine TL.pure rfl rfl ?_)|(refine bJ ?_;refine bT rfl rfl (by omega) rfl ?_)|refine TL.nil ?_|refine aA ?_|refine aC ?_|refine aT ?_)
   refine bG (j+1,upF f2 x (.int .i64 1)) ⟨rfl,rfl,rfl,rfl,rfl,rfl,rfl,trivial⟩ ⟨by simp only;omega,hm4,λ k u=>?_,⟨hu4.os.trans hbv3.os,hu4.tape.trans hbv3.tape,hu4.output.trans hbv3.output,by have:=hu4.size;have:=hbv3.size;omega,λ k hk hne=>(hu4.block k hne).trans (hbv3.block k hk hne)⟩⟩ (by simp only;omega)
   simp only [upF]
   rw [List.take_add_one,hx]
   by_cases hkx:k=x
   ·subst hkx
    rw [if_pos rfl]
    simp [eq_comm]
   ·rw [if_neg hkx,hmk3]
    simp [hkx]
  ·obtain rfl:j=lr.length:=by omega
   rw [List.take_length] at hmk3
   repeat (first|(refine aB ?_;refine TL.pure rfl rfl ?_)|(refine aD ?_;refine TL.pure rfl rfl ?_)|(refine bJ ?_;refine bT rfl rfl (by omega) rfl ?_)|refine TL.nil ?_|refine aA ?_|refine aJ ?_|refine aC ?_|refine aT ?_|(refine aH ?_;refine aR rfl yD rfl ?_)|refine aO rfl rfl ?_|refine aE rfl ?_|refine cN ?_|refine bM ?_|refine bO ?_|refine bN ?_)
   refine bG (i+1,f2) ⟨rfl,rfl,rfl,rfl,rfl,trivial⟩ ⟨by simp only;omega,hm3,λ k u=>?_,hbv.trans ((ButS.grow hgv2).trans hbv3)⟩ (by simp only;omega)
   simp only
   rw [hmk3,List.take_add_one,hz,hlr]
   simp [or_and_right,exists_or]
 ·obtain rfl:i=hs.length:=by omega
  rw [List.take_length] at hmk
  have hml:∀ k,(∃ u,f k=some u)↔k∈ls:=λ k=>by
   rw [hls]
   exact ⟨λ ⟨u,hu⟩=>((hmk k u).1 hu).2,λ h=>⟨_,(hmk k _).2 ⟨rfl,h⟩⟩⟩
  have hsv:=hs46.go (Carry.buts hbv λ k hk _=>by omega)
  repeat (first|(refine aB ?_;refine TL.pure rfl rfl ?_)|(refine aD ?_;refine TL.pure rfl rfl ?_)|refine aK rfl yM rfl ?_|refine aF rfl rfl ?_|refine TL.nil ?_|refine aA ?_|refine aJ ?_|refine aC ?_|refine T.block ?_|(refine aH ?_;refine aR rfl yD rfl ?_)|refine aO rfl rfl ?_|refine aE rfl ?_|refine cN ?_|refine bM ?_|refine bO ?_|refine bN ?_)
  refine cM (S:=Nat) (λ q=>[(16,.int .i64 (q:Int)),(11,.map (some mi)),(10,.slice a4 ls.length c4),(3,.pointer (some ⟨bk,0,none⟩)),(0,.pointer (some ⟨L'.p,0,none⟩))])
   (λ q v'=>q≤ls.length∧v=v') (λ q=>ls.length-q) 0 ⟨rfl,rfl,rfl,rfl,rfl,trivial⟩ ⟨Nat.zero_le _,rfl⟩ ?_
  rintro j _ ⟨hj,rfl⟩
  by_cases hlt2:j<ls.length
  ·obtain ⟨x,hx⟩:∃ q,ls[j]? = some q:=⟨_,List.getElem?_eq_getElem hlt2⟩
   have hxm:=List.mem_of_getElem? hx
   have hcell3:v.cell? (at' a4 j)=some (.int .i64 (x:Int)):=hsv.row.cell (by simp [cB,hx])
   have hx8:x<9223372036854775808:=by
    have:=eF (hused x hxm)
    omega
   have hfx:f x=some (.int .i64 1):=by
    obtain ⟨u,hu⟩:=(hml x).2 hxm
    rw [hu,((hmk x u).1 hu).1]
   repeat (first|(refine bF ?_;refine aW (j:=j) rfl rfl rfl hlt2 (Nat.mul_one _) ⟨_,_,hsv⟩ rfl ?_)|(refine kI ?_;refine TL.lookup1 rfl rfl hm hfx hx8 rfl ?_)|(refine aB ?_;refine TL.pure rfl rfl ?_)|(refine aD ?_;refine TL.pure rfl rfl ?_)|refine aK rfl yM rfl ?_|(refine bJ ?_;refine bT rfl rfl (by omega) rfl ?_)|refine TL.nil ?_|refine aA ?_|refine aJ ?_|refine aC ?_|refine T.block ?_|refine aT ?_|(refine aH ?_;first|refine bA rfl yD rfl ?_|refine aR rfl yD rfl ?_)|refine aO rfl rfl ?_|refine aN rfl ?_|refine aE rfl ?_|refine aV ?_)
   exact bG (j+1) ⟨rfl,rfl,rfl,rfl,rfl,trivial⟩ ⟨by omega,rfl⟩ (by omega)
  ·obtain rfl:j=ls.length:=by omega
   obtain ⟨es,cl,hmap,hsz⟩:=MapF.size hm (hsrt.imp λ h=>Nat.ne_of_lt h) hml
   repeat (first|refine TL.lenMap rfl ⟨es,cl,hmap,hsz⟩ rfl ?_|(refine aB ?_;refine TL.pure rfl rfl ?_)|(refine aD ?_;refine TL.pure rfl rfl ?_)|refine TL.nil ?_|refine aA ?_|refine aJ ?_|refine aC ?_|(refine aH ?_;first|refine bA rfl yD rfl ?_|refine aR rfl yD rfl ?_)|refine aO rfl rfl ?_|refine aE rfl ?_|refine bC ?_|refine cN ?_|refine bM ?_|refine bO ?_|refine bN ?_)
   have hwv:PgW v L' (jQ g ls):=⟨hpv,hw6.tab.buts hbv (by omega),hw6.ne0⟩
   have hbfin:ButS (λ k=>k=L.p) w v:=by
    rw [e1] at hb06
    exact ⟨hbv.os.trans hb06.os,hbv.tape.trans hb06.tape,hbv.output.trans hb06.output,Nat.le_trans hb06.size hbv.size,λ k hk hne=>(hbv.block k (Nat.lt_of_lt_of_le hk hb06.size) (by omega)).trans (hb06.block k hk hne)⟩
   exact cF rfl ⟨_,rfl,rfl,L',ls,rfl,e2,e3,e4,by omega,hwv,hused,hh3,by rw [e1];exact hbfin⟩
end Go.Proofs.YtfpadnmdafiddaaGreatDoor
namespace Go.Proofs.YtfpadnmdafiddaaGreatDoor
open Go Go.RowKit Go.V
theorem text_c {w:World} {L:PL} {g:Pg} (h:PgAt w L g) {root:Option Nat} {lv:Nat} {l:dS} {ps:List Nat} (ht:TrAt g root lv l ps) (hlv:lv≤16) (hl:l.length≤10000) :
  Calls Tryz.prog 76 #[.pointer (some ⟨L.p,0,none⟩),.int .i64 (dD root)] w (Ret λ v w'=>v=.string (txt (jA l))∧Grow w w'):=by
 obtain ⟨M,hM,hd,_⟩:=tree_tr ht hlv
 have hrl:∀ n,root=some n→n<4294967296:=λ n e=>by subst e;have:=ht.lt h.ok;omega
 have hik:∀ x∈l,x.1.length≤16∧x.2.length≤32:=λ x hx=>⟨(gV (ht.items x hx).1).2,kZ (ht.items x hx).2⟩
 refine V.calls (args:=[_,_]) Tryz.func76 rfl Tryz.ntmps76 rfl rfl ?_
 repeat (first|(refine aB ?_;refine TL.pure rfl rfl ?_)|(refine aD ?_;refine TL.pure rfl rfl ?_)|refine TL.nil ?_|refine aA ?_|refine aJ ?_|refine aC ?_)
 refine aL 27 ?_
 refine aI rfl (all_c h hrl hM l (by omega) hd (λ e=>ht.empty.1 e)) rfl ?_
 rintro _ w1 ⟨⟨a,c,rfl,hit⟩,hg1⟩
 repeat (first|(refine aB ?_;refine TL.pure rfl rfl ?_)|(refine aD ?_;refine TL.pure rfl rfl ?_)|refine TL.nil ?_|refine aA ?_|refine aJ ?_|refine aC ?_|refine T.block ?_|(refine aH ?_;refine aR rfl yD rfl ?_)|refine aE rfl ?_|refine aV ?_|refine TL.pure rfl rfl ?_)
 obtain ⟨cs,hcs,hcc⟩:=hit.ex
 refine cM (S:=Nat) (λ i=>[(8,.int .i64 (i:Int)),(7,.string (txt (jA (l.take i)))),(5,.slice a l.length c)])
  (λ i w2=>i≤l.length∧Grow w1 w2) (λ i=>l.length-i) 0 ⟨rfl,rfl,rfl,trivial⟩ ⟨Nat.zero_le _,Grow.refl _⟩ ?_
 rintro i w2 ⟨hi,hg2⟩
 by_cases hlt:i<l.length
 ·obtain ⟨el,hel⟩:∃ q,l[i]? = some q:=⟨_,List.getElem?_eq_getElem hlt⟩
  obtain ⟨h16,h32⟩:=hik el (List.mem_of_getElem? hel)
  obtain ⟨kv,vv,f0,f1,hk,hv⟩:=(hcc.go (Carry.grow hg2)).at' hel
  have hcs2:=hcs.grow hg2
  obtain ⟨ka,kc,rfl,hks⟩:=hk.sl
  obtain ⟨va,vc,rfl,hvs⟩:=hv.sl
  rw [Nat.mul_comm] at f0 f1
  have hlen:(jA (l.take i)).length≤500000:=by
   have:=toldB_len (l.take i) (λ x hx=>hik x (List.mem_of_mem_take hx))
   have:=List.length_take_le i l
   omega
  have hstep:jA (l.take (i+1))=jA (l.take i)++(el.1++[61]++el.2++[59]):=by
   rw [List.take_add_one,hel]
   simp only [jA,List.flatMap_append,Option.toList_some,List.flatMap_cons,List.flatMap_nil,List.append_nil]
  generalize hs:jA (l.take i)=s at *
  repeat (first|(refine aB ?_;refine TL.pure rfl rfl ?_)|refine TL.nil ?_|refine aA ?_|refine aJ ?_|refine aC ?_|refine T.block ?_|(refine aH ?_;refine bA rfl yD rfl ?_)|refine aO rfl rfl ?_|refine aN rfl ?_|refine aV ?_)
  apply T.any 17 [is (.string (txt s)),is (.slice a l.length c),is (.int .i64 (i:Int)),is (.pointer (some (at' a (i*2)))),is (.pointer (some (at' a (i*2)))),is (.slice ka el.1.length kc),is (.string (txt el.1)),is (.string (txt (s++el.1))),is (.string (txt (s++el.1++[61]))),
   is (.slice a l.length c),is (.int .i64 (i:Int)),is (.pointer (some (at' a (i*2)))),is (.pointer (some (at' a (i*2+1)))),is (.slice va el.2.length vc),is (.string (txt el.2)),is (.string (txt (s++el.1++[61]++el.2))),is (.string (txt (s++el.1++[61]++el.2++[59])))]
  ·rfl
  ·repeat' (first|exact bX|refine bU ?_ ?_)
   iterate 3
    ·(refine aQ rfl rfl rfl ?_);( intro wq _ _ hgq;(repeat (refine aG rfl rfl ?_;intro vq hvq;try (obtain rfl:=hvq)));(refine aM ?_))
     repeat (first|(refine aB ?_;refine TL.pure rfl rfl ?_)|refine TL.nil ?_)
     exact aS rfl yG rfl
   ·(refine aQ rfl rfl rfl ?_);( intro wq _ _ hgq;(repeat (refine aG rfl rfl ?_;intro vq hvq;try (obtain rfl:=hvq)));(refine aM ?_))
    repeat (first|(refine bF ?_;refine aW (j:=i) rfl rfl rfl hlt rfl ⟨_,_,hcs2.grow hgq⟩ rfl ?_)|refine TL.nil ?_)
    exact aS rfl yG rfl
   ·(refine aQ rfl rfl rfl ?_);( intro wq _ _ hgq;(repeat (refine aG rfl rfl ?_;intro vq hvq;try (obtain rfl:=hvq)));(refine aM ?_))
    repeat (first|(refine gR ?_;refine gS (o:=i*2) rfl (hcs2.grow hgq) f0 rfl ?_)|refine TL.nil ?_)
    exact aS rfl yG rfl
   ·(refine aQ rfl rfl rfl ?_);( intro wq _ _ hgq;(repeat (refine aG rfl rfl ?_;intro vq hvq;try (obtain rfl:=hvq)));(refine aM ?_))
    have hcx:wq.cell? (at' a (i*2))=some (.slice ka el.1.length kc):=(hcs2.grow hgq).row.cell f0
    repeat (first|refine aK rfl yM rfl ?_|refine TL.nil ?_)
    exact aS rfl yG rfl
   ·(refine aQ rfl rfl rfl ?_);( intro wq _ _ hgq;(repeat (refine aG rfl rfl ?_;intro vq hvq;try (obtain rfl:=hvq)));(refine aM ?_))
    refine TL.convS rfl (hks.grow hgq) rfl ?_
    repeat (refine TL.nil ?_)
    exact aS rfl yG rfl
   ·(refine aQ rfl rfl rfl ?_);( intro wq _ _ hgq;(repeat (refine aG rfl rfl ?_;intro vq hvq;try (obtain rfl:=hvq)));(refine aM ?_))
    refine TL.addS rfl rfl (by omega) rfl ?_
    repeat (refine TL.nil ?_)
    exact aS rfl yG rfl
   ·(refine aQ rfl rfl rfl ?_);( intro wq _ _ hgq;(repeat (refine aG rfl rfl ?_;intro vq hvq;try (obtain rfl:=hvq)));(refine aM ?_))
    refine TL.addS (r:=[61]) rfl rfl (by simp only [List.length_append,List.length_cons,List.length_nil];omega) rfl ?_
    repeat (refine TL.nil ?_)
    exact aS rfl yG rfl
   iterate 2
    ·(refine aQ rfl rfl rfl ?_);( intro wq _ _ hgq;(repeat (refine aG rfl rfl ?_;intro vq hvq;try (obtain rfl:=hvq)));(refine aM ?_))
     repeat (first|(refine aB ?_;refine TL.pure rfl rfl ?_)|refine TL.nil ?_)
     exact aS rfl yG rfl
   ·(refine aQ rfl rfl rfl ?_);( intro wq _ _ hgq;(repeat (refine aG rfl rfl ?_;intro vq hvq;try (obtain rfl:=hvq)));(refine aM ?_))
    repeat (first|(refine bF ?_;refine aW (j:=i) rfl rfl rfl hlt rfl ⟨_,_,hcs2.grow hgq⟩ rfl ?_)|refine TL.nil ?_)
    exact aS rfl yG rfl
   ·(refine aQ rfl rfl rfl ?_);( intro wq _ _ hgq;(repeat (refine aG rfl rfl ?_;intro vq hvq;try (obtain rfl:=hvq)));(refine aM ?_))
    repeat (first|(refine gR ?_;refine gS (o:=i*2) rfl (hcs2.grow hgq) f0 rfl ?_)|refine TL.nil ?_)
    exact aS rfl yG rfl
   ·(refine aQ rfl rfl rfl ?_);( intro wq _ _ hgq;(repeat (refine aG rfl rfl ?_;intro vq hvq;try (obtain rfl:=hvq)));(refine aM ?_))
    have hcx:wq.cell? (at' a (i*2+1))=some (.slice va el.2.length vc):=(hcs2.grow hgq).row.cell f1
    repeat (first|refine aK rfl yM rfl ?_|refine TL.nil ?_)
    exact aS rfl yG rfl
   ·(refine aQ rfl rfl rfl ?_);( intro wq _ _ hgq;(repeat (refine aG rfl rfl ?_;intro vq hvq;try (obtain rfl:=hvq)));(refine aM ?_))
    refine TL.convS rfl (hvs.grow hgq) rfl ?_
    repeat (refine TL.nil ?_)
    exact aS rfl yG rfl
   ·(refine aQ rfl rfl rfl ?_);( intro wq _ _ hgq;(repeat (refine aG rfl rfl ?_;intro vq hvq;try (obtain rfl:=hvq)));(refine aM ?_))
    refine TL.addS rfl rfl (by simp only [List.length_append,List.length_cons,List.length_nil];omega) rfl ?_
    repeat (refine TL.nil ?_)
    exact aS rfl yG rfl
   ·(refine aQ rfl rfl rfl ?_);( intro wq _ _ hgq;(repeat (refine aG rfl rfl ?_;intro vq hvq;try (obtain rfl:=hvq)));(refine aM ?_))
    refine TL.addS (r:=[59]) rfl rfl (by simp only [List.length_append,List.length_cons,List.length_nil];omega) rfl ?_
    repeat (refine TL.nil ?_)
    exact aS rfl yG rfl
  ·intro wt lot hit' hgt _ _
   iterate 17 (refine aG rfl rfl ?_;intro vq hvq;try (obtain rfl:=hvq))
   refine aM ?_
   repeat (first|(refine aB ?_;refine TL.pure rfl rfl ?_)|(refine aD ?_;refine TL.pure rfl rfl ?_)|(refine bJ ?_;refine bT rfl rfl (by omega) rfl ?_)|refine TL.nil ?_|refine aA ?_|refine aC ?_|refine aT ?_)
   exact bG (i+1) ⟨rfl,by rw [hstep];simp only [← List.append_assoc];rfl,rfl,trivial⟩ ⟨by omega,hg2.trans hgt⟩ (by omega)
 ·have hi2:i=l.length:=by omega
  subst hi2
  repeat (first|(refine aB ?_;refine TL.pure rfl rfl ?_)|(refine aD ?_;refine TL.pure rfl rfl ?_)|refine TL.nil ?_|refine aA ?_|refine aJ ?_|refine aC ?_|(refine aH ?_;refine aR rfl yD rfl ?_)|refine aO rfl rfl ?_|refine aE rfl ?_|refine bC ?_|refine cN ?_|refine bM ?_|refine bO ?_|refine bN ?_)
  rw [List.take_length]
  exact cF rfl ⟨_,rfl,rfl,hg1.trans hg2⟩
end Go.Proofs.YtfpadnmdafiddaaGreatDoor
namespace Go.Proofs.YtfpadnmdafiddaaGreatDoor
open Go Go.RowKit Go.V
theorem tready_full {w:World} {L:PL} {g:Pg} (h:PgAt w L g) (r:Int) (hr : -1≤r) (hr2:r≤9223372036854775807) (F F':Nat→Prop) (a a':Option Addr) (n c n' c':Nat) (k v:Bs) (hk:Sl F w 1 a n c (cX k)) (hv:Sl F' w 1 a' n' c' (cX v)) (hko:dR k=true) (hvo:gH v=true) (hsp:cP g<32) :
  Calls Tryz.prog 77 #[.pointer (some ⟨L.p,0,none⟩),.int .i64 r,.slice a n c,.slice a' n' c'] w (Ret λ u w'=>u=.int .i64 7∧Grow w w'):=by
 refine V.calls (args:=[_,_,_,_]) Tryz.func77 rfl Tryz.ntmps77 rfl rfl ?_
 have hcn:=h.cnt
 repeat (first|(refine aL 93 ?_;refine aI rfl (ready_c h r hr hr2) rfl ?_;rintro _ _ ⟨rfl,rfl⟩)|(refine aL 94 ?_;refine aI rfl (key_t hk hko) rfl ?_;rintro _ _ ⟨rfl,rfl⟩)|(refine aL 148 ?_;refine aI rfl (value_t hv hvo) rfl ?_;rintro _ _ ⟨rfl,rfl⟩)|(refine aL 21 ?_;refine aI rfl (sparet_c h) rfl ?_;rintro _ _ ⟨rfl,hgc⟩)|refine aX rfl rfl rfl ?_|(refine aB ?_;refine TL.pure rfl rfl ?_)|(refine aD ?_;refine TL.pure rfl rfl ?_)|refine TL.nil ?_|refine aA ?_|refine aJ ?_|refine aC ?_|(refine aH ?_;first|refine bA rfl yD rfl ?_|refine aR rfl yD rfl ?_)|refine aN rfl ?_|refine aE rfl ?_|refine bC ?_|refine aV ?_|refine bI ?_|refine TL.pure rfl rfl ?_)
 exact cF rfl ⟨_,rfl,rfl,yG⟩
theorem put_full {w:World} {L:PL} {g:Pg} (h:PgAt w L g) (root:Option Nat) (hr:∀ n,root=some n→cV g n=true) {F F':Nat→Prop} (a a':Option Addr) (m c m' c':Nat) (key v:Bs) (hk:Sl F w 1 a m c (cX key)) (hv:Sl F' w 1 a' m' c' (cX v)) (hko:dR key=true) (hvo:gH v=true) (hsp:cP g<32) :
  Calls Tryz.prog 25 #[.pointer (some ⟨L.p,0,none⟩),.int .i64 (dD root),.slice a m c,.slice a' m' c'] w (Ret λ u w'=>u=.tuple #[.int .i64 0,.int .i64 7]∧Grow w w'):=by
 have hrr:=rootI_in h.cnt hr
 refine V.calls (args:=[_,_,_,_]) Tryz.func25 rfl Tryz.ntmps25 rfl rfl ?_
 repeat (first|(refine aB ?_;refine TL.pure rfl rfl ?_)|refine aK rfl yM rfl ?_|refine TL.nil ?_|refine aA ?_|refine aJ ?_|refine aC ?_|(refine bW ?_;(refine TL.box rfl rfl rfl ?_;intro bk w' hg hbk hsz hsz'))|(refine bD ?_;(refine TL.alloc rfl rfl ?_;intro bk w' hg hbk hsz hsz')))
 rename_i b4 w1 g1 k1 p1 p1' b8 w2 g2 k2 p2 p2'
 obtain ⟨b9,rfl⟩:∃ y,y=bk:=⟨bk,rfl⟩
 refine aL 77 ?_
 have hg3:Grow w w':=g1.trans (g2.trans hg)
 refine aI rfl (tready_full (h.grow hg3) _ hrr.1 hrr.2 _ _ a a' m c m' c' key v (hk.grow hg3) (hv.grow hg3) hko hvo hsp) rfl ?_
 rintro _ w4 ⟨rfl,hg4⟩
 have k4:=(k1.grow (g2.trans hg)).grow hg4
 have k8:=(k2.grow hg).grow hg4
 have k9:=hbk.grow hg4
 have hgw:=hg3.trans hg4
 have q:b4=w.heap.size∧b8=b4+1∧b9=b8+1∧b9<w4.heap.size:=by have:=k9.lt;omega
 clear hbk hg hg3 hg4 k1 k2 g1 g2 hsz hsz' p1 p1' p2 p2'
 repeat (first|(refine aB ?_;refine TL.pure rfl rfl ?_)|(refine aD ?_;refine TL.pure rfl rfl ?_)|refine TL.nil ?_|refine aA ?_|refine aJ ?_|refine aC ?_|(refine aH ?_;refine bA rfl yD rfl ?_)|(refine aP ?_;(refine bP rfl rfl yB (by exact rfl) (by exact rfl) (by exact rfl) ?_;intro w' hu hbk hsz))|refine aN rfl ?_|refine bC ?_|refine bI ?_)
 rename_i w5 hu5 hb5 z5
 exact retCC rfl (dP (hb5.upd hu (by omega))) rfl (dP hbk) ⟨_,rfl,rfl,aZ hu (by omega) (aZ hu5 (by omega) hgw)⟩
theorem delete_full {w:World} {L:PL} {g:Pg} (h:PgAt w L g) (root:Option Nat) (hr:∀ n,root=some n→cV g n=true) {F:Nat→Prop} (a:Option Addr) (m c:Nat) (key:Bs) (hk:Sl F w 1 a m c (cX key)) (hko:dR key=true) (hsp:cP g<32) :
  Calls Tryz.prog 19 #[.pointer (some ⟨L.p,0,none⟩),.int .i64 (dD root),.slice a m c] w (Ret λ u w'=>u=.tuple #[.int .i64 0,.int .i64 7]∧Grow w w'):=by
 have hrr:=rootI_in h.cnt hr
 refine V.calls (args:=[_,_,_]) Tryz.func19 rfl Tryz.ntmps19 rfl rfl ?_
 repeat (first|(refine aB ?_;refine TL.pure rfl rfl ?_)|refine aK rfl yM rfl ?_|refine TL.nil ?_|refine aA ?_|refine aJ ?_|refine aC ?_|(refine bW ?_;(refine TL.box rfl rfl rfl ?_;intro bk w' hg hbk hsz hsz'))|(refine bD ?_;(refine TL.alloc rfl rfl ?_;intro bk w' hg hbk hsz hsz')))
 rename_i b3 w1 g1 k1 p1 p1' b6 w2 g2 k2 p2 p2'
 obtain ⟨b7,rfl⟩:∃ y,y=bk:=⟨bk,rfl⟩
 refine aL 77 ?_
 have hg3:Grow w w':=g1.trans (g2.trans hg)
 refine aI rfl (tready_full (h.grow hg3) _ hrr.1 hrr.2 _ (λ _=>True) a none m c 0 0 key [] (hk.grow hg3) ⟨by simp [cX],Nat.le_refl _,Nat.zero_le _,λ _=>rfl,by simp [Row,cX]⟩ hko rfl hsp) rfl ?_
 rintro _ w4 ⟨rfl,hg4⟩
 have k3:=(k1.grow (g2.trans hg)).grow hg4
 have k6:=(k2.grow hg).grow hg4
 have k7:=hbk.grow hg4
 have hgw:=hg3.trans hg4
 have q:b3=w.heap.size∧b6=b3+1∧b7=b6+1∧b7<w4.heap.size:=by have:=k7.lt;omega
 clear hbk hg hg3 hg4 k1 k2 g1 g2 hsz hsz' p1 p1' p2 p2'
 repeat (first|(refine aB ?_;refine TL.pure rfl rfl ?_)|(refine aD ?_;refine TL.pure rfl rfl ?_)|refine TL.nil ?_|refine aA ?_|refine aJ ?_|refine aC ?_|(refine aH ?_;refine bA rfl yD rfl ?_)|(refine aP ?_;(refine bP rfl rfl yB (by exact rfl) (by exact rfl) (by exact rfl) ?_;intro w' hu hbk hsz))|refine aN rfl ?_|refine bC ?_|refine bI ?_)
 rename_i w5 hu5 hb5 z5
 exact retCC rfl (dP (hb5.upd hu (by omega))) rfl (dP hbk) ⟨_,rfl,rfl,aZ hu (by omega) (aZ hu5 (by omega) hgw)⟩
structure Done (w w':World) (L:PL) (g g':Pg) (root root':Option Nat) (l l':dS) (lv':Nat) (ps':List Nat) (u:Value):Prop where
 val:∃ x e:Int,u=.tuple #[.int .i64 x,.int .i64 e]∧((e=0∧x=dD root')∨(e≠0∧root'=root))
 pg:PgW w' L g'
 ext:Ext g g'
 tr:TrAt g' root' lv' l' ps'
 len:l'.length≤l.length+1
 but:ButS L.S w w'
theorem put_all {w:World} {L:PL} {g:Pg} (h:PgW w L g) {root:Option Nat} {lv:Nat} {l:dS} {ps:List Nat} (ht:TrAt g root lv l ps) (hlv:lv≤15) (a a':Option Addr) (m c m' c':Nat) (key v:Bs) (hk:Sl (λ k=>¬ L.S k) w 1 a m c (cX key)) (hv:Sl (λ k=>¬ L.S k) w 1 a' m' c' (cX v)) (hkb:kW key) (hvb:kW v) :
  Calls Tryz.prog 25 #[.pointer (some ⟨L.p,0,none⟩),.int .i64 (dD root),.slice a m c,.slice a' m' c'] w (Ret λ u w'=>∃ (root':Option Nat) (g':Pg) (lv':Nat) (l':dS) (ps':List Nat),Done w w' L g g' root root' l l' lv' ps' u):=by
 by_cases hsp:32≤cP g
 ·refine Calls.mono (put_any h ht hlv hsp a a' m c m' c' key v hk hv hkb hvb) λ y w' hy=>hy.mono λ u w' ⟨x,e,root',g',lv',l',ps',hu,hor,haft⟩=>⟨root',g',lv',l',ps',⟨x,e,hu,?_⟩,haft.pg,haft.ext,haft.tr,?_,haft.but⟩
  ·rcases hor with ⟨_,rfl,h2,_⟩|⟨_,rfl,h2,_⟩
   ·exact .inl ⟨rfl,h2⟩
   ·exact .inr ⟨by omega,h2⟩
  ·rcases hor with ⟨_,_,_,rfl⟩|⟨_,_,_,_,rfl,_⟩
   ·exact (insI_len key v l).2
   ·omega
 ·cases hb:dR key&&gH v with
  | false =>
   exact Calls.mono (put_bad h.at_ root ht.root_used a a' m c m' c' key v hk hv hb) λ y w' hy=>hy.mono λ u w' ⟨hu,hg⟩=>⟨root,g,lv,l,ps,⟨0,2,hu,.inr ⟨by omega,rfl⟩⟩,h.grow hg,Ext.refl _,ht,by omega,ButS.grow hg⟩
  | true =>
   obtain ⟨hko,hvo⟩:=Bool.and_eq_true_iff.1 hb
   exact Calls.mono (put_full h.at_ root ht.root_used a a' m c m' c' key v hk hv hko hvo (by omega)) λ y w' hy=>hy.mono λ u w' ⟨hu,hg⟩=>⟨root,g,lv,l,ps,⟨0,7,hu,.inr ⟨by omega,rfl⟩⟩,h.grow hg,Ext.refl _,ht,by omega,ButS.grow hg⟩
theorem del_all {w:World} {L:PL} {g:Pg} (h:PgW w L g) {root:Option Nat} {lv:Nat} {l:dS} {ps:List Nat} (ht:TrAt g root lv l ps) (hlv:lv≤15) (a:Option Addr) (m c:Nat) (key:Bs) (hk:Sl (λ k=>¬ L.S k) w 1 a m c (cX key)) :
  Calls Tryz.prog 19 #[.pointer (some ⟨L.p,0,none⟩),.int .i64 (dD root),.slice a m c] w (Ret λ u w'=>∃ (root':Option Nat) (g':Pg) (lv':Nat) (l':dS) (ps':List Nat),Done w w' L g g' root root' l l' lv' ps' u):=by
 by_cases hsp:32≤cP g
 ·refine Calls.mono (del_any h ht hlv hsp a m c key hk) λ y w' hy=>hy.mono λ u w' ⟨x,e,root',g',lv',l',ps',hu,hor,haft⟩=>⟨root',g',lv',l',ps',⟨x,e,hu,?_⟩,haft.pg,haft.ext,haft.tr,?_,haft.but⟩
  ·rcases hor with ⟨_,rfl,h2,_⟩|⟨_,h1,_,h2,_⟩
   ·exact .inl ⟨rfl,h2⟩
   ·exact .inr ⟨by omega,h2⟩
  ·rcases hor with ⟨_,_,_,rfl⟩|⟨_,_,_,_,_,rfl,_⟩
   ·have:=delI_le key l;omega
   ·omega
 ·cases hb:dR key with
  | false =>
   exact Calls.mono (delete_bad h.at_ root ht.root_used a m c key hk hb) λ y w' hy=>hy.mono λ u w' ⟨hu,hg⟩=>⟨root,g,lv,l,ps,⟨0,2,hu,.inr ⟨by omega,rfl⟩⟩,h.grow hg,Ext.refl _,ht,by omega,ButS.grow hg⟩
  | true =>
   exact Calls.mono (delete_full h.at_ root ht.root_used a m c key hk hb (by omega)) λ y w' hy=>hy.mono λ u w' ⟨hu,hg⟩=>⟨root,g,lv,l,ps,⟨0,7,hu,.inr ⟨by omega,rfl⟩⟩,h.grow hg,Ext.refl _,ht,by omega,ButS.grow hg⟩
end Go.Proofs.YtfpadnmdafiddaaGreatDoor
namespace Go.Proofs.YtfpadnmdafiddaaGreatDoor
open Go Go.RowKit Go.V
def ActV (F:Nat→Prop) (w:World) (cs:List Value) (l:List (Int×Int×Bs×Bool)):Prop :=
 ∀ i x,l[i]? = some x→cs[i*4]? = some (.int .i64 x.1)∧cs[i*4+1]? = some (.int .i64 x.2.1)∧(∃ k,cs[i*4+2]? = some k∧BsAt F w k x.2.2.1)∧cs[i*4+3]? = some (.bool x.2.2.2)
theorem ActV.go {F F':Nat→Prop} {w w':World} {cs:List Value} {l:List (Int×Int×Bs×Bool)} (h:ActV F w cs l) (g:Carry F w F' w'):ActV F' w' cs l:=λ i x hx=>by
 obtain ⟨h1,h2,⟨k,h3,h4⟩,h5⟩:=h i x hx
 exact ⟨h1,h2,⟨k,h3,h4.go g⟩,h5⟩
def fL (hs:jN):List (Option Nat):=hs.map (·.1)
def textsV (hs:jN):List Value:=hs.map λ h=>.string (txt (jA h.2.2.1))
theorem hQ (hs:jN):(textsV hs).length=hs.length:=by simp [textsV]
theorem fV (hs:jN):(fL hs).length=hs.length:=by simp [fL]
def Fq (L:PL) (bv:Nat) (tv:Value) (k:Nat):Prop:=¬ L.S k∧k≠bv∧tv.ownBlock≠some k
structure Lv (w v:World) (bv Lp i:Nat) (L:PL) (g:Pg) (base:Nat) (a:Option Addr) (c:Nat) (tv:Value) (hs:jN):Prop where
 p:L.p=Lp
 pg:PgW v L g
 new:∀ b,b=L.p∨b=L.d∨b=L.u∨b=L.m→w.heap.size≤b
 vb:Blk v bv 124 [.int .i64 (base:Int),.slice a hs.length c]
 vs:Sl (Fq L bv tv) v 1 a hs.length c (hU (fL hs))
 bn:w.heap.size≤bv
 bS:¬ L.S bv∧bv≠L.d
 tx:RowO w.heap.size 9 v tv (textsV hs)
 tn:∀ k,tv.ownBlock=some k→¬ L.S k∧k≠L.d∧k≠bv
 ok:∀ h∈hs,TrAt g h.1 h.2.1 h.2.2.1 h.2.2.2∧h.2.2.1.length≤i
 ne:hs≠[]
 sz:base+hs.length≤i+1
 cnt:g.count=300
 gr:Grow w v
 w0:0<w.heap.size
variable {w v v':World} {bv Lp i:Nat} {L L':PL} {g g':Pg} {base base':Nat} {a a':Option Addr} {c c':Nat} {tv tv':Value} {hs hs':jN}
theorem Lv.grow (h:Lv w v bv Lp i L g base a c tv hs) (gr:Grow v v'):Lv w v' bv Lp i L g base a c tv hs :=
 ⟨h.p,h.pg.grow gr,h.new,h.vb.grow gr,h.vs.grow gr,h.bn,h.bS,h.tx.grow gr,h.tn,h.ok,h.ne,h.sz,h.cnt,h.gr.trans gr,h.w0⟩
theorem Lv.buts (h:Lv w v bv Lp i L g base a c tv hs) (pg:PgW v' L g') (ext:Ext g g') (b:ButS L.S v v'):Lv w v' bv Lp i L g' base a c tv hs :=
 ⟨h.p,pg,h.new,dC h.vb b h.bS.1,h.vs.go (Carry.buts b λ k hk _=>hk.1),h.bn,h.bS,h.tx.keep (λ k hk=>b.block k (h.tx.lt hk).2 (h.tn k hk).1),h.tn,λ q hq=>⟨(h.ok q hq).1.ext ext,(h.ok q hq).2⟩,h.ne,h.sz,ext.count.trans h.cnt,grow_many h.gr b λ k hk=>h.new k (by unfold PL.S at hk;rcases hk with h|h|h<;>simp [h]),h.w0⟩
theorem Lv.sweep (h:Lv w v bv Lp i L g base a c tv hs) {qs:List Nat} (e1:L'.p=L.p) (e2:L'.d=L.d) (e3:L'.m=L.m) (e5:v.heap.size≤L'.u) (pg:PgW v' L' (jQ g qs)) (hok:HsOk (jQ g qs) hs) (b:ButS (λ k=>k=L.p) v v'):Lv w v' bv Lp i L' (jQ g qs) base a c tv hs:=by
 have hS:∀ k,k<v.heap.size→¬ L.S k→¬ L'.S k:=λ k hk hn hS=>by
  unfold PL.S at hn hS
  rw [e1,e3] at hS
  rcases hS with hS|hS|hS
  ·omega
  ·exact hn (.inr (.inl hS))
  ·exact hn (.inr (.inr hS))
 have hp:∀ k,¬ L.S k→k≠L.p:=λ k hn e=>hn (.inr (.inr e))
 have hbl:=h.vb.lt
 have hzg:=h.gr.size
 refine ⟨e1.trans h.p,pg,λ q hq=>?_,dC h.vb b (hp _ h.bS.1),?_,h.bn,⟨hS _ hbl h.bS.1,e2▸h.bS.2⟩,h.tx.keep (λ k hk=>b.block k (h.tx.lt hk).2 (hp _ (h.tn k hk).1)),λ k hk=>⟨hS k (h.tx.lt hk).2 (h.tn k hk).1,e2▸(h.tn k hk).2.1,(h.tn k hk).2.2⟩,λ q hq=>⟨(hok q hq).1,(h.ok q hq).2⟩,h.ne,h.sz,h.cnt,grow_many h.gr b (λ k hk=>h.new k (.inl hk)),h.w0⟩
 ·rcases hq with hq|hq|hq|hq
  ·rw [hq,e1];exact h.new _ (by simp)
  ·rw [hq,e2];exact h.new _ (by simp)
  ·omega
  ·rw [hq,e3];exact h.new _ (by simp)
 ·exact h.vs.go ((Carry.mono (F':=λ k=>Fq L bv tv k∧k<v.heap.size) λ k hk hl=>⟨hk,hl⟩).trans ((Carry.buts b λ k hk _=>hp k hk.1.1).trans (Carry.mono λ k hk _=>⟨hS k hk.2 hk.1.1,hk.1.2⟩)))
theorem Lv.next (h:Lv w v bv Lp i L g base a c tv hs):Lv w v bv Lp (i+1) L g base a c tv hs :=
 ⟨h.p,h.pg,h.new,h.vb,h.vs,h.bn,h.bS,h.tx,h.tn,λ q hq=>⟨(h.ok q hq).1,Nat.le_succ_of_le (h.ok q hq).2⟩,h.ne,by have:=h.sz;omega,h.cnt,h.gr,h.w0⟩
theorem Lv.hsOk (h:Lv w v bv Lp i L g base a c tv hs) (hi:i≤60):HsOk g hs:=λ q hq=>by
 obtain ⟨h1,h2⟩:=h.ok q hq
 have hl:=h1.levels (k:=3) (by omega) (by omega)
 exact ⟨h1,by omega,by omega⟩
theorem Lv.cut (h:Lv w v bv Lp i L g base a c tv hs) {v1:World} (hg:Grow v v1) (hu:Upd bv v1 v') {n':Nat} (hvb:Blk v' bv 124 [.int .i64 (base':Int),.slice a' n' c']) (hvs:Sl (λ k=>v.heap.size≤k) v1 1 a' n' c' (hU (fL hs'))) (htx:RowO w.heap.size 9 v' tv' (textsV hs')) (ht:tv'.ownBlock=tv.ownBlock)
  (hin:∀ q∈hs',q∈hs) (hne:hs'≠[]) (hsz:base'+hs'.length≤i+1):Lv w v' bv Lp i L g base' a' c' tv' hs':=by
 have hbl:=h.vb.lt
 have hzg:=hg.size
 have hlts:=h.pg.at_.lts
 have hn:n'=hs'.length:=by
  have:=hvs.len
  simp only [hU,List.length_map,fV] at this
  omega
 subst hn
 have hb0:=h.bn
 have hw0:=h.w0
 have hpg:PgW v' L g:=⟨(h.pg.at_.grow hg).upd hu ⟨λ e=>h.bS.1 (.inr (.inr e)),h.bS.2,λ e=>h.bS.1 (.inl e),λ e=>h.bS.1 (.inr (.inl e))⟩,(h.pg.tab.keep (hg.block 0 h.pg.tab.1) hg.size).keep (hu.block 0 (by omega)) (Nat.le_of_eq hu.size.symm),h.pg.ne0⟩
 have hz:=hu.size
 refine ⟨h.p,hpg,h.new,hvb,?_,h.bn,h.bS,htx,λ k hk=>h.tn k (ht▸hk),λ q hq=>h.ok q (hin q hq),hne,hsz,h.cnt,aZ hu h.bn (h.gr.trans hg),h.w0⟩
 ·refine hvs.go ((Carry.upd hu λ k hk _=>by omega).trans (Carry.mono λ k hk _=>⟨λ hS=>?_,by omega,λ e=>?_⟩))
  ·unfold PL.S at hS;omega
  ·have:=(h.tx.lt (ht▸e)).2;omega
theorem Lv.pgU (h:Lv w v bv Lp i L g base a c tv hs) {v1:World} (hg:Grow v v1) (hu:Upd bv v1 v'):PgW v' L g:=by
 have hb0:=h.bn
 have hw0:=h.w0
 exact ⟨(h.pg.at_.grow hg).upd hu ⟨λ e=>h.bS.1 (.inr (.inr e)),h.bS.2,λ e=>h.bS.1 (.inl e),λ e=>h.bS.1 (.inr (.inl e))⟩,(h.pg.tab.keep (hg.block 0 h.pg.tab.1) hg.size).keep (hu.block 0 (by omega)) (Nat.le_of_eq hu.size.symm),h.pg.ne0⟩
theorem Lv.push (h:Lv w v bv Lp i L g base a c tv hs) {v1 v2:World} (hg:Grow v v1) (hu:Upd bv v1 v2) {n':Nat} (hvb:Blk v2 bv 124 [.int .i64 (base:Int),.slice a' n' c']) {q:Option Nat×Nat×dS×List Nat} (hvs:Sl (λ k=>v.heap.size≤k) v1 1 a' n' c' (hU (fL (hs++[q]))))
  {v3:World} (hg2:Grow v2 v3) (gb:v3.grownBy v' tv.ownBlock) (htx:RowO w.heap.size 9 v' tv' (textsV (hs++[q]))) (ht:∀ j,tv'.ownBlock=some j→tv.ownBlock=some j∨v3.heap.size≤j) (hq:TrAt g q.1 q.2.1 q.2.2.1 q.2.2.2∧q.2.2.1.length≤i+1):Lv w v' bv Lp (i+1) L g base a' c' tv' (hs++[q]):=by
 have hbl:=h.vb.lt
 have hzg:=hg.size
 have hzu:=hu.size
 have hz2:=hg2.size
 have hz3:=gb.size
 have hlts:=h.pg.at_.lts
 have hb0:=h.bn
 have hw0:=h.w0
 have hn:n'=(hs++[q]).length:=by
  have:=hvs.len
  simp only [hU,List.length_map,fV] at this
  omega
 subst hn
 have hpg2:PgW v2 L g:=⟨(h.pg.at_.grow hg).upd hu ⟨λ e=>h.bS.1 (.inr (.inr e)),h.bS.2,λ e=>h.bS.1 (.inl e),λ e=>h.bS.1 (.inr (.inl e))⟩,(h.pg.tab.keep (hg.block 0 h.pg.tab.1) hg.size).keep (hu.block 0 (by omega)) (Nat.le_of_eq hu.size.symm),h.pg.ne0⟩
 have hpg3:=hpg2.grow hg2
 have htb:∀ k,tv.ownBlock=some k→w.heap.size≤k∧k<v.heap.size:=λ k hk=>h.tx.lt hk
 have hpg:PgW v' L g:=⟨hpg3.at_.keep (λ b hb=>gb.block b (by omega) λ e=>by
   have h1:=h.tn b e.symm
   unfold PL.S at h1
   rcases hb with hb|hb|hb|hb<;>simp [hb] at h1),hpg3.tab.keep (gb.block 0 hpg3.tab.1 λ e=>by have:=htb 0 e.symm;omega) gb.size,h.pg.ne0⟩
 have hvb3:=hvb.grow hg2
 have hvb':Blk v' bv 124 [.int .i64 (base:Int),.slice a' (hs++[q]).length c']:=eL hvb3 (gb.block bv hvb3.lt λ e=>(h.tn bv e.symm).2.2 rfl)
 have hgr:Grow w v':=⟨cA gb (by have:=h.gr.size;omega) (λ k hk=>(htb k hk).1) ((aZ hu h.bn (h.gr.trans hg)).trans hg2).1,by have:=h.gr.size;omega⟩
 refine ⟨h.p,hpg,h.new,hvb',?_,h.bn,h.bS,htx,λ k hk=>?_,λ z hz=>?_,by simp,by have:=h.sz;simp only [List.length_append,List.length_singleton];omega,h.cnt,hgr,h.w0⟩
 ·refine (hvs.tight.go ((Carry.upd hu λ k hk _=>by have:=hk.1;omega).trans (Carry.grow hg2))).go ⟨gb.size,λ k hk hl=>⟨⟨λ hS=>?_,?_,λ e=>?_⟩,gb.block k hl λ e=>?_⟩⟩
  ·have:=hk.1;unfold PL.S at hS;omega
  ·have:=hk.1;omega
  ·have h1:=hk.1
   have h2:=hk.2
   rcases ht k e with h3|h3
   ·have:=(htb k h3).2;omega
   ·omega
  ·have:=(htb k e.symm).2
   have:=hk.1
   omega
 ·rcases ht k hk with h3|h3
  ·exact h.tn k h3
  ·exact ⟨λ hS=>by unfold PL.S at hS;omega,by omega,by omega⟩
 ·rcases List.mem_append.1 hz with hz|hz
  ·exact ⟨(h.ok z hz).1,Nat.le_succ_of_le (h.ok z hz).2⟩
  ·rw [List.mem_singleton] at hz
   rw [hz]
   exact hq
end Go.Proofs.YtfpadnmdafiddaaGreatDoor
