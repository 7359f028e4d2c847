import Derived.Test.YtfpadnmdafiddaaGreatDoorQL
import Derived.Test.YtfpadnmdafiddaaGreatDoorQM
set_option linter.all false
set_option maxHeartbeats 16000000
set_option maxRecDepth 100000
namespace Go.Proofs.YtfpadnmdafiddaaGreatDoor
open Go Go.RowKit Go.V
instance:MapTy Tryz.prog 28 9 3:=⟨by kernel_rfl⟩
theorem PgW.other {w w':World} {L:PL} {g:Pg} {S:Nat→Prop} (h:PgW w L g) (b:ButS S w w') (hL:∀ k,k=L.p∨k=L.d∨k=L.u∨k=L.m→¬ S k) (h0:¬ S 0):PgW w' L g :=
 ⟨h.at_.keep (λ k hk=>b.block k (by have:=h.at_.lts;omega) (hL k hk)),h.tab.buts b h0,h.ne0⟩
theorem ButS.sub {S S':Nat→Prop} {w w':World} (h:ButS S w w') (hs:∀ k,S k→S' k):ButS S' w w':=⟨h.os,h.tape,h.output,h.size,λ k hk hn=>h.block k hk λ e=>hn (hs k e)⟩
theorem grow_many {S:Nat→Prop} {w w0 w1:World} (hg:Grow w w0) (h:ButS S w0 w1) (hm:∀ k,S k→w.heap.size≤k):Grow w w1 :=
 ⟨⟨h.os.trans hg.1.os,h.tape.trans hg.1.tape,h.output.trans hg.1.output,by have:=hg.2;have:=h.size;omega,λ k hk=>(h.block k (by have:=hg.2;omega) (λ e=>by have:=hm k e;omega)).trans (hg.block k hk)⟩,by have:=hg.2;have:=h.size;omega⟩
def setF (ks:List Bs):Bs→Option Value:=λ k=>if k∈ks then some (.int .i64 1) else none
theorem setF_snoc (ks:List Bs) (k:Bs):upG (setF ks) k (.int .i64 1)=setF (ks++[k]):=by
 funext j
 unfold upG setF
 by_cases h:j=k
 ·subst h;simp
 ·rw [if_neg h]
  simp [h]
theorem orders_c {F:Nat→Prop} {w:World} {a:Option Addr} {n c:Nat} {cs:List Value} {l:List (Int×Bs×Bs)} {at_:Int} (htab:TabAt w) (hs0:Sl F w 3 a n c cs) (ha0:ActCells F w cs l) (hn:n=l.length) (hby:∀ x∈l,byB x.2.1) (hat : -9223372036854775808≤at_∧at_≤9223372036854775807) :
  Calls Tryz.prog 3 #[.slice a n c,.int .i64 at_] w (Ret λ v w'=>v=.bool true∧Grow w w'):=by
 obtain ⟨F0,hF0⟩:∃ F0:Nat→Prop,∀ k,F0 k↔k<w.heap.size:=⟨_,λ _=>Iff.rfl⟩
 have hs:Sl F0 w 3 a n c cs:=hs0.go (Carry.mono λ k _ hl=>(hF0 k).2 hl)
 have ha:ActCells F0 w cs l:=ha0.go (Carry.mono λ k _ hl=>(hF0 k).2 hl)
 clear hs0 ha0
 have hnm:=hs.le
 subst hn
 refine V.calls (args:=[_,_]) Tryz.func3 rfl Tryz.ntmps3 rfl rfl ?_
 repeat (first|(refine TL.isAsg ?_;refine TL.pure rfl rfl ?_)|refine TL.nil ?_|refine thenQ_normal ?_|refine T.seq ?_|refine T.region ?_)
 refine TL.isFn 13 ?_
 refine TL.call (vs:=[]) rfl (lives_c w htab) rfl ?_
 rintro _ w1 ⟨rfl,hg1⟩
 repeat (first|(refine TL.isMove ?_;refine TL.pure rfl rfl ?_)|refine TL.nil ?_|refine thenQ_normal ?_|refine T.seq ?_|refine T.region ?_|refine T.cond_false rfl ?_|refine T.skip ?_|refine TL.pure rfl rfl ?_)
 refine TL.isFn 14 ?_
 refine TL.call rfl (small_c (hs.grow hg1) (ha.go (Carry.grow hg1)) rfl) rfl ?_
 rintro _ w2 ⟨rfl,hg2⟩
 have hg02:=hg1.trans hg2
 cases hsm:smallB l with
 | false =>
  repeat (first|refine TL.guard_skip rfl rfl rfl ?_|(refine TL.isMove ?_;refine TL.pure rfl rfl ?_)|(refine TL.isAsg ?_;refine TL.pure rfl rfl ?_)|refine TL.nil ?_|refine thenQ_normal ?_|refine T.seq ?_|refine T.region ?_|refine T.cond_true rfl ?_|refine T.ret ?_|refine thenQ_ret ?_|refine TL.pure rfl rfl ?_)
  exact ret1 rfl ⟨_,rfl,rfl,hg02⟩
 | true =>
  by_cases h40:40<l.length
  ·repeat (first|refine TL.guard_run rfl rfl rfl ?_|(refine TL.isMove ?_;refine TL.pure rfl rfl ?_)|(refine TL.isAsg ?_;refine TL.pure rfl rfl ?_)|refine TL.nil ?_|refine thenQ_normal ?_|refine T.seq ?_|refine T.region ?_|(refine TL.isBin ?_;refine TL.pureT rfl yD rfl ?_)|refine TL.len_slice rfl rfl ?_|refine T.cond_true rfl ?_|refine T.ret ?_|refine thenQ_ret ?_|refine TL.pure rfl rfl ?_)
   exact ret1 rfl ⟨_,rfl,rfl,hg02⟩
  repeat (first|refine TL.guard_run rfl rfl rfl ?_|(refine TL.isMove ?_;refine TL.pure rfl rfl ?_)|refine TL.nil ?_|refine thenQ_normal ?_|refine T.seq ?_|refine T.region ?_|(refine TL.isBin ?_;refine TL.pureF rfl yD rfl ?_)|refine TL.len_slice rfl rfl ?_|refine T.cond_false rfl ?_|refine T.skip ?_|refine TL.pure rfl rfl ?_)
  refine TL.isFn 15 ?_
  refine TL.call rfl (started_c 200 w2 (by omega) (by omega)) rfl ?_
  rintro _ w3 ⟨Lp,rfl,hLp,hpp,hg3⟩
  repeat (first|(refine TL.isMove ?_;refine TL.pure rfl rfl ?_)|(refine TL.isAsg ?_;refine TL.pure rfl rfl ?_)|refine TL.nil ?_|refine thenQ_normal ?_|refine T.seq ?_|refine T.region ?_|refine TL.pure rfl rfl ?_)
  refine TL.isFn 15 ?_
  refine TL.call rfl (started_c 200 w3 (by omega) (by omega)) rfl ?_
  rintro _ w4 ⟨Lq,rfl,hLq,hpq,hg4⟩
  repeat (first|(refine TL.isMakeMap ?_;refine TL.makeMapG (α:=Bs) (κ:=keyS) (ok:=okS) rfl ?_;intro m w5 hg5 hm5 hs5 hs5')|refine TL.guard_run rfl rfl rfl ?_|(refine TL.isMove ?_;refine TL.pure rfl rfl ?_)|(refine TL.isAsg ?_;refine TL.pure rfl rfl ?_)|refine TL.nil ?_|refine thenQ_normal ?_|refine T.seq ?_|refine T.region ?_|refine T.block ?_|refine T.cond_false rfl ?_|refine T.skip ?_|refine TL.pure rfl rfl ?_)
  have z1:=hg1.size
  have z2:=hg2.size
  have z3:=hg3.size
  have z4:=hg4.size
  have z5:=hg5.size
  have hg35:Grow w3 w5:=hg4.trans hg5
  have hg05:Grow w w5:=hg02.trans (hg3.trans hg35)
  have t5:TabAt w5:=htab.keep (hg05.block 0 htab.1) hg05.size
  have hpp5:PgW w5 Lp (pg0 200):=⟨hpp.grow hg35,t5,λ h=>by
   unfold PL.S at h
   have h00:=htab.1
   rcases h with h|h|h
   ·have:=hLp Lp.u (by simp);omega
   ·have:=hLp Lp.m (by simp);omega
   ·have:=hLp Lp.p (by simp);omega⟩
  have hpq5:PgW w5 Lq (pg0 200):=⟨hpq.grow hg5,t5,λ h=>by
   unfold PL.S at h
   have h00:=htab.1
   rcases h with h|h|h
   ·have:=hLq Lq.u (by simp);omega
   ·have:=hLq Lq.m (by simp);omega
   ·have:=hLq Lq.p (by simp);omega⟩
  have lp5:=hpp.lts
  have lq5:=hpq.lts
  have hs5F:=hs.grow hg05
  have ha5:=ha.go (Carry.grow hg05)
  have hsml:∀ x∈l,x.2.1.length≤100:=λ x hx=>by
   simp only [smallB,Bool.and_eq_true,decide_eq_true_eq,List.all_eq_true] at hsm
   exact (hsm.2 x hx).1
  clear hpp hpq hg35 hs ha hsm
  repeat (refine T.seq ?_)
  refine T.loop (S:=Nat×Value) (λ q=>[(11,.int .i64 (q.1:Int)),(10,q.2),(9,.map (some m)),(7,.pointer (some ⟨Lq.p,0,none⟩)),(5,.pointer (some ⟨Lp.p,0,none⟩)),(1,.int .i64 at_),(0,.slice a l.length c)])
   (λ q w6=>q.1≤l.length∧(∃ cells,w6.ownsRow w5.heap.size 30 1 q.2 (keysOf ((l.map (·.2.1)).take q.1)).length cells∧KyCells F0 w6 cells (keysOf ((l.map (·.2.1)).take q.1)))∧MapG keyS okS w6 m (setF (keysOf ((l.map (·.2.1)).take q.1)))∧ButS (λ k=>k=m) w5 w6)
   (λ q=>l.length-q.1) (0,.slice none 0 0) ⟨rfl,rfl,rfl,rfl,rfl,rfl,rfl,trivial⟩ ⟨Nat.zero_le _,⟨[],World.ownsRow_nil _ _ _ _,trivial⟩,hm5,ButS.refl _ _⟩ ?_
  rintro ⟨i,kv⟩ w6 ⟨hi,⟨cells,hown,hky⟩,hmp,hb6⟩
  simp only at hi hown hky hmp
  have z6:=hb6.size
  have hml:=hmp.lt
  have c56:Carry F0 w5 F0 w6:=Carry.buts hb6 (λ k hk _=>by have:=(hF0 k).1 hk;omega)
  by_cases hlt:i<l.length
  ·obtain ⟨x,hx⟩:∃ q,l[i]? = some q:=⟨_,List.getElem?_eq_getElem hlt⟩
   obtain ⟨kx,vx,f0,f1,f2,hkx,hvx⟩:=(ha5.go c56).at' hx
   obtain ⟨ka,kc,rfl,hks⟩:=hkx.sl
   have hs6:=hs5F.go c56
   have hcx1:w6.cell? (at' a (i*3+1))=some (.slice ka x.2.1.length kc):=hs6.row.cell f1
   have hxm:=List.mem_of_getElem? hx
   have hlen:=hsml x hxm
   have hxb:=hby x hxm
   have hok:okS x.2.1:=⟨hxb,by omega⟩
   have htk:(l.map (·.2.1)).take (i+1)=(l.map (·.2.1)).take i++[x.2.1]:=by rw [List.take_add_one,List.getElem?_map,hx];rfl
   have hkk:keysOf ((l.map (·.2.1)).take (i+1))=takeK (keysOf ((l.map (·.2.1)).take i)) x.2.1:=by rw [htk,keysOf_snoc]
   have hskip:¬ (keyOk x.2.1=true∧x.2.1∉keysOf ((l.map (·.2.1)).take i))→keysOf ((l.map (·.2.1)).take (i+1))=keysOf ((l.map (·.2.1)).take i):=λ h=>by rw [hkk];unfold takeK;rw [if_neg h]
   have hkl:=(keysOf_le ((l.map (·.2.1)).take i))
   have hkl2:=List.length_take_le i (l.map (·.2.1))
   by_cases h1:x.2.1.length<1
   ·have hno:¬ keyOk x.2.1=true:=λ e=>by have:=keyOk_len e;omega
    have hsk:=hskip (λ h=>hno h.1)
    repeat (first|(refine TL.isIndex ?_;refine TL.indexAddr (j:=i) rfl rfl rfl hlt rfl ⟨_,_,hs6⟩ rfl ?_)|(refine TL.isField ?_;refine TL.fieldSl (o:=i*3) rfl hs6 f0 rfl ?_)|refine TL.guard_skip rfl rfl rfl ?_|(refine TL.isMove ?_;refine TL.pure rfl rfl ?_)|(refine TL.isAsg ?_;refine TL.pure rfl rfl ?_)|refine TL.load1 rfl yM rfl ?_|(refine TL.isAdd ?_;refine TL.addN rfl rfl (by omega) rfl ?_)|refine TL.nil ?_|refine thenQ_normal ?_|refine T.seq ?_|refine T.region ?_|refine T.block ?_|refine blockQ_normal ?_|(refine TL.isBin ?_;first|refine TL.pureT rfl yD rfl ?_|refine TL.pureF rfl yD rfl ?_)|refine TL.len_slice rfl rfl ?_|refine T.cond_true rfl ?_|refine T.cond_false rfl ?_|refine T.skip ?_|refine TL.pure rfl rfl ?_)
    exact loopQ_normal (i+1,kv) ⟨rfl,rfl,rfl,rfl,rfl,rfl,rfl,trivial⟩ ⟨by simp only;omega,by simp only [hsk];exact ⟨cells,hown,hky⟩,by simp only [hsk];exact hmp,hb6⟩ (by simp only;omega)
   ·by_cases h2:16<x.2.1.length
    ·have hno:¬ keyOk x.2.1=true:=λ e=>by have:=keyOk_len e;omega
     have hsk:=hskip (λ h=>hno h.1)
     repeat (first|(refine TL.isIndex ?_;refine TL.indexAddr (j:=i) rfl rfl rfl hlt rfl ⟨_,_,hs6⟩ rfl ?_)|(refine TL.isField ?_;refine TL.fieldSl (o:=i*3) rfl hs6 f0 rfl ?_)|(refine TL.isGuard ?_;first|refine TL.guard_skip rfl rfl rfl ?_|refine TL.guard_run rfl rfl rfl ?_)|(refine TL.isMove ?_;refine TL.pure rfl rfl ?_)|(refine TL.isAsg ?_;refine TL.pure rfl rfl ?_)|refine TL.load1 rfl yM rfl ?_|(refine TL.isAdd ?_;refine TL.addN rfl rfl (by omega) rfl ?_)|refine TL.nil ?_|refine thenQ_normal ?_|refine T.seq ?_|refine T.region ?_|refine T.block ?_|refine blockQ_normal ?_|(refine TL.isBin ?_;first|refine TL.pureT rfl yD rfl ?_|refine TL.pureF rfl yD rfl ?_)|refine TL.len_slice rfl rfl ?_|refine T.cond_true rfl ?_|refine T.cond_false rfl ?_|refine T.skip ?_|refine TL.pure rfl rfl ?_)
     exact loopQ_normal (i+1,kv) ⟨rfl,rfl,rfl,rfl,rfl,rfl,rfl,trivial⟩ ⟨by simp only;omega,by simp only [hsk];exact ⟨cells,hown,hky⟩,by simp only [hsk];exact hmp,hb6⟩ (by simp only;omega)
    ·have hko:keyOk x.2.1=true:=by simp [keyOk];omega
     by_cases h3:x.2.1∈keysOf ((l.map (·.2.1)).take i)
     ·have hsk:=hskip (λ h=>h.2 h3)
      have hf:setF (keysOf ((l.map (·.2.1)).take i)) x.2.1=some (.int .i64 1):=by unfold setF;rw [if_pos h3]
      repeat (first|(refine TL.isIndex ?_;refine TL.indexAddr (j:=i) rfl rfl rfl hlt rfl ⟨_,_,hs6⟩ rfl ?_)|(refine TL.isField ?_;refine TL.fieldSl (o:=i*3) rfl hs6 f0 rfl ?_)|refine TL.convS rfl hks rfl ?_|(refine TL.isLookup ?_;refine TL.look1G (κ:=keyS) (ok:=okS) rfl rfl hmp hf hok rfl ?_)|refine TL.guard_run rfl rfl rfl ?_|(refine TL.isMove ?_;refine TL.pure rfl rfl ?_)|(refine TL.isAsg ?_;refine TL.pure rfl rfl ?_)|refine TL.load1 rfl yM rfl ?_|(refine TL.isAdd ?_;refine TL.addN rfl rfl (by omega) rfl ?_)|refine TL.nil ?_|refine thenQ_normal ?_|refine T.seq ?_|refine T.region ?_|refine T.block ?_|refine blockQ_normal ?_|(refine TL.isBin ?_;first|refine TL.pureT rfl yD rfl ?_|refine TL.pureF rfl yD rfl ?_)|refine TL.len_slice rfl rfl ?_|refine T.cond_true rfl ?_|refine T.cond_false rfl ?_|refine T.skip ?_|refine TL.pure rfl rfl ?_)
      exact loopQ_normal (i+1,kv) ⟨rfl,rfl,rfl,rfl,rfl,rfl,rfl,trivial⟩ ⟨by simp only;omega,by simp only [hsk];exact ⟨cells,hown,hky⟩,by simp only [hsk];exact hmp,hb6⟩ (by simp only;omega)
     ·have hkk2:keysOf ((l.map (·.2.1)).take (i+1))=keysOf ((l.map (·.2.1)).take i)++[x.2.1]:=by rw [hkk];unfold takeK;rw [if_pos ⟨hko,h3⟩]
      have hf:setF (keysOf ((l.map (·.2.1)).take i)) x.2.1=none:=by unfold setF;rw [if_neg h3]
      repeat (first|(refine TL.isIndex ?_;refine TL.indexAddr (j:=i) rfl rfl rfl hlt rfl ⟨_,_,hs6⟩ rfl ?_)|(refine TL.isField ?_;refine TL.fieldSl (o:=i*3) rfl hs6 f0 rfl ?_)|refine TL.convS rfl hks rfl ?_|(refine TL.isLookup ?_;refine TL.look1NoG (κ:=keyS) (ok:=okS) rfl rfl hmp hf hok rfl ?_)|(refine TL.isMapUp ?_;refine TL.updateG (κ:=keyS) (ok:=okS) rfl rfl rfl hmp hok ?_;intro w7 hu7 hmp7)|refine TL.guard_run rfl rfl rfl ?_|(refine TL.isMove ?_;refine TL.pure rfl rfl ?_)|(refine TL.isAsg ?_;refine TL.pure rfl rfl ?_)|refine TL.load1 rfl yM rfl ?_|refine TL.nil ?_|refine thenQ_normal ?_|refine T.seq ?_|refine T.region ?_|refine T.block ?_|(refine TL.isBin ?_;refine TL.pureT rfl yD rfl ?_)|refine TL.len_slice rfl rfl ?_|refine T.cond_true rfl ?_|refine T.skip ?_|refine TL.pure rfl rfl ?_)
      have hks7:BsAt F0 w7 (.slice ka x.2.1.length kc) x.2.1:=hkx.go (Carry.upd hu7 (λ k hk _=>by have:=(hF0 k).1 hk;omega))
      have hown7:=own_upd hown hu7 (by omega)
      have hky7:=hky.go (Carry.upd hu7 (λ k hk _=>by have:=(hF0 k).1 hk;omega):Carry F0 w6 F0 w7)
      have z7:=hu7.size
      refine TL.buildSlice rfl rfl rfl rfl rfl ?_
      intro b8 w8 hg8 hb8 hs8 hs8' hs8''
      have hsl8:Sl (λ k=>k=b8) w8 1 (some ⟨b8,0,none⟩) 1 1 [.slice ka x.2.1.length kc]:=sl_of_blk (sz:=1) (m:=1) (show Blk w8 b8 30 [.slice ka x.2.1.length kc] from hb8) rfl (by decide)
      refine TL.append rfl rfl (own_grow hown7 hg8) hsl8 (λ u hu=>by rw [List.mem_singleton] at hu;subst hu;rfl) (by unfold maxLen;omega) (by omega) (by omega) rfl ?_
      intro v9 w9 hown9 hgb9 _
      have hlt9:=(own_grow hown7 hg8).lt
      have c9:Carry F0 w7 F0 w9:=(Carry.grow hg8).trans ⟨hgb9.size,λ k hk hl=>⟨hk,hgb9.block k hl (λ e=>by have:=hlt9 k e.symm;have:=(hF0 k).1 hk;omega)⟩⟩
      have hmp9:MapG keyS okS w9 m (upG (setF (keysOf ((l.map (·.2.1)).take i))) x.2.1 (.int .i64 1)):=(hmp7.grow hg8).keep (hgb9.block m (by have:=hg8.size;omega) (λ e=>by have:=hlt9 m e.symm;omega))
      have hb9:ButS (λ k=>k=m) w5 w9:=by
       have h67:ButS (λ k=>k=m) w5 w7:=⟨hu7.os.trans hb6.os,hu7.tape.trans hb6.tape,hu7.output.trans hb6.output,by omega,λ k hk hkm=>(hu7.block k hkm).trans (hb6.block k hk hkm)⟩
       exact (h67.trans (ButS.grow hg8)).own hgb9 (λ k hk=>(hlt9 k hk).1) (Nat.le_refl _)
      repeat (first|(refine TL.isMove ?_;refine TL.pure rfl rfl ?_)|(refine TL.isAsg ?_;refine TL.pure rfl rfl ?_)|(refine TL.isAdd ?_;refine TL.addN rfl rfl (by omega) rfl ?_)|refine TL.nil ?_|refine thenQ_normal ?_|refine T.region ?_|refine blockQ_normal ?_)
      refine loopQ_normal (i+1,v9) ⟨rfl,rfl,rfl,rfl,rfl,rfl,rfl,trivial⟩ ⟨by simp only;omega,?_,?_,hb9⟩ (by simp only;omega)
      ·simp only [hkk2]
       refine ⟨cells++[.slice ka x.2.1.length kc],by simpa only [List.length_append,List.length_cons,List.length_nil] using hown9,(hky7.go c9).append ⟨hks7.go c9,trivial⟩⟩
      ·simp only [hkk2]
       rw [← setF_snoc]
       exact hmp9
  ·have hi2:i=l.length:=by omega
   subst hi2
   rw [List.take_of_length_le (by simp)] at hown hky hmp
   obtain ⟨ks,hks⟩:∃ q,q=keysOf (l.map (·.2.1)):=⟨_,rfl⟩
   rw [← hks] at hown hky hmp
   have hkn:=keysOf_ok (l.map (·.2.1))
   have hkle:=keysOf_le (l.map (·.2.1))
   rw [List.length_map] at hkle
   rw [← hks] at hkn hkle
   have hkby:∀ k∈ks,byB k:=λ k hk=>by
    rw [hks] at hk
    have:=keysOf_mem hk
    obtain ⟨x,hx,rfl⟩:=List.mem_map.1 this
    exact hby x hx
   obtain ⟨hknd,hkok⟩:=hkn
   obtain ⟨ka,kc,rfl,hrow⟩:=sl_of_own hown
   obtain ⟨Fk,hFk⟩:∃ Fk:Nat→Prop,∀ k,Fk k↔w5.heap.size≤k∨k<w.heap.size:=⟨_,λ _=>Iff.rfl⟩
   have hrow6:Sl Fk w6 1 ka ks.length kc cells:=hrow.mono (λ k hk=>(hFk k).2 (.inl hk.1))
   have hky6:KyCells Fk w6 cells ks:=hky.go (Carry.mono λ k hk _=>(hFk k).2 (.inr ((hF0 k).1 hk)))
   have hFp:∀ k,Fk k→¬ Lp.S k:=λ k hk hS=>by
    unfold PL.S at hS
    have h1:=hLp k (by rcases hS with h|h|h<;>simp [h])
    have h2:=(hFk k).1 hk
    rcases hS with rfl|rfl|rfl<;>omega
   have hFq:∀ k,Fk k→¬ Lq.S k:=λ k hk hS=>by
    unfold PL.S at hS
    have h1:=hLq k (by rcases hS with h|h|h<;>simp [h])
    have h2:=(hFk k).1 hk
    rcases hS with rfl|rfl|rfl<;>omega
   have hpq:∀ b,b=Lq.p∨b=Lq.d∨b=Lq.u∨b=Lq.m→¬ Lp.S b:=λ b hb hS=>by
    unfold PL.S at hS
    have h1:=hLq b hb
    rcases hS with rfl|rfl|rfl<;>omega
   have hqp:∀ b,b=Lp.p∨b=Lp.d∨b=Lp.u∨b=Lp.m→¬ Lq.S b:=λ b hb hS=>by
    unfold PL.S at hS
    have h1:=hLq b (by rcases hS with h|h|h<;>simp [h])
    rcases hb with rfl|rfl|rfl|rfl<;>omega
   have hpm:∀ b,b=Lp.p∨b=Lp.d∨b=Lp.u∨b=Lp.m→¬ b=m:=λ b hb e=>by rcases hb with rfl|rfl|rfl|rfl<;>omega
   have hqm:∀ b,b=Lq.p∨b=Lq.d∨b=Lq.u∨b=Lq.m→¬ b=m:=λ b hb e=>by rcases hb with rfl|rfl|rfl|rfl<;>omega
   have hpp6:PgW w6 Lp (pg0 200):=hpp5.other hb6 hpm (by have:=htab.1;omega)
   have hpq6:PgW w6 Lq (pg0 200):=hpq5.other hb6 hqm (by have:=htab.1;omega)
   clear hown hky hmp hrow hm5 hpp5 hpq5 ha5 c56 hsml hlt hi
   repeat (first|(refine TL.isMove ?_;refine TL.pure rfl rfl ?_)|(refine TL.isAsg ?_;refine TL.pure rfl rfl ?_)|refine TL.nil ?_|refine thenQ_normal ?_|refine T.seq ?_|refine T.region ?_|refine T.block ?_|(refine TL.isBin ?_;refine TL.pureF rfl yD rfl ?_)|refine TL.len_slice rfl rfl ?_|refine T.cond_false rfl ?_|refine T.exit ?_|refine thenQ_exit ?_|refine blockQ_hit ?_|refine loopQ_exit ?_)
   refine T.loop (S:=Nat×Option Nat×Option Nat×Pg×Pg) (λ q=>[(15,.int .i64 (q.1:Int)),(14,.int .i64 (rootI q.2.2.1)),(13,.int .i64 (rootI q.2.1)),(10,.slice ka ks.length kc),(7,.pointer (some ⟨Lq.p,0,none⟩)),(5,.pointer (some ⟨Lp.p,0,none⟩)),(1,.int .i64 at_)])
    (λ q w7=>q.1≤ks.length∧PgW w7 Lp q.2.2.2.1∧PgW w7 Lq q.2.2.2.2∧(∃ lv ps,TrAt q.2.2.2.1 q.2.1 lv (putAll (ks.take q.1)) ps∧200≤spareP q.2.2.2.1+ps.length+3*q.1)∧(∃ lv ps,TrAt q.2.2.2.2 q.2.2.1 lv (putAll (ks.reverse.take q.1)) ps∧200≤spareP q.2.2.2.2+ps.length+3*q.1)∧ButS (λ k=>Lp.S k∨Lq.S k) w6 w7)
    (λ q=>ks.length-q.1) (0,none,none,pg0 200,pg0 200) ⟨rfl,rfl,rfl,rfl,rfl,rfl,rfl,trivial⟩
    ⟨Nat.zero_le _,hpp6,hpq6,⟨0,[],⟨rfl,rfl,rfl⟩,by simp only [spare_pg0];omega⟩,⟨0,[],⟨rfl,rfl,rfl⟩,by simp only [spare_pg0];omega⟩,ButS.refl _ _⟩ ?_
   clear hpp6 hpq6
   rintro ⟨i,ra,rb,gp,gq⟩ w7 ⟨hi,hp7,hq7,⟨lva,psa,hta,hsa⟩,⟨lvb,psb,htb,hsb⟩,hb7⟩
   simp only at hi hp7 hq7 hta hsa htb hsb
   have z7:=hb7.size
   have hla:=putAll_le (ks.take i)
   have hla2:=List.length_take_le i ks
   have hlb:=putAll_le (ks.reverse.take i)
   have hlb2:=List.length_take_le i ks.reverse
   have hlva:lva≤3:=hta.levels (k:=3) (by omega) (by omega)
   have hlvb:lvb≤3:=htb.levels (k:=3) (by omega) (by omega)
   have hpa:=hta.pages
   have hpb:=htb.pages
   have hFb:∀ k,Fk k→k<w6.heap.size→¬ (Lp.S k∨Lq.S k):=λ k hk _ h=>h.elim (hFp k hk) (hFq k hk)
   have c67:Carry Fk w6 Fk w7:=Carry.buts hb7 hFb
   by_cases hlt:i<ks.length
   ·obtain ⟨k1,hk1⟩:∃ q,ks[i]? = some q:=⟨_,List.getElem?_eq_getElem hlt⟩
    obtain ⟨k2,hk2⟩:∃ q,ks[ks.length-1-i]? = some q:=⟨_,List.getElem?_eq_getElem (by omega)⟩
    have ht1:ks.take (i+1)=ks.take i++[k1]:=by rw [List.take_add_one,hk1];rfl
    have ht2:ks.reverse.take (i+1)=ks.reverse.take i++[k2]:=by rw [List.take_add_one,List.getElem?_reverse hlt,hk2];rfl
    have hrow7:=hrow6.go c67
    obtain ⟨kv1,f1,hb1⟩:=(hky6.go c67).at' hk1
    obtain ⟨kv2,f2,hb2⟩:=(hky6.go c67).at' hk2
    have m1:=List.mem_of_getElem? hk1
    have m2:=List.mem_of_getElem? hk2
    obtain ⟨a1,c1,rfl,hs1⟩:=hb1.sl
    have hcx:w7.cell? (at' ka i)=some (.slice a1 k1.length c1):=hrow7.row.cell f1
    have hput:=lput_c hp7 hta (by omega) (by omega) _ k1 (hb1.go (Carry.mono λ k hk _=>hFp k hk)) (hkok k1 m1) (hkby k1 m1)
    repeat (first|(refine TL.isIndex ?_;refine TL.indexAddr (j:=i) rfl rfl rfl hlt (Nat.mul_one _) ⟨_,_,hrow7⟩ rfl ?_)|(refine TL.isMove ?_;refine TL.pure rfl rfl ?_)|refine TL.load1 rfl yM rfl ?_|refine TL.nil ?_|refine thenQ_normal ?_|refine T.seq ?_|refine T.region ?_|refine T.block ?_|(refine TL.isBin ?_;refine TL.pureT rfl yD rfl ?_)|refine TL.len_slice rfl rfl ?_|refine T.cond_true rfl ?_|refine T.skip ?_)
    refine TL.isFn 16 ?_
    refine TL.call rfl hput rfl ?_
    rintro _ w8 ⟨n1,gp',lva',psa',rfl,hp8,hx8,hta',e1,e2,hb8⟩
    have hq8:PgW w8 Lq gq:=hq7.other hb8 hpq hp7.ne0
    have c78:Carry Fk w7 Fk w8:=Carry.buts hb8 (λ k hk _=>hFp k hk)
    have hrow8:=hrow7.go c78
    have hb28:=hb2.go c78
    obtain ⟨a2,c2,rfl,hs2⟩:=hb28.sl
    have hcx2:w8.cell? (at' ka (ks.length-1-i))=some (.slice a2 k2.length c2):=hrow8.row.cell f2
    have hput2:=lput_c hq8 htb (by omega) (by omega) _ k2 (hb28.go (Carry.mono λ k hk _=>hFq k hk)) (hkok k2 m2) (hkby k2 m2)
    clear hcx hput
    repeat (first|(refine TL.isIndex ?_;refine TL.indexAddr (j:=ks.length-1-i) rfl rfl (by omega) (by omega) (Nat.mul_one _) ⟨_,_,hrow8⟩ rfl ?_)|(refine TL.isMove ?_;refine TL.pure rfl rfl ?_)|(refine TL.isAsg ?_;refine TL.pure rfl rfl ?_)|refine TL.load1 rfl yM rfl ?_|(refine TL.isSub ?_;refine TL.subN rfl rfl (by omega) (by omega) rfl ?_)|refine TL.nil ?_|refine thenQ_normal ?_|refine T.region ?_|refine TL.len_slice rfl rfl ?_)
    refine TL.isFn 16 ?_
    refine TL.call rfl hput2 rfl ?_
    rintro _ w9 ⟨n2,gq',lvb',psb',rfl,hq9,hx9,htb',e3,e4,hb9⟩
    have hp9:PgW w9 Lp gp':=hp8.other hb9 hqp hq8.ne0
    repeat (first|(refine TL.isMove ?_;refine TL.pure rfl rfl ?_)|(refine TL.isAsg ?_;refine TL.pure rfl rfl ?_)|(refine TL.isAdd ?_;refine TL.addN rfl rfl (by omega) rfl ?_)|refine TL.nil ?_|refine thenQ_normal ?_|refine T.region ?_|refine blockQ_normal ?_)
    refine loopQ_normal (i+1,some n1,some n2,gp',gq') ⟨rfl,rfl,rfl,rfl,rfl,rfl,rfl,trivial⟩ ⟨by simp only;omega,hp9,hq9,⟨lva',psa',by simp only [ht1,putAll_snoc];exact hta',by simp only;omega⟩,⟨lvb',psb',by simp only [ht2,putAll_snoc];exact htb',by simp only;omega⟩,?_⟩ (by simp only;omega)
    exact (hb7.trans (hb8.sub λ k h=>.inl h)).trans (hb9.sub λ k h=>.inr h)
   ·have hi2:i=ks.length:=by omega
    subst hi2
    rw [List.take_length] at hta
    rw [List.take_of_length_le (by simp),putAll_rev] at htb
    have hlen:=putAll_len hknd
    have hga:Grow w w6:=grow_buts (hg05) (hb6) (by omega)
    have hg7:Grow w w7:=grow_many hga hb7 λ k hk=>by
     rcases hk with hk|hk
     ·exact (by have:=hLp k (by unfold PL.S at hk;rcases hk with h|h|h<;>simp [h]);omega)
     ·exact (by have:=hLq k (by unfold PL.S at hk;rcases hk with h|h|h<;>simp [h]);omega)
    obtain ⟨P,hP⟩:∃ q,q=putAll ks:=⟨_,rfl⟩
    rw [← hP] at hta htb hlen
    have hT1:=told_c hp7.at_ hta (by omega) (by omega)
    rw [hlen] at hT1
    have hne:(((ks.length:Nat):Int) != ((ks.length:Nat):Int))=false:=by simp
    repeat (first|(refine TL.isMove ?_;refine TL.pure rfl rfl ?_)|refine TL.nil ?_|refine thenQ_normal ?_|refine T.seq ?_|refine T.region ?_|(refine TL.isBin ?_;refine TL.pureF rfl yD rfl ?_)|refine TL.len_slice rfl rfl ?_|refine T.cond_false rfl ?_|refine T.exit ?_|refine thenQ_exit ?_|refine blockQ_hit ?_|refine loopQ_exit ?_)
    refine TL.isFn 17 ?_
    refine TL.call rfl hT1 rfl ?_
    rintro _ w8 ⟨rfl,hg8⟩
    have hT2:=told_c (hq7.grow hg8).at_ htb (by omega) (by omega)
    rw [hlen] at hT2
    repeat (first|(refine TL.isMove ?_;refine TL.pure rfl rfl ?_)|(refine TL.isAsg ?_;refine TL.pure rfl rfl ?_)|refine TL.nil ?_|refine thenQ_normal ?_|refine T.seq ?_|refine T.region ?_|refine TL.pure rfl rfl ?_)
    refine TL.isFn 17 ?_
    refine TL.call rfl hT2 rfl ?_
    rintro _ w9 ⟨rfl,hg9⟩
    have hg79:=hg8.trans hg9
    by_cases hk0:ks.length=0
    ·repeat (first|(refine TL.isBin ?_;refine TL.neS (s:=txt (toldB P)) (t:=txt (toldB P)) (b:=false) rfl rfl (by simp) rfl ?_)|refine TL.guard_run rfl rfl rfl ?_|(refine TL.isMove ?_;refine TL.pure rfl rfl ?_)|(refine TL.isAsg ?_;refine TL.pure rfl rfl ?_)|refine TL.nil ?_|refine thenQ_normal ?_|refine T.seq ?_|refine T.region ?_|(refine TL.isBin ?_;first|refine TL.pureT rfl yD rfl ?_|refine TL.pureF rfl yD rfl ?_)|refine TL.len_slice rfl rfl ?_|refine T.cond_true rfl ?_|refine T.cond_false rfl ?_|refine T.ret ?_|refine T.skip ?_|refine thenQ_ret ?_|refine TL.pure rfl rfl ?_)
     exact ret1 rfl ⟨_,rfl,rfl,hg7.trans hg79⟩
    have hnz:(((ks.length:Nat):Int)==0)=false:=by rw [beq_eq_false_iff_ne];omega
    repeat (first|(refine TL.isBin ?_;refine TL.neS (s:=txt (toldB P)) (t:=txt (toldB P)) (b:=false) rfl rfl (by simp) rfl ?_)|refine TL.guard_run rfl rfl rfl ?_|(refine TL.isMove ?_;refine TL.pure rfl rfl ?_)|(refine TL.isAsg ?_;refine TL.pure rfl rfl ?_)|refine TL.nil ?_|refine thenQ_normal ?_|refine T.seq ?_|refine T.region ?_|(refine TL.isBin ?_;refine TL.pureF rfl yD rfl ?_)|refine TL.len_slice rfl rfl ?_|refine T.cond_false rfl ?_|refine T.skip ?_|refine TL.pure rfl rfl ?_)
    have hp9:=hp7.grow hg79
    have z9:=hg79.size
    have c69:Carry Fk w6 Fk w9:=c67.trans (Carry.grow hg79)
    refine TL.isFn 18 ?_
    refine TL.call rfl (pick_c at_ ks.length (by omega) (by omega) _) rfl ?_
    rintro _ w9' ⟨⟨r,rfl,hr⟩,rfl⟩
    obtain ⟨k1,hk1⟩:∃ q,ks[r]? = some q:=⟨_,List.getElem?_eq_getElem hr⟩
    have hrow9:=hrow6.go c69
    obtain ⟨kv1,f1,hb1⟩:=(hky6.go c69).at' hk1
    have m1:=List.mem_of_getElem? hk1
    obtain ⟨a1,c1,rfl,hs1⟩:=hb1.sl
    have hcx:w9'.cell? (at' ka r)=some (.slice a1 k1.length c1):=hrow9.row.cell f1
    have hkl1:=keyOk_len (hkok k1 m1)
    have hmP:∃ x∈P,x.1=k1:=⟨(k1,k1),by rw [hP,putAll_iff];exact ⟨m1,rfl⟩,rfl⟩
    obtain ⟨na,rfl⟩:∃ n,ra=some n:=by
     cases ra with
     | none=>obtain ⟨x,hx,_⟩:=hmP;rw [hta.2.1] at hx;cases hx
     | some n=>exact ⟨n,rfl⟩
    repeat (first|(refine TL.isIndex ?_;refine TL.indexAddr (j:=r) rfl rfl rfl hr (Nat.mul_one _) ⟨_,_,hrow9⟩ rfl ?_)|(refine TL.isMove ?_;refine TL.pure rfl rfl ?_)|(refine TL.isAsg ?_;refine TL.pure rfl rfl ?_)|refine TL.load1 rfl yM rfl ?_|refine TL.nil ?_|refine thenQ_normal ?_|refine T.seq ?_|refine T.region ?_)
    refine TL.isFn 20 ?_
    refine TL.call rfl (own_c _ a1 k1.length c1 k1 _ hs1 (by omega)) rfl ?_
    rintro v10 w10 ⟨hv10,hg10⟩
    obtain ⟨a10,c10,rfl,hs10⟩:=sl_of_own hv10
    have hp10:=hp9.grow hg10
    have hSl:∀ k,w9'.heap.size≤k→¬ Lp.S k:=λ k hk=>by have:=hp9.at_.lts;unfold PL.S;omega
    obtain ⟨fr,r1,g1,lv1,ps1,d1,d2,d3,d4,d5,d6,d7⟩:=del_tr (key:=k1) hp9.at_.ok hta hmP (by omega) (by omega)
    repeat (refine T.seq ?_)
    refine TL.isFn 19 ?_
    refine TL.call rfl (delete_c hp10.at_ hp10.tab hp10.ne0 na _ k1.length c10 k1 (hs10.mono (λ k hk=>hSl k hk.1)) (hkok k1 m1) (by omega) fr d1 r1 d2) rfl ?_
    rintro _ w11 ⟨rfl,hpg11,hbs11⟩
    have hp11:=hp10.put hpg11 hbs11
    have hdl:=delI_there hta.srt hmP
    have hlv1:lv1≤3:=d5.levels (k:=3) (by omega) (by omega)
    have hT3:=told_c hp11.at_ d5 (by omega) (by omega)
    rw [show (delI k1 P).length=ks.length-1 by omega] at hT3
    have c911:Carry Fk w9' Fk w11:=(Carry.grow hg10).trans (Carry.buts hbs11 (λ k hk _=>hFp k hk))
    repeat (first|(refine TL.isMove ?_;refine TL.pure rfl rfl ?_)|(refine TL.isAsg ?_;refine TL.pure rfl rfl ?_)|refine TL.nil ?_|refine thenQ_normal ?_|refine T.seq ?_|refine T.region ?_|(refine TL.isBin ?_;refine TL.pureF rfl yD rfl ?_)|refine T.cond_false rfl ?_|refine T.skip ?_|refine TL.pure rfl rfl ?_)
    refine TL.isFn 17 ?_
    refine TL.call rfl hT3 rfl ?_
    rintro _ w12 ⟨rfl,hg12⟩
    have hp12:=hp11.grow hg12
    have hb12:=hb1.go (c911.trans (Carry.grow hg12))
    have hput:=lput_c hp12 d5 (by omega) (by omega) _ k1 (hb12.go (Carry.mono λ k hk _=>hFp k hk)) (hkok k1 m1) (hkby k1 m1)
    repeat (first|(refine TL.isMove ?_;refine TL.pure rfl rfl ?_)|(refine TL.isAsg ?_;refine TL.pure rfl rfl ?_)|refine TL.nil ?_|refine thenQ_normal ?_|refine T.seq ?_|refine T.region ?_|refine TL.pure rfl rfl ?_)
    refine TL.isFn 16 ?_
    refine TL.call rfl hput rfl ?_
    rintro _ w13 ⟨n1,g2,lv2,ps2,rfl,hp13,hx13,ht13,e1,e2,hb13⟩
    have c1213:Carry Fk w12 Fk w13:=Carry.buts hb13 (λ k hk _=>hFp k hk)
    have hta2:=hta.ext (d3.trans hx13)
    have hput2:=lput_c hp13 hta2 (by omega) (by omega) _ k1 ((hb12.go c1213).go (Carry.mono λ k hk _=>hFp k hk)) (hkok k1 m1) (hkby k1 m1)
    repeat ((refine TL.isMove ?_;refine TL.pure rfl rfl ?_))
    refine TL.isFn 16 ?_
    refine TL.call rfl hput2 rfl ?_
    rintro _ w14 ⟨n2,g3,lv3,ps3,rfl,hp14,hx14,ht14,e3,e4,hb14⟩
    have ht13':=ht13.ext hx14
    have hta3:=hta2.ext hx14
    rw [hP,putAll_back m1,← hP] at ht13'
    rw [hP,putAll_again m1,← hP] at ht14
    have hl13:lv2≤3:=ht13'.levels (k:=3) (by omega) (by omega)
    have hl14:lv3≤3:=ht14.levels (k:=3) (by omega) (by omega)
    have hT4:=told_c hp14.at_ ht13' (by omega) (by omega)
    repeat (first|(refine TL.isMove ?_;refine TL.pure rfl rfl ?_)|(refine TL.isAsg ?_;refine TL.pure rfl rfl ?_)|refine TL.nil ?_|refine thenQ_normal ?_|refine T.seq ?_|refine T.region ?_)
    refine TL.isFn 17 ?_
    refine TL.call rfl hT4 rfl ?_
    rintro _ w15 ⟨rfl,hg15⟩
    have hT5:=told_c (hp14.grow hg15).at_ ht14 (by omega) (by omega)
    repeat (first|(refine TL.isMove ?_;refine TL.pure rfl rfl ?_)|(refine TL.isAsg ?_;refine TL.pure rfl rfl ?_)|refine TL.nil ?_|refine thenQ_normal ?_|refine T.seq ?_|refine T.region ?_|refine TL.pure rfl rfl ?_)
    refine TL.isFn 17 ?_
    refine TL.call rfl hT5 rfl ?_
    rintro _ w16 ⟨rfl,hg16⟩
    have hT6:=told_c (hp14.grow (hg15.trans hg16)).at_ hta3 (by omega) (by omega)
    repeat (first|(refine TL.isMove ?_;refine TL.pure rfl rfl ?_)|(refine TL.isAsg ?_;refine TL.pure rfl rfl ?_)|refine TL.nil ?_|refine thenQ_normal ?_|refine T.seq ?_|refine T.region ?_|refine TL.pure rfl rfl ?_)
    refine TL.isFn 17 ?_
    refine TL.call rfl hT6 rfl ?_
    rintro _ w17 ⟨rfl,hg17⟩
    repeat (first|(refine TL.isBin ?_;refine TL.eqS (s:=txt (toldB P)) (t:=txt (toldB P)) (b:=true) rfl rfl (by simp) rfl ?_)|refine TL.guard_run rfl rfl rfl ?_|(refine TL.isMove ?_;refine TL.pure rfl rfl ?_)|(refine TL.isAsg ?_;refine TL.pure rfl rfl ?_)|(refine TL.isSub ?_;refine TL.subN rfl rfl (by omega) (by omega) rfl ?_)|refine TL.nil ?_|refine thenQ_normal ?_|refine T.seq ?_|refine T.region ?_|(refine TL.isBin ?_;refine TL.pureT rfl yD rfl ?_)|refine T.ret ?_|refine TL.pure rfl rfl ?_)
    have hLp0:∀ b,b=Lp.p∨b=Lp.d∨b=Lp.u∨b=Lp.m→w.heap.size≤b:=λ b hb=>by have:=hLp b hb;omega
    have q11:=grow_pg (hg7.trans hg79) hg10 hbs11 hLp0
    have q13:=grow_pg q11 hg12 hb13 hLp0
    have q14:=grow_pg q13 (Grow.refl _) hb14 hLp0
    exact ret1 rfl ⟨_,rfl,rfl,((q14.trans hg15).trans hg16).trans hg17⟩
end Go.Proofs.YtfpadnmdafiddaaGreatDoor
