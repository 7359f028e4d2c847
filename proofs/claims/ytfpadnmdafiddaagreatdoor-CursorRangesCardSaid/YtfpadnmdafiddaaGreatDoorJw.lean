import Derived.Test.YtfpadnmdafiddaaGreatDoorJ0
import Derived.Test.YtfpadnmdafiddaaGreatDoorJv
set_option linter.all false
set_option maxHeartbeats 16000000
set_option maxRecDepth 100000
namespace Go.Proofs.YtfpadnmdafiddaaGreatDoor
open Go Go.RowKit Go.V
theorem ranges_c {w:World} {a:Option Addr} {n c:Nat} {l:bQ} (v0:TabAt w) (h0:ItsAt (λ k=>k<w.heap.size) w a n c l) (c6:∀ x∈l,fL x.1∧fL x.2) (fa ta ca:Option Addr) (fn fc tn tc cn cc:Nat) (fr to cut:Bs) (back:Bool) (most:Int) (hf:Sl (λ k=>k<w.heap.size) w 1 fa fn fc (bB fr)) (m4:Sl (λ k=>k<w.heap.size) w 1 ta tn tc (bB to)) (h1:Sl (λ k=>k<w.heap.size) w 1 ca cn cc (bB cut)) (b7:fL fr) (s6:fL to) (x5:most≤9223372036854775807) :
  Calls Tryz.prog 9 #[.slice a n c,.agg #[.slice fa fn fc,.slice ta tn tc,.bool back,.int .i64 most],.slice ca cn cc] w (Ret λ v w'=>v=.bool true∧Grow w w'):=by
 have a7:fn=fr.length:=by have:=hf.len;rw [bB,List.length_map] at this;omega
 have r6:tn=to.length:=by have:=m4.len;rw [bB,List.length_map] at this;omega
 have d7:cn=cut.length:=by have:=h1.len;rw [bB,List.length_map] at this;omega
 have m8:=hf.le;have y7:=m4.le;have h8:=h1.le;subst a7;subst r6;subst d7;refine V.calls (args:=[_,_,_]) Tryz.func9 rfl Tryz.ntmps9 rfl rfl ?_;repeat (first|refine aF ?_|refine yI λ bk w' hg y1 j2 x0=>?_)
 refine aB 51 ?_;refine aA (vs:=[]) rfl (lives13v_c _ (v0.keep (hg.block 0 v0.1) hg.size)) rfl ?_;rintro _ w2 ⟨rfl,v4⟩;have u0:=hg.trans v4;have k5:=y1.grow v4;obtain ⟨b5,rfl⟩:=yE bk;have q5:w.heap.size≤b5∧b5<w2.heap.size:=by have:=k5.lt;omega
 clear y1 hg v4 j2 x0;have a0:=h0.go (Carry.grow u0)
 cases hl:lightB l with
 | false =>
  repeat (first|(refine aB 52 ?_;refine aA rfl (light_b a0 hl) rfl ?_;rintro _ _ ⟨rfl,rfl⟩)|refine yC ?_)
  exact bA rfl ⟨_,rfl,rfl,u0⟩
 | true =>
 by_cases c7:16<fr.length
 ·repeat (first|(refine aB 52 ?_;refine aA rfl (light_b a0 hl) rfl ?_;rintro _ _ ⟨rfl,rfl⟩)|refine yC ?_)
  exact bA rfl ⟨_,rfl,rfl,u0⟩
 by_cases t6:16<to.length
 ·repeat (first|(refine aB 52 ?_;refine aA rfl (light_b a0 hl) rfl ?_;rintro _ _ ⟨rfl,rfl⟩)|refine yC ?_)
  exact bA rfl ⟨_,rfl,rfl,u0⟩
 by_cases k7:16<cut.length
 ·repeat (first|(refine aB 52 ?_;refine aA rfl (light_b a0 hl) rfl ?_;rintro _ _ ⟨rfl,rfl⟩)|refine yC ?_)
  exact bA rfl ⟨_,rfl,rfl,u0⟩
 by_cases j8:most<0
 ·repeat (first|(refine aB 52 ?_;refine aA rfl (light_b a0 hl) rfl ?_;rintro _ _ ⟨rfl,rfl⟩)|refine yC ?_)
  exact bA rfl ⟨_,rfl,rfl,u0⟩
 obtain ⟨g3,i3⟩:=light_of hl;repeat (first|(refine aB 52 ?_;refine aA rfl (light_b a0 hl) rfl ?_;rintro _ _ ⟨rfl,rfl⟩)|refine yC ?_)
 refine aB 53 ?_;refine aA rfl (planted_c (v0.keep (u0.block 0 v0.1) u0.size) a0 c6 g3 i3) rfl ?_;rintro _ w8 ⟨L,R0,f0,g,lv,ps,rfl,u5,x4,u6,j0,k8,u4⟩;have m3:=u0.trans u4;have j5:=k5.grow u4;have q1:=plantL_by c6;have f3:(iD l).length≤60:=Nat.le_trans (plantL_len l) g3;obtain ⟨al,f6⟩:∃ al,al=iD l:=⟨_,rfl⟩
 rw [← f6] at j0 q1 f3;have c4:=u5.pw;clear k5 a0 x4 u6 f6 u5;obtain ⟨M,hM,hd,_⟩:=tree_tr j0 oM;have v6:∀ n,f0=some n→n<4294967296:=λ n e=>by subst e;have:=j0.lt c4.at_.ok;omega
 repeat refine aF ?_
 refine aB 27 ?_;refine aA rfl (all_c c4.at_ v6 hM al oM hd (λ e=>j0.empty.1 e)) rfl ?_;rintro _ wB ⟨⟨aa,ac,rfl,a5⟩,h4⟩;have o0:=m3.trans h4;have h5:=j5.grow h4;have o2:=c4.grow h4;have t0:ItsAt (λ k=>w8.heap.size≤k∧k<wB.heap.size) wB aa al.length ac al:=a5.go (Carry.mono λ k hk y0=>⟨hk,y0⟩);have zB:=h4.size;have z8:=m3.size;have fF:∀ {w'},Grow wB w'→Sl (λ k=>k<w.heap.size) w' 1 fa fr.length fc (bB fr):=λ gq=>(hf.grow o0).grow gq;have tF:∀ {w'},Grow wB w'→Sl (λ k=>k<w.heap.size) w' 1 ta to.length tc (bB to):=λ gq=>(m4.grow o0).grow gq;have cF:∀ {w'},Grow wB w'→Sl (λ k=>k<w.heap.size) w' 1 ca cut.length cc (bB cut):=λ gq=>(h1.grow o0).grow gq;clear j5 c4 hd hM u0 u4;repeat refine aF ?_
 obtain ⟨Lb,c5⟩:∃ Lb,Lb=if back then al.reverse else al:=⟨_,rfl⟩
 have r8:Lb.length=al.length:=by rw [c5];split<;>simp
 refine aX (S:=Nat×Value) (λ q=>[(14,.int .i64 (q.1:Int)),(13,q.2),(11,.slice aa al.length ac),(9,.int .i64 (dC f0)),(7,.pointer (some ⟨L.p,0,none⟩)),(4,.pointer (some ⟨b5,0,none⟩)),(2,.slice ca cut.length cc)])
  (λ q w1=>q.1≤al.length∧Grow wB w1∧ItsOwn w8.heap.size w1 q.2 (iL fr to most (Lb.take q.1))∧∀ k,q.2.ownBlock=some k→wB.heap.size≤k) (λ q=>al.length-q.1) (0,.slice none 0 0) ⟨rfl,rfl,rfl,rfl,rfl,rfl,rfl,trivial⟩
  ⟨Nat.zero_le _,Grow.refl _,by simp only [List.take_zero];rw [show iL fr to most []=[] by unfold iL;simp];exact ItsOwn.nil _ _,λ k e=>by cases e⟩ ?_
 rintro ⟨i,v⟩ w1 ⟨hi,e0,hv,g2⟩;simp only at hi e0 hv g2;by_cases y0:i<al.length
 ·obtain ⟨x,hx⟩:∃ x,Lb[i]? = some x:=⟨_,List.getElem?_eq_getElem oM⟩
  obtain ⟨i',k3,j4⟩:∃ i',i'=(if back then al.length-1-i else i)∧al[i']? = some x:=by
   refine ⟨_,rfl,?_⟩;rw [c5] at hx
   cases back with
   | true=>simp only [if_true] at hx ⊢;rw [List.getElem?_reverse y0] at hx;exact hx
   | false=>exact hx
  have z5:i'<al.length:=by rw [k3];split<;>omega
  have f2:=h5.grow e0;have g7:=f2.lt;obtain ⟨xi,p5⟩:∃ y,al[i]? = some y:=⟨_,List.getElem?_eq_getElem y0⟩
  obtain ⟨ya,yc,za,zc,l7,r1,r2,r3,r4⟩:=(t0.go (Carry.grow e0)).item p5;obtain ⟨xa,xc,va,vc,cs,s1,s2,s3,s4⟩:=(t0.go (Carry.grow e0)).item j4;have o5:=List.mem_of_getElem? j4;have y6:=j0.items x o5;have n6:=(eB y6.1).2;refine dT 1 (λ e w2=>w1=w2∧Sub [(14,.int .i64 (i:Int)),(13,v),(11,.slice aa al.length ac),(9,.int .i64 (dC f0)),(7,.pointer (some ⟨L.p,0,none⟩)),(4,.pointer (some ⟨b5,0,none⟩)),(2,.slice ca cut.length cc)] e) ?_ ?_;rotate_left
  ·repeat refine aF ?_
   exact ⟨rfl,rfl,rfl,rfl,rfl,rfl,rfl,rfl,trivial⟩
  rintro e3 w3 ⟨rfl,k0⟩;refine bD (e':=[(14,.int .i64 (i:Int)),(13,v),(11,.slice aa al.length ac),(9,.int .i64 (dC f0)),(7,.pointer (some ⟨L.p,0,none⟩)),(4,.pointer (some ⟨b5,0,none⟩)),(2,.slice ca cut.length cc)]) ?_ k0;clear k0;refine T.seq (T.block ?_);refine dT 2 (λ e w2=>∃ bk,Sub [(15,.pointer (some ⟨bk,0,none⟩)),(14,.int .i64 (i:Int)),(13,v),(11,.slice aa al.length ac),(9,.int .i64 (dC f0)),(7,.pointer (some ⟨L.p,0,none⟩)),(4,.pointer (some ⟨b5,0,none⟩)),(2,.slice ca cut.length cc)] e∧Grow w1 w2∧Blk w2 bk 58 [.slice xa x.1.length xc,.slice va x.2.length vc]) ?_ ?_;rotate_left
  ·cases back with
   | true =>
    simp only [if_true] at k3;rw [k3] at s2 z5;repeat (first|(refine aH ?_;first|refine aC (j:=i) rfl rfl rfl y0 rfl ⟨_,_,r1⟩ rfl ?_|refine aC (j:=al.length-1-i) rfl rfl oM oM rfl ⟨_,_,s1.grow yG⟩ rfl ?_)|(refine aO ?_;first|refine cB (o:=i*2) rfl r1 r2 rfl rfl ?_|refine cB (o:=(al.length-1-i)*2) rfl (s1.grow yG) s2 rfl rfl ?_)|refine yC ?_|refine yI λ bk w' hg y1 j2 x0=>?_|refine yJ λ w' hu y1 j2=>?_)
    exact ⟨_,⟨rfl,rfl,rfl,rfl,rfl,rfl,rfl,rfl,trivial⟩,yG,by assumption⟩
   | false =>
    simp only [Bool.false_eq_true,if_false] at k3;rw [k3] at s2 z5;repeat (first|(refine aH ?_;refine aC (j:=i) rfl rfl rfl y0 rfl ⟨_,_,s1⟩ rfl ?_)|(refine aO ?_;refine cB (o:=i*2) rfl s1 s2 rfl rfl ?_)|refine yC ?_|refine yI λ bk w' hg y1 j2 x0=>?_|refine yJ λ w' hu y1 j2=>?_)
    exact ⟨_,⟨rfl,rfl,rfl,rfl,rfl,rfl,rfl,rfl,trivial⟩,yG,by assumption⟩
  rintro e4 w4 ⟨bk,k0,x2,k4⟩;refine bD (e':=[(15,_),(14,_),(13,_),(11,_),(9,_),(7,_),(4,_),(2,_)]) ?_ k0;clear k0 r1 r2 r3 r4;have i0:=e0.trans x2;have x7:Blk w4 b5 92 [.slice fa fr.length fc,.slice ta to.length tc,.bool back,.int .i64 most]:=f2.grow x2;have q3:=s3.grow x2;have q4:=s4.grow x2;have f4:=fF i0;have t4:=tF i0;have b4:=hv.grow x2;have z4:=i0.size;obtain ⟨u7,s7,rfl,h7⟩:=b4.at_;have t5:Lb.take (i+1)=Lb.take i++[x]:=by rw [List.take_add_one,hx];rfl
  have p8:(iL fr to most (Lb.take i)).length≤60:=Nat.le_trans (wantL_len _ _ _ _) (by rw [List.length_take];omega);have r5:fL x.1:=(q1 x o5).1
  have b1:(!(Op.bytesLess (txt x.1).toList (txt fr).toList))=jV fr x:=by
   rw [less_txt r5 b7,Bool.eq_iff_iff,Bool.not_eq_true',← Bool.not_eq_true,geFr_iff];simp
  have n0:Op.bytesLess (txt x.1).toList (txt to).toList=decide (eS x.1 to):=less_txt r5 s6;clear j4 p5 x2 s1 s2 s3 s4 hv f2;by_cases d4:inR fr to x=true∧(most=0∨((iL fr to most (Lb.take i)).length:Int)<most)
  ·have l0:=wantL_yes d4.1 d4.2;obtain ⟨z0,g8⟩:=d4;unfold inR at z0;rw [Bool.and_eq_true,inTo_iff] at z0;rw [z0.1] at b1
   have g0:to.length=0∨(to.length≠0∧eS x.1 to):=by
    rcases z0.2 with e|e
    ·exact .inl (by rw [e];rfl)
    ·exact .inr ⟨λ e2=>by rw [List.eq_nil_of_length_eq_zero e2] at e;exact cmpB_nil _ e,e⟩
   have m0:most=0∨(most≠0∧((iL fr to most (Lb.take i)).length:Int)<most):=by omega
   rcases g0 with g0|⟨g0,j3⟩<;>rcases m0 with m0|⟨m0,y5⟩
   all_goals
    (try rw [decide_eq_true j3] at n0)
    repeat (first|refine aQ rfl yM rfl ?_|(refine dS ?_;first|refine gJ rfl q3 rfl ?_|refine gJ rfl f4 rfl ?_|refine gJ rfl t4 rfl ?_)|(refine kB ?_;first|refine TL.ltS (b:=true) rfl rfl n0 rfl ?_|refine TL.geS (b:=true) rfl rfl b1 rfl ?_)|refine yC ?_)
    refine TL.buildSlice rfl rfl rfl rfl rfl ?_;intro b' wa u2 f7 d8 c8 z7;have zb:=u2.size;have l4:=b4.lt;have x6:ItsAt (λ k=>w8.heap.size≤k∧(k<wB.heap.size∨k=b')) wa (some ⟨b',0,none⟩) 1 1 [x]:=⟨_,(aU (sz:=2) (m:=1) (show Blk wa b' 58 [.slice xa x.1.length xc,.slice va x.2.length vc] from f7) rfl dM).mono (λ k hk=>by subst hk;omega),⟨_,_,_,rfl,(q3.grow u2).mono λ k hk=>by omega⟩,⟨_,_,_,rfl,(q4.grow u2).mono λ k hk=>by omega⟩,trivial⟩
    refine pushIts rfl rfl (b4.grow u2) x6 (λ k hk hl=>⟨hk.1,λ e=>by have:=g2 k e;have:=l4 k e;omega⟩) (by simp only [List.length_singleton];omega) oM rfl ?_;intro v' wb q6 d6;repeat refine aF ?_
    exact aE (i+1,v') ⟨rfl,rfl,rfl,rfl,rfl,rfl,rfl,trivial⟩ ⟨by simp only;omega,appto_grow (i0.trans u2) d6 g2,by simp only;rw [t5,l0];exact q6,appto_own (i0.trans u2) d6 g2⟩ (by simp only;omega)
  ·have v5:inR fr to x=false∨(0<most∧¬ ((iL fr to most (Lb.take i)).length:Int)<most):=by
    cases hc:inR fr to x with
    | false=>exact .inl rfl
    | true =>
     have h3:¬ (most=0∨((iL fr to most (Lb.take i)).length:Int)<most):=λ e=>d4 ⟨hc,e⟩;exact .inr oM
   have l0:=wantL_no v5
   have y3:jV fr x=false∨(jV fr x=true∧to.length≠0∧¬ eS x.1 to)∨(jV fr x=true∧to.length=0∧most≠0∧¬ ((iL fr to most (Lb.take i)).length:Int)<most)∨(jV fr x=true∧(to.length≠0∧eS x.1 to)∧most≠0∧¬ ((iL fr to most (Lb.take i)).length:Int)<most):=by
    rcases v5 with h|⟨h1,h2⟩
    ·unfold inR at h
     cases hc:jV fr x with
     | false=>exact .inl rfl
     | true =>
      rw [hc,Bool.true_and] at h;refine .inr (.inl ⟨rfl,λ e=>?_,λ e=>?_⟩)
      ·rw [inTo_iff.2 (.inl (List.eq_nil_of_length_eq_zero e))] at h;cases h
      ·rw [inTo_iff.2 (.inr e)] at h;cases h
    ·cases hc:jV fr x with
     | false=>exact .inl rfl
     | true =>
      by_cases h0:to.length=0
      ·exact .inr (.inr (.inl ⟨rfl,h0,oM,h2⟩))
      ·by_cases hk:eS x.1 to
       ·exact .inr (.inr (.inr ⟨rfl,⟨h0,hk⟩,oM,h2⟩))
       ·exact .inr (.inl ⟨rfl,h0,hk⟩)
   rcases y3 with g4|⟨g4,g0,j3⟩|⟨g4,g0,m0,y5⟩|⟨g4,⟨g0,j3⟩,m0,y5⟩
   all_goals
    rw [g4] at b1;(try first|rw [decide_eq_true j3] at n0|rw [decide_eq_false j3] at n0)
    repeat (first|refine nC rfl rfl rfl ?_|refine aQ rfl yM rfl ?_|(refine dS ?_;first|refine gJ rfl q3 rfl ?_|refine gJ rfl f4 rfl ?_|refine gJ rfl t4 rfl ?_)|(refine kB ?_;first|refine TL.ltS rfl rfl n0 rfl ?_|refine TL.geS rfl rfl b1 rfl ?_)|refine yC ?_)
    exact aE (i+1,_) ⟨rfl,rfl,rfl,rfl,rfl,rfl,rfl,trivial⟩ ⟨by simp only;omega,i0,by simp only;rw [t5,l0];exact b4,g2⟩ (by simp only;omega)
 have z6:i=al.length:=by omega
 subst z6;rw [List.take_of_length_le oM,c5,wantL_rng] at hv;obtain ⟨R,hR⟩:∃ R,R=iM al fr to back most:=⟨_,rfl⟩
 rw [← hR] at hv;obtain ⟨va,vc,rfl,y2⟩:=hv.at_;have q8:R.length≤60:=by rw [hR];exact Nat.le_trans (rngL_len _ _ _ _ _) f3
 have f2:=h5.grow e0;clear hv g2;repeat refine aF ?_
 refine aB 54 ?_;refine aA rfl (nT (o2.grow e0) j0 oM oM q1 _ fa ta fr.length fc to.length tc fr to back most (fF e0) (tF e0) oM oM ⟨oM,x5⟩) rfl ?_;rintro _ w5 ⟨⟨ga,gn,gc,rfl,z1⟩,i4⟩;rw [← hR] at z1;have g1:=e0.trans i4;have n5:=f2.grow i4;have o1:=y2.go (Carry.grow i4);clear f2 y2;repeat refine aF ?_
 refine aB 58 ?_;refine aA rfl (ccount_c (o2.grow g1) j0 oM oM q1 _ fa ta fr.length fc to.length tc fr to back most (fF g1) (tF g1) oM oM ⟨oM,x5⟩) rfl ?_;rintro _ w6 ⟨rfl,t3⟩;rw [← hR];have n4:=g1.trans t3;have m5:=n5.grow t3;have hq:(((R.length:Nat):Int) != ((R.length:Nat):Int))=false:=by simp
 repeat (first|(refine aB 41 ?_;refine aA rfl (kitems_c (z1.go (Carry.grow t3)) (o1.go (Carry.grow t3)) rfl) rfl ?_;rintro _ _ ⟨rfl,q2⟩)|refine yC ?_)
 rename_i w7;have f1:=n4.trans q2;have l5:=m5.grow q2;clear q2 t3 i4 z1 o1 e0 n5 m5;refine aB 54 ?_;refine aA rfl (nT (o2.grow f1) j0 oM oM q1 _ fa ta fr.length fc to.length tc fr to false 0 (fF f1) (tF f1) oM oM oM) rfl ?_;rintro _ w9 ⟨⟨pa,pn,pc,rfl,hA⟩,a6⟩;have e1:=f1.trans a6;have l6:=l5.grow a6;obtain ⟨A,d5⟩:∃ A,A=eC al fr to false:=⟨_,rfl⟩
 rw [show iM al fr to false 0=eC al fr to false from rfl,← d5] at hA;have j7:=hA.len;subst j7;clear l5;repeat refine aF ?_
 refine aB 54 ?_;refine aA rfl (nT (o2.grow e1) j0 oM oM q1 _ fa ta fr.length fc to.length tc fr to true 0 (fF e1) (tF e1) oM oM oM) rfl ?_;rintro _ k6 ⟨⟨qa,qn,qc,rfl,hB⟩,x3⟩;have p3:=e1.trans x3;rw [show iM al fr to true 0=eC al fr to true from rfl,rangeL_rev,← d5] at hB;have g6:=hB.len;rw [List.length_reverse] at g6;subst g6;have f5:=hA.go (Carry.grow x3)
 have s8:A.length≤60:=by
  rw [d5];refine Nat.le_trans ?_ f3;unfold eC;exact List.length_filter_le _ _
 clear l6 hA;repeat refine aF ?_
 refine aX (S:=Nat) (λ q=>[(24,.int .i64 (q:Int)),(22,.slice qa A.length qc),(20,.slice pa A.length pc),(11,.slice aa al.length ac),(9,.int .i64 (dC f0)),(7,.pointer (some ⟨L.p,0,none⟩)),(2,.slice ca cut.length cc)]) (λ q w1=>q≤A.length∧Grow k6 w1) (λ q=>A.length-q) 0 ⟨rfl,rfl,rfl,rfl,rfl,rfl,rfl,trivial⟩ ⟨Nat.zero_le _,Grow.refl _⟩ ?_;rintro i w1 ⟨hi,e0⟩;have s0:=p3.trans e0;by_cases y0:i<A.length
 ·obtain ⟨x,hx⟩:∃ x,A[i]? = some x:=⟨_,List.getElem?_eq_getElem y0⟩
  have m6:A.reverse[A.length-1-i]? = some x:=by rw [List.getElem?_reverse oM,show A.length-1-(A.length-1-i)=i by omega];exact hx
  obtain ⟨xa,xc,va,vc,cs,s1,s2,s3,s4⟩:=(f5.go (Carry.grow e0)).item hx;obtain ⟨ya,yc,za,zc,l7,r1,r2,r3,r4⟩:=(hB.go (Carry.grow e0)).item m6;have f8:(((A.length:Nat):Int) != ((A.length:Nat):Int))=false:=by simp
  repeat refine aF ?_
  apply T.any 21 [is (.slice qa A.length qc),is (.int .i64 (A.length:Int)),is (.slice pa A.length pc),is (.int .i64 (A.length:Int)),is (.bool false),is (.bool false),is (.slice pa A.length pc),is (.int .i64 (i:Int)),is (.pointer (some (at' pa (i*2)))),is (.agg #[.slice xa x.1.length xc,.slice va x.2.length vc]),is (.slice qa A.length qc),is (.slice qa A.length qc),is (.int .i64 (A.length:Int)),is (.int .i64 ((A.length-1:Nat):Int)),is (.int .i64 (i:Int)),is (.int .i64 ((A.length-1-i:Nat):Int)),is (.pointer (some (at' qa ((A.length-1-i)*2)))),is (.agg #[.slice ya x.1.length yc,.slice za x.2.length zc]),is (.bool true),is (.bool false),is (.bool false)]
  ·rfl
  ·repeat' (first|exact aM|refine aK ?_ ?_)
   iterate 21
    ·refine yQ λ wq _ _ u1=>?_;repeat (first|(refine aH ?_;first|refine aC (j:=i) rfl rfl rfl y0 rfl ⟨_,_,s1.grow u1⟩ rfl ?_|refine aC (j:=A.length-1-i) rfl rfl rfl oM rfl ⟨_,_,r1.grow u1⟩ rfl ?_)|(refine aO ?_;first|refine cB (o:=i*2) rfl (s1.grow u1) s2 rfl rfl ?_|refine cB (o:=(A.length-1-i)*2) rfl (r1.grow u1) r2 rfl rfl ?_)|(refine aB 59 ?_;refine aA rfl (kitem_c (s3.grow u1) (s4.grow u1) (r3.grow u1) (r4.grow u1)) rfl ?_;rintro _ _ ⟨rfl,q2⟩)|refine yC ?_)
     exact aD rfl yG rfl
  ·intro o7 v7 l8 p4 _ _;((refine yT ?_))
   repeat refine aF ?_
   exact aE (i+1) ⟨rfl,rfl,rfl,rfl,rfl,rfl,rfl,trivial⟩ ⟨oM,e0.trans p4⟩ oM
 by_cases e7:cut.length=0
 ·repeat refine aF ?_
  exact bA rfl ⟨_,rfl,rfl,o0.trans s0⟩
 repeat refine aF ?_
 refine aB 54 ?_;refine aA rfl (nT (o2.grow s0) j0 oM oM q1 (λ k=>k<w.heap.size) none ca 0 0 cut.length cc [] cut false 0 gX (cF s0) sM oM oM) rfl ?_;rintro _ g5 ⟨⟨xa,xn,xc,rfl,hX⟩,u3⟩;have q0:=s0.trans u3;rw [show iM al [] cut false 0=eC al [] cut false from rfl] at hX;repeat refine aF ?_
 refine aB 54 ?_;refine aA rfl (nT (o2.grow q0) j0 oM oM q1 (λ k=>k<w.heap.size) ca none cut.length cc 0 0 cut [] false 0 (cF q0) gX oM sM oM) rfl ?_;rintro _ a4 ⟨⟨ya,yn,yc,rfl,hY⟩,d2⟩;have p0:=q0.trans d2;rw [show iM al cut [] false 0=eC al cut [] false from rfl] at hY;have o8:(eC al [] cut false).length≤60:=Nat.le_trans (by unfold eC;exact List.length_filter_le _ _) f3;have n8:(eC al cut [] false).length≤60:=Nat.le_trans (by unfold eC;exact List.length_filter_le _ _) f3;have m7:=s0.size;have j6:=u3.size;have i6:=d2.size;repeat (first|refine aF ?_|refine yI λ bk w' hg y1 j2 x0=>?_)
 have z3:w'.ownsRow a4.heap.size 58 2 (.slice (some ⟨bk,0,none⟩) 0 0) 0 []:=eI y1 oM;have j1:∀ k,(Value.slice (some ⟨bk,0,none⟩) 0 0).ownBlock=some k→a4.heap.size≤k:=λ k e=>(aT z3 e).1;have p6:ItsOwn w1.heap.size w' (.slice (some ⟨bk,0,none⟩) 0 0) []:=⟨[],dX z3 oM,trivial⟩
 have o4:=p0.trans hg;have n7:=hg.size;refine pushIts rfl rfl p6 ((hX.go (F':=λ k=>w1.heap.size≤k∧k<g5.heap.size) (Carry.mono λ k hk hl=>⟨hk,hl⟩)).go (Carry.grow (d2.trans hg))) (λ k hk hl=>⟨hk.1,λ e=>by have:=j1 k e;omega⟩) (by simp only [List.length_nil];omega) oM rfl ?_;intro v2 q7 o6 m1;have d3:∀ k,v2.ownBlock=some k→a4.heap.size≤k:=appto_own hg m1 j1;have o3:=appto_grow o4 m1 (λ k e=>by have:=j1 k e;have:=p0.size;omega);have h6:=m1.by_.size;repeat refine aF ?_
 refine pushIts rfl rfl o6 ((hY.go (F':=λ k=>g5.heap.size≤k∧k<a4.heap.size) (Carry.mono λ k hk hl=>⟨hk,hl⟩)).go ((Carry.grow hg).trans (Carry.buts (appto_buts m1) (λ k hk _ e=>by have:=j1 k e;omega)))) (λ k hk hl=>⟨oM,λ e=>by have:=d3 k e;omega⟩) (by simp only [List.length_append,List.length_nil];omega) oM rfl ?_;intro v3 p7 s5 y4;have x1:=appto_grow o3 y4 (λ k e=>by have:=d3 k e;have:=p0.size;omega);rw [List.nil_append,rangeL_split j0.srt cut (λ e=>e7 (by rw [e];rfl))] at s5;obtain ⟨t7,r7,rfl,z2⟩:=s5.at_;repeat (first|(refine aB 41 ?_;refine aA rfl (kitems_c z2 (t0.go (Carry.grow x1)) rfl) rfl ?_;rintro _ _ ⟨rfl,q2⟩)|refine yC ?_)
 exact bA rfl ⟨_,rfl,rfl,o0.trans (x1.trans q2)⟩
end Go.Proofs.YtfpadnmdafiddaaGreatDoor
