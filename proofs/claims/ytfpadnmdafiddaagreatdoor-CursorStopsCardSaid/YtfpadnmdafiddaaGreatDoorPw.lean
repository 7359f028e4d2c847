import Derived.Test.YtfpadnmdafiddaaGreatDoorP0
import Derived.Test.YtfpadnmdafiddaaGreatDoorPv
import Derived.Test.YtfpadnmdafiddaaGreatDoorPo
set_option linter.all false
set_option maxHeartbeats 16000000
set_option maxRecDepth 100000
namespace Go.Proofs.YtfpadnmdafiddaaGreatDoor
open Go Go.RowKit Go.V
instance fnSeq:FnTy Tryz.prog 101:=⟨kR⟩
theorem stops_c {w:World} {a:Option Addr} {n c:Nat} {l:bT} (n0:TabAt w) (h0:ItsAt (λ k=>k<w.heap.size) w a n c l) (q7:∀ x∈l,fK x.1∧fK x.2) (fa ta:Option Addr) (fn fc tn tc:Nat) (fr to:Bs) (back:Bool) (m0 at_:Int) (hf:Sl (λ k=>k<w.heap.size) w 1 fa fn fc (bB fr)) (f0:Sl (λ k=>k<w.heap.size) w 1 ta tn tc (bB to)) (o7:m0≤9223372036854775807) :
  Calls Tryz.prog 8 #[.slice a n c,.agg #[.slice fa fn fc,.slice ta tn tc,.bool back,.int .i64 m0],.int .i64 at_] w (Ret λ v w'=>v=.bool true∧Grow w w'):=by
 have z9:fn=fr.length:=by have:=hf.len;rw [bB,List.length_map] at this;omega
 have l9:tn=to.length:=by have:=f0.len;rw [bB,List.length_map] at this;omega
 have bg:=hf.le;have bb:=f0.le;subst z9;subst l9;refine V.calls (args:=[_,_,_]) Tryz.func8 rfl Tryz.ntmps8 rfl rfl ?_;repeat (first|refine aF ?_|refine yI λ bk w' hg a0 i0 g0=>?_)
 rename_i b5 wx gx kx zx m8;obtain ⟨b6,rfl⟩:=yE bk;refine aB 51 ?_;refine aA (vs:=[]) rfl (lives13v_c _ (n0.keep ((gx.trans hg).block 0 n0.1) (gx.trans hg).size)) rfl ?_;rintro _ w2 ⟨rfl,y4⟩;have r1:=(gx.trans hg).trans y4;have k5:=(kx.grow hg).grow y4;have k6:=a0.grow y4;have q5:w.heap.size≤b5∧b5<b6∧b6<w2.heap.size:=by have:=k6.lt;have:=kx.lt;have:=gx.size;omega
 clear a0 hg y4 i0 g0 gx kx zx m8;have k0:=h0.go (Carry.grow r1)
 cases hl:lightB l with
 | false =>
  repeat (first|(refine aB 52 ?_;refine aA rfl (light_b k0 hl) rfl ?_;rintro _ _ ⟨rfl,rfl⟩)|refine yC ?_)
  exact bA rfl ⟨_,rfl,rfl,r1⟩
 | true =>
 by_cases aa:16<fr.length
 ·repeat (first|(refine aB 52 ?_;refine aA rfl (light_b k0 hl) rfl ?_;rintro _ _ ⟨rfl,rfl⟩)|refine yC ?_)
  exact bA rfl ⟨_,rfl,rfl,r1⟩
 by_cases m9:16<to.length
 ·repeat (first|(refine aB 52 ?_;refine aA rfl (light_b k0 hl) rfl ?_;rintro _ _ ⟨rfl,rfl⟩)|refine yC ?_)
  exact bA rfl ⟨_,rfl,rfl,r1⟩
 by_cases bc:m0<0
 ·repeat (first|(refine aB 52 ?_;refine aA rfl (light_b k0 hl) rfl ?_;rintro _ _ ⟨rfl,rfl⟩)|refine yC ?_)
  exact bA rfl ⟨_,rfl,rfl,r1⟩
 obtain ⟨h4,i4⟩:=light_of hl;repeat (first|(refine aB 52 ?_;refine aA rfl (light_b k0 hl) rfl ?_;rintro _ _ ⟨rfl,rfl⟩)|refine yC ?_)
 refine aB 53 ?_;refine aA rfl (planted_c (n0.keep (r1.block 0 n0.1) r1.size) k0 q7 h4 i4) rfl ?_;rintro _ w8 ⟨L,R0,e9,g,lv,ps,rfl,n5,a6,n9,h5,bf,z5⟩;have g2:=r1.trans z5;have b7:=k5.grow z5;have f5:=k6.grow z5;have p5:=plantL_by q7;have k7:(hU l).length≤60:=Nat.le_trans (plantL_len l) h4;obtain ⟨al,v7⟩:∃ al,al=hU l:=⟨_,rfl⟩
 rw [← v7] at h5 p5 k7;have t5:=n5.pw
 have l0:∀ k,k=L.p∨k=L.d∨k=L.u∨k=L.m→b6<k∧k<w8.heap.size:=λ k hk=>by
  have:=n5.lB k hk;have:=t5.at_.lts;omega
 clear k5 k6 k0 n9 v7 n5;repeat refine aF ?_
 refine aB 54 ?_;refine aA rfl (crange_c t5 h5 oM oM p5 _ fa ta fr.length fc to.length tc fr to back m0 (hf.grow g2) (f0.grow g2) oM oM ⟨oM,o7⟩) rfl ?_;rintro _ w9 ⟨⟨ra,rn,u6,rfl,hR⟩,g3⟩;have f2:=g2.trans g3;have f9:=b7.grow g3;have a7:=f5.grow g3;have s5:=t5.grow g3;have d6:ItsAt (λ k=>w8.heap.size≤k∧k<w9.heap.size) w9 ra rn u6 (lU al fr to back m0):=hR.go (Carry.mono λ k hk hl=>⟨hk,hl⟩);clear b7 f5 hR;repeat refine aF ?_
 refine aB 55 ?_;refine aA rfl (copen_c s5 h5 oM oM p5 _ fa ta fr.length fc to.length tc fr to back m0 (hf.grow f2) (f0.grow f2) oM oM ⟨oM,o7⟩) rfl ?_;rintro _ w4 ⟨cb,C,E,pv,fs,ix,rfl,bi,z4,m7,u7,r7,h7,rfl,rfl,rfl,rfl,rfl,t9,o0⟩;have q9:(lU E.al E.fr E.to C.back C.most).length≤60:=Nat.le_trans (rngL_len _ _ _ _ _) k7
 have z3:remL E C 0 ix=lU E.al E.fr E.to C.back C.most:=by
  unfold remL lU;rw [h7,Int.sub_zero]
 have z:Cz w4 C cb E 0 pv fs ix (lU E.al E.fr E.to C.back C.most):=⟨z4,m7,u7,r7,Int.le_refl _,oM,z3⟩
 obtain ⟨R,x7⟩:∃ R,R=lU E.al E.fr E.to C.back C.most:=⟨_,rfl⟩
 rw [← x7] at z d6 q9;have k3:=a7.grow o0;have c4:=s5.grow o0;have u1:=d6.go (Carry.grow o0);have k4:=f2.trans o0;have bh:=z4.lt;have j7:=λ k (e:pv.ownBlock=some k)=>z4.own e;have q8:=o0.size;have ak:=g3.size;clear z4 m7 u7 r7 h7 z3 f9 a7 s5 g3 o0 d6 x7;repeat (first|refine aF ?_|refine yI λ bk w' hg a0 i0 g0=>?_)
 obtain ⟨b15,rfl⟩:=yE bk;obtain ⟨s6,rfl⟩:=yE w';have c7:Blk s6 b15 54 [.slice none 0 0]:=a0;have aw:w4.heap.size=b15∧s6.heap.size=b15+1:=⟨i0,g0⟩
 refine aB 18 ?_;refine aA rfl (pick_c at_ 20 oM oM _) rfl ?_;rintro _ c9 ⟨⟨i6,rfl,ad⟩,rfl⟩;repeat (first|refine yC ?_|refine yJ λ w' hu a0 i0=>?_)
 obtain ⟨wA,rfl⟩:=yE w';have z6:Blk wA b6 3 [.int .i64 (i6:Int)]:=a0;have zA:=hu.size;have j3:Grow w4 c9:=hg;have bj:b6<w4.heap.size:=k3.lt;have m6:Cz wA C cb E 0 pv fs ix R:=(z.grow j3).buts (S:=λ k=>k=b6) ⟨hu.os,hu.tape,hu.output,Nat.le_of_eq hu.size.symm,λ k _ hk=>hu.block k hk⟩ (λ k hk=>⟨by subst hk;omega,λ e=>by have:=j7 k e;omega⟩);have m3:Blk wA b15 54 [.slice none 0 0]:=c7.upd hu oM;have l7:=((c4.grow j3).other (S:=λ k=>k=b6) ⟨hu.os,hu.tape,hu.output,Nat.le_of_eq hu.size.symm,λ k _ hk=>hu.block k hk⟩ (λ k hk e=>by have:=l0 k hk;omega) (by have:=n0.1;omega))
 have y7:=(u1.go (Carry.grow j3)).go (Carry.upd hu (λ k hk _=>by omega));have x5:Grow w wA:=aH hu oM (k4.trans j3);clear a0 hu hg z j3 c7 c4 u1 k3 i0 g0;refine aB 56 ?_;refine aA rfl (citems_c cb _) rfl ?_;rintro _ b9 ⟨b1,rfl,ab,c6,s0⟩;have ac:=c6.lt;have ao:=s0.size;repeat (first|refine T.seqR ?_|(refine iR 101 ?_;refine TL.eqFnNil rfl rfl rfl ?_)|refine yC ?_)
 refine iI (T2.rangeB (ps:=[82]) (lb:=[_]) rfl (Nat.zero_le _) rfl ?_);intro rc a9 p7 m5 q0 d2 g1;obtain ⟨D,hD⟩:∃ D,D=b9.heap.size:=⟨_,rfl⟩
 rw [← hD] at d2 g1 m5 ⊢;have G14:Gt a9 C cb E (b15+1) b15 b1 D D w9.heap.size wA [] R (.slice none 0 0) pv:=⟨c6.grow q0,⟨_,_,_,m6.grow (s0.trans q0)⟩,m3.grow (s0.trans q0),⟨[],World.ownsRow_nil _ _ _ _,trivial⟩,λ k e=>(by cases e),λ k e=>(by have:=j7 k e;omega),oM,g1,g1,kB (s0.trans q0) oM (Below.refl _ _)⟩
 refine Calls.mono (cyield_c (D+1) b1 cb C E (λ rm pv w=>∃ told gv,told++rm=R∧told.length≤i6∧Gt w C cb E (b15+1) b15 b1 D D w9.heap.size wA told rm gv pv∧w.heap[D+1]? = some (.loop (rc .ready none)))
  (λ rm w=>∃ told gv pv,told++rm=R∧Gt w C cb E (b15+1) b15 b1 D D w9.heap.size wA told rm gv pv∧(w.heap[D+1]? = some (.loop (rc .ready none))∨w.heap[D+1]? = some (.loop (rc .done (some (.exit 0)))))) (λ rm pv w ⟨told,gv,_,_,G,_⟩=>⟨G.it_,G.cz⟩) ?_ ?_ R pv _ ⟨[],_,rfl,Nat.zero_le _,G14,d2⟩) ?_
 ·rintro it rm pv w5 ⟨told,gv,e1,e2,G5,r5⟩ w6 d' pv' d3 o3 a1 n1 c1 a2 n2 c2 u5 hz f0 h1 h2;have G6:=G5.next hz f0;have r6:=G5.recN f0 r5;obtain ⟨j8,q1,q2⟩:=G5.row;have l6:=G5.lt;have u4:=G6.lt;have s1:=h1.go (F':=λ k=>(b15+1≤k∧k≠D∧k≠D+1∧pv'.ownBlock≠some k)∧gv.ownBlock≠some k) (Carry.mono λ k hk _=>⟨⟨oM,oM,oM,hk.2⟩,λ e=>by have:=(aR q1 e).2;omega⟩);have s2:=h2.go (F':=λ k=>(b15+1≤k∧k≠D∧k≠D+1∧pv'.ownBlock≠some k)∧gv.ownBlock≠some k) (Carry.mono λ k hk _=>⟨⟨oM,oM,oM,hk.2⟩,λ e=>by have:=(aR q1 e).2;omega⟩);clear h1 h2 q1 q2;have t3:told.length≤60:=by have:=congrArg List.length e1;rw [List.length_append] at this;omega
  refine yld_of p7 r6 rfl rfl λ I=>?_;repeat (first|refine aF ?_|refine yI λ bk w' hg a0 i0 g0=>?_|refine yJ λ w' hu a0 i0=>?_)
  have p0:Grow w6 w':=aH hu oM hg;have w1:Blk w' bk 58 [.slice a1 n1 c1,.slice a2 n2 c2]:=a0;have qk:w6.heap.size≤bk∧bk<w'.heap.size:=by have:=w1.lt;omega
  obtain ⟨t8,rfl⟩:=yE w';clear a0 hu hg;refine ⟨(p0.block _ oM).trans r6,λ w7 v0 v5=>?_⟩;have G7:=(G6.grow p0).upd v0;have p6:=w1.upd v0 oM;have cx:Carry (λ k=>(b15+1≤k∧k≠D∧k≠D+1∧pv'.ownBlock≠some k)∧gv.ownBlock≠some k) w6 (λ k=>(b15+1≤k∧k≠D∧k≠D+1∧pv'.ownBlock≠some k)∧gv.ownBlock≠some k) w7:=(Carry.grow p0).trans (Carry.upd v0 (λ k hk _=>hk.1.2.2.1));have y1:=s1.go cx;have y2:=s2.go cx;have a5:=G7.box;obtain ⟨cs,x1,x2⟩:=G7.row;obtain ⟨ga,gc,rfl,-⟩:=aM x1;have n8:=G7.lt;clear v0 p0 w1 s1 s2 cx G5 G6 r5 r6;repeat refine aF ?_
  refine TL.buildSlice rfl rfl rfl rfl rfl ?_;intro b' wa j0 n4 g7 f7 e7;have w3:Sl (λ _=>True) wa 2 (some ⟨b',0,none⟩) 1 1 [.slice a1 n1 c1,.slice a2 n2 c2]:=(aU (sz:=2) (m:=1) (show Blk wa b' 58 [.slice a1 n1 c1,.slice a2 n2 c2] from n4) rfl dM).mono (λ _ _=>trivial);have Ga:=G7.grow j0;have j6:=Ga.lt;refine dO (bytes:=48) rfl rfl (aO x1 j0) w3 (by intro u hu;simp only [List.mem_cons,List.not_mem_nil,or_false] at hu;rcases hu with rfl|rfl<;>rfl) (by unfold maxLen;omega) oM oM rfl ?_;intro d8 wb e0 u0 t0;have o6:=cJ Ga.box (u0.block b15 Ga.box.lt (λ e=>by have:=(aR x1 e.symm).1;omega));obtain ⟨h8,g8,rfl,-⟩:=aM e0;repeat (first|refine aF ?_|refine yJ λ w' hu a0 i0=>?_)
  have G8:=Ga.app (aO x1 j0) (x2.go (Carry.grow j0)) (y1.grow j0) (y2.grow j0) e0 u0 t0 hu a0;have r8:=Ga.recA u0 hu ((j0.block (D+1) oM).trans v5);have f5:=cJ z6 (G8.bl.block b6 oM);by_cases x9:i6<told.length+1
  ·repeat refine aF ?_
   exact ⟨r8,λ wz z1 f4=>.inr ⟨rfl,told++[it],_,_,by rw [List.append_assoc];exact e1,G8.upd z1,.inr f4⟩⟩
  ·repeat refine aF ?_
   exact ⟨r8,λ wz z1 f4=>.inl ⟨rfl,told++[it],_,by rw [List.append_assoc];exact e1,by rw [List.length_append];exact Nat.le_of_not_lt x9,G8.upd z1,f4⟩⟩
 ·rintro pv w5 ⟨told,gv,e1,e2,G5,r5⟩ w6 d' pv' d3 o3 hz f0;exact ⟨told,gv,pv',e1,G5.next hz f0,.inl (G5.recN f0 r5)⟩
 rintro _ av ⟨v,rfl,rm,told,gv,ay,u2,G15,y6⟩;refine ⟨v,rfl,RangeOutB.of G15.mrk y6 ?_⟩;intro I d5 f6 g6 s3;have G16:=G15.upd s3;have x0:=l7.low G16.bl (λ k hk=>by have:=l0 k hk;omega) (by have:=n0.1;omega);have t4:=y7.go ((Carry.below (G:=λ k=>w8.heap.size≤k∧k<w9.heap.size) G16.bl (λ k hk=>hk.2)));have o1:=grow_low x5 G16.bl oM;have p8:=G16.lt;clear p7 d2 g1 G14 m6 m3 l7 y7 G15 y6 s3 z6 c6 s0 q0;repeat refine aF ?_
 refine aB 23 ?_;refine aA rfl (keep_c (F:=λ _=>False) (qs:=[]) x0.at_ (Sl.nil_mk _ _ _) (λ k hk=>hk.elim) sM oM) rfl ?_;rintro _ c5 ⟨L',e1,e2,e3,e4,e5,⟨kk,rfl⟩,b4,z0⟩;have s9:C.lo=w9.heap.size:=t9;have am:=z0.size
 have x4:PgW c5 L' (hX g []):=⟨b4,x0.tab.buts z0 (λ e=>by have:=l0 L.p (.inl rfl);omega),λ e=>by
  have h1:=l0 L.p (.inl rfl);have h2:=l0 L.m sM;unfold PL.S at e;rw [e1,e3] at e
  omega⟩
 have s4:=t4.go (Carry.buts z0 (λ k hk _ e=>by have:=l0 k (.inl e);omega));have m1:=gD o1 z0 (λ k hk=>by have:=l0 k (.inl hk);omega);clear t4 o1 b4;repeat refine aF ?_
 refine TL.buildSlice rfl rfl rfl rfl rfl ?_;intro bx z8 m4 q4 k9 i9 _;refine gU rfl (show Blk z8 bx 5 (bB [110,101,119]) from q4) rfl oM (by unfold maxLen;omega) rfl ?_;intro q6 r3 y3;have z2:Grow c5 q6:=aH r3 oM m4;have l8:=z2.size;repeat refine aF ?_
 refine TL.buildSlice rfl rfl rfl rfl rfl ?_;intro ai y8 l4 o4 j9 h9 _;refine gU rfl (show Blk y8 ai 5 (bB [111,110,101]) from o4) rfl oM (by unfold maxLen;omega) rfl ?_;intro x8 q3 x3;have j1:Grow q6 x8:=aH q3 oM l4;have k8:=j1.size;have gg:=z2.trans j1;have o5:=(x4.grow gg).at_.lts
 have f3:∀ k,L'.S k→k<C.lo∨(d5.heap.size≤k∧k<c5.heap.size):=λ k hk=>by
  have h1:=l0 L.p (.inl rfl);have h2:=l0 L.m sM;have h3:=x4.at_.lts;unfold PL.S at hk;rw [e1,e3] at hk;omega
 refine aB 25 ?_;have g5:TrAt (hX g []) none 0 [] []:=⟨rfl,rfl,rfl⟩
 have j5:32≤cC (hX g []):=by
  have hs:=keep_spare (s:=g) x0.at_.ok (qs:=[]) sM;simp only [a6,List.length_nil] at hs;omega
 have v9:fK [110,101,119]:=by intro x hx;simp only [List.mem_cons,List.not_mem_nil,or_false] at hx;omega
 have u9:fK [111,110,101]:=by intro x hx;simp only [List.mem_cons,List.not_mem_nil,or_false] at hx;omega
 have p9:=((y3.mono λ k hk e=>by have:=f3 k e;omega:Sl (λ k=>¬ L'.S k) _ _ _ _ _ _)).grow j1;have o9:=(x3.mono λ k hk e=>by have:=f3 k e;omega:Sl (λ k=>¬ L'.S k) _ _ _ _ _ _)
 have r9:=x4.grow gg;have a4:=put_any r9 g5 oM j5 _ _ _ _ _ _ _ _ p9 o9 v9 u9;rw [e1] at a4;refine aA rfl a4 rfl ?_;rintro _ v4 ⟨px,pe,t6,g',ba,l',az,rfl,d4,aft⟩
 have s7:ButS (λ k=>k<C.lo∨d5.heap.size≤k) d5 v4:=by
  have q1:=aft.but.size;have q2:=gg.size;exact ⟨aft.but.os.trans (gg.1.os.trans z0.os),aft.but.tape.trans (gg.1.tape.trans z0.tape),aft.but.output.trans (gg.1.output.trans z0.output),oM,λ k hk hn=>(aft.but.block k oM (λ e=>hn ((f3 k e).imp_right λ h=>h.1))).trans ((gg.block k oM).trans (z0.block k hk (λ e=>hn (.inl (by have:=l0 k (.inl e);omega)))))⟩
 have G22:=G16.buts s7 (λ k hk=>hk)
 have r4:=(s4.go (Carry.grow gg)).go (Carry.buts aft.but (λ k hk hl e=>by
  have h1:=l0 L.p (.inl rfl);have h2:=l0 L.m sM;have h3:=f3 k e;unfold PL.S at e;rw [e1,e3] at e
  omega))
 have j4:=gD (m1.trans gg) aft.but (λ k hk=>by
  have h1:=l0 L.p (.inl rfl);have h2:=l0 L.m sM;have h3:=f3 k hk;unfold PL.S at hk;rw [e1,e3] at hk
  omega)
 clear s4 m1 aft s7 G16 z0 y3 x3 gg x4 x0 r3 q3 z2 j1 q4 o4 m4 l4 f3 o5 d4;refine TL.nil (eP ?_);refine dU 2 (λ e w=>∃ told rm gv pv,told++rm=R∧Gt w C cb E (b15+1) b15 b1 D D w9.heap.size v4 told rm gv pv∧Sub [(15,.pointer (some ⟨b15,0,none⟩)),(13,.pointer (some ⟨cb,0,none⟩)),(11,.slice ra rn u6)] e) ?_ ?_;rotate_left
 ·obtain ⟨d0,ah,g9,n6⟩:=G22.cz;repeat refine aF ?_
  refine aB 57 ?_;refine aA rfl (cznext_c n6) rfl ?_;rintro _ w6 ⟨a1,n1,c1,a2,n2,c2,e,rfl,d4⟩;rcases d4 with ⟨rfl,it,r,pv',d3,o3,rfl,hm,hz,f0,h1,h2⟩|⟨rfl,rfl,pv',d3,hz,f0⟩
  ·have G6:=G22.next hz f0;obtain ⟨j8,q1,q2⟩:=G22.row;have l6:=G22.lt;have u4:=G6.lt;have s1:=h1.go (F':=λ k=>(b15+1≤k∧k≠D∧k≠D+1∧pv'.ownBlock≠some k)∧gv.ownBlock≠some k) (Carry.mono λ k hk _=>⟨⟨oM,oM,oM,hk.2⟩,λ e=>by have:=(aR q1 e).2;omega⟩);have s2:=h2.go (F':=λ k=>(b15+1≤k∧k≠D∧k≠D+1∧pv'.ownBlock≠some k)∧gv.ownBlock≠some k) (Carry.mono λ k hk _=>⟨⟨oM,oM,oM,hk.2⟩,λ e=>by have:=(aR q1 e).2;omega⟩);have t3:told.length≤60:=by have:=congrArg List.length u2;rw [List.length_append] at this;omega
   have a5:=G6.box;obtain ⟨cs,x1,x2⟩:=G6.row;obtain ⟨ga,gc,rfl,-⟩:=aM x1;clear h1 h2 q1 q2 G22 n6 hz f0;repeat (first|refine aF ?_|refine yI λ bk w' hg a0 i0 g0=>?_|refine yJ λ w' hu a0 i0=>?_)
   have p0:Grow w6 w':=aH hu oM hg;have p6:Blk w' bk 58 [.slice a1 n1 c1,.slice a2 n2 c2]:=a0;refine TL.buildSlice rfl rfl rfl rfl rfl ?_;intro b' wa j0 n4 g7 f7 e7;have w3:Sl (λ _=>True) wa 2 (some ⟨b',0,none⟩) 1 1 [.slice a1 n1 c1,.slice a2 n2 c2]:=(aU (sz:=2) (m:=1) (show Blk wa b' 58 [.slice a1 n1 c1,.slice a2 n2 c2] from n4) rfl dM).mono (λ _ _=>trivial);have i3:=p0.trans j0;have Ga:=G6.grow i3;have j6:=Ga.lt;refine dO (bytes:=48) rfl rfl (aO x1 i3) w3 (by intro u hu;simp only [List.mem_cons,List.not_mem_nil,or_false] at hu;rcases hu with rfl|rfl<;>rfl) (by unfold maxLen;omega) oM oM rfl ?_;intro d8 wb e0 u0 t0;have o6:=cJ Ga.box (u0.block b15 Ga.box.lt (λ e=>by have:=(aR x1 e.symm).1;omega));obtain ⟨h8,g8,rfl,-⟩:=aM e0;clear hu hg a0;repeat (first|refine aF ?_|refine yJ λ w' hu a0 i0=>?_)
   exact ⟨told++[it],r,_,_,by rw [List.append_assoc];exact u2,Ga.app (aO x1 i3) (x2.go (Carry.grow i3)) (s1.grow i3) (s2.grow i3) e0 u0 t0 hu a0,rfl,rfl,rfl,trivial⟩
  ·have G6:=G22.next hz f0;have u4:=G6.lt;repeat (first|refine aF ?_|refine yI λ bk w' hg a0 i0 g0=>?_|refine yJ λ w' hu a0 i0=>?_)
   exact ⟨told,[],_,_,u2,G6.grow (aH hu oM hg),rfl,rfl,rfl,trivial⟩
 clear G22 u2;rintro bn au ⟨told,rm,gv,pv2,u2,G25,u3⟩;refine bD (e':=[(15,_),(13,_),(11,_)]) ?_ u3;clear u3;have o8:=G25.lt;repeat (refine yC ?_)
 refine aB 56 ?_;refine aA rfl (citems_c cb _) rfl ?_;rintro _ v8 ⟨h6,rfl,p4,r2,o2⟩;have t7:=r2.lt;have an:=o2.size;repeat (first|refine T.seqR ?_|(refine iR 101 ?_;refine TL.eqFnNil rfl rfl rfl ?_)|refine yC ?_)
 refine iI (T2.rangeB (ps:=[120]) (lb:=[_]) f6 (by rw [g6];omega) rfl ?_);intro v6 ar g4 l5 j2 y0 f1;obtain ⟨D2,ag⟩:∃ D2,D2=v8.heap.size:=⟨_,rfl⟩
 rw [← ag] at y0 f1 l5 ⊢;have G27:=G25.again (D':=D2) (o2.trans j2) (r2.grow j2) p4 oM f1 oM;clear G25 r2 o2 j2
 refine Calls.mono (cyield_c (D2+1) h6 cb C E (λ rm pv w=>∃ told gv,told++rm=R∧Gt w C cb E (b15+1) b15 h6 D2 D w9.heap.size v4 told rm gv pv∧w.heap[D2+1]? = some (.loop (v6 .ready none)))
  (λ rm w=>∃ gv pv,Gt w C cb E (b15+1) b15 h6 D2 D w9.heap.size v4 R [] gv pv∧w.heap[D2+1]? = some (.loop (v6 .ready none))) (λ rm pv w ⟨told,gv,_,G,_⟩=>⟨G.it_,G.cz⟩) ?_ ?_ rm pv2 _ ⟨told,gv,u2,G27,y0⟩) ?_
 ·clear G27 y0 f1 u2;clear told rm gv pv2;rintro it rm pv w5 ⟨told,gv,e1,G5,r5⟩ w6 d' pv' d3 o3 a1 n1 c1 a2 n2 c2 u5 hz f0 h1 h2;have G6:=G5.next hz f0;have r6:=G5.recN f0 r5;obtain ⟨j8,q1,q2⟩:=G5.row;have l6:=G5.lt;have u4:=G6.lt;have s1:=h1.go (F':=λ k=>(b15+1≤k∧k≠D2∧k≠D2+1∧pv'.ownBlock≠some k)∧gv.ownBlock≠some k) (Carry.mono λ k hk _=>⟨⟨oM,oM,oM,hk.2⟩,λ e=>by have:=(aR q1 e).2;omega⟩);have s2:=h2.go (F':=λ k=>(b15+1≤k∧k≠D2∧k≠D2+1∧pv'.ownBlock≠some k)∧gv.ownBlock≠some k) (Carry.mono λ k hk _=>⟨⟨oM,oM,oM,hk.2⟩,λ e=>by have:=(aR q1 e).2;omega⟩);clear h1 h2 q1 q2;have t3:told.length≤60:=by have:=congrArg List.length e1;rw [List.length_append] at this;omega
  refine yld_of g4 r6 rfl rfl λ I=>?_;repeat (first|refine aF ?_|refine yI λ bk w' hg a0 i0 g0=>?_|refine yJ λ w' hu a0 i0=>?_)
  have p0:Grow w6 w':=aH hu oM hg;have w1:Blk w' bk 58 [.slice a1 n1 c1,.slice a2 n2 c2]:=a0;have qk:w6.heap.size≤bk∧bk<w'.heap.size:=by have:=w1.lt;omega
  obtain ⟨t8,rfl⟩:=yE w';clear a0 hu hg;refine ⟨(p0.block _ oM).trans r6,λ w7 v0 v5=>?_⟩;have G7:=(G6.grow p0).upd v0;have p6:=w1.upd v0 oM;have cx:Carry (λ k=>(b15+1≤k∧k≠D2∧k≠D2+1∧pv'.ownBlock≠some k)∧gv.ownBlock≠some k) w6 (λ k=>(b15+1≤k∧k≠D2∧k≠D2+1∧pv'.ownBlock≠some k)∧gv.ownBlock≠some k) w7:=(Carry.grow p0).trans (Carry.upd v0 (λ k hk _=>hk.1.2.2.1));have y1:=s1.go cx;have y2:=s2.go cx;have a5:=G7.box;obtain ⟨cs,x1,x2⟩:=G7.row;obtain ⟨ga,gc,rfl,-⟩:=aM x1;have n8:=G7.lt;clear v0 p0 w1 s1 s2 cx G5 G6 r5 r6;repeat refine aF ?_
  refine TL.buildSlice rfl rfl rfl rfl rfl ?_;intro b' wa j0 n4 g7 f7 e7;have w3:Sl (λ _=>True) wa 2 (some ⟨b',0,none⟩) 1 1 [.slice a1 n1 c1,.slice a2 n2 c2]:=(aU (sz:=2) (m:=1) (show Blk wa b' 58 [.slice a1 n1 c1,.slice a2 n2 c2] from n4) rfl dM).mono (λ _ _=>trivial);have Ga:=G7.grow j0;have j6:=Ga.lt;refine dO (bytes:=48) rfl rfl (aO x1 j0) w3 (by intro u hu;simp only [List.mem_cons,List.not_mem_nil,or_false] at hu;rcases hu with rfl|rfl<;>rfl) (by unfold maxLen;omega) oM oM rfl ?_;intro d8 wb e0 u0 t0;have o6:=cJ Ga.box (u0.block b15 Ga.box.lt (λ e=>by have:=(aR x1 e.symm).1;omega));obtain ⟨h8,g8,rfl,-⟩:=aM e0;repeat (first|refine aF ?_|refine yJ λ w' hu a0 i0=>?_)
  have G8:=Ga.app (aO x1 j0) (x2.go (Carry.grow j0)) (y1.grow j0) (y2.grow j0) e0 u0 t0 hu a0;have r8:=Ga.recA u0 hu ((j0.block (D2+1) oM).trans v5);exact ⟨r8,λ wz z1 f4=>.inl ⟨rfl,told++[it],_,by rw [List.append_assoc];exact e1,G8.upd z1,f4⟩⟩
 ·rintro pv w5 ⟨told,gv,e1,G5,r5⟩ w6 d' pv' d3 o3 hz f0;rw [List.append_nil] at e1;subst e1;exact ⟨gv,pv',G5.next hz f0,G5.recN f0 r5⟩
 rintro _ aq ⟨v2,rfl,_,bm,ax,G28,x6⟩;refine ⟨v2,rfl,RangeOutB.of G28.mrk (.inl x6) ?_⟩;intro I2 ap z7 c8 p3;have G29:=G28.upd p3;have af:=r4.go (Carry.below (G:=λ k=>w8.heap.size≤k∧k<w9.heap.size) G29.bl (λ k hk=>hk.2));clear G28 x6 p3 G27 y0 f1 g4;obtain ⟨d0,ah,g9,s8⟩:=G29.cz;repeat refine aF ?_
 refine aB 57 ?_;refine aA rfl (cznext_c s8) rfl ?_;rintro _ w6 ⟨a1,n1,c1,a2,n2,c2,e,rfl,d4⟩;rcases d4 with ⟨rfl,it,r,pv',d3,o3,n7,_⟩|⟨rfl,n7,pv',d3,hz,f0⟩
 ·cases n7
 have G6:=G29.next hz f0;have u4:=G6.lt;have a5:=G6.box;have ae:=r4.go (Carry.below (G:=λ k=>w8.heap.size≤k∧k<w9.heap.size) G6.bl (λ k hk=>hk.2));obtain ⟨ga,gc,rfl,y5⟩:=G6.at_;repeat (first|(refine aB 41 ?_;refine aA rfl (kitems_c (y5.go (Carry.grow (aH hu oM hg))) (ae.go (Carry.grow (aH hu oM hg))) rfl) rfl ?_;rintro _ _ ⟨rfl,y9⟩)|refine yC ?_|refine yI λ bk w' hg a0 i0 g0=>?_|refine yJ λ w' hu a0 i0=>?_)
 have GE:=G6.grow ((aH hu oM hg).trans y9);have aj:=GE.lt;refine ⟨GE.mrk,λ wy d7=>⟨(d7.block D oM).trans GE.mrk2,λ wz z1=>?_⟩⟩;exact bA rfl ⟨_,rfl,rfl,aH z1 oM (aH d7 oM (grow_low j4 GE.bl oM))⟩
end Go.Proofs.YtfpadnmdafiddaaGreatDoor
