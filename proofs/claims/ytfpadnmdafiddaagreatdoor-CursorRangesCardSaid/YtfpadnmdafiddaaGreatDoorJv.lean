import Derived.Test.YtfpadnmdafiddaaGreatDoorJ0
import Derived.Test.YtfpadnmdafiddaaGreatDoorJu
import Derived.Test.YtfpadnmdafiddaaGreatDoorJd
import Derived.Test.YtfpadnmdafiddaaGreatDoorJl
import Derived.Test.YtfpadnmdafiddaaGreatDoorJo
import Derived.Test.YtfpadnmdafiddaaGreatDoorJp
set_option linter.all false
set_option maxHeartbeats 16000000
set_option maxRecDepth 100000
namespace Go.Proofs.YtfpadnmdafiddaaGreatDoor
open Go Go.RowKit Go.V
theorem Cz.buts {w w':World} {C:CC} {cb:Nat} {E:CE} {d:Int} {pv:Value} {fs:List (Nd×Int)} {ix:Option Nat} {rm:bQ} {S:Nat→Prop} (z:Cz w C cb E d pv fs ix rm) (b:ButS S w w') (hS:∀ k,S k→(k<C.lo∨cb<k)∧pv.ownBlock≠some k):Cz w' C cb E d pv fs ix rm:=by
 have c:Carry (λ k=>C.lo≤k∧k<cb) w (λ k=>C.lo≤k∧k<cb) w':=Carry.buts b (λ k hk _ hs=>by have:=(hS k hs).1;omega);have a0:C.lo≤cb:=by obtain ⟨_,_,_,_,_,h3,_⟩:=z.ok.wlk;omega
 obtain ⟨cs,h1,h2⟩:=z.cu.row;exact ⟨⟨bO z.cu.blk b (λ e=>by have:=(hS _ e).1;omega),cs,cN h1 (λ k hk hv=>b.block k (aT h1 hv).2 (λ e=>(hS k e).2 hv)),h2.go c⟩,z.ok.go c,z.at_,z.bd,z.d0,z.d1,z.rem⟩
theorem nT {w:World} {L:PL} {g:Pg} (hp:PgW w L g) {t0:Option Nat} {lv:Nat} {l:bQ} {ps:List Nat} (ht:TrAt g t0 lv l ps) (n4:lv≤15) (hl:l.length≤1000) (f5:∀ x∈l,fL x.1∧fL x.2) (G:Nat→Prop) (fa ta:Option Addr) (fn fc tn tc:Nat) (fr to:Bs) (back:Bool) (j0:Int) (hf:Sl G w 1 fa fn fc (bB fr)) (f0:Sl G w 1 ta tn tc (bB to)) (c5:fr.length≤16) (c4:to.length≤16) (hm:0≤j0∧j0≤9223372036854775807) :
  Calls Tryz.prog 54 #[.pointer (some ⟨L.p,0,none⟩),.int .i64 (dC t0),.agg #[.slice fa fn fc,.slice ta tn tc,.bool back,.int .i64 j0]] w (Ret λ v w'=>(∃ a n c,v=.tuple #[.slice a n c,.int .i64 0]∧ItsAt (λ k=>w.heap.size≤k) w' a n c (iM l fr to back j0))∧Grow w w'):=by
 refine V.calls (args:=[_,_,_]) Tryz.func54 rfl Tryz.ntmps54 rfl rfl ?_;repeat (first|refine aF ?_|refine yI λ bk w' hg p0 u0 q0=>?_)
 have y4:=hg;refine aB 55 ?_;refine aA rfl (copen_c (hp.grow hg) ht n4 hl f5 G fa ta fn fc tn tc fr to back j0 (hf.grow hg) (f0.grow hg) c5 c4 hm) rfl ?_;rintro _ w2 ⟨cb,C,E,pv,fs,ix,rfl,j6,r2,j4,n5,h5,h4,rfl,rfl,rfl,rfl,rfl,_,k3⟩;have x0:=hg.trans k3;have d5:w.heap.size≤cb:=by have:=hg.size;omega
 have g6:(eC E.al E.fr E.to C.back).length≤E.al.length:=by
  unfold eC;refine Nat.le_trans (List.length_filter_le _ _) ?_;split<;>simp
 have z1:remL E C 0 ix=iM E.al E.fr E.to C.back C.most:=by
  unfold remL iM;rw [h4,Int.sub_zero]
 have f4:(iM E.al E.fr E.to C.back C.most).length≤1000:=by
  unfold iM;split
  ·rw [List.length_take];omega
  ·omega
 have z:Cz w2 C cb E 0 pv fs ix (iM E.al E.fr E.to C.back C.most):=⟨r2,j4,n5,h5,Int.le_refl _,oM,z1⟩
 have z2:=x0.size;clear p0 hg k3 u0 q0;repeat (first|refine T.seqR ?_|refine yC ?_|refine yI λ bk w' hg p0 u0 q0=>?_)
 obtain ⟨g0,rfl⟩:=yE bk;have f2:Grow w2 w':=hg;have f3:Blk w' g0 54 [.slice none 0 0]:=p0;have y5:w2.heap.size≤g0∧g0<w'.heap.size:=by have:=f3.lt;omega
 refine aB 56 ?_;refine aA rfl (citems_c cb _) rfl ?_;rintro _ w3 ⟨b1,rfl,k5,o3,o2⟩;have m5:=o3.lt;have z3:=o2.size;repeat refine aF ?_
 refine kL (T2.range (ps:=[24]) (lb:=[_]) rfl (Nat.zero_le _) rfl ?_);intro rc w4 o4 e4 j2 j3 s3;obtain ⟨D,hD⟩:∃ D,D=w3.heap.size:=⟨_,rfl⟩
 rw [← hD] at j3 s3 e4 ⊢;have y0:=f2.trans (o2.trans j2);have e2:=x0.trans y0;have u1:=(f3.grow o2).grow j2;have d3:=o3.grow j2;have z4:=z.grow y0;have i4:∀ k,pv.ownBlock=some k→k<g0:=λ k e=>by have:=(r2.own e).2;omega
 have i6:=r2.lt;obtain ⟨f1,w1⟩:∃ t,t=iM E.al E.fr E.to C.back C.most:=⟨_,rfl⟩
 rw [← w1] at z4 f4 ⊢
 refine Calls.mono (cyield_c (D+1) b1 cb C E (λ rm pv w'=>Blk w' b1 97 [.pointer (some ⟨cb,0,none⟩)]∧(∃ d fs ix,Cz w' C cb E d pv fs ix rm)∧(∀ k,pv.ownBlock=some k→k<g0∨D+1<k)∧(∃ a0 gv cs,a0++rm=f1∧Blk w' g0 54 [gv]∧w'.ownsRow (D+2) 58 2 gv a0.length cs∧ItCells (λ k=>(D+1<k∧pv.ownBlock≠some k)∧gv.ownBlock≠some k) w' cs a0∧∀ k,gv.ownBlock=some k→pv.ownBlock≠some k)∧w'.heap[D+1]? = some (.loop (rc .ready none))∧w'.heap[D]? = some (.deferred (some []))∧Grow w w')
  (λ rm w'=>(∃ gv cs,Blk w' g0 54 [gv]∧w'.ownsRow (D+2) 58 2 gv f1.length cs∧ItCells (λ k=>D+1<k) w' cs f1)∧w'.heap[D+1]? = some (.loop (rc .ready none))∧w'.heap[D]? = some (.deferred (some []))∧Grow w w') (λ rm pv w' h=>⟨h.1,h.2.1⟩) ?_ ?_ f1 pv _ ?_) ?_
 ·rintro it rm pv w5 ⟨q1,q2,q3,⟨a0,gv,cs,g1,g2,g3,g4,g5⟩,q5,q6,q7⟩ w6 d' h0 o5 y3 a1 n1 c1 a2 n2 c2 k4 hz f0 h1 h2;have l1:=q1.lt;have l4:=g2.lt;have l5:=(Array.getElem?_eq_some_iff.1 q5).1;have l6:=(Array.getElem?_eq_some_iff.1 q6).1
  have e0:∀ k,g0≤k→k≤D+1→¬ (k=cb∨pv.ownBlock=some k):=λ k u4 t4 e=>by
   rcases e with e|e
   ·omega
   ·rcases q3 k e with e|e<;>omega
  have z6:=f0.but.size;have p1:=bO q1 f0.but (e0 b1 oM oM);have p2:=bO g2 f0.but (e0 g0 oM oM);have p5:w6.heap[D+1]? = some (.loop (rc .ready none)):=(f0.but.block _ l5 (e0 _ oM oM)).trans q5;have p6:w6.heap[D]? = some (.deferred (some [])):=(f0.but.block _ l6 (e0 _ oM oM)).trans q6
  have p3:∀ k,h0.ownBlock=some k→k<g0∨D+1<k:=λ k e=>by
   rcases f0.own k e with e|e
   ·exact q3 k e
   ·omega
  have p7:Grow w w6:=fV q7 f0.but (λ k hk=>by
   rcases hk with e|e
   ·omega
   ·obtain ⟨_,_,_,z5⟩:=q2
    have:=(z5.cu.own e).1;omega)
  have r3:w6.ownsRow (D+2) 58 2 gv a0.length cs:=cN g3 (λ k hk hv=>f0.but.block k (aT g3 hv).2 (λ e=>by
   rcases e with e|e
   ·omega
   ·exact g5 k hv e))
  have t3:∀ k,gv.ownBlock=some k→h0.ownBlock≠some k:=λ k hv e=>by
   have:=(aT g3 hv).2;rcases f0.own k e with e|e
   ·exact g5 k hv e
   ·omega
  have r4:ItCells (λ k=>(D+1<k∧h0.ownBlock≠some k)∧gv.ownBlock≠some k) w6 cs a0:=g4.go ⟨f0.but.size,λ k hk hl=>⟨⟨⟨hk.1.1,λ e=>by
   rcases f0.own k e with e|e
   ·exact hk.1.2 e
   ·omega⟩,hk.2⟩,f0.but.block k hl (λ e=>by
    rcases e with e|e
    ·have:=hk.1.1;omega
    ·exact hk.1.2 e)⟩⟩
  have s1:Sl (λ k=>(D+1<k∧h0.ownBlock≠some k)∧gv.ownBlock≠some k) w6 1 a1 n1 c1 (bB it.1):=h1.go (Carry.mono λ k hk _=>⟨⟨oM,hk.2⟩,λ e=>by have:=(aT g3 e).2;omega⟩);have s2:Sl (λ k=>(D+1<k∧h0.ownBlock≠some k)∧gv.ownBlock≠some k) w6 1 a2 n2 c2 (bB it.2):=h2.go (Carry.mono λ k hk _=>⟨⟨oM,hk.2⟩,λ e=>by have:=(aT g3 e).2;omega⟩);have d2:h0.ownBlock≠some g0:=λ e=>by rcases p3 _ e with e|e<;>omega
  have i3:h0.ownBlock≠some (D+1):=λ e=>by rcases p3 _ e with e|e<;>omega
  have b4:a0.length≤1000:=by have:=congrArg List.length g1;rw [List.length_append] at this;omega
  refine yld_of o4 p5 rfl rfl λ I=>?_;repeat (first|refine aF ?_|refine yI λ bk w' hg p0 u0 q0=>?_|refine yJ λ w' hu p0 u0=>?_)
  have o0:Grow w6 w':=aI hu oM hg;have r1:Blk w' bk 58 [.slice a1 n1 c1,.slice a2 n2 c2]:=p0;have qk:w6.heap.size≤bk∧bk<w'.heap.size:=by have:=r1.lt;omega
  obtain ⟨v5,rfl⟩:=yE w';have h3:=hz.grow o0;clear p0 hu hg;refine ⟨(o0.block _ oM).trans p5,λ w7 m0 p4=>?_⟩;have x1:=(p1.grow o0).upd m0 oM;have x2:=(p2.grow o0).upd m0 oM;have u5:=r1.upd m0 oM;have x3:=cN (aS r3 o0) (w':=w7) (λ k hk hv=>m0.block k oM);have cx:Carry (λ k=>(D+1<k∧h0.ownBlock≠some k)∧gv.ownBlock≠some k) w6 (λ k=>(D+1<k∧h0.ownBlock≠some k)∧gv.ownBlock≠some k) w7:=(Carry.grow o0).trans (Carry.upd m0 (λ k hk _=>by have:=hk.1.1;omega));have x4:=r4.go cx;have y1:=s1.go cx;have y2:=s2.go cx;have xz:=h3.upd m0 oM i3;have xg:Grow w w7:=aI m0 oM (p7.trans o0);have xD:w7.heap[D]? = some (.deferred (some [])):=(m0.block _ oM).trans ((o0.block _ oM).trans p6);have z7:=m0.size;have i0:∀ k,gv.ownBlock=some k→D+2≤k∧k<w7.heap.size:=λ k e=>aT x3 e;obtain ⟨ga,gc,rfl,-⟩:=aN g3;clear m0 o0 p1 p2 r1 r3 r4 s1 s2 hz h3 cx;repeat refine aF ?_
  refine TL.buildSlice rfl rfl rfl rfl rfl ?_;intro b' wa n0 j5 f6 d6 c6;have u2:Blk wa b' 58 [.slice a1 n1 c1,.slice a2 n2 c2]:=j5;have d4:Sl (λ _=>True) wa 2 (some ⟨b',0,none⟩) 1 1 [.slice a1 n1 c1,.slice a2 n2 c2]:=(aU (sz:=2) (m:=1) u2 rfl dM).mono (λ _ _=>trivial);have za:=n0.size;have u3:=aS x3 n0;refine dU (bytes:=48) rfl rfl u3 d4 (by intro u hu;simp only [List.mem_cons,List.not_mem_nil,or_false] at hu;rcases hu with rfl|rfl<;>rfl) (by unfold maxLen;omega) oM oM rfl ?_;intro k6 wb k0 s0 z0;have zb:=s0.size;obtain ⟨o1,m1,rfl,-⟩:=aN k0;have v0:∀ k,k<wa.heap.size→(Value.slice ga a0.length gc).ownBlock≠some k→wb.heap[k]? = wa.heap[k]?:=λ k hk e=>s0.block k hk (λ h=>e h.symm);have s5:(Value.slice ga a0.length gc).ownBlock≠some g0:=λ e=>by have:=i0 _ e;omega
  have e1:(Value.slice ga a0.length gc).ownBlock≠some b1:=λ e=>by have:=i0 _ e;omega
  have eD:(Value.slice ga a0.length gc).ownBlock≠some D:=λ e=>by have:=i0 _ e;omega
  have r5:(Value.slice ga a0.length gc).ownBlock≠some (D+1):=λ e=>by have:=i0 _ e;omega
  have t5:=dO (x2.grow n0) (v0 g0 oM s5);repeat (first|refine aF ?_|refine yJ λ w' hu p0 u0=>?_)
  have m3:ButS (λ k=>(Value.slice ga a0.length gc).ownBlock=some k) wa wb:=⟨s0.os,s0.tape,s0.output,s0.size,v0⟩
  have zz:=(xz.grow n0).buts m3 (λ k hk=>⟨by have:=(i0 k hk).1;omega,t3 k hk⟩);have a4:=(xz.grow n0).cu
  have gd:∀ k,(Value.slice o1 (a0.length+1) m1).ownBlock=some k→h0.ownBlock≠some k:=λ k h1 h2=>by
   have q4:=(a4.own h2).2;have s4:(Value.slice ga a0.length gc).ownBlock≠some k:=λ e=>t3 k e h2;exact ((z0 (λ _=>True)).blk k ⟨trivial,s4⟩ q4).1.2 h1
  have cI:=(Carry.grow n0:Carry (λ k=>(D+1<k∧h0.ownBlock≠some k)∧(Value.slice ga a0.length gc).ownBlock≠some k) w7 _ wa).trans (z0 (λ k=>D+1<k∧h0.ownBlock≠some k))
  have v4:ItCells (λ k=>(D+1<k∧h0.ownBlock≠some k)∧(Value.slice o1 (a0.length+1) m1).ownBlock≠some k) wb (cs++[.slice a1 n1 c1,.slice a2 n2 c2]) (a0++[it]) :=
   ItCells.append (x4.go cI) ⟨⟨_,_,_,rfl,y1.go cI⟩,⟨_,_,_,rfl,y2.go cI⟩,trivial⟩
  have h6:=λ k (e:(Value.slice o1 (a0.length+1) m1).ownBlock=some k)=>(aT k0 e).1;refine ⟨?_,λ wz l0 m4=>.inl ⟨rfl,?_,⟨_,_,_,(zz.upd hu oM d2).upd l0 oM i3⟩,p3,⟨a0++[it],.slice o1 (a0.length+1) m1,cs++[.slice a1 n1 c1,.slice a2 n2 c2],by rw [List.append_assoc];exact g1,p0.upd l0 oM,?_,?_,gd⟩,m4,?_,?_⟩⟩
  ·rw [hu.block _ oM,v0 _ oM r5,n0.block _ oM];exact p4
  ·exact ((dO (x1.grow n0) (v0 b1 oM e1)).upd hu oM).upd l0 oM
  ·rw [List.length_append];exact cN (cN k0 (w':=w') (λ k hk hv=>hu.block k oM)) (λ k hk hv=>l0.block k oM)
  ·exact (v4.go (Carry.upd hu (λ k hk _=>by have:=hk.1.1;omega))).go (Carry.upd l0 (λ k hk _=>by have:=hk.1.1;omega))
  ·rw [l0.block _ oM,hu.block _ oM,v0 _ oM eD,n0.block _ oM];exact xD
  ·exact aI l0 oM (aI hu oM (fV (xg.trans n0) m3 (λ k hk=>by have:=(i0 k hk).1;omega)))
 ·rintro pv w5 ⟨q1,q2,q3,⟨a0,gv,cs,g1,g2,g3,g4,g5⟩,q5,q6,q7⟩ w6 d' h0 o5 y3 hz f0;have l4:=g2.lt;have l5:=(Array.getElem?_eq_some_iff.1 q5).1;have l6:=(Array.getElem?_eq_some_iff.1 q6).1
  have e0:∀ k,g0≤k→k≤D+1→¬ (k=cb∨pv.ownBlock=some k):=λ k u4 t4 e=>by
   rcases e with e|e
   ·omega
   ·rcases q3 k e with e|e<;>omega
  have p2:=bO g2 f0.but (e0 g0 oM oM);rw [List.append_nil] at g1;subst g1
  refine ⟨⟨gv,cs,p2,cN g3 (λ k hk hv=>f0.but.block k (aT g3 hv).2 (λ e=>by
   rcases e with e|e
   ·omega
   ·exact g5 k hv e)),g4.go ⟨f0.but.size,λ k hk hl=>⟨hk.1.1,f0.but.block k hl (λ e=>by
    rcases e with e|e
    ·have:=hk.1.1;omega
    ·exact hk.1.2 e)⟩⟩⟩,(f0.but.block _ l5 (e0 _ oM oM)).trans q5,(f0.but.block _ l6 (e0 _ oM oM)).trans q6,fV q7 f0.but (λ k hk=>by
   rcases hk with e|e
   ·omega
   ·obtain ⟨_,_,_,z5⟩:=q2
    have:=(z5.cu.own e).1;omega)⟩
 ·exact ⟨d3,⟨_,_,_,z4⟩,λ k e=>.inl (i4 k e),⟨[],.slice none 0 0,[],rfl,u1,World.ownsRow_nil _ _ _ _,trivial,λ k e=>by cases e⟩,j3,s3,e2⟩
 ·rintro _ w5 ⟨v,rfl,x5,⟨gv,cs,g2,g3,g4⟩,q5,q6,q7⟩;obtain ⟨ga,gc,rfl,a5⟩:=aN g3;refine ⟨v,rfl,q6,.inl ⟨q5,λ I w6 j1=>?_⟩⟩;have a6:=g2.upd j1 oM;repeat refine aF ?_
  refine ⟨?_,λ wz l0=>?_⟩
  ·rw [j1.block _ oM];exact q6
  ·have cc:Carry (λ k=>D+1<k) w5 (λ k=>w.heap.size≤k) wz:=(Carry.upd j1 (λ k hk _=>by omega)).trans ((Carry.upd l0 (λ k hk _=>by omega)).trans (Carry.mono λ k hk _=>by omega));exact eZ rfl rfl ⟨_,rfl,⟨ga,_,gc,rfl,⟨cs,(a5.mono (λ k hk=>by have:=hk.1;omega)).go cc,g4.go cc⟩⟩,aI l0 oM (aI j1 oM q7)⟩
def keysB (l:bQ):Bs:=l.flatMap (·.1)
theorem keysB_len (l:bQ) (h:∀ x∈l,x.1.length≤16):(keysB l).length≤16*l.length:=by
 induction l with
 | nil=>simp [keysB]
 | cons x r ih =>
  have h1:=h x sM;have h2:=ih (λ y hy=>h y (List.mem_cons_of_mem _ hy));simp only [keysB,List.flatMap_cons,List.length_append,List.length_cons] at h2 ⊢;omega
theorem rngL_mem {l:bQ} {fr to:Bs} {back:Bool} {a0:Int} {x:Bs×Bs} (h:x∈iM l fr to back a0):x∈l:=by
 have hr:∀ y∈eC l fr to back,y∈l:=λ y hy=>by
  unfold eC at hy;have:=(List.mem_filter.1 hy).1;split at this
  ·exact List.mem_reverse.1 this
  ·exact this
 unfold iM at h;split at h
 ·exact hr x (List.mem_of_mem_take h)
 ·exact hr x h
theorem rngL_len (l:bQ) (fr to:Bs) (back:Bool) (a0:Int):(iM l fr to back a0).length≤l.length:=by
 have hr:(eC l fr to back).length≤l.length:=by
  unfold eC;refine Nat.le_trans (List.length_filter_le _ _) ?_;split<;>simp
 unfold iM;split
 ·rw [List.length_take];omega
 ·exact hr
theorem keys_c {w:World} {L:PL} {g:Pg} (hp:PgW w L g) {e0:Option Nat} {lv:Nat} {l:bQ} {ps:List Nat} (ht:TrAt g e0 lv l ps) (p0:lv≤15) (hl:l.length≤1000) (z0:∀ x∈l,fL x.1∧fL x.2) (G:Nat→Prop) (fa ta:Option Addr) (fn fc tn tc:Nat) (fr to:Bs) (back:Bool) (most:Int) (hf:Sl G w 1 fa fn fc (bB fr)) (m0:Sl G w 1 ta tn tc (bB to)) (x0:fr.length≤16) (n0:to.length≤16) (hm:0≤most∧most≤9223372036854775807) :
  Calls Tryz.prog 131 #[.pointer (some ⟨L.p,0,none⟩),.int .i64 (dC e0),.agg #[.slice fa fn fc,.slice ta tn tc,.bool back,.int .i64 most]] w (Ret λ v w'=>v=.string (txt (keysB (iM l fr to back most)))∧Grow w w'):=by
 have s0:∀ x∈l,x.1.length≤16∧x.2.length≤32:=λ x hx=>⟨(eB (ht.items x hx).1).2,gW (ht.items x hx).2⟩
 refine V.calls (args:=[_,_,_]) Tryz.func131 rfl Tryz.ntmps131 rfl rfl ?_;repeat (first|refine aF ?_|refine yI λ bk w' hg b1 o0 i0=>?_)
 refine aB 54 ?_;refine aA rfl (nT (hp.grow hg) ht p0 hl z0 G fa ta fn fc tn tc fr to back most (hf.grow hg) (m0.grow hg) x0 n0 hm) rfl ?_;rintro _ w2 ⟨⟨a,n,c,rfl,a0⟩,l0⟩;have v0:=hg.trans l0;have hn:=a0.len;obtain ⟨R,hR⟩:∃ R,R=iM l fr to back most:=⟨_,rfl⟩
 have h0:∀ x∈R,x.1.length≤16:=λ x hx=>(s0 x (rngL_mem (by rw [← hR];exact hx))).1;have g1:R.length≤1000:=by rw [hR];exact Nat.le_trans (rngL_len _ _ _ _ _) hl
 rw [← hR] at a0 hn ⊢;subst hn;obtain ⟨cs,j0,y0⟩:=a0.ex;clear b1 hg l0 o0 i0;repeat refine aF ?_
 refine aX (S:=Nat) (λ i=>[(10,.int .i64 (i:Int)),(9,.string (txt (keysB (R.take i)))),(7,.slice a R.length c)]) (λ i w1=>i≤R.length∧w2=w1) (λ i=>R.length-i) 0 ⟨rfl,rfl,rfl,trivial⟩ ⟨Nat.zero_le _,rfl⟩ ?_;rintro i w3 ⟨hi,rfl⟩;by_cases k0:i<R.length;rotate_left
 ·obtain rfl:i=R.length:=by omega
  repeat refine aF ?_
  rw [List.take_length];exact bA rfl ⟨_,rfl,rfl,v0⟩
 obtain ⟨x,hx⟩:∃ x,R[i]? = some x:=⟨_,List.getElem?_eq_getElem k0⟩
 obtain ⟨kv,vv,f0,f1,⟨ka,kn,kc,rfl,q0⟩,e1⟩:=y0.at' hx;rw [Nat.mul_comm] at f0;have u0:=h0 x (List.mem_of_getElem? hx);have t0:=keysB_len (R.take i) (λ y hy=>h0 y (List.mem_of_mem_take hy));rw [List.length_take] at t0
 have g0:keysB (R.take (i+1))=keysB (R.take i)++x.1:=by
  rw [eA hx];simp [keysB]
 repeat (first|(refine aH ?_;refine aC (j:=i) rfl rfl rfl k0 rfl ⟨_,_,j0⟩ rfl ?_)|(refine bN ?_;refine bJ (o:=i*2) rfl j0 f0 rfl ?_)|(refine aO ?_;refine aQ rfl (j0.row.cell f0) rfl ?_)|refine gJ rfl q0 rfl ?_|(refine nZ ?_;refine TL.addS rfl rfl oM rfl ?_)|refine yC ?_)
 rw [← g0];exact aE (i+1) ⟨rfl,rfl,rfl,trivial⟩ ⟨oM,rfl⟩ oM
def lit1 (x:Bs×Bs):Bool:=decide (x.1.length≤100)&&decide (x.2.length≤100)
def lightB (l:bQ):Bool:=decide (l.length≤60)&&l.all lit1
theorem light_c {F:Nat→Prop} {w:World} {a:Option Addr} {n c:Nat} {l:bQ} (h:ItsAt F w a n c l) :
  Calls Tryz.prog 52 #[.slice a n c] w (Ret λ v w'=>v=.bool (lightB l)∧w=w'):=by
 obtain ⟨cs,a0,l0⟩:=h.ex;have hn:=h.len;have m0:=a0.cap;have j0:=a0.max;subst hn;refine V.calls (args:=[_]) Tryz.func52 rfl Tryz.ntmps52 rfl rfl ?_;by_cases p0:60<l.length
 ·repeat refine aF ?_
  exact bA rfl ⟨_,rfl,by simp [lightB];omega,rfl⟩
 repeat refine aF ?_
 refine aX (S:=Nat) (λ i=>[(3,.int .i64 (i:Int)),(0,.slice a l.length c)]) (λ i w1=>i≤l.length∧w=w1∧(l.take i).all lit1=true) (λ i=>l.length-i) 0 ⟨rfl,rfl,trivial⟩ ⟨Nat.zero_le _,rfl,rfl⟩ ?_;rintro i w3 ⟨hi,rfl,e0⟩;by_cases h0:i<l.length;rotate_left
 ·obtain rfl:i=l.length:=by omega
  rw [List.take_length] at e0;repeat refine aF ?_
  exact bA rfl ⟨_,rfl,by rw [lightB,e0,decide_eq_true oM];rfl,rfl⟩
 obtain ⟨x,hx⟩:∃ x,l[i]? = some x:=⟨_,List.getElem?_eq_getElem h0⟩
 obtain ⟨kv,vv,f0,f1,hk,hv⟩:=l0.at' hx;obtain ⟨ka,kc,rfl,o0⟩:=hk.sl;obtain ⟨va,vc,rfl,n0⟩:=hv.sl;rw [Nat.mul_comm] at f0 f1
 have g0:(l.take (i+1)).all lit1=lit1 x:=by
  rw [eA hx,List.all_append,e0];simp
 have i0:lit1 x=false→lightB l=false:=λ e=>by
  have:l.all lit1=false:=by
   rw [List.all_eq_false];exact ⟨x,List.mem_of_getElem? hx,by rw [e];simp⟩
  rw [lightB,this,Bool.and_false]
 by_cases h1:x.1.length≤100
 ·by_cases h2:x.2.length≤100
  ·have k0:lit1 x=true:=by simp [lit1,h1,h2]
   repeat (first|(refine aH ?_;refine aC (j:=i) rfl rfl rfl h0 rfl ⟨_,_,a0⟩ rfl ?_)|(refine bN ?_;refine bJ (o:=i*2) rfl a0 f0 rfl ?_)|(refine aO ?_;first|refine aQ rfl (a0.row.cell f0) rfl ?_|refine aQ rfl (a0.row.cell f1) rfl ?_)|refine yC ?_)
   exact aE (i+1) ⟨rfl,rfl,trivial⟩ ⟨oM,rfl,by rw [g0,k0]⟩ oM
  ·repeat (first|(refine aH ?_;refine aC (j:=i) rfl rfl rfl h0 rfl ⟨_,_,a0⟩ rfl ?_)|(refine bN ?_;refine bJ (o:=i*2) rfl a0 f0 rfl ?_)|(refine aO ?_;first|refine aQ rfl (a0.row.cell f0) rfl ?_|refine aQ rfl (a0.row.cell f1) rfl ?_)|refine yC ?_)
   exact bA rfl ⟨_,rfl,by rw [i0 (by simp [lit1,h2])],rfl⟩
 ·repeat (first|(refine aH ?_;refine aC (j:=i) rfl rfl rfl h0 rfl ⟨_,_,a0⟩ rfl ?_)|(refine bN ?_;refine bJ (o:=i*2) rfl a0 f0 rfl ?_)|(refine aO ?_;refine aQ rfl (a0.row.cell f0) rfl ?_)|refine yC ?_)
  exact bA rfl ⟨_,rfl,by rw [i0 (by simp [lit1,h1])],rfl⟩
def li3:bQ:=[([97],[]),([99],[]),([101],[])]
theorem gX {F:Nat→Prop} {w:World}:Sl F w 1 none 0 0 (bB []):=⟨by simp [bB],Nat.le_refl _,Nat.zero_le _,λ _=>rfl,by simp [Row,bB]⟩
theorem li3_by:∀ x∈li3,fL x.1∧fL x.2:=by
 intro x hx;simp only [li3,List.mem_cons,List.not_mem_nil,or_false] at hx;rcases hx with rfl|rfl|rfl<;>exact ⟨λ y hy=>by simp at hy;omega,λ y hy=>by simp at hy⟩
theorem lives13v_c (w:World) (a0:TabAt w) :
  Calls Tryz.prog 51 #[] w (Ret λ v w'=>v=.bool true∧Grow w w'):=by
 have h0:0<w.heap.size:=a0.1;refine V.calls (args:=[]) Tryz.func51 rfl Tryz.ntmps51 rfl rfl ?_;repeat refine aF ?_
 refine TL.buildSlice rfl rfl rfl rfl rfl ?_;intro b1 w1 a4 g4 z4 t4 _;refine jO rfl (show Blk w1 b1 5 (bB [97]) from g4) rfl oM (by unfold maxLen;omega) rfl ?_;intro w2 e2 t3;have g2:Grow w w2:=aI e2 oM a4;have n4:=g2.size;have g5:b1<w2.heap.size:=by have:=e2.size;omega
 repeat refine aF ?_
 refine TL.buildSlice rfl rfl rfl rfl rfl ?_;intro b3 w3 z3 f4 y4 s4 _;refine jO rfl (show Blk w3 b3 5 (bB [99]) from f4) rfl oM (by unfold maxLen;omega) rfl ?_;intro w4 d2 s3;have f2:Grow w2 w4:=aI d2 oM z3;have m4:=f2.size;have f5:b3<w4.heap.size:=by have:=d2.size;omega
 repeat refine aF ?_
 refine TL.buildSlice rfl rfl rfl rfl rfl ?_;intro b5 w5 y3 e4 x4 r4 _;refine jO rfl (show Blk w5 b5 5 (bB [101]) from e4) rfl oM (by unfold maxLen;omega) rfl ?_;intro w6 z1 r3;have y1:Grow w4 w6:=aI z1 oM y3;have l4:=y1.size;have d5:b5<w6.heap.size:=by have:=z1.size;omega
 repeat refine aF ?_
 refine TL.buildSlice rfl rfl rfl rfl rfl ?_;intro b7 w7 g1 d4 v4 q4 _;have s1:Blk w7 b7 58 [.slice (some ⟨b1,0,none⟩) 1 1,.slice none 0 0,.slice (some ⟨b3,0,none⟩) 1 1,.slice none 0 0,.slice (some ⟨b5,0,none⟩) 1 1,.slice none 0 0]:=d4;have r2:=(f2.trans y1).trans g1;have i4:=y1.trans g1;have e0:Grow w w7:=g2.trans r2;have e1:ItsAt (λ _=>True) w7 (some ⟨b7,0,none⟩) 3 3 li3:=⟨_,(aU (sz:=2) (m:=3) s1 rfl dM).mono (λ _ _=>trivial),⟨_,_,_,rfl,(t3.mono (λ _ _=>trivial)).grow r2⟩,⟨_,_,_,rfl,gX⟩,⟨_,_,_,rfl,(s3.mono (λ _ _=>trivial)).grow i4⟩,⟨_,_,_,rfl,gX⟩,⟨_,_,_,rfl,(r3.mono (λ _ _=>trivial)).grow g1⟩,⟨_,_,_,rfl,gX⟩,trivial⟩
 refine aB 53 ?_;refine aA rfl (planted_c (a0.keep (e0.block 0 a0.1) e0.size) e1 li3_by dM dM) rfl ?_;rintro _ w8 ⟨L,R,k3,g,lv,ps,rfl,m0,b4,a5,k0,c5,x3⟩;rw [show iD li3=li3 by decide] at k0;have f1:=e0.trans x3;have q2:Grow w8 w8:=Grow.refl _;repeat refine aF ?_
 refine TL.buildSlice rfl rfl rfl rfl rfl ?_;intro b9 w9 u3 c4 u4 p4 _;refine eK rfl rfl rfl ?_;refine jO rfl (show Blk w9 b9 5 (bB [98]) from c4) rfl oM (by unfold maxLen;omega) rfl ?_;intro j3 q0 u0;have i0:Grow w8 j3:=aI q0 oM u3;have x2:=i0.size;repeat refine aF ?_
 have z0:=(m0.grow (q2.trans i0)).pw;refine aB 131 ?_;refine aA rfl (keys_c z0 k0 oM dM li3_by (λ _=>True) _ _ _ _ _ _ [98] [] false 0 (u0.mono (λ _ _=>trivial)) gX dM dM dM) rfl ?_;rintro _ i3 ⟨rfl,r1⟩;rw [show keysB (iM li3 [98] [] false 0)=[99,101] by decide];have o2:=(q2.trans i0).trans r1;repeat (first|(refine kB ?_;refine TL.eqS (s:=txt [99,101]) (t:=txt [99,101]) (b:=true) rfl rfl sM rfl ?_)|refine yC ?_)
 refine TL.buildSlice rfl rfl rfl rfl rfl ?_;intro k4 h3 q1 x1 q3 o3 _;refine eK rfl rfl rfl ?_;refine jO rfl (show Blk h3 k4 5 (bB [99]) from x1) rfl oM (by unfold maxLen;omega) rfl ?_;intro g3 p0 t0;have g0:Grow i3 g3:=aI p0 oM q1;have u2:=g0.size;repeat (refine yC ?_)
 have y0:=(m0.grow (o2.trans g0)).pw;refine aB 131 ?_;refine aA rfl (keys_c y0 k0 oM dM li3_by (λ _=>True) _ _ _ _ _ _ [] [99] false 0 gX (t0.mono (λ _ _=>trivial)) dM dM dM) rfl ?_;rintro _ n0 ⟨rfl,o1⟩;rw [show keysB (iM li3 [] [99] false 0)=[97] by decide];have j2:=(o2.trans g0).trans o1;repeat (first|(refine kB ?_;refine TL.eqS (s:=txt [97]) (t:=txt [97]) (b:=true) rfl rfl sM rfl ?_)|refine yC ?_)
 obtain ⟨f3,j0⟩:∃ y,y=n0:=⟨n0,rfl⟩
 have l0:Grow n0 f3:=by rw [j0];exact Grow.refl _
 rw [← j0];have x0:=(m0.grow (j2.trans l0)).pw;refine aB 131 ?_;refine aA rfl (keys_c x0 k0 oM dM li3_by (λ _=>True) _ _ _ _ _ _ [] [] true 0 gX gX dM dM dM) rfl ?_;rintro _ d3 ⟨rfl,m1⟩;rw [show keysB (iM li3 [] [] true 0)=[101,99,97] by decide];have h2:=(j2.trans l0).trans m1;repeat (first|(refine kB ?_;refine TL.eqS (s:=txt [101,99,97]) (t:=txt [101,99,97]) (b:=true) rfl rfl sM rfl ?_)|refine yC ?_)
 refine TL.buildSlice rfl rfl rfl rfl rfl ?_;intro j4 z2 j1 u1 p3 m3 _;refine eK rfl rfl rfl ?_;refine jO rfl (show Blk z2 j4 5 (bB [98]) from u1) rfl oM (by unfold maxLen;omega) rfl ?_;intro y2 o0 s0;have f0:Grow d3 y2:=aI o0 oM j1;have s2:=f0.size;repeat (refine yC ?_)
 have v0:=(m0.grow (h2.trans f0)).pw;refine aB 131 ?_;refine aA rfl (keys_c v0 k0 oM dM li3_by (λ _=>True) _ _ _ _ _ _ [98] [] true 1 (s0.mono (λ _ _=>trivial)) gX dM dM dM) rfl ?_;rintro _ o4 ⟨rfl,h1⟩;rw [show keysB (iM li3 [98] [] true 1)=[101] by decide];have h4:=(h2.trans f0).trans h1;repeat (first|(refine kB ?_;refine TL.eqS (s:=txt [101]) (t:=txt [101]) (b:=true) rfl rfl sM rfl ?_)|refine yC ?_)
 exact bA rfl ⟨_,rfl,rfl,f1.trans h4⟩
theorem kitem_c {F G:Nat→Prop} {w:World} {a1 a2 b1 b2:Option Addr} {n1 c1 n2 c2 m1 d1 m2 d2:Nat} {it:Bs×Bs} (h1:Sl F w 1 a1 n1 c1 (bB it.1)) (h2:Sl F w 1 a2 n2 c2 (bB it.2)) (k1:Sl G w 1 b1 m1 d1 (bB it.1)) (k2:Sl G w 1 b2 m2 d2 (bB it.2)) :
  Calls Tryz.prog 59 #[.agg #[.slice a1 n1 c1,.slice a2 n2 c2],.agg #[.slice b1 m1 d1,.slice b2 m2 d2]] w (Ret λ v w'=>v=.bool true∧Grow w w'):=by
 refine V.calls (args:=[_,_]) Tryz.func59 rfl Tryz.ntmps59 rfl rfl ?_;repeat (first|(refine dS ?_;first|refine gJ rfl (h1.grow yG) rfl ?_|refine gJ rfl (h2.grow yG) rfl ?_|refine gJ rfl (k1.grow yG) rfl ?_|refine gJ rfl (k2.grow yG) rfl ?_)|(refine kB ?_;refine TL.eqS (b:=true) rfl rfl sM rfl ?_)|refine yC ?_|refine yI λ bk w' hg f0 e0 a0=>?_)
 exact bA rfl ⟨_,rfl,rfl,yG⟩
theorem ItsAt.item {F:Nat→Prop} {w:World} {a:Option Addr} {n c:Nat} {l:bQ} (h:ItsAt F w a n c l) {i:Nat} {x:Bs×Bs} (hx:l[i]? = some x):∃ ka kc va vc cs,Sl F w 2 a n c cs∧(∀ j u,[Value.slice ka x.1.length kc,.slice va x.2.length vc][j]? = some u→cs[i*2+j]? = some u)∧Sl F w 1 ka x.1.length kc (bB x.1)∧Sl F w 1 va x.2.length vc (bB x.2):=by
 obtain ⟨cs,g0,h0⟩:=h.ex;obtain ⟨kv,vv,f0,f1,hk,hv⟩:=h0.at' hx;obtain ⟨ka,kc,rfl,e0⟩:=hk.sl;obtain ⟨va,vc,rfl,a0⟩:=hv.sl;rw [Nat.mul_comm] at f0 f1;exact ⟨ka,kc,va,vc,cs,g0,two_at f0 f1,e0,a0⟩
theorem kitems_c {F G:Nat→Prop} {w:World} {a b:Option Addr} {n c m d:Nat} {l r:bQ} (h1:ItsAt F w a n c l) (h2:ItsAt G w b m d r) (k0:l=r) :
  Calls Tryz.prog 41 #[.slice a n c,.slice b m d] w (Ret λ v w'=>v=.bool true∧Grow w w'):=by
 have e1:=h1.len;have e2:=h2.len;have l1:n≤9223372036854775807:=by obtain ⟨cs,l0,_⟩:=h1.ex;exact l0.le
 subst k0;subst e1;subst e2;refine V.calls (args:=[_,_]) Tryz.func41 rfl Tryz.ntmps41 rfl rfl ?_;have hq:(((l.length:Nat):Int) != ((l.length:Nat):Int))=false:=by simp
 repeat refine aF ?_
 refine aX (S:=Nat) (λ i=>[(5,.int .i64 (i:Int)),(1,.slice b l.length d),(0,.slice a l.length c)]) (λ i w2=>i≤l.length∧Grow w w2) (λ i=>l.length-i) 0 ⟨rfl,rfl,rfl,trivial⟩ ⟨Nat.zero_le _,Grow.refl _⟩ ?_;rintro i w2 ⟨hi,hg⟩;by_cases e0:i<l.length
 ·obtain ⟨x,hx⟩:∃ q,l[i]? = some q:=⟨_,List.getElem?_eq_getElem e0⟩
  obtain ⟨ka,kc,va,vc,cs,s1,s2,s3,s4⟩:=(h1.go (Carry.grow hg)).item hx;obtain ⟨j0,i0,h0,g0,o0,q1,q2,q3,q4⟩:=(h2.go (Carry.grow hg)).item hx;repeat refine aF ?_
  apply T.any 10 [is (.slice a l.length c),is (.int .i64 (i:Int)),is (.pointer (some (at' a (i*2)))),is (.agg #[.slice ka x.1.length kc,.slice va x.2.length vc]),is (.slice b l.length d),is (.int .i64 (i:Int)),is (.pointer (some (at' b (i*2)))),is (.agg #[.slice j0 x.1.length i0,.slice h0 x.2.length g0]),is (.bool true),is (.bool false)]
  ·rfl
  ·repeat' (first|exact aM|refine aK ?_ ?_)
   iterate 2
    ·refine yQ λ wq _ _ a0=>?_;repeat refine aF ?_
     exact aD rfl yG rfl
   ·refine yQ λ wq _ _ a0=>?_;refine aC (j:=i) rfl rfl rfl e0 rfl ⟨_,_,s1.grow a0⟩ rfl ?_;repeat refine aF ?_
    exact aD rfl yG rfl
   ·refine yQ λ wq _ _ a0=>?_;refine cB (o:=i*2) rfl (s1.grow a0) s2 rfl rfl ?_;repeat refine aF ?_
    exact aD rfl yG rfl
   iterate 2
    ·refine yQ λ wq _ _ a0=>?_;repeat refine aF ?_
     exact aD rfl yG rfl
   ·refine yQ λ wq _ _ a0=>?_;refine aC (j:=i) rfl rfl rfl e0 rfl ⟨_,_,q1.grow a0⟩ rfl ?_;repeat refine aF ?_
    exact aD rfl yG rfl
   ·refine yQ λ wq _ _ a0=>?_;refine cB (o:=i*2) rfl (q1.grow a0) q2 rfl rfl ?_;repeat refine aF ?_
    exact aD rfl yG rfl
   ·refine yQ λ wq _ _ a0=>?_;refine aB 59 ?_;refine aA rfl (kitem_c (s3.grow a0) (s4.grow a0) (q3.grow a0) (q4.grow a0)) rfl ?_;rintro _ w6 ⟨rfl,f0⟩;repeat refine aF ?_
    exact aD rfl f0 rfl
   ·refine yQ λ wq _ _ a0=>?_;repeat refine aF ?_
    exact aD rfl yG rfl
  ·intro w6 m0 n0 f0 _ _;((refine yT ?_))
   repeat refine aF ?_
   exact aE (i+1) ⟨rfl,rfl,rfl,trivial⟩ ⟨oM,hg.trans f0⟩ oM
 ·obtain rfl:i=l.length:=by omega
  repeat refine aF ?_
  exact bA rfl ⟨_,rfl,rfl,hg⟩
theorem klt_cons {a b:Nat} {x y:Bs}:eS (a::x) (b::y)↔a<b∨a=b∧eS x y:=by
 unfold eS;simp only [bY];split
 ·rename_i h;simp [h]
 ·rename_i h;split
  ·rename_i h2;refine ⟨λ e=>by omega,λ e=>?_⟩;rcases e with e|⟨e,_⟩<;>omega
  ·rename_i h2;have:a=b:=by omega
   subst this;simp
theorem less_txt:∀ {l r:Bs},(∀ x∈l,x<256)→(∀ x∈r,x<256)→Op.bytesLess (txt l).toList (txt r).toList=decide (eS l r)
 | l,r,hl,hr=>by
  rw [txt_list,txt_list]
  induction l generalizing r with
  | nil =>
   cases r with
   | nil=>simp [Op.bytesLess,eS,bY]
   | cons b y=>simp [Op.bytesLess,eS,bY]
  | cons a x ih =>
   cases r with
   | nil=>simp [Op.bytesLess,eS,bY]
   | cons b y =>
    have ha:a<256:=hl a sM;have hb:b<256:=hr b sM
    have h1:(UInt8.ofNat a<UInt8.ofNat b)↔a<b:=by
     rw [UInt8.lt_iff_toNat_lt,UInt8.toNat_ofNat_of_lt' ha,UInt8.toNat_ofNat_of_lt' hb]
    have h2:(UInt8.ofNat a==UInt8.ofNat b)=decide (a=b):=by
     by_cases h:a=b
     ·subst h;simp
     ·rw [decide_eq_false h,beq_eq_false_iff_ne];intro e;have:=congrArg UInt8.toNat e;rw [UInt8.toNat_ofNat_of_lt' ha,UInt8.toNat_ofNat_of_lt' hb] at this;exact h this
    have h3:=ih (r:=y) (λ z hz=>hl z (List.mem_cons_of_mem _ hz)) (λ z hz=>hr z (List.mem_cons_of_mem _ hz));simp only [List.map_cons,Op.bytesLess,h2,h3];rw [Bool.eq_iff_iff];simp only [Bool.or_eq_true,Bool.and_eq_true,decide_eq_true_eq,h1,klt_cons]
def HasOk (F:Nat→Prop) (w:World) (f:Bs→Option Value) (its:bQ):Prop:=∀ k,(f k=none∧∀ y∈its,y.1≠k)∨∃ u v,f k=some u∧(k,v)∈its∧BsAt F w u v
theorem HasOk.go {F F':Nat→Prop} {w w':World} {f:Bs→Option Value} {its:bQ} (h:HasOk F w f its) (g:Carry F w F' w'):HasOk F' w' f its:=λ k=>by
 rcases h k with h|⟨u,v,h1,h2,h3⟩
 ·exact .inl h
 ·exact .inr ⟨u,v,h1,h2,h3.go g⟩
theorem HasOk.put {F:Nat→Prop} {w:World} {f:Bs→Option Value} {its:bQ} (h:HasOk F w f its) (hs:Srt its) {key v:Bs} {u:Value} (hu:BsAt F w u v):HasOk F w (upG f key u) (hO key v its):=λ k=>by
 by_cases hk:k=key
 ·subst hk;exact .inr ⟨u,v,by simp [upG],(insI_iff hs).2 (.inl rfl),hu⟩
 ·rcases h k with ⟨h1,h2⟩|⟨u',v',h1,h2,h3⟩
  ·refine .inl ⟨by unfold upG;rw [if_neg hk];exact h1,λ y hy=>?_⟩;rcases (insI_iff hs).1 hy with rfl|⟨hy,_⟩
   ·exact λ e=>hk e.symm
   ·exact h2 y hy
  ·exact .inr ⟨u',v',by unfold upG;rw [if_neg hk];exact h1,(insI_iff hs).2 (.inr ⟨h2,hk⟩),h3⟩
theorem HasOk.keys {F:Nat→Prop} {w:World} {f:Bs→Option Value} {its:bQ} (h:HasOk F w f its) (k:Bs):(∃ v,f k=some v)↔k∈its.map (·.1):=by
 rcases h k with ⟨h1,h2⟩|⟨u,v,h1,h2,h3⟩
 ·rw [h1]
  exact ⟨(λ ⟨v,e⟩=>by cases e),λ hk=>by
   obtain ⟨y,hy,e⟩:=List.mem_map.1 hk
   exact absurd e (h2 y hy)⟩
 ·exact ⟨λ _=>List.mem_map.2 ⟨_,h2,rfl⟩,λ _=>⟨u,h1⟩⟩
def rootVs (rs:List (Option Nat)):List Value:=rs.map λ r=>.int .i64 (dC r)
def txtVs (ts:List Bs):List Value:=ts.map λ t=>.string (txt t)
def Fv (L:PL) (m:Nat) (rv tv:Value) (k:Nat):Prop:=¬ L.S k∧k≠m∧rv.ownBlock≠some k∧tv.ownBlock≠some k
structure Hd (B:Nat) (v:World) (L:PL) (m:Nat) (rv tv:Value) (rs:List (Option Nat)) (ts:List Bs) (f:Bs→Option Value) (its:bQ):Prop where
 r:v.ownsRow B 3 1 rv rs.length (rootVs rs)
 t:v.ownsRow B 9 1 tv ts.length (txtVs ts)
 rn:∀ k,rv.ownBlock=some k→¬ L.S k∧k≠m∧tv.ownBlock≠some k
 tn:∀ k,tv.ownBlock=some k→¬ L.S k∧k≠m
 dn:rv.ownBlock≠some L.d∧tv.ownBlock≠some L.d
 mp:MapG keyS okS v m f
 mn:¬ L.S m∧B≤m∧m≠L.d
 has:HasOk (Fv L m rv tv) v f its
variable {B:Nat} {v v':World} {L:PL} {m:Nat} {rv tv:Value} {rs:List (Option Nat)} {ts:List Bs} {f:Bs→Option Value} {its:bQ}
theorem Hd.grow (h:Hd B v L m rv tv rs ts f its) (g:Grow v v'):Hd B v' L m rv tv rs ts f its :=
 ⟨aS h.r g,aS h.t g,h.rn,h.tn,h.dn,h.mp.grow g,h.mn,h.has.go (Carry.grow g)⟩
theorem Hd.pages {L':PL} (h:Hd B v L m rv tv rs ts f its) (h1:L'.p=L.p) (h0:L'.d=L.d) (h2:L'.m=L.m) (h3:v.heap.size≤L'.u) (b:ButS (λ k=>k=L.p) v v'):Hd B v' L' m rv tv rs ts f its:=by
 have hS:∀ k,k<v.heap.size→¬ L.S k→¬ L'.S k:=λ k hk hn hS=>by
  unfold PL.S at hn hS;rw [h1,h2] at hS;rcases hS with hS|hS|hS
  ·omega
  ·exact hn (.inr (.inl hS))
  ·exact hn (.inr (.inr hS))
 have hp:∀ k,¬ L.S k→k≠L.p:=λ k hn e=>hn (.inr (.inr e));refine ⟨cN h.r λ k hk hv=>b.block k (aT h.r hv).2 (hp k (h.rn k hv).1),cN h.t λ k hk hv=>b.block k (aT h.t hv).2 (hp k (h.tn k hv).1),λ k hv=>⟨hS k (aT h.r hv).2 (h.rn k hv).1,(h.rn k hv).2⟩,λ k hv=>⟨hS k (aT h.t hv).2 (h.tn k hv).1,(h.tn k hv).2⟩,h0▸h.dn,h.mp.keep (b.block m h.mp.lt (hp m h.mn.1)),⟨hS m h.mp.lt h.mn.1,h.mn.2.1,h0▸h.mn.2.2⟩,h.has.go ?_⟩;exact (Carry.mono (F':=λ k=>Fv L m rv tv k∧k<v.heap.size) λ k hk hl=>⟨hk,hl⟩).trans ((Carry.buts b λ k hk _=>hp k hk.1.1).trans (Carry.mono λ k hk _=>⟨hS k hk.2 hk.1.1,hk.1.2⟩))
theorem new_block {v v':World} {rv a0:Value} (e0:∀ G:Nat→Prop,Carry (λ j=>G j∧rv.ownBlock≠some j) v (λ j=>G j∧a0.ownBlock≠some j) v') {j:Nat} (h:a0.ownBlock=some j):rv.ownBlock=some j∨v.heap.size≤j:=by
 by_cases h1:rv.ownBlock=some j
 ·exact .inl h1
 ·rcases Nat.lt_or_ge j v.heap.size with h2|h2
  ·exact absurd h ((e0 (λ x=>x=j)).blk j ⟨rfl,h1⟩ h2).1.2
  ·exact .inr h2
theorem Hd.pushR (h:Hd B v L m rv tv rs ts f its) (hl:∀ k,L.S k∨k=L.d→k<v.heap.size) {a0:Value} {r:Option Nat} (ho:v'.ownsRow B 3 1 a0 (rs.length+1) (rootVs rs++[.int .i64 (dC r)])) (gb:v.grownBy v' rv.ownBlock) (e0:∀ G:Nat→Prop,Carry (λ j=>G j∧rv.ownBlock≠some j) v (λ j=>G j∧a0.ownBlock≠some j) v'):Hd B v' L m a0 tv (rs++[r]) ts f its:=by
 have ht:=cN (w':=v') h.t λ k hk hv=>gb.block k (aT h.t hv).2 λ e=>(h.rn k e.symm).2.2 hv;refine ⟨by rw [List.length_append,rootVs,List.map_append];exact ho,ht,λ k hk=>?_,h.tn,⟨λ e=>(new_block e0 e).elim h.dn.1 λ h1=>by have:=hl _ (.inr rfl);omega,h.dn.2⟩,h.mp.keep (gb.block m h.mp.lt λ e=>(h.rn m e.symm).2.1 rfl),h.mn,h.has.go ?_⟩
 ·rcases new_block e0 hk with h1|h1
  ·exact h.rn k h1
  ·refine ⟨λ hS=>by have:=hl k (.inl hS);omega,λ e=>by have:=h.mp.lt;omega,λ e=>by have:=(aT h.t e).2;omega⟩
 ·exact (Carry.mono (F':=λ j=>(¬ L.S j∧j≠m∧tv.ownBlock≠some j)∧rv.ownBlock≠some j) λ k hk _=>⟨⟨hk.1,hk.2.1,hk.2.2.2⟩,hk.2.2.1⟩).trans ((e0 _).trans (Carry.mono λ k hk _=>⟨hk.1.1,hk.1.2.1,hk.2,hk.1.2.2⟩))
end Go.Proofs.YtfpadnmdafiddaaGreatDoor
namespace Go.V
open Go Go.RowKit
section
variable [Rn]
variable {P:Program} {n:Nat} {e:dJ} {w:World} {Q:dG} {ops:Array Oper} {rest:List Oper} {d:Nat} {ty:TypeId} {pos:String} {aft:Array Edge}
theorem TL.ltS {x y:Operand} {s t:ByteArray} {t1 t2:TypeId} {b:Bool} (hx:val e x=some (.string s)) (hy:val e y=some (.string t)) (h:Op.bytesLess s.toList t.toList=b) (hd:Nat.blt d n=true)
  (k:TL P n ops rest ((d,.bool b)::e) w Q):TL P n ops (⟨some d,.binOp .lss t1 x y t2,ty,pos,aft,none⟩::rest) e w Q :=
 TL.run (λ r hr=>by
  have hg:eqGuard .lss t1 x y (.string s) (.string t)=Pure.pure ():=rfl;simp only [execOp,hr.eval hx,hr.eval hy,hg]
  simp [binOp,Op.stringOp,← h]) hd k
end
end Go.V
namespace Go.Proofs.YtfpadnmdafiddaaGreatDoor
open Go Go.RowKit Go.V
theorem putL_by {l:bQ} {x:Bs×Bs} (h:∀ y∈l,fL y.1∧fL y.2) (hx:fL x.1∧fL x.2):∀ y∈putL l x,fL y.1∧fL y.2:=by
 intro y hy;unfold putL at hy;split at hy
 ·rcases nN hy with rfl|hy
  ·exact hx
  ·exact h y hy
 ·exact h y hy
theorem plant_by {l:bQ}:∀ {a0:bQ},(∀ y∈a0,fL y.1∧fL y.2)→(∀ y∈l,fL y.1∧fL y.2)→∀ y∈l.foldl putL a0,fL y.1∧fL y.2:=by
 induction l with
 | nil=>intro a0 h _;exact h
 | cons x r ih=>intro a0 h hl;exact ih (putL_by h (hl x sM)) (λ y hy=>hl y (List.mem_cons_of_mem _ hy))
theorem plantL_by {l:bQ} (h:∀ y∈l,fL y.1∧fL y.2):∀ y∈iD l,fL y.1∧fL y.2:=plant_by sM h
theorem plantL_len (l:bQ):(iD l).length≤l.length:=by have:=foldl_len l [];simpa [iD] using this
theorem light_b {F:Nat→Prop} {w:World} {a:Option Addr} {n c:Nat} {l:bQ} (h:ItsAt F w a n c l) {b:Bool} (e:lightB l=b) :
  Calls Tryz.prog 52 #[.slice a n c] w (Ret λ v w'=>v=.bool b∧w=w'):=e▸light_c h
theorem light_of {l:bQ} (h:lightB l=true):l.length≤60∧∀ x∈l,x.1.length≤100∧x.2.length≤100:=by
 unfold lightB at h;simp only [Bool.and_eq_true,decide_eq_true_eq,List.all_eq_true] at h;exact ⟨h.1,λ x hx=>by have:=h.2 x hx;simpa [lit1] using this⟩
structure Ky where
 a:Option Addr
 c:Nat
 b:Bs
def Ky.v (k:Ky):Value:=.slice k.a k.b.length k.c
structure Skz (w0 w:World) (C:CC) (cb:Nat) (E:CE) (d:Int) (pv:Value) (fs:List (Nd×Int)) (ix:Option Nat) (b5 bl:Nat) (sp:List Value) (k1 k2:Ky) (R:bQ) (ra:Option Addr) (rc:Nat):Prop where
 cu:Cu w C cb d pv fs
 ok:Ok w C cb E
 at_:AtE E fs ix
 bd:∀ j,ix=some j→j<E.al.length
 d0:0≤d
 lt5:b5<cb
 box:Blk w b5 92 sp
 its:ItsAt (λ k=>k<cb) w ra R.length rc R
 ss:∀ z,z=k1∨z=k2→Sl (λ k=>k<cb) w 1 z.a z.b.length z.c (bB z.b)
 kk:Blk w bl 30 [k1.v,k2.v,k1.v]
 ltl:cb<bl
 nl:pv.ownBlock≠some bl
 new:w0.heap.size≤cb
 gr:Grow w0 w
section
variable {w0 w:World} {C:CC} {cb:Nat} {E:CE} {d:Int} {pv:Value} {fs:List (Nd×Int)} {ix:Option Nat} {b5 bl:Nat} {sp:List Value} {k1 k2:Ky} {R:bQ} {ra:Option Addr} {rc:Nat}
theorem Skz.grow {w':World} (s:Skz w0 w C cb E d pv fs ix b5 bl sp k1 k2 R ra rc) (g:Grow w w'):Skz w0 w' C cb E d pv fs ix b5 bl sp k1 k2 R ra rc :=
 ⟨s.cu.grow g,s.ok.grow g,s.at_,s.bd,s.d0,s.lt5,s.box.grow g,s.its.go (Carry.grow g),λ z hz=>(s.ss z hz).grow g,s.kk.grow g,s.ltl,s.nl,s.new,s.gr.trans g⟩
theorem Skz.to {w':World} {d':Int} {a0:Value} {f0:List (Nd×Int)} {e0:Option Nat} (s:Skz w0 w C cb E d pv fs ix b5 bl sp k1 k2 R ra rc) (cu:Cu w' C cb d' a0 f0) (t:CuTo cb pv a0 w w') (at_:AtE E f0 e0) (bd:∀ j,e0=some j→j<E.al.length) (d0:0≤d'):Skz w0 w' C cb E d' a0 f0 e0 b5 bl sp k1 k2 R ra rc:=by
 have c:=s.cu.carry0 t;have hl:=s.ltl;have hk:=s.kk.lt
 exact ⟨cu,s.ok.go (s.cu.carry t),at_,bd,d0,s.lt5,bO s.box t.but (λ e=>by
  rcases e with e|e
  ·have:=s.lt5;omega
  ·have:=(s.cu.own e).1;have:=s.lt5;omega),s.its.go c,λ z hz=>(s.ss z hz).go c,bO s.kk t.but (λ e=>by
  rcases e with e|e
  ·omega
  ·exact s.nl e),s.ltl,λ e=>by
  rcases t.own _ e with e|e
  ·exact s.nl e
  ·omega,s.new,fV s.gr t.but (λ k hk=>by
  rcases hk with e|e
  ·have:=s.new;omega
  ·have:=(s.cu.own e).1;have:=s.new;omega)⟩
end
section
variable [Rn]
variable {n:Nat} {e:dJ} {w:World} {Q:dG} {ops:Array Oper} {rest:List Oper} {d:Nat} {ty:TypeId} {pos:String} {aft:Array Edge}
theorem pushIts {F:Nat→Prop} {x y:Operand} {B m c:Nat} {v:Value} {l ls:bQ} {a:Option Addr} (hx:val e x=some v) (hy:val e y=some (.slice a m c)) (hv:ItsOwn B w v l) (hl:ItsAt F w a m c ls) (hF:∀ k,F k→k<w.heap.size→B≤k∧v.ownBlock≠some k) (k0:l.length+ls.length≤1000000) (hB:B≤w.heap.size) (hd:Nat.blt d n=true)
  (k:∀ v' w',ItsOwn B w' v' (l++ls)→AppTo w v w' v'→TL Tryz.prog n ops rest ((d,v')::e) w' Q) :
  TL Tryz.prog n ops (⟨some d,.call ⟨.builtin .append,#[x,y],#[54,54]⟩,ty,pos,aft,none⟩::rest) e w Q:=by
 obtain ⟨cs,h1,h2⟩:=hv.ex;have hm:=hl.len;subst hm;obtain ⟨ns,g0,f0⟩:=hl.ex;refine dU (bytes:=48) hx hy h1 g0 (ItCells.one f0) (by unfold maxLen;omega) oM hB hd ?_;intro v' w' e0 j0 a0;refine k v' w' ⟨_,by rw [List.length_append];exact e0,?_⟩ ⟨j0,λ j hj h0=>((a0 (λ _=>True)).blk j ⟨trivial,h0⟩ hj).1.2⟩;exact (h2.go (a0 (λ j=>B≤j))).append ((f0.go (F':=λ j=>B≤j∧v.ownBlock≠some j) (Carry.mono λ k hk i0=>hF k hk i0)).go (a0 _))
end
theorem appto_buts {w w':World} {v v':Value} (h:AppTo w v w' v'):ButS (λ k=>v.ownBlock=some k) w w':=⟨h.by_.os,h.by_.tape,h.by_.output,h.by_.size,λ k hk e=>h.by_.block k hk (λ h=>e h.symm)⟩
def iL (fr to:Bs) (most:Int) (l:bQ):bQ:=if 0<most then (l.filter (inR fr to)).take most.toNat else l.filter (inR fr to)
theorem wantL_rng (l:bQ) (fr to:Bs) (back:Bool) (most:Int):iL fr to most (if back then l.reverse else l)=iM l fr to back most:=rfl
theorem wantL_yes {fr to:Bs} {a0:Int} {l:bQ} {x:Bs×Bs} (h:inR fr to x=true) (hm:a0=0∨((iL fr to a0 l).length:Int)<a0):iL fr to a0 (l++[x])=iL fr to a0 l++[x]:=by
 unfold iL at *;rw [List.filter_append,List.filter_cons,h];simp only [if_true,List.filter_nil];split
 ·rename_i h0;rw [if_pos h0,List.length_take] at hm;rw [List.take_append,List.take_of_length_le (l:=[x]) (by simp;omega)]
 ·rfl
theorem wantL_no {fr to:Bs} {a0:Int} {l:bQ} {x:Bs×Bs} (h:inR fr to x=false∨(0<a0∧¬ ((iL fr to a0 l).length:Int)<a0)):iL fr to a0 (l++[x])=iL fr to a0 l:=by
 unfold iL at *;rw [List.filter_append,List.filter_cons];rcases h with h|⟨h0,h1⟩
 ·rw [h];simp
 ·rw [if_pos h0,List.length_take] at h1;rw [if_pos h0,if_pos h0,List.take_append,show a0.toNat-(l.filter (inR fr to)).length=0 by omega];simp
theorem wantL_len (fr to:Bs) (a0:Int) (l:bQ):(iL fr to a0 l).length≤l.length:=by
 have:=List.length_filter_le (inR fr to) l;unfold iL;split
 ·rw [List.length_take];omega
 ·exact this
theorem rangeL_rev (l:bQ) (fr to:Bs):eC l fr to true=(eC l fr to false).reverse:=by
 simp [eC]
theorem cmpB_nil (k:Bs):¬ eS k []:=by cases k<;>simp [eS,bY]
theorem rangeL_split {l:bQ} (hs:Srt l) (cut:Bs) (hc:cut≠[]):eC l [] cut false++eC l cut [] false=l:=by
 have e1:eC l [] cut false=l.filter λ x=>decide (bY x.1 cut<0):=by
  simp only [eC,Bool.false_eq_true,if_false];congr 1
  funext x
  have h1:jV [] x=true:=geFr_iff.2 (cmpB_nil _);have h2:cut.isEmpty=false:=by cases cut with|nil=>exact absurd rfl hc|cons a b=>rfl
  simp [inR,h1,kI,h2]
 have e2:eC l cut [] false=l.filter λ x=>!decide (bY x.1 cut<0):=by
  simp only [eC,Bool.false_eq_true,if_false];congr 1
  funext x
  have h2:kI [] x=true:=rfl;rw [inR,h2,Bool.and_true,jV,← decide_not];congr 1
  simp only [Int.not_lt]
 have k1:=nG (P:=λ x:Bs×Bs=>decide (bY x.1 cut<0)) (down_lt cut) hs;have k2:=dw_filter (P:=λ x:Bs×Bs=>decide (bY x.1 cut<0)) (down_lt cut) hs;rw [e1,e2,← k1,← k2];have:=List.take_append_drop (l.takeWhile λ x:Bs×Bs=>decide (bY x.1 cut<0)).length l;rw [take_tw] at this;exact this
theorem appto_grow {wB w w':World} {v v':Value} (g:Grow wB w) (h:AppTo w v w' v') (hv:∀ k,v.ownBlock=some k→wB.heap.size≤k):Grow wB w':=fV g (appto_buts h) hv
theorem appto_own {wB w w':World} {v v':Value} (g:Grow wB w) (h:AppTo w v w' v') (hv:∀ k,v.ownBlock=some k→wB.heap.size≤k):∀ k,v'.ownBlock=some k→wB.heap.size≤k:=λ k e=>by
 by_cases hk:k<wB.heap.size
 ·have:=g.size;exact absurd e (h.new k oM (λ e2=>by have:=hv k e2;omega))
 ·omega
end Go.Proofs.YtfpadnmdafiddaaGreatDoor
