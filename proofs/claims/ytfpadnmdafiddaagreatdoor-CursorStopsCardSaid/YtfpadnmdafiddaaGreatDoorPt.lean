import Derived.Test.YtfpadnmdafiddaaGreatDoorP0
import Derived.Test.YtfpadnmdafiddaaGreatDoorPs
import Derived.Test.YtfpadnmdafiddaaGreatDoorPl
import Derived.Test.YtfpadnmdafiddaaGreatDoorPo
import Derived.Test.YtfpadnmdafiddaaGreatDoorPm
import Derived.Test.YtfpadnmdafiddaaGreatDoorPi
import Derived.Test.YtfpadnmdafiddaaGreatDoorPj
import Derived.Test.YtfpadnmdafiddaaGreatDoorPd
set_option linter.all false
set_option maxHeartbeats 16000000
set_option maxRecDepth 100000
namespace Go.Proofs.YtfpadnmdafiddaaGreatDoor
open Go Go.RowKit Go.V
instance ptrCursor:PtrTy Tryz.prog 97:=⟨kR⟩
section
variable {w:World} {C:CC} {cb:Nat} {d:Int} {pv:Value} {fs:List (Nd×Int)} {E:CE}
theorem cvalid_c (h:Cu w C cb d pv fs) :
  Calls Tryz.prog 135 #[.pointer (some ⟨cb,0,none⟩)] w (Ret λ v w'=>v=.bool true∧w=w'):=by
 have hb:=h.blk;refine V.calls (args:=[_]) Tryz.func135 rfl Tryz.ntmps135 rfl rfl ?_;repeat (first|(refine TL.isNeT 97 ?_;refine TL.neNilP rfl rfl rfl ?_)|(refine iR 97 ?_;refine TL.eqSame rfl rfl rfl ?_)|refine yA ?_)
 exact bA rfl ⟨_,rfl,rfl,rfl⟩
theorem Cu.tick {w':World} {d':Int} (h:Cu w C cb d pv fs) (u:Upd cb w w') (hb:Blk w' cb 206 [.pointer (some ⟨cb,0,none⟩),.pointer (some ⟨C.wb,0,none⟩),.int .i64 C.root,.slice C.fa C.fn C.fc,.slice C.ta C.tn C.tc,.bool C.back,.int .i64 C.most,.int .i64 d',pv]):Cu w' C cb d' pv fs∧CuTo cb pv pv w w':=by
 obtain ⟨cs,h1,h2⟩:=h.row;exact ⟨⟨hb,cs,fZ h1 u oM,h2.go (Carry.upd u (λ k hk _=>by omega))⟩,(CuTo.grow (Grow.refl _)).upd (pv2:=pv) u⟩
theorem Cu.upd {w':World} {b:Nat} (h:Cu w C cb d pv fs) (u:Upd b w w') (hb:cb<b) (a0:pv.ownBlock≠some b):Cu w' C cb d pv fs:=by
 obtain ⟨cs,h1,h2⟩:=h.row;exact ⟨h.blk.upd u oM,cs,cB h1 (λ k hk hv=>u.block k (λ e=>a0 (by rw [← e];exact hv))),h2.go (Carry.upd u (λ k hk _=>by omega))⟩
theorem CuTo.upd2 {pv':Value} {b:Nat} {w1 w2:World} (h:CuTo cb pv pv' w w1) (u:Upd b w1 w2) (hb:w.heap.size≤b):CuTo cb pv pv' w w2:=⟨h.but.upd u hb,h.own⟩
def nextIx (E:CE) (back:Bool) (ix:Option Nat):Option Nat:=ix.bind λ j=>if back then ixB j else kD E.al.length (j+1)
theorem restE_cons {back:Bool} {ix:Option Nat} (a0:∀ j,ix=some j→j<E.al.length) {it:Bs×Bs} {r:bT} (h:hQ E back ix=it::r):it∈E.al∧r=hQ E back (nextIx E back ix):=by
 cases ix with
 | none=>unfold hQ at h;cases back<;>cases h
 | some j =>
  have hj:=a0 j rfl;obtain ⟨y,hy⟩:∃ y,E.al[j]? = some y:=⟨_,List.getElem?_eq_getElem hj⟩
  cases back with
  | true =>
   have hr:hQ E true (some j)=if nM E.fr y then y::restB E.al E.fr (ixB j) else []:=restB_head hy;rw [hr] at h;split at h
   ·cases h;exact ⟨List.mem_of_getElem? hy,rfl⟩
   ·cases h
  | false =>
   have hr:hQ E false (some j)=if kT E.to y then y::kW E.al E.to (kD E.al.length (j+1)) else []:=lV hy;rw [hr] at h;split at h
   ·cases h;exact ⟨List.mem_of_getElem? hy,rfl⟩
   ·cases h
theorem nextIx_lt {back:Bool} {ix:Option Nat} (a0:∀ j,ix=some j→j<E.al.length):∀ j,nextIx E back ix=some j→j<E.al.length:=by
 intro j hj
 cases ix with
 | none=>cases hj
 | some i =>
  have hi:=a0 i rfl;unfold nextIx at hj;simp only [Option.bind_some] at hj;split at hj
  ·cases i with
   | zero=>cases hj
   | succ i=>simp only [ixB,Option.some.injEq] at hj;omega
  ·unfold kD at hj;split at hj
   ·simp only [Option.some.injEq] at hj;omega
   ·cases hj
theorem cnext_c (o:Ok w C cb E) (h:Cu w C cb d pv fs) {ix:Option Nat} (x1:AtE E fs ix) (z0:∀ j,ix=some j→j<E.al.length) (hd:0≤d∧d≤4611686018427387904) :
  Calls Tryz.prog 57 #[.pointer (some ⟨cb,0,none⟩)] w (Ret λ v w'=>∃ pv' fs' ix' d' u1 u2 e,v=.tuple #[.agg #[u1,u2],.int .i64 e]∧Cu w' C cb d' pv' fs'∧CuTo cb pv pv' w w'∧AtE E fs' ix'∧(∀ j,ix'=some j→j<E.al.length) ∧
   ((e=0∧¬ lim C d∧∃ it,hQ E C.back ix=it::hQ E C.back ix'∧it∈E.al∧d'=d+1∧BsAt (λ k=>w.heap.size≤k∧pv'.ownBlock≠some k) w' u1 it.1∧BsAt (λ k=>w.heap.size≤k∧pv'.ownBlock≠some k) w' u2 it.2) ∨
    (e=6∧(lim C d∨hQ E C.back ix=[])∧d'=d∧ix'=ix∧u1=.slice none 0 0∧u2=.slice none 0 0))):=by
 have hb:=h.blk;have p3:=h.lt;have hv:=cvalid_c h;refine V.calls (args:=[_]) Tryz.func57 rfl Tryz.ntmps57 rfl rfl ?_;repeat (first|(refine aB 135 ?_;refine aA rfl (cvalid_c (h.grow yG)) rfl ?_;rintro _ _ ⟨rfl,rfl⟩)|refine yC ?_|refine yI λ bk w' hg g0 q0 p0=>?_)
 obtain ⟨t2,rfl⟩:=yE bk;refine aB 136 ?_;refine aA rfl (chere_c (o.grow hg) (h.grow hg) x1 z0 hd) rfl ?_;rintro _ w2 ⟨ka,kn,kc,va,vn,vc,b,rfl,d2,d3⟩;have f0:=hg.trans d2;have b2:=g0.grow d2;have q2:w.heap.size≤t2∧t2<w2.heap.size:=by have:=b2.lt;omega
 have h2:=h.grow f0;have o2:=o.grow f0;have s3:=hb.grow f0;clear g0 hg d2 hb hv q0 p0;rcases d3 with ⟨rfl,m1,it,r,hr,f3,y2⟩|⟨rfl,j1⟩
 rotate_left
 ·repeat (first|refine aF ?_|refine yI λ bk w' hg g0 q0 p0=>?_|refine yJ λ w' hu g0 q0=>?_)
  rename_i g1 _ _;have j2:Grow w w':=aH hu oM (f0.trans (aH g1 oM hg));exact fL rfl (aW g0 rfl) rfl ⟨_,rfl,pv,fs,ix,d,_,_,6,rfl,h.grow j2,CuTo.grow j2,x1,z0,.inr ⟨rfl,j1,rfl,rfl,rfl,rfl⟩⟩
 ·obtain ⟨t0,m0⟩:=restE_cons z0 hr;obtain ⟨g3,z2⟩:=o2.ko it t0;repeat (first|refine aF ?_|refine yI λ bk w' hg g0 q0 p0=>?_|refine yJ λ w' hu g0 q0=>?_)
  rename_i g1 h3 o3;have e2:Blk w' cb 206 [.pointer (some ⟨cb,0,none⟩),.pointer (some ⟨C.wb,0,none⟩),.int .i64 C.root,.slice C.fa C.fn C.fc,.slice C.ta C.tn C.tc,.bool C.back,.int .i64 C.most,.int .i64 (d+1),pv]:=g0;have s2:Blk w' bk 58 [.slice ka kn kc,.slice va vn vc]:=Blk.upd hu oM h3;obtain ⟨t4,rfl⟩:=yE bk;have s1:Grow w _:=f0.trans (aH g1 oM hg);have h4:=h.grow s1;obtain ⟨h5,l0⟩:=h4.tick hu e2;have h1:=(CuTo.grow s1:CuTo cb pv pv w _).trans l0;have y1:Carry (λ k=>C.lo≤k∧k<cb) w2 (λ k=>C.lo≤k∧k<cb) w':=(Carry.grow (aH g1 oM hg)).trans (h4.carry l0);have o5:=o2.go y1;have o1:=f3.go y1;have e1:=y2.go y1;have x2:Blk w' t2 58 [.slice none 0 0,.slice none 0 0]:=((b2.grow hg).upd g1 oM).upd hu oM;have y0:∀ j,pv.ownBlock=some j→j<w.heap.size:=λ j e=>(h.own e).2
  have g2:ix≠none→C.root≠-1:=by
   cases ix with
   | none=>exact λ e=>absurd rfl e
   | some j=>exact λ _=>o.ne (z0 j rfl)
  have m3:w2.heap.size≤t4:=by omega
  have z5:w2.heap.size≤w'.heap.size:=y1.size;have k3:=f0.size;obtain ⟨w5,rfl⟩:=yE w'
  cases hback:C.back with
  | true =>
   repeat refine aF ?_
   refine aB 137 ?_;refine aA rfl (cmoveB_c o5.tr h5 o5.wlk x1 g2) rfl ?_;rintro _ w6 ⟨j0,w1,h6,a0,x0⟩;have i0:AtE E w1 (nextIx E C.back ix):=by rw [hback];exact x0
   have h0:=h1.trans a0;have c6:=h5.carry a0
   have i3:=bX s2 a0.but (λ e=>by
    rcases e with e|e
    ·omega
    ·have:=y0 _ e;omega)
   have f2:=bX x2 a0.but (λ e=>by
    rcases e with e|e
    ·omega
    ·have:=y0 _ e;omega)
   have v0:=o1.go c6;have o0:=e1.go c6;have z6:=a0.but.size;have s0:∀ j,j0.ownBlock=some j→j<w6.heap.size:=λ j e=>(h6.own e).2;repeat refine aF ?_
   refine bD (e':=[(4,.pointer (some ⟨t4,0,none⟩)),(2,.pointer (some ⟨t2,0,none⟩)),(0,.pointer (some ⟨cb,0,none⟩))]) ?_ ⟨rfl,rfl,rfl,trivial⟩;apply T.any 7 [is (.pointer (some ⟨t4,0+0,none⟩)),is (.slice ka kn kc),bsF w6.heap.size it.1,is (.pointer (some ⟨t4,0+1,none⟩)),is (.slice va vn vc),bsF w6.heap.size it.2,itF w6.heap.size it]
   ·rfl
   ·repeat' (first|exact aN|refine aK ?_ ?_)
    iterate 2
     ·refine yQ λ wq _ _ e0=>?_;repeat refine aF ?_
      exact aD rfl yG rfl
    ·refine yQ λ wq _ _ e0=>?_;have zq:=e0.size;refine aB 95 ?_;refine aA rfl (nC _ _ it.1 _ (⟨_,_,_,rfl,v0.grow e0⟩:BsAt (λ k=>C.lo≤k∧k<cb) _ _ it.1) oM) rfl ?_;rintro u wr ⟨hu,z1⟩;repeat refine aF ?_
     exact aD rfl yG (hu.go (Carry.mono λ k hk _=>by omega))
    iterate 2
     ·refine yQ λ wq _ _ e0=>?_;repeat refine aF ?_
      exact aD rfl yG rfl
    ·(((refine bW rfl rfl rfl ?_);( intro wq _ _ e0;(repeat (refine aJ rfl rfl ?_;intro vq f1;try (obtain rfl:=f1)));(refine aZ ?_))))
     have zq:=e0.size;refine aB 95 ?_;refine aA rfl (nC _ _ it.2 _ (⟨_,_,_,rfl,o0.grow e0⟩:BsAt (λ k=>C.lo≤k∧k<cb) _ _ it.2) oM) rfl ?_;rintro u wr ⟨hu,z1⟩;repeat refine aF ?_
     exact aD rfl yG (hu.go (Carry.mono λ k hk _=>by omega))
    ·refine bW rfl rfl rfl ?_;intro wq _ _ e0;refine aJ rfl rfl ?_;intro kv u0;refine aJ rfl rfl ?_;intro vv n0;refine aZ ?_;obtain ⟨q1,q2,rfl,q3⟩:=BsAt.sl u0;obtain ⟨r1,r2,rfl,r3⟩:=BsAt.sl n0;repeat refine aF ?_
     exact aD rfl yG ⟨_,_,rfl,⟨_,_,_,rfl,q3⟩,⟨_,_,_,rfl,r3⟩⟩
   rintro w7 _ _ k0 _ _;iterate 6 (refine aJ rfl rfl ?_;intro vq f1)
   refine aJ rfl rfl ?_;rintro vq ⟨kv,vv,rfl,u0,n0⟩;refine aZ ?_;obtain ⟨q1,q2,rfl,q3⟩:=BsAt.sl u0;obtain ⟨r1,r2,rfl,r3⟩:=BsAt.sl n0;have j3:=f2.grow k0;have z7:=k0.size;repeat (first|refine aF ?_|refine yJ λ w' hu g0 q0=>?_)
   have j1:j0.ownBlock≠some t2:=λ e=>by
    rcases a0.own _ e with e3|e3
    ·have:=y0 _ e3;omega
    ·omega
   have cF:Carry (λ k=>w6.heap.size≤k) w7 (λ k=>w.heap.size≤k∧j0.ownBlock≠some k) w':=(Carry.upd hu (λ k hk _=>by omega)).trans (Carry.mono λ k hk _=>⟨oM,λ e=>by have:=s0 _ e;omega⟩);exact fL rfl (aW g0 rfl) rfl ⟨_,rfl,j0,w1,nextIx E C.back ix,d+1,_,_,0,rfl,(h6.grow k0).upd hu oM j1,(h0.trans (CuTo.grow k0)).upd2 hu oM,i0,nextIx_lt z0,.inl ⟨rfl,m1,it,by rw [← hback,hr,m0],t0,rfl,⟨_,_,_,rfl,q3.go cF⟩,⟨_,_,_,rfl,r3.go cF⟩⟩⟩
  | false =>
   repeat refine aF ?_
   refine aB 137 ?_;refine aA rfl (cmoveF_c o5.tr h5 o5.wlk x1 g2) rfl ?_;rintro _ w6 ⟨j0,w1,h6,a0,x0⟩;have i0:AtE E w1 (nextIx E C.back ix):=by rw [hback];exact x0
   have h0:=h1.trans a0;have c6:=h5.carry a0
   have i3:=bX s2 a0.but (λ e=>by
    rcases e with e|e
    ·omega
    ·have:=y0 _ e;omega)
   have f2:=bX x2 a0.but (λ e=>by
    rcases e with e|e
    ·omega
    ·have:=y0 _ e;omega)
   have v0:=o1.go c6;have o0:=e1.go c6;have z6:=a0.but.size;have s0:∀ j,j0.ownBlock=some j→j<w6.heap.size:=λ j e=>(h6.own e).2;repeat refine aF ?_
   refine bD (e':=[(4,.pointer (some ⟨t4,0,none⟩)),(2,.pointer (some ⟨t2,0,none⟩)),(0,.pointer (some ⟨cb,0,none⟩))]) ?_ ⟨rfl,rfl,rfl,trivial⟩;apply T.any 7 [is (.pointer (some ⟨t4,0+0,none⟩)),is (.slice ka kn kc),bsF w6.heap.size it.1,is (.pointer (some ⟨t4,0+1,none⟩)),is (.slice va vn vc),bsF w6.heap.size it.2,itF w6.heap.size it]
   ·rfl
   ·repeat' (first|exact aN|refine aK ?_ ?_)
    iterate 2
     ·refine yQ λ wq _ _ e0=>?_;repeat refine aF ?_
      exact aD rfl yG rfl
    ·refine yQ λ wq _ _ e0=>?_;have zq:=e0.size;refine aB 95 ?_;refine aA rfl (nC _ _ it.1 _ (⟨_,_,_,rfl,v0.grow e0⟩:BsAt (λ k=>C.lo≤k∧k<cb) _ _ it.1) oM) rfl ?_;rintro u wr ⟨hu,z1⟩;repeat refine aF ?_
     exact aD rfl yG (hu.go (Carry.mono λ k hk _=>by omega))
    iterate 2
     ·refine yQ λ wq _ _ e0=>?_;repeat refine aF ?_
      exact aD rfl yG rfl
    ·(((refine bW rfl rfl rfl ?_);( intro wq _ _ e0;(repeat (refine aJ rfl rfl ?_;intro vq f1;try (obtain rfl:=f1)));(refine aZ ?_))))
     have zq:=e0.size;refine aB 95 ?_;refine aA rfl (nC _ _ it.2 _ (⟨_,_,_,rfl,o0.grow e0⟩:BsAt (λ k=>C.lo≤k∧k<cb) _ _ it.2) oM) rfl ?_;rintro u wr ⟨hu,z1⟩;repeat refine aF ?_
     exact aD rfl yG (hu.go (Carry.mono λ k hk _=>by omega))
    ·refine bW rfl rfl rfl ?_;intro wq _ _ e0;refine aJ rfl rfl ?_;intro kv u0;refine aJ rfl rfl ?_;intro vv n0;refine aZ ?_;obtain ⟨q1,q2,rfl,q3⟩:=BsAt.sl u0;obtain ⟨r1,r2,rfl,r3⟩:=BsAt.sl n0;repeat refine aF ?_
     exact aD rfl yG ⟨_,_,rfl,⟨_,_,_,rfl,q3⟩,⟨_,_,_,rfl,r3⟩⟩
   rintro w7 _ _ k0 _ _;iterate 6 (refine aJ rfl rfl ?_;intro vq f1)
   refine aJ rfl rfl ?_;rintro vq ⟨kv,vv,rfl,u0,n0⟩;refine aZ ?_;obtain ⟨q1,q2,rfl,q3⟩:=BsAt.sl u0;obtain ⟨r1,r2,rfl,r3⟩:=BsAt.sl n0;have j3:=f2.grow k0;have z7:=k0.size;repeat (first|refine aF ?_|refine yJ λ w' hu g0 q0=>?_)
   have j1:j0.ownBlock≠some t2:=λ e=>by
    rcases a0.own _ e with e3|e3
    ·have:=y0 _ e3;omega
    ·omega
   have cF:Carry (λ k=>w6.heap.size≤k) w7 (λ k=>w.heap.size≤k∧j0.ownBlock≠some k) w':=(Carry.upd hu (λ k hk _=>by omega)).trans (Carry.mono λ k hk _=>⟨oM,λ e=>by have:=s0 _ e;omega⟩);exact fL rfl (aW g0 rfl) rfl ⟨_,rfl,j0,w1,nextIx E C.back ix,d+1,_,_,0,rfl,(h6.grow k0).upd hu oM j1,(h0.trans (CuTo.grow k0)).upd2 hu oM,i0,nextIx_lt z0,.inl ⟨rfl,m1,it,by rw [← hback,hr,m0],t0,rfl,⟨_,_,_,rfl,q3.go cF⟩,⟨_,_,_,rfl,r3.go cF⟩⟩⟩
end
theorem ixB_lt {n k:Nat} (h:k≤n):∀ j,ixB k=some j→j<n:=by
 intro j hj
 cases k with
 | zero=>cases hj
 | succ k=>simp only [ixB,Option.some.injEq] at hj;omega
theorem toIx_bd {n k:Nat}:∀ j,kD n k=some j→j<n:=by
 intro j hj;unfold kD at hj;split at hj
 ·simp only [Option.some.injEq] at hj;omega
 ·cases hj
theorem tw_le (P:Bs×Bs→Bool) (al:bT):(al.takeWhile P).length≤al.length:=dX _ _
section
variable {w:World} {C:CC} {cb:Nat} {d:Int} {pv:Value} {fs:List (Nd×Int)} {E:CE}
end
end Go.Proofs.YtfpadnmdafiddaaGreatDoor
namespace Go.Proofs
open Go Go.RowKit Go.V Go.Maps Go.Sort Go.Shelf Go.WideShapes
set_option maxRecDepth 20000
end Go.Proofs
namespace Go.Proofs.YtfpadnmdafiddaaGreatDoor
open Go Go.RowKit Go.V
theorem tree_trM {s:Pg} {r:Option Nat} {lv:Nat} {l:bT} {ps:List Nat} {M:fS} (hM:MemoOk s M) (h:TrAt s r lv l ps) (e0:lv≤16) :
  ∃ M',treeP s r M=some (lv,M')∧MemoOk s M'∧∀ k,(∃ t,gM M' k=some t)↔(∃ t,gM M k=some t)∨k∈ps:=by
 cases r with
 | none =>
  obtain ⟨rfl,rfl,rfl⟩:=h;exact ⟨M,rfl,hM,λ k=>by simp⟩
 | some n =>
  obtain ⟨h,nd,a0,rfl,e2,e3,e4,rfl⟩:=h;obtain ⟨t,M',q1,q2,q3,q4,q5,q6,q7⟩:=part_tr s h 16 oM oM hM e2 e3 e4;refine ⟨M',?_,q2,λ k=>⟨λ ⟨tk,hk⟩=>q7 k tk hk,λ hk=>?_⟩⟩
  ·simp only [treeP,q1];rw [if_neg (by rw [q5];omega),q6.lv]
  ·rcases hk with ⟨t0,h0⟩|hk
   ·exact ⟨t0,q3 _ _ h0⟩
   ·rcases List.mem_cons.1 hk with rfl|hk
    ·exact ⟨t,q4⟩
    ·exact q6.ps k hk
theorem ritems_t (F G:Nat→Prop) (a b:Option Addr) (n c m d i k:Nat) (cs ds:List Value) (w:World) (hs:Sl F w 2 a n c cs) (hx:Sl G w 2 b m d ds) (h1:∀ u∈cs,u.oneCell'=true) (h2:∀ u∈ds,u.oneCell'=true) (q0:i≤k) (hk:k≤n) (hn:n+m≤1000000) :
  Calls Tryz.prog 109 #[.slice a n c,.int .i64 (i:Int),.int .i64 (k:Int),.slice b m d] w (Ret λ v w'=>w'.ownsRow w.heap.size 58 2 v (i+m+(n-k)) (cs.take (i*2)++ds++cs.drop (k*2))∧Grow w w'):=by
 have n0:=hs.len;have s0:=hx.len;have j0:=hs.cap;refine V.calls (args:=[_,_,_,_]) Tryz.func109 rfl Tryz.ntmps109 rfl rfl ?_;obtain ⟨pf,g0⟩:∃ pf:Nat→Value→Prop,pf=(λ (j:Nat) (v:Value)=>match j with|1=>v=.slice a n c|2=>v=.int .i64 (i:Int)|3=>v=.slice (eL a c 0 2) i c|5=>v=.slice b m d|7=>v=.slice a n c|8=>v=.int .i64 (k:Int)|9=>v=.slice (eL a c k 2) (n-k) (c-k)|_=>True):=⟨_,rfl⟩
 obtain ⟨R,hR⟩:∃ R:Nat→Nat×List Value,R=(λ (s:Nat)=>match s with|0=>(0,[])|4=>(i,cs.take (i*2))|6=>(i+m,cs.take (i*2)++ds)|10=>(i+m+(n-k),cs.take (i*2)++ds++cs.drop (k*2))|_=>(0,[])):=⟨_,rfl⟩
 have c1:pf 1=λ v=>v=.slice a n c:=by rw [g0];rfl
 have c2:pf 2=λ v=>v=.int .i64 (i:Int):=by rw [g0];rfl
 have c3:pf 3=λ v=>v=.slice (eL a c 0 2) i c:=by rw [g0];rfl
 have c5:pf 5=λ v=>v=.slice b m d:=by rw [g0];rfl
 have c7:pf 7=λ v=>v=.slice a n c:=by rw [g0];rfl
 have c8:pf 8=λ v=>v=.int .i64 (k:Int):=by rw [g0];rfl
 have c9:pf 9=λ v=>v=.slice (eL a c k 2) (n-k) (c-k):=by rw [g0];rfl
 have r0:R 0=(0,[]):=by rw [hR];rfl
 have r4:R 4=(i,cs.take (i*2)):=by rw [hR];rfl
 have r6:R 6=(i+m,cs.take (i*2)++ds):=by rw [hR];rfl
 have l0:R 10=(i+m+(n-k),cs.take (i*2)++ds++cs.drop (k*2)):=by rw [hR];rfl
 clear g0 hR
 have s3:Sl F w 2 (eL a c 0 2) i c (cs.take (i*2)):=by
  have:=eW (l:=0) (h:=i) (mm:=c) hs (Nat.zero_le _) oM oM (Nat.le_refl _);simpa using this
 have s9:Sl F w 2 (eL a c k 2) (n-k) (c-k) (cs.drop (k*2)):=by
  have:=eW (l:=k) (h:=n) (mm:=c) hs oM (Nat.le_refl _) j0 (Nat.le_refl _);rw [List.take_of_length_le (by rw [List.length_drop,n0,Nat.sub_mul];exact Nat.le_refl _)] at this;exact this
 repeat refine aF ?_
 apply T.inv 11 (AppJ w 58 2 pf R)
 ·rfl
 ·exact λ w1 g1=>app_start g1
 ·repeat' (first|exact allInv_end|refine allInv_cons ?_ ?_)
  ·refine dY (js:=[]) rfl rfl ?_;rintro dn vs wq J hd a0;have zq:=J.g.size;repeat (first|refine aF ?_|refine yI λ bk w' hg o0 p0 m0=>?_)
   exact cQ rfl (app_first J hd hg (by rw [r0];exact eI o0 oM))
  ·refine dY (js:=[]) rfl rfl ?_;rintro dn vs wq J hd a0;repeat refine aF ?_
   exact cQ rfl (eC J (by unfold gA;omega) oM (by (rw [c1];done)))
  ·refine dY (js:=[]) rfl rfl ?_;rintro dn vs wq J hd a0;repeat refine aF ?_
   exact cQ rfl (eC J (by unfold gA;omega) oM (by (rw [c2];done)))
  ·refine dY (js:=[1,2]) rfl rfl ?_;rintro dn vs wq J hd a0;have e1:vs 1=.slice a n c:=by have:=J.p 1 (by unfold gA;omega) (a0 1 sM);rwa [c1] at this
   have e2:vs 2=.int .i64 (i:Int):=by have:=J.p 2 (by unfold gA;omega) (a0 2 sM);rwa [c2] at this
   show TL _ _ _ _ ((11,vs 2)::(10,vs 1)::_) _ _;rw [e1,e2];repeat (first|(refine cL ?_;refine dF (l:=0) (h:=i) (mm:=c) rfl (aP _) (bI rfl rfl) (aP _) (by intro h;cases h) oM oM oM oM oM rfl ?_)|refine yC ?_)
   exact cQ rfl (eC J (by unfold gA;omega) oM (by (rw [c3];rfl)))
  ·refine dY (js:=[0,3]) rfl rfl ?_;rintro dn vs wq J hd a0;have zq:=J.g.size;have e0:=J.q 0 (by unfold gA;omega) (a0 0 sM) hd;have es:vs 3=.slice (eL a c 0 2) i c:=by have:=J.p 3 (by unfold gA;omega) (a0 3 sM);rwa [c3] at this
   rw [r0] at e0;show TL _ _ _ _ ((12,vs 3)::(9,vs 0)::_) _ _;rw [es];refine TL.append rfl rfl e0 (s3.grow J.g) (λ u hu=>h1 u (List.mem_of_mem_take hu)) (by unfold maxLen;omega) oM oM rfl ?_;intro v' wr f0 i0 _;have h0:Grow w wr:=Grow.mk (aL i0 oM (λ k hk=>(aR e0 hk).1) J.g.1);refine TL.nil ?_;exact cQ rfl (jO (r:=0) J (by unfold gA;omega) (by unfold gA;omega) rfl hd (a0 0 sM) h0 (by rw [r4];simpa using f0))
  ·refine dY (js:=[]) rfl rfl ?_;rintro dn vs wq J hd a0;repeat refine aF ?_
   exact cQ rfl (eC J (by unfold gA;omega) oM (by (rw [c5];done)))
  ·refine dY (js:=[5,4]) rfl rfl ?_;rintro dn vs wq J hd a0;have zq:=J.g.size;have e0:=J.q 4 (by unfold gA;omega) (a0 4 sM) hd;have es:vs 5=.slice b m d:=by have:=J.p 5 (by unfold gA;omega) (a0 5 sM);rwa [c5] at this
   rw [r4] at e0;show TL _ _ _ _ ((13,vs 4)::(14,vs 5)::_) _ _;rw [es];refine TL.append rfl rfl e0 (hx.grow J.g) (h2) (by unfold maxLen;omega) oM oM rfl ?_;intro v' wr f0 i0 _;have h0:Grow w wr:=Grow.mk (aL i0 oM (λ k hk=>(aR e0 hk).1) J.g.1);refine TL.nil ?_;exact cQ rfl (jO (r:=4) J (by unfold gA;omega) (by unfold gA;omega) rfl hd (a0 4 sM) h0 (by rw [r6];simpa using f0))
  ·refine dY (js:=[]) rfl rfl ?_;rintro dn vs wq J hd a0;repeat refine aF ?_
   exact cQ rfl (eC J (by unfold gA;omega) oM (by (rw [c7];done)))
  ·refine dY (js:=[]) rfl rfl ?_;rintro dn vs wq J hd a0;repeat refine aF ?_
   exact cQ rfl (eC J (by unfold gA;omega) oM (by (rw [c8];done)))
  ·refine dY (js:=[7,8]) rfl rfl ?_;rintro dn vs wq J hd a0;have e1:vs 7=.slice a n c:=by have:=J.p 7 (by unfold gA;omega) (a0 7 sM);rwa [c7] at this
   have e2:vs 8=.int .i64 (k:Int):=by have:=J.p 8 (by unfold gA;omega) (a0 8 sM);rwa [c8] at this
   show TL _ _ _ _ ((17,vs 8)::(16,vs 7)::_) _ _;rw [e1,e2];repeat (first|(refine cL ?_;refine dF (l:=k) (h:=n) (mm:=c) rfl (bI rfl rfl) (aP _) (aP _) (by intro h;rfl) oM oM oM oM oM rfl ?_)|refine yC ?_)
   exact cQ rfl (eC J (by unfold gA;omega) oM (by (rw [c9];done)))
  ·refine dY (js:=[9,6]) rfl rfl ?_;rintro dn vs wq J hd a0;have zq:=J.g.size;have e0:=J.q 6 (by unfold gA;omega) (a0 6 sM) hd;have es:vs 9=.slice (eL a c k 2) (n-k) (c-k):=by have:=J.p 9 (by unfold gA;omega) (a0 9 sM);rwa [c9] at this
   rw [r6] at e0;show TL _ _ _ _ ((15,vs 6)::(18,vs 9)::_) _ _;rw [es];refine TL.append rfl rfl e0 (s9.grow J.g) (λ u hu=>h1 u (List.mem_of_mem_drop hu)) (by unfold maxLen;omega) oM oM rfl ?_;intro v' wr f0 i0 _;have h0:Grow w wr:=Grow.mk (aL i0 oM (λ k hk=>(aR e0 hk).1) J.g.1);refine TL.nil ?_;exact cQ rfl (jO (r:=6) J (by unfold gA;omega) (by unfold gA;omega) rfl hd (a0 6 sM) h0 (by rw [l0];simpa using f0))
 ·intro dn vs wq J k0;have e0:=J.q 10 (by unfold gA;omega) (k0 10 oM) J.e;rw [l0] at e0;show TL _ _ _ _ ((19,vs 10)::_) _ _;repeat refine aF ?_
  exact bA rfl ⟨_,rfl,e0,J.g⟩
theorem rkids_t (F G:Nat→Prop) (a b:Option Addr) (n c m d i k:Nat) (cs ds:List Value) (w:World) (hs:Sl F w 1 a n c cs) (hx:Sl G w 1 b m d ds) (h1:∀ u∈cs,u.oneCell'=true) (h2:∀ u∈ds,u.oneCell'=true) (q0:i≤k) (hk:k≤n) (hn:n+m≤1000000) :
  Calls Tryz.prog 111 #[.slice a n c,.int .i64 (i:Int),.int .i64 (k:Int),.slice b m d] w (Ret λ v w'=>w'.ownsRow w.heap.size 3 1 v (i+m+(n-k)) (cs.take (i*1)++ds++cs.drop (k*1))∧Grow w w'):=by
 have n0:=hs.len;have s0:=hx.len;have j0:=hs.cap;refine V.calls (args:=[_,_,_,_]) Tryz.func111 rfl Tryz.ntmps111 rfl rfl ?_;obtain ⟨pf,g0⟩:∃ pf:Nat→Value→Prop,pf=(λ (j:Nat) (v:Value)=>match j with|1=>v=.slice a n c|2=>v=.int .i64 (i:Int)|3=>v=.slice (eL a c 0 1) i c|5=>v=.slice b m d|7=>v=.slice a n c|8=>v=.int .i64 (k:Int)|9=>v=.slice (eL a c k 1) (n-k) (c-k)|_=>True):=⟨_,rfl⟩
 obtain ⟨R,hR⟩:∃ R:Nat→Nat×List Value,R=(λ (s:Nat)=>match s with|0=>(0,[])|4=>(i,cs.take (i*1))|6=>(i+m,cs.take (i*1)++ds)|10=>(i+m+(n-k),cs.take (i*1)++ds++cs.drop (k*1))|_=>(0,[])):=⟨_,rfl⟩
 have c1:pf 1=λ v=>v=.slice a n c:=by rw [g0];rfl
 have c2:pf 2=λ v=>v=.int .i64 (i:Int):=by rw [g0];rfl
 have c3:pf 3=λ v=>v=.slice (eL a c 0 1) i c:=by rw [g0];rfl
 have c5:pf 5=λ v=>v=.slice b m d:=by rw [g0];rfl
 have c7:pf 7=λ v=>v=.slice a n c:=by rw [g0];rfl
 have c8:pf 8=λ v=>v=.int .i64 (k:Int):=by rw [g0];rfl
 have c9:pf 9=λ v=>v=.slice (eL a c k 1) (n-k) (c-k):=by rw [g0];rfl
 have r0:R 0=(0,[]):=by rw [hR];rfl
 have r4:R 4=(i,cs.take (i*1)):=by rw [hR];rfl
 have r6:R 6=(i+m,cs.take (i*1)++ds):=by rw [hR];rfl
 have l0:R 10=(i+m+(n-k),cs.take (i*1)++ds++cs.drop (k*1)):=by rw [hR];rfl
 clear g0 hR
 have s3:Sl F w 1 (eL a c 0 1) i c (cs.take (i*1)):=by
  have:=eW (l:=0) (h:=i) (mm:=c) hs (Nat.zero_le _) oM oM (Nat.le_refl _);simpa using this
 have s9:Sl F w 1 (eL a c k 1) (n-k) (c-k) (cs.drop (k*1)):=by
  have:=eW (l:=k) (h:=n) (mm:=c) hs oM (Nat.le_refl _) j0 (Nat.le_refl _);rw [List.take_of_length_le (by rw [List.length_drop,n0,Nat.sub_mul];exact Nat.le_refl _)] at this;exact this
 repeat refine aF ?_
 apply T.inv 11 (AppJ w 3 1 pf R)
 ·rfl
 ·exact λ w1 g1=>app_start g1
 ·repeat' (first|exact allInv_end|refine allInv_cons ?_ ?_)
  ·refine dY (js:=[]) rfl rfl ?_;rintro dn vs wq J hd a0;have zq:=J.g.size;repeat (first|refine aF ?_|refine yI λ bk w' hg o0 p0 m0=>?_)
   exact cQ rfl (app_first J hd hg (by rw [r0];exact eI o0 oM))
  ·refine dY (js:=[]) rfl rfl ?_;rintro dn vs wq J hd a0;repeat refine aF ?_
   exact cQ rfl (eC J (by unfold gA;omega) oM (by (rw [c1];done)))
  ·refine dY (js:=[]) rfl rfl ?_;rintro dn vs wq J hd a0;repeat refine aF ?_
   exact cQ rfl (eC J (by unfold gA;omega) oM (by (rw [c2];done)))
  ·refine dY (js:=[1,2]) rfl rfl ?_;rintro dn vs wq J hd a0;have e1:vs 1=.slice a n c:=by have:=J.p 1 (by unfold gA;omega) (a0 1 sM);rwa [c1] at this
   have e2:vs 2=.int .i64 (i:Int):=by have:=J.p 2 (by unfold gA;omega) (a0 2 sM);rwa [c2] at this
   show TL _ _ _ _ ((11,vs 2)::(10,vs 1)::_) _ _;rw [e1,e2];repeat (first|(refine cL ?_;refine dF (l:=0) (h:=i) (mm:=c) rfl (aP _) (bI rfl rfl) (aP _) (by intro h;cases h) oM oM oM oM oM rfl ?_)|refine yC ?_)
   exact cQ rfl (eC J (by unfold gA;omega) oM (by (rw [c3];rfl)))
  ·refine dY (js:=[0,3]) rfl rfl ?_;rintro dn vs wq J hd a0;have zq:=J.g.size;have e0:=J.q 0 (by unfold gA;omega) (a0 0 sM) hd;have es:vs 3=.slice (eL a c 0 1) i c:=by have:=J.p 3 (by unfold gA;omega) (a0 3 sM);rwa [c3] at this
   rw [r0] at e0;show TL _ _ _ _ ((12,vs 3)::(9,vs 0)::_) _ _;rw [es];refine TL.append rfl rfl e0 (s3.grow J.g) (λ u hu=>h1 u (List.mem_of_mem_take hu)) (by unfold maxLen;omega) oM oM rfl ?_;intro v' wr f0 i0 _;have h0:Grow w wr:=Grow.mk (aL i0 oM (λ k hk=>(aR e0 hk).1) J.g.1);refine TL.nil ?_;exact cQ rfl (jO (r:=0) J (by unfold gA;omega) (by unfold gA;omega) rfl hd (a0 0 sM) h0 (by rw [r4];simpa using f0))
  ·refine dY (js:=[]) rfl rfl ?_;rintro dn vs wq J hd a0;repeat refine aF ?_
   exact cQ rfl (eC J (by unfold gA;omega) oM (by (rw [c5];done)))
  ·refine dY (js:=[5,4]) rfl rfl ?_;rintro dn vs wq J hd a0;have zq:=J.g.size;have e0:=J.q 4 (by unfold gA;omega) (a0 4 sM) hd;have es:vs 5=.slice b m d:=by have:=J.p 5 (by unfold gA;omega) (a0 5 sM);rwa [c5] at this
   rw [r4] at e0;show TL _ _ _ _ ((13,vs 4)::(14,vs 5)::_) _ _;rw [es];refine TL.append rfl rfl e0 (hx.grow J.g) (h2) (by unfold maxLen;omega) oM oM rfl ?_;intro v' wr f0 i0 _;have h0:Grow w wr:=Grow.mk (aL i0 oM (λ k hk=>(aR e0 hk).1) J.g.1);refine TL.nil ?_;exact cQ rfl (jO (r:=4) J (by unfold gA;omega) (by unfold gA;omega) rfl hd (a0 4 sM) h0 (by rw [r6];simpa using f0))
  ·refine dY (js:=[]) rfl rfl ?_;rintro dn vs wq J hd a0;repeat refine aF ?_
   exact cQ rfl (eC J (by unfold gA;omega) oM (by (rw [c7];done)))
  ·refine dY (js:=[]) rfl rfl ?_;rintro dn vs wq J hd a0;repeat refine aF ?_
   exact cQ rfl (eC J (by unfold gA;omega) oM (by (rw [c8];done)))
  ·refine dY (js:=[7,8]) rfl rfl ?_;rintro dn vs wq J hd a0;have e1:vs 7=.slice a n c:=by have:=J.p 7 (by unfold gA;omega) (a0 7 sM);rwa [c7] at this
   have e2:vs 8=.int .i64 (k:Int):=by have:=J.p 8 (by unfold gA;omega) (a0 8 sM);rwa [c8] at this
   show TL _ _ _ _ ((17,vs 8)::(16,vs 7)::_) _ _;rw [e1,e2];repeat (first|(refine cL ?_;refine dF (l:=k) (h:=n) (mm:=c) rfl (bI rfl rfl) (aP _) (aP _) (by intro h;rfl) oM oM oM oM oM rfl ?_)|refine yC ?_)
   exact cQ rfl (eC J (by unfold gA;omega) oM (by (rw [c9];done)))
  ·refine dY (js:=[9,6]) rfl rfl ?_;rintro dn vs wq J hd a0;have zq:=J.g.size;have e0:=J.q 6 (by unfold gA;omega) (a0 6 sM) hd;have es:vs 9=.slice (eL a c k 1) (n-k) (c-k):=by have:=J.p 9 (by unfold gA;omega) (a0 9 sM);rwa [c9] at this
   rw [r6] at e0;show TL _ _ _ _ ((15,vs 6)::(18,vs 9)::_) _ _;rw [es];refine TL.append rfl rfl e0 (s9.grow J.g) (λ u hu=>h1 u (List.mem_of_mem_drop hu)) (by unfold maxLen;omega) oM oM rfl ?_;intro v' wr f0 i0 _;have h0:Grow w wr:=Grow.mk (aL i0 oM (λ k hk=>(aR e0 hk).1) J.g.1);refine TL.nil ?_;exact cQ rfl (jO (r:=6) J (by unfold gA;omega) (by unfold gA;omega) rfl hd (a0 6 sM) h0 (by rw [l0];simpa using f0))
 ·intro dn vs wq J k0;have e0:=J.q 10 (by unfold gA;omega) (k0 10 oM) J.e;rw [l0] at e0;show TL _ _ _ _ ((19,vs 10)::_) _ _;repeat refine aF ?_
  exact bA rfl ⟨_,rfl,e0,J.g⟩
theorem rkeys_t (F G:Nat→Prop) (a b:Option Addr) (n c m d i k:Nat) (cs ds:List Value) (w:World) (hs:Sl F w 1 a n c cs) (hx:Sl G w 1 b m d ds) (h1:∀ u∈cs,u.oneCell'=true) (h2:∀ u∈ds,u.oneCell'=true) (q0:i≤k) (hk:k≤n) (hn:n+m≤1000000) :
  Calls Tryz.prog 121 #[.slice a n c,.int .i64 (i:Int),.int .i64 (k:Int),.slice b m d] w (Ret λ v w'=>w'.ownsRow w.heap.size 30 1 v (i+m+(n-k)) (cs.take (i*1)++ds++cs.drop (k*1))∧Grow w w'):=by
 have n0:=hs.len;have s0:=hx.len;have j0:=hs.cap;refine V.calls (args:=[_,_,_,_]) Tryz.func121 rfl Tryz.ntmps121 rfl rfl ?_;obtain ⟨pf,g0⟩:∃ pf:Nat→Value→Prop,pf=(λ (j:Nat) (v:Value)=>match j with|1=>v=.slice a n c|2=>v=.int .i64 (i:Int)|3=>v=.slice (eL a c 0 1) i c|5=>v=.slice b m d|7=>v=.slice a n c|8=>v=.int .i64 (k:Int)|9=>v=.slice (eL a c k 1) (n-k) (c-k)|_=>True):=⟨_,rfl⟩
 obtain ⟨R,hR⟩:∃ R:Nat→Nat×List Value,R=(λ (s:Nat)=>match s with|0=>(0,[])|4=>(i,cs.take (i*1))|6=>(i+m,cs.take (i*1)++ds)|10=>(i+m+(n-k),cs.take (i*1)++ds++cs.drop (k*1))|_=>(0,[])):=⟨_,rfl⟩
 have c1:pf 1=λ v=>v=.slice a n c:=by rw [g0];rfl
 have c2:pf 2=λ v=>v=.int .i64 (i:Int):=by rw [g0];rfl
 have c3:pf 3=λ v=>v=.slice (eL a c 0 1) i c:=by rw [g0];rfl
 have c5:pf 5=λ v=>v=.slice b m d:=by rw [g0];rfl
 have c7:pf 7=λ v=>v=.slice a n c:=by rw [g0];rfl
 have c8:pf 8=λ v=>v=.int .i64 (k:Int):=by rw [g0];rfl
 have c9:pf 9=λ v=>v=.slice (eL a c k 1) (n-k) (c-k):=by rw [g0];rfl
 have r0:R 0=(0,[]):=by rw [hR];rfl
 have r4:R 4=(i,cs.take (i*1)):=by rw [hR];rfl
 have r6:R 6=(i+m,cs.take (i*1)++ds):=by rw [hR];rfl
 have l0:R 10=(i+m+(n-k),cs.take (i*1)++ds++cs.drop (k*1)):=by rw [hR];rfl
 clear g0 hR
 have s3:Sl F w 1 (eL a c 0 1) i c (cs.take (i*1)):=by
  have:=eW (l:=0) (h:=i) (mm:=c) hs (Nat.zero_le _) oM oM (Nat.le_refl _);simpa using this
 have s9:Sl F w 1 (eL a c k 1) (n-k) (c-k) (cs.drop (k*1)):=by
  have:=eW (l:=k) (h:=n) (mm:=c) hs oM (Nat.le_refl _) j0 (Nat.le_refl _);rw [List.take_of_length_le (by rw [List.length_drop,n0,Nat.sub_mul];exact Nat.le_refl _)] at this;exact this
 repeat refine aF ?_
 apply T.inv 11 (AppJ w 30 1 pf R)
 ·rfl
 ·exact λ w1 g1=>app_start g1
 ·repeat' (first|exact allInv_end|refine allInv_cons ?_ ?_)
  ·refine dY (js:=[]) rfl rfl ?_;rintro dn vs wq J hd a0;have zq:=J.g.size;repeat (first|refine aF ?_|refine yI λ bk w' hg o0 p0 m0=>?_)
   exact cQ rfl (app_first J hd hg (by rw [r0];exact eI o0 oM))
  ·refine dY (js:=[]) rfl rfl ?_;rintro dn vs wq J hd a0;repeat refine aF ?_
   exact cQ rfl (eC J (by unfold gA;omega) oM (by (rw [c1];done)))
  ·refine dY (js:=[]) rfl rfl ?_;rintro dn vs wq J hd a0;repeat refine aF ?_
   exact cQ rfl (eC J (by unfold gA;omega) oM (by (rw [c2];done)))
  ·refine dY (js:=[1,2]) rfl rfl ?_;rintro dn vs wq J hd a0;have e1:vs 1=.slice a n c:=by have:=J.p 1 (by unfold gA;omega) (a0 1 sM);rwa [c1] at this
   have e2:vs 2=.int .i64 (i:Int):=by have:=J.p 2 (by unfold gA;omega) (a0 2 sM);rwa [c2] at this
   show TL _ _ _ _ ((11,vs 2)::(10,vs 1)::_) _ _;rw [e1,e2];repeat (first|(refine cL ?_;refine dF (l:=0) (h:=i) (mm:=c) rfl (aP _) (bI rfl rfl) (aP _) (by intro h;cases h) oM oM oM oM oM rfl ?_)|refine yC ?_)
   exact cQ rfl (eC J (by unfold gA;omega) oM (by (rw [c3];rfl)))
  ·refine dY (js:=[0,3]) rfl rfl ?_;rintro dn vs wq J hd a0;have zq:=J.g.size;have e0:=J.q 0 (by unfold gA;omega) (a0 0 sM) hd;have es:vs 3=.slice (eL a c 0 1) i c:=by have:=J.p 3 (by unfold gA;omega) (a0 3 sM);rwa [c3] at this
   rw [r0] at e0;show TL _ _ _ _ ((12,vs 3)::(9,vs 0)::_) _ _;rw [es];refine TL.append rfl rfl e0 (s3.grow J.g) (λ u hu=>h1 u (List.mem_of_mem_take hu)) (by unfold maxLen;omega) oM oM rfl ?_;intro v' wr f0 i0 _;have h0:Grow w wr:=Grow.mk (aL i0 oM (λ k hk=>(aR e0 hk).1) J.g.1);refine TL.nil ?_;exact cQ rfl (jO (r:=0) J (by unfold gA;omega) (by unfold gA;omega) rfl hd (a0 0 sM) h0 (by rw [r4];simpa using f0))
  ·refine dY (js:=[]) rfl rfl ?_;rintro dn vs wq J hd a0;repeat refine aF ?_
   exact cQ rfl (eC J (by unfold gA;omega) oM (by (rw [c5];done)))
  ·refine dY (js:=[5,4]) rfl rfl ?_;rintro dn vs wq J hd a0;have zq:=J.g.size;have e0:=J.q 4 (by unfold gA;omega) (a0 4 sM) hd;have es:vs 5=.slice b m d:=by have:=J.p 5 (by unfold gA;omega) (a0 5 sM);rwa [c5] at this
   rw [r4] at e0;show TL _ _ _ _ ((13,vs 4)::(14,vs 5)::_) _ _;rw [es];refine TL.append rfl rfl e0 (hx.grow J.g) (h2) (by unfold maxLen;omega) oM oM rfl ?_;intro v' wr f0 i0 _;have h0:Grow w wr:=Grow.mk (aL i0 oM (λ k hk=>(aR e0 hk).1) J.g.1);refine TL.nil ?_;exact cQ rfl (jO (r:=4) J (by unfold gA;omega) (by unfold gA;omega) rfl hd (a0 4 sM) h0 (by rw [r6];simpa using f0))
  ·refine dY (js:=[]) rfl rfl ?_;rintro dn vs wq J hd a0;repeat refine aF ?_
   exact cQ rfl (eC J (by unfold gA;omega) oM (by (rw [c7];done)))
  ·refine dY (js:=[]) rfl rfl ?_;rintro dn vs wq J hd a0;repeat refine aF ?_
   exact cQ rfl (eC J (by unfold gA;omega) oM (by (rw [c8];done)))
  ·refine dY (js:=[7,8]) rfl rfl ?_;rintro dn vs wq J hd a0;have e1:vs 7=.slice a n c:=by have:=J.p 7 (by unfold gA;omega) (a0 7 sM);rwa [c7] at this
   have e2:vs 8=.int .i64 (k:Int):=by have:=J.p 8 (by unfold gA;omega) (a0 8 sM);rwa [c8] at this
   show TL _ _ _ _ ((17,vs 8)::(16,vs 7)::_) _ _;rw [e1,e2];repeat (first|(refine cL ?_;refine dF (l:=k) (h:=n) (mm:=c) rfl (bI rfl rfl) (aP _) (aP _) (by intro h;rfl) oM oM oM oM oM rfl ?_)|refine yC ?_)
   exact cQ rfl (eC J (by unfold gA;omega) oM (by (rw [c9];done)))
  ·refine dY (js:=[9,6]) rfl rfl ?_;rintro dn vs wq J hd a0;have zq:=J.g.size;have e0:=J.q 6 (by unfold gA;omega) (a0 6 sM) hd;have es:vs 9=.slice (eL a c k 1) (n-k) (c-k):=by have:=J.p 9 (by unfold gA;omega) (a0 9 sM);rwa [c9] at this
   rw [r6] at e0;show TL _ _ _ _ ((15,vs 6)::(18,vs 9)::_) _ _;rw [es];refine TL.append rfl rfl e0 (s9.grow J.g) (λ u hu=>h1 u (List.mem_of_mem_drop hu)) (by unfold maxLen;omega) oM oM rfl ?_;intro v' wr f0 i0 _;have h0:Grow w wr:=Grow.mk (aL i0 oM (λ k hk=>(aR e0 hk).1) J.g.1);refine TL.nil ?_;exact cQ rfl (jO (r:=6) J (by unfold gA;omega) (by unfold gA;omega) rfl hd (a0 6 sM) h0 (by rw [l0];simpa using f0))
 ·intro dn vs wq J k0;have e0:=J.q 10 (by unfold gA;omega) (k0 10 oM) J.e;rw [l0] at e0;show TL _ _ _ _ ((19,vs 10)::_) _ _;repeat refine aF ?_
  exact bA rfl ⟨_,rfl,e0,J.g⟩
def NdCells (F:Nat→Prop) (w:World):List Value→List Nd→Prop
 | [],[]=>True
 | v1::v2::v3::cs,nd::l=>(∃ x:NV,v1=x.v1∧v2=x.v2∧v3=x.v3∧NdAt F w x nd)∧NdCells F w cs l
 | _,_=>False
theorem NdCells.go {F F':Nat→Prop} {w w':World} (g:Carry F w F' w'):∀ {cs:List Value} {l:List Nd},NdCells F w cs l→NdCells F' w' cs l
 | [],[],_=>trivial
 | [],_::_,h=>h.elim
 | [_],[],h=>h.elim
 | [_,_],[],h=>h.elim
 | _::_::_::_,[],h=>h.elim
 | [_],_::_,h=>h.elim
 | [_,_],_::_,h=>h.elim
 | _::_::_::_,_::_,⟨⟨x,h1,h2,h3,h5⟩,h6⟩=>⟨⟨x,h1,h2,h3,h5.go g⟩,NdCells.go g h6⟩
theorem NdCells.snoc {F:Nat→Prop} {w:World} {x:NV} {nd:Nd} (hx:NdAt F w x nd):∀ {cs:List Value} {l:List Nd},NdCells F w cs l→NdCells F w (cs++[x.v1,x.v2,x.v3]) (l++[nd])
 | [],[],_=>⟨⟨x,rfl,rfl,rfl,hx⟩,trivial⟩
 | [],_::_,h=>h.elim
 | [_],[],h=>h.elim
 | [_,_],[],h=>h.elim
 | _::_::_::_,[],h=>h.elim
 | [_],_::_,h=>h.elim
 | [_,_],_::_,h=>h.elim
 | _::_::_::_,_::_,⟨h5,h6⟩=>⟨h5,NdCells.snoc hx h6⟩
theorem NdCells.len {F:Nat→Prop} {w:World}:∀ {cs:List Value} {l:List Nd},NdCells F w cs l→cs.length=l.length*3
 | [],[],_=>rfl
 | [],_::_,h=>h.elim
 | [_],[],h=>h.elim
 | [_,_],[],h=>h.elim
 | _::_::_::_,[],h=>h.elim
 | [_],_::_,h=>h.elim
 | [_,_],_::_,h=>h.elim
 | _::_::_::_,_::_,⟨h5,h6⟩=>by have:=NdCells.len h6;simp only [List.length_cons];omega
theorem NdCells.at' {F:Nat→Prop} {w:World}:∀ {l:List Nd} {cs:List Value} {i:Nat} {nd:Nd},NdCells F w cs l→l[i]? = some nd→∃ x:NV,(cs.drop (i*3)).take 3=[x.v1,x.v2,x.v3]∧NdAt F w x nd
 | [],_,i,nd,_,hx=>by simp at hx
 | _::_,[],_,_,h,_=>h.elim
 | _::_,[_],_,_,h,_=>h.elim
 | _::_,[_,_],_,_,h,_=>h.elim
 | y::l,v1::v2::v3::cs,0,nd,⟨⟨x,h1,h2,h3,h5⟩,_⟩,hx=>by
  simp only [List.getElem?_cons_zero,Option.some.injEq] at hx;subst hx;subst h1 h2 h3;exact ⟨x,rfl,h5⟩
 | y::l,v1::v2::v3::cs,i+1,nd,⟨_,h⟩,hx=>by
  obtain ⟨x,h1,h2⟩:=NdCells.at' h (by simpa using hx);refine ⟨x,?_,h2⟩;rw [show (i+1)*3=i*3+1+1+1 by omega];simpa using h1
theorem NdCells.one {F:Nat→Prop} {w:World}:∀ {cs:List Value} {l:List Nd},NdCells F w cs l→∀ u∈cs,u.oneCell'=true
 | [],[],_,u,hu=>by cases hu
 | [],_::_,h,_,_=>h.elim
 | [_],[],h,_,_=>h.elim
 | [_,_],[],h,_,_=>h.elim
 | _::_::_::_,[],h,_,_=>h.elim
 | [_],_::_,h,_,_=>h.elim
 | [_,_],_::_,h,_,_=>h.elim
 | _::_::_::_,_::_,⟨⟨x,h1,h2,h3,h5⟩,h6⟩,u,hu=>by
  simp only [List.mem_cons] at hu;rcases hu with rfl|rfl|rfl|hu
  ·rw [h1];rfl
  ·rw [h2];rfl
  ·rw [h3];rfl
  ·exact h6.one u hu
theorem three_at {cs:List Value} {o:Nat} {a b c:Value} (h:(cs.drop o).take 3=[a,b,c]):∀ j u,[a,b,c][j]? = some u→cs[o+j]? = some u:=by
 intro j u hj;rw [← h,List.getElem?_take,List.getElem?_drop] at hj;split at hj
 ·exact hj
 ·cases hj
theorem rwrite_c {K:Nat→Prop} {w:World} {R:RL} {g g':Pg} (h:RfAt K w R g) (hK:∀ k,w.heap.size≤k→K k) (F:Nat→Prop) (x:NV) (nd:Nd) (k0:NdAt F w x nd) (g0:bF nd=true) (l0:fK (dC nd)) (n:Nat) (hw:newP g (dC nd)=some (n,g')) :
  Calls Tryz.prog 110 #[.pointer (some ⟨R.p,0,none⟩),x.val] w (Ret λ v w'=>v=.tuple #[.int .i64 (n:Int),.int .i64 0]∧RfAt K w' R g'∧ButS R.S w w'):=by
 have e0:=length_bytesN g0;refine V.calls (args:=[_,_]) Tryz.func110 rfl Tryz.ntmps110 rfl rfl ?_;repeat (first|refine dD ?_|refine yI λ bk w' hg p0 o0 h0=>?_)
 refine aB 165 ?_;refine aA rfl (rbytesN_c F x nd _ (k0.go (Carry.grow hg)) g0) rfl ?_;rintro _ w2 ⟨u,rfl,a0,m0⟩;obtain ⟨a,c,rfl,i0⟩:=aM a0;have f0:=hg.trans m0;have z2:=f0.size;repeat refine dD ?_
 refine aB 46 ?_;refine aA rfl (rpnew_c (h.grow f0) (λ k hk=>hK k oM) _ a c (dC nd) i0 e0 l0 n g' hw) rfl ?_;rintro _ w3 ⟨rfl,j0,n0⟩;repeat refine dD ?_
 exact fJ rfl rfl ⟨_,rfl,rfl,j0,(ButS.grow f0).trans n0⟩
theorem RfAt.keep2 {K K':Nat→Prop} {w w':World} {R:RL} {g:Pg} (h:RfAt K w R g) (c:Carry K w K' w') (hb:∀ k,k=R.p∨k=R.d∨k=R.c∨k=R.u→w'.heap[k]? = w.heap[k]?) (a0:∀ k,K' k→¬ R.S k):RfAt K' w' R g:=by
 obtain ⟨cs,h1,h2,h3⟩:=h.cache;exact ⟨cJ h.blk (hb _ sM),cJ h.dsk (hb _ sM),cJ h.used (hb _ sM),h.ok,⟨cs,h1,cJ h2 (hb _ sM),λ n hn=>⟨(h3 n hn).1.go c,(h3 n hn).2.go c⟩⟩,h.lt,h.bl,a0,h.ne⟩
theorem rpages_c {K F:Nat→Prop} {w:World} {R:RL} {g g':Pg} (h:RfAt K w R g) (hK:∀ k,w.heap.size≤k→K k) (hF:∀ k,F k→k<w.heap.size→¬ R.S k) (a:Option Addr) (n c:Nat) (cs:List Value) (l:List Nd) (hs:Sl F w 3 a n c cs) (hc:NdCells F w cs l) (u1:∀ x∈l,fK (dC x)) (hn:n≤1000) (ks:List Nat) (hw:eY g l=some (ks,g')) :
  Calls Tryz.prog 120 #[.pointer (some ⟨R.p,0,none⟩),.slice a n c] w (Ret λ v w'=>∃ a' c',v=.tuple #[.slice a' ks.length c',.int .i64 0]∧Sl (λ k=>w.heap.size≤k) w' 1 a' ks.length c' (bC ks)∧RfAt K w' R g'∧ButS R.S w w'):=by
 have e2:=hc.len;have x1:=hs.len;have d2:n=l.length:=by omega
 have q1:=h.lts;refine V.calls (args:=[_,_]) Tryz.func120 rfl Tryz.ntmps120 rfl rfl ?_;repeat refine aF ?_
 refine aX (S:=Nat×Value×List Nat×Pg) (λ s=>[(7,.int .i64 (s.1:Int)),(6,s.2.1),(1,.slice a n c),(0,.pointer (some ⟨R.p,0,none⟩))]) (λ s w2=>s.1≤n∧∃ rest,eY s.2.2.2 (l.drop s.1)=some (rest,g')∧ks=s.2.2.1++rest∧s.2.2.1.length=s.1∧w2.ownsRow w.heap.size 3 1 s.2.1 s.1 (bC s.2.2.1)∧RfAt (λ k=>K k∧s.2.1.ownBlock≠some k) w2 R s.2.2.2∧ButS R.S w w2) (λ s=>n-s.1) (0,.slice none 0 0,[],g) ⟨rfl,rfl,rfl,rfl,trivial⟩ ⟨Nat.zero_le _,ks,hw,rfl,rfl,World.ownsRow_nil _ _ _ _,h.keep2 (Carry.mono λ k hk _=>⟨hk,λ e=>by cases e⟩) (λ _ _=>rfl) (λ k hk=>h.kne k hk.1),ButS.refl _ _⟩ ?_;rintro ⟨i,v,done,g2⟩ w2 ⟨hi,rest,j0,o0,p0,e0,n0,m0⟩;simp only at hi j0 o0 p0 e0 n0;have z2:=m0.size;have cF:Carry F w F w2:=Carry.buts m0 hF;by_cases r1:i<n;rotate_left
 ·obtain rfl:i=n:=by omega
  rw [List.drop_of_length_le oM] at j0;simp only [eY,Option.some.injEq,Prod.mk.injEq] at j0;obtain ⟨rfl,rfl⟩:=j0;rw [List.append_nil] at o0;subst o0;obtain ⟨a',c',rfl,j1⟩:=aM e0;repeat refine aF ?_
  exact fJ rfl rfl ⟨_,rfl,a',c',by rw [p0],by rw [p0];exact j1.mono (λ k hk=>hk.1),n0.keep2 (Carry.mono λ k hk _=>hk.1) (λ _ _=>rfl) h.kne,m0⟩
 obtain ⟨nd,v0⟩:∃ nd,l[i]? = some nd:=⟨_,List.getElem?_eq_getElem oM⟩
 obtain ⟨x,e1,hx⟩:=hc.at' v0;rw [iE v0] at j0;obtain ⟨p,g3,l0,g1,q0,rfl⟩:=kC j0;obtain ⟨m1,o1⟩:=gJ g1;have z0:=hs.go cF;have f1:=hx.go cF;repeat (first|(refine aI ?_;refine aC (j:=i) rfl rfl rfl r1 rfl ⟨_,_,z0⟩ rfl ?_)|(refine aQ ?_;refine dJ rfl z0 (three_at e1) rfl rfl ?_)|refine yC ?_)
 refine aB 110 ?_;refine aA rfl (rwrite_c n0 (λ k hk=>⟨hK k oM,λ e=>by have:=(aR e0 e).2;omega⟩) F x nd f1 m1 (u1 nd (List.mem_of_getElem? v0)) p o1) rfl ?_;rintro _ w3 ⟨rfl,u0,g0⟩;have z3:=g0.size;have f0:w3.ownsRow w.heap.size 3 1 v i (bC done):=cB e0 (λ k hk hv=>g0.block k (aR e0 hv).2 (λ e=>by unfold RL.S at e;omega));have a0:=m0.trans g0;clear n0 m0 g0 e0;repeat refine aF ?_
 refine TL.buildSlice rfl rfl rfl rfl rfl ?_;intro b' wa i0 w1 z1 y1 h1;have s0:Sl (λ _=>True) wa 1 (some ⟨b',0,none⟩) 1 1 (bC [p]):=(aU (sz:=1) (m:=1) w1 h1 dM).mono (λ _ _=>trivial);have s1:=i0.size;refine dO rfl rfl (aO f0 i0) s0 (gC _) (by unfold maxLen;omega) oM oM rfl ?_;intro v' wb h0 k0 x0;repeat refine aF ?_
 have zb:=k0.size;have y0:ButS R.S w wb:=⟨k0.os.trans ((i0.1.os).trans a0.os),k0.tape.trans ((i0.1.tape).trans a0.tape),k0.output.trans ((i0.1.output).trans a0.output),oM,λ k hk hS=>(k0.block k oM (λ e=>by have:=aR f0 e.symm;omega)).trans ((i0.block k oM).trans (a0.block k hk hS))⟩
 have t0:RfAt (λ k=>K k∧v'.ownBlock≠some k) wb R g3:=(u0.grow i0).keep2 (x0 K) (λ k hk=>k0.block k oM (λ e=>by have:=aR f0 e.symm;omega)) (λ k hk=>h.kne k hk.1);refine aE (i+1,v',done++[p],g3) ⟨rfl,rfl,rfl,rfl,trivial⟩ ⟨oM,l0,q0,?_,?_,?_,t0,y0⟩ ?_
 ·rw [o0];simp
 ·simp [p0]
 ·simp only [bC,List.map_append,List.map_cons,List.map_nil] at h0 ⊢;exact h0
 ·show n-(i+1)<n-i;omega
theorem its_cut {F:Nat→Prop} {w:World} {a:Option Addr} {n c i j:Nat} {l:bT} (h:ItsAt F w a n c l) (hi:i≤j) (hj:j≤n):ItsAt F w (eL a c i 2) (j-i) (c-i) ((l.drop i).take (j-i)):=by
 obtain ⟨cs,hs,hc⟩:=h.ex;refine ⟨_,eW hs hi hj (Nat.le_trans hj hs.cap) (Nat.le_refl _),?_⟩;rw [Nat.mul_comm i,Nat.mul_comm (j-i)];exact ((hc.take i).2.take (j-i)).1
theorem kys_cut {F:Nat→Prop} {w:World} {a:Option Addr} {n c i j:Nat} {l:List Bs} (h:KysAt F w a n c l) (hi:i≤j) (hj:j≤n):KysAt F w (eL a c i 1) (j-i) (c-i) ((l.drop i).take (j-i)):=by
 obtain ⟨cs,hs,hc⟩:=h.ex;refine ⟨_,eW hs hi hj (Nat.le_trans hj hs.cap) (Nat.le_refl _),?_⟩;rw [Nat.mul_one,Nat.mul_one];exact ((hc.take i).2.take (j-i)).1
theorem kids_cut {F:Nat→Prop} {w:World} {a:Option Addr} {n c i j:Nat} {l:List Nat} (h:Sl F w 1 a n c (bC l)) (hi:i≤j) (hj:j≤n):Sl F w 1 (eL a c i 1) (j-i) (c-i) (bC ((l.drop i).take (j-i))):=by
 have:=eW h hi hj (Nat.le_trans hj h.cap) (Nat.le_refl _);rw [Nat.mul_one,Nat.mul_one] at this;simpa [bC,List.map_drop,List.map_take] using this
theorem rsplit_c (F:Nat→Prop) (w:World) (hF:∀ k,w.heap.size≤k→F k) (x:NV) (nd:Nd) (h:NdAt F w x nd) (h9:aT nd≤1000) (e1:bN nd=false→nd.items=[]∧nd.keys.length+1=nd.kids.length) (o0:List Nd) (ks:List Bs)
  (g1:(aT nd≤8∧o0=[nd]∧ks=[])∨(8<aT nd∧o0=[(bV nd).1,(bV nd).2.1]∧ks=[(bV nd).2.2])) :
  Calls Tryz.prog 119 #[x.val] w (Ret λ v w'=>(∃ a c k cs,v=.tuple #[.slice a o0.length c,k]∧Sl F w' 3 a o0.length c cs∧NdCells F w' cs o0∧(∀ key,ks=[key]→BsAt F w' k key))∧Grow w w'):=by
 have s1:=h.its.len;have r1:=bR h.kids;have y2:=h.kys.len;have l0:nd.items.length≤1000∧nd.kids.length≤1000:=by unfold aT at h9;omega
 have q0:aT nd=nd.items.length+nd.kids.length:=rfl;obtain ⟨x2,x1,o2⟩:=h.its.ex;obtain ⟨u2,u1,j2⟩:=h.kys.ex;have f2:=x1.cap;have e2:=h.kids.cap;have y1:=u1.cap;refine V.calls (args:=[_]) Tryz.func119 rfl Tryz.ntmps119 rfl rfl ?_;by_cases g3:8<x.n1
 ·have i0:bN nd=true:=by
   cases hl:bN nd with
   | true=>rfl
   | false=>have:=(e1 hl).1;rw [this] at s1;simp at s1;omega
  rcases g1 with ⟨h8,_⟩|⟨h8,rfl,rfl⟩
  ·omega
  have hA:(bV nd).1=⟨nd.items.take 4,[],[]⟩:=by simp [bV,i0,dT]
  have hB:(bV nd).2.1=⟨nd.items.drop 4,[],[]⟩:=by simp [bV,i0,dT]
  obtain ⟨y0,p0⟩:∃ y,nd.items[4]? = some y:=⟨_,List.getElem?_eq_getElem oM⟩
  obtain ⟨kv,vv,f0,f1,h0,s2⟩:=o2.at' p0
  have m0:(bV nd).2.2=y0.1:=by
   simp only [bV,i0,dT,if_true,List.take_zero,List.nil_append,List.getD_eq_getElem?_getD,List.getElem?_drop];rw [p0];rfl
  rw [hA,hB,m0];have h1:=h0.one;repeat (first|refine aF ?_|refine yI λ bk w' hg g2 m1 l0=>?_)
  refine bD (e':=[(1,.pointer (some ⟨bk,0,none⟩)),(0,x.val)]) ?_ ⟨rfl,rfl,trivial⟩;obtain ⟨w1,rfl⟩:=yE w';have v0:=h.its.go (Carry.grow hg);have n0:=x1.go (Carry.grow hg);have c1:=its_cut v0 (i:=0) (j:=4) oM oM;have c2:=its_cut v0 (i:=4) (j:=x.n1) oM oM;have z1:=hg.size;rw [List.drop_zero] at c1;rw [List.take_of_length_le (by rw [List.length_drop];omega)] at c2;apply T.any 16 [is _,is _,is _,is _,is _,is _,is _,is _,slF (λ k=>w1.heap.size≤k) 3 2 2 [.slice (eL x.a1 x.c1 0 2) 4 (x.c1-0),.slice none 0 0,.slice none 0 0,.slice (eL x.a1 x.c1 4 2) (x.n1-4) (x.c1-4),.slice none 0 0,.slice none 0 0],is _,is _,is _,is _,is kv,slF (λ k=>w1.heap.size≤k) 3 2 2 [.slice (eL x.a1 x.c1 0 2) 4 (x.c1-0),.slice none 0 0,.slice none 0 0,.slice (eL x.a1 x.c1 4 2) (x.n1-4) (x.c1-4),.slice none 0 0,.slice none 0 0],is kv]
  ·rfl
  ·repeat' (first|exact aN|refine aK ?_ ?_)
   iterate 8
    ·refine yQ λ wq _ _ a0=>?_;repeat (first|(refine cL ?_;first|refine dF (l:=0) (h:=4) (mm:=x.c1) rfl (aP _) (bI rfl rfl) (aP _) (by intro h;cases h) oM oM oM oM oM rfl ?_|refine dF (l:=4) (h:=x.n1) (mm:=x.c1) rfl (bI rfl rfl) (aP _) (aP _) (by intro h;rfl) oM oM oM oM oM rfl ?_)|refine yC ?_)
     exact aD rfl yG rfl
   ·refine yQ λ wq _ _ a0=>?_;have zq:=a0.size;refine TL.buildSlice rfl rfl rfl rfl rfl ?_;intro b' wa j1 x0 q1 s0 o1;repeat refine aF ?_
    exact aD rfl yG ⟨_,rfl,(aU (sz:=3) (m:=2) x0 rfl dM).mono (λ k hk=>by subst hk;show w1.heap.size≤_;omega)⟩
   iterate 4
    ·refine yQ λ wq _ _ a0=>?_;repeat (first|(refine aI ?_;refine aC (j:=4) rfl rfl rfl oM rfl ⟨F,_,n0.grow yG⟩ rfl ?_)|(refine bM ?_;refine bJ (o:=8) rfl (n0.grow yG) f0 rfl ?_)|refine yC ?_)
     exact aD rfl yG rfl
   ·refine yQ λ wq _ _ a0=>?_;have r2:wq.cell? (at' x.a1 (8+0))=some kv:=(n0.grow a0).row.cell f0;repeat refine aF ?_
    exact aD rfl yG rfl
   ·(((refine bW rfl rfl rfl ?_);( intro wq _ _ a0;(repeat (refine aJ rfl rfl ?_;intro vq e0;try (obtain rfl:=e0)));(refine aZ ?_))))
    obtain ⟨a8,rfl,h8⟩:=e0;repeat refine aF ?_
    exact aD rfl yG ⟨a8,rfl,h8⟩
   ·(((refine bW rfl rfl rfl ?_);( intro wq _ _ a0;(repeat (refine aJ rfl rfl ?_;intro vq e0;try (obtain rfl:=e0)));(refine aZ ?_))))
    repeat refine aF ?_
    exact aD rfl yG rfl
  intro w2 h2 q2 g0 _ _;iterate 14 (refine aJ rfl rfl ?_;intro vq e0;try (obtain rfl:=e0))
  refine aJ rfl rfl ?_;rintro v8 ⟨a8,rfl,h8⟩;refine aJ rfl rfl ?_;intro v9 z0;obtain rfl:=z0;refine aZ ?_;have z2:=g0.size;have k0:=hg.trans g0;repeat refine aF ?_
  exact fJ rfl rfl ⟨_,rfl,⟨a8,2,_,_,rfl,h8.mono (λ k hk=>hF k oM),⟨⟨⟨_,_,_,none,0,0,none,0,0⟩,rfl,rfl,rfl,⟨c1.go (Carry.grow g0),iX,jG⟩⟩,⟨⟨_,_,_,none,0,0,none,0,0⟩,rfl,rfl,rfl,⟨c2.go (Carry.grow g0),iX,jG⟩⟩,trivial⟩,λ key hk=>by cases hk;exact h0.go (Carry.grow k0)⟩,k0⟩
 by_cases f3:8<x.n2
 ·have i0:bN nd=false:=by
   cases hl:bN nd with
   | false=>rfl
   | true=>rw [bL] at hl;rw [hl] at r1;simp at r1;omega
  obtain ⟨h3,d3⟩:=e1 i0;rcases g1 with ⟨h8,_⟩|⟨h8,rfl,rfl⟩
  ·omega
  have hA:(bV nd).1=⟨[],nd.kids.take 4,nd.keys.take 3⟩:=by simp [bV,i0,dT]
  have hB:(bV nd).2.1=⟨[],nd.kids.drop 4,nd.keys.drop 4⟩:=by simp [bV,i0,dT]
  obtain ⟨y0,p0⟩:∃ y,nd.keys[3]? = some y:=⟨_,List.getElem?_eq_getElem oM⟩
  obtain ⟨kv,f0,h0⟩:=j2.at' p0
  have m0:(bV nd).2.2=y0:=by
   simp only [bV,i0,if_false,Bool.false_eq_true,List.getD_eq_getElem?_getD];rw [p0];rfl
  rw [hA,hB,m0];have h1:=h0.one;repeat (first|refine aF ?_|refine yI λ bk w' hg g2 m1 l0=>?_)
  refine bD (e':=[(1,.pointer (some ⟨bk,0,none⟩)),(0,x.val)]) ?_ ⟨rfl,rfl,trivial⟩;obtain ⟨w1,rfl⟩:=yE w';have j0:=h.kids.go (Carry.grow hg);have t0:=h.kys.go (Carry.grow hg);have u0:=u1.go (Carry.grow hg);have c1:=kids_cut j0 (i:=0) (j:=4) oM oM;have c2:=kids_cut j0 (i:=4) (j:=x.n2) oM oM;have d1:=kys_cut t0 (i:=0) (j:=3) oM oM;have d2:=kys_cut t0 (i:=4) (j:=x.n3) oM oM;have z1:=hg.size;rw [List.drop_zero] at c1 d1;rw [List.take_of_length_le (by rw [List.length_drop];omega)] at c2 d2;apply T.any 21 [is _,is _,is _,is _,is _,is _,is _,is _,is _,is _,is _,is _,is _,is _,slF (λ k=>w1.heap.size≤k) 3 2 2 [.slice none 0 0,.slice (eL x.a2 x.c2 0 1) 4 (x.c2-0),.slice (eL x.a3 x.c3 0 1) 3 (x.c3-0),.slice none 0 0,.slice (eL x.a2 x.c2 4 1) (x.n2-4) (x.c2-4),.slice (eL x.a3 x.c3 4 1) (x.n3-4) (x.c3-4)],is _,is _,is _,is kv,slF (λ k=>w1.heap.size≤k) 3 2 2 [.slice none 0 0,.slice (eL x.a2 x.c2 0 1) 4 (x.c2-0),.slice (eL x.a3 x.c3 0 1) 3 (x.c3-0),.slice none 0 0,.slice (eL x.a2 x.c2 4 1) (x.n2-4) (x.c2-4),.slice (eL x.a3 x.c3 4 1) (x.n3-4) (x.c3-4)],is kv]
  ·rfl
  ·repeat' (first|exact aN|refine aK ?_ ?_)
   iterate 14
    ·refine yQ λ wq _ _ a0=>?_;repeat (first|(refine cL ?_;first|refine dF (l:=0) (h:=4) (mm:=x.c2) rfl (aP _) (bI rfl rfl) (aP _) (by intro h;cases h) oM oM oM oM oM rfl ?_|refine dF (l:=4) (h:=x.n2) (mm:=x.c2) rfl (bI rfl rfl) (aP _) (aP _) (by intro h;rfl) oM oM oM oM oM rfl ?_|refine dF (l:=0) (h:=3) (mm:=x.c3) rfl (aP _) (bI rfl rfl) (aP _) (by intro h;cases h) oM oM oM oM oM rfl ?_|refine dF (l:=4) (h:=x.n3) (mm:=x.c3) rfl (bI rfl rfl) (aP _) (aP _) (by intro h;rfl) oM oM oM oM oM rfl ?_)|refine yC ?_)
     exact aD rfl yG rfl
   ·refine yQ λ wq _ _ a0=>?_;have zq:=a0.size;refine TL.buildSlice rfl rfl rfl rfl rfl ?_;intro b' wa j1 x0 q1 s0 o1;repeat refine aF ?_
    exact aD rfl yG ⟨_,rfl,(aU (sz:=3) (m:=2) x0 rfl dM).mono (λ k hk=>by subst hk;show w1.heap.size≤_;omega)⟩
   iterate 3
    ·refine yQ λ wq _ _ a0=>?_;repeat (first|(refine aI ?_;refine aC (j:=3) rfl rfl rfl oM (Nat.mul_one _) ⟨F,_,u0.grow yG⟩ rfl ?_)|refine yC ?_)
     exact aD rfl yG rfl
   ·refine yQ λ wq _ _ a0=>?_;have r2:wq.cell? (at' x.a3 3)=some kv:=(u0.grow a0).row.cell f0;repeat refine aF ?_
    exact aD rfl yG rfl
   ·(((refine bW rfl rfl rfl ?_);( intro wq _ _ a0;(repeat (refine aJ rfl rfl ?_;intro vq e0;try (obtain rfl:=e0)));(refine aZ ?_))))
    obtain ⟨a8,rfl,h8⟩:=e0;repeat refine aF ?_
    exact aD rfl yG ⟨a8,rfl,h8⟩
   ·(((refine bW rfl rfl rfl ?_);( intro wq _ _ a0;(repeat (refine aJ rfl rfl ?_;intro vq e0;try (obtain rfl:=e0)));(refine aZ ?_))))
    repeat refine aF ?_
    exact aD rfl yG rfl
  intro w2 h2 q2 g0 _ _;iterate 19 (refine aJ rfl rfl ?_;intro vq e0;try (obtain rfl:=e0))
  refine aJ rfl rfl ?_;rintro v8 ⟨a8,rfl,h8⟩;refine aJ rfl rfl ?_;intro v9 z0;obtain rfl:=z0;refine aZ ?_;have z2:=g0.size;have k0:=hg.trans g0;repeat refine aF ?_
  exact fJ rfl rfl ⟨_,rfl,⟨a8,2,_,_,rfl,h8.mono (λ k hk=>hF k oM),⟨⟨⟨none,0,0,_,_,_,_,_,_⟩,rfl,rfl,rfl,⟨jZ,c1.go (Carry.grow g0),d1.go (Carry.grow g0)⟩⟩,⟨⟨none,0,0,_,_,_,_,_,_⟩,rfl,rfl,rfl,⟨jZ,c2.go (Carry.grow g0),d2.go (Carry.grow g0)⟩⟩,trivial⟩,λ key hk=>by cases hk;exact h0.go (Carry.grow k0)⟩,k0⟩
 have h8:aT nd≤8:=by
  cases hl:bN nd with
  | true=>rw [bL] at hl;rw [q0,hl];simp;omega
  | false=>have:=(e1 hl).1;rw [q0,this];simp;omega
 rcases g1 with ⟨_,rfl,rfl⟩|⟨i3,_⟩
 rotate_left
 ·omega
 repeat (first|refine aF ?_|refine yI λ bk w' hg g2 m1 l0=>?_)
 refine TL.buildSlice rfl rfl rfl rfl rfl ?_;intro b' wa j1 x0 q1 s0 o1;have k0:=hg.trans j1;have z1:=hg.size;repeat refine aF ?_
 exact fJ rfl rfl ⟨_,rfl,⟨_,1,_,_,rfl,(aU (sz:=3) (m:=1) x0 rfl dM).mono (λ k hk=>by subst hk;exact hF _ oM),⟨⟨x,rfl,rfl,rfl,h.go (Carry.grow k0)⟩,trivial⟩,λ key hk=>by cases hk⟩,k0⟩
theorem rdown_c {K:Nat→Prop} {w:World} {R:RL} {g:Pg} (h:RfAt K w R g) (G:Nat→Prop) (a:Option Addr) (m c n:Nat) (key:Bs) (fr:List (Nd×Nat)) (th:Bool) (hk:Sl G w 1 a m c (bB key)) (hp:jK g key 16 n=some (fr,th)) :
  Calls Tryz.prog 107 #[.pointer (some ⟨R.p,0,none⟩),.int .i64 (n:Int),.slice a m c] w (Ret λ v w'=>(∃ (b:Option Addr) (d:Nat) (cs:List Value) (b2:Option Addr) (d2:Nat),v=.tuple #[.agg #[.slice b fr.length d,.slice b2 (fr.length-1) d2],.int .i64 0]∧Sl (λ k=>w.heap.size≤k) w' 3 b fr.length d cs∧NdCells (λ k=>w.heap.size≤k) w' cs (fr.map (·.1))∧Sl (λ k=>w.heap.size≤k) w' 1 b2 (fr.length-1) d2 (bC (fr.dropLast.map (·.2))))∧Grow w w'):=by
 refine V.calls (args:=[_,_,_]) Tryz.func107 rfl Tryz.ntmps107 rfl rfl ?_;repeat (first|refine aF ?_|refine yI λ bk w' hg h0 o1 s1=>?_)
 rename_i b6 w1 g1 k1 p1 q4;obtain ⟨b8,rfl⟩:=yE bk;have d5:Grow w w':=g1.trans hg;have q0:w.heap.size≤b6∧b6<b8∧b8<w'.heap.size:=by have:=h0.lt;omega
 have k8:Blk w' b8 177 [.slice none 0 0,.slice none 0 0]:=h0;have k6:Blk w' b6 177 [.slice none 0 0,.slice none 0 0]:=k1.grow hg;clear h0 k1 hg g1 p1 q4 o1;obtain ⟨B,hB⟩:∃ B,B=w'.heap.size:=⟨_,rfl⟩
 refine aX (S:=Nat×Nat×Value×Value×List Value×List (Nd×Nat)×List (Nd×Nat)) (λ s=>[(10,.int .i64 (s.1:Int)),(9,.int .i64 (s.2.1:Int)),(8,.pointer (some ⟨b8,0,none⟩)),(6,.pointer (some ⟨b6,0,none⟩)),(2,.slice a m c),(0,.pointer (some ⟨R.p,0,none⟩))])
  (λ s w1=>s.1≤16∧jK g key (16-s.1) s.2.1=some (s.2.2.2.2.2.2,th)∧s.2.2.2.2.2.1++s.2.2.2.2.2.2=fr∧s.2.2.2.2.2.1.length=s.1∧Blk w1 b8 177 [s.2.2.1,s.2.2.2.1]∧Blk w1 b6 177 [.slice none 0 0,.slice none 0 0]∧w1.ownsRow B 79 3 s.2.2.1 s.1 s.2.2.2.2.1∧w1.ownsRow B 3 1 s.2.2.2.1 s.1 (bC (s.2.2.2.2.2.1.map (·.2)))∧(∀ k,s.2.2.1.ownBlock=some k→s.2.2.2.1.ownBlock≠some k)∧NdCells (λ k=>(B≤k∧s.2.2.2.1.ownBlock≠some k)∧s.2.2.1.ownBlock≠some k) w1 s.2.2.2.2.1 (s.2.2.2.2.2.1.map (·.1))∧Grow w w1∧B≤w1.heap.size)
  (λ s=>16-s.1) (0,n,.slice none 0 0,.slice none 0 0,[],[],fr) ⟨rfl,rfl,rfl,rfl,rfl,rfl,trivial⟩ ⟨by simp only;omega,hp,rfl,rfl,k8,k6,World.ownsRow_nil _ _ _ _,World.ownsRow_nil _ _ _ _,(λ k hk=>by cases hk),trivial,d5,by rw [hB];exact Nat.le_refl _⟩ ?_
 rintro ⟨i,n,va,vb,cs,dn,rs⟩ w1 ⟨hi,m4,s3,t3,j8,j6,t0,s0,g3,o3,r3,p5⟩;simp only at hi m4 s3 t3 j8 j6 t0 s0 g3 o3;obtain ⟨f',nd,hf,m3,w4⟩:=eV m4;have y4:i<16:=by omega
 have x4:=fB m3;have k5:=dV (dL m3);have o5:=h.cnt;have z1:=r3.size;repeat refine aF ?_
 refine aB 113 ?_;refine aA rfl (rnode_c (h.grow r3) n nd m3) rfl ?_;rintro _ w3 ⟨x,rfl,n4,m1⟩;have z3:=m1.size;repeat (first|refine aF ?_|refine yI λ bk w' hg h0 o1 s1=>?_|refine yJ λ w' hu h0 o1=>?_)
 have z0:Grow w3 w':=aH hu oM hg;have x2:Grow w w':=(r3.trans m1).trans z0;have c4:=(j8.grow m1).grow z0;have e4:=(j6.grow m1).grow z0;have f1:=aO (aO t0 m1) z0;have e1:=aO (aO s0 m1) z0;have q2:=(o3.go (Carry.grow m1)).go (Carry.grow z0)
 have q1:NdAt (λ k=>(B≤k∧vb.ownBlock≠some k)∧va.ownBlock≠some k) w' x nd :=
  (n4.go (Carry.mono λ k hk _=>⟨⟨oM,λ e=>by have:=(aR s0 e).2;omega⟩,λ e=>by have:=(aR t0 e).2;omega⟩)).go (Carry.grow z0)
 have z4:=z0.size;have qk:w1.heap.size≤bk∧bk<w'.heap.size:=by have:=h0.lt;omega
 have y0:∀ k,va.ownBlock=some k→B≤k∧k<w1.heap.size:=λ k e=>aR t0 e;have k0:∀ k,vb.ownBlock=some k→B≤k∧k<w1.heap.size:=λ k e=>aR s0 e;clear hu hg j8 j6 t0 s0 o3 n4 m1 o1 s1;refine TL.buildSlice rfl rfl rfl rfl rfl ?_;intro b' wa x0 p4 j5 h5 g5;have z2:Blk wa b' 79 [x.v1,x.v2,x.v3]:=p4;have k4:Sl (λ _=>True) wa 3 (some ⟨b',0,none⟩) 1 1 [x.v1,x.v2,x.v3]:=(aU (sz:=3) (m:=1) z2 rfl dM).mono (λ _ _=>trivial);have za:=x0.size;have x1:=aO f1 x0;refine dO (bytes:=72) rfl rfl x1 k4 (by intro u hu;simp only [List.mem_cons,List.not_mem_nil,or_false] at hu;rcases hu with rfl|rfl|rfl<;>rfl) (by unfold maxLen;omega) oM oM rfl ?_;intro a4 wb j0 f3 y2;have zb:=f3.size;have u2:Grow w wb:=Grow.mk (aL f3 oM (λ k hk=>by have:=y0 k hk;omega) (x2.trans x0).1);have jb:∀ k,k<wa.heap.size→va.ownBlock≠some k→wb.heap[k]? = wa.heap[k]?:=λ k hk e=>f3.block k hk (λ h=>e h.symm);have r4:=cJ (c4.grow x0) (jb b8 oM (λ e=>by have:=y0 _ e;omega));have d4:=cJ (e4.grow x0) (jb b6 oM (λ e=>by have:=y0 _ e;omega));have b4:=cJ (h0.grow x0) (jb bk oM (λ e=>by have:=y0 _ e;omega));have u0:=cB (aO e1 x0) (λ k hk hv=>jb k (by have:=k0 _ hv;omega) (λ e=>g3 k e hv))
 have r1:∀ k,a4.ownBlock=some k→vb.ownBlock≠some k:=λ k h1 h2=>by
  have:=((y2 (λ _=>True)).blk k ⟨trivial,λ e=>g3 k e h2⟩ (by have:=k0 _ h2;omega)).1.2;exact this h1
 have j2:=NdCells.snoc ((q1.go (Carry.grow x0)).go (y2 _)) ((q2.go (Carry.grow x0)).go (y2 _));have e2:=(q1.go (Carry.grow x0)).go (y2 _);have j1:∀ k,a4.ownBlock=some k→B≤k∧k<wb.heap.size:=λ k e=>aR j0 e;clear h0 p4 z2 k4 x1 f1 e1 q1 q2 c4 e4 f3 x0 x2 z0 jb y2 g3;obtain ⟨aa,ac,rfl,k3⟩:=aM j0;obtain ⟨ba,bc,rfl,j3⟩:=aM u0;repeat (first|refine aF ?_|refine yJ λ w' hu h0 o1=>?_)
 have i8:Blk w' b8 177 [.slice aa (i+1) ac,.slice ba i bc]:=h0;have cU:∀ G:Nat→Prop,(∀ k,G k→k≠b8)→Carry G wb G w':=λ G hG=>Carry.upd hu (λ k hk _=>hG k hk);have l0:Grow w w':=aH hu oM u2;have i6:=d4.upd hu oM;have ik:=b4.upd hu oM;have e0:=cB j0 (w':=w') (λ k hk hv=>hu.block k oM);have a0:=cB u0 (w':=w') (λ k hk hv=>hu.block k oM);have v0:=j2.go (cU _ (λ k hk=>by have:=hk.1.1;omega));have g0:=e2.go (cU _ (λ k hk=>by have:=hk.1.1;omega));clear h0 hu cU u2 d4 b4 j0 u0 j2 e2 k3 j3 r4;obtain ⟨w5,rfl⟩:=yE w';rcases w4 with ⟨hl,rfl,rfl⟩|⟨hl,kk,r,r2,v4,rfl⟩
 ·repeat (first|refine aF ?_|refine yJ λ w' hu h0 o1=>?_|(refine aB 114 ?_;refine aA rfl (rleaf_nd g0 hl _) rfl ?_;rintro _ _ ⟨rfl,f0⟩))
  obtain ⟨a5,c5,e5,s5⟩:=aM e0;obtain ⟨a7,c7,e7,s7⟩:=aM a0;cases e5;cases e7;have cF:Carry (λ k=>B≤k) w5 (λ k=>w.heap.size≤k) w':=(Carry.grow f0).trans ((Carry.upd hu (λ k hk _=>by omega)).trans (Carry.mono λ k hk _=>by omega));subst s3;have p3:(dn++[(nd,dP nd.items key)]).length=i+1:=by rw [List.length_append,t3];rfl
  refine fL rfl (aW h0 rfl) rfl ⟨_,rfl,⟨aa,ac,cs++[x.v1,x.v2,x.v3],ba,bc,by rw [p3];rfl,?_,?_,?_⟩,aH hu oM (l0.trans f0)⟩
  ·rw [p3];exact (s5.mono (λ k hk=>hk.1)).go cF
  ·rw [List.map_append];exact (v0.go (Carry.mono λ k hk _=>hk.1.1)).go cF
  ·rw [p3,List.dropLast_concat];exact (s7.mono (λ k hk=>hk.1)).go cF
 ·have m5:=(List.getElem?_eq_some_iff.1 r2).1;have l5:=bR g0.kids;repeat (first|refine aF ?_|(refine aB 114 ?_;refine aA rfl (rleaf_nd g0 hl _) rfl ?_;rintro _ _ ⟨rfl,f0⟩))
  rename_i w6;have z6:=f0.size;refine aB 115 ?_;refine aA rfl (rkid_c _ _ x nd a m c key _ (g0.go (Carry.grow f0)) (hk.grow (l0.trans f0)) x4 hl) rfl ?_;rintro _ w7 ⟨rfl,q3⟩;have z7:=q3.size;have gk:=f0.trans q3;have w2:=l0.trans gk;have h4:=i8.grow gk;have j4:=i6.grow gk;have g4:=ik.grow gk;have p0:=aO e0 gk;have n0:=aO a0 gk;have o2:=v0.go (Carry.grow gk);have f2:=g0.go (Carry.grow gk);clear f0 q3 i8 i6 ik e0 a0 v0 g0 l0;repeat refine aF ?_
  refine TL.buildSlice rfl rfl rfl rfl rfl ?_;intro f5 wc f0 o4 _ _ u4;have u1:Sl (λ _=>True) wc 1 (some ⟨f5,0,none⟩) 1 1 (bC [fW nd.keys key]):=(aU (sz:=1) (m:=1) o4 rfl dM).mono (λ _ _=>trivial);have zc:=f0.size;have m0:=aO n0 f0;refine dO (bytes:=8) rfl rfl m0 u1 (gC _) (by unfold maxLen;omega) oM oM rfl ?_;intro y3 wd i0 d3 u3;have zd:=d3.size;have s2:Grow w wd:=Grow.mk (aL d3 oM (λ k hk=>by have:=k0 k hk;omega) (w2.trans f0).1);have jb:∀ k,k<wc.heap.size→(Value.slice ba i bc).ownBlock≠some k→wd.heap[k]? = wc.heap[k]?:=λ k hk e=>d3.block k hk (λ h=>e h.symm);have s4:=cJ (h4.grow f0) (jb b8 oM (λ e=>by have:=k0 _ e;omega));have i4:=cJ (j4.grow f0) (jb b6 oM (λ e=>by have:=k0 _ e;omega));have f4:=cJ (g4.grow f0) (jb bk oM (λ e=>by have:=k0 _ e;omega));have o0:=cB (aO p0 f0) (λ k hk hv=>jb k (by have:=j1 _ hv;omega) (λ e=>r1 k hv e))
  have x3:∀ k,(Value.slice aa (i+1) ac).ownBlock=some k→y3.ownBlock≠some k:=λ k h1 h2 =>
   ((u3 (λ _=>True)).blk k ⟨trivial,λ e=>r1 k h1 e⟩ (by have:=j1 _ h1;omega)).1.2 h2
  have cM:Carry (λ k=>(B≤k∧(Value.slice ba i bc).ownBlock≠some k)∧(Value.slice aa (i+1) ac).ownBlock≠some k) wc (λ k=>(B≤k∧y3.ownBlock≠some k)∧(Value.slice aa (i+1) ac).ownBlock≠some k) wd :=
   (Carry.mono λ k hk _=>⟨⟨hk.1.1,hk.2⟩,hk.1.2⟩).trans ((u3 (λ k=>B≤k∧(Value.slice aa (i+1) ac).ownBlock≠some k)).trans (Carry.mono λ k hk _=>⟨⟨hk.1.1,hk.2⟩,hk.1.2⟩))
  have g2:=(o2.go (Carry.grow f0)).go cM;have y1:=(f2.go (Carry.grow f0)).go cM;clear h4 j4 g4 p0 n0 m0 o2 f2 w2 gk f0 o4 u1 d3 jb u3 cM r1;obtain ⟨bb,h3,rfl,i3⟩:=aM i0;repeat (first|refine aF ?_|refine yJ λ w' hu h0 o1=>?_)
  rename_i t4;have o8:Blk w' b8 177 [.slice aa (i+1) ac,.slice bb (i+1) h3]:=h0;have cU:Carry (λ k=>(B≤k∧(Value.slice bb (i+1) h3).ownBlock≠some k)∧(Value.slice aa (i+1) ac).ownBlock≠some k) wd (λ k=>(B≤k∧(Value.slice bb (i+1) h3).ownBlock≠some k)∧(Value.slice aa (i+1) ac).ownBlock≠some k) w':=Carry.upd hu (λ k hk _=>by have:=hk.1.1;omega);have l0:Grow w w':=aH hu oM s2;have i6:=i4.upd hu oM;have ik:=f4.upd hu oM;have e0:=cB o0 (w':=w') (λ k hk hv=>hu.block k oM);have a0:=cB i0 (w':=w') (λ k hk hv=>hu.block k oM);have v0:=g2.go cU;have g0:=y1.go cU;have zu:=hu.size;clear h0 hu cU s2 i4 f4 o0 i0 g2 y1 i3 s4;obtain ⟨w9,rfl⟩:=yE w';have l4:=g0.kids;have n5:w9.cell? (at' x.a2 (fW nd.keys key))=some (.int .i64 (kk:Int)):=l4.row.cell (by rw [show bC nd.kids=nd.kids.map λ (k:Nat)=>(.int .i64 (k:Int):Value) from rfl,List.getElem?_map,r2];rfl);repeat (first|(refine aI ?_;refine aC (j:=fW nd.keys key) rfl rfl rfl oM (Nat.mul_one _) ⟨_,_,l4⟩ rfl ?_)|refine yC ?_)
  refine aE (i+1,kk,.slice aa (i+1) ac,.slice bb (i+1) h3,cs++[x.v1,x.v2,x.v3],dn++[(nd,fW nd.keys key)],r) ⟨rfl,rfl,rfl,rfl,rfl,rfl,trivial⟩ ⟨by simp only;omega,?_,by simpa using s3,by simp [t3],o8,i6,e0,?_,x3,?_,l0,oM⟩ (by simp only;omega)
  ·rw [show 16-(i+1)=f' by omega];exact v4
  ·simp only [bC,List.map_append,List.map_cons,List.map_nil] at a0 ⊢;exact a0
  ·simp only [List.map_append,List.map_cons,List.map_nil];exact v0
end Go.Proofs.YtfpadnmdafiddaaGreatDoor
