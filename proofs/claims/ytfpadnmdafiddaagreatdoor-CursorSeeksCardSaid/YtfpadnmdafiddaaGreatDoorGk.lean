import Derived.Test.YtfpadnmdafiddaaGreatDoorG0
import Derived.Test.YtfpadnmdafiddaaGreatDoorGj
import Derived.Test.YtfpadnmdafiddaaGreatDoorGe
import Derived.Test.YtfpadnmdafiddaaGreatDoorGg
import Derived.Test.YtfpadnmdafiddaaGreatDoorGf
import Derived.Test.YtfpadnmdafiddaaGreatDoorGd
import Derived.Test.YtfpadnmdafiddaaGreatDoorGb
import Derived.Test.YtfpadnmdafiddaaGreatDoorGc
set_option linter.all false
set_option maxHeartbeats 16000000
set_option maxRecDepth 100000
namespace Go.Proofs.YtfpadnmdafiddaaGreatDoor
open Go Go.RowKit Go.V
instance ptrCursor:PtrTy Tryz.prog 97:=⟨kR⟩
section
variable {w:World} {C:CC} {cb:Nat} {d:Int} {pv:Value} {fs:List (Nd×Int)} {E:CE}
theorem cvalid_c (h:Cu w C cb d pv fs) :
  Calls Tryz.prog 135 #[.pointer (some ⟨cb,0,none⟩)] w (Ret λ v w'=>v=.bool true∧w=w'):=by
 have hb:=h.blk;refine V.calls (args:=[_]) Tryz.func135 rfl Tryz.ntmps135 rfl rfl ?_;repeat (first|(refine TL.isNeT 97 ?_;refine TL.neNilP rfl rfl rfl ?_)|(refine kU 97 ?_;refine TL.eqSame rfl rfl rfl ?_)|refine yA ?_)
 exact bA rfl ⟨_,rfl,rfl,rfl⟩
theorem Cu.tick {w':World} {d':Int} (h:Cu w C cb d pv fs) (u:Upd cb w w') (hb:Blk w' cb 206 [.pointer (some ⟨cb,0,none⟩),.pointer (some ⟨C.wb,0,none⟩),.int .i64 C.root,.slice C.fa C.fn C.fc,.slice C.ta C.tn C.tc,.bool C.back,.int .i64 C.most,.int .i64 d',pv]):Cu w' C cb d' pv fs∧CuTo cb pv pv w w':=by
 obtain ⟨cs,h1,h2⟩:=h.row;exact ⟨⟨hb,cs,gA h1 u oM,h2.go (Carry.upd u (λ k hk _=>by omega))⟩,(CuTo.grow (Grow.refl _)).upd (pv2:=pv) u⟩
theorem Cu.upd {w':World} {b:Nat} (h:Cu w C cb d pv fs) (u:Upd b w w') (hb:cb<b) (hno:pv.ownBlock≠some b):Cu w' C cb d pv fs:=by
 obtain ⟨cs,h1,h2⟩:=h.row;exact ⟨h.blk.upd u oM,cs,cL h1 (λ k hk hv=>u.block k (λ e=>hno (by rw [← e];exact hv))),h2.go (Carry.upd u (λ k hk _=>by omega))⟩
theorem CuTo.upd2 {pv':Value} {b:Nat} {w1 w2:World} (h:CuTo cb pv pv' w w1) (u:Upd b w1 w2) (hb:w.heap.size≤b):CuTo cb pv pv' w w2:=⟨h.but.upd u hb,h.own⟩
def nextIx (E:CE) (back:Bool) (ix:Option Nat):Option Nat:=ix.bind λ j=>if back then ixB j else jY E.al.length (j+1)
theorem restE_cons {back:Bool} {ix:Option Nat} (hix:∀ j,ix=some j→j<E.al.length) {it:Bs×Bs} {r:bT} (h:fU E back ix=it::r):it∈E.al∧r=fU E back (nextIx E back ix):=by
 cases ix with
 | none=>unfold fU at h;cases back<;>cases h
 | some j =>
  have hj:=hix j rfl;obtain ⟨y,hy⟩:∃ y,E.al[j]? = some y:=⟨_,List.getElem?_eq_getElem hj⟩
  cases back with
  | true =>
   have hr:fU E true (some j)=if kC E.fr y then y::mK E.al E.fr (ixB j) else []:=restB_head hy;rw [hr] at h;split at h
   ·cases h;exact ⟨List.mem_of_getElem? hy,rfl⟩
   ·cases h
  | false =>
   have hr:fU E false (some j)=if kB E.to y then y::kE E.al E.to (jY E.al.length (j+1)) else []:=mA hy;rw [hr] at h;split at h
   ·cases h;exact ⟨List.mem_of_getElem? hy,rfl⟩
   ·cases h
theorem nextIx_lt {back:Bool} {ix:Option Nat} (hix:∀ j,ix=some j→j<E.al.length):∀ j,nextIx E back ix=some j→j<E.al.length:=by
 intro j hj
 cases ix with
 | none=>cases hj
 | some i =>
  have hi:=hix i rfl;unfold nextIx at hj;simp only [Option.bind_some] at hj;split at hj
  ·cases i with
   | zero=>cases hj
   | succ i=>simp only [ixB,Option.some.injEq] at hj;omega
  ·unfold jY at hj;split at hj
   ·simp only [Option.some.injEq] at hj;omega
   ·cases hj
theorem cnext_c (o:Ok w C cb E) (h:Cu w C cb d pv fs) {ix:Option Nat} (hat:AtE E fs ix) (hix:∀ j,ix=some j→j<E.al.length) (hd:0≤d∧d≤4611686018427387904) :
  Calls Tryz.prog 57 #[.pointer (some ⟨cb,0,none⟩)] w (Ret λ v w'=>∃ pv' fs' ix' d' u1 u2 e,v=.tuple #[.agg #[u1,u2],.int .i64 e]∧Cu w' C cb d' pv' fs'∧CuTo cb pv pv' w w'∧AtE E fs' ix'∧(∀ j,ix'=some j→j<E.al.length) ∧
   ((e=0∧¬ lim C d∧∃ it,fU E C.back ix=it::fU E C.back ix'∧it∈E.al∧d'=d+1∧BsAt (λ k=>w.heap.size≤k∧pv'.ownBlock≠some k) w' u1 it.1∧BsAt (λ k=>w.heap.size≤k∧pv'.ownBlock≠some k) w' u2 it.2) ∨
    (e=6∧(lim C d∨fU E C.back ix=[])∧d'=d∧ix'=ix∧u1=.slice none 0 0∧u2=.slice none 0 0))):=by
 have hb:=h.blk;have hcl:=h.lt;have hv:=cvalid_c h;refine V.calls (args:=[_]) Tryz.func57 rfl Tryz.ntmps57 rfl rfl ?_;repeat (first|(refine aB 135 ?_;refine aA rfl (cvalid_c (h.grow yG)) rfl ?_;rintro _ _ ⟨rfl,rfl⟩)|refine yC ?_|refine yI λ bk w' hg hbk hsz hsz'=>?_)
 obtain ⟨t2,rfl⟩:=yE bk;refine aB 136 ?_;refine aA rfl (chere_c (o.grow hg) (h.grow hg) hat hix hd) rfl ?_;rintro _ w2 ⟨ka,kn,kc,va,vn,vc,b,rfl,hg2,hor⟩;have hgw2:=hg.trans hg2;have b2:=hbk.grow hg2;have q2:w.heap.size≤t2∧t2<w2.heap.size:=by have:=b2.lt;omega
 have h2:=h.grow hgw2;have o2:=o.grow hgw2;have hb2:=hb.grow hgw2;clear hbk hg hg2 hb hv hsz hsz';rcases hor with ⟨rfl,hlim,it,r,hr,hks,hvs⟩|⟨rfl,hno⟩
 rotate_left
 ·repeat (first|refine aF ?_|refine yI λ bk w' hg hbk hsz hsz'=>?_|refine yJ λ w' hu hbk hsz=>?_)
  rename_i hu1 _ _;have hgw:Grow w w':=aI hu oM (hgw2.trans (aI hu1 oM hg));exact fN rfl (aW hbk rfl) rfl ⟨_,rfl,pv,fs,ix,d,_,_,6,rfl,h.grow hgw,CuTo.grow hgw,hat,hix,.inr ⟨rfl,hno,rfl,rfl,rfl,rfl⟩⟩
 ·obtain ⟨hmem,hrest⟩:=restE_cons hix hr;obtain ⟨hk16,hv32⟩:=o2.ko it hmem;repeat (first|refine aF ?_|refine yI λ bk w' hg hbk hsz hsz'=>?_|refine yJ λ w' hu hbk hsz=>?_)
  rename_i hu1 hb4 hs4;have hbk':Blk w' cb 206 [.pointer (some ⟨cb,0,none⟩),.pointer (some ⟨C.wb,0,none⟩),.int .i64 C.root,.slice C.fa C.fn C.fc,.slice C.ta C.tn C.tc,.bool C.back,.int .i64 C.most,.int .i64 (d+1),pv]:=hbk;have b45:Blk w' bk 58 [.slice ka kn kc,.slice va vn vc]:=Blk.upd hu oM hb4;obtain ⟨t4,rfl⟩:=yE bk;have hgw4:Grow w _:=hgw2.trans (aI hu1 oM hg);have h4:=h.grow hgw4;obtain ⟨h5,hto45⟩:=h4.tick hu hbk';have hto5:=(CuTo.grow hgw4:CuTo cb pv pv w _).trans hto45;have c25:Carry (λ k=>C.lo≤k∧k<cb) w2 (λ k=>C.lo≤k∧k<cb) w':=(Carry.grow (aI hu1 oM hg)).trans (h4.carry hto45);have o5:=o2.go c25;have hks5:=hks.go c25;have hvs5:=hvs.go c25;have b25:Blk w' t2 58 [.slice none 0 0,.slice none 0 0]:=((b2.grow hg).upd hu1 oM).upd hu oM;have hpo:∀ j,pv.ownBlock=some j→j<w.heap.size:=λ j e=>(h.own e).2
  have hne:ix≠none→C.root≠-1:=by
   cases ix with
   | none=>exact λ e=>absurd rfl e
   | some j=>exact λ _=>o.ne (hix j rfl)
  have qt4:w2.heap.size≤t4:=by omega
  have z5:w2.heap.size≤w'.heap.size:=c25.size;have zw2:=hgw2.size;obtain ⟨w5,rfl⟩:=yE w'
  cases hback:C.back with
  | true =>
   repeat refine aF ?_
   refine aB 137 ?_;refine aA rfl (cmoveB_c o5.tr h5 o5.wlk hat hne) rfl ?_;rintro _ w6 ⟨pv6,fs6,h6,hto6,hat6⟩;have hat6':AtE E fs6 (nextIx E C.back ix):=by rw [hback];exact hat6
   have hto6':=hto5.trans hto6;have c6:=h5.carry hto6
   have b46:=bY b45 hto6.but (λ e=>by
    rcases e with e|e
    ·omega
    ·have:=hpo _ e;omega)
   have b26:=bY b25 hto6.but (λ e=>by
    rcases e with e|e
    ·omega
    ·have:=hpo _ e;omega)
   have hks6:=hks5.go c6;have hvs6:=hvs5.go c6;have z6:=hto6.but.size;have hpo6:∀ j,pv6.ownBlock=some j→j<w6.heap.size:=λ j e=>(h6.own e).2;repeat refine aF ?_
   refine bD (e':=[(4,.pointer (some ⟨t4,0,none⟩)),(2,.pointer (some ⟨t2,0,none⟩)),(0,.pointer (some ⟨cb,0,none⟩))]) ?_ ⟨rfl,rfl,rfl,trivial⟩;apply T.any 7 [is (.pointer (some ⟨t4,0+0,none⟩)),is (.slice ka kn kc),bsF w6.heap.size it.1,is (.pointer (some ⟨t4,0+1,none⟩)),is (.slice va vn vc),bsF w6.heap.size it.2,itF w6.heap.size it]
   ·rfl
   ·repeat' (first|exact aN|refine aK ?_ ?_)
    iterate 2
     ·refine yQ λ wq _ _ hgq=>?_;repeat refine aF ?_
      exact aD rfl yG rfl
    ·refine yQ λ wq _ _ hgq=>?_;have zq:=hgq.size;refine aB 95 ?_;refine aA rfl (nH _ _ it.1 _ (⟨_,_,_,rfl,hks6.grow hgq⟩:BsAt (λ k=>C.lo≤k∧k<cb) _ _ it.1) oM) rfl ?_;rintro u wr ⟨hu,hgr⟩;repeat refine aF ?_
     exact aD rfl yG (hu.go (Carry.mono λ k hk _=>by omega))
    iterate 2
     ·refine yQ λ wq _ _ hgq=>?_;repeat refine aF ?_
      exact aD rfl yG rfl
    ·(((refine bX rfl rfl rfl ?_);( intro wq _ _ hgq;(repeat (refine aJ rfl rfl ?_;intro vq hvq;try (obtain rfl:=hvq)));(refine aZ ?_))))
     have zq:=hgq.size;refine aB 95 ?_;refine aA rfl (nH _ _ it.2 _ (⟨_,_,_,rfl,hvs6.grow hgq⟩:BsAt (λ k=>C.lo≤k∧k<cb) _ _ it.2) oM) rfl ?_;rintro u wr ⟨hu,hgr⟩;repeat refine aF ?_
     exact aD rfl yG (hu.go (Carry.mono λ k hk _=>by omega))
    ·refine bX rfl rfl rfl ?_;intro wq _ _ hgq;refine aJ rfl rfl ?_;intro kv hkv;refine aJ rfl rfl ?_;intro vv hvv;refine aZ ?_;obtain ⟨q1,q2,rfl,q3⟩:=BsAt.sl hkv;obtain ⟨r1,r2,rfl,r3⟩:=BsAt.sl hvv;repeat refine aF ?_
     exact aD rfl yG ⟨_,_,rfl,⟨_,_,_,rfl,q3⟩,⟨_,_,_,rfl,r3⟩⟩
   rintro w7 _ _ hg7 _ _;iterate 6 (refine aJ rfl rfl ?_;intro vq hvq)
   refine aJ rfl rfl ?_;rintro vq ⟨kv,vv,rfl,hkv,hvv⟩;refine aZ ?_;obtain ⟨q1,q2,rfl,q3⟩:=BsAt.sl hkv;obtain ⟨r1,r2,rfl,r3⟩:=BsAt.sl hvv;have b27:=b26.grow hg7;have z7:=hg7.size;repeat (first|refine aF ?_|refine yJ λ w' hu hbk hsz=>?_)
   have hno:pv6.ownBlock≠some t2:=λ e=>by
    rcases hto6.own _ e with e3|e3
    ·have:=hpo _ e3;omega
    ·omega
   have cF:Carry (λ k=>w6.heap.size≤k) w7 (λ k=>w.heap.size≤k∧pv6.ownBlock≠some k) w':=(Carry.upd hu (λ k hk _=>by omega)).trans (Carry.mono λ k hk _=>⟨oM,λ e=>by have:=hpo6 _ e;omega⟩);exact fN rfl (aW hbk rfl) rfl ⟨_,rfl,pv6,fs6,nextIx E C.back ix,d+1,_,_,0,rfl,(h6.grow hg7).upd hu oM hno,(hto6'.trans (CuTo.grow hg7)).upd2 hu oM,hat6',nextIx_lt hix,.inl ⟨rfl,hlim,it,by rw [← hback,hr,hrest],hmem,rfl,⟨_,_,_,rfl,q3.go cF⟩,⟨_,_,_,rfl,r3.go cF⟩⟩⟩
  | false =>
   repeat refine aF ?_
   refine aB 137 ?_;refine aA rfl (cmoveF_c o5.tr h5 o5.wlk hat hne) rfl ?_;rintro _ w6 ⟨pv6,fs6,h6,hto6,hat6⟩;have hat6':AtE E fs6 (nextIx E C.back ix):=by rw [hback];exact hat6
   have hto6':=hto5.trans hto6;have c6:=h5.carry hto6
   have b46:=bY b45 hto6.but (λ e=>by
    rcases e with e|e
    ·omega
    ·have:=hpo _ e;omega)
   have b26:=bY b25 hto6.but (λ e=>by
    rcases e with e|e
    ·omega
    ·have:=hpo _ e;omega)
   have hks6:=hks5.go c6;have hvs6:=hvs5.go c6;have z6:=hto6.but.size;have hpo6:∀ j,pv6.ownBlock=some j→j<w6.heap.size:=λ j e=>(h6.own e).2;repeat refine aF ?_
   refine bD (e':=[(4,.pointer (some ⟨t4,0,none⟩)),(2,.pointer (some ⟨t2,0,none⟩)),(0,.pointer (some ⟨cb,0,none⟩))]) ?_ ⟨rfl,rfl,rfl,trivial⟩;apply T.any 7 [is (.pointer (some ⟨t4,0+0,none⟩)),is (.slice ka kn kc),bsF w6.heap.size it.1,is (.pointer (some ⟨t4,0+1,none⟩)),is (.slice va vn vc),bsF w6.heap.size it.2,itF w6.heap.size it]
   ·rfl
   ·repeat' (first|exact aN|refine aK ?_ ?_)
    iterate 2
     ·refine yQ λ wq _ _ hgq=>?_;repeat refine aF ?_
      exact aD rfl yG rfl
    ·refine yQ λ wq _ _ hgq=>?_;have zq:=hgq.size;refine aB 95 ?_;refine aA rfl (nH _ _ it.1 _ (⟨_,_,_,rfl,hks6.grow hgq⟩:BsAt (λ k=>C.lo≤k∧k<cb) _ _ it.1) oM) rfl ?_;rintro u wr ⟨hu,hgr⟩;repeat refine aF ?_
     exact aD rfl yG (hu.go (Carry.mono λ k hk _=>by omega))
    iterate 2
     ·refine yQ λ wq _ _ hgq=>?_;repeat refine aF ?_
      exact aD rfl yG rfl
    ·(((refine bX rfl rfl rfl ?_);( intro wq _ _ hgq;(repeat (refine aJ rfl rfl ?_;intro vq hvq;try (obtain rfl:=hvq)));(refine aZ ?_))))
     have zq:=hgq.size;refine aB 95 ?_;refine aA rfl (nH _ _ it.2 _ (⟨_,_,_,rfl,hvs6.grow hgq⟩:BsAt (λ k=>C.lo≤k∧k<cb) _ _ it.2) oM) rfl ?_;rintro u wr ⟨hu,hgr⟩;repeat refine aF ?_
     exact aD rfl yG (hu.go (Carry.mono λ k hk _=>by omega))
    ·refine bX rfl rfl rfl ?_;intro wq _ _ hgq;refine aJ rfl rfl ?_;intro kv hkv;refine aJ rfl rfl ?_;intro vv hvv;refine aZ ?_;obtain ⟨q1,q2,rfl,q3⟩:=BsAt.sl hkv;obtain ⟨r1,r2,rfl,r3⟩:=BsAt.sl hvv;repeat refine aF ?_
     exact aD rfl yG ⟨_,_,rfl,⟨_,_,_,rfl,q3⟩,⟨_,_,_,rfl,r3⟩⟩
   rintro w7 _ _ hg7 _ _;iterate 6 (refine aJ rfl rfl ?_;intro vq hvq)
   refine aJ rfl rfl ?_;rintro vq ⟨kv,vv,rfl,hkv,hvv⟩;refine aZ ?_;obtain ⟨q1,q2,rfl,q3⟩:=BsAt.sl hkv;obtain ⟨r1,r2,rfl,r3⟩:=BsAt.sl hvv;have b27:=b26.grow hg7;have z7:=hg7.size;repeat (first|refine aF ?_|refine yJ λ w' hu hbk hsz=>?_)
   have hno:pv6.ownBlock≠some t2:=λ e=>by
    rcases hto6.own _ e with e3|e3
    ·have:=hpo _ e3;omega
    ·omega
   have cF:Carry (λ k=>w6.heap.size≤k) w7 (λ k=>w.heap.size≤k∧pv6.ownBlock≠some k) w':=(Carry.upd hu (λ k hk _=>by omega)).trans (Carry.mono λ k hk _=>⟨oM,λ e=>by have:=hpo6 _ e;omega⟩);exact fN rfl (aW hbk rfl) rfl ⟨_,rfl,pv6,fs6,nextIx E C.back ix,d+1,_,_,0,rfl,(h6.grow hg7).upd hu oM hno,(hto6'.trans (CuTo.grow hg7)).upd2 hu oM,hat6',nextIx_lt hix,.inl ⟨rfl,hlim,it,by rw [← hback,hr,hrest],hmem,rfl,⟨_,_,_,rfl,q3.go cF⟩,⟨_,_,_,rfl,r3.go cF⟩⟩⟩
end
theorem ixB_lt {n k:Nat} (h:k≤n):∀ j,ixB k=some j→j<n:=by
 intro j hj
 cases k with
 | zero=>cases hj
 | succ k=>simp only [ixB,Option.some.injEq] at hj;omega
theorem toIx_bd {n k:Nat}:∀ j,jY n k=some j→j<n:=by
 intro j hj;unfold jY at hj;split at hj
 ·simp only [Option.some.injEq] at hj;omega
 ·cases hj
def seekL (E:CE) (back:Bool) (key:Bs):bT:=(eN E.al E.fr E.to back).filter (if back then jH key else kC key)
theorem tw_le (P:Bs×Bs→Bool) (al:bT):(al.takeWhile P).length≤al.length:=dX _ _
section
variable {w:World} {C:CC} {cb:Nat} {d:Int} {pv:Value} {fs:List (Nd×Int)} {E:CE}
theorem ixU_lt (key:Bs):∀ j,ixU E key=some j→j<E.al.length:=by
 unfold ixU;split
 ·exact ixB_lt (tw_le _ _)
 ·exact ixB_lt (tw_le _ _)
theorem ixU_rest (hs:Srt E.al) (key:Bs):fU E true (ixU E key)=seekL E true key:=by
 show mK E.al E.fr (ixU E key)=(eN E.al E.fr E.to true).filter (jH key);unfold ixU;split
 ·rename_i h;rw [range_B hs,seek_B1 hs h.1 h.2];simp only [List.filter_filter,Bool.and_self]
 ·rename_i h;refine seek_B2 hs ?_;by_cases h1:E.to=[]
  ·exact .inl h1
  ·by_cases h2:eO key E.to
   ·exact .inr h2
   ·exact absurd ⟨h1,h2⟩ h
theorem cseek_c (o:Ok w C cb E) (h:Cu w C cb d pv fs) (G:Nat→Prop) (hG:∀ k,G k→k≠cb∧pv.ownBlock≠some k) (ka:Option Addr) (kn kc:Nat) (key:Bs) (hk:Sl G w 1 ka kn kc (bB key)) (hkb:eZ key) (h16:kn≤16) :
  Calls Tryz.prog 60 #[.pointer (some ⟨cb,0,none⟩),.slice ka kn kc] w (Ret λ v w'=>v=.int .i64 0∧∃ pv' fs' ix',Cu w' C cb d pv' fs'∧CuTo cb pv pv' w w'∧AtE E fs' ix'∧(∀ j,ix'=some j→j<E.al.length)∧fU E C.back ix'=seekL E C.back key):=by
 have hb:=h.blk;have hcl:=h.lt;refine V.calls (args:=[_,_]) Tryz.func60 rfl Tryz.ntmps60 rfl rfl ?_
 cases hback:C.back with
 | true =>
  rw [hback] at hb;repeat (first|(refine aB 135 ?_;refine aA rfl (cvalid_c (h.grow yG)) rfl ?_;rintro _ _ ⟨rfl,rfl⟩)|refine yC ?_)
  refine aB 138 ?_;refine aA rfl (cupto_c o h G hG ka kn kc key hk hkb) rfl ?_;rintro _ w1 ⟨pv1,fs1,h1,hto1,hat1⟩;repeat refine aF ?_
  exact bA rfl ⟨_,rfl,rfl,pv1,fs1,_,h1,hto1,hat1,ixU_lt key,ixU_rest o.srt key⟩
 | false =>
  rw [hback] at hb;have hG2:∀ k,C.lo≤k∧k<cb→k≠cb∧pv.ownBlock≠some k:=λ k hk=>⟨oM,λ e=>by have:=(h.own e).1;omega⟩
  by_cases hlt:eO key E.fr
  ·have hc:bW key E.fr<0:=hlt;repeat (first|(refine aB 135 ?_;refine aA rfl (cvalid_c (h.grow yG)) rfl ?_;rintro _ _ ⟨rfl,rfl⟩)|(refine aB 139 ?_;refine aA rfl (dU _ _ _ _ _ _ _ _ key E.fr _ (hk.grow yG) (o.f.grow yG)) rfl ?_;rintro _ _ ⟨rfl,hgc⟩)|refine yC ?_)
   refine aB 133 ?_;refine aA rfl (cfind_c (o.grow hgc).tr (h.grow hgc) (o.grow hgc).wlk _ hG2 _ _ _ E.fr (o.grow hgc).f) rfl ?_;rintro _ w1 ⟨pv1,fs1,h1,hto1,hat1⟩;repeat refine aF ?_
   refine bA rfl ⟨_,rfl,rfl,pv1,fs1,_,h1,(CuTo.grow hgc).trans hto1,hat1,toIx_bd,?_⟩;show kE E.al E.to _=(eN E.al E.fr E.to false).filter (kC key);rw [range_F o.srt,← seek_F1 o.srt hlt]
  ·have hc:0≤bW key E.fr:=by unfold eO at hlt;omega
   repeat (first|(refine aB 135 ?_;refine aA rfl (cvalid_c (h.grow yG)) rfl ?_;rintro _ _ ⟨rfl,rfl⟩)|(refine aB 139 ?_;refine aA rfl (dU _ _ _ _ _ _ _ _ key E.fr _ (hk.grow yG) (o.f.grow yG)) rfl ?_;rintro _ _ ⟨rfl,hgc⟩)|refine yC ?_)
   refine aB 133 ?_;refine aA rfl (cfind_c (o.grow hgc).tr (h.grow hgc) (o.grow hgc).wlk G hG _ _ _ key (hk.grow hgc)) rfl ?_;rintro _ w1 ⟨pv1,fs1,h1,hto1,hat1⟩;repeat refine aF ?_
   refine bA rfl ⟨_,rfl,rfl,pv1,fs1,_,h1,(CuTo.grow hgc).trans hto1,hat1,toIx_bd,?_⟩;exact seek_F2 o.srt hlt
end
end Go.Proofs.YtfpadnmdafiddaaGreatDoor
namespace Go.Proofs
open Go Go.RowKit Go.V Go.Maps Go.Sort Go.Shelf Go.WideShapes
set_option maxRecDepth 20000
end Go.Proofs
namespace Go.Proofs.YtfpadnmdafiddaaGreatDoor
open Go Go.RowKit Go.V
theorem tree_trM {s:Pg} {r:Option Nat} {lv:Nat} {l:bT} {ps:List Nat} {M:fS} (hM:MemoOk s M) (h:TrAt s r lv l ps) (h16:lv≤16) :
  ∃ M',treeP s r M=some (lv,M')∧MemoOk s M'∧∀ k,(∃ t,gO M' k=some t)↔(∃ t,gO M k=some t)∨k∈ps:=by
 cases r with
 | none =>
  obtain ⟨rfl,rfl,rfl⟩:=h;exact ⟨M,rfl,hM,λ k=>by simp⟩
 | some n =>
  obtain ⟨h,nd,ps',rfl,e2,e3,e4,rfl⟩:=h;obtain ⟨t,M',q1,q2,q3,q4,q5,q6,q7⟩:=part_tr s h 16 oM oM hM e2 e3 e4;refine ⟨M',?_,q2,λ k=>⟨λ ⟨tk,hk⟩=>q7 k tk hk,λ hk=>?_⟩⟩
  ·simp only [treeP,q1];rw [if_neg (by rw [q5];omega),q6.lv]
  ·rcases hk with ⟨t0,h0⟩|hk
   ·exact ⟨t0,q3 _ _ h0⟩
   ·rcases List.mem_cons.1 hk with rfl|hk
    ·exact ⟨t,q4⟩
    ·exact q6.ps k hk
theorem ritems_t (F G:Nat→Prop) (a b:Option Addr) (n c m d i k:Nat) (cs ds:List Value) (w:World) (hs:Sl F w 2 a n c cs) (hx:Sl G w 2 b m d ds) (h1:∀ u∈cs,u.oneCell'=true) (h2:∀ u∈ds,u.oneCell'=true) (hik:i≤k) (hk:k≤n) (hn:n+m≤1000000) :
  Calls Tryz.prog 109 #[.slice a n c,.int .i64 (i:Int),.int .i64 (k:Int),.slice b m d] w (Ret λ v w'=>w'.ownsRow w.heap.size 58 2 v (i+m+(n-k)) (cs.take (i*2)++ds++cs.drop (k*2))∧Grow w w'):=by
 have hcs:=hs.len;have hds:=hx.len;have hcap:=hs.cap;refine V.calls (args:=[_,_,_,_]) Tryz.func109 rfl Tryz.ntmps109 rfl rfl ?_;obtain ⟨pf,hpf⟩:∃ pf:Nat→Value→Prop,pf=(λ (j:Nat) (v:Value)=>match j with|1=>v=.slice a n c|2=>v=.int .i64 (i:Int)|3=>v=.slice (eP a c 0 2) i c|5=>v=.slice b m d|7=>v=.slice a n c|8=>v=.int .i64 (k:Int)|9=>v=.slice (eP a c k 2) (n-k) (c-k)|_=>True):=⟨_,rfl⟩
 obtain ⟨R,hR⟩:∃ R:Nat→Nat×List Value,R=(λ (s:Nat)=>match s with|0=>(0,[])|4=>(i,cs.take (i*2))|6=>(i+m,cs.take (i*2)++ds)|10=>(i+m+(n-k),cs.take (i*2)++ds++cs.drop (k*2))|_=>(0,[])):=⟨_,rfl⟩
 have c1:pf 1=λ v=>v=.slice a n c:=by rw [hpf];rfl
 have c2:pf 2=λ v=>v=.int .i64 (i:Int):=by rw [hpf];rfl
 have c3:pf 3=λ v=>v=.slice (eP a c 0 2) i c:=by rw [hpf];rfl
 have c5:pf 5=λ v=>v=.slice b m d:=by rw [hpf];rfl
 have c7:pf 7=λ v=>v=.slice a n c:=by rw [hpf];rfl
 have c8:pf 8=λ v=>v=.int .i64 (k:Int):=by rw [hpf];rfl
 have c9:pf 9=λ v=>v=.slice (eP a c k 2) (n-k) (c-k):=by rw [hpf];rfl
 have r0:R 0=(0,[]):=by rw [hR];rfl
 have r4:R 4=(i,cs.take (i*2)):=by rw [hR];rfl
 have r6:R 6=(i+m,cs.take (i*2)++ds):=by rw [hR];rfl
 have r10:R 10=(i+m+(n-k),cs.take (i*2)++ds++cs.drop (k*2)):=by rw [hR];rfl
 clear hpf hR
 have s3:Sl F w 2 (eP a c 0 2) i c (cs.take (i*2)):=by
  have:=eY (l:=0) (h:=i) (mm:=c) hs (Nat.zero_le _) oM oM (Nat.le_refl _);simpa using this
 have s9:Sl F w 2 (eP a c k 2) (n-k) (c-k) (cs.drop (k*2)):=by
  have:=eY (l:=k) (h:=n) (mm:=c) hs oM (Nat.le_refl _) hcap (Nat.le_refl _);rw [List.take_of_length_le (by rw [List.length_drop,hcs,Nat.sub_mul];exact Nat.le_refl _)] at this;exact this
 repeat refine aF ?_
 apply T.inv 11 (AppJ w 58 2 pf R)
 ·rfl
 ·exact λ w1 g1=>app_start g1
 ·repeat' (first|exact allInv_end|refine allInv_cons ?_ ?_)
  ·refine dY (js:=[]) rfl rfl ?_;rintro dn vs wq J hd hdep;have zq:=J.g.size;repeat (first|refine aF ?_|refine yI λ bk w' hg hbk hsz hsz'=>?_)
   exact cQ rfl (app_first J hd hg (by rw [r0];exact eL hbk oM))
  ·refine dY (js:=[]) rfl rfl ?_;rintro dn vs wq J hd hdep;repeat refine aF ?_
   exact cQ rfl (eE J (by unfold gB;omega) oM (by (rw [c1];done)))
  ·refine dY (js:=[]) rfl rfl ?_;rintro dn vs wq J hd hdep;repeat refine aF ?_
   exact cQ rfl (eE J (by unfold gB;omega) oM (by (rw [c2];done)))
  ·refine dY (js:=[1,2]) rfl rfl ?_;rintro dn vs wq J hd hdep;have e1:vs 1=.slice a n c:=by have:=J.p 1 (by unfold gB;omega) (hdep 1 sM);rwa [c1] at this
   have e2:vs 2=.int .i64 (i:Int):=by have:=J.p 2 (by unfold gB;omega) (hdep 2 sM);rwa [c2] at this
   show TL _ _ _ _ ((11,vs 2)::(10,vs 1)::_) _ _;rw [e1,e2];repeat (first|(refine cG ?_;refine dE (l:=0) (h:=i) (mm:=c) rfl (aP _) (bI rfl rfl) (aP _) (by intro h;cases h) oM oM oM oM oM rfl ?_)|refine yC ?_)
   exact cQ rfl (eE J (by unfold gB;omega) oM (by (rw [c3];rfl)))
  ·refine dY (js:=[0,3]) rfl rfl ?_;rintro dn vs wq J hd hdep;have zq:=J.g.size;have hrow:=J.q 0 (by unfold gB;omega) (hdep 0 sM) hd;have es:vs 3=.slice (eP a c 0 2) i c:=by have:=J.p 3 (by unfold gB;omega) (hdep 3 sM);rwa [c3] at this
   rw [r0] at hrow;show TL _ _ _ _ ((12,vs 3)::(9,vs 0)::_) _ _;rw [es];refine TL.append rfl rfl hrow (s3.grow J.g) (λ u hu=>h1 u (List.mem_of_mem_take hu)) (by unfold maxLen;omega) oM oM rfl ?_;intro v' wr hown hgb _;have hgr:Grow w wr:=Grow.mk (aL hgb oM (λ k hk=>(aT hrow hk).1) J.g.1);refine TL.nil ?_;exact cQ rfl (jT (r:=0) J (by unfold gB;omega) (by unfold gB;omega) rfl hd (hdep 0 sM) hgr (by rw [r4];simpa using hown))
  ·refine dY (js:=[]) rfl rfl ?_;rintro dn vs wq J hd hdep;repeat refine aF ?_
   exact cQ rfl (eE J (by unfold gB;omega) oM (by (rw [c5];done)))
  ·refine dY (js:=[5,4]) rfl rfl ?_;rintro dn vs wq J hd hdep;have zq:=J.g.size;have hrow:=J.q 4 (by unfold gB;omega) (hdep 4 sM) hd;have es:vs 5=.slice b m d:=by have:=J.p 5 (by unfold gB;omega) (hdep 5 sM);rwa [c5] at this
   rw [r4] at hrow;show TL _ _ _ _ ((13,vs 4)::(14,vs 5)::_) _ _;rw [es];refine TL.append rfl rfl hrow (hx.grow J.g) (h2) (by unfold maxLen;omega) oM oM rfl ?_;intro v' wr hown hgb _;have hgr:Grow w wr:=Grow.mk (aL hgb oM (λ k hk=>(aT hrow hk).1) J.g.1);refine TL.nil ?_;exact cQ rfl (jT (r:=4) J (by unfold gB;omega) (by unfold gB;omega) rfl hd (hdep 4 sM) hgr (by rw [r6];simpa using hown))
  ·refine dY (js:=[]) rfl rfl ?_;rintro dn vs wq J hd hdep;repeat refine aF ?_
   exact cQ rfl (eE J (by unfold gB;omega) oM (by (rw [c7];done)))
  ·refine dY (js:=[]) rfl rfl ?_;rintro dn vs wq J hd hdep;repeat refine aF ?_
   exact cQ rfl (eE J (by unfold gB;omega) oM (by (rw [c8];done)))
  ·refine dY (js:=[7,8]) rfl rfl ?_;rintro dn vs wq J hd hdep;have e1:vs 7=.slice a n c:=by have:=J.p 7 (by unfold gB;omega) (hdep 7 sM);rwa [c7] at this
   have e2:vs 8=.int .i64 (k:Int):=by have:=J.p 8 (by unfold gB;omega) (hdep 8 sM);rwa [c8] at this
   show TL _ _ _ _ ((17,vs 8)::(16,vs 7)::_) _ _;rw [e1,e2];repeat (first|(refine cG ?_;refine dE (l:=k) (h:=n) (mm:=c) rfl (bI rfl rfl) (aP _) (aP _) (by intro h;rfl) oM oM oM oM oM rfl ?_)|refine yC ?_)
   exact cQ rfl (eE J (by unfold gB;omega) oM (by (rw [c9];done)))
  ·refine dY (js:=[9,6]) rfl rfl ?_;rintro dn vs wq J hd hdep;have zq:=J.g.size;have hrow:=J.q 6 (by unfold gB;omega) (hdep 6 sM) hd;have es:vs 9=.slice (eP a c k 2) (n-k) (c-k):=by have:=J.p 9 (by unfold gB;omega) (hdep 9 sM);rwa [c9] at this
   rw [r6] at hrow;show TL _ _ _ _ ((15,vs 6)::(18,vs 9)::_) _ _;rw [es];refine TL.append rfl rfl hrow (s9.grow J.g) (λ u hu=>h1 u (List.mem_of_mem_drop hu)) (by unfold maxLen;omega) oM oM rfl ?_;intro v' wr hown hgb _;have hgr:Grow w wr:=Grow.mk (aL hgb oM (λ k hk=>(aT hrow hk).1) J.g.1);refine TL.nil ?_;exact cQ rfl (jT (r:=6) J (by unfold gB;omega) (by unfold gB;omega) rfl hd (hdep 6 sM) hgr (by rw [r10];simpa using hown))
 ·intro dn vs wq J hall;have hrow:=J.q 10 (by unfold gB;omega) (hall 10 oM) J.e;rw [r10] at hrow;show TL _ _ _ _ ((19,vs 10)::_) _ _;repeat refine aF ?_
  exact bA rfl ⟨_,rfl,hrow,J.g⟩
theorem rkids_t (F G:Nat→Prop) (a b:Option Addr) (n c m d i k:Nat) (cs ds:List Value) (w:World) (hs:Sl F w 1 a n c cs) (hx:Sl G w 1 b m d ds) (h1:∀ u∈cs,u.oneCell'=true) (h2:∀ u∈ds,u.oneCell'=true) (hik:i≤k) (hk:k≤n) (hn:n+m≤1000000) :
  Calls Tryz.prog 111 #[.slice a n c,.int .i64 (i:Int),.int .i64 (k:Int),.slice b m d] w (Ret λ v w'=>w'.ownsRow w.heap.size 3 1 v (i+m+(n-k)) (cs.take (i*1)++ds++cs.drop (k*1))∧Grow w w'):=by
 have hcs:=hs.len;have hds:=hx.len;have hcap:=hs.cap;refine V.calls (args:=[_,_,_,_]) Tryz.func111 rfl Tryz.ntmps111 rfl rfl ?_;obtain ⟨pf,hpf⟩:∃ pf:Nat→Value→Prop,pf=(λ (j:Nat) (v:Value)=>match j with|1=>v=.slice a n c|2=>v=.int .i64 (i:Int)|3=>v=.slice (eP a c 0 1) i c|5=>v=.slice b m d|7=>v=.slice a n c|8=>v=.int .i64 (k:Int)|9=>v=.slice (eP a c k 1) (n-k) (c-k)|_=>True):=⟨_,rfl⟩
 obtain ⟨R,hR⟩:∃ R:Nat→Nat×List Value,R=(λ (s:Nat)=>match s with|0=>(0,[])|4=>(i,cs.take (i*1))|6=>(i+m,cs.take (i*1)++ds)|10=>(i+m+(n-k),cs.take (i*1)++ds++cs.drop (k*1))|_=>(0,[])):=⟨_,rfl⟩
 have c1:pf 1=λ v=>v=.slice a n c:=by rw [hpf];rfl
 have c2:pf 2=λ v=>v=.int .i64 (i:Int):=by rw [hpf];rfl
 have c3:pf 3=λ v=>v=.slice (eP a c 0 1) i c:=by rw [hpf];rfl
 have c5:pf 5=λ v=>v=.slice b m d:=by rw [hpf];rfl
 have c7:pf 7=λ v=>v=.slice a n c:=by rw [hpf];rfl
 have c8:pf 8=λ v=>v=.int .i64 (k:Int):=by rw [hpf];rfl
 have c9:pf 9=λ v=>v=.slice (eP a c k 1) (n-k) (c-k):=by rw [hpf];rfl
 have r0:R 0=(0,[]):=by rw [hR];rfl
 have r4:R 4=(i,cs.take (i*1)):=by rw [hR];rfl
 have r6:R 6=(i+m,cs.take (i*1)++ds):=by rw [hR];rfl
 have r10:R 10=(i+m+(n-k),cs.take (i*1)++ds++cs.drop (k*1)):=by rw [hR];rfl
 clear hpf hR
 have s3:Sl F w 1 (eP a c 0 1) i c (cs.take (i*1)):=by
  have:=eY (l:=0) (h:=i) (mm:=c) hs (Nat.zero_le _) oM oM (Nat.le_refl _);simpa using this
 have s9:Sl F w 1 (eP a c k 1) (n-k) (c-k) (cs.drop (k*1)):=by
  have:=eY (l:=k) (h:=n) (mm:=c) hs oM (Nat.le_refl _) hcap (Nat.le_refl _);rw [List.take_of_length_le (by rw [List.length_drop,hcs,Nat.sub_mul];exact Nat.le_refl _)] at this;exact this
 repeat refine aF ?_
 apply T.inv 11 (AppJ w 3 1 pf R)
 ·rfl
 ·exact λ w1 g1=>app_start g1
 ·repeat' (first|exact allInv_end|refine allInv_cons ?_ ?_)
  ·refine dY (js:=[]) rfl rfl ?_;rintro dn vs wq J hd hdep;have zq:=J.g.size;repeat (first|refine aF ?_|refine yI λ bk w' hg hbk hsz hsz'=>?_)
   exact cQ rfl (app_first J hd hg (by rw [r0];exact eL hbk oM))
  ·refine dY (js:=[]) rfl rfl ?_;rintro dn vs wq J hd hdep;repeat refine aF ?_
   exact cQ rfl (eE J (by unfold gB;omega) oM (by (rw [c1];done)))
  ·refine dY (js:=[]) rfl rfl ?_;rintro dn vs wq J hd hdep;repeat refine aF ?_
   exact cQ rfl (eE J (by unfold gB;omega) oM (by (rw [c2];done)))
  ·refine dY (js:=[1,2]) rfl rfl ?_;rintro dn vs wq J hd hdep;have e1:vs 1=.slice a n c:=by have:=J.p 1 (by unfold gB;omega) (hdep 1 sM);rwa [c1] at this
   have e2:vs 2=.int .i64 (i:Int):=by have:=J.p 2 (by unfold gB;omega) (hdep 2 sM);rwa [c2] at this
   show TL _ _ _ _ ((11,vs 2)::(10,vs 1)::_) _ _;rw [e1,e2];repeat (first|(refine cG ?_;refine dE (l:=0) (h:=i) (mm:=c) rfl (aP _) (bI rfl rfl) (aP _) (by intro h;cases h) oM oM oM oM oM rfl ?_)|refine yC ?_)
   exact cQ rfl (eE J (by unfold gB;omega) oM (by (rw [c3];rfl)))
  ·refine dY (js:=[0,3]) rfl rfl ?_;rintro dn vs wq J hd hdep;have zq:=J.g.size;have hrow:=J.q 0 (by unfold gB;omega) (hdep 0 sM) hd;have es:vs 3=.slice (eP a c 0 1) i c:=by have:=J.p 3 (by unfold gB;omega) (hdep 3 sM);rwa [c3] at this
   rw [r0] at hrow;show TL _ _ _ _ ((12,vs 3)::(9,vs 0)::_) _ _;rw [es];refine TL.append rfl rfl hrow (s3.grow J.g) (λ u hu=>h1 u (List.mem_of_mem_take hu)) (by unfold maxLen;omega) oM oM rfl ?_;intro v' wr hown hgb _;have hgr:Grow w wr:=Grow.mk (aL hgb oM (λ k hk=>(aT hrow hk).1) J.g.1);refine TL.nil ?_;exact cQ rfl (jT (r:=0) J (by unfold gB;omega) (by unfold gB;omega) rfl hd (hdep 0 sM) hgr (by rw [r4];simpa using hown))
  ·refine dY (js:=[]) rfl rfl ?_;rintro dn vs wq J hd hdep;repeat refine aF ?_
   exact cQ rfl (eE J (by unfold gB;omega) oM (by (rw [c5];done)))
  ·refine dY (js:=[5,4]) rfl rfl ?_;rintro dn vs wq J hd hdep;have zq:=J.g.size;have hrow:=J.q 4 (by unfold gB;omega) (hdep 4 sM) hd;have es:vs 5=.slice b m d:=by have:=J.p 5 (by unfold gB;omega) (hdep 5 sM);rwa [c5] at this
   rw [r4] at hrow;show TL _ _ _ _ ((13,vs 4)::(14,vs 5)::_) _ _;rw [es];refine TL.append rfl rfl hrow (hx.grow J.g) (h2) (by unfold maxLen;omega) oM oM rfl ?_;intro v' wr hown hgb _;have hgr:Grow w wr:=Grow.mk (aL hgb oM (λ k hk=>(aT hrow hk).1) J.g.1);refine TL.nil ?_;exact cQ rfl (jT (r:=4) J (by unfold gB;omega) (by unfold gB;omega) rfl hd (hdep 4 sM) hgr (by rw [r6];simpa using hown))
  ·refine dY (js:=[]) rfl rfl ?_;rintro dn vs wq J hd hdep;repeat refine aF ?_
   exact cQ rfl (eE J (by unfold gB;omega) oM (by (rw [c7];done)))
  ·refine dY (js:=[]) rfl rfl ?_;rintro dn vs wq J hd hdep;repeat refine aF ?_
   exact cQ rfl (eE J (by unfold gB;omega) oM (by (rw [c8];done)))
  ·refine dY (js:=[7,8]) rfl rfl ?_;rintro dn vs wq J hd hdep;have e1:vs 7=.slice a n c:=by have:=J.p 7 (by unfold gB;omega) (hdep 7 sM);rwa [c7] at this
   have e2:vs 8=.int .i64 (k:Int):=by have:=J.p 8 (by unfold gB;omega) (hdep 8 sM);rwa [c8] at this
   show TL _ _ _ _ ((17,vs 8)::(16,vs 7)::_) _ _;rw [e1,e2];repeat (first|(refine cG ?_;refine dE (l:=k) (h:=n) (mm:=c) rfl (bI rfl rfl) (aP _) (aP _) (by intro h;rfl) oM oM oM oM oM rfl ?_)|refine yC ?_)
   exact cQ rfl (eE J (by unfold gB;omega) oM (by (rw [c9];done)))
  ·refine dY (js:=[9,6]) rfl rfl ?_;rintro dn vs wq J hd hdep;have zq:=J.g.size;have hrow:=J.q 6 (by unfold gB;omega) (hdep 6 sM) hd;have es:vs 9=.slice (eP a c k 1) (n-k) (c-k):=by have:=J.p 9 (by unfold gB;omega) (hdep 9 sM);rwa [c9] at this
   rw [r6] at hrow;show TL _ _ _ _ ((15,vs 6)::(18,vs 9)::_) _ _;rw [es];refine TL.append rfl rfl hrow (s9.grow J.g) (λ u hu=>h1 u (List.mem_of_mem_drop hu)) (by unfold maxLen;omega) oM oM rfl ?_;intro v' wr hown hgb _;have hgr:Grow w wr:=Grow.mk (aL hgb oM (λ k hk=>(aT hrow hk).1) J.g.1);refine TL.nil ?_;exact cQ rfl (jT (r:=6) J (by unfold gB;omega) (by unfold gB;omega) rfl hd (hdep 6 sM) hgr (by rw [r10];simpa using hown))
 ·intro dn vs wq J hall;have hrow:=J.q 10 (by unfold gB;omega) (hall 10 oM) J.e;rw [r10] at hrow;show TL _ _ _ _ ((19,vs 10)::_) _ _;repeat refine aF ?_
  exact bA rfl ⟨_,rfl,hrow,J.g⟩
theorem rkeys_t (F G:Nat→Prop) (a b:Option Addr) (n c m d i k:Nat) (cs ds:List Value) (w:World) (hs:Sl F w 1 a n c cs) (hx:Sl G w 1 b m d ds) (h1:∀ u∈cs,u.oneCell'=true) (h2:∀ u∈ds,u.oneCell'=true) (hik:i≤k) (hk:k≤n) (hn:n+m≤1000000) :
  Calls Tryz.prog 121 #[.slice a n c,.int .i64 (i:Int),.int .i64 (k:Int),.slice b m d] w (Ret λ v w'=>w'.ownsRow w.heap.size 30 1 v (i+m+(n-k)) (cs.take (i*1)++ds++cs.drop (k*1))∧Grow w w'):=by
 have hcs:=hs.len;have hds:=hx.len;have hcap:=hs.cap;refine V.calls (args:=[_,_,_,_]) Tryz.func121 rfl Tryz.ntmps121 rfl rfl ?_;obtain ⟨pf,hpf⟩:∃ pf:Nat→Value→Prop,pf=(λ (j:Nat) (v:Value)=>match j with|1=>v=.slice a n c|2=>v=.int .i64 (i:Int)|3=>v=.slice (eP a c 0 1) i c|5=>v=.slice b m d|7=>v=.slice a n c|8=>v=.int .i64 (k:Int)|9=>v=.slice (eP a c k 1) (n-k) (c-k)|_=>True):=⟨_,rfl⟩
 obtain ⟨R,hR⟩:∃ R:Nat→Nat×List Value,R=(λ (s:Nat)=>match s with|0=>(0,[])|4=>(i,cs.take (i*1))|6=>(i+m,cs.take (i*1)++ds)|10=>(i+m+(n-k),cs.take (i*1)++ds++cs.drop (k*1))|_=>(0,[])):=⟨_,rfl⟩
 have c1:pf 1=λ v=>v=.slice a n c:=by rw [hpf];rfl
 have c2:pf 2=λ v=>v=.int .i64 (i:Int):=by rw [hpf];rfl
 have c3:pf 3=λ v=>v=.slice (eP a c 0 1) i c:=by rw [hpf];rfl
 have c5:pf 5=λ v=>v=.slice b m d:=by rw [hpf];rfl
 have c7:pf 7=λ v=>v=.slice a n c:=by rw [hpf];rfl
 have c8:pf 8=λ v=>v=.int .i64 (k:Int):=by rw [hpf];rfl
 have c9:pf 9=λ v=>v=.slice (eP a c k 1) (n-k) (c-k):=by rw [hpf];rfl
 have r0:R 0=(0,[]):=by rw [hR];rfl
 have r4:R 4=(i,cs.take (i*1)):=by rw [hR];rfl
 have r6:R 6=(i+m,cs.take (i*1)++ds):=by rw [hR];rfl
 have r10:R 10=(i+m+(n-k),cs.take (i*1)++ds++cs.drop (k*1)):=by rw [hR];rfl
 clear hpf hR
 have s3:Sl F w 1 (eP a c 0 1) i c (cs.take (i*1)):=by
  have:=eY (l:=0) (h:=i) (mm:=c) hs (Nat.zero_le _) oM oM (Nat.le_refl _);simpa using this
 have s9:Sl F w 1 (eP a c k 1) (n-k) (c-k) (cs.drop (k*1)):=by
  have:=eY (l:=k) (h:=n) (mm:=c) hs oM (Nat.le_refl _) hcap (Nat.le_refl _);rw [List.take_of_length_le (by rw [List.length_drop,hcs,Nat.sub_mul];exact Nat.le_refl _)] at this;exact this
 repeat refine aF ?_
 apply T.inv 11 (AppJ w 30 1 pf R)
 ·rfl
 ·exact λ w1 g1=>app_start g1
 ·repeat' (first|exact allInv_end|refine allInv_cons ?_ ?_)
  ·refine dY (js:=[]) rfl rfl ?_;rintro dn vs wq J hd hdep;have zq:=J.g.size;repeat (first|refine aF ?_|refine yI λ bk w' hg hbk hsz hsz'=>?_)
   exact cQ rfl (app_first J hd hg (by rw [r0];exact eL hbk oM))
  ·refine dY (js:=[]) rfl rfl ?_;rintro dn vs wq J hd hdep;repeat refine aF ?_
   exact cQ rfl (eE J (by unfold gB;omega) oM (by (rw [c1];done)))
  ·refine dY (js:=[]) rfl rfl ?_;rintro dn vs wq J hd hdep;repeat refine aF ?_
   exact cQ rfl (eE J (by unfold gB;omega) oM (by (rw [c2];done)))
  ·refine dY (js:=[1,2]) rfl rfl ?_;rintro dn vs wq J hd hdep;have e1:vs 1=.slice a n c:=by have:=J.p 1 (by unfold gB;omega) (hdep 1 sM);rwa [c1] at this
   have e2:vs 2=.int .i64 (i:Int):=by have:=J.p 2 (by unfold gB;omega) (hdep 2 sM);rwa [c2] at this
   show TL _ _ _ _ ((11,vs 2)::(10,vs 1)::_) _ _;rw [e1,e2];repeat (first|(refine cG ?_;refine dE (l:=0) (h:=i) (mm:=c) rfl (aP _) (bI rfl rfl) (aP _) (by intro h;cases h) oM oM oM oM oM rfl ?_)|refine yC ?_)
   exact cQ rfl (eE J (by unfold gB;omega) oM (by (rw [c3];rfl)))
  ·refine dY (js:=[0,3]) rfl rfl ?_;rintro dn vs wq J hd hdep;have zq:=J.g.size;have hrow:=J.q 0 (by unfold gB;omega) (hdep 0 sM) hd;have es:vs 3=.slice (eP a c 0 1) i c:=by have:=J.p 3 (by unfold gB;omega) (hdep 3 sM);rwa [c3] at this
   rw [r0] at hrow;show TL _ _ _ _ ((12,vs 3)::(9,vs 0)::_) _ _;rw [es];refine TL.append rfl rfl hrow (s3.grow J.g) (λ u hu=>h1 u (List.mem_of_mem_take hu)) (by unfold maxLen;omega) oM oM rfl ?_;intro v' wr hown hgb _;have hgr:Grow w wr:=Grow.mk (aL hgb oM (λ k hk=>(aT hrow hk).1) J.g.1);refine TL.nil ?_;exact cQ rfl (jT (r:=0) J (by unfold gB;omega) (by unfold gB;omega) rfl hd (hdep 0 sM) hgr (by rw [r4];simpa using hown))
  ·refine dY (js:=[]) rfl rfl ?_;rintro dn vs wq J hd hdep;repeat refine aF ?_
   exact cQ rfl (eE J (by unfold gB;omega) oM (by (rw [c5];done)))
  ·refine dY (js:=[5,4]) rfl rfl ?_;rintro dn vs wq J hd hdep;have zq:=J.g.size;have hrow:=J.q 4 (by unfold gB;omega) (hdep 4 sM) hd;have es:vs 5=.slice b m d:=by have:=J.p 5 (by unfold gB;omega) (hdep 5 sM);rwa [c5] at this
   rw [r4] at hrow;show TL _ _ _ _ ((13,vs 4)::(14,vs 5)::_) _ _;rw [es];refine TL.append rfl rfl hrow (hx.grow J.g) (h2) (by unfold maxLen;omega) oM oM rfl ?_;intro v' wr hown hgb _;have hgr:Grow w wr:=Grow.mk (aL hgb oM (λ k hk=>(aT hrow hk).1) J.g.1);refine TL.nil ?_;exact cQ rfl (jT (r:=4) J (by unfold gB;omega) (by unfold gB;omega) rfl hd (hdep 4 sM) hgr (by rw [r6];simpa using hown))
  ·refine dY (js:=[]) rfl rfl ?_;rintro dn vs wq J hd hdep;repeat refine aF ?_
   exact cQ rfl (eE J (by unfold gB;omega) oM (by (rw [c7];done)))
  ·refine dY (js:=[]) rfl rfl ?_;rintro dn vs wq J hd hdep;repeat refine aF ?_
   exact cQ rfl (eE J (by unfold gB;omega) oM (by (rw [c8];done)))
  ·refine dY (js:=[7,8]) rfl rfl ?_;rintro dn vs wq J hd hdep;have e1:vs 7=.slice a n c:=by have:=J.p 7 (by unfold gB;omega) (hdep 7 sM);rwa [c7] at this
   have e2:vs 8=.int .i64 (k:Int):=by have:=J.p 8 (by unfold gB;omega) (hdep 8 sM);rwa [c8] at this
   show TL _ _ _ _ ((17,vs 8)::(16,vs 7)::_) _ _;rw [e1,e2];repeat (first|(refine cG ?_;refine dE (l:=k) (h:=n) (mm:=c) rfl (bI rfl rfl) (aP _) (aP _) (by intro h;rfl) oM oM oM oM oM rfl ?_)|refine yC ?_)
   exact cQ rfl (eE J (by unfold gB;omega) oM (by (rw [c9];done)))
  ·refine dY (js:=[9,6]) rfl rfl ?_;rintro dn vs wq J hd hdep;have zq:=J.g.size;have hrow:=J.q 6 (by unfold gB;omega) (hdep 6 sM) hd;have es:vs 9=.slice (eP a c k 1) (n-k) (c-k):=by have:=J.p 9 (by unfold gB;omega) (hdep 9 sM);rwa [c9] at this
   rw [r6] at hrow;show TL _ _ _ _ ((15,vs 6)::(18,vs 9)::_) _ _;rw [es];refine TL.append rfl rfl hrow (s9.grow J.g) (λ u hu=>h1 u (List.mem_of_mem_drop hu)) (by unfold maxLen;omega) oM oM rfl ?_;intro v' wr hown hgb _;have hgr:Grow w wr:=Grow.mk (aL hgb oM (λ k hk=>(aT hrow hk).1) J.g.1);refine TL.nil ?_;exact cQ rfl (jT (r:=6) J (by unfold gB;omega) (by unfold gB;omega) rfl hd (hdep 6 sM) hgr (by rw [r10];simpa using hown))
 ·intro dn vs wq J hall;have hrow:=J.q 10 (by unfold gB;omega) (hall 10 oM) J.e;rw [r10] at hrow;show TL _ _ _ _ ((19,vs 10)::_) _ _;repeat refine aF ?_
  exact bA rfl ⟨_,rfl,hrow,J.g⟩
def NdCells (F:Nat→Prop) (w:World):List Value→List Nd→Prop
 | [],[]=>True
 | v1::v2::v3::cs,nd::l=>(∃ x:NV,v1=x.v1∧v2=x.v2∧v3=x.v3∧NdAt F w x nd)∧NdCells F w cs l
 | _,_=>False
theorem NdCells.go {F F':Nat→Prop} {w w':World} (g:Carry F w F' w'):∀ {cs:List Value} {l:List Nd},NdCells F w cs l→NdCells F' w' cs l
 | [],[],_=>trivial
 | [],_::_,h=>h.elim
 | [_],[],h=>h.elim
 | [_,_],[],h=>h.elim
 | _::_::_::_,[],h=>h.elim
 | [_],_::_,h=>h.elim
 | [_,_],_::_,h=>h.elim
 | _::_::_::_,_::_,⟨⟨x,h1,h2,h3,h5⟩,h6⟩=>⟨⟨x,h1,h2,h3,h5.go g⟩,NdCells.go g h6⟩
theorem NdCells.snoc {F:Nat→Prop} {w:World} {x:NV} {nd:Nd} (hx:NdAt F w x nd):∀ {cs:List Value} {l:List Nd},NdCells F w cs l→NdCells F w (cs++[x.v1,x.v2,x.v3]) (l++[nd])
 | [],[],_=>⟨⟨x,rfl,rfl,rfl,hx⟩,trivial⟩
 | [],_::_,h=>h.elim
 | [_],[],h=>h.elim
 | [_,_],[],h=>h.elim
 | _::_::_::_,[],h=>h.elim
 | [_],_::_,h=>h.elim
 | [_,_],_::_,h=>h.elim
 | _::_::_::_,_::_,⟨h5,h6⟩=>⟨h5,NdCells.snoc hx h6⟩
theorem NdCells.len {F:Nat→Prop} {w:World}:∀ {cs:List Value} {l:List Nd},NdCells F w cs l→cs.length=l.length*3
 | [],[],_=>rfl
 | [],_::_,h=>h.elim
 | [_],[],h=>h.elim
 | [_,_],[],h=>h.elim
 | _::_::_::_,[],h=>h.elim
 | [_],_::_,h=>h.elim
 | [_,_],_::_,h=>h.elim
 | _::_::_::_,_::_,⟨h5,h6⟩=>by have:=NdCells.len h6;simp only [List.length_cons];omega
theorem NdCells.at' {F:Nat→Prop} {w:World}:∀ {l:List Nd} {cs:List Value} {i:Nat} {nd:Nd},NdCells F w cs l→l[i]? = some nd→∃ x:NV,(cs.drop (i*3)).take 3=[x.v1,x.v2,x.v3]∧NdAt F w x nd
 | [],_,i,nd,_,hx=>by simp at hx
 | _::_,[],_,_,h,_=>h.elim
 | _::_,[_],_,_,h,_=>h.elim
 | _::_,[_,_],_,_,h,_=>h.elim
 | y::l,v1::v2::v3::cs,0,nd,⟨⟨x,h1,h2,h3,h5⟩,_⟩,hx=>by
  simp only [List.getElem?_cons_zero,Option.some.injEq] at hx;subst hx;subst h1 h2 h3;exact ⟨x,rfl,h5⟩
 | y::l,v1::v2::v3::cs,i+1,nd,⟨_,h⟩,hx=>by
  obtain ⟨x,h1,h2⟩:=NdCells.at' h (by simpa using hx);refine ⟨x,?_,h2⟩;rw [show (i+1)*3=i*3+1+1+1 by omega];simpa using h1
theorem NdCells.one {F:Nat→Prop} {w:World}:∀ {cs:List Value} {l:List Nd},NdCells F w cs l→∀ u∈cs,u.oneCell'=true
 | [],[],_,u,hu=>by cases hu
 | [],_::_,h,_,_=>h.elim
 | [_],[],h,_,_=>h.elim
 | [_,_],[],h,_,_=>h.elim
 | _::_::_::_,[],h,_,_=>h.elim
 | [_],_::_,h,_,_=>h.elim
 | [_,_],_::_,h,_,_=>h.elim
 | _::_::_::_,_::_,⟨⟨x,h1,h2,h3,h5⟩,h6⟩,u,hu=>by
  simp only [List.mem_cons] at hu;rcases hu with rfl|rfl|rfl|hu
  ·rw [h1];rfl
  ·rw [h2];rfl
  ·rw [h3];rfl
  ·exact h6.one u hu
theorem three_at {cs:List Value} {o:Nat} {a b c:Value} (h:(cs.drop o).take 3=[a,b,c]):∀ j u,[a,b,c][j]? = some u→cs[o+j]? = some u:=by
 intro j u hj;rw [← h,List.getElem?_take,List.getElem?_drop] at hj;split at hj
 ·exact hj
 ·cases hj
theorem rwrite_c {K:Nat→Prop} {w:World} {R:RL} {g g':Pg} (h:RfAt K w R g) (hK:∀ k,w.heap.size≤k→K k) (F:Nat→Prop) (x:NV) (nd:Nd) (hnd:NdAt F w x nd) (hok:bF nd=true) (hlt:eZ (dC nd)) (n:Nat) (hw:newP g (dC nd)=some (n,g')) :
  Calls Tryz.prog 110 #[.pointer (some ⟨R.p,0,none⟩),x.val] w (Ret λ v w'=>v=.tuple #[.int .i64 (n:Int),.int .i64 0]∧RfAt K w' R g'∧ButS R.S w w'):=by
 have hlen:=length_bytesN hok;refine V.calls (args:=[_,_]) Tryz.func110 rfl Tryz.ntmps110 rfl rfl ?_;repeat (first|refine dF ?_|refine yI λ bk w' hg hbk hsz hsz'=>?_)
 refine aB 165 ?_;refine aA rfl (rbytesN_c F x nd _ (hnd.go (Carry.grow hg)) hok) rfl ?_;rintro _ w2 ⟨u,rfl,hown,hg2⟩;obtain ⟨a,c,rfl,hsl⟩:=aM hown;have hgw:=hg.trans hg2;have z2:=hgw.size;repeat refine dF ?_
 refine aB 46 ?_;refine aA rfl (rpnew_c (h.grow hgw) (λ k hk=>hK k oM) _ a c (dC nd) hsl hlen hlt n g' hw) rfl ?_;rintro _ w3 ⟨rfl,hp3,hb3⟩;repeat refine dF ?_
 exact fM rfl rfl ⟨_,rfl,rfl,hp3,(ButS.grow hgw).trans hb3⟩
theorem RfAt.keep2 {K K':Nat→Prop} {w w':World} {R:RL} {g:Pg} (h:RfAt K w R g) (c:Carry K w K' w') (hb:∀ k,k=R.p∨k=R.d∨k=R.c∨k=R.u→w'.heap[k]? = w.heap[k]?) (hne:∀ k,K' k→¬ R.S k):RfAt K' w' R g:=by
 obtain ⟨cs,h1,h2,h3⟩:=h.cache;exact ⟨dS h.blk (hb _ sM),dS h.dsk (hb _ sM),dS h.used (hb _ sM),h.ok,⟨cs,h1,dS h2 (hb _ sM),λ n hn=>⟨(h3 n hn).1.go c,(h3 n hn).2.go c⟩⟩,h.lt,h.bl,hne,h.ne⟩
theorem rpages_c {K F:Nat→Prop} {w:World} {R:RL} {g g':Pg} (h:RfAt K w R g) (hK:∀ k,w.heap.size≤k→K k) (hF:∀ k,F k→k<w.heap.size→¬ R.S k) (a:Option Addr) (n c:Nat) (cs:List Value) (l:List Nd) (hs:Sl F w 3 a n c cs) (hc:NdCells F w cs l) (hby:∀ x∈l,eZ (dC x)) (hn:n≤1000) (ks:List Nat) (hw:fE g l=some (ks,g')) :
  Calls Tryz.prog 120 #[.pointer (some ⟨R.p,0,none⟩),.slice a n c] w (Ret λ v w'=>∃ a' c',v=.tuple #[.slice a' ks.length c',.int .i64 0]∧Sl (λ k=>w.heap.size≤k) w' 1 a' ks.length c' (bC ks)∧RfAt K w' R g'∧ButS R.S w w'):=by
 have hcl:=hc.len;have hsl:=hs.len;have hnl:n=l.length:=by omega
 have hlts:=h.lts;refine V.calls (args:=[_,_]) Tryz.func120 rfl Tryz.ntmps120 rfl rfl ?_;repeat refine aF ?_
 refine aX (S:=Nat×Value×List Nat×Pg) (λ s=>[(7,.int .i64 (s.1:Int)),(6,s.2.1),(1,.slice a n c),(0,.pointer (some ⟨R.p,0,none⟩))]) (λ s w2=>s.1≤n∧∃ rest,fE s.2.2.2 (l.drop s.1)=some (rest,g')∧ks=s.2.2.1++rest∧s.2.2.1.length=s.1∧w2.ownsRow w.heap.size 3 1 s.2.1 s.1 (bC s.2.2.1)∧RfAt (λ k=>K k∧s.2.1.ownBlock≠some k) w2 R s.2.2.2∧ButS R.S w w2) (λ s=>n-s.1) (0,.slice none 0 0,[],g) ⟨rfl,rfl,rfl,rfl,trivial⟩ ⟨Nat.zero_le _,ks,hw,rfl,rfl,World.ownsRow_nil _ _ _ _,h.keep2 (Carry.mono λ k hk _=>⟨hk,λ e=>by cases e⟩) (λ _ _=>rfl) (λ k hk=>h.kne k hk.1),ButS.refl _ _⟩ ?_;rintro ⟨i,v,done,g2⟩ w2 ⟨hi,rest,hwr,hks,hdl,hown,hrf,hbs⟩;simp only at hi hwr hks hdl hown hrf;have z2:=hbs.size;have cF:Carry F w F w2:=Carry.buts hbs hF;by_cases hlt:i<n;rotate_left
 ·obtain rfl:i=n:=by omega
  rw [List.drop_of_length_le oM] at hwr;simp only [fE,Option.some.injEq,Prod.mk.injEq] at hwr;obtain ⟨rfl,rfl⟩:=hwr;rw [List.append_nil] at hks;subst hks;obtain ⟨a',c',rfl,hs'⟩:=aM hown;repeat refine aF ?_
  exact fM rfl rfl ⟨_,rfl,a',c',by rw [hdl],by rw [hdl];exact hs'.mono (λ k hk=>hk.1),hrf.keep2 (Carry.mono λ k hk _=>hk.1) (λ _ _=>rfl) h.kne,hbs⟩
 obtain ⟨nd,hnd⟩:∃ nd,l[i]? = some nd:=⟨_,List.getElem?_eq_getElem oM⟩
 obtain ⟨x,hx3,hx⟩:=hc.at' hnd;rw [gT hnd] at hwr;obtain ⟨p,g3,rest2,hwp,hwr2,rfl⟩:=kK hwr;obtain ⟨hok,hnp⟩:=gK hwp;have hs2:=hs.go cF;have hx2:=hx.go cF;repeat (first|(refine aH ?_;refine aC (j:=i) rfl rfl rfl hlt rfl ⟨_,_,hs2⟩ rfl ?_)|(refine aO ?_;refine dR rfl hs2 (three_at hx3) rfl rfl ?_)|refine yC ?_)
 refine aB 110 ?_;refine aA rfl (rwrite_c hrf (λ k hk=>⟨hK k oM,λ e=>by have:=(aT hown e).2;omega⟩) F x nd hx2 hok (hby nd (List.mem_of_getElem? hnd)) p hnp) rfl ?_;rintro _ w3 ⟨rfl,hrf3,hbs3⟩;have z3:=hbs3.size;have hown3:w3.ownsRow w.heap.size 3 1 v i (bC done):=cL hown (λ k hk hv=>hbs3.block k (aT hown hv).2 (λ e=>by unfold RL.S at e;omega));have hbsw3:=hbs.trans hbs3;clear hrf hbs hbs3 hown;repeat refine aF ?_
 refine TL.buildSlice rfl rfl rfl rfl rfl ?_;intro b' wa hga hba hsa hsb hsc;have hsl':Sl (λ _=>True) wa 1 (some ⟨b',0,none⟩) 1 1 (bC [p]):=(aV (sz:=1) (m:=1) hba hsc dM).mono (λ _ _=>trivial);have hga':=hga.size;refine eG rfl rfl (aS hown3 hga) hsl' (gD _) (by unfold maxLen;omega) oM oM rfl ?_;intro v' wb hownb hgb hcar;repeat refine aF ?_
 have zb:=hgb.size;have hbsb:ButS R.S w wb:=⟨hgb.os.trans ((hga.1.os).trans hbsw3.os),hgb.tape.trans ((hga.1.tape).trans hbsw3.tape),hgb.output.trans ((hga.1.output).trans hbsw3.output),oM,λ k hk hS=>(hgb.block k oM (λ e=>by have:=aT hown3 e.symm;omega)).trans ((hga.block k oM).trans (hbsw3.block k hk hS))⟩
 have hrfb:RfAt (λ k=>K k∧v'.ownBlock≠some k) wb R g3:=(hrf3.grow hga).keep2 (hcar K) (λ k hk=>hgb.block k oM (λ e=>by have:=aT hown3 e.symm;omega)) (λ k hk=>h.kne k hk.1);refine aE (i+1,v',done++[p],g3) ⟨rfl,rfl,rfl,rfl,trivial⟩ ⟨oM,rest2,hwr2,?_,?_,?_,hrfb,hbsb⟩ ?_
 ·rw [hks];simp
 ·simp [hdl]
 ·simp only [bC,List.map_append,List.map_cons,List.map_nil] at hownb ⊢;exact hownb
 ·show n-(i+1)<n-i;omega
theorem its_cut {F:Nat→Prop} {w:World} {a:Option Addr} {n c i j:Nat} {l:bT} (h:ItsAt F w a n c l) (hi:i≤j) (hj:j≤n):ItsAt F w (eP a c i 2) (j-i) (c-i) ((l.drop i).take (j-i)):=by
 obtain ⟨cs,hs,hc⟩:=h.ex;refine ⟨_,eY hs hi hj (Nat.le_trans hj hs.cap) (Nat.le_refl _),?_⟩;rw [Nat.mul_comm i,Nat.mul_comm (j-i)];exact ((hc.take i).2.take (j-i)).1
theorem kys_cut {F:Nat→Prop} {w:World} {a:Option Addr} {n c i j:Nat} {l:List Bs} (h:KysAt F w a n c l) (hi:i≤j) (hj:j≤n):KysAt F w (eP a c i 1) (j-i) (c-i) ((l.drop i).take (j-i)):=by
 obtain ⟨cs,hs,hc⟩:=h.ex;refine ⟨_,eY hs hi hj (Nat.le_trans hj hs.cap) (Nat.le_refl _),?_⟩;rw [Nat.mul_one,Nat.mul_one];exact ((hc.take i).2.take (j-i)).1
theorem kids_cut {F:Nat→Prop} {w:World} {a:Option Addr} {n c i j:Nat} {l:List Nat} (h:Sl F w 1 a n c (bC l)) (hi:i≤j) (hj:j≤n):Sl F w 1 (eP a c i 1) (j-i) (c-i) (bC ((l.drop i).take (j-i))):=by
 have:=eY h hi hj (Nat.le_trans hj h.cap) (Nat.le_refl _);rw [Nat.mul_one,Nat.mul_one] at this;simpa [bC,List.map_drop,List.map_take] using this
theorem rsplit_c (F:Nat→Prop) (w:World) (hF:∀ k,w.heap.size≤k→F k) (x:NV) (nd:Nd) (h:NdAt F w x nd) (h9:aR nd≤1000) (hsh:bN nd=false→nd.items=[]∧nd.keys.length+1=nd.kids.length) (nds:List Nd) (ks:List Bs)
  (hor:(aR nd≤8∧nds=[nd]∧ks=[])∨(8<aR nd∧nds=[(bV nd).1,(bV nd).2.1]∧ks=[(bV nd).2.2])) :
  Calls Tryz.prog 119 #[x.val] w (Ret λ v w'=>(∃ a c k cs,v=.tuple #[.slice a nds.length c,k]∧Sl F w' 3 a nds.length c cs∧NdCells F w' cs nds∧(∀ key,ks=[key]→BsAt F w' k key))∧Grow w w'):=by
 have hn1:=h.its.len;have hn2:=bR h.kids;have hn3:=h.kys.len;have hsz':nd.items.length≤1000∧nd.kids.length≤1000:=by unfold aR at h9;omega
 have hszN:aR nd=nd.items.length+nd.kids.length:=rfl;obtain ⟨ics,his,hic⟩:=h.its.ex;obtain ⟨kcs,hks,hkc⟩:=h.kys.ex;have hcap1:=his.cap;have hcap2:=h.kids.cap;have hcap3:=hks.cap;refine V.calls (args:=[_]) Tryz.func119 rfl Tryz.ntmps119 rfl rfl ?_;by_cases hi8:8<x.n1
 ·have hlf:bN nd=true:=by
   cases hl:bN nd with
   | true=>rfl
   | false=>have:=(hsh hl).1;rw [this] at hn1;simp at hn1;omega
  rcases hor with ⟨h8,_⟩|⟨h8,rfl,rfl⟩
  ·omega
  have hA:(bV nd).1=⟨nd.items.take 4,[],[]⟩:=by simp [bV,hlf,dT]
  have hB:(bV nd).2.1=⟨nd.items.drop 4,[],[]⟩:=by simp [bV,hlf,dT]
  obtain ⟨y0,hy0⟩:∃ y,nd.items[4]? = some y:=⟨_,List.getElem?_eq_getElem oM⟩
  obtain ⟨kv,vv,f0,f1,hbk0,hbv0⟩:=hic.at' hy0
  have hkey:(bV nd).2.2=y0.1:=by
   simp only [bV,hlf,dT,if_true,List.take_zero,List.nil_append,List.getD_eq_getElem?_getD,List.getElem?_drop];rw [hy0];rfl
  rw [hA,hB,hkey];have hone:=hbk0.one;repeat (first|refine aF ?_|refine yI λ bk w' hg hbk hsz hsz'=>?_)
  refine bD (e':=[(1,.pointer (some ⟨bk,0,none⟩)),(0,x.val)]) ?_ ⟨rfl,rfl,trivial⟩;obtain ⟨w1,rfl⟩:=yE w';have hits:=h.its.go (Carry.grow hg);have his1:=his.go (Carry.grow hg);have c1:=its_cut hits (i:=0) (j:=4) oM oM;have c2:=its_cut hits (i:=4) (j:=x.n1) oM oM;have z1:=hg.size;rw [List.drop_zero] at c1;rw [List.take_of_length_le (by rw [List.length_drop];omega)] at c2;apply T.any 16 [is _,is _,is _,is _,is _,is _,is _,is _,slF (λ k=>w1.heap.size≤k) 3 2 2 [.slice (eP x.a1 x.c1 0 2) 4 (x.c1-0),.slice none 0 0,.slice none 0 0,.slice (eP x.a1 x.c1 4 2) (x.n1-4) (x.c1-4),.slice none 0 0,.slice none 0 0],is _,is _,is _,is _,is kv,slF (λ k=>w1.heap.size≤k) 3 2 2 [.slice (eP x.a1 x.c1 0 2) 4 (x.c1-0),.slice none 0 0,.slice none 0 0,.slice (eP x.a1 x.c1 4 2) (x.n1-4) (x.c1-4),.slice none 0 0,.slice none 0 0],is kv]
  ·rfl
  ·repeat' (first|exact aN|refine aK ?_ ?_)
   iterate 8
    ·refine yQ λ wq _ _ hgq=>?_;repeat (first|(refine cG ?_;first|refine dE (l:=0) (h:=4) (mm:=x.c1) rfl (aP _) (bI rfl rfl) (aP _) (by intro h;cases h) oM oM oM oM oM rfl ?_|refine dE (l:=4) (h:=x.n1) (mm:=x.c1) rfl (bI rfl rfl) (aP _) (aP _) (by intro h;rfl) oM oM oM oM oM rfl ?_)|refine yC ?_)
     exact aD rfl yG rfl
   ·refine yQ λ wq _ _ hgq=>?_;have zq:=hgq.size;refine TL.buildSlice rfl rfl rfl rfl rfl ?_;intro b' wa hga hba hsa hsb' hsc;repeat refine aF ?_
    exact aD rfl yG ⟨_,rfl,(aV (sz:=3) (m:=2) hba rfl dM).mono (λ k hk=>by subst hk;show w1.heap.size≤_;omega)⟩
   iterate 4
    ·refine yQ λ wq _ _ hgq=>?_;repeat (first|(refine aH ?_;refine aC (j:=4) rfl rfl rfl oM rfl ⟨F,_,his1.grow yG⟩ rfl ?_)|(refine bK ?_;refine bJ (o:=8) rfl (his1.grow yG) f0 rfl ?_)|refine yC ?_)
     exact aD rfl yG rfl
   ·refine yQ λ wq _ _ hgq=>?_;have hcx:wq.cell? (at' x.a1 (8+0))=some kv:=(his1.grow hgq).row.cell f0;repeat refine aF ?_
    exact aD rfl yG rfl
   ·(((refine bX rfl rfl rfl ?_);( intro wq _ _ hgq;(repeat (refine aJ rfl rfl ?_;intro vq hvq;try (obtain rfl:=hvq)));(refine aZ ?_))))
    obtain ⟨a8,rfl,h8⟩:=hvq;repeat refine aF ?_
    exact aD rfl yG ⟨a8,rfl,h8⟩
   ·(((refine bX rfl rfl rfl ?_);( intro wq _ _ hgq;(repeat (refine aJ rfl rfl ?_;intro vq hvq;try (obtain rfl:=hvq)));(refine aZ ?_))))
    repeat refine aF ?_
    exact aD rfl yG rfl
  intro w2 lo2 hi2 hg2 _ _;iterate 14 (refine aJ rfl rfl ?_;intro vq hvq;try (obtain rfl:=hvq))
  refine aJ rfl rfl ?_;rintro v8 ⟨a8,rfl,h8⟩;refine aJ rfl rfl ?_;intro v9 hv9;obtain rfl:=hv9;refine aZ ?_;have z2:=hg2.size;have hgw:=hg.trans hg2;repeat refine aF ?_
  exact fM rfl rfl ⟨_,rfl,⟨a8,2,_,_,rfl,h8.mono (λ k hk=>hF k oM),⟨⟨⟨_,_,_,none,0,0,none,0,0⟩,rfl,rfl,rfl,⟨c1.go (Carry.grow hg2),iY,jK⟩⟩,⟨⟨_,_,_,none,0,0,none,0,0⟩,rfl,rfl,rfl,⟨c2.go (Carry.grow hg2),iY,jK⟩⟩,trivial⟩,λ key hk=>by cases hk;exact hbk0.go (Carry.grow hgw)⟩,hgw⟩
 by_cases hk8:8<x.n2
 ·have hlf:bN nd=false:=by
   cases hl:bN nd with
   | false=>rfl
   | true=>rw [bM] at hl;rw [hl] at hn2;simp at hn2;omega
  obtain ⟨hi0,hkk⟩:=hsh hlf;rcases hor with ⟨h8,_⟩|⟨h8,rfl,rfl⟩
  ·omega
  have hA:(bV nd).1=⟨[],nd.kids.take 4,nd.keys.take 3⟩:=by simp [bV,hlf,dT]
  have hB:(bV nd).2.1=⟨[],nd.kids.drop 4,nd.keys.drop 4⟩:=by simp [bV,hlf,dT]
  obtain ⟨y0,hy0⟩:∃ y,nd.keys[3]? = some y:=⟨_,List.getElem?_eq_getElem oM⟩
  obtain ⟨kv,f0,hbk0⟩:=hkc.at' hy0
  have hkey:(bV nd).2.2=y0:=by
   simp only [bV,hlf,if_false,Bool.false_eq_true,List.getD_eq_getElem?_getD];rw [hy0];rfl
  rw [hA,hB,hkey];have hone:=hbk0.one;repeat (first|refine aF ?_|refine yI λ bk w' hg hbk hsz hsz'=>?_)
  refine bD (e':=[(1,.pointer (some ⟨bk,0,none⟩)),(0,x.val)]) ?_ ⟨rfl,rfl,trivial⟩;obtain ⟨w1,rfl⟩:=yE w';have hkids:=h.kids.go (Carry.grow hg);have hkys:=h.kys.go (Carry.grow hg);have hks1:=hks.go (Carry.grow hg);have c1:=kids_cut hkids (i:=0) (j:=4) oM oM;have c2:=kids_cut hkids (i:=4) (j:=x.n2) oM oM;have d1:=kys_cut hkys (i:=0) (j:=3) oM oM;have d2:=kys_cut hkys (i:=4) (j:=x.n3) oM oM;have z1:=hg.size;rw [List.drop_zero] at c1 d1;rw [List.take_of_length_le (by rw [List.length_drop];omega)] at c2 d2;apply T.any 21 [is _,is _,is _,is _,is _,is _,is _,is _,is _,is _,is _,is _,is _,is _,slF (λ k=>w1.heap.size≤k) 3 2 2 [.slice none 0 0,.slice (eP x.a2 x.c2 0 1) 4 (x.c2-0),.slice (eP x.a3 x.c3 0 1) 3 (x.c3-0),.slice none 0 0,.slice (eP x.a2 x.c2 4 1) (x.n2-4) (x.c2-4),.slice (eP x.a3 x.c3 4 1) (x.n3-4) (x.c3-4)],is _,is _,is _,is kv,slF (λ k=>w1.heap.size≤k) 3 2 2 [.slice none 0 0,.slice (eP x.a2 x.c2 0 1) 4 (x.c2-0),.slice (eP x.a3 x.c3 0 1) 3 (x.c3-0),.slice none 0 0,.slice (eP x.a2 x.c2 4 1) (x.n2-4) (x.c2-4),.slice (eP x.a3 x.c3 4 1) (x.n3-4) (x.c3-4)],is kv]
  ·rfl
  ·repeat' (first|exact aN|refine aK ?_ ?_)
   iterate 14
    ·refine yQ λ wq _ _ hgq=>?_;repeat (first|(refine cG ?_;first|refine dE (l:=0) (h:=4) (mm:=x.c2) rfl (aP _) (bI rfl rfl) (aP _) (by intro h;cases h) oM oM oM oM oM rfl ?_|refine dE (l:=4) (h:=x.n2) (mm:=x.c2) rfl (bI rfl rfl) (aP _) (aP _) (by intro h;rfl) oM oM oM oM oM rfl ?_|refine dE (l:=0) (h:=3) (mm:=x.c3) rfl (aP _) (bI rfl rfl) (aP _) (by intro h;cases h) oM oM oM oM oM rfl ?_|refine dE (l:=4) (h:=x.n3) (mm:=x.c3) rfl (bI rfl rfl) (aP _) (aP _) (by intro h;rfl) oM oM oM oM oM rfl ?_)|refine yC ?_)
     exact aD rfl yG rfl
   ·refine yQ λ wq _ _ hgq=>?_;have zq:=hgq.size;refine TL.buildSlice rfl rfl rfl rfl rfl ?_;intro b' wa hga hba hsa hsb' hsc;repeat refine aF ?_
    exact aD rfl yG ⟨_,rfl,(aV (sz:=3) (m:=2) hba rfl dM).mono (λ k hk=>by subst hk;show w1.heap.size≤_;omega)⟩
   iterate 3
    ·refine yQ λ wq _ _ hgq=>?_;repeat (first|(refine aH ?_;refine aC (j:=3) rfl rfl rfl oM (Nat.mul_one _) ⟨F,_,hks1.grow yG⟩ rfl ?_)|refine yC ?_)
     exact aD rfl yG rfl
   ·refine yQ λ wq _ _ hgq=>?_;have hcx:wq.cell? (at' x.a3 3)=some kv:=(hks1.grow hgq).row.cell f0;repeat refine aF ?_
    exact aD rfl yG rfl
   ·(((refine bX rfl rfl rfl ?_);( intro wq _ _ hgq;(repeat (refine aJ rfl rfl ?_;intro vq hvq;try (obtain rfl:=hvq)));(refine aZ ?_))))
    obtain ⟨a8,rfl,h8⟩:=hvq;repeat refine aF ?_
    exact aD rfl yG ⟨a8,rfl,h8⟩
   ·(((refine bX rfl rfl rfl ?_);( intro wq _ _ hgq;(repeat (refine aJ rfl rfl ?_;intro vq hvq;try (obtain rfl:=hvq)));(refine aZ ?_))))
    repeat refine aF ?_
    exact aD rfl yG rfl
  intro w2 lo2 hi2 hg2 _ _;iterate 19 (refine aJ rfl rfl ?_;intro vq hvq;try (obtain rfl:=hvq))
  refine aJ rfl rfl ?_;rintro v8 ⟨a8,rfl,h8⟩;refine aJ rfl rfl ?_;intro v9 hv9;obtain rfl:=hv9;refine aZ ?_;have z2:=hg2.size;have hgw:=hg.trans hg2;repeat refine aF ?_
  exact fM rfl rfl ⟨_,rfl,⟨a8,2,_,_,rfl,h8.mono (λ k hk=>hF k oM),⟨⟨⟨none,0,0,_,_,_,_,_,_⟩,rfl,rfl,rfl,⟨kJ,c1.go (Carry.grow hg2),d1.go (Carry.grow hg2)⟩⟩,⟨⟨none,0,0,_,_,_,_,_,_⟩,rfl,rfl,rfl,⟨kJ,c2.go (Carry.grow hg2),d2.go (Carry.grow hg2)⟩⟩,trivial⟩,λ key hk=>by cases hk;exact hbk0.go (Carry.grow hgw)⟩,hgw⟩
 have h8:aR nd≤8:=by
  cases hl:bN nd with
  | true=>rw [bM] at hl;rw [hszN,hl];simp;omega
  | false=>have:=(hsh hl).1;rw [hszN,this];simp;omega
 rcases hor with ⟨_,rfl,rfl⟩|⟨h9',_⟩
 rotate_left
 ·omega
 repeat (first|refine aF ?_|refine yI λ bk w' hg hbk hsz hsz'=>?_)
 refine TL.buildSlice rfl rfl rfl rfl rfl ?_;intro b' wa hga hba hsa hsb' hsc;have hgw:=hg.trans hga;have z1:=hg.size;repeat refine aF ?_
 exact fM rfl rfl ⟨_,rfl,⟨_,1,_,_,rfl,(aV (sz:=3) (m:=1) hba rfl dM).mono (λ k hk=>by subst hk;exact hF _ oM),⟨⟨x,rfl,rfl,rfl,h.go (Carry.grow hgw)⟩,trivial⟩,λ key hk=>by cases hk⟩,hgw⟩
theorem rdown_c {K:Nat→Prop} {w:World} {R:RL} {g:Pg} (h:RfAt K w R g) (G:Nat→Prop) (a:Option Addr) (m c n:Nat) (key:Bs) (fr:List (Nd×Nat)) (th:Bool) (hk:Sl G w 1 a m c (bB key)) (hp:jP g key 16 n=some (fr,th)) :
  Calls Tryz.prog 107 #[.pointer (some ⟨R.p,0,none⟩),.int .i64 (n:Int),.slice a m c] w (Ret λ v w'=>(∃ (b:Option Addr) (d:Nat) (cs:List Value) (b2:Option Addr) (d2:Nat),v=.tuple #[.agg #[.slice b fr.length d,.slice b2 (fr.length-1) d2],.int .i64 0]∧Sl (λ k=>w.heap.size≤k) w' 3 b fr.length d cs∧NdCells (λ k=>w.heap.size≤k) w' cs (fr.map (·.1))∧Sl (λ k=>w.heap.size≤k) w' 1 b2 (fr.length-1) d2 (bC (fr.dropLast.map (·.2))))∧Grow w w'):=by
 refine V.calls (args:=[_,_,_]) Tryz.func107 rfl Tryz.ntmps107 rfl rfl ?_;repeat (first|refine aF ?_|refine yI λ bk w' hg hbk hsz hsz'=>?_)
 rename_i b6 w1 g1 k1 p1 p1';obtain ⟨b8,rfl⟩:=yE bk;have hg0:Grow w w':=g1.trans hg;have q0:w.heap.size≤b6∧b6<b8∧b8<w'.heap.size:=by have:=hbk.lt;omega
 have k8:Blk w' b8 177 [.slice none 0 0,.slice none 0 0]:=hbk;have k6:Blk w' b6 177 [.slice none 0 0,.slice none 0 0]:=k1.grow hg;clear hbk k1 hg g1 p1 p1' hsz;obtain ⟨B,hB⟩:∃ B,B=w'.heap.size:=⟨_,rfl⟩
 refine aX (S:=Nat×Nat×Value×Value×List Value×List (Nd×Nat)×List (Nd×Nat)) (λ s=>[(10,.int .i64 (s.1:Int)),(9,.int .i64 (s.2.1:Int)),(8,.pointer (some ⟨b8,0,none⟩)),(6,.pointer (some ⟨b6,0,none⟩)),(2,.slice a m c),(0,.pointer (some ⟨R.p,0,none⟩))])
  (λ s w1=>s.1≤16∧jP g key (16-s.1) s.2.1=some (s.2.2.2.2.2.2,th)∧s.2.2.2.2.2.1++s.2.2.2.2.2.2=fr∧s.2.2.2.2.2.1.length=s.1∧Blk w1 b8 177 [s.2.2.1,s.2.2.2.1]∧Blk w1 b6 177 [.slice none 0 0,.slice none 0 0]∧w1.ownsRow B 79 3 s.2.2.1 s.1 s.2.2.2.2.1∧w1.ownsRow B 3 1 s.2.2.2.1 s.1 (bC (s.2.2.2.2.2.1.map (·.2)))∧(∀ k,s.2.2.1.ownBlock=some k→s.2.2.2.1.ownBlock≠some k)∧NdCells (λ k=>(B≤k∧s.2.2.2.1.ownBlock≠some k)∧s.2.2.1.ownBlock≠some k) w1 s.2.2.2.2.1 (s.2.2.2.2.2.1.map (·.1))∧Grow w w1∧B≤w1.heap.size)
  (λ s=>16-s.1) (0,n,.slice none 0 0,.slice none 0 0,[],[],fr) ⟨rfl,rfl,rfl,rfl,rfl,rfl,trivial⟩ ⟨by simp only;omega,hp,rfl,rfl,k8,k6,World.ownsRow_nil _ _ _ _,World.ownsRow_nil _ _ _ _,(λ k hk=>by cases hk),trivial,hg0,by rw [hB];exact Nat.le_refl _⟩ ?_
 rintro ⟨i,n,va,vb,cs,dn,rs⟩ w1 ⟨hi,hpi,hfr,hdl,j8,j6,howa,howb,hab,hnc,hg1,hB1⟩;simp only at hi hpi hfr hdl j8 j6 howa howb hab hnc;obtain ⟨f',nd,hf,hnp,hor⟩:=eX hpi;have hi16:i<16:=by omega
 have hok:=fG hnp;have hnl:=dW (dN hnp);have hcn:=h.cnt;have z1:=hg1.size;repeat refine aF ?_
 refine aB 113 ?_;refine aA rfl (rnode_c (h.grow hg1) n nd hnp) rfl ?_;rintro _ w3 ⟨x,rfl,hnd,hg3⟩;have z3:=hg3.size;repeat (first|refine aF ?_|refine yI λ bk w' hg hbk hsz hsz'=>?_|refine yJ λ w' hu hbk hsz=>?_)
 have gw':Grow w3 w':=aI hu oM hg;have hgw4:Grow w w':=(hg1.trans hg3).trans gw';have j8':=(j8.grow hg3).grow gw';have j6':=(j6.grow hg3).grow gw';have howa':=aS (aS howa hg3) gw';have howb':=aS (aS howb hg3) gw';have hnc':=(hnc.go (Carry.grow hg3)).go (Carry.grow gw')
 have hnd':NdAt (λ k=>(B≤k∧vb.ownBlock≠some k)∧va.ownBlock≠some k) w' x nd :=
  (hnd.go (Carry.mono λ k hk _=>⟨⟨oM,λ e=>by have:=(aT howb e).2;omega⟩,λ e=>by have:=(aT howa e).2;omega⟩)).go (Carry.grow gw')
 have z4:=gw'.size;have qk:w1.heap.size≤bk∧bk<w'.heap.size:=by have:=hbk.lt;omega
 have hlta:∀ k,va.ownBlock=some k→B≤k∧k<w1.heap.size:=λ k e=>aT howa e;have hltb:∀ k,vb.ownBlock=some k→B≤k∧k<w1.heap.size:=λ k e=>aT howb e;clear hu hg j8 j6 howa howb hnc hnd hg3 hsz hsz';refine TL.buildSlice rfl rfl rfl rfl rfl ?_;intro b' wa hga hba hsa hsb hsc;have hba':Blk wa b' 79 [x.v1,x.v2,x.v3]:=hba;have hsl:Sl (λ _=>True) wa 3 (some ⟨b',0,none⟩) 1 1 [x.v1,x.v2,x.v3]:=(aV (sz:=3) (m:=1) hba' rfl dM).mono (λ _ _=>trivial);have za:=hga.size;have howA:=aS howa' hga;refine eG (bytes:=72) rfl rfl howA hsl (by intro u hu;simp only [List.mem_cons,List.not_mem_nil,or_false] at hu;rcases hu with rfl|rfl|rfl<;>rfl) (by unfold maxLen;omega) oM oM rfl ?_;intro va' wb hownA hgb hcb;have zb:=hgb.size;have hgwb:Grow w wb:=Grow.mk (aL hgb oM (λ k hk=>by have:=hlta k hk;omega) (hgw4.trans hga).1);have jb:∀ k,k<wa.heap.size→va.ownBlock≠some k→wb.heap[k]? = wa.heap[k]?:=λ k hk e=>hgb.block k hk (λ h=>e h.symm);have j8b:=dS (j8'.grow hga) (jb b8 oM (λ e=>by have:=hlta _ e;omega));have j6b:=dS (j6'.grow hga) (jb b6 oM (λ e=>by have:=hlta _ e;omega));have jkb:=dS (hbk.grow hga) (jb bk oM (λ e=>by have:=hlta _ e;omega));have howBb:=cL (aS howb' hga) (λ k hk hv=>jb k (by have:=hltb _ hv;omega) (λ e=>hab k e hv))
 have habb:∀ k,va'.ownBlock=some k→vb.ownBlock≠some k:=λ k h1 h2=>by
  have:=((hcb (λ _=>True)).blk k ⟨trivial,λ e=>hab k e h2⟩ (by have:=hltb _ h2;omega)).1.2;exact this h1
 have hncb:=NdCells.snoc ((hnd'.go (Carry.grow hga)).go (hcb _)) ((hnc'.go (Carry.grow hga)).go (hcb _));have hndb:=(hnd'.go (Carry.grow hga)).go (hcb _);have hlta':∀ k,va'.ownBlock=some k→B≤k∧k<wb.heap.size:=λ k e=>aT hownA e;clear hbk hba hba' hsl howA howa' howb' hnd' hnc' j8' j6' hgb hga hgw4 gw' jb hcb hab;obtain ⟨aa,ac,rfl,hsa'⟩:=aM hownA;obtain ⟨ba,bc,rfl,hsb'⟩:=aM howBb;repeat (first|refine aF ?_|refine yJ λ w' hu hbk hsz=>?_)
 have i8:Blk w' b8 177 [.slice aa (i+1) ac,.slice ba i bc]:=hbk;have cU:∀ G:Nat→Prop,(∀ k,G k→k≠b8)→Carry G wb G w':=λ G hG=>Carry.upd hu (λ k hk _=>hG k hk);have hgw':Grow w w':=aI hu oM hgwb;have i6:=j6b.upd hu oM;have ik:=jkb.upd hu oM;have hownA5:=cL hownA (w':=w') (λ k hk hv=>hu.block k oM);have hownB5:=cL howBb (w':=w') (λ k hk hv=>hu.block k oM);have hnc5:=hncb.go (cU _ (λ k hk=>by have:=hk.1.1;omega));have hnd5:=hndb.go (cU _ (λ k hk=>by have:=hk.1.1;omega));clear hbk hu cU hgwb j6b jkb hownA howBb hncb hndb hsa' hsb' j8b;obtain ⟨w5,rfl⟩:=yE w';rcases hor with ⟨hl,rfl,rfl⟩|⟨hl,kk,r,hkid,hpr,rfl⟩
 ·repeat (first|refine aF ?_|refine yJ λ w' hu hbk hsz=>?_|(refine aB 114 ?_;refine aA rfl (rleaf_nd hnd5 hl _) rfl ?_;rintro _ _ ⟨rfl,hgc⟩))
  obtain ⟨a5,c5,e5,s5⟩:=aM hownA5;obtain ⟨a7,c7,e7,s7⟩:=aM hownB5;cases e5;cases e7;have cF:Carry (λ k=>B≤k) w5 (λ k=>w.heap.size≤k) w':=(Carry.grow hgc).trans ((Carry.upd hu (λ k hk _=>by omega)).trans (Carry.mono λ k hk _=>by omega));subst hfr;have hll:(dn++[(nd,cN nd.items key)]).length=i+1:=by rw [List.length_append,hdl];rfl
  refine fN rfl (aW hbk rfl) rfl ⟨_,rfl,⟨aa,ac,cs++[x.v1,x.v2,x.v3],ba,bc,by rw [hll];rfl,?_,?_,?_⟩,aI hu oM (hgw'.trans hgc)⟩
  ·rw [hll];exact (s5.mono (λ k hk=>hk.1)).go cF
  ·rw [List.map_append];exact (hnc5.go (Carry.mono λ k hk _=>hk.1.1)).go cF
  ·rw [hll,List.dropLast_concat];exact (s7.mono (λ k hk=>hk.1)).go cF
 ·have hkl:=(List.getElem?_eq_some_iff.1 hkid).1;have hn2:=bR hnd5.kids;repeat (first|refine aF ?_|(refine aB 114 ?_;refine aA rfl (rleaf_nd hnd5 hl _) rfl ?_;rintro _ _ ⟨rfl,hgc⟩))
  rename_i w6;have z6:=hgc.size;refine aB 115 ?_;refine aA rfl (rkid_c _ _ x nd a m c key _ (hnd5.go (Carry.grow hgc)) (hk.grow (hgw'.trans hgc)) hok hl) rfl ?_;rintro _ w7 ⟨rfl,hg7⟩;have z7:=hg7.size;have gk:=hgc.trans hg7;have hgw7:=hgw'.trans gk;have i8':=i8.grow gk;have i6':=i6.grow gk;have ik':=ik.grow gk;have hownA7:=aS hownA5 gk;have hownB7:=aS hownB5 gk;have hnc7:=hnc5.go (Carry.grow gk);have hnd7:=hnd5.go (Carry.grow gk);clear hgc hg7 i8 i6 ik hownA5 hownB5 hnc5 hnd5 hgw';repeat refine aF ?_
  refine TL.buildSlice rfl rfl rfl rfl rfl ?_;intro b'' wc hgc hbc _ _ hscc;have hslc:Sl (λ _=>True) wc 1 (some ⟨b'',0,none⟩) 1 1 (bC [fX nd.keys key]):=(aV (sz:=1) (m:=1) hbc rfl dM).mono (λ _ _=>trivial);have zc:=hgc.size;have hownB8:=aS hownB7 hgc;refine eG (bytes:=8) rfl rfl hownB8 hslc (gD _) (by unfold maxLen;omega) oM oM rfl ?_;intro vb' wd hownBd hgd hcd;have zd:=hgd.size;have hgwd:Grow w wd:=Grow.mk (aL hgd oM (λ k hk=>by have:=hltb k hk;omega) (hgw7.trans hgc).1);have jb:∀ k,k<wc.heap.size→(Value.slice ba i bc).ownBlock≠some k→wd.heap[k]? = wc.heap[k]?:=λ k hk e=>hgd.block k hk (λ h=>e h.symm);have i8b:=dS (i8'.grow hgc) (jb b8 oM (λ e=>by have:=hltb _ e;omega));have i6b:=dS (i6'.grow hgc) (jb b6 oM (λ e=>by have:=hltb _ e;omega));have ikb:=dS (ik'.grow hgc) (jb bk oM (λ e=>by have:=hltb _ e;omega));have hownAd:=cL (aS hownA7 hgc) (λ k hk hv=>jb k (by have:=hlta' _ hv;omega) (λ e=>habb k hv e))
  have habd:∀ k,(Value.slice aa (i+1) ac).ownBlock=some k→vb'.ownBlock≠some k:=λ k h1 h2 =>
   ((hcd (λ _=>True)).blk k ⟨trivial,λ e=>habb k h1 e⟩ (by have:=hlta' _ h1;omega)).1.2 h2
  have cM:Carry (λ k=>(B≤k∧(Value.slice ba i bc).ownBlock≠some k)∧(Value.slice aa (i+1) ac).ownBlock≠some k) wc (λ k=>(B≤k∧vb'.ownBlock≠some k)∧(Value.slice aa (i+1) ac).ownBlock≠some k) wd :=
   (Carry.mono λ k hk _=>⟨⟨hk.1.1,hk.2⟩,hk.1.2⟩).trans ((hcd (λ k=>B≤k∧(Value.slice aa (i+1) ac).ownBlock≠some k)).trans (Carry.mono λ k hk _=>⟨⟨hk.1.1,hk.2⟩,hk.1.2⟩))
  have hncd:=(hnc7.go (Carry.grow hgc)).go cM;have hndd:=(hnd7.go (Carry.grow hgc)).go cM;clear i8' i6' ik' hownA7 hownB7 hownB8 hnc7 hnd7 hgw7 gk hgc hbc hslc hgd jb hcd cM habb;obtain ⟨bb,bbc,rfl,hsbb⟩:=aM hownBd;repeat (first|refine aF ?_|refine yJ λ w' hu hbk hsz=>?_)
  rename_i hsz9;have o8:Blk w' b8 177 [.slice aa (i+1) ac,.slice bb (i+1) bbc]:=hbk;have cU:Carry (λ k=>(B≤k∧(Value.slice bb (i+1) bbc).ownBlock≠some k)∧(Value.slice aa (i+1) ac).ownBlock≠some k) wd (λ k=>(B≤k∧(Value.slice bb (i+1) bbc).ownBlock≠some k)∧(Value.slice aa (i+1) ac).ownBlock≠some k) w':=Carry.upd hu (λ k hk _=>by have:=hk.1.1;omega);have hgw':Grow w w':=aI hu oM hgwd;have i6:=i6b.upd hu oM;have ik:=ikb.upd hu oM;have hownA5:=cL hownAd (w':=w') (λ k hk hv=>hu.block k oM);have hownB5:=cL hownBd (w':=w') (λ k hk hv=>hu.block k oM);have hnc5:=hncd.go cU;have hnd5:=hndd.go cU;have zu:=hu.size;clear hbk hu cU hgwd i6b ikb hownAd hownBd hncd hndd hsbb i8b;obtain ⟨w9,rfl⟩:=yE w';have hsk:=hnd5.kids;have hcx:w9.cell? (at' x.a2 (fX nd.keys key))=some (.int .i64 (kk:Int)):=hsk.row.cell (by rw [show bC nd.kids=nd.kids.map λ (k:Nat)=>(.int .i64 (k:Int):Value) from rfl,List.getElem?_map,hkid];rfl);repeat (first|(refine aH ?_;refine aC (j:=fX nd.keys key) rfl rfl rfl oM (Nat.mul_one _) ⟨_,_,hsk⟩ rfl ?_)|refine yC ?_)
  refine aE (i+1,kk,.slice aa (i+1) ac,.slice bb (i+1) bbc,cs++[x.v1,x.v2,x.v3],dn++[(nd,fX nd.keys key)],r) ⟨rfl,rfl,rfl,rfl,rfl,rfl,trivial⟩ ⟨by simp only;omega,?_,by simpa using hfr,by simp [hdl],o8,i6,hownA5,?_,habd,?_,hgw',oM⟩ (by simp only;omega)
  ·rw [show 16-(i+1)=f' by omega];exact hpr
  ·simp only [bC,List.map_append,List.map_cons,List.map_nil] at hownB5 ⊢;exact hownB5
  ·simp only [List.map_append,List.map_cons,List.map_nil];exact hnc5
theorem writeAll_nok {s2:Pg}:∀ {l:List Nd} {s:Pg} {ks:List Nat},fE s l=some (ks,s2)→∀ x∈l,bF x=true
 | [],_,_,_,x,hx=>by cases hx
 | y::l,s,ks,h,x,hx=>by
  obtain ⟨p,s1,l1,h1,h2,rfl⟩:=kK h;rcases List.mem_cons.1 hx with rfl|hx
  ·exact (gK h1).1
  ·exact writeAll_nok h2 x hx
theorem pathP_br {s:Pg} {key:Bs} {th:Bool}:∀ {f n:Nat} {fr:List (Nd×Nat)},jP s key f n=some (fr,th)→∀ i x,fr[i]? = some x→i+1<fr.length→bN x.1=false
 | f,n,fr,h,i,x,hi,hx=>by
  obtain ⟨f',nd,rfl,hn,hor⟩:=eX h;rcases hor with ⟨hl,rfl,rfl⟩|⟨hl,k,r,hk,hr,rfl⟩
  ·simp at hx
  ·cases i with
   | zero=>simp only [List.getElem?_cons_zero,Option.some.injEq] at hi;subst hi;exact hl
   | succ i=>exact pathP_br hr i x (by simpa using hi) (by simpa using hx)
theorem pathP_leaf {s:Pg} {key:Bs} {th:Bool}:∀ {f n:Nat} {fr:List (Nd×Nat)},jP s key f n=some (fr,th)→∀ i x,fr[i]? = some x→i+1=fr.length→bN x.1=true∧x.2=cN x.1.items key∧th=eR x.1.items key
 | f,n,fr,h,i,x,hi,hx=>by
  obtain ⟨f',nd,rfl,hn,hor⟩:=eX h;rcases hor with ⟨hl,rfl,rfl⟩|⟨hl,k,r,hk,hr,rfl⟩
  ·cases i with
   | zero=>simp only [List.getElem?_cons_zero,Option.some.injEq] at hi;subst hi;exact ⟨hl,rfl,rfl⟩
   | succ i=>simp at hx
  ·cases i with
   | zero =>
    have:r≠[]:=by
     obtain ⟨_,_,_,_,hor2⟩:=eX hr;rcases hor2 with ⟨_,rfl,_⟩|⟨_,_,_,_,_,rfl⟩<;>simp
    cases r with
    | nil=>exact absurd rfl this
    | cons a b=>simp at hx
   | succ i=>exact pathP_leaf hr i x (by simpa using hi) (by simpa using hx)
theorem pathP_ne {s:Pg} {key:Bs} {th:Bool} {f n:Nat} {fr:List (Nd×Nat)} (h:jP s key f n=some (fr,th)):1≤fr.length:=by
 obtain ⟨_,_,_,_,hor2⟩:=eX h;rcases hor2 with ⟨_,rfl,_⟩|⟨_,_,_,_,_,rfl⟩<;>simp
theorem insL_cutL {α : Type} {l x:List α} {i:Nat} (h:i≤l.length):hY (dT l i (i+1)) i x=l.take i++x++l.drop (i+1):=by
 simp only [hY,dT];rw [List.take_append_of_le_length (by rw [List.length_take];omega),List.take_take,Nat.min_self,List.drop_append_of_le_length (by rw [List.length_take];omega),List.drop_take_self,List.nil_append]
theorem putNode_br {n up:Nd} {i:Nat} {item:Bs×Bs} {th:Bool} (hl:bN n=false) (h:i≤n.kids.length):cP n i up item th=⟨n.items,n.kids.take i++up.kids++n.kids.drop (i+1),n.keys.take i++up.keys++n.keys.drop i⟩:=by
 unfold cP;rw [hl];simp only [Bool.false_eq_true,if_false];rw [insL_cutL h];rfl
theorem ritemsI_c {F:Nat→Prop} {w:World} (hF:∀ k,w.heap.size≤k→F k) (a b:Option Addr) (n c m d i k:Nat) (l xs:bT) (h:ItsAt F w a n c l) (hx:ItsAt F w b m d xs) (hik:i≤k) (hk:k≤n) (hn:n+m≤1000000) :
  Calls Tryz.prog 109 #[.slice a n c,.int .i64 (i:Int),.int .i64 (k:Int),.slice b m d] w (Ret λ v w'=>(∃ a' c',v=.slice a' (i+m+(n-k)) c'∧ItsAt F w' a' (i+m+(n-k)) c' (l.take i++xs++l.drop k))∧Grow w w'):=by
 obtain ⟨cs,hs,hc⟩:=h.ex;obtain ⟨ds,hs2,hd⟩:=hx.ex;refine Calls.mono (ritems_t F F a b n c m d i k cs ds w hs hs2 hc.one hd.one hik hk hn) ?_;rintro _ w' ⟨v,rfl,hown,hg⟩;rw [Nat.mul_comm i,Nat.mul_comm k] at hown;exact ⟨v,rfl,its_of_own hown hF (ItCells.go (Carry.grow hg) (((hc.take i).1.append hd).append (hc.take k).2)),hg⟩
theorem rkeysK_c {F:Nat→Prop} {w:World} (hF:∀ k,w.heap.size≤k→F k) (a b:Option Addr) (n c m d i k:Nat) (l xs:List Bs) (h:KysAt F w a n c l) (hx:KysAt F w b m d xs) (hik:i≤k) (hk:k≤n) (hn:n+m≤1000000) :
  Calls Tryz.prog 121 #[.slice a n c,.int .i64 (i:Int),.int .i64 (k:Int),.slice b m d] w (Ret λ v w'=>(∃ a' c',v=.slice a' (i+m+(n-k)) c'∧KysAt F w' a' (i+m+(n-k)) c' (l.take i++xs++l.drop k))∧Grow w w'):=by
 obtain ⟨cs,hs,hc⟩:=h.ex;obtain ⟨ds,hs2,hd⟩:=hx.ex;refine Calls.mono (rkeys_t F F a b n c m d i k cs ds w hs hs2 hc.one hd.one hik hk hn) ?_;rintro _ w' ⟨v,rfl,hown,hg⟩;rw [Nat.mul_one,Nat.mul_one] at hown;exact ⟨v,rfl,kys_of_own hown hF (KyCells.go (Carry.grow hg) (((hc.take i).1.append hd).append (hc.take k).2)),hg⟩
theorem rkidsN_c {F G:Nat→Prop} {w:World} (hF:∀ k,w.heap.size≤k→F k) (a b:Option Addr) (n c m d i k:Nat) (l xs:List Nat) (h:Sl F w 1 a n c (bC l)) (hx:Sl G w 1 b m d (bC xs)) (hik:i≤k) (hk:k≤n) (hn:n+m≤1000000) :
  Calls Tryz.prog 111 #[.slice a n c,.int .i64 (i:Int),.int .i64 (k:Int),.slice b m d] w (Ret λ v w'=>(∃ a' c',v=.slice a' (i+m+(n-k)) c'∧Sl F w' 1 a' (i+m+(n-k)) c' (bC (l.take i++xs++l.drop k)))∧Grow w w'):=by
 refine Calls.mono (rkids_t F G a b n c m d i k _ _ w h hx (gD l) (gD xs) hik hk hn) ?_;rintro _ w' ⟨v,rfl,hown,hg⟩;rw [Nat.mul_one,Nat.mul_one] at hown;obtain ⟨a',c',rfl,hs⟩:=aM hown;refine ⟨_,rfl,⟨a',c',rfl,?_⟩,hg⟩;have:=hs.mono (F':=F) (λ k hk=>hF k hk.1);simpa [bC,List.map_take,List.map_drop] using this
theorem rput_c {K:Nat→Prop} {w:World} {R:RL} {g g':Pg} (h:RfAt K w R g) (hK:∀ k,w.heap.size≤k→K k) (root:Option Nat) (G G':Nat→Prop) (a a':Option Addr) (m c m' c':Nat) (key v:Bs) (hk:Sl G w 1 a m c (bB key)) (hv:Sl G' w 1 a' m' c' (bB v)) (hko:eF key=true) (hvo:fC v=true) (hkb:eZ key) (hvb:eZ v) (hsp:32≤cR g) (n':Nat) (hput:putP g root key v=some (n',g')) :
  Calls Tryz.prog 37 #[.pointer (some ⟨R.p,0,none⟩),.int .i64 (dZ root),.slice a m c,.slice a' m' c'] w (Ret λ u w'=>u=.tuple #[.int .i64 (n':Int),.int .i64 0]∧RfAt K w' R g'∧ButS R.S w w'):=by
 have hSl:∀ k,w.heap.size≤k→¬ R.S k:=λ k hk=>by have:=h.lts;unfold RL.S;omega
 have hrr:∀ n,root=some n→n<9223372036854775808:=λ n e=>by
  subst e;obtain ⟨fr,th,up,s1,hp,_⟩:=putP_some hput;obtain ⟨_,_,_,hn,_⟩:=eX hp;have:=dW (dN hn);have:=h.cnt;omega
 have hm:m=key.length:=by have:=hk.len;rw [bB,List.length_map] at this;omega
 have hm':m'=v.length:=by have:=hv.len;rw [bB,List.length_map] at this;omega
 have hkl:1≤key.length∧key.length≤16:=by simpa [eF] using hko
 have hvl:v.length≤32:=by simpa [fC] using hvo
 refine V.calls (args:=[_,_,_,_]) Tryz.func37 rfl Tryz.ntmps37 rfl rfl ?_;repeat (first|(refine aB 104 ?_;refine aA rfl (rbegin_c R.p root hrr _) rfl ?_;rintro _ _ ⟨rfl,rfl⟩)|(refine aB 105 ?_;refine aA rfl (rkey_c a _ c key true _ hko hm) rfl ?_;rintro _ _ ⟨rfl,rfl⟩)|(refine aB 118 ?_;refine aA rfl (rvalue_c a' _ c' v true _ hvo hm') rfl ?_;rintro _ _ ⟨rfl,rfl⟩)|(refine aB 106 ?_;refine aA rfl (rspare_c h) rfl ?_;rintro _ _ ⟨rfl,hgc⟩)|refine yC ?_|refine yI λ bk w' hg hbk hsz hsz'=>?_)
 obtain ⟨w2,rfl⟩:=yE w';have hgw2:=hgc.trans hg;have z2:=hgw2.size;have z1:=hgc.size;have ow1:w2.ownsRow w.heap.size 5 1 (.slice (some ⟨bk,0,none⟩) 0 0) 0 []:=own_lit hbk oM rfl dM;refine TL.append rfl rfl ow1 (hk.grow hgw2) (bO key) (by unfold maxLen;omega) oM oM rfl ?_;intro v1 w3 how3 hg3 _;have hgw3:Grow w w3:=Grow.mk (aL hg3 oM (λ k hk=>(aT ow1 hk).1) hgw2.1);clear hgc hg hbk hsz hsz' hgw2 ow1 hg3;have z3:=hgw3.size;repeat (first|refine aF ?_|refine yI λ bk w' hg hbk hsz hsz'=>?_)
 obtain ⟨w4,rfl⟩:=yE w';have z4:=hg.size;have hgw4:=hgw3.trans hg;have ow4:w4.ownsRow w3.heap.size 5 1 (.slice (some ⟨bk,0,none⟩) 0 0) 0 []:=own_lit hbk oM rfl dM;refine TL.append rfl rfl ow4 (hv.grow hgw4) (bO v) (by unfold maxLen;omega) oM oM rfl ?_;intro v5 w5 how5 hg5 _;have hgw5':Grow w3 w5:=Grow.mk (aL hg5 oM (λ k hk=>(aT ow4 hk).1) hg.1);have hgw5:=hgw3.trans hgw5';have z5:=hgw5'.size;have how3':=aS how3 hgw5';clear hg hbk hsz hsz' hgw4 ow4 how3 hg5;obtain ⟨ka,kc,rfl,hks⟩:=aM how3';obtain ⟨va,vc,rfl,hvs⟩:=aM how5;have hks:BsAt (λ k=>w.heap.size≤k) w5 (.slice ka (0+m) kc) key:=⟨_,_,_,rfl,hks.mono (λ k hk=>hk.1)⟩
 have hvs:BsAt (λ k=>w.heap.size≤k) w5 (.slice va (0+m') vc) v:=⟨_,_,_,rfl,hvs.mono (λ k hk=>Nat.le_trans z3 hk.1)⟩
 clear how3' how5 hgw3 hgw5'
 cases root with
 | none =>
  obtain ⟨hok,hnw⟩:=gK (show gV g ⟨[(key,v)],[],[]⟩=some (n',g') from hput);repeat (first|refine aF ?_|refine yI λ bk w' hg hbk hsz hsz'=>?_|refine yJ λ w' hu hbk hsz=>?_)
  refine TL.buildSlice rfl rfl rfl rfl rfl ?_;intro b' wa hga hba hsa hsb hsc;have hba':Blk wa b' 58 [.slice ka (0+m) kc,.slice va (0+m') vc]:=hba;have hgq:Grow w5 wa:=(aI hu oM hg).trans hga;have hgw6:Grow w wa:=hgw5.trans hgq
  have hnd:NdAt (λ k=>w.heap.size≤k) wa ⟨some ⟨b',0,none⟩,1,1,none,0,0,none,0,0⟩ ⟨[(key,v)],[],[]⟩ :=
   ⟨⟨_,(aV (sz:=2) (m:=1) hba' rfl dM).mono (λ k hk=>by subst hk;have:=hg.size;show w.heap.size≤_;omega),hks.go (Carry.grow hgq),hvs.go (Carry.grow hgq),trivial⟩,iY,jK⟩
  clear hbk hba hba' hu hg hga hgq hks hvs hsz hsz';repeat refine aF ?_
  refine aB 110 ?_;refine aA rfl (rwrite_c (h.grow hgw6) (λ k hk=>hK k (by have:=hgw6.size;omega)) _ ⟨some ⟨b',0,none⟩,1,1,none,0,0,none,0,0⟩ _ hnd hok (lV hok ⟨by intro x hx;simp only [List.mem_singleton] at hx;subst hx;exact ⟨hkb,hvb⟩,sM⟩) n' hnw) rfl ?_;rintro _ w7 ⟨rfl,hp7,hb7⟩;repeat refine aF ?_
  exact fM rfl rfl ⟨_,rfl,rfl,hp7,(ButS.grow hgw6).trans hb7⟩
 | some n =>
  obtain ⟨fr,th,up,s1,hp,hpu,hend⟩:=putP_some hput;have hfok:=pathP_frames (λ n=>h.lt n) hp;repeat (first|refine aF ?_|refine yI λ bk w' hg hbk hsz hsz'=>?_|refine yJ λ w' hu hbk hsz=>?_)
  have hb11:Blk w' bk 58 [.slice ka (0+m) kc,.slice va (0+m') vc]:=hbk;obtain ⟨b11,rfl⟩:=yE bk;obtain ⟨w6,rfl⟩:=yE w';have hgq:Grow w5 w6:=aI hu oM hg;have hgw6:Grow w w6:=hgw5.trans hgq;have hks6:=hks.go (Carry.grow hgq);have hvs6:=hvs.go (Carry.grow hgq);have zq:=hgq.size;have z6:=hb11.lt;have q11:w.heap.size≤b11:=by have:=hg.size;omega
  clear hbk hu hg hgq hks hvs hsz hsz' hgw5;refine aB 107 ?_;refine aA rfl (rdown_c (h.grow hgw6) _ a m c n key fr th (hk.grow hgw6) hp) rfl ?_;rintro _ w7 ⟨⟨b,d,cs,b2,d2,rfl,hns,hnc,hkds⟩,hg7⟩;have z7:=hg7.size;have hgw7:=hgw6.trans hg7;replace hb11:=hb11.grow hg7;have hks7:=hks6.go (Carry.grow hg7);have hvs7:=hvs6.go (Carry.grow hg7);clear hgw6 hg7 hks6 hvs6;have hne:=pathP_ne hp;have hlen:=pathP_len hp;obtain ⟨f,hf⟩:∃ f,fr[fr.length-1]? = some f:=⟨_,List.getElem?_eq_getElem oM⟩
  obtain ⟨hlf,hfx,hth⟩:=pathP_leaf hp _ f hf oM;have fo:=hfok f (List.mem_of_getElem? hf);obtain ⟨x,hx3,hx⟩:=hnc.at' (l:=fr.map (·.1)) (i:=fr.length-1) (nd:=f.1) (by rw [List.getElem?_map,hf];rfl);repeat (first|refine aF ?_|refine yI λ bk w' hg hbk hsz hsz'=>?_|refine yJ λ w' hu hbk hsz=>?_)
  have hb12:Blk w' bk 177 [.slice b fr.length d,.slice b2 (fr.length-1) d2]:=hbk;obtain ⟨b12,rfl⟩:=yE bk;obtain ⟨w8,rfl⟩:=yE w';have hgq:Grow w7 w8:=aI hu oM hg;have zq8:=hgq.size;have z8:=hb12.lt;have q12:b11<b12:=by omega
  have hgw8:=hgw7.trans hgq;replace hb11:=hb11.grow hgq;have hks8:=hks7.go (Carry.grow hgq);have hvs8:=hvs7.go (Carry.grow hgq);have hns8:=hns.go (Carry.grow hgq);have hnc8:=hnc.go (Carry.grow hgq);have hkd8:=hkds.go (Carry.grow hgq);have hx8:=hx.go (Carry.grow hgq);clear hbk hu hg hgq hks7 hvs7 hsz hsz' hgw7 hns hnc hkds hx;repeat (first|(refine aH ?_;refine aC (j:=fr.length-1) rfl rfl oM oM rfl ⟨_,_,hns8⟩ rfl ?_)|(refine aO ?_;refine dR rfl hns8 (three_at hx3) rfl rfl ?_)|refine yC ?_|refine yI λ bk w' hg hbk hsz hsz'=>?_|refine yJ λ w' hu hbk hsz=>?_)
  have hb13:Blk w' bk 79 x.cs:=hbk;obtain ⟨b13,rfl⟩:=yE bk;obtain ⟨w9,rfl⟩:=yE w';have hgq:Grow w8 w9:=aI hu oM hg;have zq9:=hgq.size;have z9:=hb13.lt;have q13:b12<b13:=by omega
  obtain ⟨F,hF⟩:∃ F:Nat→Prop,∀ k,F k↔w.heap.size≤k∧k≠b13:=⟨_,λ _=>Iff.rfl⟩
  have cF:∀ F0:Nat→Prop,(∀ k,F0 k→w.heap.size≤k)→Carry F0 w8 F w9:=λ F0 h0=>(Carry.mono λ k hk hl=>(hF k).2 ⟨h0 k hk,oM⟩).trans (Carry.grow hgq);have hgw9:=hgw8.trans hgq;have hb11':=hb11.grow hgq;have hb12':=hb12.grow hgq;have hks9:=hks8.go (cF _ λ k hk=>hk);have hvs9:=hvs8.go (cF _ λ k hk=>hk);have hns9:=hns8.go (cF _ λ k hk=>by omega);have hnc9:=hnc8.go (cF _ λ k hk=>by omega);have hkd9:=hkd8.go (cF _ λ k hk=>by omega);have hx9:=hx8.go (cF _ λ k hk=>by omega);clear hbk hu hg hgq hks8 hvs8 hsz hsz' hgw8 hns8 hnc8 hkd8 hx8 hb11 hb12 cF;refine aB 108 ?_;refine aA rfl (rfind_c _ _ x f.1 a m c key _ hx9 (hk.grow hgw9) fo.ok hlf) rfl ?_;rintro _ w10 ⟨rfl,hg10⟩;rw [← hfx,← hth];have zq10:=hg10.size;have hgw10:=hgw9.trans hg10;replace hb11':=hb11'.grow hg10;replace hb12':=hb12'.grow hg10;replace hb13:=hb13.grow hg10;have hks10:=hks9.go (Carry.grow hg10);have hvs10:=hvs9.go (Carry.grow hg10);have hns10:=hns9.go (Carry.grow hg10);have hnc10:=hnc9.go (Carry.grow hg10);have hkd10:=hkd9.go (Carry.grow hg10);have hx10:=hx9.go (Carry.grow hg10);clear hg10 hgw9 hks9 hvs9 hns9 hnc9 hkd9 hx9;obtain ⟨hfl,hflt⟩:=fo.leaf hlf;have hn1:=hx10.its.len;have hF10:∀ wq:World,w10.heap.size≤wq.heap.size→∀ k,wq.heap.size≤k→F k:=λ wq hq k hk=>(hF k).2 ⟨oM,oM⟩
  have hi8:f.1.items.length≤8:=by
   have hok:=fo.ok;unfold bF at hok;rw [if_pos hlf] at hok;exact (dG hok).2.1
  repeat (first|(refine TL.isMove ?_;refine TL.pure rfl rfl ?_)|(refine TL.isAsg ?_;refine TL.pure rfl rfl ?_)|refine TL.pure rfl rfl ?_)
  refine TL.nil ?_;refine fA ?_;refine dV 3 (λ e w3=>∃ (y:NV),Sub [(13,.pointer (some ⟨b13,0,none⟩)),(12,.pointer (some ⟨b12,0,none⟩)),(0,.pointer (some ⟨R.p,0,none⟩))] e∧Blk w3 b13 79 y.cs∧NdAt F w3 y (cP f.1 f.2 nd0 (key,v) th)∧Blk w3 b12 177 [.slice b fr.length d,.slice b2 (fr.length-1) d2]∧Sl F w3 3 b fr.length d cs∧NdCells F w3 cs (fr.map (·.1))∧Sl F w3 1 b2 (fr.length-1) d2 (bC (fr.dropLast.map (·.2)))∧Grow w w3∧b13<w3.heap.size) ?_ ?_;rotate_left
  ·cases th with
   | true =>
    have hflt':=hflt rfl;repeat refine aF ?_
    refine TL.buildSlice rfl rfl rfl rfl rfl ?_;intro b' wa hga hba hsa hsb hsc;have hba':Blk wa b' 58 [.slice ka (0+m) kc,.slice va (0+m') vc]:=hba;have za:=hga.size;have hit:ItsAt F wa (some ⟨b',0,none⟩) 1 1 [(key,v)]:=⟨_,(aV (sz:=2) (m:=1) hba' rfl dM).mono (λ k hk=>by subst hk;exact hF10 w10 (Nat.le_refl _) _ oM),hks10.go (Carry.grow hga),hvs10.go (Carry.grow hga),trivial⟩
    have hxa:=hx10.go (Carry.grow hga);repeat refine aF ?_
    refine aB 109 ?_;refine aA rfl (ritemsI_c (F:=F) (hF10 _ za) x.a1 (some ⟨b',0,none⟩) x.n1 x.c1 1 1 f.2 (f.2+1) f.1.items [(key,v)] hxa.its hit oM oM oM) rfl ?_;rintro _ wb ⟨⟨a8,c8,rfl,hi8⟩,hgb⟩;have zb:=hgb.size;have hgab:=hga.trans hgb;have jb13:=hb13.grow hgab;have hgwb:=hgw10.trans hgab;clear hba hba' hit hga hb13 hks10 hvs10 hgb;repeat (first|refine aF ?_|refine yJ λ w' hu hbk hsz=>?_)
    have cU:Carry F wb F w':=Carry.upd hu (λ k hk _=>((hF k).1 hk).2);have cW:Carry F w10 F w':=(Carry.grow hgab).trans cU;have hgwc:Grow w w':=aI hu oM hgwb
    have hpn:cP f.1 f.2 nd0 (key,v) true=⟨f.1.items.take f.2++[(key,v)]++f.1.items.drop (f.2+1),f.1.kids,f.1.keys⟩:=by
     simp only [cP,hlf];simp only [if_true,hY,dT];rw [List.take_append_of_le_length (by rw [List.length_take];omega),List.take_take,Nat.min_self,List.drop_append_of_le_length (by rw [List.length_take];omega),List.drop_take_self,List.nil_append]
    refine ⟨⟨a8,f.2+1+(x.n1-(f.2+1)),c8,x.a2,x.n2,x.c2,x.a3,x.n3,x.c3⟩,⟨rfl,rfl,rfl,trivial⟩,hbk,?_,(hb12'.grow hgab).upd hu oM,hns10.go cW,hnc10.go cW,hkd10.go cW,hgwc,oM⟩;rw [hpn];exact ⟨hi8.go cU,hx10.kids.go cW,hx10.kys.go cW⟩
   | false =>
    repeat refine aF ?_
    refine TL.buildSlice rfl rfl rfl rfl rfl ?_;intro b' wa hga hba hsa hsb hsc;have hba':Blk wa b' 58 [.slice ka (0+m) kc,.slice va (0+m') vc]:=hba;have za:=hga.size;have hit:ItsAt F wa (some ⟨b',0,none⟩) 1 1 [(key,v)]:=⟨_,(aV (sz:=2) (m:=1) hba' rfl dM).mono (λ k hk=>by subst hk;exact hF10 w10 (Nat.le_refl _) _ oM),hks10.go (Carry.grow hga),hvs10.go (Carry.grow hga),trivial⟩
    have hxa:=hx10.go (Carry.grow hga);repeat refine aF ?_
    refine aB 109 ?_;refine aA rfl (ritemsI_c (F:=F) (hF10 _ za) x.a1 (some ⟨b',0,none⟩) x.n1 x.c1 1 1 f.2 f.2 f.1.items [(key,v)] hxa.its hit oM oM oM) rfl ?_;rintro _ wb ⟨⟨a8,c8,rfl,hi8⟩,hgb⟩;have zb:=hgb.size;have hgab:=hga.trans hgb;have jb13:=hb13.grow hgab;have hgwb:=hgw10.trans hgab;clear hba hba' hit hga hb13 hks10 hvs10 hgb;repeat (first|refine aF ?_|refine yJ λ w' hu hbk hsz=>?_)
    have cU:Carry F wb F w':=Carry.upd hu (λ k hk _=>((hF k).1 hk).2);have cW:Carry F w10 F w':=(Carry.grow hgab).trans cU;have hgwc:Grow w w':=aI hu oM hgwb
    have hpn:cP f.1 f.2 nd0 (key,v) false=⟨f.1.items.take f.2++[(key,v)]++f.1.items.drop f.2,f.1.kids,f.1.keys⟩:=by
     simp only [cP,hlf];simp only [if_true,if_false,Bool.false_eq_true,hY]
    refine ⟨⟨a8,f.2+1+(x.n1-f.2),c8,x.a2,x.n2,x.c2,x.a3,x.n3,x.c3⟩,⟨rfl,rfl,rfl,trivial⟩,hbk,?_,(hb12'.grow hgab).upd hu oM,hns10.go cW,hnc10.go cW,hkd10.go cW,hgwc,oM⟩;rw [hpn];exact ⟨hi8.go cU,hx10.kids.go cW,hx10.kys.go cW⟩
  rintro e w0 ⟨y,hsub,i13,iy,i12,ins,inc,ikd,ig,ilt⟩;refine bD (e':=[(13,_),(12,_),(0,_)]) ?_ hsub;have hlts:=h.lts;have hrf0:RfAt (λ k=>K k∧k≠b13) w0 R g:=(h.tight.grow ig).keep2 (Carry.mono λ k hk _=>⟨hk.1,oM⟩) (λ _ _=>rfl) (λ k hk=>h.kne k hk.1);have zg:=ig.size;have q13w:w.heap.size≤b13:=by omega
  have hby0:NdB (cP f.1 f.2 nd0 (key,v) th):=putNode_by (i:=f.2) (item:=(key,v)) (th:=th) fo.by' ⟨by simp [nd0],by simp [nd0]⟩ hkb hvb;clear hks10 hvs10 hns10 hnc10 hkd10 hx10 hb11' hb12' hb13 hgw10 hn1 hF10;repeat refine aF ?_
  refine aX (S:=Nat×NV×Nd×Pg) (λ s=>[(17,.int .i64 (s.1:Int)),(13,.pointer (some ⟨b13,0,none⟩)),(12,.pointer (some ⟨b12,0,none⟩)),(0,.pointer (some ⟨R.p,0,none⟩))])
   (λ s w1=>s.1<fr.length∧(∃ f up,fr[s.1]? = some f∧mL (key,v) th (fr.drop (s.1+1)) g=some (up,s.2.2.2)∧UpOk up∧(s.1+1<fr.length→up.kids.length=up.keys.length+1)∧s.2.2.1=cP f.1 f.2 up (key,v) th)∧Blk w1 b13 79 s.2.1.cs∧NdAt F w1 s.2.1 s.2.2.1∧Blk w1 b12 177 [.slice b fr.length d,.slice b2 (fr.length-1) d2]∧Sl F w1 3 b fr.length d cs∧NdCells F w1 cs (fr.map (·.1))∧Sl F w1 1 b2 (fr.length-1) d2 (bC (fr.dropLast.map (·.2)))∧RfAt (λ k=>K k∧k≠b13) w1 R s.2.2.2∧ButS R.S w w1∧b13<w1.heap.size)
   (λ s=>s.1) (fr.length-1,y,cP f.1 f.2 nd0 (key,v) th,g) ⟨rfl,rfl,rfl,rfl,trivial⟩
   ⟨by simp only;omega,⟨f,nd0,hf,by rw [List.drop_of_length_le (by simp only;omega)];rfl,⟨rfl,.inl rfl,dM,dM,⟨by simp [nd0],by simp [nd0]⟩⟩,λ hh=>by simp only at hh;omega,rfl⟩,i13,iy,i12,ins,inc,ikd,hrf0,ButS.grow ig,ilt⟩ ?_
  clear i13 iy i12 ins inc ikd hrf0 ig ilt zg hby0 hsub fo hf hfx hth hlf hfl hflt hi8;rintro ⟨i,y,nd,gi⟩ w1 ⟨hi,⟨f,up1,hf,hpi,hu1,hu2,hnd⟩,i13,iy,i12,ins,inc,ikd,hrf,hbs,ilt⟩;simp only at hi hf hpi hu2 hnd i13 iy hrf;have z1:=hbs.size;have fo:=hfok f (List.mem_of_getElem? hf);obtain ⟨up2,g2,hpk⟩:=putUp_suffix hpu i;have hpd:=hpk;rw [List.drop_eq_getElem_cons hi,show fr[i]'hi=f from (List.getElem?_eq_some_iff.1 hf).2] at hpk;obtain ⟨up',g1',e1',hst⟩:=putUp_cons hpk;rw [hpi] at e1';simp only [Option.some.injEq,Prod.mk.injEq] at e1';obtain ⟨rfl,rfl⟩:=e1';rw [← hnd] at hst;obtain ⟨hs9,hsh⟩:=putNode_shape (item:=(key,v)) fo hu1 (λ hl=>hu2 (pathP_last hp i f hf hl));rw [← hnd] at hs9 hsh;have hnb:NdB nd:=by rw [hnd];exact putNode_by (i:=f.2) (item:=(key,v)) (th:=th) fo.by' hu1.by' hkb hvb
  obtain ⟨hup2,hup2l⟩:=storeP_up hst hnb;obtain ⟨nds,ks,hwa,hupe,hor⟩:=storeP_parts hst;have hFk:∀ wq:World,b13<wq.heap.size→∀ k,wq.heap.size≤k→F k:=λ wq hq k hk=>(hF k).2 ⟨oM,oM⟩;have hnds:nds.length≤2:=by rcases hor with ⟨_,rfl,_⟩|⟨_,rfl,_⟩<;>simp
  have hnby:∀ x∈nds,eZ (dC x):=by
   have hok:=writeAll_nok hwa;obtain ⟨c1,c2,_⟩:=splitN_by hnb;intro x hx;refine lV (hok x hx) ?_;rcases hor with ⟨_,rfl,_⟩|⟨_,rfl,_⟩
   ·simp only [List.mem_singleton] at hx;subst hx;exact hnb
   ·simp only [List.mem_cons,List.not_mem_nil,or_false] at hx;rcases hx with rfl|rfl
    ·exact c1
    ·exact c2
  repeat refine aF ?_
  refine aB 119 ?_;refine aA rfl (rsplit_c F _ (hFk _ ilt) y nd iy hs9 hsh nds ks hor) rfl ?_;rintro _ w2 ⟨⟨la,lc,kv,lcs,rfl,hls,hlc,hkv⟩,hg2⟩;have z2:=hg2.size;replace i13:=i13.grow hg2;replace i12:=i12.grow hg2;replace ins:=ins.go (Carry.grow hg2);replace inc:=inc.go (Carry.grow hg2);replace ikd:=ikd.go (Carry.grow hg2);replace hrf:=hrf.grow hg2;replace hbs:=hbs.trans (ButS.grow hg2);clear iy hg2;repeat refine aF ?_
  refine aB 120 ?_;refine aA rfl (rpages_c hrf (λ k hk=>⟨hK k oM,oM⟩) (λ k hk _=>hSl k ((hF k).1 hk).1) la nds.length lc lcs nds hls hlc hnby oM up2.kids hwa) rfl ?_;rintro _ w3 ⟨pa,pc,rfl,hps,hrf3,hbs3⟩;have z3:=hbs3.size;have cS:Carry F w2 F w3:=Carry.buts hbs3 (λ k hk _=>hSl k ((hF k).1 hk).1);replace i13:=bY i13 hbs3 (hSl _ q13w);replace i12:=bY i12 hbs3 (hSl _ oM);replace ins:=ins.go cS;replace inc:=inc.go cS;replace ikd:=ikd.go cS;have hkv3:∀ key,ks=[key]→BsAt F w3 kv key:=λ k hk=>(hkv k hk).go cS;have hps3:Sl F w3 1 pa up2.kids.length pc (bC up2.kids):=hps.mono (λ k hk=>hFk w2 oM k hk);have hbsw:=hbs.trans hbs3;clear hbs3 hbs cS hkv hps hrf hls hlc;by_cases hi0:i=0
  ·subst hi0;rw [List.drop_zero,hpu] at hpd;simp only [Option.some.injEq,Prod.mk.injEq] at hpd;obtain ⟨rfl,rfl⟩:=hpd;rcases hend with ⟨hk1,rfl⟩|⟨hk1,hwp⟩
   ·have hl1:up.kids.length=1:=by rw [hk1];rfl
    have hcx:w3.cell? (at' pa 0)=some (.int .i64 (n':Int)):=hps3.row.cell (by rw [hk1];rfl);repeat (first|(refine aH ?_;refine aC (j:=0) rfl rfl rfl oM rfl ⟨_,_,hps3⟩ rfl ?_)|refine yC ?_)
    exact fM rfl rfl ⟨_,rfl,rfl,hrf3.keep2 (Carry.mono λ k hk _=>hk.1) (λ _ _=>rfl) h.kne,hbsw⟩
   ·obtain ⟨hok,hnw⟩:=gK hwp
    obtain ⟨bk0,hbk0⟩:∃ k,ks=[k]:=by
     rcases hor with ⟨_,rfl,rfl⟩|⟨_,rfl,rfl⟩
     ·rw [hupe] at hup2l;exact absurd hup2l (by rw [hupe] at hk1;simpa using hk1)
     ·exact ⟨_,rfl⟩
    obtain ⟨kva,kvn,kvc,rfl,hkvs⟩:=hkv3 _ hbk0;repeat refine aF ?_
    refine TL.buildSlice rfl rfl rfl rfl rfl ?_;intro b' wa hga hba hsa hsb hsc;have hba':Blk wa b' 30 [.slice kva kvn kvc]:=hba;have za:=hga.size
    have hnda:NdAt F wa ⟨none,0,0,pa,up.kids.length,pc,some ⟨b',0,none⟩,1,1⟩ up:=by
     rw [hupe,hbk0];refine ⟨kJ,hps3.grow hga,⟨_,(aV (sz:=1) (m:=1) hba' rfl dM).mono (λ k hk=>by subst hk;exact hFk w2 oM _ oM),⟨_,_,_,rfl,hkvs.grow hga⟩,trivial⟩⟩
    have hkbs:eZ (dC up):=lV hok hup2.by';repeat refine aF ?_
    refine aB 110 ?_;refine aA rfl (rwrite_c (hrf3.grow hga) (λ k hk=>⟨hK k oM,oM⟩) F ⟨none,0,0,pa,up.kids.length,pc,some ⟨b',0,none⟩,1,1⟩ up hnda hok hkbs n' hnw) rfl ?_;rintro _ w6 ⟨rfl,hp6,hb6⟩;repeat refine aF ?_
    exact fM rfl rfl ⟨_,rfl,rfl,hp6.keep2 (Carry.mono λ k hk _=>hk.1) (λ _ _=>rfl) h.kne,(hbsw.trans (ButS.grow hga)).trans hb6⟩
  ·obtain ⟨f2,hf2⟩:∃ f2,fr[i-1]? = some f2:=⟨_,List.getElem?_eq_getElem oM⟩
   have fo2:=hfok f2 (List.mem_of_getElem? hf2);have hl2:=pathP_br hp (i-1) f2 hf2 oM;have hkl2:=fo2.kid hl2
   obtain ⟨ho1,ho2,ho8,ho4,_,_⟩:=cO (n:=f2.1) (by
    have hok:=fo2.ok;unfold bF at hok
    rwa [hl2] at hok)
   obtain ⟨x,hx3,hx⟩:=inc.at' (l:=fr.map (·.1)) (i:=i-1) (nd:=f2.1) (by rw [List.getElem?_map,hf2];rfl)
   have hkc:(bC (fr.dropLast.map (·.2)))[i-1]? = some (.int .i64 (f2.2:Int)):=by
    rw [show bC (fr.dropLast.map (·.2))=(fr.dropLast.map (·.2)).map λ (k:Nat)=>(.int .i64 (k:Int):Value) from rfl,List.getElem?_map,List.getElem?_map,List.getElem?_dropLast,if_pos oM,hf2];rfl
   have hn2x:=bR hx.kids;have hn3x:=hx.kys.len;have hpn:=putNode_br (up:=up2) (item:=(key,v)) (th:=th) hl2 (i:=f2.2) oM;repeat (first|(refine aH ?_;refine aC (j:=i-1) rfl rfl rfl oM rfl ⟨_,_,ins⟩ rfl ?_)|(refine aO ?_;refine dR rfl ins (three_at hx3) rfl rfl ?_)|refine yC ?_|refine yJ λ w' hu hbk hsz=>?_)
   obtain ⟨w4,rfl⟩:=yE w';have cU:Carry F w3 F w4:=Carry.upd hu (λ k hk _=>((hF k).1 hk).2);have i13':Blk w4 b13 79 x.cs:=hbk;replace i12:=i12.upd hu oM;replace ins:=ins.go cU;replace inc:=inc.go cU;replace ikd:=ikd.go cU;have hx4:=hx.go cU;have hps4:=hps3.go cU;have hkv4:∀ key,ks=[key]→BsAt F w4 kv key:=λ k hk=>(hkv3 k hk).go cU;have hrf4:=hrf3.upd hu (.inl (λ hh=>hh.2 rfl)) oM;have hbs4:=hbsw.upd hu oM;have z4:=hu.size;clear hbk hu hx hps3 hkv3 hrf3 hbsw cU i13 hsz;have hup22:=hup2.two;have hup2k:=hup2.ks;have hcx:w4.cell? (at' b2 (i-1))=some (.int .i64 (f2.2:Int)):=ikd.row.cell hkc;repeat (first|(refine aH ?_;refine aC (j:=i-1) rfl rfl rfl oM (Nat.mul_one _) ⟨_,_,ikd⟩ rfl ?_)|refine yC ?_)
   refine aB 111 ?_;refine aA rfl (rkidsN_c (F:=F) (G:=F) (hFk _ oM) x.a2 pa x.n2 x.c2 up2.kids.length pc f2.2 (f2.2+1) f2.1.kids up2.kids hx4.kids hps4 oM oM oM) rfl ?_;rintro _ w5 ⟨⟨qa,qc,rfl,hq⟩,hg5⟩;have z5:=hg5.size;replace i13':=i13'.grow hg5;replace i12:=i12.grow hg5;replace ins:=ins.go (Carry.grow hg5);replace inc:=inc.go (Carry.grow hg5);replace ikd:=ikd.go (Carry.grow hg5);have hx5:=hx4.go (Carry.grow hg5);have hkv5:∀ key,ks=[key]→BsAt F w5 kv key:=λ k hk=>(hkv4 k hk).go (Carry.grow hg5);have hrf5:=hrf4.grow hg5;have hbs5:=hbs4.trans (ButS.grow hg5);clear hx4 hps4 hkv4 hrf4 hbs4 hg5 hcx;repeat (first|refine aF ?_|refine yJ λ w' hu hbk hsz=>?_)
   have i13:Blk w' b13 79 [x.v1,.slice qa (f2.2+up2.kids.length+(x.n2-(f2.2+1))) qc,x.v3]:=hbk;obtain ⟨w6,rfl⟩:=yE w';have cU:Carry F w5 F w6:=Carry.upd hu (λ k hk _=>((hF k).1 hk).2);replace i12:=i12.upd hu oM;replace ins:=ins.go cU;replace inc:=inc.go cU;replace ikd:=ikd.go cU;have hx6:=hx5.go cU;have hq6:=hq.go cU;have hkv6:∀ key,ks=[key]→BsAt F w6 kv key:=λ k hk=>(hkv5 k hk).go cU;have hrf6:=hrf5.upd hu (.inl (λ hh=>hh.2 rfl)) oM;have hbs6:=hbs5.upd hu oM;have z6:=hu.size;clear hbk hu hx5 hq hkv5 hrf5 hbs5 cU i13' hsz;have hup2k':up2.keys=ks:=by rw [hupe]
   have hpd2:mL (key,v) th (fr.drop (i-1+1)) g=some (up2,g2):=by rw [show i-1+1=i by omega];exact hpd
   by_cases h2:up2.kids.length=2
   ·obtain ⟨bk0,hbk0⟩:∃ k,ks=[k]:=by
     rw [h2,hup2k'] at hup2l
     match ks,hup2l with
     | [k],_=>exact ⟨k,rfl⟩
    obtain ⟨kva,kvn,kvc,rfl,hkvs⟩:=hkv6 _ hbk0;repeat refine aF ?_
    refine TL.buildSlice rfl rfl rfl rfl rfl ?_;intro b' wa hga hba hsa hsb hsc;have hba':Blk wa b' 30 [.slice kva kvn kvc]:=hba;have za:=hga.size;have hky:KysAt F wa (some ⟨b',0,none⟩) 1 1 [bk0]:=⟨_,(aV (sz:=1) (m:=1) hba' rfl dM).mono (λ k hk=>by subst hk;exact hFk w6 oM _ oM),⟨_,_,_,rfl,hkvs.grow hga⟩,trivial⟩
    have hkx:=hx6.kys.go (Carry.grow hga);replace i13:=i13.grow hga;repeat refine aF ?_
    refine aB 121 ?_;refine aA rfl (rkeysK_c (F:=F) (hFk _ oM) x.a3 (some ⟨b',0,none⟩) x.n3 x.c3 1 1 f2.2 f2.2 f2.1.keys [bk0] hkx hky oM oM oM) rfl ?_;rintro _ wb ⟨⟨ra,rc,rfl,hr⟩,hgb⟩;have zb:=hgb.size;have hgab:=hga.trans hgb;replace i13:=i13.grow hgb;clear hba hba' hky hkx hga hgb;repeat (first|refine aF ?_|refine yJ λ w' hu hbk hsz=>?_)
    have cW:Carry F w6 F w':=(Carry.grow hgab).trans (Carry.upd hu (λ k hk _=>((hF k).1 hk).2));have cV:Carry F wb F w':=Carry.upd hu (λ k hk _=>((hF k).1 hk).2);have zu:=hu.size;refine aE (i-1,⟨x.a1,x.n1,x.c1,qa,f2.2+up2.kids.length+(x.n2-(f2.2+1)),qc,ra,f2.2+1+(x.n3-f2.2),rc⟩,cP f2.1 f2.2 up2 (key,v) th,g2) ⟨rfl,rfl,rfl,rfl,trivial⟩ ⟨by simp only;omega,⟨f2,up2,hf2,hpd2,hup2,λ _=>hup2l,rfl⟩,hbk,?_,(i12.grow hgab).upd hu oM,ins.go cW,inc.go cW,ikd.go cW,(hrf6.grow hgab).upd hu (.inl (λ hh=>hh.2 rfl)) oM,(hbs6.trans (ButS.grow hgab)).upd hu oM,oM⟩ (by simp only;omega);rw [hpn,hup2k',hbk0];exact ⟨hx6.its.go cW,hq6.go cW,hr.go cV⟩
   ·have hk0:up2.keys=[]:=by
     rcases hor with ⟨_,_,rfl⟩|⟨_,rfl,rfl⟩
     ·exact hup2k'
     ·rw [hup2k'] at hup2l;simp only [List.length_cons,List.length_nil] at hup2l;omega
    repeat refine aF ?_
    refine aE (i-1,⟨x.a1,x.n1,x.c1,qa,f2.2+up2.kids.length+(x.n2-(f2.2+1)),qc,x.a3,x.n3,x.c3⟩,cP f2.1 f2.2 up2 (key,v) th,g2) ⟨rfl,rfl,rfl,rfl,trivial⟩ ⟨by simp only;omega,⟨f2,up2,hf2,hpd2,hup2,λ _=>hup2l,rfl⟩,i13,?_,i12,ins,inc,ikd,hrf6,hbs6,oM⟩ (by simp only;omega);rw [hpn,hk0,List.append_nil,List.take_append_drop];exact ⟨hx6.its,hq6,hx6.kys⟩
theorem rput_bad {w:World} (p:Nat) (root:Option Nat) (hrr:∀ n,root=some n→n<9223372036854775808) (G G':Nat→Prop) (a a':Option Addr) (m c m' c':Nat) (key v:Bs) (hk:Sl G w 1 a m c (bB key)) (hv:Sl G' w 1 a' m' c' (bB v)) (hb:(eF key&&fC v)=false) :
  Calls Tryz.prog 37 #[.pointer (some ⟨p,0,none⟩),.int .i64 (dZ root),.slice a m c,.slice a' m' c'] w (Ret λ u w'=>u=.tuple #[.int .i64 0,.int .i64 2]∧Grow w w'):=by
 have hm:m=key.length:=by have:=hk.len;rw [bB,List.length_map] at this;omega
 have hm':m'=v.length:=by have:=hv.len;rw [bB,List.length_map] at this;omega
 refine V.calls (args:=[_,_,_,_]) Tryz.func37 rfl Tryz.ntmps37 rfl rfl ?_
 cases hko:eF key with
 | false =>
  repeat (first|(refine aB 104 ?_;refine aA rfl (rbegin_c p root hrr _) rfl ?_;rintro _ _ ⟨rfl,rfl⟩)|(refine aB 105 ?_;refine aA rfl (rkey_c a _ c key false _ hko hm) rfl ?_;rintro _ _ ⟨rfl,rfl⟩)|refine yC ?_)
  exact fM rfl rfl ⟨_,rfl,rfl,Grow.refl _⟩
 | true =>
  have hvo:fC v=false:=by rw [hko] at hb;simpa using hb
  repeat (first|(refine aB 104 ?_;refine aA rfl (rbegin_c p root hrr _) rfl ?_;rintro _ _ ⟨rfl,rfl⟩)|(refine aB 105 ?_;refine aA rfl (rkey_c a _ c key true _ hko hm) rfl ?_;rintro _ _ ⟨rfl,rfl⟩)|(refine aB 118 ?_;refine aA rfl (rvalue_c a' _ c' v false _ hvo hm') rfl ?_;rintro _ _ ⟨rfl,rfl⟩)|refine yC ?_)
  exact fM rfl rfl ⟨_,rfl,rfl,Grow.refl _⟩
theorem TrAt.rlt {g:Pg} {root:Option Nat} {lv:Nat} {l:bT} {ps:List Nat} (ht:TrAt g root lv l ps) (hok:PgOk g):∀ n,root=some n→n<9223372036854775808:=λ n e=>by
 subst e;have:=dW (ht.root_used n rfl);have:=hok.cnt;omega
theorem both_det {g:Pg} (hok:PgOk g) {root:Option Nat} {lv:Nat} {l:bT} {ps:List Nat} (ht:TrAt g root lv l ps) (hlv:lv≤15) (hsp:32≤cR g) (key v:Bs) (hkb:eZ key) (hvb:eZ v):∃ (x e:Int) (root':Option Nat) (g':Pg) (lv':Nat) (l':bT) (ps':List Nat),
  (((eF key&&fC v)=true∧e=0∧x=dZ root'∧l'=gW key v l)∨((eF key&&fC v)=false∧e=2∧x=0∧root'=root∧g'=g∧l'=l∧lv'=lv))∧Ext g g'∧PgOk g'∧TrAt g' root' lv' l' ps' ∧
  (∀ {w:World} {L:PL},PgW w L g→∀ (a a':Option Addr) (m c m' c':Nat),Sl (λ k=>¬ L.S k) w 1 a m c (bB key)→Sl (λ k=>¬ L.S k) w 1 a' m' c' (bB v) →
   Calls Tryz.prog 25 #[.pointer (some ⟨L.p,0,none⟩),.int .i64 (dZ root),.slice a m c,.slice a' m' c'] w (Ret λ u w'=>u=.tuple #[.int .i64 x,.int .i64 e]∧PgW w' L g'∧ButS L.S w w')) ∧
  ∀ {K G G':Nat→Prop} {w:World} {R:RL},RfAt K w R g→(∀ k,w.heap.size≤k→K k)→∀ (a a':Option Addr) (m c m' c':Nat),Sl G w 1 a m c (bB key)→Sl G' w 1 a' m' c' (bB v) →
   Calls Tryz.prog 37 #[.pointer (some ⟨R.p,0,none⟩),.int .i64 (dZ root),.slice a m c,.slice a' m' c'] w (Ret λ u w'=>u=.tuple #[.int .i64 x,.int .i64 e]∧RfAt K w' R g'∧ButS R.S w w'):=by
 cases hb:eF key&&fC v with
 | false =>
  refine ⟨0,2,root,g,lv,l,ps,.inr ⟨rfl,rfl,rfl,rfl,rfl,rfl,rfl⟩,Ext.refl _,hok,ht,λ h a a' m c m' c' hk hv=>Calls.mono (put_bad h.at_ root ht.root_used a a' m c m' c' key v hk hv hb) λ y w' hy=>hy.mono λ u w' ⟨hu,hg⟩=>⟨hu,h.grow hg,ButS.grow hg⟩,λ h hK a a' m c m' c' hk hv=>Calls.mono (rput_bad _ root (ht.rlt hok) _ _ a a' m c m' c' key v hk hv hb) λ y w' hy=>hy.mono λ u w' ⟨hu,hg⟩=>⟨hu,h.grow hg,ButS.grow hg⟩⟩
 | true =>
  obtain ⟨hko,hvo⟩:=Bool.and_eq_true_iff.1 hb;obtain ⟨n,g',lv',ps',e1,e2,e3,e4,e5,e6,e7⟩:=put_tr hok ht hko hvo oM oM;exact ⟨_,0,some n,g',lv',_,ps',.inl ⟨rfl,rfl,rfl,rfl⟩,e2,e3,e4,λ h a a' m c m' c' hk hv=>Calls.mono (put_c h.at_ h.tab h.ne0 root a a' m c m' c' key v hk hv hko hvo hkb hvb hsp n e1) λ y w' hy=>hy.mono λ u w' ⟨hu,hp,hb⟩=>⟨hu,h.put hp hb,hb⟩,λ h hK a a' m c m' c' hk hv=>rput_c h hK root _ _ a a' m c m' c' key v hk hv hko hvo hkb hvb hsp n e1⟩
def putL (l:bT) (x:Bs×Bs):bT:=if eF x.1&&fC x.2 then gW x.1 x.2 l else l
def hX (l:bT):bT:=l.foldl putL []
theorem putL_len (l:bT) (x:Bs×Bs):(putL l x).length≤l.length+1:=by
 unfold putL;split
 ·exact (insI_len _ _ l).2
 ·omega
theorem foldl_len (l:bT):∀ (acc:bT),(l.foldl putL acc).length≤acc.length+l.length:=by
 induction l with
 | nil=>intro acc;simp
 | cons x r ih=>intro acc;have:=ih (putL acc x);have:=putL_len acc x;simp only [List.foldl_cons,List.length_cons];omega
structure Pl (w:World) (B:Nat) (L:PL) (R:RL) (g:Pg):Prop where
 pw:PgW w L g
 rf:RfAt (λ k=>¬ L.S k∧¬ R.S k) w R g
 lB:∀ k,k=L.p∨k=L.d∨k=L.u∨k=L.m→B≤k
 rB:∀ k,k=R.p∨k=R.d∨k=R.c∨k=R.u→B≤k
 dj:∀ k,k=R.p∨k=R.d∨k=R.c∨k=R.u→¬ L.S k
 dj2:∀ k,k=L.p∨k=L.d∨k=L.u∨k=L.m→¬ R.S k
 r0:¬ R.S 0
theorem Pl.grow {w w':World} {B:Nat} {L:PL} {R:RL} {g:Pg} (h:Pl w B L R g) (gr:Grow w w'):Pl w' B L R g:=⟨h.pw.grow gr,h.rf.grow gr,h.lB,h.rB,h.dj,h.dj2,h.r0⟩
theorem Pl.lS {w:World} {B:Nat} {L:PL} {R:RL} {g:Pg} (h:Pl w B L R g) {k:Nat} (hk:L.S k):B≤k∧k<w.heap.size:=by
 have:=h.pw.at_.lts;unfold PL.S at hk;rcases hk with rfl|rfl|rfl
 ·exact ⟨h.lB _ sM,oM⟩
 ·exact ⟨h.lB _ sM,oM⟩
 ·exact ⟨h.lB _ sM,oM⟩
theorem Pl.rS {w:World} {B:Nat} {L:PL} {R:RL} {g:Pg} (h:Pl w B L R g) {k:Nat} (hk:R.S k):B≤k∧k<w.heap.size:=by
 have:=h.rf.lts;unfold RL.S at hk;rcases hk with rfl|rfl|rfl
 ·exact ⟨h.rB _ sM,oM⟩
 ·exact ⟨h.rB _ sM,oM⟩
 ·exact ⟨h.rB _ sM,oM⟩
theorem Pl.keeps {w w1 w2:World} {B:Nat} {L L':PL} {R:RL} {g:Pg} {u:Nat} {qs:List Nat} (h:Pl w B L R g) (hB:B≤w.heap.size) (e1:L'.p=L.p) (e2:L'.d=L.d) (e3:L'.m=L.m) (e5:w.heap.size≤L'.u) (pg:PgAt w1 L' (jJ g qs)) (b1:ButS (λ k=>k=L.p) w w1) (hu:w1.heap.size≤u) (b2:ButS (λ k=>k=R.p) w1 w2)
  (hr:RfAt (λ k=>(¬ L'.S k∧¬ R.S k)∧k≠u) w2 ⟨R.p,R.d,R.b,R.c,u⟩ (jJ g qs)):Pl w2 B L' ⟨R.p,R.d,R.b,R.c,u⟩ (jJ g qs):=by
 have z1:=b1.size;have hl:=h.pw.at_.lts;have hr0:=h.rf.lts;have hu1:=pg.lts;have h0:=h.pw.tab.1;have nL:∀ x,(x=R.p∨x=R.d∨x=R.c)→x<w.heap.size∧(x=L'.m→False)∧(x=L'.p→False):=λ x hx=>⟨oM,λ e=>h.dj x (by rcases hx with h|h|h<;>simp [h]) (by unfold PL.S;rw [e,e3];simp),λ e=>h.dj x (by rcases hx with h|h|h<;>simp [h]) (by unfold PL.S;rw [e,e1];simp)⟩
 have nR:∀ x,(x=L'.p∨x=L'.d∨x=L'.m)→x<w.heap.size∧(x=R.p→False)∧(x=R.c→False):=λ x hx=>⟨oM,λ e=>h.dj2 x (by rw [← e1,← e2,← e3];rcases hx with h|h|h<;>simp [h]) (by unfold RL.S;simp [e]),λ e=>h.dj2 x (by rw [← e1,← e2,← e3];rcases hx with h|h|h<;>simp [h]) (by unfold RL.S;simp [e])⟩
 have n0:¬ L'.S 0:=λ e=>by
  unfold PL.S at e;rcases e with e|e|e
  ·omega
  ·exact h.pw.ne0 (by unfold PL.S;rw [← e3];simp [e])
  ·exact h.pw.ne0 (by unfold PL.S;rw [← e1];simp [e])
 have r0:0≠R.p∧0≠R.c:=⟨λ e=>h.r0 (by unfold RL.S;simp [e]),λ e=>h.r0 (by unfold RL.S;simp [e])⟩
 have hl2:=hr.lts;simp only at hl2;refine ⟨(⟨pg,h.pw.tab.buts b1 (λ e=>h.pw.ne0 (by unfold PL.S;simp [e])),n0⟩:PgW w1 L' (jJ g qs)).other b2 (λ k hk e=>?_) r0.1,hr.keep2 (Carry.mono λ k hk _=>⟨hk.1.1,λ e=>?_⟩) (λ _ _=>rfl) (λ k hk=>hk.2),λ k hk=>?_,λ k hk=>?_,λ k hk e=>?_,λ k hk e=>?_,λ e=>?_⟩
 ·rcases hk with hk|hk|hk|hk
  ·exact (nR k (by simp [hk])).2.1 e
  ·exact (nR k (by simp [hk])).2.1 e
  ·omega
  ·exact (nR k (by simp [hk])).2.1 e
 ·have h1:=hk.1.2;unfold RL.S at e h1;simp only at e;rcases e with e|e|e
  ·exact h1 (.inl e)
  ·exact h1 (.inr (.inl e))
  ·exact hk.2 e
 ·rcases hk with hk|hk|hk|hk
  ·exact h.lB k (by simp [hk,e1])
  ·exact h.lB k (by simp [hk,e2])
  ·omega
  ·exact h.lB k (by simp [hk,e3])
 ·simp only at hk;rcases hk with hk|hk|hk|hk
  ·exact h.rB k (by simp [hk])
  ·exact h.rB k (by simp [hk])
  ·exact h.rB k (by simp [hk])
  ·omega
 ·simp only at hk;unfold PL.S at e;by_cases hku:k=u
  ·omega
  ·obtain ⟨a1,a2,a3⟩:=nL k oM;rcases e with e|e|e
   ·omega
   ·exact a2 e
   ·exact a3 e
 ·unfold RL.S at e;simp only at e;by_cases hku:k=L'.u
  ·omega
  ·obtain ⟨a1,a2,a3⟩:=nR k oM;rcases e with e|e|e
   ·exact a2 e
   ·exact a3 e
   ·omega
 ·unfold RL.S at e;simp only at e;rcases e with e|e|e
  ·exact r0.1 e
  ·exact r0.2 e
  ·omega
theorem planted_c {F0:Nat→Prop} {w:World} {a:Option Addr} {n c:Nat} {l:bT} (htab:TabAt w) (h0:ItsAt F0 w a n c l) (hby:∀ x∈l,eZ x.1∧eZ x.2) (hl60:l.length≤60) (hlen:∀ x∈l,x.1.length≤100∧x.2.length≤100) :
  Calls Tryz.prog 53 #[.slice a n c] w (Ret λ v w'=>∃ L R root g lv ps,v=.tuple #[.pointer (some ⟨L.p,0,none⟩),.pointer (some ⟨R.p,0,none⟩),.int .i64 (dZ root),.bool true]∧Pl w' w.heap.size L R g∧g.count=200∧32≤cR g∧TrAt g root lv (hX l) ps∧lv≤4∧Grow w w'):=by
 obtain ⟨F,hF⟩:∃ F:Nat→Prop,∀ k,F k↔k<w.heap.size:=⟨_,λ _=>Iff.rfl⟩
 have hits:ItsAt F w a n c l:=⟨_,(h0.ex.choose_spec.1).go (Carry.mono λ k _ hl=>(hF k).2 hl),h0.ex.choose_spec.2.go (Carry.mono λ k _ hl=>(hF k).2 hl)⟩
 clear h0;have hnl:=hits.len;subst hnl;have h0w:0<w.heap.size:=htab.1;refine V.calls (args:=[_]) Tryz.func53 rfl Tryz.ntmps53 rfl rfl ?_;repeat refine aF ?_
 refine aB 67 ?_;refine aA rfl (dnew_c (2*200) w oM oM) rfl ?_;rintro _ w1 ⟨d,s,m,rfl,hd,hm,hdk,hg1⟩;have z1:=hg1.size;have zd:d<w1.heap.size∧m<w1.heap.size:=⟨hdk.blk.lt,hdk.map.lt⟩
 repeat refine aF ?_
 refine aB 31 ?_;refine aA rfl (rdisk_c (2*200) w1 oM oM) rfl ?_;rintro _ w2 ⟨rd,rb,rc,rfl,hrd,hrb,hrc,hbd,hbc,hg2⟩;have z2:=hg2.size;have zr:rd<w2.heap.size∧rc<w2.heap.size:=⟨hbd.lt,hbc.lt⟩
 have hdc:rd≠rc:=by
  rintro rfl;unfold Blk at hbd hbc;rw [hbd] at hbc;injection (Option.some.inj hbc) with h1 h2 h3;revert h2
  decide
 repeat refine aF ?_
 refine aB 32 ?_;refine aA rfl (ropen_c 200 rd rb rc w2 oM oM hbd hbc hdc) rfl ?_;rintro _ w3 ⟨rp,ru,rfl,hrp,hru,hrf,hg3⟩;have z3:=hg3.size;have hrf0:=hrf (λ k=>¬ RL.S ⟨rp,rd,rb,rc,ru⟩ k) (λ k hk=>hk);have zr3:=hrf0.lts;simp only at zr3;repeat refine aF ?_
 refine aB 68 ?_;refine aA rfl (open_c (hdk.grow (hg2.trans hg3)) oM oM) rfl ?_;rintro _ w4 ⟨L,rfl,hLd,hLm,hLp,hLu,hpg,hg4⟩;have z4:=hg4.size;have hgw:=((hg1.trans hg2).trans hg3).trans hg4;have zL:=hpg.lts;have hpl:Pl w4 w.heap.size L ⟨rp,rd,rb,rc,ru⟩ (pg0 200):=⟨⟨hpg,htab.keep (hgw.block 0 htab.1) hgw.size,λ h=>by unfold PL.S at h;omega⟩,(hrf _ (λ k hk=>hk.2)).grow hg4,λ b hb=>by omega,λ b hb=>by simp only at hb;omega,λ k hk=>by unfold PL.S;simp only at hk;omega,λ k hk=>by unfold RL.S;simp only;omega,λ h=>by unfold RL.S at h;simp only at h;omega⟩
 repeat refine aF ?_
 refine aX (S:=Nat×Option Nat×Pg×PL×RL) (λ q=>[(15,.int .i64 (q.1:Int)),(14,.int .i64 (dZ q.2.1)),(13,.int .i64 (dZ q.2.1)),(12,.pointer (some ⟨q.2.2.2.1.p,0,none⟩)),(10,.pointer (some ⟨q.2.2.2.2.p,0,none⟩)),(0,.slice a l.length c)])
  (λ q w1=>q.1≤l.length∧Pl w1 w.heap.size q.2.2.2.1 q.2.2.2.2 q.2.2.1∧q.2.2.1.count=200∧32≤cR q.2.2.1∧Grow w w1∧∃ lv ps,TrAt q.2.2.1 q.2.1 lv (hX (l.take q.1)) ps) (λ q=>l.length-q.1) (0,none,pg0 200,L,⟨rp,rd,rb,rc,ru⟩) ⟨rfl,rfl,rfl,rfl,rfl,rfl,trivial⟩
  ⟨Nat.zero_le _,hpl,rfl,by simp only [spare_pg0];omega,hgw,0,[],⟨rfl,rfl,rfl⟩⟩ ?_
 clear hpl hgw hrf hrf0 hdk hbd hbc hpg hg1 hg2 hg3 hg4 z1 z2 z3 z4 zd zr zr3 zL hd hm hrd hrb hrc hrp hru hLd hLm hLp hLu hdc;clear L w1 w2 w3 w4 d s m rd rb rc rp ru;rintro ⟨i,root,g,L,R⟩ v1 ⟨hi,hp,hcnt,hsp,hgv,lv,ps,htr⟩;simp only at hi hp hcnt hsp htr
 have hpl1:(hX (l.take i)).length≤i:=by
  have:=foldl_len (l.take i) [];rw [List.length_take,List.length_nil] at this;unfold hX;omega
 have hlv:lv≤4:=htr.levels (k:=4) oM oM;have hrl:=htr.rlt hp.pw.at_.ok;have zv:=hgv.size;by_cases hlt:i<l.length;rotate_left
 ·obtain rfl:i=l.length:=by omega
  rw [List.take_length] at htr;repeat refine aF ?_
  refine eB (vs:=[_,_,_,_]) ⟨_,_,rfl,rfl,_,_,rfl,rfl,_,_,rfl,rfl,_,[],rfl,rfl,rfl⟩ rfl ⟨_,rfl,L,R,root,g,lv,ps,rfl,hp,hcnt,hsp,htr,hlv,hgv⟩
 obtain ⟨x,hx⟩:∃ x,l[i]? = some x:=⟨_,List.getElem?_eq_getElem hlt⟩
 have hxm:=List.mem_of_getElem? hx;obtain ⟨hb1,hb2⟩:=hby x hxm;obtain ⟨hx1,hx2⟩:=hlen x hxm;obtain ⟨cs,his,hic⟩:=hits.ex;obtain ⟨kv,vv,f0,f1,hbk,hbv⟩:=hic.at' hx;obtain ⟨ka,kc,rfl,hks⟩:=hbk.sl;obtain ⟨va,vc,rfl,hvs⟩:=hbv.sl;have g1:cs[i*2]? = some (.slice ka x.1.length kc):=by rw [Nat.mul_comm];exact f0
 have g2:cs[i*2+1]? = some (.slice va x.2.length vc):=by rw [Nat.mul_comm];exact f1
 obtain ⟨xv,e,root',g',lv',its',ps',hor,hex,hok',htr',hput,hrput⟩:=both_det hp.pw.at_.ok htr oM hsp x.1 x.2 hb1 hb2;have his1:=his.go (Carry.grow hgv);have hks1:=hks.go (Carry.grow hgv);have hvs1:=hvs.go (Carry.grow hgv);have hF1:∀ k,F k→¬ L.S k:=λ k hk e=>by have:=(hp.lS e).1;have:=(hF k).1 hk;omega
 have hF2:∀ k,F k→¬ R.S k:=λ k hk e=>by have:=(hp.rS e).1;have:=(hF k).1 hk;omega
 have hn1:∀ k,v1.heap.size≤k→¬ L.S k:=λ k hk e=>by have:=(hp.lS e).2;omega
 have hstep:hX (l.take (i+1))=putL (hX (l.take i)) x:=by
  unfold hX;rw [List.take_add_one,hx,Option.toList_some,List.foldl_append];rfl
 have hits':its'=hX (l.take (i+1)):=by
  rw [hstep];unfold putL;rcases hor with ⟨h1,_,_,h2⟩|⟨h1,_,_,_,_,h2,_⟩
  ·rw [if_pos h1];exact h2
  ·rw [if_neg (by rw [h1];simp)];exact h2
 rw [hits'] at htr';repeat refine aF ?_
 apply nC (ButS L.S) 20 14 (λ wq=>PgW wq L g∧Grow v1 wq) (λ wq=>PgW wq L g'∧ButS L.S v1 wq) (λ wq=>ButS L.S v1 wq)
  [gZ (.pointer (some ⟨L.p,0,none⟩)),gZ (.int .i64 (dZ root)),gZ (.slice a l.length c),gZ (.int .i64 (i:Int)),gZ (.pointer (some (at' a (i*2)))),gZ (.pointer (some (at' a (i*2+0)))),gZ (.slice ka x.1.length kc),ownS v1.heap.size 5 1 x.1.length (bB x.1) hn1,
   gZ (.slice a l.length c),gZ (.int .i64 (i:Int)),gZ (.pointer (some (at' a (i*2)))),gZ (.pointer (some (at' a (i*2+1)))),gZ (.slice va x.2.length vc),ownS v1.heap.size 5 1 x.2.length (bB x.2) hn1,
   gZ (.tuple #[.int .i64 xv,.int .i64 e]),gZ (.tuple #[.int .i64 xv,.int .i64 e]),gZ (.int .i64 xv),gZ (.int .i64 e),gZ (.int .i64 xv),gZ (.int .i64 e)]
 ·kernel_rfl
 ·exact ⟨hp.pw,Grow.refl _⟩
 ·exact λ _ h=>ButS.grow h.2
 ·exact λ _ h=>h.2
 ·exact λ _ h=>h.size
 ·exact λ _ _ h g=>⟨h.1.grow g,h.2.trans g⟩
 ·exact λ _ _ h g=>⟨h.1.grow g,h.2.trans (ButS.grow g)⟩
 ·exact λ _ _ h=>h.size
 ·repeat' (first|exact iN|refine gU ?_ ?_)
  iterate 7
   ·refine dA rfl rfl rfl rfl ?_;intro wq _ _ hiw;(refine yU ?_)
    have hsq:=his1.go (Carry.buts hiw λ k hk _=>hF1 k hk);have hc1:wq.cell? (at' a (i*2))=some (.slice ka x.1.length kc):=hsq.row.cell g1;have hc2:wq.cell? (at' a (i*2+1))=some (.slice va x.2.length vc):=hsq.row.cell g2;repeat (first|(refine aH ?_;refine aC (j:=i) rfl rfl rfl oM rfl ⟨_,_,hsq⟩ rfl ?_)|(refine bK ?_;refine bJ (o:=i*2) rfl hsq g1 rfl ?_)|refine yC ?_)
    exact bQ rfl (Grow.refl _) rfl
  ·refine dA rfl rfl rfl rfl ?_;intro wq _ _ hiw;(refine yU ?_)
   refine aB 20 ?_;refine aA rfl (own_c _ ka x.1.length kc x.1 _ (hks1.go (Carry.buts hiw λ k hk _=>hF1 k hk)) oM) rfl ?_;rintro vk v7 ⟨hown7,hg7⟩;repeat refine aF ?_
   exact bQ rfl hg7 (eC hown7 hiw.size)
  iterate 5
   ·refine dA rfl rfl rfl rfl ?_;intro wq _ _ hiw;(refine yU ?_)
    have hsq:=his1.go (Carry.buts hiw λ k hk _=>hF1 k hk);have hc1:wq.cell? (at' a (i*2))=some (.slice ka x.1.length kc):=hsq.row.cell g1;have hc2:wq.cell? (at' a (i*2+1))=some (.slice va x.2.length vc):=hsq.row.cell g2;repeat (first|(refine aH ?_;refine aC (j:=i) rfl rfl rfl oM rfl ⟨_,_,hsq⟩ rfl ?_)|(refine bK ?_;refine bJ (o:=i*2) rfl hsq g1 rfl ?_)|refine yC ?_)
    exact bQ rfl (Grow.refl _) rfl
  ·refine dA rfl rfl rfl rfl ?_;intro wq _ _ hiw;(((repeat (refine needA_cons rfl rfl ?_;intro vq hvq;try (obtain rfl:=Eq.symm hvq)));(refine needA_nil ?_)))
   refine aB 20 ?_;refine aA rfl (own_c _ va x.2.length vc x.2 _ (hvs1.go (Carry.buts hiw λ k hk _=>hF1 k hk)) oM) rfl ?_;rintro vk v7 ⟨hown7,hg7⟩;repeat refine aF ?_
   exact bQ rfl hg7 (eC hown7 hiw.size)
  ·refine iM rfl rfl rfl rfl ?_;intro wq _ _ hiw;refine needA_cons rfl rfl ?_;intro vq1 hvq1
   refine needA_cons rfl rfl ?_;intro vq2 hvq2
   refine needA_cons rfl rfl ?_;intro vq3 hvq3
   refine needA_cons rfl rfl ?_;intro vq4 hvq4
   refine needA_nil ?_;obtain rfl:=Eq.symm hvq1;obtain rfl:=Eq.symm hvq2;have ho3:wq.ownsRow v1.heap.size 5 1 vq3 x.1.length (bB x.1):=hvq3;have ho4:wq.ownsRow v1.heap.size 5 1 vq4 x.2.length (bB x.2):=hvq4;obtain ⟨a3,c3,rfl,hs3⟩:=aM ho3;obtain ⟨a4,c4,rfl,hs4⟩:=aM ho4;refine aB 25 ?_;refine aA rfl (hput hiw.1 a3 a4 x.1.length c3 x.2.length c4 (hs3.mono λ k hk=>hn1 k hk.1) (hs4.mono λ k hk=>hn1 k hk.1)) rfl ?_;rintro _ v8 ⟨rfl,hp8,hb8⟩;repeat refine aF ?_
   exact bQ rfl ⟨hb8,hp8,(ButS.grow hiw.2).trans hb8⟩ rfl
  iterate 5
   ·refine dA rfl rfl rfl rfl ?_;intro wq _ _ hiw;(first|refine yU ?_|((repeat (refine needA_cons rfl rfl ?_;intro vq hvq;try (obtain rfl:=Eq.symm hvq)));(refine needA_nil ?_)))
    have hsq:=his1.go (Carry.buts hiw λ k hk _=>hF1 k hk);have hc1:wq.cell? (at' a (i*2))=some (.slice ka x.1.length kc):=hsq.row.cell g1;have hc2:wq.cell? (at' a (i*2+1))=some (.slice va x.2.length vc):=hsq.row.cell g2;repeat (refine yC ?_)
    exact bQ rfl (Grow.refl _) rfl
 ·rintro v2 lo hi2 ⟨hp2,hbs2⟩ _ _;(((repeat (refine needA_cons rfl rfl ?_;intro vq hvq;try (obtain rfl:=Eq.symm hvq)));(refine needA_nil ?_)))
  have hgL:∀ k,L.S k→w.heap.size≤k:=λ k hk=>(hp.lS hk).1;have hgR:∀ k,R.S k→w.heap.size≤k:=λ k hk=>(hp.rS hk).1;have hgv2:Grow w v2:=iE hgv hbs2 hgL;have z2:=hbs2.size;have hrf2:=hp.rf.buts hbs2 (λ k hk=>hk.1) hp.dj;have his2:=his.go (Carry.grow hgv2);have hks2:=hks.go (Carry.grow hgv2);have hvs2:=hvs.go (Carry.grow hgv2);repeat refine aF ?_
  apply nC (ButS R.S) 18 12 (λ wq=>RfAt (λ k=>¬ L.S k∧¬ R.S k) wq R g∧Grow v2 wq) (λ wq=>RfAt (λ k=>¬ L.S k∧¬ R.S k) wq R g'∧ButS R.S v2 wq) (λ wq=>ButS R.S v2 wq)
   [gZ (.pointer (some ⟨R.p,0,none⟩)),gZ (.int .i64 (dZ root)),gZ (.slice a l.length c),gZ (.int .i64 (i:Int)),gZ (.pointer (some (at' a (i*2)))),gZ (.pointer (some (at' a (i*2+0)))),gZ (.slice ka x.1.length kc),
    gZ (.slice a l.length c),gZ (.int .i64 (i:Int)),gZ (.pointer (some (at' a (i*2)))),gZ (.pointer (some (at' a (i*2+1)))),gZ (.slice va x.2.length vc),
    gZ (.tuple #[.int .i64 xv,.int .i64 e]),gZ (.tuple #[.int .i64 xv,.int .i64 e]),gZ (.int .i64 xv),gZ (.int .i64 e),gZ (.int .i64 xv),gZ (.int .i64 e)]
  ·kernel_rfl
  ·exact ⟨hrf2,Grow.refl _⟩
  ·exact λ _ h=>ButS.grow h.2
  ·exact λ _ h=>h.2
  ·exact λ _ h=>h.size
  ·exact λ _ _ h g=>⟨h.1.grow g,h.2.trans g⟩
  ·exact λ _ _ h g=>⟨h.1.grow g,h.2.trans (ButS.grow g)⟩
  ·exact λ _ _ h=>h.size
  ·repeat' (first|exact iN|refine gU ?_ ?_)
   iterate 12
    ·refine dA rfl rfl rfl rfl ?_;intro wq _ _ hiw;(refine yU ?_)
     have hsq:=his2.go (Carry.buts hiw λ k hk _=>hF2 k hk);have hc1:wq.cell? (at' a (i*2))=some (.slice ka x.1.length kc):=hsq.row.cell g1;have hc2:wq.cell? (at' a (i*2+1))=some (.slice va x.2.length vc):=hsq.row.cell g2;repeat (first|(refine aH ?_;refine aC (j:=i) rfl rfl rfl oM rfl ⟨_,_,hsq⟩ rfl ?_)|(refine bK ?_;refine bJ (o:=i*2) rfl hsq g1 rfl ?_)|refine yC ?_)
     exact bQ rfl (Grow.refl _) rfl
   ·refine iM rfl rfl rfl rfl ?_;intro wq _ _ hiw;refine needA_cons rfl rfl ?_;intro vq1 hvq1
    refine needA_cons rfl rfl ?_;intro vq2 hvq2
    refine needA_cons rfl rfl ?_;intro vq3 hvq3
    refine needA_cons rfl rfl ?_;intro vq4 hvq4
    refine needA_nil ?_;obtain rfl:=Eq.symm hvq1;obtain rfl:=Eq.symm hvq2;obtain rfl:=Eq.symm hvq3;obtain rfl:=Eq.symm hvq4;refine aB 37 ?_;have zi:=hiw.2.size;refine aA rfl (hrput hiw.1 (λ k hk=>⟨λ e=>by have:=(hp.lS e).2;omega,λ e=>by have:=(hp.rS e).2;omega⟩) ka va x.1.length kc x.2.length vc (hks2.grow hiw.2) (hvs2.grow hiw.2)) rfl ?_;rintro _ v8 ⟨rfl,hp8,hb8⟩;repeat refine aF ?_
    exact bQ rfl ⟨hb8,hp8,(ButS.grow hiw.2).trans hb8⟩ rfl
   iterate 5
    ·refine dA rfl rfl rfl rfl ?_;intro wq _ _ hiw;(refine yU ?_)
     have hsq:=his2.go (Carry.buts hiw λ k hk _=>hF2 k hk);have hc1:wq.cell? (at' a (i*2))=some (.slice ka x.1.length kc):=hsq.row.cell g1;have hc2:wq.cell? (at' a (i*2+1))=some (.slice va x.2.length vc):=hsq.row.cell g2;repeat (refine yC ?_)
     exact bQ rfl (Grow.refl _) rfl
  ·rintro v3 lo3 hi3 ⟨hp3,hbs3⟩ _ _;(refine yU ?_)
   have hgv3:Grow w v3:=iE hgv2 hbs3 hgR;have z3:=hbs3.size;have hP3:Pl v3 w.heap.size L R g':=⟨hp2.other hbs3 hp.dj2 hp.r0,hp3,hp.lB,hp.rB,hp.dj,hp.dj2,hp.r0⟩
   have hlv':lv'≤4:=htr'.levels (k:=4) oM (by have:=putL_len (hX (l.take i)) x;rw [hstep];omega);have hrl':=htr'.rlt hok';have hcnt':g'.count=200:=hex.count.trans hcnt
   have hnext:∃ x9:Int,(e=0→x9=dZ root'∧xv=dZ root')∧(e≠0→root'=root):=⟨xv,λ he=>by
    rcases hor with ⟨_,_,h3,_⟩|⟨_,h2,_⟩
    ·exact ⟨h3,h3⟩
    ·omega,λ he=>by
    rcases hor with ⟨_,h2,_⟩|⟨_,_,_,h4,_⟩
    ·exact absurd h2 he
    ·exact h4⟩
   refine TL.nil (fA ?_);refine bD (e':=[(19,.int .i64 e),(18,.int .i64 xv),(17,.int .i64 e),(16,.int .i64 xv),(15,.int .i64 (i:Int)),(14,.int .i64 (dZ root)),(13,.int .i64 (dZ root)),(12,.pointer (some ⟨L.p,0,none⟩)),(10,.pointer (some ⟨R.p,0,none⟩)),(0,.slice a l.length c)]) ?_ ⟨rfl,rfl,rfl,rfl,rfl,rfl,rfl,rfl,rfl,rfl,trivial⟩;refine dV 2 (λ e w3=>v3=w3∧Sub [(15,.int .i64 (i:Int)),(14,.int .i64 (dZ root')),(13,.int .i64 (dZ root')),(12,.pointer (some ⟨L.p,0,none⟩)),(10,.pointer (some ⟨R.p,0,none⟩)),(0,.slice a l.length c)] e) ?_ ?_;rotate_left
   ·rcases hor with ⟨_,rfl,rfl,_⟩|⟨_,rfl,rfl,rfl,_⟩
    ·repeat refine aF ?_
     exact ⟨rfl,rfl,rfl,rfl,rfl,rfl,rfl,trivial⟩
    ·repeat refine aF ?_
     exact ⟨rfl,rfl,rfl,rfl,rfl,rfl,rfl,trivial⟩
   rintro e4 v4 ⟨rfl,hsub⟩;refine bD (e':=[(15,_),(14,_),(13,_),(12,_),(10,_),(0,_)]) ?_ hsub;clear hsub hnext hput hrput;by_cases hs32:cR g'<32
   ·repeat (first|(refine aB 21 ?_;refine aA rfl (sparet_c hP3.pw.at_) rfl ?_;rintro _ _ ⟨rfl,hgc⟩)|refine yC ?_)
    have hps':=htr'.pages;have hgw4:=hgv3.trans hgc;rename_i w4;have hP4:=hP3.grow hgc;have z4:=hgc.size;refine aB 35 ?_;refine aA rfl (rreach_c hP4.rf htr' oM (by rw [hstep];have:=putL_len (hX (l.take i)) x;omega)) rfl ?_;rintro _ w5 ⟨qa,qc,rfl,hqs,hg5⟩;have hP5:=hP4.grow hg5;have hgw5:=hgw4.trans hg5;have z5:=hg5.size;have hql:(srtN ps'.reverse).length=ps'.length:=by rw [length_srtN,List.length_reverse]
    have hpl':ps'.length≤30:=by rw [hstep] at hps';have:=putL_len (hX (l.take i)) x;omega
    have hqm:∀ q∈srtN ps'.reverse,bL g' q=true:=λ q hq=>htr'.used q (by rw [srtN_mem,List.mem_reverse] at hq;exact hq);have hqs5:Sl (λ k=>k<w5.heap.size) w5 1 qa ps'.length qc (bC (srtN ps'.reverse)):=hqs.go (Carry.mono λ k _ hk=>hk);repeat refine aF ?_
    refine aB 23 ?_;refine aA rfl (keep_c hP5.pw.at_ hqs5 (λ k hk=>hk) hqm oM) rfl ?_;rintro _ w6 ⟨L',e1,e2,e3,e4,e5,⟨kk,rfl⟩,hpg6,hb6⟩;have z6:=hb6.size;have hlL:∀ k,k=L.p→w.heap.size≤k:=λ k hk=>hp.lB k (by simp [hk]);have hlR:∀ k,k=R.p→w.heap.size≤k:=λ k hk=>hp.rB k (by simp [hk]);have hgw6:Grow w w6:=iE hgw5 hb6 hlL;have hqs6:Sl (λ k=>w4.heap.size≤k) w6 1 qa ps'.length qc (bC (srtN ps'.reverse)):=hqs.go (Carry.buts hb6 λ k hk _ e=>by have:=hP4.pw.at_.lts;omega);have hqs7:Sl (λ k=>k<w6.heap.size) w6 1 qa ps'.length qc (bC (srtN ps'.reverse)):=hqs6.go (Carry.mono λ k _ hk=>hk)
    have hrf6:RfAt (λ k=>¬ L'.S k∧¬ R.S k) w6 R g':=by
     have hl5:=hP5.pw.at_.lts;have hd5:=hP5.dj;refine (hP5.rf.keep2 (K':=λ k=>¬ L'.S k∧¬ R.S k) ⟨hb6.size,λ k hk hl=>⟨⟨λ e=>?_,hk.2⟩,hb6.block k hl ?_⟩⟩ (λ k hk=>hb6.block k (by have:=hP5.rf.lts;omega) (λ e=>hd5 k hk (by unfold PL.S;omega))) (λ k hk=>hk.2))
     ·have:=hk.1;unfold PL.S at e this;omega
     ·have:=hk.1;unfold PL.S at this;omega
    repeat refine aF ?_
    refine aB 36 ?_;refine aA rfl (rkeep_c hrf6 hqs7 (λ k hk=>hk) hqm) rfl ?_;rintro _ w7 ⟨u,hu,rfl,hrf7,hb7⟩;have hP7:=hP5.keeps (by have:=hgw5.size;omega) e1 e2 e3 e5 hpg6 hb6 hu hb7 hrf7;have hgw7:Grow w w7:=iE hgw6 hb7 hlR;have hks:=keep_spare hok' hqm;rw [hcnt',hql] at hks;repeat refine aF ?_
    refine aE (i+1,root',jJ g' (srtN ps'.reverse),L',⟨R.p,R.d,R.b,R.c,u⟩) ⟨rfl,rfl,rfl,by rw [← e1];rfl,rfl,rfl,trivial⟩ ⟨by simp only;omega,hP7,hcnt',by simp only;omega,hgw7,lv',ps',htr'.keep hok' hqm (λ p hp=>by rw [srtN_mem,List.mem_reverse];exact hp)⟩ (by simp only;omega)
   ·repeat (first|(refine aB 21 ?_;refine aA rfl (sparet_c hP3.pw.at_) rfl ?_;rintro _ _ ⟨rfl,hgc⟩)|refine yC ?_)
    refine aE (i+1,root',g',L,R) ⟨rfl,rfl,rfl,rfl,rfl,rfl,trivial⟩ ⟨by simp only;omega,hP3.grow hgc,hcnt',by simp only;omega,hgv3.trans hgc,lv',ps',htr'⟩ (by simp only;omega)
theorem open_tree {g:Pg} (hok:PgOk g) {root:Option Nat} {lv:Nat} {l:bT} {ps:List Nat} (ht:TrAt g root lv l ps) (hlv:lv≤15):∃ H top M',TreeOf g H top l ps (dZ root)∧treeP g root []=some (lv,M')∧∀ k∈ps,∃ t,gO M' k=some t∧cB g k=some t.node:=by
 obtain ⟨M',h1,h2,h3⟩:=tree_trM (s:=g) (M:=[]) (λ n t hn=>by cases hn) ht oM
 have hk:∀ k∈ps,∃ t,gO M' k=some t∧cB g k=some t.node:=λ k hk=>by
  obtain ⟨t,e⟩:=(h3 k).2 (.inr hk);obtain ⟨h,l',ps',kn⟩:=h2 k t e;exact ⟨t,e,kn.node⟩
 cases root with
 | none =>
  obtain ⟨rfl,rfl,rfl⟩:=ht;exact ⟨0,nd0,M',.inl ⟨rfl,rfl⟩,h1,hk⟩
 | some n =>
  obtain ⟨h,nd,ps',rfl,e2,e3,e4,rfl⟩:=ht;exact ⟨h,nd,M',.inr ⟨n,ps',rfl,rfl,⟨e3,hok,e2,e4,oM,by have:=hok.cnt;omega⟩⟩,h1,hk⟩
theorem copen_c {w:World} {L:PL} {g:Pg} (hp:PgW w L g) {root:Option Nat} {lv:Nat} {l:bT} {ps:List Nat} (ht:TrAt g root lv l ps) (hlv:lv≤15) (hl:l.length≤1000) (hby:∀ x∈l,eZ x.1∧eZ x.2) (G:Nat→Prop) (fa ta:Option Addr) (fn fc tn tc:Nat) (fr to:Bs) (back:Bool) (most:Int) (hf:Sl G w 1 fa fn fc (bB fr)) (hto:Sl G w 1 ta tn tc (bB to)) (hfr:fr.length≤16) (htl:to.length≤16) (hm:0≤most∧most≤9223372036854775807) :
  Calls Tryz.prog 55 #[.pointer (some ⟨L.p,0,none⟩),.int .i64 (dZ root),.agg #[.slice fa fn fc,.slice ta tn tc,.bool back,.int .i64 most]] w (Ret λ v w'=>∃ cb C E pv fs ix,v=.tuple #[.pointer (some ⟨cb,0,none⟩),.int .i64 0]∧w.heap.size≤cb∧Cu w' C cb 0 pv fs∧Ok w' C cb E∧AtE E fs ix∧(∀ j,ix=some j→j<E.al.length)∧fU E C.back ix=eN l fr to back∧E.al=l∧E.fr=fr∧E.to=to∧C.back=back∧C.most=most∧C.lo=w.heap.size∧Grow w w'):=by
 obtain ⟨H,top,M',hT,hM,hps⟩:=open_tree hp.at_.ok ht hlv;have hrl:∀ n,root=some n→n<4294967296:=λ n e=>by subst e;have:=ht.lt hp.at_.ok;omega
 have hrr : -1≤dZ root∧dZ root≤9223372036854775807:=by
  cases root with
  | none=>show (-1:Int)≤-1∧(-1:Int)≤_;omega
  | some n=>have:=hrl n rfl;show (-1:Int)≤(n:Int)∧(n:Int)≤_;omega
 have hfn:fn=fr.length:=by have:=hf.len;rw [bB,List.length_map] at this;omega
 have htn:tn=to.length:=by have:=hto.len;rw [bB,List.length_map] at this;omega
 have hko:∀ x∈l,x.1.length≤16∧x.2.length≤32:=λ x hx=>⟨(eM (ht.items x hx).1).2,iD (ht.items x hx).2⟩
 refine V.calls (args:=[_,_,_]) Tryz.func55 rfl Tryz.ntmps55 rfl rfl ?_;repeat (first|refine aF ?_|refine yI λ bk w' hg hbk hsz hsz'=>?_)
 refine aB 87 ?_;refine aA rfl (walk_new L.p _) rfl ?_;rintro _ w2 ⟨wb,wm,rfl,hwb,hwm,hwk,hg2⟩;have hgw2:=hg.trans hg2;have k5:Blk w2 bk 92 [.slice fa fn fc,.slice ta tn tc,.bool back,.int .i64 most]:=hbk.grow hg2;have z1:=hg.size;have q5:w.heap.size≤bk∧bk<w2.heap.size∧bk<w'.heap.size:=by have:=k5.lt;have:=hbk.lt;omega
 obtain ⟨b5,rfl⟩:=yE bk;clear hbk hg hg2 hsz hsz';repeat (first|(refine aB 93 ?_;refine aA rfl (ready_c (hp.at_.grow hgw2) _ hrr.1 hrr.2) rfl ?_;rintro _ _ ⟨rfl,rfl⟩)|refine yC ?_)
 refine aB 88 ?_;have hlp:=hp.at_.lts;refine aA rfl (tree_c (G:=λ k=>w.heap.size≤k∧k≠wm∧k≠b5) (hp.at_.grow hgw2) hwk.blk (mem_new (w':=w2) hwk) ⟨hwk.ne,oM,oM,oM,oM⟩ (λ k hk=>hk.2.1) (λ k hk=>by have:=hwk.map.lt;omega) hrl hM) rfl ?_;rintro _ w3 ⟨rfl,hmem,hbt⟩;have hwl:=hwk.blk.lt;have hwml:=hwk.map.lt;have hgw3:Grow w w3:=grow_buts hgw2 hbt oM;have z23:=hbt.size;have k53:=bY k5 hbt oM;have hwblk:=bY hwk.blk hbt hwk.ne;have hf3:=hf.grow hgw3;have ht3:=hto.grow hgw3;clear k5;repeat refine aF ?_
 refine bD (e':=[(8,.pointer (some ⟨wb,0,none⟩)),(5,.pointer (some ⟨b5,0,none⟩)),(1,.int .i64 (dZ root)),(0,.pointer (some ⟨L.p,0,none⟩))]) ?_ ⟨rfl,rfl,rfl,rfl,trivial⟩;apply T.any 7 [is (.pointer (some ⟨b5,0+0,none⟩)),is (.slice fa fn fc),bsF w3.heap.size fr,is (.pointer (some ⟨b5,0+1,none⟩)),is (.slice ta tn tc),bsF w3.heap.size to,is (.pointer (some ⟨b5,0+0,none⟩))]
 ·rfl
 ·repeat' (first|exact aN|refine aK ?_ ?_)
  iterate 2
   ·refine yQ λ wq _ _ hgq=>?_;repeat refine aF ?_
    exact aD rfl yG rfl
  ·refine yQ λ wq _ _ hgq=>?_;have zq:=hgq.size;refine aB 95 ?_;refine aA rfl (nH _ _ fr _ (⟨_,_,_,rfl,hf3.grow hgq⟩:BsAt G _ _ fr) oM) rfl ?_;rintro u wr ⟨hu,hgr⟩;repeat refine aF ?_
   exact aD rfl yG (hu.go (Carry.mono λ k hk _=>by omega))
  iterate 2
   ·refine yQ λ wq _ _ hgq=>?_;repeat refine aF ?_
    exact aD rfl yG rfl
  ·(((refine bX rfl rfl rfl ?_);( intro wq _ _ hgq;(repeat (refine aJ rfl rfl ?_;intro vq hvq;try (obtain rfl:=hvq)));(refine aZ ?_))))
   have zq:=hgq.size;refine aB 95 ?_;refine aA rfl (nH _ _ to _ (⟨_,_,_,rfl,ht3.grow hgq⟩:BsAt G _ _ to) oM) rfl ?_;rintro u wr ⟨hu,hgr⟩;repeat refine aF ?_
   exact aD rfl yG (hu.go (Carry.mono λ k hk _=>by omega))
  ·(((refine bX rfl rfl rfl ?_);( intro wq _ _ hgq;(repeat (refine aJ rfl rfl ?_;intro vq hvq;try (obtain rfl:=hvq)));(refine aZ ?_))))
   repeat refine aF ?_
   exact aD rfl yG rfl
 rintro w4 _ _ hg4 _ _;iterate 2 (refine aJ rfl rfl ?_;intro vq hvq;try (obtain rfl:=hvq))
 refine aJ rfl rfl ?_;intro u1 hu1;iterate 2 (refine aJ rfl rfl ?_;intro vq hvq;try (obtain rfl:=hvq))
 refine aJ rfl rfl ?_;intro u2 hu2;refine aJ rfl rfl ?_;intro vq hvq;obtain rfl:=hvq;refine aZ ?_;obtain ⟨q1,q2,rfl,q3⟩:=BsAt.sl hu1;obtain ⟨r1,r2,rfl,r3⟩:=BsAt.sl hu2;have k54:=k53.grow hg4;have z34:=hg4.size;clear k53 hu1 hu2;repeat (first|refine aF ?_|refine yI λ bk w' hg hbk hsz hsz'=>?_|refine yJ λ w' hu hbk hsz=>?_)
 rename_i wA huA hbA hsA wB huB hbB hsB wC hbC hsC;have hbk':Blk w' bk 206 [.pointer (some ⟨bk,0,none⟩),.pointer (some ⟨wb,0,none⟩),.int .i64 (dZ root),.slice q1 fr.length q2,.slice r1 to.length r2,.bool back,.int .i64 most,.int .i64 0,.slice none 0 0]:=hbk;have k5':Blk w' b5 92 [.slice q1 fr.length q2,.slice r1 to.length r2,.bool back,.int .i64 most]:=Blk.upd hu oM (Blk.grow hg hbB);have hgw':Grow w w':=aI hu oM ((aI huB oM (aI huA oM (hgw3.trans hg4))).trans hg);have cX:Carry (λ k=>w.heap.size≤k∧k≠b5) w4 (λ k=>w.heap.size≤k∧k<bk) w':=((Carry.upd huA (λ k hk _=>hk.2)).trans (Carry.upd huB (λ k hk _=>hk.2))).trans ((Carry.mono λ k hk hl=>by omega).trans ((Carry.grow hg).trans (Carry.upd hu (λ k hk _=>by omega))));have cY:Carry (λ k=>w.heap.size≤k∧k≠b5) w3 (λ k=>w.heap.size≤k∧k<bk) w':=(Carry.grow hg4).trans cX;have zb:w3.heap.size≤bk:=by omega
 have zw3:=hgw3.size
 have hwlk:Wlk w' bk ⟨wb,dZ root,q1,fr.length,q2,r1,to.length,r2,back,most,w.heap.size⟩ g ps :=
  ⟨L.p,wm,M',dS hwblk (cY.blk wb oM hwblk.lt).2,hmem.go ((Carry.mono λ k hk _=>⟨hk.1,hk.2.2⟩).trans cY) (cY.blk wm oM hmem.lt).2,by have:=hwblk.lt;show w.heap.size≤wb∧wb<bk;omega,by have:=hmem.lt;show w.heap.size≤wm∧wm<bk;omega,hps⟩
 have o:Ok w' ⟨wb,dZ root,q1,fr.length,q2,r1,to.length,r2,back,most,w.heap.size⟩ bk ⟨g,H,top,l,ps,fr,to⟩ :=
  ⟨hT,hwlk,q3.go ((Carry.mono λ k hk _=>by omega).trans cX),r3.go ((Carry.mono λ k hk _=>by omega).trans cX),ht.srt,hl,by show fr.length≤100;omega,by show to.length≤100;omega,hby,hko,hm⟩
 have h:Cu w' ⟨wb,dZ root,q1,fr.length,q2,r1,to.length,r2,back,most,w.heap.size⟩ bk 0 (.slice none 0 0) []:=⟨hbk',[],World.ownsRow_nil _ _ _ _,trivial⟩
 have qb:w.heap.size≤bk:=by have:=hgw3.size;omega
 clear hbk hu hbC hg huA huB hbA hbB cX cY hg4 hwblk hmem hbt hwk q3 r3 k54 hf3 ht3 hgw3 hgw2;obtain ⟨w5,rfl⟩:=yE w'
 have fin:∀ {w9:World} {pv9:Value},CuTo bk (.slice none 0 0) pv9 w5 w9→Grow w w9:=λ t=>iE hgw' t.but (λ k hk=>by
  rcases hk with e|e
  ·omega
  ·cases e)
 cases back with
 | true =>
  repeat refine aF ?_
  refine aB 132 ?_;refine aA rfl (cbelow_c o h) rfl ?_;rintro _ w6 ⟨pv6,fs6,h6,hto6,hat6⟩;repeat refine aF ?_
  exact fM rfl rfl ⟨_,rfl,bk,_,_,pv6,fs6,_,rfl,qb,h6,o.go (h.carry hto6),hat6,ixB_lt (tw_le _ _),range_B ht.srt fr to,rfl,rfl,rfl,rfl,rfl,rfl,fin hto6⟩
 | false =>
  have hG2:∀ k,w.heap.size≤k∧k<bk→k≠bk∧(Value.slice none 0 0).ownBlock≠some k:=λ k hk=>⟨oM,λ e=>by cases e⟩
  repeat refine aF ?_
  refine aB 133 ?_;refine aA rfl (cfind_c o.tr h o.wlk _ hG2 _ _ _ fr o.f) rfl ?_;rintro _ w6 ⟨pv6,fs6,h6,hto6,hat6⟩;repeat refine aF ?_
  exact fM rfl rfl ⟨_,rfl,bk,_,_,pv6,fs6,_,rfl,qb,h6,o.go (h.carry hto6),hat6,toIx_bd,range_F ht.srt fr to,rfl,rfl,rfl,rfl,rfl,rfl,fin hto6⟩
end Go.Proofs.YtfpadnmdafiddaaGreatDoor
namespace Go.V
open Go Go.RowKit
def fnTyB (P:Program) (t:TypeId):Bool:=match P.underlying t with|some (.func ..)=>true|_=>false
class FnTy (P:Program) (t:TypeId):Prop where
 h:fnTyB P t=true
theorem FnTy.und {P:Program} {t:TypeId} (h:FnTy P t):∃ a b c,P.underlying t=some (.func a b c):=by
 have h:=h.h;unfold fnTyB at h;split at h
 ·exact ⟨_,_,_,by assumption⟩
 ·cases h
theorem run_equalIn_fn {P:Program} (dp:Nat) {t:TypeId} (h:FnTy P t) (f:Fn) (xs cs:Array Value) (w:World):(Op.equalIn (dp+1) t (.func f xs cs) .nilFunc).run P w=.ok false w:=by
 obtain ⟨a,b,c,hu⟩:=h.und;simp [Op.equalIn,underlying,hu]
theorem TL.eqFnNil [Rn] {P:Program} {n:Nat} {e:dJ} {w:World} {Q:dI} {ops:Array Oper} {rest:List Oper} {d:Nat} {ty:TypeId} {pos:String} {aft:Array Edge} {t t2:TypeId} {x y:Operand} {f:Fn} {xs cs:Array Value} [ht:FnTy P t] (hx:val e x=some (.func f xs cs)) (hy:val e y=some .nilFunc) (hd:Nat.blt d n=true)
  (k:TL P n ops rest ((d,.bool false)::e) w Q):TL P n ops (⟨some d,.binOp .eql t x y t2,ty,pos,aft,none⟩::rest) e w Q :=
 TL.run (λ r hr=>by
  have hg:eqGuard .eql t x y (.func f xs cs) .nilFunc=Pure.pure ():=rfl;simp only [execOp,hr.eval hx,hr.eval hy,hg];simp only [binOp]
  simp [Op.equal,Op.maxDepth,run_equalIn_fn 9999 ht]) hd k
end Go.V
namespace Go.Proofs.YtfpadnmdafiddaaGreatDoor
open Go Go.RowKit Go.V
instance fnYield:FnTy Tryz.prog 208:=⟨kR⟩
def remL (E:CE) (C:CC) (d:Int) (ix:Option Nat):bT:=if 0<C.most then (fU E C.back ix).take (C.most-d).toNat else fU E C.back ix
structure Cz (w:World) (C:CC) (cb:Nat) (E:CE) (d:Int) (pv:Value) (fs:List (Nd×Int)) (ix:Option Nat) (rm:bT):Prop where
 cu:Cu w C cb d pv fs
 ok:Ok w C cb E
 at_:AtE E fs ix
 bd:∀ j,ix=some j→j<E.al.length
 d0:0≤d
 d1:d+rm.length≤1000000
 rem:remL E C d ix=rm
theorem Cz.grow {w w':World} {C:CC} {cb:Nat} {E:CE} {d:Int} {pv:Value} {fs:List (Nd×Int)} {ix:Option Nat} {rm:bT} (z:Cz w C cb E d pv fs ix rm) (g:Grow w w'):Cz w' C cb E d pv fs ix rm:=⟨z.cu.grow g,z.ok.grow g,z.at_,z.bd,z.d0,z.d1,z.rem⟩
theorem Cz.upd {w w':World} {C:CC} {cb b:Nat} {E:CE} {d:Int} {pv:Value} {fs:List (Nd×Int)} {ix:Option Nat} {rm:bT} (z:Cz w C cb E d pv fs ix rm) (u:Upd b w w') (hb:cb<b) (hn:pv.ownBlock≠some b):Cz w' C cb E d pv fs ix rm:=⟨z.cu.upd u hb hn,z.ok.go (Carry.upd u (λ k hk _=>by omega)),z.at_,z.bd,z.d0,z.d1,z.rem⟩
theorem rem_cons {E:CE} {C:CC} {d:Int} {ix ix':Option Nat} {it:Bs×Bs} (hl:¬ lim C d) (h:fU E C.back ix=it::fU E C.back ix'):remL E C d ix=it::remL E C (d+1) ix':=by
 unfold remL;split
 ·rename_i hm
  have hd:d<C.most:=by
   by_cases h2:C.most≤d
   ·exact absurd ⟨hm,h2⟩ hl
   ·omega
  obtain ⟨k,hk⟩:∃ k:Nat,(C.most-d).toNat=k+1:=⟨(C.most-d).toNat-1,oM⟩
  rw [hk,show (C.most-(d+1)).toNat=k by omega,h,List.take_succ_cons]
 ·exact h
theorem rem_nil {E:CE} {C:CC} {d:Int} {ix:Option Nat} (h:lim C d∨fU E C.back ix=[]):remL E C d ix=[]:=by
 unfold remL;rcases h with h|h
 ·rw [if_pos h.1,show (C.most-d).toNat=0 by have:=h.2;omega,List.take_zero]
 ·rw [h];split<;>simp
theorem citems_c (cb:Nat) (w:World) :
  Calls Tryz.prog 56 #[.pointer (some ⟨cb,0,none⟩)] w (Ret λ v w'=>∃ b1,v=.func (.func 134) #[] #[.pointer (some ⟨b1,0,none⟩)]∧w.heap.size≤b1∧Blk w' b1 97 [.pointer (some ⟨cb,0,none⟩)]∧Grow w w'):=by
 refine V.calls (args:=[_]) Tryz.func56 rfl Tryz.ntmps56 rfl rfl ?_;repeat (first|(refine nA ?_;refine TL.makeFunc (xs:=[]) (cs:=[_]) rfl rfl rfl ?_)|refine yA ?_|refine yI λ bk w' hg hbk hsz hsz'=>?_)
 exact bA rfl ⟨_,rfl,_,rfl,oM,yB,yG⟩
theorem cznext_c {w:World} {C:CC} {cb:Nat} {E:CE} {d:Int} {pv:Value} {fs:List (Nd×Int)} {ix:Option Nat} {rm:bT} (z:Cz w C cb E d pv fs ix rm) :
  Calls Tryz.prog 57 #[.pointer (some ⟨cb,0,none⟩)] w (Ret λ v w'=>∃ a1 n1 c1 a2 n2 c2 e,v=.tuple #[.agg #[.slice a1 n1 c1,.slice a2 n2 c2],.int .i64 e] ∧
   ((e=0∧∃ it r pv' fs' ix',rm=it::r∧it∈E.al∧Cz w' C cb E (d+1) pv' fs' ix' r∧CuTo cb pv pv' w w'∧Sl (λ k=>w.heap.size≤k∧pv'.ownBlock≠some k) w' 1 a1 n1 c1 (bB it.1)∧Sl (λ k=>w.heap.size≤k∧pv'.ownBlock≠some k) w' 1 a2 n2 c2 (bB it.2)) ∨
    (e=6∧rm=[]∧∃ pv' fs',Cz w' C cb E d pv' fs' ix []∧CuTo cb pv pv' w w'))):=by
 refine Calls.mono (cnext_c z.ok z.cu z.at_ z.bd ⟨z.d0,by have:=z.d1;omega⟩) λ y w' hy=>hy.mono λ v w' ⟨pv',fs',ix',d',u1,u2,e,hv,hcu,hto,hat,hbd,hor⟩=>?_;rcases hor with ⟨rfl,hl,it,hr,hm,rfl,⟨a1,n1,c1,rfl,h1⟩,⟨a2,n2,c2,rfl,h2⟩⟩|⟨rfl,hno,rfl,rfl,rfl,rfl⟩
 ·have hre:=rem_cons hl hr;refine ⟨a1,n1,c1,a2,n2,c2,0,hv,.inl ⟨rfl,it,remL E C (d+1) ix',pv',fs',ix',by rw [← z.rem,hre],hm,⟨hcu,z.ok.go (z.cu.carry hto),hat,hbd,by have:=z.d0;omega,?_,rfl⟩,hto,h1,h2⟩⟩;have:=z.d1;rw [← z.rem,hre,List.length_cons] at this;omega
 ·have hre:rm=[]:=by rw [← z.rem];exact rem_nil hno
  exact ⟨none,0,0,none,0,0,6,hv,.inr ⟨rfl,hre,pv',fs',⟨hcu,z.ok.go (z.cu.carry hto),hat,hbd,z.d0,by have:=z.d1;rw [hre] at this;exact this,rem_nil hno⟩,hto⟩⟩
theorem cyield_c (l b1 cb:Nat) (C:CC) (E:CE) (J:bT→Value→World→Prop) (Fin:bT→World→Prop)
  (hpre:∀ rm pv w,J rm pv w→Blk w b1 97 [.pointer (some ⟨cb,0,none⟩)]∧∃ d fs ix,Cz w C cb E d pv fs ix rm)
  (hround:∀ it rm pv w,J (it::rm) pv w→∀ w' d' pv' fs' ix' a1 n1 c1 a2 n2 c2,it∈E.al→Cz w' C cb E d' pv' fs' ix' rm→CuTo cb pv pv' w w'→Sl (λ k=>w.heap.size≤k∧pv'.ownBlock≠some k) w' 1 a1 n1 c1 (bB it.1)→Sl (λ k=>w.heap.size≤k∧pv'.ownBlock≠some k) w' 1 a2 n2 c2 (bB it.2) →
   Yld Tryz.prog l [.agg #[.slice a1 n1 c1,.slice a2 n2 c2]] w' (λ v w''=>(v=.bool true∧J rm pv' w'')∨(v=.bool false∧Fin rm w'')))
  (hend:∀ pv w,J [] pv w→∀ w' d' pv' fs' ix',Cz w' C cb E d' pv' fs' ix' []→CuTo cb pv pv' w w'→Fin [] w')
  (rm:bT) (pv:Value) (w:World) (h0:J rm pv w) :
  Calls Tryz.prog 134 #[.func (.yield l) #[] #[],.pointer (some ⟨b1,0,none⟩)] w (Ret λ _ w'=>∃ rm',Fin rm' w'):=by
 refine V.calls (args:=[_,_]) Tryz.func134 rfl Tryz.ntmps134 rfl rfl ?_;obtain ⟨hb1,-⟩:=hpre rm pv w h0;repeat (first|(refine kU 208 ?_;refine TL.eqFnNil rfl rfl rfl ?_)|refine yC ?_)
 refine aX (S:=bT×Value) (λ q=>[(1,.pointer (some ⟨b1,0,none⟩)),(0,.func (.yield l) #[] #[])]) (λ q w1=>J q.1 q.2 w1) (λ q=>q.1.length) (rm,pv) ⟨rfl,rfl,trivial⟩ h0 ?_;clear h0 hb1;clear rm w pv;rintro ⟨rm,pv⟩ w hJ;simp only at hJ;obtain ⟨hb1,d,fs,ix,z⟩:=hpre rm pv w hJ;repeat refine aF ?_
 refine aB 57 ?_;refine aA rfl (cznext_c z) rfl ?_;rintro _ w2 ⟨a1,n1,c1,a2,n2,c2,e,rfl,hor⟩;rcases hor with ⟨rfl,it,r,pv',fs',ix',rfl,hm,z2,hto,h1,h2⟩|⟨rfl,rfl,pv',fs',z2,hto⟩
 ·repeat (first|refine aF ?_|refine yI λ bk w' hg hbk hsz hsz'=>?_|refine yJ λ w' hu hbk hsz=>?_)
  have hgw:Grow w2 w':=aI hu oM hg;have hy:=hround it r pv w hJ w' _ pv' fs' ix' a1 n1 c1 a2 n2 c2 hm (z2.grow hgw) (hto.trans (CuTo.grow hgw)) (h1.grow hgw) (h2.grow hgw);refine TL.yield rfl rfl hy rfl ?_;rintro v w7 (⟨rfl,hj7⟩|⟨rfl,hf7⟩)
  ·repeat refine aF ?_
   exact aE (r,pv') ⟨rfl,rfl,trivial⟩ hj7 sM
  ·repeat refine aF ?_
   exact eB (vs:=[]) rfl rfl ⟨_,rfl,r,hf7⟩
 ·repeat (first|refine aF ?_|refine yI λ bk w' hg hbk hsz hsz'=>?_|refine yJ λ w' hu hbk hsz=>?_)
  have hgw:Grow w2 w':=aI hu oM hg;exact eB (vs:=[]) rfl rfl ⟨_,rfl,[],hend pv w hJ w' _ pv' fs' ix (z2.grow hgw) (hto.trans (CuTo.grow hgw))⟩
def rngL (l:bT) (fr to:Bs) (back:Bool) (most:Int):bT:=if 0<most then (eN l fr to back).take most.toNat else eN l fr to back
theorem Cz.buts {w w':World} {C:CC} {cb:Nat} {E:CE} {d:Int} {pv:Value} {fs:List (Nd×Int)} {ix:Option Nat} {rm:bT} {S:Nat→Prop} (z:Cz w C cb E d pv fs ix rm) (b:ButS S w w') (hS:∀ k,S k→(k<C.lo∨cb<k)∧pv.ownBlock≠some k):Cz w' C cb E d pv fs ix rm:=by
 have c:Carry (λ k=>C.lo≤k∧k<cb) w (λ k=>C.lo≤k∧k<cb) w':=Carry.buts b (λ k hk _ hs=>by have:=(hS k hs).1;omega);have hlo:C.lo≤cb:=by obtain ⟨_,_,_,_,_,h3,_⟩:=z.ok.wlk;omega
 obtain ⟨cs,h1,h2⟩:=z.cu.row;exact ⟨⟨bY z.cu.blk b (λ e=>by have:=(hS _ e).1;omega),cs,cL h1 (λ k hk hv=>b.block k (aT h1 hv).2 (λ e=>(hS k e).2 hv)),h2.go c⟩,z.ok.go c,z.at_,z.bd,z.d0,z.d1,z.rem⟩
theorem crange_c {w:World} {L:PL} {g:Pg} (hp:PgW w L g) {root:Option Nat} {lv:Nat} {l:bT} {ps:List Nat} (ht:TrAt g root lv l ps) (hlv:lv≤15) (hl:l.length≤1000) (hby:∀ x∈l,eZ x.1∧eZ x.2) (G:Nat→Prop) (fa ta:Option Addr) (fn fc tn tc:Nat) (fr to:Bs) (back:Bool) (most:Int) (hf:Sl G w 1 fa fn fc (bB fr)) (hto:Sl G w 1 ta tn tc (bB to)) (hfr:fr.length≤16) (htl:to.length≤16) (hm:0≤most∧most≤9223372036854775807) :
  Calls Tryz.prog 54 #[.pointer (some ⟨L.p,0,none⟩),.int .i64 (dZ root),.agg #[.slice fa fn fc,.slice ta tn tc,.bool back,.int .i64 most]] w (Ret λ v w'=>(∃ a n c,v=.tuple #[.slice a n c,.int .i64 0]∧ItsAt (λ k=>w.heap.size≤k) w' a n c (rngL l fr to back most))∧Grow w w'):=by
 refine V.calls (args:=[_,_,_]) Tryz.func54 rfl Tryz.ntmps54 rfl rfl ?_;repeat (first|refine aF ?_|refine yI λ bk w' hg hbk hsz hsz'=>?_)
 have hgw1:=hg;refine aB 55 ?_;refine aA rfl (copen_c (hp.grow hg) ht hlv hl hby G fa ta fn fc tn tc fr to back most (hf.grow hg) (hto.grow hg) hfr htl hm) rfl ?_;rintro _ w2 ⟨cb,C,E,pv,fs,ix,rfl,hcb,hcu,hok,hat,hbd,hre,rfl,rfl,rfl,rfl,rfl,_,hg2⟩;have hgw2:=hg.trans hg2;have hcbw:w.heap.size≤cb:=by have:=hg.size;omega
 have hrl:(eN E.al E.fr E.to C.back).length≤E.al.length:=by
  unfold eN;refine Nat.le_trans (List.length_filter_le _ _) ?_;split<;>simp
 have hrng:remL E C 0 ix=rngL E.al E.fr E.to C.back C.most:=by
  unfold remL rngL;rw [hre,Int.sub_zero]
 have hrn:(rngL E.al E.fr E.to C.back C.most).length≤1000:=by
  unfold rngL;split
  ·rw [List.length_take];omega
  ·omega
 have z:Cz w2 C cb E 0 pv fs ix (rngL E.al E.fr E.to C.back C.most):=⟨hcu,hok,hat,hbd,Int.le_refl _,oM,hrng⟩
 have z2:=hgw2.size;clear hbk hg hg2 hsz hsz';repeat (first|refine T.seqR ?_|refine yC ?_|refine yI λ bk w' hg hbk hsz hsz'=>?_)
 obtain ⟨b10,rfl⟩:=yE bk;have hgw3:Grow w2 w':=hg;have k10:Blk w' b10 54 [.slice none 0 0]:=hbk;have q10:w2.heap.size≤b10∧b10<w'.heap.size:=by have:=k10.lt;omega
 refine aB 56 ?_;refine aA rfl (citems_c cb _) rfl ?_;rintro _ w3 ⟨b1,rfl,hb1s,hb1,hg3⟩;have hb1l:=hb1.lt;have z3:=hg3.size;repeat refine aF ?_
 refine mY (T2.range (ps:=[24]) (lb:=[_]) rfl (Nat.zero_le _) rfl ?_);intro rc w4 hli hs4 hg4 hl4 hD4;obtain ⟨D,hD⟩:∃ D,D=w3.heap.size:=⟨_,rfl⟩
 rw [← hD] at hl4 hD4 hs4 ⊢;have hg34:=hgw3.trans (hg3.trans hg4);have hgw4:=hgw2.trans hg34;have k104:=(k10.grow hg3).grow hg4;have hb14:=hb1.grow hg4;have z4:=z.grow hg34;have hpv:∀ k,pv.ownBlock=some k→k<b10:=λ k e=>by have:=(hcu.own e).2;omega
 have hcl:=hcu.lt;obtain ⟨tot,htot⟩:∃ t,t=rngL E.al E.fr E.to C.back C.most:=⟨_,rfl⟩
 rw [← htot] at z4 hrn ⊢
 refine Calls.mono (cyield_c (D+1) b1 cb C E (λ rm pv w'=>Blk w' b1 97 [.pointer (some ⟨cb,0,none⟩)]∧(∃ d fs ix,Cz w' C cb E d pv fs ix rm)∧(∀ k,pv.ownBlock=some k→k<b10∨D+1<k)∧(∃ told gv cs,told++rm=tot∧Blk w' b10 54 [gv]∧w'.ownsRow (D+2) 58 2 gv told.length cs∧ItCells (λ k=>(D+1<k∧pv.ownBlock≠some k)∧gv.ownBlock≠some k) w' cs told∧∀ k,gv.ownBlock=some k→pv.ownBlock≠some k)∧w'.heap[D+1]? = some (.loop (rc .ready none))∧w'.heap[D]? = some (.deferred (some []))∧Grow w w')
  (λ rm w'=>(∃ gv cs,Blk w' b10 54 [gv]∧w'.ownsRow (D+2) 58 2 gv tot.length cs∧ItCells (λ k=>D+1<k) w' cs tot)∧w'.heap[D+1]? = some (.loop (rc .ready none))∧w'.heap[D]? = some (.deferred (some []))∧Grow w w') (λ rm pv w' h=>⟨h.1,h.2.1⟩) ?_ ?_ tot pv _ ?_) ?_
 ·rintro it rm pv w5 ⟨q1,q2,q3,⟨told,gv,cs,g1,g2,g3,g4,g5⟩,q5,q6,q7⟩ w6 d' pv' fs' ix' a1 n1 c1 a2 n2 c2 hmem hz hto h1 h2;have l1:=q1.lt;have l4:=g2.lt;have l5:=(Array.getElem?_eq_some_iff.1 q5).1;have l6:=(Array.getElem?_eq_some_iff.1 q6).1
  have hfree:∀ k,b10≤k→k≤D+1→¬ (k=cb∨pv.ownBlock=some k):=λ k hk1 hk2 e=>by
   rcases e with e|e
   ·omega
   ·rcases q3 k e with e|e<;>omega
  have z6:=hto.but.size;have p1:=bY q1 hto.but (hfree b1 oM oM);have p2:=bY g2 hto.but (hfree b10 oM oM);have p5:w6.heap[D+1]? = some (.loop (rc .ready none)):=(hto.but.block _ l5 (hfree _ oM oM)).trans q5;have p6:w6.heap[D]? = some (.deferred (some [])):=(hto.but.block _ l6 (hfree _ oM oM)).trans q6
  have p3:∀ k,pv'.ownBlock=some k→k<b10∨D+1<k:=λ k e=>by
   rcases hto.own k e with e|e
   ·exact q3 k e
   ·omega
  have p7:Grow w w6:=iE q7 hto.but (λ k hk=>by
   rcases hk with e|e
   ·omega
   ·obtain ⟨_,_,_,z5⟩:=q2
    have:=(z5.cu.own e).1;omega)
  have r3:w6.ownsRow (D+2) 58 2 gv told.length cs:=cL g3 (λ k hk hv=>hto.but.block k (aT g3 hv).2 (λ e=>by
   rcases e with e|e
   ·omega
   ·exact g5 k hv e))
  have g5':∀ k,gv.ownBlock=some k→pv'.ownBlock≠some k:=λ k hv e=>by
   have:=(aT g3 hv).2;rcases hto.own k e with e|e
   ·exact g5 k hv e
   ·omega
  have r4:ItCells (λ k=>(D+1<k∧pv'.ownBlock≠some k)∧gv.ownBlock≠some k) w6 cs told:=g4.go ⟨hto.but.size,λ k hk hl=>⟨⟨⟨hk.1.1,λ e=>by
   rcases hto.own k e with e|e
   ·exact hk.1.2 e
   ·omega⟩,hk.2⟩,hto.but.block k hl (λ e=>by
    rcases e with e|e
    ·have:=hk.1.1;omega
    ·exact hk.1.2 e)⟩⟩
  have s1:Sl (λ k=>(D+1<k∧pv'.ownBlock≠some k)∧gv.ownBlock≠some k) w6 1 a1 n1 c1 (bB it.1):=h1.go (Carry.mono λ k hk _=>⟨⟨oM,hk.2⟩,λ e=>by have:=(aT g3 e).2;omega⟩);have s2:Sl (λ k=>(D+1<k∧pv'.ownBlock≠some k)∧gv.ownBlock≠some k) w6 1 a2 n2 c2 (bB it.2):=h2.go (Carry.mono λ k hk _=>⟨⟨oM,hk.2⟩,λ e=>by have:=(aT g3 e).2;omega⟩);have hp10:pv'.ownBlock≠some b10:=λ e=>by rcases p3 _ e with e|e<;>omega
  have hpD:pv'.ownBlock≠some (D+1):=λ e=>by rcases p3 _ e with e|e<;>omega
  have htl9:told.length≤1000:=by have:=congrArg List.length g1;rw [List.length_append] at this;omega
  refine yld_of hli p5 rfl rfl λ I=>?_;repeat (first|refine aF ?_|refine yI λ bk w' hg hbk hsz hsz'=>?_|refine yJ λ w' hu hbk hsz=>?_)
  have hgq:Grow w6 w':=aI hu oM hg;have k11:Blk w' bk 58 [.slice a1 n1 c1,.slice a2 n2 c2]:=hbk;have qk:w6.heap.size≤bk∧bk<w'.heap.size:=by have:=k11.lt;omega
  obtain ⟨w6',rfl⟩:=yE w';have hz':=hz.grow hgq;clear hbk hu hg;refine ⟨(hgq.block _ oM).trans p5,λ w7 hu7 hl7=>?_⟩;have x1:=(p1.grow hgq).upd hu7 oM;have x2:=(p2.grow hgq).upd hu7 oM;have x11:=k11.upd hu7 oM;have x3:=cL (aS r3 hgq) (w':=w7) (λ k hk hv=>hu7.block k oM);have cx:Carry (λ k=>(D+1<k∧pv'.ownBlock≠some k)∧gv.ownBlock≠some k) w6 (λ k=>(D+1<k∧pv'.ownBlock≠some k)∧gv.ownBlock≠some k) w7:=(Carry.grow hgq).trans (Carry.upd hu7 (λ k hk _=>by have:=hk.1.1;omega));have x4:=r4.go cx;have y1:=s1.go cx;have y2:=s2.go cx;have xz:=hz'.upd hu7 oM hpD;have xg:Grow w w7:=aI hu7 oM (p7.trans hgq);have xD:w7.heap[D]? = some (.deferred (some [])):=(hu7.block _ oM).trans ((hgq.block _ oM).trans p6);have z7:=hu7.size;have hgvl:∀ k,gv.ownBlock=some k→D+2≤k∧k<w7.heap.size:=λ k e=>aT x3 e;obtain ⟨ga,gc,rfl,-⟩:=aM g3;clear hu7 hgq p1 p2 k11 r3 r4 s1 s2 hz hz' cx;repeat refine aF ?_
  refine TL.buildSlice rfl rfl rfl rfl rfl ?_;intro b' wa hga hba hsa hsb hsc;have hba':Blk wa b' 58 [.slice a1 n1 c1,.slice a2 n2 c2]:=hba;have hsl:Sl (λ _=>True) wa 2 (some ⟨b',0,none⟩) 1 1 [.slice a1 n1 c1,.slice a2 n2 c2]:=(aV (sz:=2) (m:=1) hba' rfl dM).mono (λ _ _=>trivial);have za:=hga.size;have xa3:=aS x3 hga;refine eG (bytes:=48) rfl rfl xa3 hsl (by intro u hu;simp only [List.mem_cons,List.not_mem_nil,or_false] at hu;rcases hu with rfl|rfl<;>rfl) (by unfold maxLen;omega) oM oM rfl ?_;intro gv' wb hownb hgb hcar;have zb:=hgb.size;obtain ⟨ga',gc',rfl,-⟩:=aM hownb;have hk':∀ k,k<wa.heap.size→(Value.slice ga told.length gc).ownBlock≠some k→wb.heap[k]? = wa.heap[k]?:=λ k hk e=>hgb.block k hk (λ h=>e h.symm);have e10:(Value.slice ga told.length gc).ownBlock≠some b10:=λ e=>by have:=hgvl _ e;omega
  have e1:(Value.slice ga told.length gc).ownBlock≠some b1:=λ e=>by have:=hgvl _ e;omega
  have eD:(Value.slice ga told.length gc).ownBlock≠some D:=λ e=>by have:=hgvl _ e;omega
  have eD1:(Value.slice ga told.length gc).ownBlock≠some (D+1):=λ e=>by have:=hgvl _ e;omega
  have y10:=dS (x2.grow hga) (hk' b10 oM e10);repeat (first|refine aF ?_|refine yJ λ w' hu hbk hsz=>?_)
  have hbb:ButS (λ k=>(Value.slice ga told.length gc).ownBlock=some k) wa wb:=⟨hgb.os,hgb.tape,hgb.output,hgb.size,hk'⟩
  have zz:=(xz.grow hga).buts hbb (λ k hk=>⟨by have:=(hgvl k hk).1;omega,g5' k hk⟩);have hz8:=(xz.grow hga).cu
  have gd:∀ k,(Value.slice ga' (told.length+1) gc').ownBlock=some k→pv'.ownBlock≠some k:=λ k h1 h2=>by
   have hkl:=(hz8.own h2).2;have hkg:(Value.slice ga told.length gc).ownBlock≠some k:=λ e=>g5' k e h2;exact ((hcar (λ _=>True)).blk k ⟨trivial,hkg⟩ hkl).1.2 h1
  have cI:=(Carry.grow hga:Carry (λ k=>(D+1<k∧pv'.ownBlock≠some k)∧(Value.slice ga told.length gc).ownBlock≠some k) w7 _ wa).trans (hcar (λ k=>D+1<k∧pv'.ownBlock≠some k))
  have hit:ItCells (λ k=>(D+1<k∧pv'.ownBlock≠some k)∧(Value.slice ga' (told.length+1) gc').ownBlock≠some k) wb (cs++[.slice a1 n1 c1,.slice a2 n2 c2]) (told++[it]) :=
   ItCells.append (x4.go cI) ⟨⟨_,_,_,rfl,y1.go cI⟩,⟨_,_,_,rfl,y2.go cI⟩,trivial⟩
  have hgd:=λ k (e:(Value.slice ga' (told.length+1) gc').ownBlock=some k)=>(aT hownb e).1;refine ⟨?_,λ wz huz hlz=>.inl ⟨rfl,?_,⟨_,_,_,(zz.upd hu oM hp10).upd huz oM hpD⟩,p3,⟨told++[it],.slice ga' (told.length+1) gc',cs++[.slice a1 n1 c1,.slice a2 n2 c2],by rw [List.append_assoc];exact g1,hbk.upd huz oM,?_,?_,gd⟩,hlz,?_,?_⟩⟩
  ·rw [hu.block _ oM,hk' _ oM eD1,hga.block _ oM];exact hl7
  ·exact ((dS (x1.grow hga) (hk' b1 oM e1)).upd hu oM).upd huz oM
  ·rw [List.length_append];exact cL (cL hownb (w':=w') (λ k hk hv=>hu.block k oM)) (λ k hk hv=>huz.block k oM)
  ·exact (hit.go (Carry.upd hu (λ k hk _=>by have:=hk.1.1;omega))).go (Carry.upd huz (λ k hk _=>by have:=hk.1.1;omega))
  ·rw [huz.block _ oM,hu.block _ oM,hk' _ oM eD,hga.block _ oM];exact xD
  ·exact aI huz oM (aI hu oM (iE (xg.trans hga) hbb (λ k hk=>by have:=(hgvl k hk).1;omega)))
 ·rintro pv w5 ⟨q1,q2,q3,⟨told,gv,cs,g1,g2,g3,g4,g5⟩,q5,q6,q7⟩ w6 d' pv' fs' ix' hz hto;have l4:=g2.lt;have l5:=(Array.getElem?_eq_some_iff.1 q5).1;have l6:=(Array.getElem?_eq_some_iff.1 q6).1
  have hfree:∀ k,b10≤k→k≤D+1→¬ (k=cb∨pv.ownBlock=some k):=λ k hk1 hk2 e=>by
   rcases e with e|e
   ·omega
   ·rcases q3 k e with e|e<;>omega
  have p2:=bY g2 hto.but (hfree b10 oM oM);rw [List.append_nil] at g1;subst g1
  refine ⟨⟨gv,cs,p2,cL g3 (λ k hk hv=>hto.but.block k (aT g3 hv).2 (λ e=>by
   rcases e with e|e
   ·omega
   ·exact g5 k hv e)),g4.go ⟨hto.but.size,λ k hk hl=>⟨hk.1.1,hto.but.block k hl (λ e=>by
    rcases e with e|e
    ·have:=hk.1.1;omega
    ·exact hk.1.2 e)⟩⟩⟩,(hto.but.block _ l5 (hfree _ oM oM)).trans q5,(hto.but.block _ l6 (hfree _ oM oM)).trans q6,iE q7 hto.but (λ k hk=>by
   rcases hk with e|e
   ·omega
   ·obtain ⟨_,_,_,z5⟩:=q2
    have:=(z5.cu.own e).1;omega)⟩
 ·exact ⟨hb14,⟨_,_,_,z4⟩,λ k e=>.inl (hpv k e),⟨[],.slice none 0 0,[],rfl,k104,World.ownsRow_nil _ _ _ _,trivial,λ k e=>by cases e⟩,hl4,hD4,hgw4⟩
 ·rintro _ w5 ⟨v,rfl,rm',⟨gv,cs,g2,g3,g4⟩,q5,q6,q7⟩;obtain ⟨ga,gc,rfl,hgs⟩:=aM g3;refine ⟨v,rfl,q6,.inl ⟨q5,λ I w6 hu6=>?_⟩⟩;have q1':=g2.upd hu6 oM;repeat refine aF ?_
  refine ⟨?_,λ wz huz=>?_⟩
  ·rw [hu6.block _ oM];exact q6
  ·have cc:Carry (λ k=>D+1<k) w5 (λ k=>w.heap.size≤k) wz:=(Carry.upd hu6 (λ k hk _=>by omega)).trans ((Carry.upd huz (λ k hk _=>by omega)).trans (Carry.mono λ k hk _=>by omega));exact fM rfl rfl ⟨_,rfl,⟨ga,_,gc,rfl,⟨cs,(hgs.mono (λ k hk=>by have:=hk.1;omega)).go cc,g4.go cc⟩⟩,aI huz oM (aI hu6 oM q7)⟩
def keysB (l:bT):Bs:=l.flatMap (·.1)
theorem keysB_len (l:bT) (h:∀ x∈l,x.1.length≤16):(keysB l).length≤16*l.length:=by
 induction l with
 | nil=>simp [keysB]
 | cons x r ih =>
  have h1:=h x sM;have h2:=ih (λ y hy=>h y (List.mem_cons_of_mem _ hy));simp only [keysB,List.flatMap_cons,List.length_append,List.length_cons] at h2 ⊢;omega
theorem rngL_mem {l:bT} {fr to:Bs} {back:Bool} {most:Int} {x:Bs×Bs} (h:x∈rngL l fr to back most):x∈l:=by
 have hr:∀ y∈eN l fr to back,y∈l:=λ y hy=>by
  unfold eN at hy;have:=(List.mem_filter.1 hy).1;split at this
  ·exact List.mem_reverse.1 this
  ·exact this
 unfold rngL at h;split at h
 ·exact hr x (List.mem_of_mem_take h)
 ·exact hr x h
theorem rngL_len (l:bT) (fr to:Bs) (back:Bool) (most:Int):(rngL l fr to back most).length≤l.length:=by
 have hr:(eN l fr to back).length≤l.length:=by
  unfold eN;refine Nat.le_trans (List.length_filter_le _ _) ?_;split<;>simp
 unfold rngL;split
 ·rw [List.length_take];omega
 ·exact hr
theorem keys_c {w:World} {L:PL} {g:Pg} (hp:PgW w L g) {root:Option Nat} {lv:Nat} {l:bT} {ps:List Nat} (ht:TrAt g root lv l ps) (hlv:lv≤15) (hl:l.length≤1000) (hby:∀ x∈l,eZ x.1∧eZ x.2) (G:Nat→Prop) (fa ta:Option Addr) (fn fc tn tc:Nat) (fr to:Bs) (back:Bool) (most:Int) (hf:Sl G w 1 fa fn fc (bB fr)) (hto:Sl G w 1 ta tn tc (bB to)) (hfr:fr.length≤16) (htl:to.length≤16) (hm:0≤most∧most≤9223372036854775807) :
  Calls Tryz.prog 131 #[.pointer (some ⟨L.p,0,none⟩),.int .i64 (dZ root),.agg #[.slice fa fn fc,.slice ta tn tc,.bool back,.int .i64 most]] w (Ret λ v w'=>v=.string (kH (keysB (rngL l fr to back most)))∧Grow w w'):=by
 have hko:∀ x∈l,x.1.length≤16∧x.2.length≤32:=λ x hx=>⟨(eM (ht.items x hx).1).2,iD (ht.items x hx).2⟩
 refine V.calls (args:=[_,_,_]) Tryz.func131 rfl Tryz.ntmps131 rfl rfl ?_;repeat (first|refine aF ?_|refine yI λ bk w' hg hbk hsz hsz'=>?_)
 refine aB 54 ?_;refine aA rfl (crange_c (hp.grow hg) ht hlv hl hby G fa ta fn fc tn tc fr to back most (hf.grow hg) (hto.grow hg) hfr htl hm) rfl ?_;rintro _ w2 ⟨⟨a,n,c,rfl,hits⟩,hg2⟩;have hgw:=hg.trans hg2;have hn:=hits.len;obtain ⟨R,hR⟩:∃ R,R=rngL l fr to back most:=⟨_,rfl⟩
 have hmem:∀ x∈R,x.1.length≤16:=λ x hx=>(hko x (rngL_mem (by rw [← hR];exact hx))).1;have hRl:R.length≤1000:=by rw [hR];exact Nat.le_trans (rngL_len _ _ _ _ _) hl
 rw [← hR] at hits hn ⊢;subst hn;obtain ⟨cs,hcs,hcc⟩:=hits.ex;clear hbk hg hg2 hsz hsz';repeat refine aF ?_
 refine aX (S:=Nat) (λ i=>[(10,.int .i64 (i:Int)),(9,.string (kH (keysB (R.take i)))),(7,.slice a R.length c)]) (λ i w1=>i≤R.length∧w2=w1) (λ i=>R.length-i) 0 ⟨rfl,rfl,rfl,trivial⟩ ⟨Nat.zero_le _,rfl⟩ ?_;rintro i w3 ⟨hi,rfl⟩;by_cases hlt:i<R.length;rotate_left
 ·obtain rfl:i=R.length:=by omega
  repeat refine aF ?_
  rw [List.take_length];exact bA rfl ⟨_,rfl,rfl,hgw⟩
 obtain ⟨x,hx⟩:∃ x,R[i]? = some x:=⟨_,List.getElem?_eq_getElem hlt⟩
 obtain ⟨kv,vv,f0,f1,⟨ka,kn,kc,rfl,hks⟩,hbv⟩:=hcc.at' hx;rw [Nat.mul_comm] at f0;have hk16:=hmem x (List.mem_of_getElem? hx);have hkl:=keysB_len (R.take i) (λ y hy=>hmem y (List.mem_of_mem_take hy));rw [List.length_take] at hkl
 have hstep:keysB (R.take (i+1))=keysB (R.take i)++x.1:=by
  rw [eA hx];simp [keysB]
 repeat (first|(refine aH ?_;refine aC (j:=i) rfl rfl rfl hlt rfl ⟨_,_,hcs⟩ rfl ?_)|(refine bK ?_;refine bJ (o:=i*2) rfl hcs f0 rfl ?_)|(refine aO ?_;refine aQ rfl (hcs.row.cell f0) rfl ?_)|refine gG rfl hks rfl ?_|(refine nY ?_;refine TL.addS rfl rfl oM rfl ?_)|refine yC ?_)
 rw [← hstep];exact aE (i+1) ⟨rfl,rfl,rfl,trivial⟩ ⟨oM,rfl⟩ oM
def lit1 (x:Bs×Bs):Bool:=decide (x.1.length≤100)&&decide (x.2.length≤100)
def lightB (l:bT):Bool:=decide (l.length≤60)&&l.all lit1
theorem light_c {F:Nat→Prop} {w:World} {a:Option Addr} {n c:Nat} {l:bT} (h:ItsAt F w a n c l) :
  Calls Tryz.prog 52 #[.slice a n c] w (Ret λ v w'=>v=.bool (lightB l)∧w=w'):=by
 obtain ⟨cs,hcs,hcc⟩:=h.ex;have hn:=h.len;have hcap:=hcs.cap;have hmax:=hcs.max;subst hn;refine V.calls (args:=[_]) Tryz.func52 rfl Tryz.ntmps52 rfl rfl ?_;by_cases h60:60<l.length
 ·repeat refine aF ?_
  exact bA rfl ⟨_,rfl,by simp [lightB];omega,rfl⟩
 repeat refine aF ?_
 refine aX (S:=Nat) (λ i=>[(3,.int .i64 (i:Int)),(0,.slice a l.length c)]) (λ i w1=>i≤l.length∧w=w1∧(l.take i).all lit1=true) (λ i=>l.length-i) 0 ⟨rfl,rfl,trivial⟩ ⟨Nat.zero_le _,rfl,rfl⟩ ?_;rintro i w3 ⟨hi,rfl,hall⟩;by_cases hlt:i<l.length;rotate_left
 ·obtain rfl:i=l.length:=by omega
  rw [List.take_length] at hall;repeat refine aF ?_
  exact bA rfl ⟨_,rfl,by rw [lightB,hall,decide_eq_true oM];rfl,rfl⟩
 obtain ⟨x,hx⟩:∃ x,l[i]? = some x:=⟨_,List.getElem?_eq_getElem hlt⟩
 obtain ⟨kv,vv,f0,f1,hk,hv⟩:=hcc.at' hx;obtain ⟨ka,kc,rfl,hks⟩:=hk.sl;obtain ⟨va,vc,rfl,hvs⟩:=hv.sl;rw [Nat.mul_comm] at f0 f1
 have hstep:(l.take (i+1)).all lit1=lit1 x:=by
  rw [eA hx,List.all_append,hall];simp
 have hno:lit1 x=false→lightB l=false:=λ e=>by
  have:l.all lit1=false:=by
   rw [List.all_eq_false];exact ⟨x,List.mem_of_getElem? hx,by rw [e];simp⟩
  rw [lightB,this,Bool.and_false]
 by_cases h1:x.1.length≤100
 ·by_cases h2:x.2.length≤100
  ·have hl1:lit1 x=true:=by simp [lit1,h1,h2]
   repeat (first|(refine aH ?_;refine aC (j:=i) rfl rfl rfl hlt rfl ⟨_,_,hcs⟩ rfl ?_)|(refine bK ?_;refine bJ (o:=i*2) rfl hcs f0 rfl ?_)|(refine aO ?_;first|refine aQ rfl (hcs.row.cell f0) rfl ?_|refine aQ rfl (hcs.row.cell f1) rfl ?_)|refine yC ?_)
   exact aE (i+1) ⟨rfl,rfl,trivial⟩ ⟨oM,rfl,by rw [hstep,hl1]⟩ oM
  ·repeat (first|(refine aH ?_;refine aC (j:=i) rfl rfl rfl hlt rfl ⟨_,_,hcs⟩ rfl ?_)|(refine bK ?_;refine bJ (o:=i*2) rfl hcs f0 rfl ?_)|(refine aO ?_;first|refine aQ rfl (hcs.row.cell f0) rfl ?_|refine aQ rfl (hcs.row.cell f1) rfl ?_)|refine yC ?_)
   exact bA rfl ⟨_,rfl,by rw [hno (by simp [lit1,h2])],rfl⟩
 ·repeat (first|(refine aH ?_;refine aC (j:=i) rfl rfl rfl hlt rfl ⟨_,_,hcs⟩ rfl ?_)|(refine bK ?_;refine bJ (o:=i*2) rfl hcs f0 rfl ?_)|(refine aO ?_;refine aQ rfl (hcs.row.cell f0) rfl ?_)|refine yC ?_)
  exact bA rfl ⟨_,rfl,by rw [hno (by simp [lit1,h1])],rfl⟩
def li3:bT:=[([97],[]),([99],[]),([101],[])]
theorem jL {F:Nat→Prop} {w:World}:Sl F w 1 none 0 0 (bB []):=⟨by simp [bB],Nat.le_refl _,Nat.zero_le _,λ _=>rfl,by simp [Row,bB]⟩
theorem li3_by:∀ x∈li3,eZ x.1∧eZ x.2:=by
 intro x hx;simp only [li3,List.mem_cons,List.not_mem_nil,or_false] at hx;rcases hx with rfl|rfl|rfl<;>exact ⟨λ y hy=>by simp at hy;omega,λ y hy=>by simp at hy⟩
theorem lives13v_c (w:World) (htab:TabAt w) :
  Calls Tryz.prog 51 #[] w (Ret λ v w'=>v=.bool true∧Grow w w'):=by
 have h0:0<w.heap.size:=htab.1;refine V.calls (args:=[]) Tryz.func51 rfl Tryz.ntmps51 rfl rfl ?_;repeat refine aF ?_
 refine TL.buildSlice rfl rfl rfl rfl rfl ?_;intro b1 w1 hg1 hb1 hx1 hy1 _;refine jM rfl (show Blk w1 b1 5 (bB [97]) from hb1) rfl oM (by unfold maxLen;omega) rfl ?_;intro w2 hu2 hs2;have gg2:Grow w w2:=aI hu2 oM hg1;have zz2:=gg2.size;have hl2:b1<w2.heap.size:=by have:=hu2.size;omega
 repeat refine aF ?_
 refine TL.buildSlice rfl rfl rfl rfl rfl ?_;intro b3 w3 hg3 hb3 hx3 hy3 _;refine jM rfl (show Blk w3 b3 5 (bB [99]) from hb3) rfl oM (by unfold maxLen;omega) rfl ?_;intro w4 hu4 hs4;have gg4:Grow w2 w4:=aI hu4 oM hg3;have zz4:=gg4.size;have hl4:b3<w4.heap.size:=by have:=hu4.size;omega
 repeat refine aF ?_
 refine TL.buildSlice rfl rfl rfl rfl rfl ?_;intro b5 w5 hg5 hb5 hx5 hy5 _;refine jM rfl (show Blk w5 b5 5 (bB [101]) from hb5) rfl oM (by unfold maxLen;omega) rfl ?_;intro w6 hu6 hs6;have gg6:Grow w4 w6:=aI hu6 oM hg5;have zz6:=gg6.size;have hl6:b5<w6.heap.size:=by have:=hu6.size;omega
 repeat refine aF ?_
 refine TL.buildSlice rfl rfl rfl rfl rfl ?_;intro b7 w7 hg7 hb7 hx7 hy7 _;have hb7':Blk w7 b7 58 [.slice (some ⟨b1,0,none⟩) 1 1,.slice none 0 0,.slice (some ⟨b3,0,none⟩) 1 1,.slice none 0 0,.slice (some ⟨b5,0,none⟩) 1 1,.slice none 0 0]:=hb7;have g27:=(gg4.trans gg6).trans hg7;have g47:=gg6.trans hg7;have hgw7:Grow w w7:=gg2.trans g27;have hits:ItsAt (λ _=>True) w7 (some ⟨b7,0,none⟩) 3 3 li3:=⟨_,(aV (sz:=2) (m:=3) hb7' rfl dM).mono (λ _ _=>trivial),⟨_,_,_,rfl,(hs2.mono (λ _ _=>trivial)).grow g27⟩,⟨_,_,_,rfl,jL⟩,⟨_,_,_,rfl,(hs4.mono (λ _ _=>trivial)).grow g47⟩,⟨_,_,_,rfl,jL⟩,⟨_,_,_,rfl,(hs6.mono (λ _ _=>trivial)).grow hg7⟩,⟨_,_,_,rfl,jL⟩,trivial⟩
 refine aB 53 ?_;refine aA rfl (planted_c (htab.keep (hgw7.block 0 htab.1) hgw7.size) hits li3_by dM dM) rfl ?_;rintro _ w8 ⟨L,R,root,g,lv,ps,rfl,hpl,hcnt,hsp,htr,hlv,hg8⟩;rw [show hX li3=li3 by decide] at htr;have hgw8:=hgw7.trans hg8;have gP0:Grow w8 w8:=Grow.refl _;repeat refine aF ?_
 refine TL.buildSlice rfl rfl rfl rfl rfl ?_;intro b9 w9 hg9 hb9 hx9 hy9 _;refine eK rfl rfl rfl ?_;refine jM rfl (show Blk w9 b9 5 (bB [98]) from hb9) rfl oM (by unfold maxLen;omega) rfl ?_;intro w10 hu10 hs10;have gg10:Grow w8 w10:=aI hu10 oM hg9;have zz10:=gg10.size;repeat refine aF ?_
 have hp10:=(hpl.grow (gP0.trans gg10)).pw;refine aB 131 ?_;refine aA rfl (keys_c hp10 htr oM dM li3_by (λ _=>True) _ _ _ _ _ _ [98] [] false 0 (hs10.mono (λ _ _=>trivial)) jL dM dM dM) rfl ?_;rintro _ w11 ⟨rfl,hg11⟩;rw [show keysB (rngL li3 [98] [] false 0)=[99,101] by decide];have gP1:=(gP0.trans gg10).trans hg11;repeat (first|(refine iQ ?_;refine TL.eqS (s:=kH [99,101]) (t:=kH [99,101]) (b:=true) rfl rfl sM rfl ?_)|refine yC ?_)
 refine TL.buildSlice rfl rfl rfl rfl rfl ?_;intro b12 w12 hg12 hb12 hx12 hy12 _;refine eK rfl rfl rfl ?_;refine jM rfl (show Blk w12 b12 5 (bB [99]) from hb12) rfl oM (by unfold maxLen;omega) rfl ?_;intro w13 hu13 hs13;have gg13:Grow w11 w13:=aI hu13 oM hg12;have zz13:=gg13.size;repeat (refine yC ?_)
 have hp13:=(hpl.grow (gP1.trans gg13)).pw;refine aB 131 ?_;refine aA rfl (keys_c hp13 htr oM dM li3_by (λ _=>True) _ _ _ _ _ _ [] [99] false 0 jL (hs13.mono (λ _ _=>trivial)) dM dM dM) rfl ?_;rintro _ w14 ⟨rfl,hg14⟩;rw [show keysB (rngL li3 [] [99] false 0)=[97] by decide];have gP2:=(gP1.trans gg13).trans hg14;repeat (first|(refine iQ ?_;refine TL.eqS (s:=kH [97]) (t:=kH [97]) (b:=true) rfl rfl sM rfl ?_)|refine yC ?_)
 obtain ⟨w16,hw16⟩:∃ y,y=w14:=⟨w14,rfl⟩
 have gg16:Grow w14 w16:=by rw [hw16];exact Grow.refl _
 rw [← hw16];have hp16:=(hpl.grow (gP2.trans gg16)).pw;refine aB 131 ?_;refine aA rfl (keys_c hp16 htr oM dM li3_by (λ _=>True) _ _ _ _ _ _ [] [] true 0 jL jL dM dM dM) rfl ?_;rintro _ w17 ⟨rfl,hg17⟩;rw [show keysB (rngL li3 [] [] true 0)=[101,99,97] by decide];have gP3:=(gP2.trans gg16).trans hg17;repeat (first|(refine iQ ?_;refine TL.eqS (s:=kH [101,99,97]) (t:=kH [101,99,97]) (b:=true) rfl rfl sM rfl ?_)|refine yC ?_)
 refine TL.buildSlice rfl rfl rfl rfl rfl ?_;intro b18 w18 hg18 hb18 hx18 hy18 _;refine eK rfl rfl rfl ?_;refine jM rfl (show Blk w18 b18 5 (bB [98]) from hb18) rfl oM (by unfold maxLen;omega) rfl ?_;intro w19 hu19 hs19;have gg19:Grow w17 w19:=aI hu19 oM hg18;have zz19:=gg19.size;repeat (refine yC ?_)
 have hp19:=(hpl.grow (gP3.trans gg19)).pw;refine aB 131 ?_;refine aA rfl (keys_c hp19 htr oM dM li3_by (λ _=>True) _ _ _ _ _ _ [98] [] true 1 (hs19.mono (λ _ _=>trivial)) jL dM dM dM) rfl ?_;rintro _ w20 ⟨rfl,hg20⟩;rw [show keysB (rngL li3 [98] [] true 1)=[101] by decide];have gP4:=(gP3.trans gg19).trans hg20;repeat (first|(refine iQ ?_;refine TL.eqS (s:=kH [101]) (t:=kH [101]) (b:=true) rfl rfl sM rfl ?_)|refine yC ?_)
 exact bA rfl ⟨_,rfl,rfl,hgw8.trans gP4⟩
theorem kitem_c {F G:Nat→Prop} {w:World} {a1 a2 b1 b2:Option Addr} {n1 c1 n2 c2 m1 d1 m2 d2:Nat} {it:Bs×Bs} (h1:Sl F w 1 a1 n1 c1 (bB it.1)) (h2:Sl F w 1 a2 n2 c2 (bB it.2)) (k1:Sl G w 1 b1 m1 d1 (bB it.1)) (k2:Sl G w 1 b2 m2 d2 (bB it.2)) :
  Calls Tryz.prog 59 #[.agg #[.slice a1 n1 c1,.slice a2 n2 c2],.agg #[.slice b1 m1 d1,.slice b2 m2 d2]] w (Ret λ v w'=>v=.bool true∧Grow w w'):=by
 refine V.calls (args:=[_,_]) Tryz.func59 rfl Tryz.ntmps59 rfl rfl ?_;repeat (first|(refine dL ?_;first|refine gG rfl (h1.grow yG) rfl ?_|refine gG rfl (h2.grow yG) rfl ?_|refine gG rfl (k1.grow yG) rfl ?_|refine gG rfl (k2.grow yG) rfl ?_)|(refine iQ ?_;refine TL.eqS (b:=true) rfl rfl sM rfl ?_)|refine yC ?_|refine yI λ bk w' hg hbk hsz hsz'=>?_)
 exact bA rfl ⟨_,rfl,rfl,yG⟩
theorem ItsAt.item {F:Nat→Prop} {w:World} {a:Option Addr} {n c:Nat} {l:bT} (h:ItsAt F w a n c l) {i:Nat} {x:Bs×Bs} (hx:l[i]? = some x):∃ ka kc va vc cs,Sl F w 2 a n c cs∧(∀ j u,[Value.slice ka x.1.length kc,.slice va x.2.length vc][j]? = some u→cs[i*2+j]? = some u)∧Sl F w 1 ka x.1.length kc (bB x.1)∧Sl F w 1 va x.2.length vc (bB x.2):=by
 obtain ⟨cs,hcs,hcc⟩:=h.ex;obtain ⟨kv,vv,f0,f1,hk,hv⟩:=hcc.at' hx;obtain ⟨ka,kc,rfl,hks⟩:=hk.sl;obtain ⟨va,vc,rfl,hvs⟩:=hv.sl;rw [Nat.mul_comm] at f0 f1;exact ⟨ka,kc,va,vc,cs,hcs,two_at f0 f1,hks,hvs⟩
theorem klt_cons {a b:Nat} {x y:Bs}:eO (a::x) (b::y)↔a<b∨a=b∧eO x y:=by
 unfold eO;simp only [bW];split
 ·rename_i h;simp [h]
 ·rename_i h;split
  ·rename_i h2;refine ⟨λ e=>by omega,λ e=>?_⟩;rcases e with e|⟨e,_⟩<;>omega
  ·rename_i h2;have:a=b:=by omega
   subst this;simp
theorem less_txt:∀ {l r:Bs},(∀ x∈l,x<256)→(∀ x∈r,x<256)→Op.bytesLess (kH l).toList (kH r).toList=decide (eO l r)
 | l,r,hl,hr=>by
  rw [txt_list,txt_list]
  induction l generalizing r with
  | nil =>
   cases r with
   | nil=>simp [Op.bytesLess,eO,bW]
   | cons b y=>simp [Op.bytesLess,eO,bW]
  | cons a x ih =>
   cases r with
   | nil=>simp [Op.bytesLess,eO,bW]
   | cons b y =>
    have ha:a<256:=hl a sM;have hb:b<256:=hr b sM
    have h1:(UInt8.ofNat a<UInt8.ofNat b)↔a<b:=by
     rw [UInt8.lt_iff_toNat_lt,UInt8.toNat_ofNat_of_lt' ha,UInt8.toNat_ofNat_of_lt' hb]
    have h2:(UInt8.ofNat a==UInt8.ofNat b)=decide (a=b):=by
     by_cases h:a=b
     ·subst h;simp
     ·rw [decide_eq_false h,beq_eq_false_iff_ne];intro e;have:=congrArg UInt8.toNat e;rw [UInt8.toNat_ofNat_of_lt' ha,UInt8.toNat_ofNat_of_lt' hb] at this;exact h this
    have h3:=ih (r:=y) (λ z hz=>hl z (List.mem_cons_of_mem _ hz)) (λ z hz=>hr z (List.mem_cons_of_mem _ hz));simp only [List.map_cons,Op.bytesLess,h2,h3];rw [Bool.eq_iff_iff];simp only [Bool.or_eq_true,Bool.and_eq_true,decide_eq_true_eq,h1,klt_cons]
def HasOk (F:Nat→Prop) (w:World) (f:Bs→Option Value) (its:bT):Prop:=∀ k,(f k=none∧∀ y∈its,y.1≠k)∨∃ u v,f k=some u∧(k,v)∈its∧BsAt F w u v
theorem HasOk.go {F F':Nat→Prop} {w w':World} {f:Bs→Option Value} {its:bT} (h:HasOk F w f its) (g:Carry F w F' w'):HasOk F' w' f its:=λ k=>by
 rcases h k with h|⟨u,v,h1,h2,h3⟩
 ·exact .inl h
 ·exact .inr ⟨u,v,h1,h2,h3.go g⟩
theorem HasOk.put {F:Nat→Prop} {w:World} {f:Bs→Option Value} {its:bT} (h:HasOk F w f its) (hs:Srt its) {key v:Bs} {u:Value} (hu:BsAt F w u v):HasOk F w (upG f key u) (gW key v its):=λ k=>by
 by_cases hk:k=key
 ·subst hk;exact .inr ⟨u,v,by simp [upG],(insI_iff hs).2 (.inl rfl),hu⟩
 ·rcases h k with ⟨h1,h2⟩|⟨u',v',h1,h2,h3⟩
  ·refine .inl ⟨by unfold upG;rw [if_neg hk];exact h1,λ y hy=>?_⟩;rcases (insI_iff hs).1 hy with rfl|⟨hy,_⟩
   ·exact λ e=>hk e.symm
   ·exact h2 y hy
  ·exact .inr ⟨u',v',by unfold upG;rw [if_neg hk];exact h1,(insI_iff hs).2 (.inr ⟨h2,hk⟩),h3⟩
theorem HasOk.keys {F:Nat→Prop} {w:World} {f:Bs→Option Value} {its:bT} (h:HasOk F w f its) (k:Bs):(∃ v,f k=some v)↔k∈its.map (·.1):=by
 rcases h k with ⟨h1,h2⟩|⟨u,v,h1,h2,h3⟩
 ·rw [h1]
  exact ⟨(λ ⟨v,e⟩=>by cases e),λ hk=>by
   obtain ⟨y,hy,e⟩:=List.mem_map.1 hk
   exact absurd e (h2 y hy)⟩
 ·exact ⟨λ _=>List.mem_map.2 ⟨_,h2,rfl⟩,λ _=>⟨u,h1⟩⟩
def rootVs (rs:List (Option Nat)):List Value:=rs.map λ r=>.int .i64 (dZ r)
def txtVs (ts:List Bs):List Value:=ts.map λ t=>.string (kH t)
def Fv (L:PL) (m:Nat) (rv tv:Value) (k:Nat):Prop:=¬ L.S k∧k≠m∧rv.ownBlock≠some k∧tv.ownBlock≠some k
structure Hd (B:Nat) (v:World) (L:PL) (m:Nat) (rv tv:Value) (rs:List (Option Nat)) (ts:List Bs) (f:Bs→Option Value) (its:bT):Prop where
 r:v.ownsRow B 3 1 rv rs.length (rootVs rs)
 t:v.ownsRow B 9 1 tv ts.length (txtVs ts)
 rn:∀ k,rv.ownBlock=some k→¬ L.S k∧k≠m∧tv.ownBlock≠some k
 tn:∀ k,tv.ownBlock=some k→¬ L.S k∧k≠m
 dn:rv.ownBlock≠some L.d∧tv.ownBlock≠some L.d
 mp:MapG keyS okS v m f
 mn:¬ L.S m∧B≤m∧m≠L.d
 has:HasOk (Fv L m rv tv) v f its
variable {B:Nat} {v v':World} {L:PL} {m:Nat} {rv tv:Value} {rs:List (Option Nat)} {ts:List Bs} {f:Bs→Option Value} {its:bT}
theorem Hd.grow (h:Hd B v L m rv tv rs ts f its) (g:Grow v v'):Hd B v' L m rv tv rs ts f its :=
 ⟨aS h.r g,aS h.t g,h.rn,h.tn,h.dn,h.mp.grow g,h.mn,h.has.go (Carry.grow g)⟩
theorem Hd.pages {L':PL} (h:Hd B v L m rv tv rs ts f its) (h1:L'.p=L.p) (h0:L'.d=L.d) (h2:L'.m=L.m) (h3:v.heap.size≤L'.u) (b:ButS (λ k=>k=L.p) v v'):Hd B v' L' m rv tv rs ts f its:=by
 have hS:∀ k,k<v.heap.size→¬ L.S k→¬ L'.S k:=λ k hk hn hS=>by
  unfold PL.S at hn hS;rw [h1,h2] at hS;rcases hS with hS|hS|hS
  ·omega
  ·exact hn (.inr (.inl hS))
  ·exact hn (.inr (.inr hS))
 have hp:∀ k,¬ L.S k→k≠L.p:=λ k hn e=>hn (.inr (.inr e));refine ⟨cL h.r λ k hk hv=>b.block k (aT h.r hv).2 (hp k (h.rn k hv).1),cL h.t λ k hk hv=>b.block k (aT h.t hv).2 (hp k (h.tn k hv).1),λ k hv=>⟨hS k (aT h.r hv).2 (h.rn k hv).1,(h.rn k hv).2⟩,λ k hv=>⟨hS k (aT h.t hv).2 (h.tn k hv).1,(h.tn k hv).2⟩,h0▸h.dn,h.mp.keep (b.block m h.mp.lt (hp m h.mn.1)),⟨hS m h.mp.lt h.mn.1,h.mn.2.1,h0▸h.mn.2.2⟩,h.has.go ?_⟩;exact (Carry.mono (F':=λ k=>Fv L m rv tv k∧k<v.heap.size) λ k hk hl=>⟨hk,hl⟩).trans ((Carry.buts b λ k hk _=>hp k hk.1.1).trans (Carry.mono λ k hk _=>⟨hS k hk.2 hk.1.1,hk.1.2⟩))
theorem new_block {v v':World} {rv rv':Value} (car:∀ G:Nat→Prop,Carry (λ j=>G j∧rv.ownBlock≠some j) v (λ j=>G j∧rv'.ownBlock≠some j) v') {j:Nat} (h:rv'.ownBlock=some j):rv.ownBlock=some j∨v.heap.size≤j:=by
 by_cases h1:rv.ownBlock=some j
 ·exact .inl h1
 ·rcases Nat.lt_or_ge j v.heap.size with h2|h2
  ·exact absurd h ((car (λ x=>x=j)).blk j ⟨rfl,h1⟩ h2).1.2
  ·exact .inr h2
theorem Hd.pushR (h:Hd B v L m rv tv rs ts f its) (hl:∀ k,L.S k∨k=L.d→k<v.heap.size) {rv':Value} {r:Option Nat} (ho:v'.ownsRow B 3 1 rv' (rs.length+1) (rootVs rs++[.int .i64 (dZ r)])) (gb:v.grownBy v' rv.ownBlock) (car:∀ G:Nat→Prop,Carry (λ j=>G j∧rv.ownBlock≠some j) v (λ j=>G j∧rv'.ownBlock≠some j) v'):Hd B v' L m rv' tv (rs++[r]) ts f its:=by
 have ht:=cL (w':=v') h.t λ k hk hv=>gb.block k (aT h.t hv).2 λ e=>(h.rn k e.symm).2.2 hv;refine ⟨by rw [List.length_append,rootVs,List.map_append];exact ho,ht,λ k hk=>?_,h.tn,⟨λ e=>(new_block car e).elim h.dn.1 λ h1=>by have:=hl _ (.inr rfl);omega,h.dn.2⟩,h.mp.keep (gb.block m h.mp.lt λ e=>(h.rn m e.symm).2.1 rfl),h.mn,h.has.go ?_⟩
 ·rcases new_block car hk with h1|h1
  ·exact h.rn k h1
  ·refine ⟨λ hS=>by have:=hl k (.inl hS);omega,λ e=>by have:=h.mp.lt;omega,λ e=>by have:=(aT h.t e).2;omega⟩
 ·exact (Carry.mono (F':=λ j=>(¬ L.S j∧j≠m∧tv.ownBlock≠some j)∧rv.ownBlock≠some j) λ k hk _=>⟨⟨hk.1,hk.2.1,hk.2.2.2⟩,hk.2.2.1⟩).trans ((car _).trans (Carry.mono λ k hk _=>⟨hk.1.1,hk.1.2.1,hk.2,hk.1.2.2⟩))
end Go.Proofs.YtfpadnmdafiddaaGreatDoor
