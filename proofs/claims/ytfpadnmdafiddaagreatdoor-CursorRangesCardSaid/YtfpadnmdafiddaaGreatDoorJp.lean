import Derived.Test.YtfpadnmdafiddaaGreatDoorJ0
import Derived.Test.YtfpadnmdafiddaaGreatDoorJo
import Derived.Test.YtfpadnmdafiddaaGreatDoorJb
import Derived.Shelf.SlIterI.Sorted
import Derived.Shelf.SortM.Plain
import Derived.Shelf.SortM.SortNone
import Derived.Test.YtfpadnmdafiddaaGreatDoorJl
import Derived.Test.YtfpadnmdafiddaaGreatDoorJj
import Derived.Test.YtfpadnmdafiddaaGreatDoorJm
set_option linter.all false
set_option maxHeartbeats 16000000
set_option maxRecDepth 100000
namespace Go.Proofs.YtfpadnmdafiddaaGreatDoor
open Go Go.RowKit Go.V
theorem zeros_ws (n:Nat):(madeCells (Value.int IntKind.u64 0).cells (n*1)).toList=kY (List.replicate n 0):=by
 have h0:∀ x:Nat,(Value.int IntKind.u64 0).cells[x%(Value.int IntKind.u64 0).cells.size]! = .int .u64 0:=λ x=>by
  rw [show (Value.int IntKind.u64 0).cells = #[.int .u64 0] from rfl];simp [Nat.mod_one]
 simp only [kY,madeCells,Nat.mul_one,Array.toList_map,Array.toList_range,h0,List.map_replicate];rw [List.map_const',List.length_range];rfl
theorem keep_n {F:Nat→Prop} {w:World} {L:PL} {g:Pg} (h:PgAt w L g) {a:Option Addr} {n c:Nat} {qs:List Nat} (hs:Sl F w 1 a n c (bC qs)) (hF:∀ k,F k→k<w.heap.size) (hq:∀ q∈qs,bK g q=true) (hn:n≤1000000) :
  Calls Tryz.prog 23 #[.pointer (some ⟨L.p,0,none⟩),.slice a n c] w (Ret λ v w'=>∃ L':PL,L'.p=L.p∧L'.d=L.d∧L'.m=L.m∧L'.s=L.s∧w.heap.size≤L'.u∧v=.tuple #[.int .i64 ((iJ g.words:Int)-(iJ (lL g qs):Int)),.int .i64 0]∧PgAt w' L' (jL g qs)∧ButS (λ k=>k=L.p) w w'):=by
 have x1:=bU hs;subst x1;have h3:=hs.le;refine V.calls (args:=[_,_]) Tryz.func23 rfl Tryz.ntmps23 rfl rfl ?_;have hb:=h.blk;have hu:=h.used;have j3:=h.cnt;have g3:=h.ok.wl;unfold pgc at hb;have g2:=h.lts;repeat (first|(refine aB 85 ?_;refine aA rfl (valid_c h) rfl ?_;rintro _ _ ⟨rfl,rfl⟩)|refine yC ?_)
 refine jF (c:=g.words.length) (z:=.int .u64 0) rfl rfl oM (by unfold maxLen;omega) rfl ?_;intro b1 w1 k3 h0 h1;have m0:=blk_of_own h0;rw [zeros_ws] at m0;have z1:=h1.size;repeat (first|refine aF ?_|refine yI λ bk w' hg n0 u1 s1=>?_)
 have f0:Grow w w':=h1.trans hg;have t0:Blk w' b1 168 (kY (List.replicate g.words.length 0)):=m0.grow hg;have s2:Blk w' bk 150 [.pointer none,.pointer none,.int .i64 0,.slice (some ⟨b1,0,none⟩) g.words.length g.words.length]:=n0;have z0:=f0.size;have u2:b1<w1.heap.size:=m0.lt;have o0:b1≠bk:=by omega
 clear n0 h0 m0 hg;obtain ⟨w0,rfl⟩:=yE w';have s0:=keep_div h.ok hq;rw [List.length_replicate] at s0
 refine aX (S:=Nat) (λ i=>[(23,.int .i64 (i:Int)),(22,.int .i64 (qs.length:Int)),(21,.slice a qs.length c),(6,.pointer (some ⟨bk,0,none⟩)),(0,.pointer (some ⟨L.p,0,none⟩))])
  (λ i w2=>i≤qs.length∧Blk w2 b1 168 (kY ((qs.take i).foldl hU (List.replicate g.words.length 0)))∧But b1 w0 w2) (λ i=>qs.length-i) 0 ⟨rfl,rfl,rfl,rfl,rfl,trivial⟩ ⟨Nat.zero_le _,t0,But.refl _ _⟩ ?_
 rintro i w2 ⟨hi,i0,a0⟩;have z2:=a0.size;have l0:PgAt w2 L g:=(h.grow f0).keep (λ k hk=>a0.block k oM oM);have r2:Blk w2 bk 150 [.pointer none,.pointer none,.int .i64 0,.slice (some ⟨b1,0,none⟩) g.words.length g.words.length]:=cG a0 s2 (Ne.symm o0);have x0:Sl F w2 1 a qs.length c (bC qs):=hs.go ((Carry.grow f0).trans (Carry.but a0 (λ k hk _=>by have:=hF k hk;omega)));by_cases y0:i<qs.length
 ·obtain ⟨x,hx⟩:∃ q,qs[i]? = some q:=⟨_,List.getElem?_eq_getElem y0⟩
  have v0:=List.mem_of_getElem? hx;have u0:=hq x v0;have f3:=dW u0;have j1:w2.cell? (at' a i)=some (.int .i64 (x:Int)):=x0.row.cell (by simp [bC,hx]);have j0:=has_c l0 x oM;rw [u0] at j0;have r1:qs.take (i+1)=qs.take i++[x]:=by rw [List.take_add_one,hx];rfl
  have d2:((qs.take i).foldl hU (List.replicate g.words.length 0)).length=g.words.length:=by rw [lT,List.length_replicate]
  have y2:∀ y∈(qs.take i).foldl hU (List.replicate g.words.length 0),y<18446744073709551616:=marks_64 (λ y hy=>by rw [(List.mem_replicate.1 hy).2];decide) (λ y hy=>by rw [List.length_replicate];exact s0 y (List.mem_of_mem_take hy));repeat (first|(refine aH ?_;refine aC (j:=i) rfl rfl rfl y0 (Nat.mul_one _) ⟨_,_,x0⟩ rfl ?_)|(refine aB 91 ?_;refine aA rfl (j0) rfl ?_;rintro _ _ ⟨rfl,rfl⟩)|refine yC ?_)
  refine aB 92 ?_;refine aA rfl (mark_c r2 i0 d2 y2 x (s0 x v0) oM) rfl ?_;rintro _ w3 ⟨e2,k0⟩;repeat refine aF ?_
  exact aE (i+1) ⟨rfl,rfl,rfl,rfl,rfl,trivial⟩ ⟨oM,by rw [r1,List.foldl_append];exact e2,⟨k0.os.trans a0.os,k0.tape.trans a0.tape,k0.output.trans a0.output,Nat.le_trans a0.size k0.size,λ k hk g1=>(k0.block k oM g1).trans (a0.block k hk g1)⟩⟩ oM
 ·obtain rfl:i=qs.length:=by omega
  rw [List.take_length] at i0;have j2:qs.foldl hU (List.replicate g.words.length 0)=lL g qs:=rfl;rw [j2] at i0;have p0:(lL g qs).length=g.words.length:=by unfold lL;rw [lT,List.length_replicate]
  have e1:=keep_ok h.ok hq;have q0:∀ y∈lL g qs,y<18446744073709551616:=e1.w64;have m1:∀ w',Grow w2 w'→Sl (λ k=>k=L.u) w' 1 (some ⟨L.u,0,none⟩) g.words.length g.words.length (kY g.words):=λ w' gr=>aU (sz:=1) (m:=g.words.length) (l0.used.grow gr) (by rw [gK,Nat.mul_one]) (by unfold maxLen;omega);have h2:∀ w',Grow w2 w'→Sl (λ k=>k=b1) w' 1 (some ⟨b1,0,none⟩) g.words.length g.words.length (kY (lL g qs)):=λ w' gr=>aU (sz:=1) (m:=g.words.length) (i0.grow gr) (by rw [gK,Nat.mul_one,p0]) (by unfold maxLen;omega);have x2:=l0.blk;unfold pgc at x2;have o1:=onesW_le g.words;have o2:=onesW_le (lL g qs);rw [p0] at o2;repeat refine aF ?_
  apply T.any 11 [is (.pointer (some ⟨L.p,0,none⟩)),is (.pointer (some ⟨L.p,0,none⟩)),is (.pointer (some ⟨L.p,3,none⟩)),is (.slice (some ⟨L.u,0,none⟩) g.words.length g.words.length),is (.int .i64 (iJ g.words:Int)),is (.pointer (some ⟨bk,0,none⟩)),is (.pointer (some ⟨bk,0,none⟩)),is (.pointer (some ⟨bk,3,none⟩)),is (.slice (some ⟨b1,0,none⟩) g.words.length g.words.length),is (.int .i64 (iJ (lL g qs):Int)),is (.int .i64 ((iJ g.words:Int)-(iJ (lL g qs):Int)))]
  ·rfl
  ·repeat' (first|exact aM|refine aK ?_ ?_)
   iterate 4
    ·refine yQ λ wq _ _ g0=>?_;repeat refine aF ?_
     exact aD rfl yG rfl
   ·refine yQ λ wq _ _ g0=>?_;repeat (first|(refine aB 86 ?_;refine aA rfl (total_c _ _ _ _ _ _ (m1 _ g0) h.ok.w64 oM) rfl ?_;rintro _ _ ⟨rfl,rfl⟩)|refine yC ?_)
    exact aD rfl yG rfl
   iterate 4
    ·refine yQ λ wq _ _ g0=>?_;repeat refine aF ?_
     exact aD rfl yG rfl
   ·refine yQ λ wq _ _ g0=>?_;repeat (first|(refine aB 86 ?_;refine aA rfl (total_c _ _ _ _ _ _ (h2 _ g0) q0 oM) rfl ?_;rintro _ _ ⟨rfl,rfl⟩)|refine yC ?_)
    exact aD rfl yG rfl
   ·refine yQ λ wq _ _ g0=>?_;refine TL.subI rfl rfl oM oM rfl ?_;repeat refine aF ?_
    exact aD rfl yG rfl
  ·intro w6 d3 i3 e0 _ _;((refine yT ?_))
   repeat (first|refine aF ?_|refine yJ λ w' hu n0 u1=>?_)
   have z6:=e0.size;have hn:=h.ne;obtain ⟨f,f1,f2⟩:=l0.f;have q1:=hu.block L.d oM;have q2:=hu.block L.m oM;refine eZ rfl rfl ⟨_,rfl,⟨L.p,L.d,b1,L.m,L.s⟩,rfl,rfl,rfl,rfl,by simp only;omega,rfl,⟨?_,(i0.grow e0).upd hu (by simp only;omega),e1,h.cnt,⟨f,DkAt.keep (DkAt.grow e0 f1) q1 q2,λ m hm=>?_⟩,h.lt,λ m hm=>h.bl m (hq m ?_),by simp only;omega⟩,?_⟩
   ·show Blk w' L.p 150 (pgc L.p L.d b1 g.count (lL g qs).length);rw [p0];exact n0
   ·rw [kH h.ok hq,decide_eq_true_eq] at hm;exact f2 m (hq m hm)
   ·rw [kH h.ok hq,decide_eq_true_eq] at hm;exact hm
   ·refine ⟨hu.os.trans (e0.1.os.trans (a0.os.trans f0.1.os)),hu.tape.trans (e0.1.tape.trans (a0.tape.trans f0.1.tape)),hu.output.trans (e0.1.output.trans (a0.output.trans f0.1.output)),oM,λ k hk y1=>?_⟩;exact (hu.block k y1).trans ((e0.block k oM).trans ((a0.block k oM oM).trans (f0.block k hk)))
theorem keep_c {F:Nat→Prop} {w:World} {L:PL} {g:Pg} (h:PgAt w L g) {a:Option Addr} {n c:Nat} {qs:List Nat} (hs:Sl F w 1 a n c (bC qs)) (hF:∀ k,F k→k<w.heap.size) (hq:∀ q∈qs,bK g q=true) (hn:n≤1000000) :
  Calls Tryz.prog 23 #[.pointer (some ⟨L.p,0,none⟩),.slice a n c] w (Ret λ v w'=>∃ L':PL,L'.p=L.p∧L'.d=L.d∧L'.m=L.m∧L'.s=L.s∧w.heap.size≤L'.u∧(∃ k:Int,v=.tuple #[.int .i64 k,.int .i64 0])∧PgAt w' L' (jL g qs)∧ButS (λ k=>k=L.p) w w') :=
 Calls.mono (keep_n h hs hF hq hn) λ y w' hy=>hy.mono λ v w' ⟨L',h1,h2,h3,h4,h5,h6,h7⟩=>⟨L',h1,h2,h3,h4,h5,⟨_,h6⟩,h7⟩
theorem tready_bad {w:World} {L:PL} {g:Pg} (h:PgAt w L g) (r:Int) (hr : -1≤r) (e0:r≤9223372036854775807) (F F':Nat→Prop) (a a':Option Addr) (n c n' c':Nat) (k v:Bs) (hk:Sl F w 1 a n c (bB k)) (hv:Sl F' w 1 a' n' c' (bB v)) (a0:(eF k&&fB v)=false) :
  Calls Tryz.prog 77 #[.pointer (some ⟨L.p,0,none⟩),.int .i64 r,.slice a n c,.slice a' n' c'] w (Ret λ u w'=>u=.int .i64 2∧Grow w w'):=by
 refine V.calls (args:=[_,_,_,_]) Tryz.func77 rfl Tryz.ntmps77 rfl rfl ?_
 cases hko:eF k with
 | false =>
  repeat (first|(refine aB 93 ?_;refine aA rfl (ready_c h r hr e0) rfl ?_;rintro _ _ ⟨rfl,rfl⟩)|(refine aB 94 ?_;refine aA rfl (key_t hk hko) rfl ?_;rintro _ _ ⟨rfl,rfl⟩)|refine yC ?_)
  exact bA rfl ⟨_,rfl,rfl,yG⟩
 | true =>
  have f0:fB v=false:=by rw [hko] at a0;simpa using a0
  repeat (first|(refine aB 93 ?_;refine aA rfl (ready_c h r hr e0) rfl ?_;rintro _ _ ⟨rfl,rfl⟩)|(refine aB 94 ?_;refine aA rfl (key_t hk hko) rfl ?_;rintro _ _ ⟨rfl,rfl⟩)|(refine aB 148 ?_;refine aA rfl (value_t hv f0) rfl ?_;rintro _ _ ⟨rfl,rfl⟩)|refine yC ?_)
  exact bA rfl ⟨_,rfl,rfl,yG⟩
theorem rootI_in {g:Pg} (hc:g.count≤8192) {a0:Option Nat} (hr:∀ n,a0=some n→bK g n=true) : -1≤dC a0∧dC a0≤9223372036854775807:=by
 cases a0 with
 | none=>show (-1:Int)≤-1∧(-1:Int)≤_;omega
 | some n =>
  have:=dW (hr n rfl);show (-1:Int)≤(n:Int)∧(n:Int)≤_;omega
theorem put_bad {w:World} {L:PL} {g:Pg} (h:PgAt w L g) (a0:Option Nat) (hr:∀ n,a0=some n→bK g n=true) {F F':Nat→Prop} (a a':Option Addr) (m c m' c':Nat) (key v:Bs) (hk:Sl F w 1 a m c (bB key)) (hv:Sl F' w 1 a' m' c' (bB v)) (i0:(eF key&&fB v)=false) :
  Calls Tryz.prog 25 #[.pointer (some ⟨L.p,0,none⟩),.int .i64 (dC a0),.slice a m c,.slice a' m' c'] w (Ret λ u w'=>u=.tuple #[.int .i64 0,.int .i64 2]∧Grow w w'):=by
 have k0:=rootI_in h.cnt hr;refine V.calls (args:=[_,_,_,_]) Tryz.func25 rfl Tryz.ntmps25 rfl rfl ?_;repeat (first|refine aF ?_|refine yI λ bk w' hg g0 j0 h0=>?_)
 rename_i b4 w1 g1 k1 p1 m0 b8 w2 g2 k2 p2 l0;obtain ⟨b9,rfl⟩:=yE bk;refine aB 77 ?_;have f0:Grow w w':=g1.trans (g2.trans hg);refine aA rfl (tready_bad (h.grow f0) _ k0.1 k0.2 _ _ a a' m c m' c' key v (hk.grow f0) (hv.grow f0) i0) rfl ?_;rintro _ w4 ⟨rfl,e0⟩;have k4:=(k1.grow (g2.trans hg)).grow e0;have k8:=(k2.grow hg).grow e0;have k9:=g0.grow e0;have o0:=f0.trans e0;have q:b4=w.heap.size∧b8=b4+1∧b9=b8+1∧b9<w4.heap.size:=by have:=k9.lt;omega
 clear g0 hg f0 e0 k1 k2 g1 g2 j0 h0 p1 m0 p2 l0;repeat (first|refine aF ?_|refine yJ λ w' hu g0 j0=>?_)
 rename_i w5 n0 p0 z5;exact retCC rfl (kQ (p0.upd hu oM)) rfl (kQ g0) ⟨_,rfl,rfl,aI hu oM (aI n0 oM o0)⟩
end Go.Proofs.YtfpadnmdafiddaaGreatDoor
namespace Go.Proofs
open Go Go.RowKit Go.V Go.Maps Go.Sort Go.Shelf Go.WideShapes
set_option maxRecDepth 20000
set_option maxRecDepth 20000
end Go.Proofs
namespace Go.Proofs.YtfpadnmdafiddaaGreatDoor
open Go Go.RowKit Go.V
theorem TrAt.root_used {g:Pg} {a0:Option Nat} {lv:Nat} {l:bQ} {ps:List Nat} (h:TrAt g a0 lv l ps):∀ n,a0=some n→bK g n=true:=by
 rintro n rfl;obtain ⟨h,nd,e0,e1,e2,e3,e4,e5⟩:=h;exact dL e2
end Go.Proofs.YtfpadnmdafiddaaGreatDoor
namespace Go.V
open Go Go.RowKit
section
variable [Rn]
variable {P:Program} {n:Nat} {l:List Oper} {e:dJ} {I:World→Prop} {vs:List Value}
end
end Go.V
namespace Go.Proofs.YtfpadnmdafiddaaGreatDoor
open Go Go.RowKit Go.V
structure TkMid (w v:World) (L:PL) (g0:Pg) (lv0:Nat) (g:Pg) (root:Option Nat) (lv:Nat) (l:bQ) (ps:List Nat) (a1:Option Addr) (c1:Nat) (a2:Option Addr) (c2:Nat):Prop where
 pg:PgW v L g
 tr:TrAt g root lv l ps
 ext:Ext g0 g
 sp:cR g0≤cR g+(2*lv0+1)
 sp2:cR g≤cR g0
 was:Sl (λ k=>¬ L.S k) v 1 a1 (usedL g0).length c1 (bC (usedL g0))
 now:Sl (λ k=>¬ L.S k) v 1 a2 (usedL g).length c2 (bC (usedL g))
 gr:Grow w v
theorem TkMid.grow {w v v':World} {L:PL} {g0 g:Pg} {e0 lv:Nat} {a0:Option Nat} {l:bQ} {ps:List Nat} {a1 a2:Option Addr} {c1 c2:Nat} (h:TkMid w v L g0 e0 g a0 lv l ps a1 c1 a2 c2) (hg:Grow v v'):TkMid w v' L g0 e0 g a0 lv l ps a1 c1 a2 c2 :=
 ⟨h.pg.grow hg,h.tr,h.ext,h.sp,h.sp2,h.was.grow hg,h.now.grow hg,h.gr.trans hg⟩
def ownS {S:Nat→Prop} (base elem sz m:Nat) (xs:List Value) (hS:∀ k,base≤k→¬ S k):AFact (ButS S) :=
 { G:=λ u _ _ w=>w.ownsRow base elem sz u m xs,st:=λ _ _ _ _ _ g h=>aS h g,firm:=true,fm:=λ _ _ _ _ _ _ sa h=>cN h λ k hk hv=>sa.block k (aT h hv).2 (hS k hk) }
def KCells (F:Nat→Prop) (w:World):List Value→List (Nd×Int)→Prop
 | [],[]=>True
 | v1::v2::v3::v4::cs,f::l=>(∃ x:NV,v1=x.v1∧v2=x.v2∧v3=x.v3∧v4=.int .i64 f.2∧NdAt F w x f.1)∧KCells F w cs l
 | _,_=>False
theorem KCells.go {F F':Nat→Prop} {w w':World} (g:Carry F w F' w'):∀ {cs:List Value} {l:List (Nd×Int)},KCells F w cs l→KCells F' w' cs l
 | [],[],_=>trivial
 | [],_::_,h=>h.elim
 | [_],[],h=>h.elim
 | [_,_],[],h=>h.elim
 | [_,_,_],[],h=>h.elim
 | _::_::_::_::_,[],h=>h.elim
 | [_],_::_,h=>h.elim
 | [_,_],_::_,h=>h.elim
 | [_,_,_],_::_,h=>h.elim
 | _::_::_::_::_,_::_,⟨⟨x,h1,h2,h3,h4,h5⟩,h6⟩=>⟨⟨x,h1,h2,h3,h4,h5.go g⟩,KCells.go g h6⟩
theorem KCells.snoc {F:Nat→Prop} {w:World} {x:NV} {f:Nd×Int} (hx:NdAt F w x f.1):∀ {cs:List Value} {l:List (Nd×Int)},KCells F w cs l→KCells F w (cs++[x.v1,x.v2,x.v3,.int .i64 f.2]) (l++[f])
 | [],[],_=>⟨⟨x,rfl,rfl,rfl,rfl,hx⟩,trivial⟩
 | [],_::_,h=>h.elim
 | [_],[],h=>h.elim
 | [_,_],[],h=>h.elim
 | [_,_,_],[],h=>h.elim
 | _::_::_::_::_,[],h=>h.elim
 | [_],_::_,h=>h.elim
 | [_,_],_::_,h=>h.elim
 | [_,_,_],_::_,h=>h.elim
 | _::_::_::_::_,_::_,⟨h5,h6⟩=>⟨h5,KCells.snoc hx h6⟩
theorem KCells.len {F:Nat→Prop} {w:World}:∀ {cs:List Value} {l:List (Nd×Int)},KCells F w cs l→cs.length=l.length*4
 | [],[],_=>rfl
 | [],_::_,h=>h.elim
 | [_],[],h=>h.elim
 | [_,_],[],h=>h.elim
 | [_,_,_],[],h=>h.elim
 | _::_::_::_::_,[],h=>h.elim
 | [_],_::_,h=>h.elim
 | [_,_],_::_,h=>h.elim
 | [_,_,_],_::_,h=>h.elim
 | _::_::_::_::_,_::_,⟨h5,h6⟩=>by have:=KCells.len h6;simp only [List.length_cons];omega
theorem KCells.one {F:Nat→Prop} {w:World}:∀ {cs:List Value} {l:List (Nd×Int)},KCells F w cs l→∀ u∈cs,u.oneCell'=true
 | [],[],_,u,hu=>by cases hu
 | [],_::_,h,_,_=>h.elim
 | [_],[],h,_,_=>h.elim
 | [_,_],[],h,_,_=>h.elim
 | [_,_,_],[],h,_,_=>h.elim
 | _::_::_::_::_,[],h,_,_=>h.elim
 | [_],_::_,h,_,_=>h.elim
 | [_,_],_::_,h,_,_=>h.elim
 | [_,_,_],_::_,h,_,_=>h.elim
 | _::_::_::_::_,_::_,⟨⟨x,h1,h2,h3,h4,h5⟩,h6⟩,u,hu=>by
  simp only [List.mem_cons] at hu;rcases hu with rfl|rfl|rfl|rfl|hu
  ·rw [h1];rfl
  ·rw [h2];rfl
  ·rw [h3];rfl
  ·rw [h4];rfl
  ·exact h6.one u hu
theorem KCells.last {F:Nat→Prop} {w:World}:∀ {l:List (Nd×Int)} {cs:List Value} {f:Nd×Int},KCells F w cs (l++[f])→∃ (c0:List Value) (x:NV),cs=c0++[x.v1,x.v2,x.v3,.int .i64 f.2]∧KCells F w c0 l∧NdAt F w x f.1
 | [],[],_,h=>h.elim
 | [],[_],_,h=>h.elim
 | [],[_,_],_,h=>h.elim
 | [],[_,_,_],_,h=>h.elim
 | [],v1::v2::v3::v4::cs,f,⟨⟨x,h1,h2,h3,h4,h5⟩,h6⟩=>by
  cases cs with
  | nil=>subst h1 h2 h3 h4;exact ⟨[],x,rfl,trivial,h5⟩
  | cons a b=>have:=KCells.len h6;simp at this
 | y::l,[],_,h=>h.elim
 | y::l,[_],_,h=>h.elim
 | y::l,[_,_],_,h=>h.elim
 | y::l,[_,_,_],_,h=>h.elim
 | y::l,v1::v2::v3::v4::cs,f,⟨h5,h6⟩=>by
  obtain ⟨c0,x,rfl,h1,h2⟩:=KCells.last h6;exact ⟨v1::v2::v3::v4::c0,x,rfl,⟨h5,h1⟩,h2⟩
theorem KCells.take {F:Nat→Prop} {w:World}:∀ {l:List (Nd×Int)} {cs:List Value} (k:Nat),KCells F w cs l→KCells F w (cs.take (k*4)) (l.take k)
 | [],[],k,_=>by simp [KCells]
 | [],[_],k,h=>h.elim
 | [],[_,_],k,h=>h.elim
 | [],[_,_,_],k,h=>h.elim
 | [],_::_::_::_::_,k,h=>h.elim
 | y::l,[],k,h=>h.elim
 | y::l,[_],k,h=>h.elim
 | y::l,[_,_],k,h=>h.elim
 | y::l,[_,_,_],k,h=>h.elim
 | y::l,v1::v2::v3::v4::cs,0,h=>by simp [KCells]
 | y::l,v1::v2::v3::v4::cs,k+1,⟨h5,h6⟩=>by
  rw [show (k+1)*4=k*4+1+1+1+1 by omega];exact ⟨h5,KCells.take k h6⟩
structure CC where
 wb:Nat
 root:Int
 fa:Option Addr
 fn:Nat
 fc:Nat
 ta:Option Addr
 tn:Nat
 tc:Nat
 back:Bool
 most:Int
 lo:Nat
structure Cu (w:World) (C:CC) (cb:Nat) (d:Int) (pv:Value) (fs:List (Nd×Int)):Prop where
 blk:Blk w cb 206 [.pointer (some ⟨cb,0,none⟩),.pointer (some ⟨C.wb,0,none⟩),.int .i64 C.root,.slice C.fa C.fn C.fc,.slice C.ta C.tn C.tc,.bool C.back,.int .i64 C.most,.int .i64 d,pv]
 row:∃ cs,w.ownsRow (cb+1) 254 4 pv fs.length cs∧KCells (λ k=>C.lo≤k∧k<cb) w cs fs
structure CuTo (cb:Nat) (pv pv':Value) (w w':World):Prop where
 but:ButS (λ k=>k=cb∨pv.ownBlock=some k) w w'
 own:∀ k,pv'.ownBlock=some k→pv.ownBlock=some k∨w.heap.size≤k
theorem CuTo.grow {cb:Nat} {pv:Value} {w w':World} (g:Grow w w'):CuTo cb pv pv w w':=⟨ButS.grow g,λ k h=>.inl h⟩
theorem CuTo.trans {cb:Nat} {pv a0 pv2:Value} {w w1 w2:World} (a:CuTo cb pv a0 w w1) (b:CuTo cb a0 pv2 w1 w2):CuTo cb pv pv2 w w2:=by
 have z:=a.but.size;refine ⟨⟨b.but.os.trans a.but.os,b.but.tape.trans a.but.tape,b.but.output.trans a.but.output,Nat.le_trans a.but.size b.but.size,λ k hk hn=>?_⟩,λ k hk=>?_⟩
 ·refine (b.but.block k oM (λ e=>?_)).trans (a.but.block k hk hn);rcases e with e|e
  ·exact hn (.inl e)
  ·rcases a.own k e with e|e
   ·exact hn (.inr e)
   ·omega
 ·rcases b.own k hk with e|e
  ·exact a.own k e
  ·exact .inr oM
theorem CuTo.upd {cb:Nat} {pv a0 pv2:Value} {w w1 w2:World} (h:CuTo cb pv a0 w w1) (u:Upd cb w1 w2):CuTo cb pv a0 w w2:=⟨⟨u.os.trans h.but.os,u.tape.trans h.but.tape,u.output.trans h.but.output,by rw [u.size];exact h.but.size,λ k hk hn=>(u.block k (λ e=>hn (.inl e))).trans (h.but.block k hk hn)⟩,h.own⟩
theorem Cu.lt {w:World} {C:CC} {cb:Nat} {d:Int} {pv:Value} {fs:List (Nd×Int)} (h:Cu w C cb d pv fs):cb<w.heap.size:=h.blk.lt
theorem Cu.grow {w w':World} {C:CC} {cb:Nat} {d:Int} {pv:Value} {fs:List (Nd×Int)} (h:Cu w C cb d pv fs) (g:Grow w w'):Cu w' C cb d pv fs:=by
 obtain ⟨cs,h1,h2⟩:=h.row;exact ⟨h.blk.grow g,cs,aS h1 g,h2.go (Carry.grow g)⟩
theorem Cu.slice {w:World} {C:CC} {cb:Nat} {d:Int} {pv:Value} {fs:List (Nd×Int)} (h:Cu w C cb d pv fs):∃ a c,pv=.slice a fs.length c:=by
 obtain ⟨cs,h1,h2⟩:=h.row;obtain ⟨a,c,e,_⟩:=aN h1;exact ⟨a,c,e⟩
section
variable {w:World} {C:CC} {cb:Nat} {d:Int} {pv:Value} {fs:List (Nd×Int)}
theorem ccut_c (h:Cu w C cb d pv fs) (k:Nat) (hk:k≤fs.length) :
  Calls Tryz.prog 176 #[.pointer (some ⟨cb,8,none⟩),.int .i64 (k:Int)] w (Ret λ v w'=>∃ e0,Cu w' C cb d e0 (fs.take k)∧CuTo cb pv e0 w w'):=by
 have hb:=h.blk;obtain ⟨cs,a0,j0⟩:=h.row;obtain ⟨a,c,rfl,h0⟩:=aN a0;obtain ⟨e0,⟨a',c',e1,rfl⟩,f0,i0⟩:=own_cut a0 hk;cases e1;have k0:=h0.cap;refine V.calls (args:=[_,_]) Tryz.func176 rfl Tryz.ntmps176 rfl rfl ?_;repeat refine aF ?_
 refine cJ ?_;refine dH (l:=0) (h:=k) (mm:=c) rfl (aP _) (bI rfl rfl) (aP _) (by intro h;cases h) oM oM oM oM oM rfl ?_;rw [slAd_own a0 c];repeat (first|refine aF ?_|refine yJ λ w' hu l0 m0=>?_)
 have g0:Blk w' cb 206 [.pointer (some ⟨cb,0,none⟩),.pointer (some ⟨C.wb,0,none⟩),.int .i64 C.root,.slice C.fa C.fn C.fc,.slice C.ta C.tn C.tc,.bool C.back,.int .i64 C.most,.int .i64 d,.slice a k c]:=l0;refine dK (vs:=[]) rfl rfl ⟨_,rfl,.slice a k c,⟨g0,?_⟩,⟨⟨hu.os,hu.tape,hu.output,by rw [hu.size];exact Nat.le_refl _,λ j hj hn=>hu.block j (λ e=>hn (.inl e))⟩,λ j hj=>.inl (by rw [← i0];exact hj)⟩⟩;rw [List.length_take,Nat.min_eq_left hk];exact ⟨_,gD f0 hu oM,(j0.take k).go (Carry.upd hu (λ j hj _=>by omega))⟩
theorem csize_c (x:NV) (at_:Value) (w:World) (h1:x.n1≤1000) (h2:x.n2≤1000) :
  Calls Tryz.prog 227 #[.agg #[x.v1,x.v2,x.v3,at_]] w (Ret λ v w'=>v=.int .i64 ((x.n2+x.n1:Nat):Int)∧Grow w w'):=by
 cases x with
 | mk a1 n1 c1 a2 n2 c2 a3 n3 c3 =>
 simp only at h1 h2;show Calls Tryz.prog 227 #[.agg #[.slice a1 n1 c1,.slice a2 n2 c2,.slice a3 n3 c3,at_]] w _;refine V.calls (args:=[_]) Tryz.func227 rfl Tryz.ntmps227 rfl rfl ?_;repeat (first|refine aF ?_|refine yI λ bk w' hg f0 e0 a0=>?_)
 exact bA rfl ⟨_,rfl,rfl,yG⟩
theorem cpush_c (h:Cu w C cb d pv fs) (x:NV) (nd:Nd) (at_:Int) (hx:NdAt (λ k=>C.lo≤k∧k<cb) w x nd) (hn:fs.length≤100) :
  Calls Tryz.prog 177 #[.pointer (some ⟨cb,8,none⟩),.agg #[x.v1,x.v2,x.v3,.int .i64 at_]] w (Ret λ v w'=>∃ pv',Cu w' C cb d pv' (fs++[(nd,at_)])∧CuTo cb pv pv' w w'):=by
 have hb:=h.blk;obtain ⟨cs,a0,j1⟩:=h.row;obtain ⟨a,c,rfl,b1⟩:=aN a0;have o1:=b1.cap;refine V.calls (args:=[_,_]) Tryz.func177 rfl Tryz.ntmps177 rfl rfl ?_;repeat (first|refine aF ?_|refine yI λ bk w' hg q0 z0 y0=>?_)
 obtain ⟨w1,rfl⟩:=yE w';have hS:∀ k,w1.heap.size≤k→¬ ((Value.slice a fs.length c).ownBlock=some k):=λ k hk e=>by have:=(aT a0 e).2;omega
 have s2:=h.lt;have i0:=aS a0 hg;have t0:=hb.grow hg;have n0:=j1.go (Carry.grow hg);have x0:=hx.go (Carry.grow hg)
 apply nD (ButS λ k=>(Value.slice a fs.length c).ownBlock=some k) 8 6 (λ wq=>Grow w1 wq)
  (λ wq=>ButS (λ k=>(Value.slice a fs.length c).ownBlock=some k) w1 wq)
  (λ wq=>ButS (λ k=>(Value.slice a fs.length c).ownBlock=some k) w1 wq)
  [hZ (.pointer (some ⟨cb,8,none⟩)),hZ (.pointer (some ⟨cb,8,none⟩)),hZ (.pointer (some ⟨cb,8,none⟩)),hZ (.slice a fs.length c),hZ (.agg #[x.v1,x.v2,x.v3,.int .i64 at_]),ownS w1.heap.size 254 4 1 [x.v1,x.v2,x.v3,.int .i64 at_] hS,
   ofA (λ v wz=>∃ a' c',v=.slice a' (fs.length+1) c'∧wz.ownsRow (cb+1) 254 4 v (fs.length+1) (cs++[x.v1,x.v2,x.v3,.int .i64 at_])∧KCells (λ k=>C.lo≤k∧k<cb) wz (cs++[x.v1,x.v2,x.v3,.int .i64 at_]) (fs++[(nd,at_)])∧∀ k,v.ownBlock=some k→(Value.slice a fs.length c).ownBlock=some k∨w.heap.size≤k) (λ v wz d2 g ⟨a',c',h1,h2,h3,h4⟩=>⟨a',c',h1,aS h2 g,h3.go (Carry.grow g),h4⟩),
   hZ (.pointer (some ⟨cb,8,none⟩))]
 ·kernel_rfl
 ·exact Grow.refl _
 ·exact λ _ h=>ButS.grow h
 ·exact λ _ h=>h
 ·exact λ _ h=>h.size
 ·exact λ _ _ h g=>h.trans g
 ·exact λ _ _ h g=>h.trans (ButS.grow g)
 ·exact λ _ _ h=>h.size
 ·repeat' (first|exact iT|refine gY ?_ ?_)
  iterate 5
   ·refine dA rfl rfl rfl rfl ?_;intro wq _ _ e0;(refine yU ?_)
    have q1:=bO t0 e0 (λ e=>by have:=(aT a0 e).1;omega);have r1:=bO q0 e0 (λ e=>by have:=(aT a0 e).2;omega);repeat refine aF ?_
    exact bT rfl (Grow.refl _) rfl
  ·refine dA rfl rfl rfl rfl ?_;intro wq _ _ e0;(refine yU ?_)
   have v0:=e0.size;refine TL.buildSlice rfl rfl rfl rfl rfl ?_;intro b' wa m1 s1 q2 o2 j2;repeat refine aF ?_
   exact bT rfl m1 (own_lit s1 oM rfl dM)
  ·refine iS rfl rfl rfl rfl ?_;intro wq _ _ e0;refine needA_cons rfl rfl ?_;intro e2 k0
   refine needA_cons rfl rfl ?_;intro u0 j0
   refine needA_nil ?_;obtain rfl:=Eq.symm k0;have f1:wq.ownsRow w1.heap.size 254 4 u0 1 [x.v1,x.v2,x.v3,.int .i64 at_]:=j0;obtain ⟨a2,c2,rfl,e1⟩:=aN f1;have v0:=e0.size;have h0:=aS i0 e0;refine dU (bytes:=80) rfl rfl h0 e1 (by intro u hu;simp only [List.mem_cons,List.not_mem_nil,or_false] at hu;rcases hu with rfl|rfl|rfl|rfl<;>rfl) (by unfold maxLen;omega) oM oM rfl ?_;intro v' wb g0 f0 o0;obtain ⟨a3,c3,rfl,r2⟩:=aN g0;have g2:=f0.size;have cK:Carry (λ k=>C.lo≤k∧k<cb) wq (λ k=>C.lo≤k∧k<cb) wb:=⟨f0.size,λ k hk hl=>⟨hk,f0.block k hl (λ e=>by have:=(aT a0 e.symm).1;omega)⟩⟩
   repeat refine aF ?_
   refine bT rfl ⟨⟨f0.os,f0.tape,f0.output,f0.size,λ k hk hn=>f0.block k hk (λ e=>hn e.symm)⟩,(ButS.grow e0).trans ⟨f0.os,f0.tape,f0.output,f0.size,λ k hk hn=>f0.block k hk (λ e=>hn e.symm)⟩⟩ ⟨a3,c3,rfl,g0,KCells.snoc (f:=(nd,at_)) ((x0.go (Carry.grow e0)).go cK) ((n0.go (Carry.grow e0)).go cK),λ k hk=>?_⟩;by_cases g1:k<wq.heap.size
   ·by_cases s0:(Value.slice a fs.length c).ownBlock=some k
    ·exact .inl s0
    ·exact absurd hk (((o0 (λ _=>True)).blk k ⟨trivial,s0⟩ g1).1.2)
   ·exact .inr oM
  ·refine dA rfl rfl rfl rfl ?_;intro wq _ _ e0;(((repeat (refine needA_cons rfl rfl ?_;intro vq l0;try (obtain rfl:=Eq.symm l0)));(refine needA_nil ?_)))
   repeat refine aF ?_
   exact bT rfl (Grow.refl _) rfl
 ·rintro w2 lo hi e0 _ _;iterate 6 (refine needA_cons rfl rfl ?_;intro vq l0;try (obtain rfl:=Eq.symm l0))
  refine needA_cons rfl rfl ?_;rintro v9 ⟨a9,c9,rfl,z1,y1,x1⟩;refine needA_cons rfl rfl ?_;intro f2 m0;obtain rfl:=Eq.symm m0
  refine needA_nil ?_;have q1:=bO t0 e0 (λ e=>by have:=(aT a0 e).1;omega);repeat (first|refine aF ?_|refine yJ λ w' hu q0 z0=>?_)
  have p0:Blk w' cb 206 [.pointer (some ⟨cb,0,none⟩),.pointer (some ⟨C.wb,0,none⟩),.int .i64 C.root,.slice C.fa C.fn C.fc,.slice C.ta C.tn C.tc,.bool C.back,.int .i64 C.most,.int .i64 d,.slice a9 (fs.length+1) c9]:=q0;refine dK (vs:=[]) rfl rfl ⟨_,rfl,.slice a9 (fs.length+1) c9,⟨p0,?_⟩,?_⟩
  ·rw [List.length_append];exact ⟨_,gD z1 hu oM,y1.go (Carry.upd hu (λ j hj _=>by omega))⟩
  ·refine CuTo.upd (pv2:=.slice none 0 0) ⟨?_,x1⟩ hu;have u1:ButS (λ k=>(Value.slice a fs.length c).ownBlock=some k) w w2:=(ButS.grow hg).trans e0;exact u1.sub λ k hk=>.inr hk
theorem ctop_c {a:Option Addr} {c:Nat} (h:Cu w C cb d (.slice a fs.length c) fs) (hn:1≤fs.length) (f0:fs.length≤1000) :
  Calls Tryz.prog 180 #[.pointer (some ⟨cb,8,none⟩)] w (Ret λ v w'=>v=.pointer (some (at' a ((fs.length-1)*4)))∧Grow w w'):=by
 have hb:=h.blk;obtain ⟨cs,a0,g0⟩:=h.row;obtain ⟨a',c',e1,e0⟩:=aN a0;cases e1;refine V.calls (args:=[_]) Tryz.func180 rfl Tryz.ntmps180 rfl rfl ?_;repeat refine aF ?_
 refine bD (e':=[(0,.pointer (some ⟨cb,8,none⟩))]) ?_ ⟨rfl,trivial⟩;apply T.any 10 [is _,is _,is _,is _,is _,is _,is _,is _,is _,is _];(· kernel_rfl);(· ((repeat' (first|exact aM|refine aK ?_ ?_));(iterate 10 (· (refine yQ λ wq _ _ i0=>?_;(repeat (first|refine aF ?_|(refine aH ?_;refine aC (j:=fs.length-1) rfl rfl oM oM rfl ⟨_,_,e0.grow yG⟩ rfl ?_)));exact aD rfl yG rfl)))));(rintro _ _ _ h0 _ _;(refine yT ?_))
 repeat refine aF ?_
 exact bA rfl ⟨_,rfl,rfl,yG⟩
theorem citem0_c (h:Cu w C cb d pv []) :
  Calls Tryz.prog 179 #[.pointer (some ⟨cb,8,none⟩)] w (Ret λ v w'=>v=.tuple #[.agg #[.slice none 0 0,.slice none 0 0],.bool false]∧Grow w w'):=by
 have hb:=h.blk;obtain ⟨a,c,rfl⟩:=h.slice;refine V.calls (args:=[_]) Tryz.func179 rfl Tryz.ntmps179 rfl rfl ?_;repeat (first|refine aF ?_|refine yI λ bk w' hg a0 f0 e0=>?_|refine yJ λ w' hu a0 f0=>?_)
 exact fP rfl (aW a0 rfl) rfl ⟨_,rfl,rfl,yG⟩
theorem citem_c {l:List (Nd×Int)} {nd:Nd} {i:Nat} {it:Bs×Bs} (h:Cu w C cb d pv (l++[(nd,(i:Int))])) (hi:nd.items[i]? = some it) (hl:l.length≤100) (y1:nd.items.length≤100) :
  Calls Tryz.prog 179 #[.pointer (some ⟨cb,8,none⟩)] w (Ret λ v w'=>∃ kv vv,v=.tuple #[.agg #[kv,vv],.bool true]∧BsAt (λ k=>C.lo≤k∧k<cb) w' kv it.1∧BsAt (λ k=>C.lo≤k∧k<cb) w' vv it.2∧Grow w w'):=by
 have hb:=h.blk;obtain ⟨a,c,rfl⟩:=h.slice;obtain ⟨cs,m0,j1⟩:=h.row;obtain ⟨a',c',e1,u0⟩:=aN m0;cases e1;have h0:(l++[(nd,(i:Int))]).length=l.length+1:=by simp
 have l0:=ctop_c h oM oM;rw [h0] at hb u0 l0;obtain ⟨c0,x,rfl,q1,y0⟩:=j1.last;have hx:NdAt (λ k=>C.lo≤k∧k<cb) w x nd:=y0;have x0:=q1.len;obtain ⟨t0,r1,s1⟩:=hx.its.ex;obtain ⟨kv,vv,f0,f1,⟨ka,kn,kc,rfl,p0⟩,⟨va,vn,vc,rfl,o0⟩⟩:=s1.at' hi;refine V.calls (args:=[_]) Tryz.func179 rfl Tryz.ntmps179 rfl rfl ?_;repeat (first|refine aF ?_|refine yI λ bk w' hg s0 h1 g1=>?_)
 have hh:=h.grow hg;have a0:=ctop_c hh oM oM;rw [h0,Nat.add_sub_cancel] at a0;refine aB 180 ?_;refine aA rfl a0 rfl ?_;rintro _ w3 ⟨rfl,v0⟩;have j0:=hg.trans v0;have q0:(c0++[x.v1,x.v2,x.v3,Value.int .i64 (i:Int)])[l.length*4]? = some x.v1:=by rw [← x0,List.getElem?_append_right (Nat.le_refl _),Nat.sub_self];rfl
 have q3:(c0++[x.v1,x.v2,x.v3,Value.int .i64 (i:Int)])[l.length*4+3]? = some (.int .i64 (i:Int)):=by rw [← x0,List.getElem?_append_right oM,show c0.length+3-c0.length=3 by omega];rfl
 have w1:t0[i*2]? = some (.slice ka kn kc):=by rw [Nat.mul_comm];exact f0
 have u1:t0[i*2+1]? = some (.slice va vn vc):=by rw [Nat.mul_comm];exact f1
 have x1:=hx.its.len;have z1:=(List.getElem?_eq_some_iff.1 hi).1;have e0:=u0.grow j0;have i0:=r1.grow j0;have o1:=p0.go (Carry.grow j0);have b1:=o0.go (Carry.grow j0);have b2:=s0.grow v0;repeat refine aF ?_
 refine bD (e':=[(4,.pointer (some (at' a (l.length*4)))),(2,.pointer (some ⟨bk,0,none⟩)),(0,.pointer (some ⟨cb,8,none⟩))]) ?_ ⟨rfl,rfl,rfl,trivial⟩;apply T.any 11 [is _,is _,is _,is _,is (.slice x.a1 x.n1 x.c1),is _,is _,is _,is _,is (.pointer (some (at' x.a1 (i*2)))),is (.agg #[.slice ka kn kc,.slice va vn vc])]
 ·kernel_rfl
 ·repeat' (first|exact aM|refine aK ?_ ?_)
  iterate 9
   ·refine yQ λ wq _ _ g0=>?_;repeat (first|(refine bN ?_;refine bJ (o:=l.length*4) rfl (e0.grow g0) q0 rfl ?_)|(refine aO ?_;first|refine aQ rfl ((e0.grow g0).row.cell q0) rfl ?_|refine aQ rfl ((e0.grow g0).row.cell q3) rfl ?_)|refine yC ?_)
    exact aD rfl yG rfl
  ·refine yQ λ wq _ _ g0=>?_;refine aH ?_;refine aC (j:=i) rfl rfl rfl oM rfl ⟨_,_,i0.grow g0⟩ rfl ?_;repeat refine aF ?_
   exact aD rfl yG rfl
  ·refine yQ λ wq _ _ g0=>?_;refine aO ?_;refine cB rfl (i0.grow g0) (two_at w1 u1) rfl rfl ?_;repeat refine aF ?_
   exact aD rfl yG rfl
 rintro _ _ _ k0 _ _;((refine yT ?_))
 have b3:=b2.grow k0;have n0:=j0.trans k0;have m1:=o1.go (Carry.grow k0);have z0:=b1.go (Carry.grow k0);repeat (first|refine aF ?_|refine yJ λ w' hu s0 h1=>?_)
 have cU:Carry (λ k=>C.lo≤k∧k<cb) _ (λ k=>C.lo≤k∧k<cb) w':=Carry.upd hu (λ j hj _=>by have:=h.lt;omega);exact fP rfl (aW s0 rfl) rfl ⟨_,rfl,_,_,rfl,⟨_,_,_,rfl,m1.go cU⟩,⟨_,_,_,rfl,z0.go cU⟩,aI hu oM n0⟩
end
def kf (fr:List (Nd×Nat)):List (Nd×Int):=fr.reverse.map λ f=>(f.1,(f.2:Int))
theorem kf_cons (p:Nd) (i:Nat) (fr:List (Nd×Nat)):kf ((p,i)::fr)=kf fr++[(p,(i:Int))]:=by simp [kf]
theorem cE (fr:List (Nd×Nat)):(kf fr).length=fr.length:=by simp [kf]
def At (s:Pg) (H:Nat) (top:Nd) (fs:List (Nd×Int)):Option Nat→Prop
 | none=>fs=[]
 | some j=>∃ fr nd c pre post x,fs=kf fr++[(nd,((c:Nat):Int))]∧Pos s H top fr nd c pre post∧bM nd=true∧nd.items[c]? = some x∧pre.length=j
structure Tr (s:Pg) (H:Nat) (top:Nd) (al:bQ) (ps0:List Nat) (n:Nat):Prop where
 vt:Vt s H top al ps0
 ok:PgOk s
 node:cD s n=some top
 big:1≤aR top
 le:H≤15
 n32:s.count<4294967296
def Wlk (w:World) (cb:Nat) (C:CC) (s:Pg) (ps:List Nat):Prop:=∃ p m M,Blk w C.wb 226 [.pointer (some ⟨p,0,none⟩),.map (some m)]∧MemAt (λ k=>C.lo≤k∧k<cb) w m M∧(C.lo≤C.wb∧C.wb<cb)∧(C.lo≤m∧m<cb)∧∀ k∈ps,∃ t,fX M k=some t∧cD s k=some t.node
theorem Cu.own {w:World} {C:CC} {cb:Nat} {d:Int} {pv:Value} {fs:List (Nd×Int)} (h:Cu w C cb d pv fs) {k:Nat} (e:pv.ownBlock=some k):cb<k∧k<w.heap.size:=by
 obtain ⟨cs,a0,_⟩:=h.row;exact aT a0 e
theorem Cu.carry {w w':World} {C:CC} {cb:Nat} {d:Int} {pv e0:Value} {fs:List (Nd×Int)} (h:Cu w C cb d pv fs) (t:CuTo cb pv e0 w w'):Carry (λ k=>C.lo≤k∧k<cb) w (λ k=>C.lo≤k∧k<cb) w':=by
 obtain ⟨cs,a0,_⟩:=h.row
 exact ⟨t.but.size,λ k hk hl=>⟨hk,t.but.block k hl (λ e=>by
  rcases e with e|e
  ·omega
  ·have:=(aT a0 e).1;omega)⟩⟩
theorem Cu.carry0 {w w':World} {C:CC} {cb:Nat} {d:Int} {pv e0:Value} {fs:List (Nd×Int)} (h:Cu w C cb d pv fs) (t:CuTo cb pv e0 w w'):Carry (λ k=>k<cb) w (λ k=>k<cb) w':=by
 obtain ⟨cs,a0,_⟩:=h.row
 exact ⟨t.but.size,λ k hk hl=>⟨hk,t.but.block k hl (λ e=>by
  rcases e with e|e
  ·omega
  ·have:=(aT a0 e).1;omega)⟩⟩
theorem Wlk.go {w w':World} {cb:Nat} {C:CC} {s:Pg} {ps:List Nat} (h:Wlk w cb C s ps) (c:Carry (λ k=>C.lo≤k∧k<cb) w (λ k=>C.lo≤k∧k<cb) w'):Wlk w' cb C s ps:=by
 obtain ⟨p,m,M,h1,h2,h3,h4,h5⟩:=h;exact ⟨p,m,M,dO h1 (c.blk _ h3 h1.lt).2,h2.go c (c.blk _ h4 h2.lt).2,h3,h4,h5⟩
theorem Wlk.grow {w w':World} {cb:Nat} {C:CC} {s:Pg} {ps:List Nat} (h:Wlk w cb C s ps) (g:Grow w w'):Wlk w' cb C s ps:=h.go (Carry.grow g)
theorem Wlk.node {w:World} {cb:Nat} {C:CC} {s:Pg} {ps:List Nat} (h:Wlk w cb C s ps) {k:Nat} {nd:Nd} (hk:k∈ps) (hn:cD s k=some nd) (e0:k<4294967296) :
  Calls Tryz.prog 163 #[.pointer (some ⟨C.wb,0,none⟩),.int .i64 (k:Int)] w (Ret λ v w'=>∃ x:NV,v=x.val∧NdAt (λ k=>C.lo≤k∧k<cb) w' x nd∧Grow w w'):=by
 obtain ⟨p,m,M,h1,h2,h3,h4,h5⟩:=h;obtain ⟨t,ht,a0⟩:=h5 k hk;rw [hn] at a0;cases a0;exact wnode_c h1 h2 e0 ht
section
variable {w:World} {C:CC} {cb:Nat} {d:Int} {pv:Value} {s:Pg} {H:Nat} {top:Nd} {al:bQ} {ps0:List Nat} {n:Nat}
theorem cdescF_c (tr:Tr s H top al ps0 n) {fr:List (Nd×Nat)} (h:Cu w C cb d pv (kf fr)) (hw:Wlk w cb C s (n::ps0)) {k:Nat} {nd:Nd} {p0 i0:bQ} (q:Pos s H top fr nd 0 p0 i0) (hk:cD s k=some nd) (m0:k∈n::ps0) (h1:1≤aR nd) :
  Calls Tryz.prog 226 #[.pointer (some ⟨cb,0,none⟩),.int .i64 (k:Int),.int .i64 1] w (Ret λ v w'=>∃ pv' fs',Cu w' C cb d pv' fs'∧CuTo cb pv pv' w w'∧At s H top fs' (some p0.length)):=by
 refine V.calls (args:=[_,_,_]) Tryz.func226 rfl Tryz.ntmps226 rfl rfl ?_;repeat refine aF ?_
 refine aX (S:=List (Nd×Nat)×Nat×Nd×Value) (λ q=>[(2,.int .i64 1),(1,.int .i64 (q.2.1:Int)),(0,.pointer (some ⟨cb,0,none⟩))])
  (λ q w1=>Cu w1 C cb d q.2.2.2 (kf q.1)∧CuTo cb pv q.2.2.2 w w1∧Wlk w1 cb C s (n::ps0)∧Pos s H top q.1 q.2.2.1 0 p0 i0∧cD s q.2.1=some q.2.2.1∧q.2.1∈n::ps0∧1≤aR q.2.2.1) (λ q=>H+1-q.1.length) (fr,k,nd,pv) ⟨rfl,rfl,rfl,trivial⟩ ⟨h,CuTo.grow (Grow.refl _),hw,q,hk,m0,h1⟩ ?_
 clear h hw q hk m0 h1;rintro ⟨fr,k,nd,z0⟩ w1 ⟨h,s0,hw,q,hk,m0,h1⟩;simp only at h s0 q hk m0 h1;obtain ⟨_,_,u2,_⟩:=q.all tr.vt;obtain ⟨h2,r1,s1,u0⟩:=q.node tr.vt tr.ok tr.node;have v0:k<4294967296:=by have:=dW (dL hk);have:=tr.n32;omega
 have r2:=tr.le;have hb:=h.blk;have y2:=h.lt;have u1:∀ j,z0.ownBlock=some j→j<w1.heap.size:=λ j e=>(h.own e).2;have j2:=fG hk;have l0:=hw.node m0 hk v0;repeat refine aF ?_
 refine aB 163 ?_;refine aA rfl l0 rfl ?_;rintro _ w2 ⟨x,rfl,hx,o0⟩;repeat (first|refine aF ?_|refine yI λ bk w' hg y0 f1 t0=>?_|refine yJ λ w' hu y0 f1=>?_)
 have k6:Blk w' bk 254 [.slice x.a1 x.n1 x.c1,.slice x.a2 x.n2 x.c2,.slice x.a3 x.n3 x.c3,.int .i64 0]:=y0;obtain ⟨w3,rfl⟩:=yE w';have n0:Grow w1 w3:=aI hu (by have:=o0.size;omega) (o0.trans hg);have q0:NdAt (λ k=>C.lo≤k∧k<cb) w3 x nd:=(hx.go (Carry.grow hg)).go (Carry.upd hu (λ j hj _=>by have:=o0.size;omega));have h3:=h.grow n0;have e1:=hw.grow n0;have k0:CuTo cb pv z0 w w3:=s0.trans (CuTo.grow n0);have z3:=n0.size;have f2:cb<bk∧bk<w3.heap.size∧w1.heap.size≤bk:=by have:=o0.size;have:=k6.lt;omega
 have z1:=h3.blk;clear y0 hu hg o0 hx h hw s0 hb n0 f1 t0;apply T.any 4 [is _,is _,is _,is _];(· kernel_rfl);(· ((repeat' (first|exact aM|refine aK ?_ ?_));(iterate 4 (· (refine yQ λ wq _ _ s2=>?_;(repeat refine aF ?_);exact aD rfl yG rfl)))));(rintro _ _ _ f0 _ _;(refine yT ?_))
 rename_i w4;refine aB 177 ?_;refine aA rfl (cpush_c (h3.grow f0) x nd 0 (q0.go (Carry.grow f0)) (by rw [cE];omega)) rfl ?_;rintro _ w5 ⟨pv2,h5,a0⟩;have c5:=(h3.grow f0).carry a0;have q1:=(e1.grow f0).go c5;have j0:=(q0.go (Carry.grow f0)).go c5
 have b1:=bO (k6.grow f0) a0.but (λ e=>by
  rcases e with e|e
  ·omega
  ·have:=u1 _ e;omega)
 have e0:=(k0.trans (CuTo.grow f0)).trans a0;have q2:=j0.its.len;have o2:=bU j0.kids;clear k6 q0 h3 e1 k0 z1 f0 c5 a0;obtain ⟨e2,rfl⟩:=yE w5
 cases hl:bM nd with
 | true =>
  have h0:=r1 hl;obtain ⟨it,y1⟩:∃ it,nd.items[0]? = some it:=⟨_,List.getElem?_eq_getElem oM⟩
  repeat (first|refine aF ?_|(refine aB 80 ?_;refine aA rfl (fA j0 hl _) rfl ?_;rintro _ _ ⟨rfl,g0⟩))
  exact eH (vs:=[]) rfl rfl ⟨_,rfl,pv2,_,h5.grow g0,e0.trans (CuTo.grow g0),fr,nd,0,p0,i0,it,rfl,q,hl,y1,rfl⟩
 | false =>
  have h0:=s1 hl;obtain ⟨k',x0⟩:∃ k,nd.kids[0]? = some k:=⟨_,List.getElem?_eq_getElem oM⟩
  obtain ⟨m1,j1,d2,x1,_⟩:=u0 0 k' x0;repeat (first|refine aF ?_|(refine aB 80 ?_;refine aA rfl (fA j0 hl _) rfl ?_;rintro _ _ ⟨rfl,g0⟩))
  rename_i w6;have o1:=j0.go (Carry.grow g0);have g1:=o1.kids;have x2:w6.cell? (at' x.a2 0)=some (.int .i64 (k':Int)):=g1.row.cell (by rw [show bC nd.kids=nd.kids.map λ (k:Nat)=>(.int .i64 (k:Int):Value) from rfl,List.getElem?_map,x0];rfl);have g2:=b1.grow g0;clear b1 j0;repeat (first|(refine aH ?_;refine aC (j:=0) rfl rfl rfl oM rfl ⟨_,_,g1⟩ rfl ?_)|refine yC ?_)
  refine aE ((nd,0)::fr,k',m1,pv2) ⟨rfl,rfl,rfl,trivial⟩ ⟨by rw [kf_cons];exact h5.grow g0,e0.trans (CuTo.grow g0),q1.grow g0,q.downR tr.vt x0 j1,j1,List.mem_cons_of_mem _ x1,Nat.le_trans dM d2⟩ (by simp only [List.length_cons];omega)
theorem cdescB_c (tr:Tr s H top al ps0 n) {fr:List (Nd×Nat)} (h:Cu w C cb d pv (kf fr)) (hw:Wlk w cb C s (n::ps0)) {k:Nat} {nd:Nd} {s0 k0:bQ} (q:Pos s H top fr nd (aR nd) s0 k0) (hk:cD s k=some nd) (o0:k∈n::ps0) (h1:1≤aR nd) :
  Calls Tryz.prog 226 #[.pointer (some ⟨cb,0,none⟩),.int .i64 (k:Int),.int .i64 (-1)] w (Ret λ v w'=>∃ pv' fs',Cu w' C cb d pv' fs'∧CuTo cb pv pv' w w'∧At s H top fs' (ixB s0.length)):=by
 refine V.calls (args:=[_,_,_]) Tryz.func226 rfl Tryz.ntmps226 rfl rfl ?_;repeat refine aF ?_
 refine aX (S:=List (Nd×Nat)×Nat×Nd×Value) (λ q=>[(2,.int .i64 (-1)),(1,.int .i64 (q.2.1:Int)),(0,.pointer (some ⟨cb,0,none⟩))])
  (λ q w1=>Cu w1 C cb d q.2.2.2 (kf q.1)∧CuTo cb pv q.2.2.2 w w1∧Wlk w1 cb C s (n::ps0)∧Pos s H top q.1 q.2.2.1 (aR q.2.2.1) s0 k0∧cD s q.2.1=some q.2.2.1∧q.2.1∈n::ps0∧1≤aR q.2.2.1) (λ q=>H+1-q.1.length) (fr,k,nd,pv) ⟨rfl,rfl,rfl,trivial⟩ ⟨h,CuTo.grow (Grow.refl _),hw,q,hk,o0,h1⟩ ?_
 clear h hw q hk o0 h1;rintro ⟨fr,k,nd,f1⟩ w1 ⟨h,v0,hw,q,hk,o0,h1⟩;simp only at h v0 q hk o0 h1;obtain ⟨_,_,f3,_⟩:=q.all tr.vt;obtain ⟨s2,d2,e2,y0⟩:=q.node tr.vt tr.ok tr.node;have z0:k<4294967296:=by have:=dW (dL hk);have:=tr.n32;omega
 have z2:=tr.le;have hb:=h.blk;have i3:=h.lt;have f2:∀ j,f1.ownBlock=some j→j<w1.heap.size:=λ j e=>(h.own e).2;have u2:=fG hk;have n0:=hw.node o0 hk z0;repeat refine aF ?_
 refine aB 163 ?_;refine aA rfl n0 rfl ?_;rintro _ w2 ⟨x,rfl,hx,i0⟩;have m1:=hx.its.len;have m2:=bU hx.kids;have m0:x.n2+x.n1=aR nd:=by rw [m1,m2];unfold aR;omega
 have j3:aR nd≤8:=node_le hk;have u1:x.n1≤1000∧x.n2≤1000:=by omega
 repeat (first|(refine aB 227 ?_;refine aA rfl (csize_c x _ _ u1.1 u1.2) rfl ?_;rintro _ _ ⟨rfl,a0⟩)|refine yC ?_|refine yI λ bk w' hg e1 o1 x0=>?_|refine yJ λ w' hu e1 o1=>?_)
 have k6:Blk w' bk 254 [.slice x.a1 x.n1 x.c1,.slice x.a2 x.n2 x.c2,.slice x.a3 x.n3 x.c3,.int .i64 ((x.n2+x.n1-1:Nat):Int)]:=e1;rename_i u0 _ _ _;obtain ⟨w3,rfl⟩:=yE w';have p0:Grow w1 w3:=aI hu (by have:=i0.size;omega) ((aI u0 (by have:=i0.size;omega) (i0.trans hg)).trans a0);have t0:NdAt (λ k=>C.lo≤k∧k<cb) w3 x nd:=(((hx.go (Carry.grow hg)).go (Carry.upd u0 (λ j hj _=>by have:=i0.size;omega))).go (Carry.grow a0)).go (Carry.upd hu (λ j hj _=>by have:=i0.size;omega));have h3:=h.grow p0;have j1:=hw.grow p0;have l0:CuTo cb pv f1 w w3:=v0.trans (CuTo.grow p0);have z3:=p0.size;have q2:cb<bk∧bk<w3.heap.size∧w1.heap.size≤bk:=by have:=i0.size;have:=k6.lt;omega
 have h2:=h3.blk;clear e1 hu u0 a0 hg i0 hx h hw v0 hb p0 o1 x0;apply T.any 4 [is _,is _,is _,is _];(· kernel_rfl);(· ((repeat' (first|exact aM|refine aK ?_ ?_));(iterate 4 (· (refine yQ λ wq _ _ d3=>?_;(repeat refine aF ?_);exact aD rfl yG rfl)))));(rintro _ _ _ g0 _ _;(refine yT ?_))
 rename_i w4;refine aB 177 ?_;refine aA rfl (cpush_c (h3.grow g0) x nd ((x.n2+x.n1-1:Nat):Int) (t0.go (Carry.grow g0)) (by rw [cE];omega)) rfl ?_;rintro _ w5 ⟨pv2,h5,e0⟩;have c5:=(h3.grow g0).carry e0;have z1:=(j1.grow g0).go c5;have j0:=(t0.go (Carry.grow g0)).go c5
 have g1:=bO (k6.grow g0) e0.but (λ e=>by
  rcases e with e|e
  ·omega
  ·have:=f2 _ e;omega)
 have f0:=(l0.trans (CuTo.grow g0)).trans e0;have y2:=j0.its.len;have x2:=bU j0.kids;clear k6 t0 h3 j1 l0 h2 g0 c5 e0;obtain ⟨o2,rfl⟩:=yE w5
 cases hl:bM nd with
 | true =>
  have h0:=d2 hl;obtain ⟨it,s1⟩:∃ it,nd.items[aR nd-1]? = some it:=⟨_,List.getElem?_eq_getElem oM⟩
  obtain ⟨q0,rfl,q'⟩:=Pos.back tr.vt (c:=aR nd-1) (by rwa [show aR nd-1+1=aR nd by omega]) hl s1;repeat (first|refine aF ?_|(refine aB 80 ?_;refine aA rfl (fA j0 hl _) rfl ?_;rintro _ _ ⟨rfl,a0⟩))
  exact eH (vs:=[]) rfl rfl ⟨_,rfl,pv2,_,h5.grow a0,f0.trans (CuTo.grow a0),by rw [List.length_append];exact ⟨fr,nd,aR nd-1,q0,_,it,by rw [m0],q',hl,s1,rfl⟩⟩
 | false =>
  have h0:=e2 hl;obtain ⟨k',b1⟩:∃ k,nd.kids[aR nd-1]? = some k:=⟨_,List.getElem?_eq_getElem oM⟩
  obtain ⟨x1,r1,j2,g2,_⟩:=y0 (aR nd-1) k' b1;repeat (first|refine aF ?_|(refine aB 80 ?_;refine aA rfl (fA j0 hl _) rfl ?_;rintro _ _ ⟨rfl,a0⟩))
  rename_i w6;have y1:=j0.go (Carry.grow a0);have q1:=y1.kids;have g3:w6.cell? (at' x.a2 (aR nd-1))=some (.int .i64 (k':Int)):=q1.row.cell (by rw [show bC nd.kids=nd.kids.map λ (k:Nat)=>(.int .i64 (k:Int):Value) from rfl,List.getElem?_map,b1];rfl);have r2:=g1.grow a0;clear g1 j0;repeat (first|(refine aH ?_;refine aC (j:=aR nd-1) rfl rfl oM oM (Nat.mul_one _) ⟨_,_,q1⟩ rfl ?_)|refine yC ?_)
  refine aE ((nd,aR nd-1)::fr,k',x1,pv2) ⟨rfl,rfl,rfl,trivial⟩ ⟨by rw [kf_cons,← m0];exact h5.grow a0,f0.trans (CuTo.grow a0),z1.grow a0,Pos.downL tr.vt (c:=aR nd-1) (by rwa [show aR nd-1+1=aR nd by omega]) b1 r1,r1,List.mem_cons_of_mem _ g2,Nat.le_trans dM j2⟩ (by simp only [List.length_cons];omega)
end
end Go.Proofs.YtfpadnmdafiddaaGreatDoor
