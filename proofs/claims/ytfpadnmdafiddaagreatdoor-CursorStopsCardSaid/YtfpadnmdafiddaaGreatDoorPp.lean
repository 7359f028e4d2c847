import Derived.Test.YtfpadnmdafiddaaGreatDoorP0
import Derived.Test.YtfpadnmdafiddaaGreatDoorPj
import Derived.Test.YtfpadnmdafiddaaGreatDoorPl
import Derived.Test.YtfpadnmdafiddaaGreatDoorPm
import Derived.Test.YtfpadnmdafiddaaGreatDoorPo
set_option linter.all false
set_option maxHeartbeats 16000000
set_option maxRecDepth 100000
namespace Go.Proofs.YtfpadnmdafiddaaGreatDoor
open Go Go.RowKit Go.V
def KCells (F:Nat→Prop) (w:World):List Value→List (Nd×Int)→Prop
 | [],[]=>True
 | v1::v2::v3::v4::cs,f::l=>(∃ x:NV,v1=x.v1∧v2=x.v2∧v3=x.v3∧v4=.int .i64 f.2∧NdAt F w x f.1)∧KCells F w cs l
 | _,_=>False
theorem KCells.go {F F':Nat→Prop} {w w':World} (g:Carry F w F' w'):∀ {cs:List Value} {l:List (Nd×Int)},KCells F w cs l→KCells F' w' cs l
 | [],[],_=>trivial
 | [],_::_,h=>h.elim
 | [_],[],h=>h.elim
 | [_,_],[],h=>h.elim
 | [_,_,_],[],h=>h.elim
 | _::_::_::_::_,[],h=>h.elim
 | [_],_::_,h=>h.elim
 | [_,_],_::_,h=>h.elim
 | [_,_,_],_::_,h=>h.elim
 | _::_::_::_::_,_::_,⟨⟨x,h1,h2,h3,h4,h5⟩,h6⟩=>⟨⟨x,h1,h2,h3,h4,h5.go g⟩,KCells.go g h6⟩
theorem KCells.snoc {F:Nat→Prop} {w:World} {x:NV} {f:Nd×Int} (hx:NdAt F w x f.1):∀ {cs:List Value} {l:List (Nd×Int)},KCells F w cs l→KCells F w (cs++[x.v1,x.v2,x.v3,.int .i64 f.2]) (l++[f])
 | [],[],_=>⟨⟨x,rfl,rfl,rfl,rfl,hx⟩,trivial⟩
 | [],_::_,h=>h.elim
 | [_],[],h=>h.elim
 | [_,_],[],h=>h.elim
 | [_,_,_],[],h=>h.elim
 | _::_::_::_::_,[],h=>h.elim
 | [_],_::_,h=>h.elim
 | [_,_],_::_,h=>h.elim
 | [_,_,_],_::_,h=>h.elim
 | _::_::_::_::_,_::_,⟨h5,h6⟩=>⟨h5,KCells.snoc hx h6⟩
theorem KCells.len {F:Nat→Prop} {w:World}:∀ {cs:List Value} {l:List (Nd×Int)},KCells F w cs l→cs.length=l.length*4
 | [],[],_=>rfl
 | [],_::_,h=>h.elim
 | [_],[],h=>h.elim
 | [_,_],[],h=>h.elim
 | [_,_,_],[],h=>h.elim
 | _::_::_::_::_,[],h=>h.elim
 | [_],_::_,h=>h.elim
 | [_,_],_::_,h=>h.elim
 | [_,_,_],_::_,h=>h.elim
 | _::_::_::_::_,_::_,⟨h5,h6⟩=>by have:=KCells.len h6;simp only [List.length_cons];omega
theorem KCells.one {F:Nat→Prop} {w:World}:∀ {cs:List Value} {l:List (Nd×Int)},KCells F w cs l→∀ u∈cs,u.oneCell'=true
 | [],[],_,u,hu=>by cases hu
 | [],_::_,h,_,_=>h.elim
 | [_],[],h,_,_=>h.elim
 | [_,_],[],h,_,_=>h.elim
 | [_,_,_],[],h,_,_=>h.elim
 | _::_::_::_::_,[],h,_,_=>h.elim
 | [_],_::_,h,_,_=>h.elim
 | [_,_],_::_,h,_,_=>h.elim
 | [_,_,_],_::_,h,_,_=>h.elim
 | _::_::_::_::_,_::_,⟨⟨x,h1,h2,h3,h4,h5⟩,h6⟩,u,hu=>by
  simp only [List.mem_cons] at hu;rcases hu with rfl|rfl|rfl|rfl|hu
  ·rw [h1];rfl
  ·rw [h2];rfl
  ·rw [h3];rfl
  ·rw [h4];rfl
  ·exact h6.one u hu
theorem KCells.last {F:Nat→Prop} {w:World}:∀ {l:List (Nd×Int)} {cs:List Value} {f:Nd×Int},KCells F w cs (l++[f])→∃ (c0:List Value) (x:NV),cs=c0++[x.v1,x.v2,x.v3,.int .i64 f.2]∧KCells F w c0 l∧NdAt F w x f.1
 | [],[],_,h=>h.elim
 | [],[_],_,h=>h.elim
 | [],[_,_],_,h=>h.elim
 | [],[_,_,_],_,h=>h.elim
 | [],v1::v2::v3::v4::cs,f,⟨⟨x,h1,h2,h3,h4,h5⟩,h6⟩=>by
  cases cs with
  | nil=>subst h1 h2 h3 h4;exact ⟨[],x,rfl,trivial,h5⟩
  | cons a b=>have:=KCells.len h6;simp at this
 | y::l,[],_,h=>h.elim
 | y::l,[_],_,h=>h.elim
 | y::l,[_,_],_,h=>h.elim
 | y::l,[_,_,_],_,h=>h.elim
 | y::l,v1::v2::v3::v4::cs,f,⟨h5,h6⟩=>by
  obtain ⟨c0,x,rfl,h1,h2⟩:=KCells.last h6;exact ⟨v1::v2::v3::v4::c0,x,rfl,⟨h5,h1⟩,h2⟩
theorem KCells.take {F:Nat→Prop} {w:World}:∀ {l:List (Nd×Int)} {cs:List Value} (k:Nat),KCells F w cs l→KCells F w (cs.take (k*4)) (l.take k)
 | [],[],k,_=>by simp [KCells]
 | [],[_],k,h=>h.elim
 | [],[_,_],k,h=>h.elim
 | [],[_,_,_],k,h=>h.elim
 | [],_::_::_::_::_,k,h=>h.elim
 | y::l,[],k,h=>h.elim
 | y::l,[_],k,h=>h.elim
 | y::l,[_,_],k,h=>h.elim
 | y::l,[_,_,_],k,h=>h.elim
 | y::l,v1::v2::v3::v4::cs,0,h=>by simp [KCells]
 | y::l,v1::v2::v3::v4::cs,k+1,⟨h5,h6⟩=>by
  rw [show (k+1)*4=k*4+1+1+1+1 by omega];exact ⟨h5,KCells.take k h6⟩
structure CC where
 wb:Nat
 root:Int
 fa:Option Addr
 fn:Nat
 fc:Nat
 ta:Option Addr
 tn:Nat
 tc:Nat
 back:Bool
 most:Int
 lo:Nat
structure Cu (w:World) (C:CC) (cb:Nat) (d:Int) (pv:Value) (fs:List (Nd×Int)):Prop where
 blk:Blk w cb 206 [.pointer (some ⟨cb,0,none⟩),.pointer (some ⟨C.wb,0,none⟩),.int .i64 C.root,.slice C.fa C.fn C.fc,.slice C.ta C.tn C.tc,.bool C.back,.int .i64 C.most,.int .i64 d,pv]
 row:∃ cs,w.ownsRow (cb+1) 254 4 pv fs.length cs∧KCells (λ k=>C.lo≤k∧k<cb) w cs fs
structure CuTo (cb:Nat) (pv pv':Value) (w w':World):Prop where
 but:ButS (λ k=>k=cb∨pv.ownBlock=some k) w w'
 own:∀ k,pv'.ownBlock=some k→pv.ownBlock=some k∨w.heap.size≤k
theorem CuTo.grow {cb:Nat} {pv:Value} {w w':World} (g:Grow w w'):CuTo cb pv pv w w':=⟨ButS.grow g,λ k h=>.inl h⟩
theorem CuTo.trans {cb:Nat} {pv a0 pv2:Value} {w w1 w2:World} (a:CuTo cb pv a0 w w1) (b:CuTo cb a0 pv2 w1 w2):CuTo cb pv pv2 w w2:=by
 have z:=a.but.size;refine ⟨⟨b.but.os.trans a.but.os,b.but.tape.trans a.but.tape,b.but.output.trans a.but.output,Nat.le_trans a.but.size b.but.size,λ k hk hn=>?_⟩,λ k hk=>?_⟩
 ·refine (b.but.block k oM (λ e=>?_)).trans (a.but.block k hk hn);rcases e with e|e
  ·exact hn (.inl e)
  ·rcases a.own k e with e|e
   ·exact hn (.inr e)
   ·omega
 ·rcases b.own k hk with e|e
  ·exact a.own k e
  ·exact .inr oM
theorem CuTo.upd {cb:Nat} {pv pv' pv2:Value} {w w1 w2:World} (h:CuTo cb pv pv' w w1) (u:Upd cb w1 w2):CuTo cb pv pv' w w2:=⟨⟨u.os.trans h.but.os,u.tape.trans h.but.tape,u.output.trans h.but.output,by rw [u.size];exact h.but.size,λ k hk hn=>(u.block k (λ e=>hn (.inl e))).trans (h.but.block k hk hn)⟩,h.own⟩
theorem Cu.lt {w:World} {C:CC} {cb:Nat} {d:Int} {pv:Value} {fs:List (Nd×Int)} (h:Cu w C cb d pv fs):cb<w.heap.size:=h.blk.lt
theorem Cu.grow {w w':World} {C:CC} {cb:Nat} {d:Int} {pv:Value} {fs:List (Nd×Int)} (h:Cu w C cb d pv fs) (g:Grow w w'):Cu w' C cb d pv fs:=by
 obtain ⟨cs,h1,h2⟩:=h.row;exact ⟨h.blk.grow g,cs,aO h1 g,h2.go (Carry.grow g)⟩
theorem Cu.slice {w:World} {C:CC} {cb:Nat} {d:Int} {pv:Value} {fs:List (Nd×Int)} (h:Cu w C cb d pv fs):∃ a c,pv=.slice a fs.length c:=by
 obtain ⟨cs,h1,h2⟩:=h.row;obtain ⟨a,c,e,_⟩:=aM h1;exact ⟨a,c,e⟩
section
variable {w:World} {C:CC} {cb:Nat} {d:Int} {pv:Value} {fs:List (Nd×Int)}
theorem ccut_c (h:Cu w C cb d pv fs) (k:Nat) (hk:k≤fs.length) :
  Calls Tryz.prog 176 #[.pointer (some ⟨cb,8,none⟩),.int .i64 (k:Int)] w (Ret λ v w'=>∃ pv',Cu w' C cb d pv' (fs.take k)∧CuTo cb pv pv' w w'):=by
 have hb:=h.blk;obtain ⟨cs,a0,i0⟩:=h.row;obtain ⟨a,c,rfl,g0⟩:=aM a0;obtain ⟨pv',⟨a',c',e1,rfl⟩,e0,h0⟩:=own_cut a0 hk;cases e1;have j0:=g0.cap;refine V.calls (args:=[_,_]) Tryz.func176 rfl Tryz.ntmps176 rfl rfl ?_;repeat refine aF ?_
 refine cL ?_;refine dF (l:=0) (h:=k) (mm:=c) rfl (aP _) (bI rfl rfl) (aP _) (by intro h;cases h) oM oM oM oM oM rfl ?_;rw [slAd_own a0 c];repeat (first|refine aF ?_|refine yJ λ w' hu k0 l0=>?_)
 have f0:Blk w' cb 206 [.pointer (some ⟨cb,0,none⟩),.pointer (some ⟨C.wb,0,none⟩),.int .i64 C.root,.slice C.fa C.fn C.fc,.slice C.ta C.tn C.tc,.bool C.back,.int .i64 C.most,.int .i64 d,.slice a k c]:=k0;refine dK (vs:=[]) rfl rfl ⟨_,rfl,.slice a k c,⟨f0,?_⟩,⟨⟨hu.os,hu.tape,hu.output,by rw [hu.size];exact Nat.le_refl _,λ j hj hn=>hu.block j (λ e=>hn (.inl e))⟩,λ j hj=>.inl (by rw [← h0];exact hj)⟩⟩;rw [List.length_take,Nat.min_eq_left hk];exact ⟨_,fZ e0 hu oM,(i0.take k).go (Carry.upd hu (λ j hj _=>by omega))⟩
theorem csize_c (x:NV) (at_:Value) (w:World) (h1:x.n1≤1000) (h2:x.n2≤1000) :
  Calls Tryz.prog 227 #[.agg #[x.v1,x.v2,x.v3,at_]] w (Ret λ v w'=>v=.int .i64 ((x.n2+x.n1:Nat):Int)∧Grow w w'):=by
 cases x with
 | mk a1 n1 c1 a2 n2 c2 a3 n3 c3 =>
 simp only at h1 h2;show Calls Tryz.prog 227 #[.agg #[.slice a1 n1 c1,.slice a2 n2 c2,.slice a3 n3 c3,at_]] w _;refine V.calls (args:=[_]) Tryz.func227 rfl Tryz.ntmps227 rfl rfl ?_;repeat (first|refine aF ?_|refine yI λ bk w' hg f0 e0 a0=>?_)
 exact bA rfl ⟨_,rfl,rfl,yG⟩
theorem cpush_c (h:Cu w C cb d pv fs) (x:NV) (nd:Nd) (at_:Int) (hx:NdAt (λ k=>C.lo≤k∧k<cb) w x nd) (hn:fs.length≤100) :
  Calls Tryz.prog 177 #[.pointer (some ⟨cb,8,none⟩),.agg #[x.v1,x.v2,x.v3,.int .i64 at_]] w (Ret λ v w'=>∃ pv',Cu w' C cb d pv' (fs++[(nd,at_)])∧CuTo cb pv pv' w w'):=by
 have hb:=h.blk;obtain ⟨cs,a0,m1⟩:=h.row;obtain ⟨a,c,rfl,e1⟩:=aM a0;have q1:=e1.cap;refine V.calls (args:=[_,_]) Tryz.func177 rfl Tryz.ntmps177 rfl rfl ?_;repeat (first|refine aF ?_|refine yI λ bk w' hg q0 z0 y0=>?_)
 obtain ⟨w1,rfl⟩:=yE w';have hS:∀ k,w1.heap.size≤k→¬ ((Value.slice a fs.length c).ownBlock=some k):=λ k hk e=>by have:=(aR a0 e).2;omega
 have u2:=h.lt;have i0:=aO a0 hg;have t0:=hb.grow hg;have n0:=m1.go (Carry.grow hg);have x0:=hx.go (Carry.grow hg)
 apply mX (ButS λ k=>(Value.slice a fs.length c).ownBlock=some k) 8 6 (λ wq=>Grow w1 wq)
  (λ wq=>ButS (λ k=>(Value.slice a fs.length c).ownBlock=some k) w1 wq)
  (λ wq=>ButS (λ k=>(Value.slice a fs.length c).ownBlock=some k) w1 wq)
  [gY (.pointer (some ⟨cb,8,none⟩)),gY (.pointer (some ⟨cb,8,none⟩)),gY (.pointer (some ⟨cb,8,none⟩)),gY (.slice a fs.length c),gY (.agg #[x.v1,x.v2,x.v3,.int .i64 at_]),ownS w1.heap.size 254 4 1 [x.v1,x.v2,x.v3,.int .i64 at_] hS,
   ofA (λ v wz=>∃ a' c',v=.slice a' (fs.length+1) c'∧wz.ownsRow (cb+1) 254 4 v (fs.length+1) (cs++[x.v1,x.v2,x.v3,.int .i64 at_])∧KCells (λ k=>C.lo≤k∧k<cb) wz (cs++[x.v1,x.v2,x.v3,.int .i64 at_]) (fs++[(nd,at_)])∧∀ k,v.ownBlock=some k→(Value.slice a fs.length c).ownBlock=some k∨w.heap.size≤k) (λ v wz e2 g ⟨a',c',h1,h2,h3,h4⟩=>⟨a',c',h1,aO h2 g,h3.go (Carry.grow g),h4⟩),
   gY (.pointer (some ⟨cb,8,none⟩))]
 ·kernel_rfl
 ·exact Grow.refl _
 ·exact λ _ h=>ButS.grow h
 ·exact λ _ h=>h
 ·exact λ _ h=>h.size
 ·exact λ _ _ h g=>h.trans g
 ·exact λ _ _ h g=>h.trans (ButS.grow g)
 ·exact λ _ _ h=>h.size
 ·repeat' (first|exact iO|refine gT ?_ ?_)
  iterate 5
   ·refine cZ rfl rfl rfl rfl ?_;intro wq _ _ e0;(refine yU ?_)
    have r1:=bX t0 e0 (λ e=>by have:=(aR a0 e).1;omega);have s1:=bX q0 e0 (λ e=>by have:=(aR a0 e).2;omega);repeat refine aF ?_
    exact bQ rfl (Grow.refl _) rfl
  ·refine cZ rfl rfl rfl rfl ?_;intro wq _ _ e0;(refine yU ?_)
   have v0:=e0.size;refine TL.buildSlice rfl rfl rfl rfl rfl ?_;intro b' wa o1 u1 r2 q2 o2;repeat refine aF ?_
   exact bQ rfl o1 (own_lit u1 oM rfl dM)
  ·refine iN rfl rfl rfl rfl ?_;intro wq _ _ e0;refine needA_cons rfl rfl ?_;intro f2 k0
   refine needA_cons rfl rfl ?_;intro u0 j0
   refine needA_nil ?_;obtain rfl:=Eq.symm k0;have g1:wq.ownsRow w1.heap.size 254 4 u0 1 [x.v1,x.v2,x.v3,.int .i64 at_]:=j0;obtain ⟨a2,c2,rfl,f1⟩:=aM g1;have v0:=e0.size;have h0:=aO i0 e0;refine dO (bytes:=80) rfl rfl h0 f1 (by intro u hu;simp only [List.mem_cons,List.not_mem_nil,or_false] at hu;rcases hu with rfl|rfl|rfl|rfl<;>rfl) (by unfold maxLen;omega) oM oM rfl ?_;intro v' wb g0 f0 o0;obtain ⟨a3,c3,rfl,s2⟩:=aM g0;have j2:=f0.size;have cK:Carry (λ k=>C.lo≤k∧k<cb) wq (λ k=>C.lo≤k∧k<cb) wb:=⟨f0.size,λ k hk hl=>⟨hk,f0.block k hl (λ e=>by have:=(aR a0 e.symm).1;omega)⟩⟩
   repeat refine aF ?_
   refine bQ rfl ⟨⟨f0.os,f0.tape,f0.output,f0.size,λ k hk hn=>f0.block k hk (λ e=>hn e.symm)⟩,(ButS.grow e0).trans ⟨f0.os,f0.tape,f0.output,f0.size,λ k hk hn=>f0.block k hk (λ e=>hn e.symm)⟩⟩ ⟨a3,c3,rfl,g0,KCells.snoc (f:=(nd,at_)) ((x0.go (Carry.grow e0)).go cK) ((n0.go (Carry.grow e0)).go cK),λ k hk=>?_⟩;by_cases j1:k<wq.heap.size
   ·by_cases s0:(Value.slice a fs.length c).ownBlock=some k
    ·exact .inl s0
    ·exact absurd hk (((o0 (λ _=>True)).blk k ⟨trivial,s0⟩ j1).1.2)
   ·exact .inr oM
  ·refine cZ rfl rfl rfl rfl ?_;intro wq _ _ e0;(((repeat (refine needA_cons rfl rfl ?_;intro vq l0;try (obtain rfl:=Eq.symm l0)));(refine needA_nil ?_)))
   repeat refine aF ?_
   exact bQ rfl (Grow.refl _) rfl
 ·rintro w2 lo hi e0 _ _;iterate 6 (refine needA_cons rfl rfl ?_;intro vq l0;try (obtain rfl:=Eq.symm l0))
  refine needA_cons rfl rfl ?_;rintro v9 ⟨a9,c9,rfl,d2,z1,y1⟩;refine needA_cons rfl rfl ?_;intro g2 m0;obtain rfl:=Eq.symm m0
  refine needA_nil ?_;have r1:=bX t0 e0 (λ e=>by have:=(aR a0 e).1;omega);repeat (first|refine aF ?_|refine yJ λ w' hu q0 z0=>?_)
  have p0:Blk w' cb 206 [.pointer (some ⟨cb,0,none⟩),.pointer (some ⟨C.wb,0,none⟩),.int .i64 C.root,.slice C.fa C.fn C.fc,.slice C.ta C.tn C.tc,.bool C.back,.int .i64 C.most,.int .i64 d,.slice a9 (fs.length+1) c9]:=q0;refine dK (vs:=[]) rfl rfl ⟨_,rfl,.slice a9 (fs.length+1) c9,⟨p0,?_⟩,?_⟩
  ·rw [List.length_append];exact ⟨_,fZ d2 hu oM,z1.go (Carry.upd hu (λ j hj _=>by omega))⟩
  ·refine CuTo.upd (pv2:=.slice none 0 0) ⟨?_,y1⟩ hu;have x1:ButS (λ k=>(Value.slice a fs.length c).ownBlock=some k) w w2:=(ButS.grow hg).trans e0;exact x1.sub λ k hk=>.inr hk
theorem ctop_c {a:Option Addr} {c:Nat} (h:Cu w C cb d (.slice a fs.length c) fs) (hn:1≤fs.length) (f0:fs.length≤1000) :
  Calls Tryz.prog 180 #[.pointer (some ⟨cb,8,none⟩)] w (Ret λ v w'=>v=.pointer (some (at' a ((fs.length-1)*4)))∧Grow w w'):=by
 have hb:=h.blk;obtain ⟨cs,a0,g0⟩:=h.row;obtain ⟨a',c',e1,e0⟩:=aM a0;cases e1;refine V.calls (args:=[_]) Tryz.func180 rfl Tryz.ntmps180 rfl rfl ?_;repeat refine aF ?_
 refine bD (e':=[(0,.pointer (some ⟨cb,8,none⟩))]) ?_ ⟨rfl,trivial⟩;apply T.any 10 [is _,is _,is _,is _,is _,is _,is _,is _,is _,is _];(· kernel_rfl);(· ((repeat' (first|exact aN|refine aK ?_ ?_));(iterate 10 (· (refine yQ λ wq _ _ i0=>?_;(repeat (first|refine aF ?_|(refine aI ?_;refine aC (j:=fs.length-1) rfl rfl oM oM rfl ⟨_,_,e0.grow yG⟩ rfl ?_)));exact aD rfl yG rfl)))));(rintro _ _ _ h0 _ _;(refine yT ?_))
 repeat refine aF ?_
 exact bA rfl ⟨_,rfl,rfl,yG⟩
theorem citem0_c (h:Cu w C cb d pv []) :
  Calls Tryz.prog 179 #[.pointer (some ⟨cb,8,none⟩)] w (Ret λ v w'=>v=.tuple #[.agg #[.slice none 0 0,.slice none 0 0],.bool false]∧Grow w w'):=by
 have hb:=h.blk;obtain ⟨a,c,rfl⟩:=h.slice;refine V.calls (args:=[_]) Tryz.func179 rfl Tryz.ntmps179 rfl rfl ?_;repeat (first|refine aF ?_|refine yI λ bk w' hg a0 f0 e0=>?_|refine yJ λ w' hu a0 f0=>?_)
 exact fL rfl (aW a0 rfl) rfl ⟨_,rfl,rfl,yG⟩
theorem citem_c {l:List (Nd×Int)} {nd:Nd} {i:Nat} {it:Bs×Bs} (h:Cu w C cb d pv (l++[(nd,(i:Int))])) (hi:nd.items[i]? = some it) (hl:l.length≤100) (z1:nd.items.length≤100) :
  Calls Tryz.prog 179 #[.pointer (some ⟨cb,8,none⟩)] w (Ret λ v w'=>∃ kv vv,v=.tuple #[.agg #[kv,vv],.bool true]∧BsAt (λ k=>C.lo≤k∧k<cb) w' kv it.1∧BsAt (λ k=>C.lo≤k∧k<cb) w' vv it.2∧Grow w w'):=by
 have hb:=h.blk;obtain ⟨a,c,rfl⟩:=h.slice;obtain ⟨cs,m0,m1⟩:=h.row;obtain ⟨a',c',e1,u0⟩:=aM m0;cases e1;have h0:(l++[(nd,(i:Int))]).length=l.length+1:=by simp
 have l0:=ctop_c h oM oM;rw [h0] at hb u0 l0;obtain ⟨c0,x,rfl,r1,y0⟩:=m1.last;have hx:NdAt (λ k=>C.lo≤k∧k<cb) w x nd:=y0;have x0:=r1.len;obtain ⟨t0,s1,u1⟩:=hx.its.ex;obtain ⟨kv,vv,f0,f1,⟨ka,kn,kc,rfl,p0⟩,⟨va,vn,vc,rfl,o0⟩⟩:=u1.at' hi;refine V.calls (args:=[_]) Tryz.func179 rfl Tryz.ntmps179 rfl rfl ?_;repeat (first|refine aF ?_|refine yI λ bk w' hg s0 j1 h1=>?_)
 have hh:=h.grow hg;have a0:=ctop_c hh oM oM;rw [h0,Nat.add_sub_cancel] at a0;refine aB 180 ?_;refine aA rfl a0 rfl ?_;rintro _ w3 ⟨rfl,v0⟩;have j0:=hg.trans v0;have q0:(c0++[x.v1,x.v2,x.v3,Value.int .i64 (i:Int)])[l.length*4]? = some x.v1:=by rw [← x0,List.getElem?_append_right (Nat.le_refl _),Nat.sub_self];rfl
 have q3:(c0++[x.v1,x.v2,x.v3,Value.int .i64 (i:Int)])[l.length*4+3]? = some (.int .i64 (i:Int)):=by rw [← x0,List.getElem?_append_right oM,show c0.length+3-c0.length=3 by omega];rfl
 have x1:t0[i*2]? = some (.slice ka kn kc):=by rw [Nat.mul_comm];exact f0
 have w1:t0[i*2+1]? = some (.slice va vn vc):=by rw [Nat.mul_comm];exact f1
 have y1:=hx.its.len;have d2:=(List.getElem?_eq_some_iff.1 hi).1;have e0:=u0.grow j0;have i0:=s1.grow j0;have q1:=p0.go (Carry.grow j0);have g1:=o0.go (Carry.grow j0);have b2:=s0.grow v0;repeat refine aF ?_
 refine bD (e':=[(4,.pointer (some (at' a (l.length*4)))),(2,.pointer (some ⟨bk,0,none⟩)),(0,.pointer (some ⟨cb,8,none⟩))]) ?_ ⟨rfl,rfl,rfl,trivial⟩;apply T.any 11 [is _,is _,is _,is _,is (.slice x.a1 x.n1 x.c1),is _,is _,is _,is _,is (.pointer (some (at' x.a1 (i*2)))),is (.agg #[.slice ka kn kc,.slice va vn vc])]
 ·kernel_rfl
 ·repeat' (first|exact aN|refine aK ?_ ?_)
  iterate 9
   ·refine yQ λ wq _ _ g0=>?_;repeat (first|(refine bM ?_;refine bJ (o:=l.length*4) rfl (e0.grow g0) q0 rfl ?_)|(refine aQ ?_;first|refine aS rfl ((e0.grow g0).row.cell q0) rfl ?_|refine aS rfl ((e0.grow g0).row.cell q3) rfl ?_)|refine yC ?_)
    exact aD rfl yG rfl
  ·refine yQ λ wq _ _ g0=>?_;refine aI ?_;refine aC (j:=i) rfl rfl rfl oM rfl ⟨_,_,i0.grow g0⟩ rfl ?_;repeat refine aF ?_
   exact aD rfl yG rfl
  ·refine yQ λ wq _ _ g0=>?_;refine aQ ?_;refine dJ rfl (i0.grow g0) (two_at x1 w1) rfl rfl ?_;repeat refine aF ?_
   exact aD rfl yG rfl
 rintro _ _ _ k0 _ _;((refine yT ?_))
 have b3:=b2.grow k0;have n0:=j0.trans k0;have o1:=q1.go (Carry.grow k0);have z0:=g1.go (Carry.grow k0);repeat (first|refine aF ?_|refine yJ λ w' hu s0 j1=>?_)
 have cU:Carry (λ k=>C.lo≤k∧k<cb) _ (λ k=>C.lo≤k∧k<cb) w':=Carry.upd hu (λ j hj _=>by have:=h.lt;omega);exact fL rfl (aW s0 rfl) rfl ⟨_,rfl,_,_,rfl,⟨_,_,_,rfl,o1.go cU⟩,⟨_,_,_,rfl,z0.go cU⟩,aH hu oM n0⟩
end
def kf (fr:List (Nd×Nat)):List (Nd×Int):=fr.reverse.map λ f=>(f.1,(f.2:Int))
theorem kf_cons (p:Nd) (i:Nat) (fr:List (Nd×Nat)):kf ((p,i)::fr)=kf fr++[(p,(i:Int))]:=by simp [kf]
theorem cE (fr:List (Nd×Nat)):(kf fr).length=fr.length:=by simp [kf]
def At (s:Pg) (H:Nat) (top:Nd) (fs:List (Nd×Int)):Option Nat→Prop
 | none=>fs=[]
 | some j=>∃ fr nd c pre post x,fs=kf fr++[(nd,((c:Nat):Int))]∧Pos s H top fr nd c pre post∧bN nd=true∧nd.items[c]? = some x∧pre.length=j
structure Tr (s:Pg) (H:Nat) (top:Nd) (al:bT) (ps0:List Nat) (n:Nat):Prop where
 vt:Vt s H top al ps0
 ok:PgOk s
 node:cD s n=some top
 big:1≤aT top
 le:H≤15
 n32:s.count<4294967296
def Wlk (w:World) (cb:Nat) (C:CC) (s:Pg) (ps:List Nat):Prop:=∃ p m M,Blk w C.wb 226 [.pointer (some ⟨p,0,none⟩),.map (some m)]∧MemAt (λ k=>C.lo≤k∧k<cb) w m M∧(C.lo≤C.wb∧C.wb<cb)∧(C.lo≤m∧m<cb)∧∀ k∈ps,∃ t,gM M k=some t∧cD s k=some t.node
theorem Cu.own {w:World} {C:CC} {cb:Nat} {d:Int} {pv:Value} {fs:List (Nd×Int)} (h:Cu w C cb d pv fs) {k:Nat} (e:pv.ownBlock=some k):cb<k∧k<w.heap.size:=by
 obtain ⟨cs,a0,_⟩:=h.row;exact aR a0 e
theorem Cu.carry {w w':World} {C:CC} {cb:Nat} {d:Int} {pv pv':Value} {fs:List (Nd×Int)} (h:Cu w C cb d pv fs) (t:CuTo cb pv pv' w w'):Carry (λ k=>C.lo≤k∧k<cb) w (λ k=>C.lo≤k∧k<cb) w':=by
 obtain ⟨cs,a0,_⟩:=h.row
 exact ⟨t.but.size,λ k hk hl=>⟨hk,t.but.block k hl (λ e=>by
  rcases e with e|e
  ·omega
  ·have:=(aR a0 e).1;omega)⟩⟩
theorem Cu.carry0 {w w':World} {C:CC} {cb:Nat} {d:Int} {pv pv':Value} {fs:List (Nd×Int)} (h:Cu w C cb d pv fs) (t:CuTo cb pv pv' w w'):Carry (λ k=>k<cb) w (λ k=>k<cb) w':=by
 obtain ⟨cs,a0,_⟩:=h.row
 exact ⟨t.but.size,λ k hk hl=>⟨hk,t.but.block k hl (λ e=>by
  rcases e with e|e
  ·omega
  ·have:=(aR a0 e).1;omega)⟩⟩
theorem Wlk.go {w w':World} {cb:Nat} {C:CC} {s:Pg} {ps:List Nat} (h:Wlk w cb C s ps) (c:Carry (λ k=>C.lo≤k∧k<cb) w (λ k=>C.lo≤k∧k<cb) w'):Wlk w' cb C s ps:=by
 obtain ⟨p,m,M,h1,h2,h3,h4,h5⟩:=h;exact ⟨p,m,M,cJ h1 (c.blk _ h3 h1.lt).2,h2.go c (c.blk _ h4 h2.lt).2,h3,h4,h5⟩
theorem Wlk.grow {w w':World} {cb:Nat} {C:CC} {s:Pg} {ps:List Nat} (h:Wlk w cb C s ps) (g:Grow w w'):Wlk w' cb C s ps:=h.go (Carry.grow g)
theorem Wlk.node {w:World} {cb:Nat} {C:CC} {s:Pg} {ps:List Nat} (h:Wlk w cb C s ps) {k:Nat} {nd:Nd} (hk:k∈ps) (hn:cD s k=some nd) (e0:k<4294967296) :
  Calls Tryz.prog 163 #[.pointer (some ⟨C.wb,0,none⟩),.int .i64 (k:Int)] w (Ret λ v w'=>∃ x:NV,v=x.val∧NdAt (λ k=>C.lo≤k∧k<cb) w' x nd∧Grow w w'):=by
 obtain ⟨p,m,M,h1,h2,h3,h4,h5⟩:=h;obtain ⟨t,ht,a0⟩:=h5 k hk;rw [hn] at a0;cases a0;exact wnode_c h1 h2 e0 ht
section
variable {w:World} {C:CC} {cb:Nat} {d:Int} {pv:Value} {s:Pg} {H:Nat} {top:Nd} {al:bT} {ps0:List Nat} {n:Nat}
theorem cdescF_c (tr:Tr s H top al ps0 n) {fr:List (Nd×Nat)} (h:Cu w C cb d pv (kf fr)) (hw:Wlk w cb C s (n::ps0)) {k:Nat} {nd:Nd} {p0 i0:bT} (q:Pos s H top fr nd 0 p0 i0) (hk:cD s k=some nd) (m0:k∈n::ps0) (h1:1≤aT nd) :
  Calls Tryz.prog 226 #[.pointer (some ⟨cb,0,none⟩),.int .i64 (k:Int),.int .i64 1] w (Ret λ v w'=>∃ pv' fs',Cu w' C cb d pv' fs'∧CuTo cb pv pv' w w'∧At s H top fs' (some p0.length)):=by
 refine V.calls (args:=[_,_,_]) Tryz.func226 rfl Tryz.ntmps226 rfl rfl ?_;repeat refine aF ?_
 refine aX (S:=List (Nd×Nat)×Nat×Nd×Value) (λ q=>[(2,.int .i64 1),(1,.int .i64 (q.2.1:Int)),(0,.pointer (some ⟨cb,0,none⟩))])
  (λ q w1=>Cu w1 C cb d q.2.2.2 (kf q.1)∧CuTo cb pv q.2.2.2 w w1∧Wlk w1 cb C s (n::ps0)∧Pos s H top q.1 q.2.2.1 0 p0 i0∧cD s q.2.1=some q.2.2.1∧q.2.1∈n::ps0∧1≤aT q.2.2.1) (λ q=>H+1-q.1.length) (fr,k,nd,pv) ⟨rfl,rfl,rfl,trivial⟩ ⟨h,CuTo.grow (Grow.refl _),hw,q,hk,m0,h1⟩ ?_
 clear h hw q hk m0 h1;rintro ⟨fr,k,nd,z0⟩ w1 ⟨h,s0,hw,q,hk,m0,h1⟩;simp only at h s0 q hk m0 h1;obtain ⟨_,_,x2,_⟩:=q.all tr.vt;obtain ⟨j2,s1,u1,u0⟩:=q.node tr.vt tr.ok tr.node;have v0:k<4294967296:=by have:=dV (dL hk);have:=tr.n32;omega
 have s2:=tr.le;have hb:=h.blk;have z2:=h.lt;have x1:∀ j,z0.ownBlock=some j→j<w1.heap.size:=λ j e=>(h.own e).2;have o2:=fB hk;have l0:=hw.node m0 hk v0;repeat refine aF ?_
 refine aB 163 ?_;refine aA rfl l0 rfl ?_;rintro _ w2 ⟨x,rfl,hx,o0⟩;repeat (first|refine aF ?_|refine yI λ bk w' hg y0 g1 t0=>?_|refine yJ λ w' hu y0 g1=>?_)
 have k6:Blk w' bk 254 [.slice x.a1 x.n1 x.c1,.slice x.a2 x.n2 x.c2,.slice x.a3 x.n3 x.c3,.int .i64 0]:=y0;obtain ⟨w3,rfl⟩:=yE w';have n0:Grow w1 w3:=aH hu (by have:=o0.size;omega) (o0.trans hg);have q0:NdAt (λ k=>C.lo≤k∧k<cb) w3 x nd:=(hx.go (Carry.grow hg)).go (Carry.upd hu (λ j hj _=>by have:=o0.size;omega));have h3:=h.grow n0;have f1:=hw.grow n0;have k0:CuTo cb pv z0 w w3:=s0.trans (CuTo.grow n0);have z3:=n0.size;have g2:cb<bk∧bk<w3.heap.size∧w1.heap.size≤bk:=by have:=o0.size;have:=k6.lt;omega
 have d2:=h3.blk;clear y0 hu hg o0 hx h hw s0 hb n0 g1 t0;apply T.any 4 [is _,is _,is _,is _];(· kernel_rfl);(· ((repeat' (first|exact aN|refine aK ?_ ?_));(iterate 4 (· (refine yQ λ wq _ _ u2=>?_;(repeat refine aF ?_);exact aD rfl yG rfl)))));(rintro _ _ _ f0 _ _;(refine yT ?_))
 rename_i w4;refine aB 177 ?_;refine aA rfl (cpush_c (h3.grow f0) x nd 0 (q0.go (Carry.grow f0)) (by rw [cE];omega)) rfl ?_;rintro _ w5 ⟨pv2,h5,a0⟩;have c5:=(h3.grow f0).carry a0;have r1:=(f1.grow f0).go c5;have j0:=(q0.go (Carry.grow f0)).go c5
 have e1:=bX (k6.grow f0) a0.but (λ e=>by
  rcases e with e|e
  ·omega
  ·have:=x1 _ e;omega)
 have e0:=(k0.trans (CuTo.grow f0)).trans a0;have r2:=j0.its.len;have q2:=bR j0.kids;clear k6 q0 h3 f1 k0 d2 f0 c5 a0;obtain ⟨f2,rfl⟩:=yE w5
 cases hl:bN nd with
 | true =>
  have h0:=s1 hl;obtain ⟨it,z1⟩:∃ it,nd.items[0]? = some it:=⟨_,List.getElem?_eq_getElem oM⟩
  repeat (first|refine aF ?_|(refine aB 80 ?_;refine aA rfl (eX j0 hl _) rfl ?_;rintro _ _ ⟨rfl,g0⟩))
  exact eF (vs:=[]) rfl rfl ⟨_,rfl,pv2,_,h5.grow g0,e0.trans (CuTo.grow g0),fr,nd,0,p0,i0,it,rfl,q,hl,z1,rfl⟩
 | false =>
  have h0:=u1 hl;obtain ⟨k',x0⟩:∃ k,nd.kids[0]? = some k:=⟨_,List.getElem?_eq_getElem oM⟩
  obtain ⟨o1,m1,e2,y1,_⟩:=u0 0 k' x0;repeat (first|refine aF ?_|(refine aB 80 ?_;refine aA rfl (eX j0 hl _) rfl ?_;rintro _ _ ⟨rfl,g0⟩))
  rename_i w6;have q1:=j0.go (Carry.grow g0);have j1:=q1.kids;have y2:w6.cell? (at' x.a2 0)=some (.int .i64 (k':Int)):=j1.row.cell (by rw [show bC nd.kids=nd.kids.map λ (k:Nat)=>(.int .i64 (k:Int):Value) from rfl,List.getElem?_map,x0];rfl);have h2:=e1.grow g0;clear e1 j0;repeat (first|(refine aI ?_;refine aC (j:=0) rfl rfl rfl oM rfl ⟨_,_,j1⟩ rfl ?_)|refine yC ?_)
  refine aE ((nd,0)::fr,k',o1,pv2) ⟨rfl,rfl,rfl,trivial⟩ ⟨by rw [kf_cons];exact h5.grow g0,e0.trans (CuTo.grow g0),r1.grow g0,q.downR tr.vt x0 m1,m1,List.mem_cons_of_mem _ y1,Nat.le_trans dM e2⟩ (by simp only [List.length_cons];omega)
theorem cdescB_c (tr:Tr s H top al ps0 n) {fr:List (Nd×Nat)} (h:Cu w C cb d pv (kf fr)) (hw:Wlk w cb C s (n::ps0)) {k:Nat} {nd:Nd} {s0 k0:bT} (q:Pos s H top fr nd (aT nd) s0 k0) (hk:cD s k=some nd) (o0:k∈n::ps0) (h1:1≤aT nd) :
  Calls Tryz.prog 226 #[.pointer (some ⟨cb,0,none⟩),.int .i64 (k:Int),.int .i64 (-1)] w (Ret λ v w'=>∃ pv' fs',Cu w' C cb d pv' fs'∧CuTo cb pv pv' w w'∧At s H top fs' (ixB s0.length)):=by
 refine V.calls (args:=[_,_,_]) Tryz.func226 rfl Tryz.ntmps226 rfl rfl ?_;repeat refine aF ?_
 refine aX (S:=List (Nd×Nat)×Nat×Nd×Value) (λ q=>[(2,.int .i64 (-1)),(1,.int .i64 (q.2.1:Int)),(0,.pointer (some ⟨cb,0,none⟩))])
  (λ q w1=>Cu w1 C cb d q.2.2.2 (kf q.1)∧CuTo cb pv q.2.2.2 w w1∧Wlk w1 cb C s (n::ps0)∧Pos s H top q.1 q.2.2.1 (aT q.2.2.1) s0 k0∧cD s q.2.1=some q.2.2.1∧q.2.1∈n::ps0∧1≤aT q.2.2.1) (λ q=>H+1-q.1.length) (fr,k,nd,pv) ⟨rfl,rfl,rfl,trivial⟩ ⟨h,CuTo.grow (Grow.refl _),hw,q,hk,o0,h1⟩ ?_
 clear h hw q hk o0 h1;rintro ⟨fr,k,nd,g1⟩ w1 ⟨h,v0,hw,q,hk,o0,h1⟩;simp only at h v0 q hk o0 h1;obtain ⟨_,_,g3,_⟩:=q.all tr.vt;obtain ⟨u2,e2,f2,y0⟩:=q.node tr.vt tr.ok tr.node;have z0:k<4294967296:=by have:=dV (dL hk);have:=tr.n32;omega
 have d3:=tr.le;have hb:=h.blk;have j3:=h.lt;have g2:∀ j,g1.ownBlock=some j→j<w1.heap.size:=λ j e=>(h.own e).2;have x2:=fB hk;have n0:=hw.node o0 hk z0;repeat refine aF ?_
 refine aB 163 ?_;refine aA rfl n0 rfl ?_;rintro _ w2 ⟨x,rfl,hx,i0⟩;have m1:=hx.its.len;have m2:=bR hx.kids;have m0:x.n2+x.n1=aT nd:=by rw [m1,m2];unfold aT;omega
 have k3:aT nd≤8:=node_le hk;have x1:x.n1≤1000∧x.n2≤1000:=by omega
 repeat (first|(refine aB 227 ?_;refine aA rfl (csize_c x _ _ x1.1 x1.2) rfl ?_;rintro _ _ ⟨rfl,a0⟩)|refine yC ?_|refine yI λ bk w' hg f1 q1 x0=>?_|refine yJ λ w' hu f1 q1=>?_)
 have k6:Blk w' bk 254 [.slice x.a1 x.n1 x.c1,.slice x.a2 x.n2 x.c2,.slice x.a3 x.n3 x.c3,.int .i64 ((x.n2+x.n1-1:Nat):Int)]:=f1;rename_i u0 _ _ _;obtain ⟨w3,rfl⟩:=yE w';have p0:Grow w1 w3:=aH hu (by have:=i0.size;omega) ((aH u0 (by have:=i0.size;omega) (i0.trans hg)).trans a0);have t0:NdAt (λ k=>C.lo≤k∧k<cb) w3 x nd:=(((hx.go (Carry.grow hg)).go (Carry.upd u0 (λ j hj _=>by have:=i0.size;omega))).go (Carry.grow a0)).go (Carry.upd hu (λ j hj _=>by have:=i0.size;omega));have h3:=h.grow p0;have o1:=hw.grow p0;have l0:CuTo cb pv g1 w w3:=v0.trans (CuTo.grow p0);have z3:=p0.size;have r2:cb<bk∧bk<w3.heap.size∧w1.heap.size≤bk:=by have:=i0.size;have:=k6.lt;omega
 have j2:=h3.blk;clear f1 hu u0 a0 hg i0 hx h hw v0 hb p0 q1 x0;apply T.any 4 [is _,is _,is _,is _];(· kernel_rfl);(· ((repeat' (first|exact aN|refine aK ?_ ?_));(iterate 4 (· (refine yQ λ wq _ _ f3=>?_;(repeat refine aF ?_);exact aD rfl yG rfl)))));(rintro _ _ _ g0 _ _;(refine yT ?_))
 rename_i w4;refine aB 177 ?_;refine aA rfl (cpush_c (h3.grow g0) x nd ((x.n2+x.n1-1:Nat):Int) (t0.go (Carry.grow g0)) (by rw [cE];omega)) rfl ?_;rintro _ w5 ⟨pv2,h5,e0⟩;have c5:=(h3.grow g0).carry e0;have d2:=(o1.grow g0).go c5;have j0:=(t0.go (Carry.grow g0)).go c5
 have j1:=bX (k6.grow g0) e0.but (λ e=>by
  rcases e with e|e
  ·omega
  ·have:=g2 _ e;omega)
 have f0:=(l0.trans (CuTo.grow g0)).trans e0;have z2:=j0.its.len;have y2:=bR j0.kids;clear k6 t0 h3 o1 l0 j2 g0 c5 e0;obtain ⟨q2,rfl⟩:=yE w5
 cases hl:bN nd with
 | true =>
  have h0:=e2 hl;obtain ⟨it,u1⟩:∃ it,nd.items[aT nd-1]? = some it:=⟨_,List.getElem?_eq_getElem oM⟩
  obtain ⟨q0,rfl,q'⟩:=Pos.back tr.vt (c:=aT nd-1) (by rwa [show aT nd-1+1=aT nd by omega]) hl u1;repeat (first|refine aF ?_|(refine aB 80 ?_;refine aA rfl (eX j0 hl _) rfl ?_;rintro _ _ ⟨rfl,a0⟩))
  exact eF (vs:=[]) rfl rfl ⟨_,rfl,pv2,_,h5.grow a0,f0.trans (CuTo.grow a0),by rw [List.length_append];exact ⟨fr,nd,aT nd-1,q0,_,it,by rw [m0],q',hl,u1,rfl⟩⟩
 | false =>
  have h0:=f2 hl;obtain ⟨k',e1⟩:∃ k,nd.kids[aT nd-1]? = some k:=⟨_,List.getElem?_eq_getElem oM⟩
  obtain ⟨y1,s1,o2,h2,_⟩:=y0 (aT nd-1) k' e1;repeat (first|refine aF ?_|(refine aB 80 ?_;refine aA rfl (eX j0 hl _) rfl ?_;rintro _ _ ⟨rfl,a0⟩))
  rename_i w6;have z1:=j0.go (Carry.grow a0);have r1:=z1.kids;have i3:w6.cell? (at' x.a2 (aT nd-1))=some (.int .i64 (k':Int)):=r1.row.cell (by rw [show bC nd.kids=nd.kids.map λ (k:Nat)=>(.int .i64 (k:Int):Value) from rfl,List.getElem?_map,e1];rfl);have s2:=j1.grow a0;clear j1 j0;repeat (first|(refine aI ?_;refine aC (j:=aT nd-1) rfl rfl oM oM (Nat.mul_one _) ⟨_,_,r1⟩ rfl ?_)|refine yC ?_)
  refine aE ((nd,aT nd-1)::fr,k',y1,pv2) ⟨rfl,rfl,rfl,trivial⟩ ⟨by rw [kf_cons,← m0];exact h5.grow a0,f0.trans (CuTo.grow a0),d2.grow a0,Pos.downL tr.vt (c:=aT nd-1) (by rwa [show aT nd-1+1=aT nd by omega]) e1 s1,s1,List.mem_cons_of_mem _ h2,Nat.le_trans dM o2⟩ (by simp only [List.length_cons];omega)
end
end Go.Proofs.YtfpadnmdafiddaaGreatDoor
