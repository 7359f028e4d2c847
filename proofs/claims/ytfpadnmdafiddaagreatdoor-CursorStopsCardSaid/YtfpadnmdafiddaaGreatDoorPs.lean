import Derived.Test.YtfpadnmdafiddaaGreatDoorP0
import Derived.Test.YtfpadnmdafiddaaGreatDoorPr
import Derived.Test.YtfpadnmdafiddaaGreatDoorPj
set_option linter.all false
set_option maxHeartbeats 16000000
set_option maxRecDepth 100000
namespace Go.V
open Go Go.RowKit
theorem bU [Rn] {P:Program} {n:Nat} {l:List Oper} {e:dI} {I:Bool→World→Prop} {vs:List Value} {A:Nat} {i j:Nat} {a0:Bool} {d:Option Nat} {op:Op} {ty:TypeId} {pos:String} {aft:Array Edge} {v:Value} {e':dI} (ho:l[i]? = some ⟨d,op,ty,pos,aft,some (j,a0)⟩) (hv:vs.getD i undef=v) (he:iY l vs (lC (bH ⟨d,op,ty,pos,aft,some (j,a0)⟩)) e=e')
  (h:∀ b w,(i=A→b=false)→I b w→TL P n l.toArray [⟨d,op,ty,pos,aft,some (j,a0)⟩] e' w (detQ d v (I (b || Nat.beq i A)))):DetA P n l e I vs A i:=by
 unfold DetA;rw [ho];simp only;intro b w hb hw;subst he;rw [hv];exact h b w hb hw
end Go.V
namespace Go.Proofs.YtfpadnmdafiddaaGreatDoor
open Go Go.RowKit Go.V
def hQ (E:CE) (back:Bool) (ix:Option Nat):bT:=if back then restB E.al E.fr ix else kW E.al E.to ix
def lim (C:CC) (d:Int):Prop:=0<C.most∧C.most≤d
theorem lV {al:bT} {to:Bs} {j:Nat} {it:Bs×Bs} (h:al[j]? = some it):kW al to (some j)=if kT to it then it::kW al to (kD al.length (j+1)) else []:=by
 rw [restF_ix];simp only [kW];rw [iE h,List.takeWhile_cons]
theorem restB_head {al:bT} {fr:Bs} {j:Nat} {it:Bs×Bs} (h:al[j]? = some it):restB al fr (some j)=if nM fr it then it::restB al fr (ixB j) else []:=by
 rw [restB_ix];simp only [restB];rw [dZ h,List.reverse_append,List.reverse_singleton,List.singleton_append,List.takeWhile_cons]
section
variable {w:World} {C:CC} {cb:Nat} {d:Int} {pv:Value} {fs:List (Nd×Int)} {E:CE}
theorem chere_c (o:Ok w C cb E) (h:Cu w C cb d pv fs) {ix:Option Nat} (m1:AtE E fs ix) (u1:∀ j,ix=some j→j<E.al.length) (hd:0≤d∧d≤4611686018427387904) :
  Calls Tryz.prog 136 #[.pointer (some ⟨cb,0,none⟩)] w (Ret λ v w'=>∃ a n c a2 n2 c2 b,v=.tuple #[.agg #[.slice a n c,.slice a2 n2 c2],.bool b]∧Grow w w'∧((b=true∧¬ lim C d∧∃ it r,hQ E C.back ix=it::r∧Sl (λ k=>C.lo≤k∧k<cb) w' 1 a n c (bB it.1)∧Sl (λ k=>C.lo≤k∧k<cb) w' 1 a2 n2 c2 (bB it.2))∨(b=false∧(lim C d∨hQ E C.back ix=[])))):=by
 have hb:=h.blk;have hm:=o.most;have d2:=h.lt;have g1:C.tn=E.to.length:=by have:=o.t.len;rw [bB,List.length_map] at this;omega
 have y1:=o.tl;refine V.calls (args:=[_]) Tryz.func136 rfl Tryz.ntmps136 rfl rfl ?_
 cases ix with
 | none =>
  obtain rfl:fs=[]:=m1;repeat (first|refine aF ?_|refine yI λ bk w' hg f0 l0 o0=>?_)
  refine aB 179 ?_;refine aA rfl (citem0_c (h.grow hg)) rfl ?_;rintro _ w3 ⟨rfl,s0⟩;have b2:=f0.grow s0;have k0:=hg.trans s0;have e1:=hb.grow k0;obtain ⟨t2,rfl⟩:=yE bk;clear hb f0;repeat (first|refine aF ?_|refine yI λ bk w' hg f0 l0 o0=>?_|refine yJ λ w' hu f0 l0=>?_)
  have z0:=(e1.grow hg).upd hu (by have:=s0.size;have:=h.lt;omega);have v0:=(b2.grow hg).upd hu (by have:=b2.lt;omega);have i0:Grow w w':=aH hu (by have:=s0.size;omega) (k0.trans hg);obtain ⟨w4,rfl⟩:=yE w';clear e1 b2 f0 hu hg s0 l0 o0;apply T.any 22 [is _,is _,is _,is _,is _,is _,is _,is _,is _,is _,is _,is _,is _,is _,is _,is _,is _,is _,is _,is _,is _,is _];(· kernel_rfl);(· ((repeat' (first|exact aN|refine aK ?_ ?_));(iterate 22 (· (refine yQ λ wq _ _ j1=>?_;(repeat (first|refine aF ?_|refine TL.guard_left rfl rfl rfl ?_));exact aD rfl yG rfl)))));(rintro _ _ _ j0 _ _;(refine yT ?_))
  have t0:=v0.grow j0;have z4:=i0.size;have qt:w.heap.size≤t2:=by omega
  repeat (first|refine aF ?_|refine yJ λ w' hu f0 l0=>?_)
  refine fL rfl (aW f0 rfl) rfl ⟨_,rfl,none,0,0,none,0,0,false,rfl,aH hu oM (i0.trans j0),.inr ⟨rfl,.inr ?_⟩⟩;unfold hQ;cases C.back<;>rfl
 | some j =>
  have hj:=u1 j rfl
  obtain ⟨n,ps0,hr,z1,tr⟩:∃ n ps0,C.root=((n:Nat):Int)∧E.ps=n::ps0∧Tr E.s E.H E.top E.al ps0 n:=by
   rcases o.tr with ⟨_,ha⟩|ht
   ·rw [ha] at hj;simp at hj
   ·exact ht
  obtain ⟨l,nd,c,it,rfl,w1,y0,s1,r1⟩:=m1.item tr;repeat (first|refine aF ?_|refine yI λ bk w' hg f0 l0 o0=>?_)
  refine aB 179 ?_;refine aA rfl (citem_c (h.grow hg) w1 s1 r1) rfl ?_;rintro _ w3 ⟨_,_,rfl,⟨ia,e0,ic,rfl,q0⟩,⟨va,vn,vc,rfl,x0⟩,s0⟩;have b2:=f0.grow s0;have k0:=hg.trans s0;have e1:=hb.grow k0;have o3:=o.grow k0;obtain ⟨t2,rfl⟩:=yE bk;have q2:w.heap.size≤t2∧t2<w3.heap.size:=by have:=b2.lt;omega
  clear hb f0 hg s0 o h m1 l0 o0;repeat (first|refine aF ?_|refine yI λ bk w' hg f0 l0 o0=>?_|refine yJ λ w' hu f0 l0=>?_)
  have z0:=(e1.grow hg).upd hu (by have:=k0.size;omega);have v0:Blk w' t2 58 [.slice none 0 0,.slice none 0 0]:=(b2.grow hg).upd hu oM;obtain ⟨t4,rfl⟩:=yE bk;have f1:Blk w' t4 58 [.slice ia e0 ic,.slice va vn vc]:=f0;have z3:=k0.size;have i0:Grow w w':=aH hu oM (k0.trans hg);have c4:Carry (λ k=>C.lo≤k∧k<cb) w3 (λ k=>C.lo≤k∧k<cb) w':=(Carry.grow hg).trans (Carry.upd hu (λ k hk _=>by omega));have x1:w3.heap.size≤t4∧t4<w'.heap.size:=by have:=f1.lt;omega
  obtain ⟨w4,rfl⟩:=yE w';clear e1 b2 f0 hu hg l0 o0;by_cases q1:0<C.most
  ·by_cases o1:C.most≤d
   ·apply T.any 22 [is _,is _,is _,is _,is _,is _,is _,is _,is _,is _,is _,is _,is _,is _,is _,is _,is _,is _,is _,is _,is _,is _];(· kernel_rfl);(· ((repeat' (first|exact aN|refine aK ?_ ?_));(iterate 22 (· (refine yQ λ wq _ _ j1=>?_;(repeat refine aF ?_);exact aD rfl yG rfl)))));(rintro _ _ _ j0 _ _;(refine yT ?_))
    have t0:=v0.grow j0;have z4:=i0.size;repeat (first|refine aF ?_|refine yJ λ w' hu f0 l0=>?_)
    exact fL rfl (aW f0 rfl) rfl ⟨_,rfl,none,0,0,none,0,0,false,rfl,aH hu oM (i0.trans j0),.inr ⟨rfl,.inl ⟨q1,o1⟩⟩⟩
   have m0:¬ lim C d:=λ e=>o1 e.2;apply T.any 22 [is _,is _,is _,is _,is _,is _,is _,is _,is _,is _,is _,is _,is _,is _,is _,is _,is _,is _,is _,is _,is _,is _];(· kernel_rfl);(· ((repeat' (first|exact aN|refine aK ?_ ?_));(iterate 22 (· (refine yQ λ wq _ _ j1=>?_;(repeat refine aF ?_);exact aD rfl yG rfl)))));(rintro _ _ _ j0 _ _;(refine yT ?_))
   have p0:=z0.grow j0;have t0:=v0.grow j0;have u0:=f1.grow j0;have n0:=i0.trans j0;have c5:=c4.trans (Carry.grow j0);clear z0 v0 f1 i0 c4 j0
   cases hback:C.back with
   | true =>
    rw [hback] at p0;repeat refine aF ?_
    refine bD (e':=[(4,.pointer (some ⟨t4,0,none⟩)),(2,.pointer (some ⟨t2,0,none⟩)),(0,.pointer (some ⟨cb,0,none⟩))]) ?_ ⟨rfl,rfl,rfl,trivial⟩
    apply T.detA 11 10 [.agg #[.slice ia e0 ic,.slice va vn vc],.pointer (some ⟨t4,0+0,none⟩),.slice ia e0 ic,.pointer (some ⟨cb,0,none⟩),.pointer (some ⟨cb,0,none⟩),.pointer (some ⟨cb,0+3,none⟩),.pointer (some ⟨cb,0+3+0,none⟩),.slice C.fa C.fn C.fc,.int .i64 (bY it.1 E.fr),.bool (nM E.fr it),undef]
     (λ b wq=>Grow w wq∧Carry (λ k=>C.lo≤k∧k<cb) w3 (λ k=>C.lo≤k∧k<cb) wq∧Blk wq cb 206 [.pointer (some ⟨cb,0,none⟩),.pointer (some ⟨C.wb,0,none⟩),.int .i64 C.root,.slice C.fa C.fn C.fc,.slice C.ta C.tn C.tc,.bool true,.int .i64 C.most,.int .i64 d,pv]∧Blk wq t4 58 [.slice ia e0 ic,.slice va vn vc]∧Blk wq t2 58 (if b then [.slice ia e0 ic,.slice va vn vc] else [.slice none 0 0,.slice none 0 0]))
    ·rfl
    ·exact λ wq hq=>⟨n0.trans hq,c5.trans (Carry.grow hq),p0.grow hq,u0.grow hq,t0.grow hq⟩
    ·repeat' (first|exact gH|refine fU ?_ ?_)
     ·refine aV rfl rfl rfl ?_;rintro b wq a0 ⟨i1,i2,i3,i4,i5⟩;repeat refine aF ?_
      refine aG rfl ?_;rw [show (b || Nat.beq 0 10)=b from Bool.or_false b];exact ⟨i1,i2,i3,i4,i5⟩
     ·refine aV rfl rfl rfl ?_;rintro b wq a0 ⟨i1,i2,i3,i4,i5⟩;repeat refine aF ?_
      refine aG rfl ?_;rw [show (b || Nat.beq 1 10)=b from Bool.or_false b];exact ⟨i1,i2,i3,i4,i5⟩
     ·refine aV rfl rfl rfl ?_;rintro b wq a0 ⟨i1,i2,i3,i4,i5⟩;repeat refine aF ?_
      refine aG rfl ?_;rw [show (b || Nat.beq 2 10)=b from Bool.or_false b];exact ⟨i1,i2,i3,i4,i5⟩
     ·refine aV rfl rfl rfl ?_;rintro b wq a0 ⟨i1,i2,i3,i4,i5⟩;repeat refine aF ?_
      refine aG rfl ?_;rw [show (b || Nat.beq 3 10)=b from Bool.or_false b];exact ⟨i1,i2,i3,i4,i5⟩
     ·refine aV rfl rfl rfl ?_;rintro b wq a0 ⟨i1,i2,i3,i4,i5⟩;repeat refine aF ?_
      refine aG rfl ?_;rw [show (b || Nat.beq 4 10)=b from Bool.or_false b];exact ⟨i1,i2,i3,i4,i5⟩
     ·refine aV rfl rfl rfl ?_;rintro b wq a0 ⟨i1,i2,i3,i4,i5⟩;repeat refine aF ?_
      refine aG rfl ?_;rw [show (b || Nat.beq 5 10)=b from Bool.or_false b];exact ⟨i1,i2,i3,i4,i5⟩
     ·refine aV rfl rfl rfl ?_;rintro b wq a0 ⟨i1,i2,i3,i4,i5⟩;repeat refine aF ?_
      refine aG rfl ?_;rw [show (b || Nat.beq 6 10)=b from Bool.or_false b];exact ⟨i1,i2,i3,i4,i5⟩
     ·refine aV rfl rfl rfl ?_;rintro b wq a0 ⟨i1,i2,i3,i4,i5⟩;repeat refine aF ?_
      refine aG rfl ?_;rw [show (b || Nat.beq 7 10)=b from Bool.or_false b];exact ⟨i1,i2,i3,i4,i5⟩
     ·refine aV rfl rfl rfl ?_;rintro b wq a0 ⟨i1,i2,i3,i4,i5⟩;repeat (first|(refine aB 139 ?_;refine aA rfl (eN _ _ _ _ _ _ _ _ it.1 E.fr _ (q0.go i2) (o3.f.go i2)) rfl ?_;rintro _ _ ⟨rfl,g0⟩)|refine yC ?_)
      refine aG rfl ?_;rw [show (b || Nat.beq 8 10)=b from Bool.or_false b];exact ⟨i1.trans g0,i2.trans (Carry.grow g0),i3.grow g0,i4.grow g0,i5.grow g0⟩
     ·refine aV rfl rfl rfl ?_;rintro b wq a0 ⟨i1,i2,i3,i4,i5⟩;repeat refine aF ?_
      refine aG rfl ?_;rw [show (b || Nat.beq 9 10)=b from Bool.or_false b];exact ⟨i1,i2,i3,i4,i5⟩
     ·refine aV rfl rfl rfl ?_;rintro b wq a0 ⟨i1,i2,i3,i4,i5⟩;obtain rfl:=a0 rfl;repeat (first|refine aF ?_|refine yJ λ w' hu f0 l0=>?_)
      refine gS ?_;exact ⟨aH hu oM i1,i2.trans (Carry.upd hu (λ k hk _=>by omega)),i3.upd hu oM,i4.upd hu oM,f0⟩
    ·rintro w9 ⟨i1,i2,i3,i4,i5⟩;repeat refine aF ?_
     refine fL rfl (aW i5 rfl) rfl ⟨_,rfl,ia,e0,ic,va,vn,vc,nM E.fr it,rfl,i1,?_⟩;have hr:hQ E true (some j)=if nM E.fr it then it::restB E.al E.fr (ixB j) else []:=restB_head y0
     cases hgf:nM E.fr it with
     | true =>
      refine .inl ⟨rfl,m0,it,restB E.al E.fr (ixB j),?_,q0.go i2,x0.go i2⟩;rw [hr,hgf];rfl
     | false =>
      refine .inr ⟨rfl,.inr ?_⟩;rw [hr,hgf];rfl
   | false =>
    rw [hback] at p0;repeat refine aF ?_
    refine bD (e':=[(4,.pointer (some ⟨t4,0,none⟩)),(2,.pointer (some ⟨t2,0,none⟩)),(0,.pointer (some ⟨cb,0,none⟩))]) ?_ ⟨rfl,rfl,rfl,trivial⟩;by_cases h0:C.tn=0
    ·apply T.detA 20 19 [.agg #[.slice ia e0 ic,.slice va vn vc],.pointer (some ⟨cb,0,none⟩),.pointer (some ⟨cb,0,none⟩),.pointer (some ⟨cb,0+3,none⟩),.pointer (some ⟨cb,0+3+1,none⟩),.slice C.ta C.tn C.tc,.int .i64 (C.tn:Int),.bool true,.bool true,undef,undef,undef,undef,undef,undef,undef,undef,undef,.bool true,undef]
      (λ b wq=>Grow w wq∧Carry (λ k=>C.lo≤k∧k<cb) w3 (λ k=>C.lo≤k∧k<cb) wq∧Blk wq cb 206 [.pointer (some ⟨cb,0,none⟩),.pointer (some ⟨C.wb,0,none⟩),.int .i64 C.root,.slice C.fa C.fn C.fc,.slice C.ta C.tn C.tc,.bool false,.int .i64 C.most,.int .i64 d,pv]∧Blk wq t4 58 [.slice ia e0 ic,.slice va vn vc]∧Blk wq t2 58 (if b then [.slice ia e0 ic,.slice va vn vc] else [.slice none 0 0,.slice none 0 0]))
     ·rfl
     ·exact λ wq hq=>⟨n0.trans hq,c5.trans (Carry.grow hq),p0.grow hq,u0.grow hq,t0.grow hq⟩
     ·repeat' (first|exact gH|refine fU ?_ ?_)
      ·refine aV rfl rfl rfl ?_;rintro b wq a0 ⟨i1,i2,i3,i4,i5⟩;repeat refine aF ?_
       refine aG rfl ?_;rw [show (b || Nat.beq 0 19)=b from Bool.or_false b];exact ⟨i1,i2,i3,i4,i5⟩
      ·refine aV rfl rfl rfl ?_;rintro b wq a0 ⟨i1,i2,i3,i4,i5⟩;repeat refine aF ?_
       refine aG rfl ?_;rw [show (b || Nat.beq 1 19)=b from Bool.or_false b];exact ⟨i1,i2,i3,i4,i5⟩
      ·refine aV rfl rfl rfl ?_;rintro b wq a0 ⟨i1,i2,i3,i4,i5⟩;repeat refine aF ?_
       refine aG rfl ?_;rw [show (b || Nat.beq 2 19)=b from Bool.or_false b];exact ⟨i1,i2,i3,i4,i5⟩
      ·refine aV rfl rfl rfl ?_;rintro b wq a0 ⟨i1,i2,i3,i4,i5⟩;repeat refine aF ?_
       refine aG rfl ?_;rw [show (b || Nat.beq 3 19)=b from Bool.or_false b];exact ⟨i1,i2,i3,i4,i5⟩
      ·refine aV rfl rfl rfl ?_;rintro b wq a0 ⟨i1,i2,i3,i4,i5⟩;repeat refine aF ?_
       refine aG rfl ?_;rw [show (b || Nat.beq 4 19)=b from Bool.or_false b];exact ⟨i1,i2,i3,i4,i5⟩
      ·refine aV rfl rfl rfl ?_;rintro b wq a0 ⟨i1,i2,i3,i4,i5⟩;repeat refine aF ?_
       refine aG rfl ?_;rw [show (b || Nat.beq 5 19)=b from Bool.or_false b];exact ⟨i1,i2,i3,i4,i5⟩
      ·refine aV rfl rfl rfl ?_;rintro b wq a0 ⟨i1,i2,i3,i4,i5⟩;repeat refine aF ?_
       refine aG rfl ?_;rw [show (b || Nat.beq 6 19)=b from Bool.or_false b];exact ⟨i1,i2,i3,i4,i5⟩
      ·refine aV rfl rfl rfl ?_;rintro b wq a0 ⟨i1,i2,i3,i4,i5⟩;repeat refine aF ?_
       refine aG rfl ?_;rw [show (b || Nat.beq 7 19)=b from Bool.or_false b];exact ⟨i1,i2,i3,i4,i5⟩
      ·refine aV rfl rfl rfl ?_;rintro b wq a0 ⟨i1,i2,i3,i4,i5⟩;repeat refine aF ?_
       refine aG rfl ?_;rw [show (b || Nat.beq 8 19)=b from Bool.or_false b];exact ⟨i1,i2,i3,i4,i5⟩
      ·refine bU rfl rfl rfl ?_;rintro b wq a0 ⟨i1,i2,i3,i4,i5⟩;repeat refine aF ?_
       refine aG rfl ?_;rw [show (b || Nat.beq 9 19)=b from Bool.or_false b];exact ⟨i1,i2,i3,i4,i5⟩
      ·refine bU rfl rfl rfl ?_;rintro b wq a0 ⟨i1,i2,i3,i4,i5⟩;repeat refine aF ?_
       refine aG rfl ?_;rw [show (b || Nat.beq 10 19)=b from Bool.or_false b];exact ⟨i1,i2,i3,i4,i5⟩
      ·refine bU rfl rfl rfl ?_;rintro b wq a0 ⟨i1,i2,i3,i4,i5⟩;repeat refine aF ?_
       refine aG rfl ?_;rw [show (b || Nat.beq 11 19)=b from Bool.or_false b];exact ⟨i1,i2,i3,i4,i5⟩
      ·refine bU rfl rfl rfl ?_;rintro b wq a0 ⟨i1,i2,i3,i4,i5⟩;repeat refine aF ?_
       refine aG rfl ?_;rw [show (b || Nat.beq 12 19)=b from Bool.or_false b];exact ⟨i1,i2,i3,i4,i5⟩
      ·refine bU rfl rfl rfl ?_;rintro b wq a0 ⟨i1,i2,i3,i4,i5⟩;repeat refine aF ?_
       refine aG rfl ?_;rw [show (b || Nat.beq 13 19)=b from Bool.or_false b];exact ⟨i1,i2,i3,i4,i5⟩
      ·refine bU rfl rfl rfl ?_;rintro b wq a0 ⟨i1,i2,i3,i4,i5⟩;repeat refine aF ?_
       refine aG rfl ?_;rw [show (b || Nat.beq 14 19)=b from Bool.or_false b];exact ⟨i1,i2,i3,i4,i5⟩
      ·refine bU rfl rfl rfl ?_;rintro b wq a0 ⟨i1,i2,i3,i4,i5⟩;repeat refine aF ?_
       refine aG rfl ?_;rw [show (b || Nat.beq 15 19)=b from Bool.or_false b];exact ⟨i1,i2,i3,i4,i5⟩
      ·refine bU rfl rfl rfl ?_;rintro b wq a0 ⟨i1,i2,i3,i4,i5⟩;repeat refine aF ?_
       refine aG rfl ?_;rw [show (b || Nat.beq 16 19)=b from Bool.or_false b];exact ⟨i1,i2,i3,i4,i5⟩
      ·refine bU rfl rfl rfl ?_;rintro b wq a0 ⟨i1,i2,i3,i4,i5⟩;repeat refine aF ?_
       refine aG rfl ?_;rw [show (b || Nat.beq 17 19)=b from Bool.or_false b];exact ⟨i1,i2,i3,i4,i5⟩
      ·refine aV rfl rfl rfl ?_;rintro b wq a0 ⟨i1,i2,i3,i4,i5⟩;repeat refine aF ?_
       refine aG rfl ?_;rw [show (b || Nat.beq 18 19)=b from Bool.or_false b];exact ⟨i1,i2,i3,i4,i5⟩
      ·refine aV rfl rfl rfl ?_;rintro b wq a0 ⟨i1,i2,i3,i4,i5⟩;obtain rfl:=a0 rfl;repeat (first|refine aF ?_|refine yJ λ w' hu f0 l0=>?_)
       refine gS ?_;exact ⟨aH hu oM i1,i2.trans (Carry.upd hu (λ k hk _=>by omega)),i3.upd hu oM,i4.upd hu oM,f0⟩
     ·rintro w9 ⟨i1,i2,i3,i4,i5⟩;repeat refine aF ?_
      refine fL rfl (aW i5 rfl) rfl ⟨_,rfl,ia,e0,ic,va,vn,vc,true,rfl,i1,.inl ⟨rfl,m0,it,kW E.al E.to (kD E.al.length (j+1)),?_,q0.go i2,x0.go i2⟩⟩;have hr:hQ E false (some j)=if kT E.to it then it::kW E.al E.to (kD E.al.length (j+1)) else []:=lV y0;rw [hr,show kT E.to it=true by rw [List.eq_nil_of_length_eq_zero (show E.to.length=0 by omega)];rfl];rfl
    ·apply T.detA 20 19 [.agg #[.slice ia e0 ic,.slice va vn vc],.pointer (some ⟨cb,0,none⟩),.pointer (some ⟨cb,0,none⟩),.pointer (some ⟨cb,0+3,none⟩),.pointer (some ⟨cb,0+3+1,none⟩),.slice C.ta C.tn C.tc,.int .i64 (C.tn:Int),.bool false,.bool false,.pointer (some ⟨t4,0+0,none⟩),.slice ia e0 ic,.pointer (some ⟨cb,0,none⟩),.pointer (some ⟨cb,0,none⟩),.pointer (some ⟨cb,0+3,none⟩),.pointer (some ⟨cb,0+3+1,none⟩),.slice C.ta C.tn C.tc,.int .i64 (bY it.1 E.to),.bool (decide (bY it.1 E.to<0)),.bool (decide (bY it.1 E.to<0)),undef]
      (λ b wq=>Grow w wq∧Carry (λ k=>C.lo≤k∧k<cb) w3 (λ k=>C.lo≤k∧k<cb) wq∧Blk wq cb 206 [.pointer (some ⟨cb,0,none⟩),.pointer (some ⟨C.wb,0,none⟩),.int .i64 C.root,.slice C.fa C.fn C.fc,.slice C.ta C.tn C.tc,.bool false,.int .i64 C.most,.int .i64 d,pv]∧Blk wq t4 58 [.slice ia e0 ic,.slice va vn vc]∧Blk wq t2 58 (if b then [.slice ia e0 ic,.slice va vn vc] else [.slice none 0 0,.slice none 0 0]))
     ·rfl
     ·exact λ wq hq=>⟨n0.trans hq,c5.trans (Carry.grow hq),p0.grow hq,u0.grow hq,t0.grow hq⟩
     ·repeat' (first|exact gH|refine fU ?_ ?_)
      ·refine aV rfl rfl rfl ?_;rintro b wq a0 ⟨i1,i2,i3,i4,i5⟩;repeat refine aF ?_
       refine aG rfl ?_;rw [show (b || Nat.beq 0 19)=b from Bool.or_false b];exact ⟨i1,i2,i3,i4,i5⟩
      ·refine aV rfl rfl rfl ?_;rintro b wq a0 ⟨i1,i2,i3,i4,i5⟩;repeat refine aF ?_
       refine aG rfl ?_;rw [show (b || Nat.beq 1 19)=b from Bool.or_false b];exact ⟨i1,i2,i3,i4,i5⟩
      ·refine aV rfl rfl rfl ?_;rintro b wq a0 ⟨i1,i2,i3,i4,i5⟩;repeat refine aF ?_
       refine aG rfl ?_;rw [show (b || Nat.beq 2 19)=b from Bool.or_false b];exact ⟨i1,i2,i3,i4,i5⟩
      ·refine aV rfl rfl rfl ?_;rintro b wq a0 ⟨i1,i2,i3,i4,i5⟩;repeat refine aF ?_
       refine aG rfl ?_;rw [show (b || Nat.beq 3 19)=b from Bool.or_false b];exact ⟨i1,i2,i3,i4,i5⟩
      ·refine aV rfl rfl rfl ?_;rintro b wq a0 ⟨i1,i2,i3,i4,i5⟩;repeat refine aF ?_
       refine aG rfl ?_;rw [show (b || Nat.beq 4 19)=b from Bool.or_false b];exact ⟨i1,i2,i3,i4,i5⟩
      ·refine aV rfl rfl rfl ?_;rintro b wq a0 ⟨i1,i2,i3,i4,i5⟩;repeat refine aF ?_
       refine aG rfl ?_;rw [show (b || Nat.beq 5 19)=b from Bool.or_false b];exact ⟨i1,i2,i3,i4,i5⟩
      ·refine aV rfl rfl rfl ?_;rintro b wq a0 ⟨i1,i2,i3,i4,i5⟩;repeat refine aF ?_
       refine aG rfl ?_;rw [show (b || Nat.beq 6 19)=b from Bool.or_false b];exact ⟨i1,i2,i3,i4,i5⟩
      ·refine aV rfl rfl rfl ?_;rintro b wq a0 ⟨i1,i2,i3,i4,i5⟩;repeat refine aF ?_
       refine aG rfl ?_;rw [show (b || Nat.beq 7 19)=b from Bool.or_false b];exact ⟨i1,i2,i3,i4,i5⟩
      ·refine aV rfl rfl rfl ?_;rintro b wq a0 ⟨i1,i2,i3,i4,i5⟩;repeat refine aF ?_
       refine aG rfl ?_;rw [show (b || Nat.beq 8 19)=b from Bool.or_false b];exact ⟨i1,i2,i3,i4,i5⟩
      ·refine bU rfl rfl rfl ?_;rintro b wq a0 ⟨i1,i2,i3,i4,i5⟩;repeat refine aF ?_
       refine aG rfl ?_;rw [show (b || Nat.beq 9 19)=b from Bool.or_false b];exact ⟨i1,i2,i3,i4,i5⟩
      ·refine bU rfl rfl rfl ?_;rintro b wq a0 ⟨i1,i2,i3,i4,i5⟩;repeat refine aF ?_
       refine aG rfl ?_;rw [show (b || Nat.beq 10 19)=b from Bool.or_false b];exact ⟨i1,i2,i3,i4,i5⟩
      ·refine bU rfl rfl rfl ?_;rintro b wq a0 ⟨i1,i2,i3,i4,i5⟩;repeat refine aF ?_
       refine aG rfl ?_;rw [show (b || Nat.beq 11 19)=b from Bool.or_false b];exact ⟨i1,i2,i3,i4,i5⟩
      ·refine bU rfl rfl rfl ?_;rintro b wq a0 ⟨i1,i2,i3,i4,i5⟩;repeat refine aF ?_
       refine aG rfl ?_;rw [show (b || Nat.beq 12 19)=b from Bool.or_false b];exact ⟨i1,i2,i3,i4,i5⟩
      ·refine bU rfl rfl rfl ?_;rintro b wq a0 ⟨i1,i2,i3,i4,i5⟩;repeat refine aF ?_
       refine aG rfl ?_;rw [show (b || Nat.beq 13 19)=b from Bool.or_false b];exact ⟨i1,i2,i3,i4,i5⟩
      ·refine bU rfl rfl rfl ?_;rintro b wq a0 ⟨i1,i2,i3,i4,i5⟩;repeat refine aF ?_
       refine aG rfl ?_;rw [show (b || Nat.beq 14 19)=b from Bool.or_false b];exact ⟨i1,i2,i3,i4,i5⟩
      ·refine bU rfl rfl rfl ?_;rintro b wq a0 ⟨i1,i2,i3,i4,i5⟩;repeat refine aF ?_
       refine aG rfl ?_;rw [show (b || Nat.beq 15 19)=b from Bool.or_false b];exact ⟨i1,i2,i3,i4,i5⟩
      ·refine bU rfl rfl rfl ?_;rintro b wq a0 ⟨i1,i2,i3,i4,i5⟩;repeat (first|(refine aB 139 ?_;refine aA rfl (eN _ _ _ _ _ _ _ _ it.1 E.to _ (q0.go i2) (o3.t.go i2)) rfl ?_;rintro _ _ ⟨rfl,g0⟩)|refine yC ?_)
       refine aG rfl ?_;rw [show (b || Nat.beq 16 19)=b from Bool.or_false b];exact ⟨i1.trans g0,i2.trans (Carry.grow g0),i3.grow g0,i4.grow g0,i5.grow g0⟩
      ·refine bU rfl rfl rfl ?_;rintro b wq a0 ⟨i1,i2,i3,i4,i5⟩;repeat refine aF ?_
       refine aG rfl ?_;rw [show (b || Nat.beq 17 19)=b from Bool.or_false b];exact ⟨i1,i2,i3,i4,i5⟩
      ·refine aV rfl rfl rfl ?_;rintro b wq a0 ⟨i1,i2,i3,i4,i5⟩;repeat refine aF ?_
       refine aG rfl ?_;rw [show (b || Nat.beq 18 19)=b from Bool.or_false b];exact ⟨i1,i2,i3,i4,i5⟩
      ·refine aV rfl rfl rfl ?_;rintro b wq a0 ⟨i1,i2,i3,i4,i5⟩;obtain rfl:=a0 rfl;repeat (first|refine aF ?_|refine yJ λ w' hu f0 l0=>?_)
       refine gS ?_;exact ⟨aH hu oM i1,i2.trans (Carry.upd hu (λ k hk _=>by omega)),i3.upd hu oM,i4.upd hu oM,f0⟩
     ·rintro w9 ⟨i1,i2,i3,i4,i5⟩;repeat refine aF ?_
      refine fL rfl (aW i5 rfl) rfl ⟨_,rfl,ia,e0,ic,va,vn,vc,decide (bY it.1 E.to<0),rfl,i1,?_⟩;have hr:hQ E false (some j)=if kT E.to it then it::kW E.al E.to (kD E.al.length (j+1)) else []:=lV y0
      have h1:kT E.to it=decide (bY it.1 E.to<0):=by
       have:E.to.isEmpty=false:=by
        cases hE:E.to with
        | nil=>rw [hE] at g1;exact absurd g1 h0
        | cons a b=>rfl
       simp [kT,this]
      rw [h1] at hr
      cases hgf:decide (bY it.1 E.to<0) with
      | true =>
       refine .inl ⟨rfl,m0,it,kW E.al E.to (kD E.al.length (j+1)),?_,q0.go i2,x0.go i2⟩;rw [hr,hgf];rfl
      | false =>
       refine .inr ⟨rfl,.inr ?_⟩;rw [hr,hgf];rfl
  ·have m0:¬ lim C d:=λ e=>q1 e.1;apply T.any 22 [is _,is _,is _,is _,is _,is _,is _,is _,is _,is _,is _,is _,is _,is _,is _,is _,is _,is _,is _,is _,is _,is _];(· kernel_rfl);(· ((repeat' (first|exact aN|refine aK ?_ ?_));(iterate 22 (· (refine yQ λ wq _ _ j1=>?_;(repeat refine aF ?_);exact aD rfl yG rfl)))));(rintro _ _ _ j0 _ _;(refine yT ?_))
   have p0:=z0.grow j0;have t0:=v0.grow j0;have u0:=f1.grow j0;have n0:=i0.trans j0;have c5:=c4.trans (Carry.grow j0);clear z0 v0 f1 i0 c4 j0
   cases hback:C.back with
   | true =>
    rw [hback] at p0;repeat refine aF ?_
    refine bD (e':=[(4,.pointer (some ⟨t4,0,none⟩)),(2,.pointer (some ⟨t2,0,none⟩)),(0,.pointer (some ⟨cb,0,none⟩))]) ?_ ⟨rfl,rfl,rfl,trivial⟩
    apply T.detA 11 10 [.agg #[.slice ia e0 ic,.slice va vn vc],.pointer (some ⟨t4,0+0,none⟩),.slice ia e0 ic,.pointer (some ⟨cb,0,none⟩),.pointer (some ⟨cb,0,none⟩),.pointer (some ⟨cb,0+3,none⟩),.pointer (some ⟨cb,0+3+0,none⟩),.slice C.fa C.fn C.fc,.int .i64 (bY it.1 E.fr),.bool (nM E.fr it),undef]
     (λ b wq=>Grow w wq∧Carry (λ k=>C.lo≤k∧k<cb) w3 (λ k=>C.lo≤k∧k<cb) wq∧Blk wq cb 206 [.pointer (some ⟨cb,0,none⟩),.pointer (some ⟨C.wb,0,none⟩),.int .i64 C.root,.slice C.fa C.fn C.fc,.slice C.ta C.tn C.tc,.bool true,.int .i64 C.most,.int .i64 d,pv]∧Blk wq t4 58 [.slice ia e0 ic,.slice va vn vc]∧Blk wq t2 58 (if b then [.slice ia e0 ic,.slice va vn vc] else [.slice none 0 0,.slice none 0 0]))
    ·rfl
    ·exact λ wq hq=>⟨n0.trans hq,c5.trans (Carry.grow hq),p0.grow hq,u0.grow hq,t0.grow hq⟩
    ·repeat' (first|exact gH|refine fU ?_ ?_)
     ·refine aV rfl rfl rfl ?_;rintro b wq a0 ⟨i1,i2,i3,i4,i5⟩;repeat refine aF ?_
      refine aG rfl ?_;rw [show (b || Nat.beq 0 10)=b from Bool.or_false b];exact ⟨i1,i2,i3,i4,i5⟩
     ·refine aV rfl rfl rfl ?_;rintro b wq a0 ⟨i1,i2,i3,i4,i5⟩;repeat refine aF ?_
      refine aG rfl ?_;rw [show (b || Nat.beq 1 10)=b from Bool.or_false b];exact ⟨i1,i2,i3,i4,i5⟩
     ·refine aV rfl rfl rfl ?_;rintro b wq a0 ⟨i1,i2,i3,i4,i5⟩;repeat refine aF ?_
      refine aG rfl ?_;rw [show (b || Nat.beq 2 10)=b from Bool.or_false b];exact ⟨i1,i2,i3,i4,i5⟩
     ·refine aV rfl rfl rfl ?_;rintro b wq a0 ⟨i1,i2,i3,i4,i5⟩;repeat refine aF ?_
      refine aG rfl ?_;rw [show (b || Nat.beq 3 10)=b from Bool.or_false b];exact ⟨i1,i2,i3,i4,i5⟩
     ·refine aV rfl rfl rfl ?_;rintro b wq a0 ⟨i1,i2,i3,i4,i5⟩;repeat refine aF ?_
      refine aG rfl ?_;rw [show (b || Nat.beq 4 10)=b from Bool.or_false b];exact ⟨i1,i2,i3,i4,i5⟩
     ·refine aV rfl rfl rfl ?_;rintro b wq a0 ⟨i1,i2,i3,i4,i5⟩;repeat refine aF ?_
      refine aG rfl ?_;rw [show (b || Nat.beq 5 10)=b from Bool.or_false b];exact ⟨i1,i2,i3,i4,i5⟩
     ·refine aV rfl rfl rfl ?_;rintro b wq a0 ⟨i1,i2,i3,i4,i5⟩;repeat refine aF ?_
      refine aG rfl ?_;rw [show (b || Nat.beq 6 10)=b from Bool.or_false b];exact ⟨i1,i2,i3,i4,i5⟩
     ·refine aV rfl rfl rfl ?_;rintro b wq a0 ⟨i1,i2,i3,i4,i5⟩;repeat refine aF ?_
      refine aG rfl ?_;rw [show (b || Nat.beq 7 10)=b from Bool.or_false b];exact ⟨i1,i2,i3,i4,i5⟩
     ·refine aV rfl rfl rfl ?_;rintro b wq a0 ⟨i1,i2,i3,i4,i5⟩;repeat (first|(refine aB 139 ?_;refine aA rfl (eN _ _ _ _ _ _ _ _ it.1 E.fr _ (q0.go i2) (o3.f.go i2)) rfl ?_;rintro _ _ ⟨rfl,g0⟩)|refine yC ?_)
      refine aG rfl ?_;rw [show (b || Nat.beq 8 10)=b from Bool.or_false b];exact ⟨i1.trans g0,i2.trans (Carry.grow g0),i3.grow g0,i4.grow g0,i5.grow g0⟩
     ·refine aV rfl rfl rfl ?_;rintro b wq a0 ⟨i1,i2,i3,i4,i5⟩;repeat refine aF ?_
      refine aG rfl ?_;rw [show (b || Nat.beq 9 10)=b from Bool.or_false b];exact ⟨i1,i2,i3,i4,i5⟩
     ·refine aV rfl rfl rfl ?_;rintro b wq a0 ⟨i1,i2,i3,i4,i5⟩;obtain rfl:=a0 rfl;repeat (first|refine aF ?_|refine yJ λ w' hu f0 l0=>?_)
      refine gS ?_;exact ⟨aH hu oM i1,i2.trans (Carry.upd hu (λ k hk _=>by omega)),i3.upd hu oM,i4.upd hu oM,f0⟩
    ·rintro w9 ⟨i1,i2,i3,i4,i5⟩;repeat refine aF ?_
     refine fL rfl (aW i5 rfl) rfl ⟨_,rfl,ia,e0,ic,va,vn,vc,nM E.fr it,rfl,i1,?_⟩;have hr:hQ E true (some j)=if nM E.fr it then it::restB E.al E.fr (ixB j) else []:=restB_head y0
     cases hgf:nM E.fr it with
     | true =>
      refine .inl ⟨rfl,m0,it,restB E.al E.fr (ixB j),?_,q0.go i2,x0.go i2⟩;rw [hr,hgf];rfl
     | false =>
      refine .inr ⟨rfl,.inr ?_⟩;rw [hr,hgf];rfl
   | false =>
    rw [hback] at p0;repeat refine aF ?_
    refine bD (e':=[(4,.pointer (some ⟨t4,0,none⟩)),(2,.pointer (some ⟨t2,0,none⟩)),(0,.pointer (some ⟨cb,0,none⟩))]) ?_ ⟨rfl,rfl,rfl,trivial⟩;by_cases h0:C.tn=0
    ·apply T.detA 20 19 [.agg #[.slice ia e0 ic,.slice va vn vc],.pointer (some ⟨cb,0,none⟩),.pointer (some ⟨cb,0,none⟩),.pointer (some ⟨cb,0+3,none⟩),.pointer (some ⟨cb,0+3+1,none⟩),.slice C.ta C.tn C.tc,.int .i64 (C.tn:Int),.bool true,.bool true,undef,undef,undef,undef,undef,undef,undef,undef,undef,.bool true,undef]
      (λ b wq=>Grow w wq∧Carry (λ k=>C.lo≤k∧k<cb) w3 (λ k=>C.lo≤k∧k<cb) wq∧Blk wq cb 206 [.pointer (some ⟨cb,0,none⟩),.pointer (some ⟨C.wb,0,none⟩),.int .i64 C.root,.slice C.fa C.fn C.fc,.slice C.ta C.tn C.tc,.bool false,.int .i64 C.most,.int .i64 d,pv]∧Blk wq t4 58 [.slice ia e0 ic,.slice va vn vc]∧Blk wq t2 58 (if b then [.slice ia e0 ic,.slice va vn vc] else [.slice none 0 0,.slice none 0 0]))
     ·rfl
     ·exact λ wq hq=>⟨n0.trans hq,c5.trans (Carry.grow hq),p0.grow hq,u0.grow hq,t0.grow hq⟩
     ·repeat' (first|exact gH|refine fU ?_ ?_)
      ·refine aV rfl rfl rfl ?_;rintro b wq a0 ⟨i1,i2,i3,i4,i5⟩;repeat refine aF ?_
       refine aG rfl ?_;rw [show (b || Nat.beq 0 19)=b from Bool.or_false b];exact ⟨i1,i2,i3,i4,i5⟩
      ·refine aV rfl rfl rfl ?_;rintro b wq a0 ⟨i1,i2,i3,i4,i5⟩;repeat refine aF ?_
       refine aG rfl ?_;rw [show (b || Nat.beq 1 19)=b from Bool.or_false b];exact ⟨i1,i2,i3,i4,i5⟩
      ·refine aV rfl rfl rfl ?_;rintro b wq a0 ⟨i1,i2,i3,i4,i5⟩;repeat refine aF ?_
       refine aG rfl ?_;rw [show (b || Nat.beq 2 19)=b from Bool.or_false b];exact ⟨i1,i2,i3,i4,i5⟩
      ·refine aV rfl rfl rfl ?_;rintro b wq a0 ⟨i1,i2,i3,i4,i5⟩;repeat refine aF ?_
       refine aG rfl ?_;rw [show (b || Nat.beq 3 19)=b from Bool.or_false b];exact ⟨i1,i2,i3,i4,i5⟩
      ·refine aV rfl rfl rfl ?_;rintro b wq a0 ⟨i1,i2,i3,i4,i5⟩;repeat refine aF ?_
       refine aG rfl ?_;rw [show (b || Nat.beq 4 19)=b from Bool.or_false b];exact ⟨i1,i2,i3,i4,i5⟩
      ·refine aV rfl rfl rfl ?_;rintro b wq a0 ⟨i1,i2,i3,i4,i5⟩;repeat refine aF ?_
       refine aG rfl ?_;rw [show (b || Nat.beq 5 19)=b from Bool.or_false b];exact ⟨i1,i2,i3,i4,i5⟩
      ·refine aV rfl rfl rfl ?_;rintro b wq a0 ⟨i1,i2,i3,i4,i5⟩;repeat refine aF ?_
       refine aG rfl ?_;rw [show (b || Nat.beq 6 19)=b from Bool.or_false b];exact ⟨i1,i2,i3,i4,i5⟩
      ·refine aV rfl rfl rfl ?_;rintro b wq a0 ⟨i1,i2,i3,i4,i5⟩;repeat refine aF ?_
       refine aG rfl ?_;rw [show (b || Nat.beq 7 19)=b from Bool.or_false b];exact ⟨i1,i2,i3,i4,i5⟩
      ·refine aV rfl rfl rfl ?_;rintro b wq a0 ⟨i1,i2,i3,i4,i5⟩;repeat refine aF ?_
       refine aG rfl ?_;rw [show (b || Nat.beq 8 19)=b from Bool.or_false b];exact ⟨i1,i2,i3,i4,i5⟩
      ·refine bU rfl rfl rfl ?_;rintro b wq a0 ⟨i1,i2,i3,i4,i5⟩;repeat refine aF ?_
       refine aG rfl ?_;rw [show (b || Nat.beq 9 19)=b from Bool.or_false b];exact ⟨i1,i2,i3,i4,i5⟩
      ·refine bU rfl rfl rfl ?_;rintro b wq a0 ⟨i1,i2,i3,i4,i5⟩;repeat refine aF ?_
       refine aG rfl ?_;rw [show (b || Nat.beq 10 19)=b from Bool.or_false b];exact ⟨i1,i2,i3,i4,i5⟩
      ·refine bU rfl rfl rfl ?_;rintro b wq a0 ⟨i1,i2,i3,i4,i5⟩;repeat refine aF ?_
       refine aG rfl ?_;rw [show (b || Nat.beq 11 19)=b from Bool.or_false b];exact ⟨i1,i2,i3,i4,i5⟩
      ·refine bU rfl rfl rfl ?_;rintro b wq a0 ⟨i1,i2,i3,i4,i5⟩;repeat refine aF ?_
       refine aG rfl ?_;rw [show (b || Nat.beq 12 19)=b from Bool.or_false b];exact ⟨i1,i2,i3,i4,i5⟩
      ·refine bU rfl rfl rfl ?_;rintro b wq a0 ⟨i1,i2,i3,i4,i5⟩;repeat refine aF ?_
       refine aG rfl ?_;rw [show (b || Nat.beq 13 19)=b from Bool.or_false b];exact ⟨i1,i2,i3,i4,i5⟩
      ·refine bU rfl rfl rfl ?_;rintro b wq a0 ⟨i1,i2,i3,i4,i5⟩;repeat refine aF ?_
       refine aG rfl ?_;rw [show (b || Nat.beq 14 19)=b from Bool.or_false b];exact ⟨i1,i2,i3,i4,i5⟩
      ·refine bU rfl rfl rfl ?_;rintro b wq a0 ⟨i1,i2,i3,i4,i5⟩;repeat refine aF ?_
       refine aG rfl ?_;rw [show (b || Nat.beq 15 19)=b from Bool.or_false b];exact ⟨i1,i2,i3,i4,i5⟩
      ·refine bU rfl rfl rfl ?_;rintro b wq a0 ⟨i1,i2,i3,i4,i5⟩;repeat refine aF ?_
       refine aG rfl ?_;rw [show (b || Nat.beq 16 19)=b from Bool.or_false b];exact ⟨i1,i2,i3,i4,i5⟩
      ·refine bU rfl rfl rfl ?_;rintro b wq a0 ⟨i1,i2,i3,i4,i5⟩;repeat refine aF ?_
       refine aG rfl ?_;rw [show (b || Nat.beq 17 19)=b from Bool.or_false b];exact ⟨i1,i2,i3,i4,i5⟩
      ·refine aV rfl rfl rfl ?_;rintro b wq a0 ⟨i1,i2,i3,i4,i5⟩;repeat refine aF ?_
       refine aG rfl ?_;rw [show (b || Nat.beq 18 19)=b from Bool.or_false b];exact ⟨i1,i2,i3,i4,i5⟩
      ·refine aV rfl rfl rfl ?_;rintro b wq a0 ⟨i1,i2,i3,i4,i5⟩;obtain rfl:=a0 rfl;repeat (first|refine aF ?_|refine yJ λ w' hu f0 l0=>?_)
       refine gS ?_;exact ⟨aH hu oM i1,i2.trans (Carry.upd hu (λ k hk _=>by omega)),i3.upd hu oM,i4.upd hu oM,f0⟩
     ·rintro w9 ⟨i1,i2,i3,i4,i5⟩;repeat refine aF ?_
      refine fL rfl (aW i5 rfl) rfl ⟨_,rfl,ia,e0,ic,va,vn,vc,true,rfl,i1,.inl ⟨rfl,m0,it,kW E.al E.to (kD E.al.length (j+1)),?_,q0.go i2,x0.go i2⟩⟩;have hr:hQ E false (some j)=if kT E.to it then it::kW E.al E.to (kD E.al.length (j+1)) else []:=lV y0;rw [hr,show kT E.to it=true by rw [List.eq_nil_of_length_eq_zero (show E.to.length=0 by omega)];rfl];rfl
    ·apply T.detA 20 19 [.agg #[.slice ia e0 ic,.slice va vn vc],.pointer (some ⟨cb,0,none⟩),.pointer (some ⟨cb,0,none⟩),.pointer (some ⟨cb,0+3,none⟩),.pointer (some ⟨cb,0+3+1,none⟩),.slice C.ta C.tn C.tc,.int .i64 (C.tn:Int),.bool false,.bool false,.pointer (some ⟨t4,0+0,none⟩),.slice ia e0 ic,.pointer (some ⟨cb,0,none⟩),.pointer (some ⟨cb,0,none⟩),.pointer (some ⟨cb,0+3,none⟩),.pointer (some ⟨cb,0+3+1,none⟩),.slice C.ta C.tn C.tc,.int .i64 (bY it.1 E.to),.bool (decide (bY it.1 E.to<0)),.bool (decide (bY it.1 E.to<0)),undef]
      (λ b wq=>Grow w wq∧Carry (λ k=>C.lo≤k∧k<cb) w3 (λ k=>C.lo≤k∧k<cb) wq∧Blk wq cb 206 [.pointer (some ⟨cb,0,none⟩),.pointer (some ⟨C.wb,0,none⟩),.int .i64 C.root,.slice C.fa C.fn C.fc,.slice C.ta C.tn C.tc,.bool false,.int .i64 C.most,.int .i64 d,pv]∧Blk wq t4 58 [.slice ia e0 ic,.slice va vn vc]∧Blk wq t2 58 (if b then [.slice ia e0 ic,.slice va vn vc] else [.slice none 0 0,.slice none 0 0]))
     ·rfl
     ·exact λ wq hq=>⟨n0.trans hq,c5.trans (Carry.grow hq),p0.grow hq,u0.grow hq,t0.grow hq⟩
     ·repeat' (first|exact gH|refine fU ?_ ?_)
      ·refine aV rfl rfl rfl ?_;rintro b wq a0 ⟨i1,i2,i3,i4,i5⟩;repeat refine aF ?_
       refine aG rfl ?_;rw [show (b || Nat.beq 0 19)=b from Bool.or_false b];exact ⟨i1,i2,i3,i4,i5⟩
      ·refine aV rfl rfl rfl ?_;rintro b wq a0 ⟨i1,i2,i3,i4,i5⟩;repeat refine aF ?_
       refine aG rfl ?_;rw [show (b || Nat.beq 1 19)=b from Bool.or_false b];exact ⟨i1,i2,i3,i4,i5⟩
      ·refine aV rfl rfl rfl ?_;rintro b wq a0 ⟨i1,i2,i3,i4,i5⟩;repeat refine aF ?_
       refine aG rfl ?_;rw [show (b || Nat.beq 2 19)=b from Bool.or_false b];exact ⟨i1,i2,i3,i4,i5⟩
      ·refine aV rfl rfl rfl ?_;rintro b wq a0 ⟨i1,i2,i3,i4,i5⟩;repeat refine aF ?_
       refine aG rfl ?_;rw [show (b || Nat.beq 3 19)=b from Bool.or_false b];exact ⟨i1,i2,i3,i4,i5⟩
      ·refine aV rfl rfl rfl ?_;rintro b wq a0 ⟨i1,i2,i3,i4,i5⟩;repeat refine aF ?_
       refine aG rfl ?_;rw [show (b || Nat.beq 4 19)=b from Bool.or_false b];exact ⟨i1,i2,i3,i4,i5⟩
      ·refine aV rfl rfl rfl ?_;rintro b wq a0 ⟨i1,i2,i3,i4,i5⟩;repeat refine aF ?_
       refine aG rfl ?_;rw [show (b || Nat.beq 5 19)=b from Bool.or_false b];exact ⟨i1,i2,i3,i4,i5⟩
      ·refine aV rfl rfl rfl ?_;rintro b wq a0 ⟨i1,i2,i3,i4,i5⟩;repeat refine aF ?_
       refine aG rfl ?_;rw [show (b || Nat.beq 6 19)=b from Bool.or_false b];exact ⟨i1,i2,i3,i4,i5⟩
      ·refine aV rfl rfl rfl ?_;rintro b wq a0 ⟨i1,i2,i3,i4,i5⟩;repeat refine aF ?_
       refine aG rfl ?_;rw [show (b || Nat.beq 7 19)=b from Bool.or_false b];exact ⟨i1,i2,i3,i4,i5⟩
      ·refine aV rfl rfl rfl ?_;rintro b wq a0 ⟨i1,i2,i3,i4,i5⟩;repeat refine aF ?_
       refine aG rfl ?_;rw [show (b || Nat.beq 8 19)=b from Bool.or_false b];exact ⟨i1,i2,i3,i4,i5⟩
      ·refine bU rfl rfl rfl ?_;rintro b wq a0 ⟨i1,i2,i3,i4,i5⟩;repeat refine aF ?_
       refine aG rfl ?_;rw [show (b || Nat.beq 9 19)=b from Bool.or_false b];exact ⟨i1,i2,i3,i4,i5⟩
      ·refine bU rfl rfl rfl ?_;rintro b wq a0 ⟨i1,i2,i3,i4,i5⟩;repeat refine aF ?_
       refine aG rfl ?_;rw [show (b || Nat.beq 10 19)=b from Bool.or_false b];exact ⟨i1,i2,i3,i4,i5⟩
      ·refine bU rfl rfl rfl ?_;rintro b wq a0 ⟨i1,i2,i3,i4,i5⟩;repeat refine aF ?_
       refine aG rfl ?_;rw [show (b || Nat.beq 11 19)=b from Bool.or_false b];exact ⟨i1,i2,i3,i4,i5⟩
      ·refine bU rfl rfl rfl ?_;rintro b wq a0 ⟨i1,i2,i3,i4,i5⟩;repeat refine aF ?_
       refine aG rfl ?_;rw [show (b || Nat.beq 12 19)=b from Bool.or_false b];exact ⟨i1,i2,i3,i4,i5⟩
      ·refine bU rfl rfl rfl ?_;rintro b wq a0 ⟨i1,i2,i3,i4,i5⟩;repeat refine aF ?_
       refine aG rfl ?_;rw [show (b || Nat.beq 13 19)=b from Bool.or_false b];exact ⟨i1,i2,i3,i4,i5⟩
      ·refine bU rfl rfl rfl ?_;rintro b wq a0 ⟨i1,i2,i3,i4,i5⟩;repeat refine aF ?_
       refine aG rfl ?_;rw [show (b || Nat.beq 14 19)=b from Bool.or_false b];exact ⟨i1,i2,i3,i4,i5⟩
      ·refine bU rfl rfl rfl ?_;rintro b wq a0 ⟨i1,i2,i3,i4,i5⟩;repeat refine aF ?_
       refine aG rfl ?_;rw [show (b || Nat.beq 15 19)=b from Bool.or_false b];exact ⟨i1,i2,i3,i4,i5⟩
      ·refine bU rfl rfl rfl ?_;rintro b wq a0 ⟨i1,i2,i3,i4,i5⟩;repeat (first|(refine aB 139 ?_;refine aA rfl (eN _ _ _ _ _ _ _ _ it.1 E.to _ (q0.go i2) (o3.t.go i2)) rfl ?_;rintro _ _ ⟨rfl,g0⟩)|refine yC ?_)
       refine aG rfl ?_;rw [show (b || Nat.beq 16 19)=b from Bool.or_false b];exact ⟨i1.trans g0,i2.trans (Carry.grow g0),i3.grow g0,i4.grow g0,i5.grow g0⟩
      ·refine bU rfl rfl rfl ?_;rintro b wq a0 ⟨i1,i2,i3,i4,i5⟩;repeat refine aF ?_
       refine aG rfl ?_;rw [show (b || Nat.beq 17 19)=b from Bool.or_false b];exact ⟨i1,i2,i3,i4,i5⟩
      ·refine aV rfl rfl rfl ?_;rintro b wq a0 ⟨i1,i2,i3,i4,i5⟩;repeat refine aF ?_
       refine aG rfl ?_;rw [show (b || Nat.beq 18 19)=b from Bool.or_false b];exact ⟨i1,i2,i3,i4,i5⟩
      ·refine aV rfl rfl rfl ?_;rintro b wq a0 ⟨i1,i2,i3,i4,i5⟩;obtain rfl:=a0 rfl;repeat (first|refine aF ?_|refine yJ λ w' hu f0 l0=>?_)
       refine gS ?_;exact ⟨aH hu oM i1,i2.trans (Carry.upd hu (λ k hk _=>by omega)),i3.upd hu oM,i4.upd hu oM,f0⟩
     ·rintro w9 ⟨i1,i2,i3,i4,i5⟩;repeat refine aF ?_
      refine fL rfl (aW i5 rfl) rfl ⟨_,rfl,ia,e0,ic,va,vn,vc,decide (bY it.1 E.to<0),rfl,i1,?_⟩;have hr:hQ E false (some j)=if kT E.to it then it::kW E.al E.to (kD E.al.length (j+1)) else []:=lV y0
      have h1:kT E.to it=decide (bY it.1 E.to<0):=by
       have:E.to.isEmpty=false:=by
        cases hE:E.to with
        | nil=>rw [hE] at g1;exact absurd g1 h0
        | cons a b=>rfl
       simp [kT,this]
      rw [h1] at hr
      cases hgf:decide (bY it.1 E.to<0) with
      | true =>
       refine .inl ⟨rfl,m0,it,kW E.al E.to (kD E.al.length (j+1)),?_,q0.go i2,x0.go i2⟩;rw [hr,hgf];rfl
      | false =>
       refine .inr ⟨rfl,.inr ?_⟩;rw [hr,hgf];rfl
end
end Go.Proofs.YtfpadnmdafiddaaGreatDoor
