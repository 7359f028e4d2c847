import Derived.Test.YtfpadnmdafiddaaGreatDoorJ0
import Derived.Test.YtfpadnmdafiddaaGreatDoorJp
set_option linter.all false
set_option maxHeartbeats 16000000
set_option maxRecDepth 100000
namespace Go.Proofs.YtfpadnmdafiddaaGreatDoor
open Go Go.RowKit Go.V
theorem iY {cs:List Value} {o:Nat} {a b c e:Value} (h:(cs.drop o).take 4=[a,b,c,e]):∀ j u,[a,b,c,e][j]? = some u→cs[o+j]? = some u:=by
 intro j u hj;rw [← h,List.getElem?_take,List.getElem?_drop] at hj;split at hj
 ·exact hj
 ·cases hj
theorem tri_at {cs:List Value} {o:Nat} {a b c:Value} (h:(cs.drop o).take 3=[a,b,c]):∀ j u,[a,b,c][j]? = some u→cs[o+j]? = some u:=by
 intro j u hj;rw [← h,List.getElem?_take,List.getElem?_drop] at hj;split at hj
 ·exact hj
 ·cases hj
theorem Cu.bump {w:World} {C:CC} {cb:Nat} {d:Int} {pv:Value} {l:List (Nd×Int)} {p:Nd} {z:Int} (h:Cu w C cb d pv (l++[(p,z)])):∃ g g0 a0,pv=.slice (some ⟨g,0,none⟩) (l++[(p,z)]).length g0∧cb<g∧Blk w g 254 a0∧l.length*4+4≤a0.length∧a0[0+l.length*4+3]? = some (.int .i64 z) ∧
  ∀ w' z',Upd g w w'→Blk w' g 254 (a0.set (0+l.length*4+3) (.int .i64 z'))→Cu w' C cb d pv (l++[(p,z')])∧CuTo cb pv pv w w':=by
 obtain ⟨cs,e0,m0⟩:=h.row;obtain ⟨g,g0,a0,rfl,hg,hb,hn,hm,hl,ht⟩:=own_blk e0 sM;obtain ⟨c0,x,rfl,h0,hx⟩:=m0.last;have i0:=h0.len;have k0:(l++[(p,z)]).length=l.length+1:=by simp
 have l0:l.length*4+4≤a0.length:=by rw [hl];rw [k0] at hn;omega
 have f0:a0[l.length*4+3]? = some (.int .i64 z):=by
  have:(a0.take ((l++[(p,z)]).length*4))[l.length*4+3]? = some (.int .i64 z):=by
   rw [ht,← i0,List.getElem?_append_right oM,show c0.length+3-c0.length=3 by omega];rfl
  rw [List.getElem?_take] at this;split at this
  ·exact this
  ·cases this
 refine ⟨g,g0,a0,rfl,oM,hb,l0,by rw [Nat.zero_add];exact f0,λ w' z' hu j0=>⟨⟨h.blk.upd hu oM,?_⟩,⟨⟨hu.os,hu.tape,hu.output,by rw [hu.size];exact Nat.le_refl _,λ k hk hn=>hu.block k (λ e=>hn (.inr (by subst e;rfl)))⟩,λ k hk=>.inl hk⟩⟩⟩;rw [Nat.zero_add] at j0;refine ⟨c0++[x.v1,x.v2,x.v3,.int .i64 z'],?_,KCells.snoc (f:=(p,z')) (hx.go (Carry.upd hu (λ k hk _=>by omega))) (h0.go (Carry.upd hu (λ k hk _=>by omega)))⟩;have e1:(l++[(p,z')]).length=(l++[(p,z)]).length:=by simp
 rw [e1];refine own_mk hg j0 hn hm (by rw [List.length_set];exact hl) ?_;rw [take_setAt ht,← i0];rw [List.set_append_right _ _ oM,show c0.length+3-c0.length=3 by omega];rfl
theorem jH {nd:Nd} (a0:bE nd=true):aR nd≤8:=by
 unfold bE at a0;split at a0
 ·rename_i hl;have:=(cO a0).2.1;have hk:=bL.1 hl;simp only [aR,hk,List.length_nil];omega
 ·obtain ⟨h1,_,h8,_⟩:=cC a0;simp only [aR,h1,List.length_nil];omega
theorem toIx_lt {n j:Nat} (h:j<n):kM n j=some j:=by unfold kM;rw [if_pos h]
theorem toIx_ge {n:Nat}:kM n n=none:=by unfold kM;rw [if_neg oM]
section
variable {w:World} {C:CC} {cb:Nat} {d:Int} {pv:Value} {s:Pg} {H:Nat} {top:Nd} {al:bQ} {ps0:List Nat} {n:Nat}
def stF:Option (List (Nd×Nat)×Nd×Nat)→List (Nd×Int)
 | none=>[]
 | some (fr,nd,c)=>kf fr++[(nd,(c:Int))]
def okF (s:Pg) (H:Nat) (top:Nd) (al pre post:bQ):Option (List (Nd×Nat)×Nd×Nat)→Prop
 | none=>pre=al∧post=[]
 | some (fr,nd,c)=>Pos s H top fr nd c pre post∧1≤aR nd
def msF:Option (List (Nd×Nat)×Nd×Nat)→Nat
 | none=>0
 | some (fr,_,_)=>fr.length+1
theorem At.lt (tr:Tr s H top al ps0 n) {fs:List (Nd×Int)} {j:Nat} (h:At s H top fs (some j)):j<al.length:=by
 obtain ⟨fr,nd,c,f0,e0,x,_,q,hl,hx,rfl⟩:=h;obtain ⟨a0,rfl,_⟩:=q.leaf tr.vt hl hx;have:=(q.all tr.vt).1;rw [← this,List.length_append,List.length_cons];omega
theorem csettF_c (tr:Tr s H top al ps0 n) {fr:List (Nd×Nat)} {nd:Nd} {c:Nat} (h:Cu w C cb d pv (kf fr++[(nd,(c:Int))])) (hw:Wlk w cb C s (n::ps0)) {s0 m0:bQ} (q:Pos s H top fr nd c s0 m0) (h1:1≤aR nd) :
  Calls Tryz.prog 178 #[.pointer (some ⟨cb,0,none⟩),.int .i64 1] w (Ret λ v w'=>∃ pv' fs',Cu w' C cb d pv' fs'∧CuTo cb pv pv' w w'∧At s H top fs' (kM al.length s0.length)):=by
 have p4:=tr.le;refine V.calls (args:=[_,_]) Tryz.func178 rfl Tryz.ntmps178 rfl rfl ?_;repeat refine aF ?_
 refine aX (S:=Option (List (Nd×Nat)×Nd×Nat)×Value) (λ q=>[(1,.int .i64 1),(0,.pointer (some ⟨cb,0,none⟩))])
  (λ q w1=>Cu w1 C cb d q.2 (stF q.1)∧CuTo cb pv q.2 w w1∧Wlk w1 cb C s (n::ps0)∧okF s H top al s0 m0 q.1) (λ q=>msF q.1) (some (fr,nd,c),pv) ⟨rfl,rfl,trivial⟩ ⟨h,CuTo.grow (Grow.refl _),hw,q,h1⟩ ?_
 clear h hw q h1;rintro ⟨st,k4⟩ w1 ⟨h,u1,hw,r2⟩;simp only at h u1 r2;obtain ⟨a,cp,rfl⟩:=h.slice;have hb:=h.blk;have s4:=h.lt
 cases st with
 | none =>
  obtain ⟨rfl,rfl⟩:=r2;have u4:Blk w1 cb 206 [.pointer (some ⟨cb,0,none⟩),.pointer (some ⟨C.wb,0,none⟩),.int .i64 C.root,.slice C.fa C.fn C.fc,.slice C.ta C.tn C.tc,.bool C.back,.int .i64 C.most,.int .i64 d,.slice a 0 cp]:=hb;repeat refine aF ?_
  exact dK (vs:=[]) rfl rfl ⟨_,rfl,_,[],h,u1,by rw [toIx_ge];rfl⟩
 | some st =>
  obtain ⟨fr,nd,c⟩:=st;obtain ⟨q,h1⟩:=r2;obtain ⟨c4,r4,z3,_⟩:=q.all tr.vt;obtain ⟨s2,o2,v0,u2⟩:=q.node tr.vt tr.ok tr.node;have h8:=jH s2;have x1:(stF (some (fr,nd,c))).length=fr.length+1:=by simp [stF,cE]
  have g0:=ctop_c h oM oM;rw [x1,Nat.add_sub_cancel] at g0;rw [x1] at hb;obtain ⟨cs,y0,o3⟩:=h.row;obtain ⟨a',y4,e1,q2⟩:=aN y0;cases e1;rw [x1] at q2;obtain ⟨c0,x,rfl,p3,i3⟩:=KCells.last (l:=kf fr) (f:=(nd,(c:Int))) o3;have hx:NdAt (λ k=>C.lo≤k∧k<cb) w1 x nd:=i3;have r3:c0.length=fr.length*4:=by have:=p3.len;rw [cE] at this;exact this
  have z0:((c0++[x.v1,x.v2,x.v3,Value.int .i64 (c:Int)]).drop (fr.length*4)).take 4=[x.v1,x.v2,x.v3,Value.int .i64 (c:Int)]:=by rw [← r3,List.drop_left];rfl
  have k3:((c0++[x.v1,x.v2,x.v3,Value.int .i64 (c:Int)]).drop (fr.length*4)).take 3=[x.v1,x.v2,x.v3]:=by rw [← r3,List.drop_left];rfl
  have q0:(c0++[x.v1,x.v2,x.v3,Value.int .i64 (c:Int)])[fr.length*4]? = some x.v1:=iY z0 0 _ rfl;have q1:(c0++[x.v1,x.v2,x.v3,Value.int .i64 (c:Int)])[fr.length*4+1]? = some x.v2:=iY z0 1 _ rfl;have q3:(c0++[x.v1,x.v2,x.v3,Value.int .i64 (c:Int)])[fr.length*4+3]? = some (.int .i64 (c:Int)):=iY z0 3 _ rfl;have m1:=hx.its.len;have m2:=bU hx.kids;have u3:x.n2+x.n1=aR nd:=by rw [m1,m2];unfold aR;omega
  have d2:x.n1≤1000∧x.n2≤1000:=by omega
  clear i3 p3;repeat refine aF ?_
  refine aB 180 ?_;refine aA rfl g0 rfl ?_;rintro _ w2 ⟨rfl,p0⟩;have h2:=h.grow p0;have s1:=hw.grow p0;have k0:=u1.trans (CuTo.grow p0);have z1:=hb.grow p0;have e0:=q2.grow p0;have f2:=hx.go (Carry.grow p0);clear h hw u1 hb q2 hx g0 y0 o3;repeat refine aF ?_
  refine bD (e':=[(4,.pointer (some (at' a (fr.length*4)))),(1,.int .i64 1),(0,.pointer (some ⟨cb,0,none⟩))]) ?_ ⟨rfl,rfl,rfl,trivial⟩;by_cases o4:c<aR nd
  ·apply T.any 16 [is _,is _,is _,is _,is _,is _,is _,is _,is _,is _,is _,is _,is _,is _,is _,is _];(· kernel_rfl);(· ((repeat' (first|exact aM|refine aK ?_ ?_));(iterate 16 (· (refine yQ λ wq _ _ f0=>?_;(repeat (first|refine aF ?_|(refine bN ?_;refine bJ (o:=fr.length*4) rfl (e0.grow f0) q0 rfl ?_)|(refine aO ?_;first|refine aQ rfl ((e0.grow f0).row.cell q3) rfl ?_|refine cB rfl (e0.grow f0) (iY z0) rfl rfl ?_)|(refine aB 227 ?_;refine aA rfl (csize_c x _ _ d2.1 d2.2) rfl ?_;rintro _ _ ⟨rfl,j0⟩)));exact aD rfl yG rfl)))));(rintro _ _ _ a0 _ _;(refine yT ?_))
   rename_i w3;have h3:=h2.grow a0;have t0:=s1.grow a0;have h0:=k0.trans (CuTo.grow a0);have y1:=z1.grow a0;have i0:=e0.grow a0;have r1:=f2.go (Carry.grow a0);clear h2 s1 k0 z1 e0 f2 a0
   cases hl:bM nd with
   | true =>
    obtain ⟨it,y3⟩:∃ it,nd.items[c]? = some it:=⟨_,List.getElem?_eq_getElem (by have:=o2 hl;omega)⟩
    repeat (first|(refine bN ?_;refine bJ (o:=fr.length*4) rfl i0 q0 rfl ?_)|(refine aO ?_;refine cB rfl i0 (tri_at k3) rfl rfl ?_)|(refine aB 80 ?_;refine aA rfl (fA r1 hl _) rfl ?_;rintro _ _ ⟨rfl,j0⟩)|refine yC ?_)
    exact eH (vs:=[]) rfl rfl ⟨_,rfl,_,_,h3.grow j0,h0.trans (CuTo.grow j0),by
     have o1:At s H top (kf fr++[(nd,(c:Int))]) (some s0.length):=⟨fr,nd,c,s0,m0,it,rfl,q,hl,y3,rfl⟩
     rw [toIx_lt (o1.lt tr)]
     exact o1⟩
   | false =>
    obtain ⟨k',y2⟩:∃ k,nd.kids[c]? = some k:=⟨_,List.getElem?_eq_getElem (by have:=v0 hl;omega)⟩
    obtain ⟨l4,m3,d4,x3,_⟩:=u2 c k' y2;repeat (first|(refine bN ?_;refine bJ (o:=fr.length*4) rfl i0 q0 rfl ?_)|(refine aO ?_;refine cB rfl i0 (tri_at k3) rfl rfl ?_)|(refine aB 80 ?_;refine aA rfl (fA r1 hl _) rfl ?_;rintro _ _ ⟨rfl,j0⟩)|refine yC ?_)
    rename_i w4;have h4:=h3.grow j0;have s3:=t0.grow j0;have j2:=h0.trans (CuTo.grow j0);have t4:=y1.grow j0;have o0:=i0.grow j0;have g3:=r1.go (Carry.grow j0);clear h3 t0 h0 y1 i0 r1 j0;have x2:(bC nd.kids)[c]? = some (.int .i64 (k':Int)):=by rw [show bC nd.kids=nd.kids.map λ (k:Nat)=>(.int .i64 (k:Int):Value) from rfl,List.getElem?_map,y2];rfl
    apply T.any 13 [is _,is _,is _,is _,is _,is _,is _,is _,is _,is _,is _,is _,is _];(· kernel_rfl);(· ((repeat' (first|exact aM|refine aK ?_ ?_));(iterate 13 (· (refine yQ λ wq _ _ f0=>?_;(repeat (first|refine aF ?_|(refine bN ?_;refine bJ (o:=fr.length*4) rfl (o0.grow f0) q0 rfl ?_)|(refine aO ?_;first|refine aQ rfl ((o0.grow f0).row.cell q3) rfl ?_|refine aQ rfl ((o0.grow f0).row.cell q1) rfl ?_|refine aQ rfl ((g3.kids.grow f0).row.cell x2) rfl ?_)|(refine aH ?_;refine aC (j:=c) rfl rfl rfl (by have:=v0 hl;omega) (Nat.mul_one _) ⟨_,_,g3.kids.grow f0⟩ rfl ?_)));exact aD rfl yG rfl)))));(rintro _ _ _ a0 _ _;(refine yT ?_))
    have h5:=(show ∀ {wz:World},Cu wz C cb d (.slice a (stF (some (fr,nd,c))).length cp) (stF (some (fr,nd,c)))→Cu wz C cb d (.slice a (stF (some (fr,nd,c))).length cp) (kf ((nd,c)::fr)) from λ hh=>by rw [kf_cons];exact hh) (h4.grow a0)
    refine aB 226 ?_;refine aA rfl (cdescF_c tr h5 (s3.grow a0) (q.downR tr.vt y2 m3) m3 (List.mem_cons_of_mem _ x3) (Nat.le_trans dM d4)) rfl ?_;rintro _ w5 ⟨i4,v4,h6,g2,o1⟩;repeat refine aF ?_
    exact eH (vs:=[]) rfl rfl ⟨_,rfl,_,_,h6,(j2.trans (CuTo.grow a0)).trans g2,by rw [toIx_lt (o1.lt tr)];exact o1⟩
  ·have a4:c=aR nd:=by omega
   subst a4;apply T.any 16 [is _,is _,is _,is _,is _,is _,is _,is _,is _,is _,is _,is _,is _,is _,is _,is _];(· kernel_rfl);(· ((repeat' (first|exact aM|refine aK ?_ ?_));(iterate 16 (· (refine yQ λ wq _ _ f0=>?_;(repeat (first|refine aF ?_|(refine bN ?_;refine bJ (o:=fr.length*4) rfl (e0.grow f0) q0 rfl ?_)|(refine aO ?_;first|refine aQ rfl ((e0.grow f0).row.cell q3) rfl ?_|refine cB rfl (e0.grow f0) (iY z0) rfl rfl ?_)|(refine aB 227 ?_;refine aA rfl (csize_c x _ _ d2.1 d2.2) rfl ?_;rintro _ _ ⟨rfl,j0⟩)));exact aD rfl yG rfl)))));(rintro _ _ _ a0 _ _;(refine yT ?_))
   have h3:=h2.grow a0;have t0:=s1.grow a0;have h0:=k0.trans (CuTo.grow a0);have y1:=z1.grow a0;clear h2 s1 k0 z1 e0 f2 a0;repeat refine aF ?_
   apply T.any 9 [is _,is _,is _,is _,is _,is _,is _,is _,is _];(· kernel_rfl);(· ((repeat' (first|exact aM|refine aK ?_ ?_));(iterate 9 (· (refine yQ λ wq _ _ f0=>?_;(repeat refine aF ?_);exact aD rfl yG rfl)))));(rintro _ _ _ a0 _ _;(refine yT ?_))
   refine aB 176 ?_;refine aA rfl (ccut_c (h3.grow a0) (fr.length+1-1) (by rw [x1];omega)) rfl ?_;rintro _ w5 ⟨j4,h5,n0⟩;have j3:=(t0.grow a0).go ((h3.grow a0).carry n0);have l0:=(h0.trans (CuTo.grow a0)).trans n0;rw [show (stF (some (fr,nd,aR nd))).take (fr.length+1-1)=kf fr by rw [Nat.add_sub_cancel];show (kf fr++_).take _=_;rw [← cE fr,List.take_left]] at h5;clear h3 t0 h0 y1 a0 n0
   cases fr with
   | nil =>
    obtain ⟨a5,g4,rfl⟩:=h5.slice;have f3:=h5.blk;rw [cE] at f3;obtain ⟨e1,e2⟩:=q.endR tr.vt;repeat refine aF ?_
    refine aE (none,_) ⟨rfl,rfl,trivial⟩ ⟨h5,l0,j3,e1,e2⟩ (by simp only [msF];omega)
   | cons pi fr' =>
    obtain ⟨p,i⟩:=pi;have q':=q.popR tr.vt
    have e4:1≤aR p:=by
     have:=(q'.all tr.vt).2.1;omega
    rw [kf_cons] at h5;obtain ⟨a5,g4,rfl⟩:=h5.slice;have f3:=h5.blk;have g0:=ctop_c h5 sM (by simp only [List.length_append,cE,List.length_cons,List.length_nil];simp only [List.length_cons] at z3;omega);have b1:(kf fr'++[(p,(i:Int))]).length=fr'.length+1:=by simp [cE]
    rw [b1,Nat.add_sub_cancel] at g0;rw [b1] at f3;repeat refine aF ?_
    refine aB 180 ?_;refine aA rfl g0 rfl ?_;rintro _ w6 ⟨rfl,z2⟩;have h6:=h5.grow z2;obtain ⟨g,z4,x4,f4,hg,j1,d3,g1,x0⟩:=h6.bump;cases f4;rw [cE] at d3 g1 x0;have f1:w6.cell? (at' (some ⟨g,0,none⟩) (fr'.length*4+3))=some (.int .i64 (i:Int)):=j1.cell g1;have q4:i+1≤aR p:=(q'.all tr.vt).2.1;have n4:=jH (q'.node tr.vt tr.ok tr.node).1;repeat (first|refine aQ rfl f1 rfl ?_|refine yC ?_)
    refine dR (o:=0+fr'.length*4+3) rfl rfl j1 rfl (Nat.ble_eq_true_of_le oM) rfl ?_;intro w7 t3 b4 m4;obtain ⟨h7,u0⟩:=x0 w7 _ t3 b4;repeat refine aF ?_
    refine aE (some (fr',p,i+1),_) ⟨rfl,rfl,trivial⟩ ⟨h7,(l0.trans (CuTo.grow z2)).trans u0,(j3.grow z2).go (h6.carry u0),q',e4⟩ (by simp only [msF,List.length_cons];omega)
def stB:Option (List (Nd×Nat)×Nd×Nat)→List (Nd×Int)
 | none=>[]
 | some (fr,nd,c)=>kf fr++[(nd,(c:Int)-1)]
def okB (s:Pg) (H:Nat) (top:Nd) (al pre post:bQ):Option (List (Nd×Nat)×Nd×Nat)→Prop
 | none=>pre=[]
 | some (fr,nd,c)=>Pos s H top fr nd c pre post∧1≤aR nd
theorem csettB_c (tr:Tr s H top al ps0 n) {fr:List (Nd×Nat)} {nd:Nd} {c:Nat} (h:Cu w C cb d pv (kf fr++[(nd,(c:Int)-1)])) (hw:Wlk w cb C s (n::ps0)) {u2 z0:bQ} (q:Pos s H top fr nd c u2 z0) (h1:1≤aR nd) :
  Calls Tryz.prog 178 #[.pointer (some ⟨cb,0,none⟩),.int .i64 (-1)] w (Ret λ v w'=>∃ pv' fs',Cu w' C cb d pv' fs'∧CuTo cb pv pv' w w'∧At s H top fs' (ixB u2.length)):=by
 have x4:=tr.le;refine V.calls (args:=[_,_]) Tryz.func178 rfl Tryz.ntmps178 rfl rfl ?_;repeat refine aF ?_
 refine aX (S:=Option (List (Nd×Nat)×Nd×Nat)×Value) (λ q=>[(1,.int .i64 (-1)),(0,.pointer (some ⟨cb,0,none⟩))])
  (λ q w1=>Cu w1 C cb d q.2 (stB q.1)∧CuTo cb pv q.2 w w1∧Wlk w1 cb C s (n::ps0)∧okB s H top al u2 z0 q.1) (λ q=>msF q.1) (some (fr,nd,c),pv) ⟨rfl,rfl,trivial⟩ ⟨h,CuTo.grow (Grow.refl _),hw,q,h1⟩ ?_
 clear h hw q h1;rintro ⟨st,p4⟩ w1 ⟨h,n0,hw,i3⟩;simp only at h n0 i3;obtain ⟨a,cp,rfl⟩:=h.slice;have hb:=h.blk;have z4:=h.lt
 cases st with
 | none =>
  obtain rfl:=i3;have f5:Blk w1 cb 206 [.pointer (some ⟨cb,0,none⟩),.pointer (some ⟨C.wb,0,none⟩),.int .i64 C.root,.slice C.fa C.fn C.fc,.slice C.ta C.tn C.tc,.bool C.back,.int .i64 C.most,.int .i64 d,.slice a 0 cp]:=hb;repeat refine aF ?_
  exact dK (vs:=[]) rfl rfl ⟨_,rfl,_,[],h,n0,rfl⟩
 | some st =>
  obtain ⟨fr,nd,c⟩:=st;obtain ⟨q,h1⟩:=i3
  cases c with
  | succ c =>
   have hz:((c+1:Nat):Int)-1=(c:Int):=by omega
   replace h:Cu w1 C cb d (.slice a (kf fr++[(nd,(c:Int))]).length cp) (kf fr++[(nd,(c:Int))]):=by rw [← hz];exact h
   replace n0:CuTo cb pv (.slice a (kf fr++[(nd,(c:Int))]).length cp) w w1:=by rw [← hz];exact n0
   replace hb:=h.blk;obtain ⟨r3,e4,z3,_⟩:=q.all tr.vt;obtain ⟨y0,o1,u0,u1⟩:=q.node tr.vt tr.ok tr.node;have h8:=jH y0;have s0:(kf fr++[(nd,(c:Int))]).length=fr.length+1:=by simp [cE]
   have e0:=ctop_c h oM oM;rw [s0,Nat.add_sub_cancel] at e0;rw [s0] at hb;obtain ⟨cs,l0,x1⟩:=h.row;obtain ⟨a',m4,e1,x0⟩:=aN l0;cases e1;rw [s0] at x0;obtain ⟨c0,x,rfl,y1,b1⟩:=KCells.last (l:=kf fr) (f:=(nd,(c:Int))) x1;have hx:NdAt (λ k=>C.lo≤k∧k<cb) w1 x nd:=b1;have f2:c0.length=fr.length*4:=by have:=y1.len;rw [cE] at this;exact this
   have p0:((c0++[x.v1,x.v2,x.v3,Value.int .i64 (c:Int)]).drop (fr.length*4)).take 4=[x.v1,x.v2,x.v3,Value.int .i64 (c:Int)]:=by rw [← f2,List.drop_left];rfl
   have g3:((c0++[x.v1,x.v2,x.v3,Value.int .i64 (c:Int)]).drop (fr.length*4)).take 3=[x.v1,x.v2,x.v3]:=by rw [← f2,List.drop_left];rfl
   have q0:(c0++[x.v1,x.v2,x.v3,Value.int .i64 (c:Int)])[fr.length*4]? = some x.v1:=iY p0 0 _ rfl;have q1:(c0++[x.v1,x.v2,x.v3,Value.int .i64 (c:Int)])[fr.length*4+1]? = some x.v2:=iY p0 1 _ rfl;have q3:(c0++[x.v1,x.v2,x.v3,Value.int .i64 (c:Int)])[fr.length*4+3]? = some (.int .i64 (c:Int)):=iY p0 3 _ rfl;have m1:=hx.its.len;have m2:=bU hx.kids;have f3:x.n2+x.n1=aR nd:=by rw [m1,m2];unfold aR;omega
   have s3:x.n1≤1000∧x.n2≤1000:=by omega
   clear b1 y1;repeat refine aF ?_
   refine aB 180 ?_;refine aA rfl e0 rfl ?_;rintro _ w2 ⟨rfl,j0⟩;have h2:=h.grow j0;have g1:=hw.grow j0;have k0:=n0.trans (CuTo.grow j0);have j2:=hb.grow j0;have f0:=x0.grow j0;have q2:=hx.go (Carry.grow j0);clear h hw n0 hb x0 hx e0 l0 x1;repeat refine aF ?_
   refine bD (e':=[(4,.pointer (some (at' a (fr.length*4)))),(1,.int .i64 (-1)),(0,.pointer (some ⟨cb,0,none⟩))]) ?_ ⟨rfl,rfl,rfl,trivial⟩;have v4:c<aR nd:=by omega
   apply T.any 16 [is _,is _,is _,is _,is _,is _,is _,is _,is _,is _,is _,is _,is _,is _,is _,is _];(· kernel_rfl);(· ((repeat' (first|exact aM|refine aK ?_ ?_));(iterate 16 (· (refine yQ λ wq _ _ i0=>?_;(repeat (first|refine aF ?_|(refine bN ?_;refine bJ (o:=fr.length*4) rfl (f0.grow i0) q0 rfl ?_)|(refine aO ?_;first|refine aQ rfl ((f0.grow i0).row.cell q3) rfl ?_|refine cB rfl (f0.grow i0) (iY p0) rfl rfl ?_)|(refine aB 227 ?_;refine aA rfl (csize_c x _ _ s3.1 s3.2) rfl ?_;rintro _ _ ⟨rfl,m0⟩)));exact aD rfl yG rfl)))));(rintro _ _ _ a0 _ _;(refine yT ?_))
   rename_i w3;have h3:=h2.grow a0;have f1:=g1.grow a0;have g0:=k0.trans (CuTo.grow a0);have r2:=j2.grow a0;have h0:=f0.grow a0;have o2:=q2.go (Carry.grow a0);clear h2 g1 k0 j2 f0 q2 a0
   cases hl:bM nd with
   | true =>
    obtain ⟨it,y3⟩:∃ it,nd.items[c]? = some it:=⟨_,List.getElem?_eq_getElem (by have:=o1 hl;omega)⟩
    repeat (first|(refine bN ?_;refine bJ (o:=fr.length*4) rfl h0 q0 rfl ?_)|(refine aO ?_;refine cB rfl h0 (tri_at g3) rfl rfl ?_)|(refine aB 80 ?_;refine aA rfl (fA o2 hl _) rfl ?_;rintro _ _ ⟨rfl,m0⟩)|refine yC ?_)
    exact eH (vs:=[]) rfl rfl ⟨_,rfl,_,_,h3.grow m0,g0.trans (CuTo.grow m0),by
     obtain ⟨s2,rfl,q'⟩:=q.back tr.vt hl y3;rw [List.length_append]
     exact ⟨fr,nd,c,s2,_,it,rfl,q',hl,y3,rfl⟩⟩
   | false =>
    obtain ⟨k',k3⟩:∃ k,nd.kids[c]? = some k:=⟨_,List.getElem?_eq_getElem (by have:=u0 hl;omega)⟩
    obtain ⟨r4,x3,i4,d4,_⟩:=u1 c k' k3;repeat (first|(refine bN ?_;refine bJ (o:=fr.length*4) rfl h0 q0 rfl ?_)|(refine aO ?_;refine cB rfl h0 (tri_at g3) rfl rfl ?_)|(refine aB 80 ?_;refine aA rfl (fA o2 hl _) rfl ?_;rintro _ _ ⟨rfl,m0⟩)|refine yC ?_)
    rename_i w4;have h4:=h3.grow m0;have b4:=f1.grow m0;have d3:=g0.trans (CuTo.grow m0);have d5:=r2.grow m0;have v0:=h0.grow m0;have t3:=o2.go (Carry.grow m0);clear h3 f1 g0 r2 h0 o2 m0;have j3:(bC nd.kids)[c]? = some (.int .i64 (k':Int)):=by rw [show bC nd.kids=nd.kids.map λ (k:Nat)=>(.int .i64 (k:Int):Value) from rfl,List.getElem?_map,k3];rfl
    apply T.any 13 [is _,is _,is _,is _,is _,is _,is _,is _,is _,is _,is _,is _,is _];(· kernel_rfl);(· ((repeat' (first|exact aM|refine aK ?_ ?_));(iterate 13 (· (refine yQ λ wq _ _ i0=>?_;(repeat (first|refine aF ?_|(refine bN ?_;refine bJ (o:=fr.length*4) rfl (v0.grow i0) q0 rfl ?_)|(refine aO ?_;first|refine aQ rfl ((v0.grow i0).row.cell q3) rfl ?_|refine aQ rfl ((v0.grow i0).row.cell q1) rfl ?_|refine aQ rfl ((t3.kids.grow i0).row.cell j3) rfl ?_)|(refine aH ?_;refine aC (j:=c) rfl rfl rfl (by have:=u0 hl;omega) (Nat.mul_one _) ⟨_,_,t3.kids.grow i0⟩ rfl ?_)));exact aD rfl yG rfl)))));(rintro _ _ _ a0 _ _;(refine yT ?_))
    have h5:=(show ∀ {wz:World},Cu wz C cb d (.slice a (kf fr++[(nd,(c:Int))]).length cp) (kf fr++[(nd,(c:Int))])→Cu wz C cb d (.slice a (kf fr++[(nd,(c:Int))]).length cp) (kf ((nd,c)::fr)) from λ hh=>by rw [kf_cons];exact hh) (h4.grow a0)
    refine aB 226 ?_;refine aA rfl (cdescB_c tr h5 (b4.grow a0) (q.downL tr.vt k3 x3) x3 (List.mem_cons_of_mem _ d4) (Nat.le_trans dM i4)) rfl ?_;rintro _ w5 ⟨n4,g5,h6,z2,g4⟩;repeat refine aF ?_
    exact eH (vs:=[]) rfl rfl ⟨_,rfl,_,_,h6,(d3.trans (CuTo.grow a0)).trans z2,g4⟩
  | zero =>
   replace h:Cu w1 C cb d (.slice a (kf fr++[(nd,(-1:Int))]).length cp) (kf fr++[(nd,(-1:Int))]):=h;replace n0:CuTo cb pv (.slice a (kf fr++[(nd,(-1:Int))]).length cp) w w1:=n0;replace hb:=h.blk;obtain ⟨r3,e4,z3,_⟩:=q.all tr.vt;obtain ⟨y0,o1,u0,u1⟩:=q.node tr.vt tr.ok tr.node;have h8:=jH y0;have s0:(kf fr++[(nd,(-1:Int))]).length=fr.length+1:=by simp [cE]
   have e0:=ctop_c h oM oM;rw [s0,Nat.add_sub_cancel] at e0;rw [s0] at hb;obtain ⟨cs,l0,x1⟩:=h.row;obtain ⟨a',m4,e1,x0⟩:=aN l0;cases e1;rw [s0] at x0;obtain ⟨c0,x,rfl,y1,b1⟩:=KCells.last (l:=kf fr) (f:=(nd,(-1))) x1;have hx:NdAt (λ k=>C.lo≤k∧k<cb) w1 x nd:=b1;have f2:c0.length=fr.length*4:=by have:=y1.len;rw [cE] at this;exact this
   have p0:((c0++[x.v1,x.v2,x.v3,Value.int .i64 (-1)]).drop (fr.length*4)).take 4=[x.v1,x.v2,x.v3,Value.int .i64 (-1)]:=by rw [← f2,List.drop_left];rfl
   have g3:((c0++[x.v1,x.v2,x.v3,Value.int .i64 (-1)]).drop (fr.length*4)).take 3=[x.v1,x.v2,x.v3]:=by rw [← f2,List.drop_left];rfl
   have q0:(c0++[x.v1,x.v2,x.v3,Value.int .i64 (-1)])[fr.length*4]? = some x.v1:=iY p0 0 _ rfl;have q1:(c0++[x.v1,x.v2,x.v3,Value.int .i64 (-1)])[fr.length*4+1]? = some x.v2:=iY p0 1 _ rfl;have q3:(c0++[x.v1,x.v2,x.v3,Value.int .i64 (-1)])[fr.length*4+3]? = some (.int .i64 (-1)):=iY p0 3 _ rfl;have m1:=hx.its.len;have m2:=bU hx.kids;have f3:x.n2+x.n1=aR nd:=by rw [m1,m2];unfold aR;omega
   have s3:x.n1≤1000∧x.n2≤1000:=by omega
   clear b1 y1;repeat refine aF ?_
   refine aB 180 ?_;refine aA rfl e0 rfl ?_;rintro _ w2 ⟨rfl,j0⟩;have h2:=h.grow j0;have g1:=hw.grow j0;have k0:=n0.trans (CuTo.grow j0);have j2:=hb.grow j0;have f0:=x0.grow j0;have q2:=hx.go (Carry.grow j0);clear h hw n0 hb x0 hx e0 l0 x1;repeat refine aF ?_
   refine bD (e':=[(4,.pointer (some (at' a (fr.length*4)))),(1,.int .i64 (-1)),(0,.pointer (some ⟨cb,0,none⟩))]) ?_ ⟨rfl,rfl,rfl,trivial⟩;apply T.any 16 [is _,is _,is _,is _,is _,is _,is _,is _,is _,is _,is _,is _,is _,is _,is _,is _];(· kernel_rfl);(· ((repeat' (first|exact aM|refine aK ?_ ?_));(iterate 16 (· (refine yQ λ wq _ _ i0=>?_;(repeat (first|refine aF ?_|(refine bN ?_;refine bJ (o:=fr.length*4) rfl (f0.grow i0) q0 rfl ?_)|(refine aO ?_;refine aQ rfl ((f0.grow i0).row.cell q3) rfl ?_)));exact aD rfl yG rfl)))));(rintro _ _ _ a0 _ _;(refine yT ?_))
   have h3:=h2.grow a0;have f1:=g1.grow a0;have g0:=k0.trans (CuTo.grow a0);have r2:=j2.grow a0;clear h2 g1 k0 j2 f0 q2 a0;repeat refine aF ?_
   apply T.any 9 [is _,is _,is _,is _,is _,is _,is _,is _,is _];(· kernel_rfl);(· ((repeat' (first|exact aM|refine aK ?_ ?_));(iterate 9 (· (refine yQ λ wq _ _ i0=>?_;(repeat refine aF ?_);exact aD rfl yG rfl)))));(rintro _ _ _ a0 _ _;(refine yT ?_))
   refine aB 176 ?_;refine aA rfl (ccut_c (h3.grow a0) (fr.length+1-1) (by rw [s0];omega)) rfl ?_;rintro _ w5 ⟨o4,h5,t0⟩;have u3:=(f1.grow a0).go ((h3.grow a0).carry t0);have o0:=(g0.trans (CuTo.grow a0)).trans t0;rw [show (kf fr++[(nd,(-1:Int))]).take (fr.length+1-1)=kf fr by rw [Nat.add_sub_cancel];rw [← cE fr,List.take_left]] at h5;clear h3 f1 g0 r2 a0 t0
   cases fr with
   | nil =>
    obtain ⟨a5,l4,rfl⟩:=h5.slice;have p3:=h5.blk;rw [cE] at p3;obtain ⟨e1,e2⟩:=q.endL tr.vt;repeat refine aF ?_
    refine aE (none,_) ⟨rfl,rfl,trivial⟩ ⟨h5,o0,u3,e1⟩ (by simp only [msF];omega)
   | cons pi fr' =>
    obtain ⟨p,i⟩:=pi;have q':=q.popL tr.vt
    have j4:1≤aR p:=by
     obtain ⟨_,_,_,_,c2,q4,c5,_⟩:=q;obtain ⟨_,_,s4,x2,_,a4,y2,_⟩:=c2;have:=(List.getElem?_eq_some_iff.1 y2).1;have:=a4.kids;simp only [aR,this,List.length_map];omega
    rw [kf_cons] at h5;obtain ⟨a5,l4,rfl⟩:=h5.slice;have p3:=h5.blk;have e0:=ctop_c h5 sM (by simp only [List.length_append,cE,List.length_cons,List.length_nil];simp only [List.length_cons] at z3;omega);have s1:(kf fr'++[(p,(i:Int))]).length=fr'.length+1:=by simp [cE]
    rw [s1,Nat.add_sub_cancel] at e0;rw [s1] at p3;repeat refine aF ?_
    refine aB 180 ?_;refine aA rfl e0 rfl ?_;rintro _ w6 ⟨rfl,m3⟩;have h6:=h5.grow m3;obtain ⟨g,k5,j5,k4,hg,g2,o3,d2,r1⟩:=h6.bump;cases k4;rw [cE] at o3 d2 r1;have z1:w6.cell? (at' (some ⟨g,0,none⟩) (fr'.length*4+3))=some (.int .i64 (i:Int)):=g2.cell d2;have y4:i≤aR p:=(q'.all tr.vt).2.1;have u4:=jH (q'.node tr.vt tr.ok tr.node).1;repeat (first|refine aQ rfl z1 rfl ?_|refine yC ?_)
    refine dR (o:=0+fr'.length*4+3) rfl rfl g2 rfl (Nat.ble_eq_true_of_le oM) rfl ?_;intro w7 c4 f4 t4;obtain ⟨h7,j1⟩:=r1 w7 _ c4 f4;repeat refine aF ?_
    refine aE (some (fr',p,i),_) ⟨rfl,rfl,trivial⟩ ⟨h7,(o0.trans (CuTo.grow m3)).trans j1,(u3.grow m3).go (h6.carry j1),q',j4⟩ (by simp only [msF,List.length_cons];omega)
end
end Go.Proofs.YtfpadnmdafiddaaGreatDoor
