import Derived.Test.YtfpadnmdafiddaaGreatDoorP0
import Derived.Test.YtfpadnmdafiddaaGreatDoorPp
set_option linter.all false
set_option maxHeartbeats 16000000
set_option maxRecDepth 100000
namespace Go.Proofs.YtfpadnmdafiddaaGreatDoor
open Go Go.RowKit Go.V
theorem iU {cs:List Value} {o:Nat} {a b c e:Value} (h:(cs.drop o).take 4=[a,b,c,e]):∀ j u,[a,b,c,e][j]? = some u→cs[o+j]? = some u:=by
 intro j u hj;rw [← h,List.getElem?_take,List.getElem?_drop] at hj;split at hj
 ·exact hj
 ·cases hj
theorem tri_at {cs:List Value} {o:Nat} {a b c:Value} (h:(cs.drop o).take 3=[a,b,c]):∀ j u,[a,b,c][j]? = some u→cs[o+j]? = some u:=by
 intro j u hj;rw [← h,List.getElem?_take,List.getElem?_drop] at hj;split at hj
 ·exact hj
 ·cases hj
theorem Cu.bump {w:World} {C:CC} {cb:Nat} {d:Int} {pv:Value} {l:List (Nd×Int)} {p:Nd} {z:Int} (h:Cu w C cb d pv (l++[(p,z)])):∃ g g0 a0,pv=.slice (some ⟨g,0,none⟩) (l++[(p,z)]).length g0∧cb<g∧Blk w g 254 a0∧l.length*4+4≤a0.length∧a0[0+l.length*4+3]? = some (.int .i64 z) ∧
  ∀ w' z',Upd g w w'→Blk w' g 254 (a0.set (0+l.length*4+3) (.int .i64 z'))→Cu w' C cb d pv (l++[(p,z')])∧CuTo cb pv pv w w':=by
 obtain ⟨cs,e0,m0⟩:=h.row;obtain ⟨g,g0,a0,rfl,hg,hb,hn,hm,hl,ht⟩:=own_blk e0 sM;obtain ⟨c0,x,rfl,h0,hx⟩:=m0.last;have i0:=h0.len;have k0:(l++[(p,z)]).length=l.length+1:=by simp
 have l0:l.length*4+4≤a0.length:=by rw [hl];rw [k0] at hn;omega
 have f0:a0[l.length*4+3]? = some (.int .i64 z):=by
  have:(a0.take ((l++[(p,z)]).length*4))[l.length*4+3]? = some (.int .i64 z):=by
   rw [ht,← i0,List.getElem?_append_right oM,show c0.length+3-c0.length=3 by omega];rfl
  rw [List.getElem?_take] at this;split at this
  ·exact this
  ·cases this
 refine ⟨g,g0,a0,rfl,oM,hb,l0,by rw [Nat.zero_add];exact f0,λ w' z' hu j0=>⟨⟨h.blk.upd hu oM,?_⟩,⟨⟨hu.os,hu.tape,hu.output,by rw [hu.size];exact Nat.le_refl _,λ k hk hn=>hu.block k (λ e=>hn (.inr (by subst e;rfl)))⟩,λ k hk=>.inl hk⟩⟩⟩;rw [Nat.zero_add] at j0;refine ⟨c0++[x.v1,x.v2,x.v3,.int .i64 z'],?_,KCells.snoc (f:=(p,z')) (hx.go (Carry.upd hu (λ k hk _=>by omega))) (h0.go (Carry.upd hu (λ k hk _=>by omega)))⟩;have e1:(l++[(p,z')]).length=(l++[(p,z)]).length:=by simp
 rw [e1];refine own_mk hg j0 hn hm (by rw [List.length_set];exact hl) ?_;rw [take_setAt ht,← i0];rw [List.set_append_right _ _ oM,show c0.length+3-c0.length=3 by omega];rfl
theorem jC {nd:Nd} (a0:bF nd=true):aT nd≤8:=by
 unfold bF at a0;split at a0
 ·rename_i hl;have:=(dG a0).2.1;have hk:=bL.1 hl;simp only [aT,hk,List.length_nil];omega
 ·obtain ⟨h1,_,h8,_⟩:=cO a0;simp only [aT,h1,List.length_nil];omega
theorem toIx_lt {n j:Nat} (h:j<n):kD n j=some j:=by unfold kD;rw [if_pos h]
theorem toIx_ge {n:Nat}:kD n n=none:=by unfold kD;rw [if_neg oM]
section
variable {w:World} {C:CC} {cb:Nat} {d:Int} {pv:Value} {s:Pg} {H:Nat} {top:Nd} {al:bT} {ps0:List Nat} {n:Nat}
def stF:Option (List (Nd×Nat)×Nd×Nat)→List (Nd×Int)
 | none=>[]
 | some (fr,nd,c)=>kf fr++[(nd,(c:Int))]
def okF (s:Pg) (H:Nat) (top:Nd) (al pre post:bT):Option (List (Nd×Nat)×Nd×Nat)→Prop
 | none=>pre=al∧post=[]
 | some (fr,nd,c)=>Pos s H top fr nd c pre post∧1≤aT nd
def msF:Option (List (Nd×Nat)×Nd×Nat)→Nat
 | none=>0
 | some (fr,_,_)=>fr.length+1
theorem At.lt (tr:Tr s H top al ps0 n) {fs:List (Nd×Int)} {j:Nat} (h:At s H top fs (some j)):j<al.length:=by
 obtain ⟨fr,nd,c,f0,e0,x,_,q,hl,hx,rfl⟩:=h;obtain ⟨a0,rfl,_⟩:=q.leaf tr.vt hl hx;have:=(q.all tr.vt).1;rw [← this,List.length_append,List.length_cons];omega
theorem csettF_c (tr:Tr s H top al ps0 n) {fr:List (Nd×Nat)} {nd:Nd} {c:Nat} (h:Cu w C cb d pv (kf fr++[(nd,(c:Int))])) (hw:Wlk w cb C s (n::ps0)) {s0 m0:bT} (q:Pos s H top fr nd c s0 m0) (h1:1≤aT nd) :
  Calls Tryz.prog 178 #[.pointer (some ⟨cb,0,none⟩),.int .i64 1] w (Ret λ v w'=>∃ pv' fs',Cu w' C cb d pv' fs'∧CuTo cb pv pv' w w'∧At s H top fs' (kD al.length s0.length)):=by
 have q4:=tr.le;refine V.calls (args:=[_,_]) Tryz.func178 rfl Tryz.ntmps178 rfl rfl ?_;repeat refine aF ?_
 refine aX (S:=Option (List (Nd×Nat)×Nd×Nat)×Value) (λ q=>[(1,.int .i64 1),(0,.pointer (some ⟨cb,0,none⟩))])
  (λ q w1=>Cu w1 C cb d q.2 (stF q.1)∧CuTo cb pv q.2 w w1∧Wlk w1 cb C s (n::ps0)∧okF s H top al s0 m0 q.1) (λ q=>msF q.1) (some (fr,nd,c),pv) ⟨rfl,rfl,trivial⟩ ⟨h,CuTo.grow (Grow.refl _),hw,q,h1⟩ ?_
 clear h hw q h1;rintro ⟨st,l4⟩ w1 ⟨h,x1,hw,s2⟩;simp only at h x1 s2;obtain ⟨a,cp,rfl⟩:=h.slice;have hb:=h.blk;have t4:=h.lt
 cases st with
 | none =>
  obtain ⟨rfl,rfl⟩:=s2;have v4:Blk w1 cb 206 [.pointer (some ⟨cb,0,none⟩),.pointer (some ⟨C.wb,0,none⟩),.int .i64 C.root,.slice C.fa C.fn C.fc,.slice C.ta C.tn C.tc,.bool C.back,.int .i64 C.most,.int .i64 d,.slice a 0 cp]:=hb;repeat refine aF ?_
  exact dK (vs:=[]) rfl rfl ⟨_,rfl,_,[],h,x1,by rw [toIx_ge];rfl⟩
 | some st =>
  obtain ⟨fr,nd,c⟩:=st;obtain ⟨q,h1⟩:=s2;obtain ⟨d4,s4,a4,_⟩:=q.all tr.vt;obtain ⟨u2,q2,v0,x2⟩:=q.node tr.vt tr.ok tr.node;have h8:=jC u2;have y1:(stF (some (fr,nd,c))).length=fr.length+1:=by simp [stF,cE]
  have g0:=ctop_c h oM oM;rw [y1,Nat.add_sub_cancel] at g0;rw [y1] at hb;obtain ⟨cs,y0,p3⟩:=h.row;obtain ⟨a',z4,e1,r2⟩:=aM y0;cases e1;rw [y1] at r2;obtain ⟨c0,x,rfl,r3,j3⟩:=KCells.last (l:=kf fr) (f:=(nd,(c:Int))) p3;have hx:NdAt (λ k=>C.lo≤k∧k<cb) w1 x nd:=j3;have s3:c0.length=fr.length*4:=by have:=r3.len;rw [cE] at this;exact this
  have z0:((c0++[x.v1,x.v2,x.v3,Value.int .i64 (c:Int)]).drop (fr.length*4)).take 4=[x.v1,x.v2,x.v3,Value.int .i64 (c:Int)]:=by rw [← s3,List.drop_left];rfl
  have m3:((c0++[x.v1,x.v2,x.v3,Value.int .i64 (c:Int)]).drop (fr.length*4)).take 3=[x.v1,x.v2,x.v3]:=by rw [← s3,List.drop_left];rfl
  have q0:(c0++[x.v1,x.v2,x.v3,Value.int .i64 (c:Int)])[fr.length*4]? = some x.v1:=iU z0 0 _ rfl;have q1:(c0++[x.v1,x.v2,x.v3,Value.int .i64 (c:Int)])[fr.length*4+1]? = some x.v2:=iU z0 1 _ rfl;have q3:(c0++[x.v1,x.v2,x.v3,Value.int .i64 (c:Int)])[fr.length*4+3]? = some (.int .i64 (c:Int)):=iU z0 3 _ rfl;have m1:=hx.its.len;have m2:=bR hx.kids;have x3:x.n2+x.n1=aT nd:=by rw [m1,m2];unfold aT;omega
  have f2:x.n1≤1000∧x.n2≤1000:=by omega
  clear j3 r3;repeat refine aF ?_
  refine aB 180 ?_;refine aA rfl g0 rfl ?_;rintro _ w2 ⟨rfl,p0⟩;have h2:=h.grow p0;have u1:=hw.grow p0;have k0:=x1.trans (CuTo.grow p0);have d2:=hb.grow p0;have e0:=r2.grow p0;have g2:=hx.go (Carry.grow p0);clear h hw x1 hb r2 hx g0 y0 p3;repeat refine aF ?_
  refine bD (e':=[(4,.pointer (some (at' a (fr.length*4)))),(1,.int .i64 1),(0,.pointer (some ⟨cb,0,none⟩))]) ?_ ⟨rfl,rfl,rfl,trivial⟩;by_cases p4:c<aT nd
  ·apply T.any 16 [is _,is _,is _,is _,is _,is _,is _,is _,is _,is _,is _,is _,is _,is _,is _,is _];(· kernel_rfl);(· ((repeat' (first|exact aN|refine aK ?_ ?_));(iterate 16 (· (refine yQ λ wq _ _ f0=>?_;(repeat (first|refine aF ?_|(refine bM ?_;refine bJ (o:=fr.length*4) rfl (e0.grow f0) q0 rfl ?_)|(refine aQ ?_;first|refine aS rfl ((e0.grow f0).row.cell q3) rfl ?_|refine dJ rfl (e0.grow f0) (iU z0) rfl rfl ?_)|(refine aB 227 ?_;refine aA rfl (csize_c x _ _ f2.1 f2.2) rfl ?_;rintro _ _ ⟨rfl,j0⟩)));exact aD rfl yG rfl)))));(rintro _ _ _ a0 _ _;(refine yT ?_))
   rename_i w3;have h3:=h2.grow a0;have t0:=u1.grow a0;have h0:=k0.trans (CuTo.grow a0);have z1:=d2.grow a0;have i0:=e0.grow a0;have s1:=g2.go (Carry.grow a0);clear h2 u1 k0 d2 e0 g2 a0
   cases hl:bN nd with
   | true =>
    obtain ⟨it,z3⟩:∃ it,nd.items[c]? = some it:=⟨_,List.getElem?_eq_getElem (by have:=q2 hl;omega)⟩
    repeat (first|(refine bM ?_;refine bJ (o:=fr.length*4) rfl i0 q0 rfl ?_)|(refine aQ ?_;refine dJ rfl i0 (tri_at m3) rfl rfl ?_)|(refine aB 80 ?_;refine aA rfl (eX s1 hl _) rfl ?_;rintro _ _ ⟨rfl,j0⟩)|refine yC ?_)
    exact eF (vs:=[]) rfl rfl ⟨_,rfl,_,_,h3.grow j0,h0.trans (CuTo.grow j0),by
     have r1:At s H top (kf fr++[(nd,(c:Int))]) (some s0.length):=⟨fr,nd,c,s0,m0,it,rfl,q,hl,z3,rfl⟩
     rw [toIx_lt (r1.lt tr)]
     exact r1⟩
   | false =>
    obtain ⟨k',z2⟩:∃ k,nd.kids[c]? = some k:=⟨_,List.getElem?_eq_getElem (by have:=v0 hl;omega)⟩
    obtain ⟨m4,o3,e4,y3,_⟩:=x2 c k' z2;repeat (first|(refine bM ?_;refine bJ (o:=fr.length*4) rfl i0 q0 rfl ?_)|(refine aQ ?_;refine dJ rfl i0 (tri_at m3) rfl rfl ?_)|(refine aB 80 ?_;refine aA rfl (eX s1 hl _) rfl ?_;rintro _ _ ⟨rfl,j0⟩)|refine yC ?_)
    rename_i w4;have h4:=h3.grow j0;have t3:=t0.grow j0;have o2:=h0.trans (CuTo.grow j0);have u4:=z1.grow j0;have o0:=i0.grow j0;have i3:=s1.go (Carry.grow j0);clear h3 t0 h0 z1 i0 s1 j0;have y2:(bC nd.kids)[c]? = some (.int .i64 (k':Int)):=by rw [show bC nd.kids=nd.kids.map λ (k:Nat)=>(.int .i64 (k:Int):Value) from rfl,List.getElem?_map,z2];rfl
    apply T.any 13 [is _,is _,is _,is _,is _,is _,is _,is _,is _,is _,is _,is _,is _];(· kernel_rfl);(· ((repeat' (first|exact aN|refine aK ?_ ?_));(iterate 13 (· (refine yQ λ wq _ _ f0=>?_;(repeat (first|refine aF ?_|(refine bM ?_;refine bJ (o:=fr.length*4) rfl (o0.grow f0) q0 rfl ?_)|(refine aQ ?_;first|refine aS rfl ((o0.grow f0).row.cell q3) rfl ?_|refine aS rfl ((o0.grow f0).row.cell q1) rfl ?_|refine aS rfl ((i3.kids.grow f0).row.cell y2) rfl ?_)|(refine aI ?_;refine aC (j:=c) rfl rfl rfl (by have:=v0 hl;omega) (Nat.mul_one _) ⟨_,_,i3.kids.grow f0⟩ rfl ?_)));exact aD rfl yG rfl)))));(rintro _ _ _ a0 _ _;(refine yT ?_))
    have h5:=(show ∀ {wz:World},Cu wz C cb d (.slice a (stF (some (fr,nd,c))).length cp) (stF (some (fr,nd,c)))→Cu wz C cb d (.slice a (stF (some (fr,nd,c))).length cp) (kf ((nd,c)::fr)) from λ hh=>by rw [kf_cons];exact hh) (h4.grow a0)
    refine aB 226 ?_;refine aA rfl (cdescF_c tr h5 (t3.grow a0) (q.downR tr.vt z2 o3) o3 (List.mem_cons_of_mem _ y3) (Nat.le_trans dM e4)) rfl ?_;rintro _ w5 ⟨j4,x4,h6,j2,r1⟩;repeat refine aF ?_
    exact eF (vs:=[]) rfl rfl ⟨_,rfl,_,_,h6,(o2.trans (CuTo.grow a0)).trans j2,by rw [toIx_lt (r1.lt tr)];exact r1⟩
  ·have b4:c=aT nd:=by omega
   subst b4;apply T.any 16 [is _,is _,is _,is _,is _,is _,is _,is _,is _,is _,is _,is _,is _,is _,is _,is _];(· kernel_rfl);(· ((repeat' (first|exact aN|refine aK ?_ ?_));(iterate 16 (· (refine yQ λ wq _ _ f0=>?_;(repeat (first|refine aF ?_|(refine bM ?_;refine bJ (o:=fr.length*4) rfl (e0.grow f0) q0 rfl ?_)|(refine aQ ?_;first|refine aS rfl ((e0.grow f0).row.cell q3) rfl ?_|refine dJ rfl (e0.grow f0) (iU z0) rfl rfl ?_)|(refine aB 227 ?_;refine aA rfl (csize_c x _ _ f2.1 f2.2) rfl ?_;rintro _ _ ⟨rfl,j0⟩)));exact aD rfl yG rfl)))));(rintro _ _ _ a0 _ _;(refine yT ?_))
   have h3:=h2.grow a0;have t0:=u1.grow a0;have h0:=k0.trans (CuTo.grow a0);have z1:=d2.grow a0;clear h2 u1 k0 d2 e0 g2 a0;repeat refine aF ?_
   apply T.any 9 [is _,is _,is _,is _,is _,is _,is _,is _,is _];(· kernel_rfl);(· ((repeat' (first|exact aN|refine aK ?_ ?_));(iterate 9 (· (refine yQ λ wq _ _ f0=>?_;(repeat refine aF ?_);exact aD rfl yG rfl)))));(rintro _ _ _ a0 _ _;(refine yT ?_))
   refine aB 176 ?_;refine aA rfl (ccut_c (h3.grow a0) (fr.length+1-1) (by rw [y1];omega)) rfl ?_;rintro _ w5 ⟨k4,h5,n0⟩;have k3:=(t0.grow a0).go ((h3.grow a0).carry n0);have l0:=(h0.trans (CuTo.grow a0)).trans n0;rw [show (stF (some (fr,nd,aT nd))).take (fr.length+1-1)=kf fr by rw [Nat.add_sub_cancel];show (kf fr++_).take _=_;rw [← cE fr,List.take_left]] at h5;clear h3 t0 h0 z1 a0 n0
   cases fr with
   | nil =>
    obtain ⟨a5,i4,rfl⟩:=h5.slice;have g3:=h5.blk;rw [cE] at g3;obtain ⟨e1,e2⟩:=q.endR tr.vt;repeat refine aF ?_
    refine aE (none,_) ⟨rfl,rfl,trivial⟩ ⟨h5,l0,k3,e1,e2⟩ (by simp only [msF];omega)
   | cons pi fr' =>
    obtain ⟨p,i⟩:=pi;have q':=q.popR tr.vt
    have f4:1≤aT p:=by
     have:=(q'.all tr.vt).2.1;omega
    rw [kf_cons] at h5;obtain ⟨a5,i4,rfl⟩:=h5.slice;have g3:=h5.blk;have g0:=ctop_c h5 sM (by simp only [List.length_append,cE,List.length_cons,List.length_nil];simp only [List.length_cons] at a4;omega);have f1:(kf fr'++[(p,(i:Int))]).length=fr'.length+1:=by simp [cE]
    rw [f1,Nat.add_sub_cancel] at g0;rw [f1] at g3;repeat refine aF ?_
    refine aB 180 ?_;refine aA rfl g0 rfl ?_;rintro _ w6 ⟨rfl,d3⟩;have h6:=h5.grow d3;obtain ⟨g,c5,y4,g4,hg,o1,f3,j1,x0⟩:=h6.bump;cases g4;rw [cE] at f3 j1 x0;have g1:w6.cell? (at' (some ⟨g,0,none⟩) (fr'.length*4+3))=some (.int .i64 (i:Int)):=o1.cell j1;have r4:i+1≤aT p:=(q'.all tr.vt).2.1;have o4:=jC (q'.node tr.vt tr.ok tr.node).1;repeat (first|refine aS rfl g1 rfl ?_|refine yC ?_)
    refine dR (o:=0+fr'.length*4+3) rfl rfl o1 rfl (Nat.ble_eq_true_of_le oM) rfl ?_;intro w7 u3 c4 n4;obtain ⟨h7,u0⟩:=x0 w7 _ u3 c4;repeat refine aF ?_
    refine aE (some (fr',p,i+1),_) ⟨rfl,rfl,trivial⟩ ⟨h7,(l0.trans (CuTo.grow d3)).trans u0,(k3.grow d3).go (h6.carry u0),q',f4⟩ (by simp only [msF,List.length_cons];omega)
def stB:Option (List (Nd×Nat)×Nd×Nat)→List (Nd×Int)
 | none=>[]
 | some (fr,nd,c)=>kf fr++[(nd,(c:Int)-1)]
def okB (s:Pg) (H:Nat) (top:Nd) (al pre post:bT):Option (List (Nd×Nat)×Nd×Nat)→Prop
 | none=>pre=[]
 | some (fr,nd,c)=>Pos s H top fr nd c pre post∧1≤aT nd
theorem csettB_c (tr:Tr s H top al ps0 n) {fr:List (Nd×Nat)} {nd:Nd} {c:Nat} (h:Cu w C cb d pv (kf fr++[(nd,(c:Int)-1)])) (hw:Wlk w cb C s (n::ps0)) {y2 z0:bT} (q:Pos s H top fr nd c y2 z0) (h1:1≤aT nd) :
  Calls Tryz.prog 178 #[.pointer (some ⟨cb,0,none⟩),.int .i64 (-1)] w (Ret λ v w'=>∃ pv' fs',Cu w' C cb d pv' fs'∧CuTo cb pv pv' w w'∧At s H top fs' (ixB y2.length)):=by
 have y4:=tr.le;refine V.calls (args:=[_,_]) Tryz.func178 rfl Tryz.ntmps178 rfl rfl ?_;repeat refine aF ?_
 refine aX (S:=Option (List (Nd×Nat)×Nd×Nat)×Value) (λ q=>[(1,.int .i64 (-1)),(0,.pointer (some ⟨cb,0,none⟩))])
  (λ q w1=>Cu w1 C cb d q.2 (stB q.1)∧CuTo cb pv q.2 w w1∧Wlk w1 cb C s (n::ps0)∧okB s H top al y2 z0 q.1) (λ q=>msF q.1) (some (fr,nd,c),pv) ⟨rfl,rfl,trivial⟩ ⟨h,CuTo.grow (Grow.refl _),hw,q,h1⟩ ?_
 clear h hw q h1;rintro ⟨st,q4⟩ w1 ⟨h,n0,hw,j3⟩;simp only at h n0 j3;obtain ⟨a,cp,rfl⟩:=h.slice;have hb:=h.blk;have c5:=h.lt
 cases st with
 | none =>
  obtain rfl:=j3;have g5:Blk w1 cb 206 [.pointer (some ⟨cb,0,none⟩),.pointer (some ⟨C.wb,0,none⟩),.int .i64 C.root,.slice C.fa C.fn C.fc,.slice C.ta C.tn C.tc,.bool C.back,.int .i64 C.most,.int .i64 d,.slice a 0 cp]:=hb;repeat refine aF ?_
  exact dK (vs:=[]) rfl rfl ⟨_,rfl,_,[],h,n0,rfl⟩
 | some st =>
  obtain ⟨fr,nd,c⟩:=st;obtain ⟨q,h1⟩:=j3
  cases c with
  | succ c =>
   have hz:((c+1:Nat):Int)-1=(c:Int):=by omega
   replace h:Cu w1 C cb d (.slice a (kf fr++[(nd,(c:Int))]).length cp) (kf fr++[(nd,(c:Int))]):=by rw [← hz];exact h
   replace n0:CuTo cb pv (.slice a (kf fr++[(nd,(c:Int))]).length cp) w w1:=by rw [← hz];exact n0
   replace hb:=h.blk;obtain ⟨s3,f4,a4,_⟩:=q.all tr.vt;obtain ⟨y0,r1,u0,x1⟩:=q.node tr.vt tr.ok tr.node;have h8:=jC y0;have s0:(kf fr++[(nd,(c:Int))]).length=fr.length+1:=by simp [cE]
   have e0:=ctop_c h oM oM;rw [s0,Nat.add_sub_cancel] at e0;rw [s0] at hb;obtain ⟨cs,l0,y1⟩:=h.row;obtain ⟨a',n4,e1,x0⟩:=aM l0;cases e1;rw [s0] at x0;obtain ⟨c0,x,rfl,z1,f1⟩:=KCells.last (l:=kf fr) (f:=(nd,(c:Int))) y1;have hx:NdAt (λ k=>C.lo≤k∧k<cb) w1 x nd:=f1;have g2:c0.length=fr.length*4:=by have:=z1.len;rw [cE] at this;exact this
   have p0:((c0++[x.v1,x.v2,x.v3,Value.int .i64 (c:Int)]).drop (fr.length*4)).take 4=[x.v1,x.v2,x.v3,Value.int .i64 (c:Int)]:=by rw [← g2,List.drop_left];rfl
   have i3:((c0++[x.v1,x.v2,x.v3,Value.int .i64 (c:Int)]).drop (fr.length*4)).take 3=[x.v1,x.v2,x.v3]:=by rw [← g2,List.drop_left];rfl
   have q0:(c0++[x.v1,x.v2,x.v3,Value.int .i64 (c:Int)])[fr.length*4]? = some x.v1:=iU p0 0 _ rfl;have q1:(c0++[x.v1,x.v2,x.v3,Value.int .i64 (c:Int)])[fr.length*4+1]? = some x.v2:=iU p0 1 _ rfl;have q3:(c0++[x.v1,x.v2,x.v3,Value.int .i64 (c:Int)])[fr.length*4+3]? = some (.int .i64 (c:Int)):=iU p0 3 _ rfl;have m1:=hx.its.len;have m2:=bR hx.kids;have g3:x.n2+x.n1=aT nd:=by rw [m1,m2];unfold aT;omega
   have t3:x.n1≤1000∧x.n2≤1000:=by omega
   clear f1 z1;repeat refine aF ?_
   refine aB 180 ?_;refine aA rfl e0 rfl ?_;rintro _ w2 ⟨rfl,j0⟩;have h2:=h.grow j0;have j1:=hw.grow j0;have k0:=n0.trans (CuTo.grow j0);have o2:=hb.grow j0;have f0:=x0.grow j0;have r2:=hx.go (Carry.grow j0);clear h hw n0 hb x0 hx e0 l0 y1;repeat refine aF ?_
   refine bD (e':=[(4,.pointer (some (at' a (fr.length*4)))),(1,.int .i64 (-1)),(0,.pointer (some ⟨cb,0,none⟩))]) ?_ ⟨rfl,rfl,rfl,trivial⟩;have x4:c<aT nd:=by omega
   apply T.any 16 [is _,is _,is _,is _,is _,is _,is _,is _,is _,is _,is _,is _,is _,is _,is _,is _];(· kernel_rfl);(· ((repeat' (first|exact aN|refine aK ?_ ?_));(iterate 16 (· (refine yQ λ wq _ _ i0=>?_;(repeat (first|refine aF ?_|(refine bM ?_;refine bJ (o:=fr.length*4) rfl (f0.grow i0) q0 rfl ?_)|(refine aQ ?_;first|refine aS rfl ((f0.grow i0).row.cell q3) rfl ?_|refine dJ rfl (f0.grow i0) (iU p0) rfl rfl ?_)|(refine aB 227 ?_;refine aA rfl (csize_c x _ _ t3.1 t3.2) rfl ?_;rintro _ _ ⟨rfl,m0⟩)));exact aD rfl yG rfl)))));(rintro _ _ _ a0 _ _;(refine yT ?_))
   rename_i w3;have h3:=h2.grow a0;have g1:=j1.grow a0;have g0:=k0.trans (CuTo.grow a0);have s2:=o2.grow a0;have h0:=f0.grow a0;have q2:=r2.go (Carry.grow a0);clear h2 j1 k0 o2 f0 r2 a0
   cases hl:bN nd with
   | true =>
    obtain ⟨it,z3⟩:∃ it,nd.items[c]? = some it:=⟨_,List.getElem?_eq_getElem (by have:=r1 hl;omega)⟩
    repeat (first|(refine bM ?_;refine bJ (o:=fr.length*4) rfl h0 q0 rfl ?_)|(refine aQ ?_;refine dJ rfl h0 (tri_at i3) rfl rfl ?_)|(refine aB 80 ?_;refine aA rfl (eX q2 hl _) rfl ?_;rintro _ _ ⟨rfl,m0⟩)|refine yC ?_)
    exact eF (vs:=[]) rfl rfl ⟨_,rfl,_,_,h3.grow m0,g0.trans (CuTo.grow m0),by
     obtain ⟨u2,rfl,q'⟩:=q.back tr.vt hl z3;rw [List.length_append]
     exact ⟨fr,nd,c,u2,_,it,rfl,q',hl,z3,rfl⟩⟩
   | false =>
    obtain ⟨k',m3⟩:∃ k,nd.kids[c]? = some k:=⟨_,List.getElem?_eq_getElem (by have:=u0 hl;omega)⟩
    obtain ⟨s4,y3,j4,e4,_⟩:=x1 c k' m3;repeat (first|(refine bM ?_;refine bJ (o:=fr.length*4) rfl h0 q0 rfl ?_)|(refine aQ ?_;refine dJ rfl h0 (tri_at i3) rfl rfl ?_)|(refine aB 80 ?_;refine aA rfl (eX q2 hl _) rfl ?_;rintro _ _ ⟨rfl,m0⟩)|refine yC ?_)
    rename_i w4;have h4:=h3.grow m0;have c4:=g1.grow m0;have f3:=g0.trans (CuTo.grow m0);have f5:=s2.grow m0;have v0:=h0.grow m0;have u3:=q2.go (Carry.grow m0);clear h3 g1 g0 s2 h0 q2 m0;have k3:(bC nd.kids)[c]? = some (.int .i64 (k':Int)):=by rw [show bC nd.kids=nd.kids.map λ (k:Nat)=>(.int .i64 (k:Int):Value) from rfl,List.getElem?_map,m3];rfl
    apply T.any 13 [is _,is _,is _,is _,is _,is _,is _,is _,is _,is _,is _,is _,is _];(· kernel_rfl);(· ((repeat' (first|exact aN|refine aK ?_ ?_));(iterate 13 (· (refine yQ λ wq _ _ i0=>?_;(repeat (first|refine aF ?_|(refine bM ?_;refine bJ (o:=fr.length*4) rfl (v0.grow i0) q0 rfl ?_)|(refine aQ ?_;first|refine aS rfl ((v0.grow i0).row.cell q3) rfl ?_|refine aS rfl ((v0.grow i0).row.cell q1) rfl ?_|refine aS rfl ((u3.kids.grow i0).row.cell k3) rfl ?_)|(refine aI ?_;refine aC (j:=c) rfl rfl rfl (by have:=u0 hl;omega) (Nat.mul_one _) ⟨_,_,u3.kids.grow i0⟩ rfl ?_)));exact aD rfl yG rfl)))));(rintro _ _ _ a0 _ _;(refine yT ?_))
    have h5:=(show ∀ {wz:World},Cu wz C cb d (.slice a (kf fr++[(nd,(c:Int))]).length cp) (kf fr++[(nd,(c:Int))])→Cu wz C cb d (.slice a (kf fr++[(nd,(c:Int))]).length cp) (kf ((nd,c)::fr)) from λ hh=>by rw [kf_cons];exact hh) (h4.grow a0)
    refine aB 226 ?_;refine aA rfl (cdescB_c tr h5 (c4.grow a0) (q.downL tr.vt m3 y3) y3 (List.mem_cons_of_mem _ e4) (Nat.le_trans dM j4)) rfl ?_;rintro _ w5 ⟨o4,j5,h6,d3,i4⟩;repeat refine aF ?_
    exact eF (vs:=[]) rfl rfl ⟨_,rfl,_,_,h6,(f3.trans (CuTo.grow a0)).trans d3,i4⟩
  | zero =>
   replace h:Cu w1 C cb d (.slice a (kf fr++[(nd,(-1:Int))]).length cp) (kf fr++[(nd,(-1:Int))]):=h;replace n0:CuTo cb pv (.slice a (kf fr++[(nd,(-1:Int))]).length cp) w w1:=n0;replace hb:=h.blk;obtain ⟨s3,f4,a4,_⟩:=q.all tr.vt;obtain ⟨y0,r1,u0,x1⟩:=q.node tr.vt tr.ok tr.node;have h8:=jC y0;have s0:(kf fr++[(nd,(-1:Int))]).length=fr.length+1:=by simp [cE]
   have e0:=ctop_c h oM oM;rw [s0,Nat.add_sub_cancel] at e0;rw [s0] at hb;obtain ⟨cs,l0,y1⟩:=h.row;obtain ⟨a',n4,e1,x0⟩:=aM l0;cases e1;rw [s0] at x0;obtain ⟨c0,x,rfl,z1,f1⟩:=KCells.last (l:=kf fr) (f:=(nd,(-1))) y1;have hx:NdAt (λ k=>C.lo≤k∧k<cb) w1 x nd:=f1;have g2:c0.length=fr.length*4:=by have:=z1.len;rw [cE] at this;exact this
   have p0:((c0++[x.v1,x.v2,x.v3,Value.int .i64 (-1)]).drop (fr.length*4)).take 4=[x.v1,x.v2,x.v3,Value.int .i64 (-1)]:=by rw [← g2,List.drop_left];rfl
   have i3:((c0++[x.v1,x.v2,x.v3,Value.int .i64 (-1)]).drop (fr.length*4)).take 3=[x.v1,x.v2,x.v3]:=by rw [← g2,List.drop_left];rfl
   have q0:(c0++[x.v1,x.v2,x.v3,Value.int .i64 (-1)])[fr.length*4]? = some x.v1:=iU p0 0 _ rfl;have q1:(c0++[x.v1,x.v2,x.v3,Value.int .i64 (-1)])[fr.length*4+1]? = some x.v2:=iU p0 1 _ rfl;have q3:(c0++[x.v1,x.v2,x.v3,Value.int .i64 (-1)])[fr.length*4+3]? = some (.int .i64 (-1)):=iU p0 3 _ rfl;have m1:=hx.its.len;have m2:=bR hx.kids;have g3:x.n2+x.n1=aT nd:=by rw [m1,m2];unfold aT;omega
   have t3:x.n1≤1000∧x.n2≤1000:=by omega
   clear f1 z1;repeat refine aF ?_
   refine aB 180 ?_;refine aA rfl e0 rfl ?_;rintro _ w2 ⟨rfl,j0⟩;have h2:=h.grow j0;have j1:=hw.grow j0;have k0:=n0.trans (CuTo.grow j0);have o2:=hb.grow j0;have f0:=x0.grow j0;have r2:=hx.go (Carry.grow j0);clear h hw n0 hb x0 hx e0 l0 y1;repeat refine aF ?_
   refine bD (e':=[(4,.pointer (some (at' a (fr.length*4)))),(1,.int .i64 (-1)),(0,.pointer (some ⟨cb,0,none⟩))]) ?_ ⟨rfl,rfl,rfl,trivial⟩;apply T.any 16 [is _,is _,is _,is _,is _,is _,is _,is _,is _,is _,is _,is _,is _,is _,is _,is _];(· kernel_rfl);(· ((repeat' (first|exact aN|refine aK ?_ ?_));(iterate 16 (· (refine yQ λ wq _ _ i0=>?_;(repeat (first|refine aF ?_|(refine bM ?_;refine bJ (o:=fr.length*4) rfl (f0.grow i0) q0 rfl ?_)|(refine aQ ?_;refine aS rfl ((f0.grow i0).row.cell q3) rfl ?_)));exact aD rfl yG rfl)))));(rintro _ _ _ a0 _ _;(refine yT ?_))
   have h3:=h2.grow a0;have g1:=j1.grow a0;have g0:=k0.trans (CuTo.grow a0);have s2:=o2.grow a0;clear h2 j1 k0 o2 f0 r2 a0;repeat refine aF ?_
   apply T.any 9 [is _,is _,is _,is _,is _,is _,is _,is _,is _];(· kernel_rfl);(· ((repeat' (first|exact aN|refine aK ?_ ?_));(iterate 9 (· (refine yQ λ wq _ _ i0=>?_;(repeat refine aF ?_);exact aD rfl yG rfl)))));(rintro _ _ _ a0 _ _;(refine yT ?_))
   refine aB 176 ?_;refine aA rfl (ccut_c (h3.grow a0) (fr.length+1-1) (by rw [s0];omega)) rfl ?_;rintro _ w5 ⟨p4,h5,t0⟩;have x3:=(g1.grow a0).go ((h3.grow a0).carry t0);have o0:=(g0.trans (CuTo.grow a0)).trans t0;rw [show (kf fr++[(nd,(-1:Int))]).take (fr.length+1-1)=kf fr by rw [Nat.add_sub_cancel];rw [← cE fr,List.take_left]] at h5;clear h3 g1 g0 s2 a0 t0
   cases fr with
   | nil =>
    obtain ⟨a5,m4,rfl⟩:=h5.slice;have r3:=h5.blk;rw [cE] at r3;obtain ⟨e1,e2⟩:=q.endL tr.vt;repeat refine aF ?_
    refine aE (none,_) ⟨rfl,rfl,trivial⟩ ⟨h5,o0,x3,e1⟩ (by simp only [msF];omega)
   | cons pi fr' =>
    obtain ⟨p,i⟩:=pi;have q':=q.popL tr.vt
    have k4:1≤aT p:=by
     obtain ⟨_,_,_,_,c2,r4,d5,_⟩:=q;obtain ⟨_,_,t4,x2,_,b4,z2,_⟩:=c2;have:=(List.getElem?_eq_some_iff.1 z2).1;have:=b4.kids;simp only [aT,this,List.length_map];omega
    rw [kf_cons] at h5;obtain ⟨a5,m4,rfl⟩:=h5.slice;have r3:=h5.blk;have e0:=ctop_c h5 sM (by simp only [List.length_append,cE,List.length_cons,List.length_nil];simp only [List.length_cons] at a4;omega);have u1:(kf fr'++[(p,(i:Int))]).length=fr'.length+1:=by simp [cE]
    rw [u1,Nat.add_sub_cancel] at e0;rw [u1] at r3;repeat refine aF ?_
    refine aB 180 ?_;refine aA rfl e0 rfl ?_;rintro _ w6 ⟨rfl,o3⟩;have h6:=h5.grow o3;obtain ⟨g,l5,k5,l4,hg,j2,p3,f2,s1⟩:=h6.bump;cases l4;rw [cE] at p3 f2 s1;have d2:w6.cell? (at' (some ⟨g,0,none⟩) (fr'.length*4+3))=some (.int .i64 (i:Int)):=j2.cell f2;have z4:i≤aT p:=(q'.all tr.vt).2.1;have v4:=jC (q'.node tr.vt tr.ok tr.node).1;repeat (first|refine aS rfl d2 rfl ?_|refine yC ?_)
    refine dR (o:=0+fr'.length*4+3) rfl rfl j2 rfl (Nat.ble_eq_true_of_le oM) rfl ?_;intro w7 d4 g4 u4;obtain ⟨h7,o1⟩:=s1 w7 _ d4 g4;repeat refine aF ?_
    refine aE (some (fr',p,i),_) ⟨rfl,rfl,trivial⟩ ⟨h7,(o0.trans (CuTo.grow o3)).trans o1,(x3.grow o3).go (h6.carry o1),q',k4⟩ (by simp only [msF,List.length_cons];omega)
end
end Go.Proofs.YtfpadnmdafiddaaGreatDoor
