import Derived.Test.YtfpadnmdafiddaaGreatDoorP0
import Derived.Test.YtfpadnmdafiddaaGreatDoorPq
import Derived.Test.YtfpadnmdafiddaaGreatDoorPl
set_option linter.all false
set_option maxHeartbeats 16000000
set_option maxRecDepth 100000
namespace Go.Proofs.YtfpadnmdafiddaaGreatDoor
open Go Go.RowKit Go.V
def TreeOf (s:Pg) (H:Nat) (top:Nd) (al:bT) (ps:List Nat) (root:Int):Prop:=(root = -1∧al=[])∨∃ n ps0,root=((n:Nat):Int)∧ps=n::ps0∧Tr s H top al ps0 n
theorem Pos.last {s:Pg} {H:Nat} {top:Nd} {al:bT} {ps0:List Nat} (hv:Vt s H top al ps0):Pos s H top [] top (aT top) al []:=by
 obtain ⟨qs,p1,p2,p3⟩:=hv.parts;exact ⟨H,[],[],qs,⟨rfl,rfl,rfl,rfl⟩,p1,oM,by rw [← p3,List.take_length,p2];rfl,by rw [← p3,List.drop_length];rfl⟩
theorem CuTo.keys {cb:Nat} {pv pv':Value} {w w':World} (t:CuTo cb pv pv' w w') {G:Nat→Prop} (hG:∀ k,G k→k≠cb∧pv.ownBlock≠some k):Carry G w G w':=⟨t.but.size,λ k hk hl=>⟨hk,t.but.block k hl (λ e=>by
 obtain ⟨h1,h2⟩:=hG k hk;rcases e with e|e
 ·exact h1 e
 ·exact h2 e)⟩⟩
section
variable {w:World} {C:CC} {cb:Nat} {d:Int} {pv:Value} {fs:List (Nd×Int)} {s:Pg} {H:Nat} {top:Nd} {al:bT} {ps:List Nat}
theorem clast_c (tr:TreeOf s H top al ps C.root) (h:Cu w C cb d pv fs) (hw:Wlk w cb C s ps) :
  Calls Tryz.prog 175 #[.pointer (some ⟨cb,0,none⟩)] w (Ret λ v w'=>∃ pv' fs',Cu w' C cb d pv' fs'∧CuTo cb pv pv' w w'∧At s H top fs' (ixB al.length)):=by
 have hb:=h.blk;refine V.calls (args:=[_]) Tryz.func175 rfl Tryz.ntmps175 rfl rfl ?_;repeat refine aF ?_
 refine aB 176 ?_;refine aA rfl (ccut_c h 0 (Nat.zero_le _)) rfl ?_;rintro _ w1 ⟨g0,h1,a0⟩;rw [List.take_zero] at h1;have h0:=hw.go (h.carry a0);have f0:=h1.blk;rcases tr with ⟨hr,rfl⟩|⟨n,ps0,hr,rfl,tr⟩
 ·rw [hr] at f0;repeat refine aF ?_
  exact dK (vs:=[]) rfl rfl ⟨_,rfl,g0,[],h1,a0,rfl⟩
 ·rw [hr] at f0;repeat refine aF ?_
  refine aB 226 ?_;refine aA rfl (cdescB_c tr (fr:=[]) h1 h0 (Pos.last tr.vt) tr.node sM tr.big) rfl ?_;rintro _ w2 ⟨pv2,j0,h2,e0,i0⟩;repeat refine aF ?_
  exact dK (vs:=[]) rfl rfl ⟨_,rfl,pv2,j0,h2,a0.trans e0,i0⟩
theorem cmoveF_c (tr:TreeOf s H top al ps C.root) (h:Cu w C cb d pv fs) (hw:Wlk w cb C s ps) {ix:Option Nat} (p0:At s H top fs ix) (v0:ix≠none→C.root≠-1) :
  Calls Tryz.prog 137 #[.pointer (some ⟨cb,0,none⟩),.int .i64 1] w (Ret λ v w'=>∃ pv' fs',Cu w' C cb d pv' fs'∧CuTo cb pv pv' w w'∧At s H top fs' (ix.bind λ j=>kD al.length (j+1))):=by
 refine V.calls (args:=[_,_]) Tryz.func137 rfl Tryz.ntmps137 rfl rfl ?_;obtain ⟨a,cp,rfl⟩:=h.slice;have hb:=h.blk
 cases ix with
 | none =>
  obtain rfl:fs=[]:=p0;have r1:Blk w cb 206 [.pointer (some ⟨cb,0,none⟩),.pointer (some ⟨C.wb,0,none⟩),.int .i64 C.root,.slice C.fa C.fn C.fc,.slice C.ta C.tn C.tc,.bool C.back,.int .i64 C.most,.int .i64 d,.slice a 0 cp]:=hb;repeat refine aF ?_
  exact dK (vs:=[]) rfl rfl ⟨_,rfl,_,[],h,CuTo.grow (Grow.refl _),rfl⟩
 | some j =>
  rcases tr with ⟨hr,_⟩|⟨n,ps0,hr,rfl,tr⟩
  ·exact absurd hr (v0 sM)
  obtain ⟨fr,nd,c,g1,s0,x,rfl,q,hl,hx,rfl⟩:=p0;obtain ⟨y0,q1,o1,_⟩:=q.all tr.vt;have m1:=tr.le;have h8:=jC (q.node tr.vt tr.ok tr.node).1;obtain ⟨n0,rfl,q'⟩:=q.leaf tr.vt hl hx;have o0:(kf fr++[(nd,(c:Int))]).length=fr.length+1:=by simp [cE]
  have a0:=ctop_c h oM oM;rw [o0,Nat.add_sub_cancel] at a0;rw [o0] at hb;have h1:1≤aT nd:=by have:=(q'.all tr.vt).2.1;omega
  repeat refine aF ?_
  refine aB 180 ?_;refine aA rfl a0 rfl ?_;rintro _ w6 ⟨rfl,l0⟩;have h6:=h.grow l0;obtain ⟨g,u1,s1,f1,hg,i0,m0,h0,f0⟩:=h6.bump;cases f1;rw [cE] at m0 h0 f0;have g0:w6.cell? (at' (some ⟨g,0,none⟩) (fr.length*4+3))=some (.int .i64 (c:Int)):=i0.cell h0;repeat (first|refine aS rfl g0 rfl ?_|refine yC ?_)
  refine dR (o:=0+fr.length*4+3) rfl rfl i0 rfl (Nat.ble_eq_true_of_le oM) rfl ?_;intro w7 u0 x0 j1;obtain ⟨h7,e0⟩:=f0 w7 _ u0 x0;have t0:=(hw.grow l0).go (h6.carry e0);repeat refine aF ?_
  refine aB 178 ?_;refine aA rfl (csettF_c tr (c:=c+1) h7 t0 q' h1) rfl ?_;rintro _ w8 ⟨q0,e1,z0,k0,j0⟩;repeat refine aF ?_
  refine dK (vs:=[]) rfl rfl ⟨_,rfl,q0,e1,z0,((CuTo.grow l0).trans e0).trans k0,?_⟩;rw [List.length_append] at j0;exact j0
theorem cmoveB_c (tr:TreeOf s H top al ps C.root) (h:Cu w C cb d pv fs) (hw:Wlk w cb C s ps) {ix:Option Nat} (o0:At s H top fs ix) (u0:ix≠none→C.root≠-1) :
  Calls Tryz.prog 137 #[.pointer (some ⟨cb,0,none⟩),.int .i64 (-1)] w (Ret λ v w'=>∃ pv' fs',Cu w' C cb d pv' fs'∧CuTo cb pv pv' w w'∧At s H top fs' (ix.bind ixB)):=by
 refine V.calls (args:=[_,_]) Tryz.func137 rfl Tryz.ntmps137 rfl rfl ?_;obtain ⟨a,cp,rfl⟩:=h.slice;have hb:=h.blk
 cases ix with
 | none =>
  obtain rfl:fs=[]:=o0;have q1:Blk w cb 206 [.pointer (some ⟨cb,0,none⟩),.pointer (some ⟨C.wb,0,none⟩),.int .i64 C.root,.slice C.fa C.fn C.fc,.slice C.ta C.tn C.tc,.bool C.back,.int .i64 C.most,.int .i64 d,.slice a 0 cp]:=hb;repeat refine aF ?_
  exact dK (vs:=[]) rfl rfl ⟨_,rfl,_,[],h,CuTo.grow (Grow.refl _),rfl⟩
 | some j =>
  rcases tr with ⟨hr,_⟩|⟨n,ps0,hr,rfl,tr⟩
  ·exact absurd hr (u0 sM)
  obtain ⟨fr,nd,c,f1,q0,x,rfl,q,hl,hx,rfl⟩:=o0;obtain ⟨x0,o1,m1,_⟩:=q.all tr.vt;have j1:=tr.le;have h8:=jC (q.node tr.vt tr.ok tr.node).1;have n0:(kf fr++[(nd,(c:Int))]).length=fr.length+1:=by simp [cE]
  have a0:=ctop_c h oM oM;rw [n0,Nat.add_sub_cancel] at a0;rw [n0] at hb;have h1:1≤aT nd:=by obtain ⟨_,rfl,q'⟩:=q.leaf tr.vt hl hx;have:=(q'.all tr.vt).2.1;omega
  repeat refine aF ?_
  refine aB 180 ?_;refine aA rfl a0 rfl ?_;rintro _ w6 ⟨rfl,k0⟩;have h6:=h.grow k0;obtain ⟨g,s1,r1,e1,hg,i0,l0,h0,f0⟩:=h6.bump;cases e1;rw [cE] at l0 h0 f0;have g0:w6.cell? (at' (some ⟨g,0,none⟩) (fr.length*4+3))=some (.int .i64 (c:Int)):=i0.cell h0;repeat (first|refine aS rfl g0 rfl ?_|refine yC ?_)
  refine dR (o:=0+fr.length*4+3) rfl rfl i0 rfl (Nat.ble_eq_true_of_le oM) rfl ?_;intro w7 t0 v0 g1;obtain ⟨h7,e0⟩:=f0 w7 _ t0 v0;have s0:=(hw.grow k0).go (h6.carry e0);repeat refine aF ?_
  refine aB 178 ?_;refine aA rfl (csettB_c tr (c:=c) h7 s0 q h1) rfl ?_;rintro _ w8 ⟨p0,z0,y0,j0,m0⟩;repeat refine aF ?_
  exact dK (vs:=[]) rfl rfl ⟨_,rfl,p0,z0,y0,((CuTo.grow k0).trans e0).trans j0,m0⟩
theorem cfind_c (tr:TreeOf s H top al ps C.root) (h:Cu w C cb d pv fs) (hw:Wlk w cb C s ps) (G:Nat→Prop) (hG:∀ k,G k→k≠cb∧pv.ownBlock≠some k) (ka:Option Addr) (kn kc:Nat) (key:Bs) (hk:Sl G w 1 ka kn kc (bB key)) :
  Calls Tryz.prog 133 #[.pointer (some ⟨cb,0,none⟩),.slice ka kn kc] w (Ret λ v w'=>∃ pv' fs',Cu w' C cb d pv' fs'∧CuTo cb pv pv' w w'∧At s H top fs' (kD al.length (dP al key))):=by
 have hb:=h.blk;refine V.calls (args:=[_,_]) Tryz.func133 rfl Tryz.ntmps133 rfl rfl ?_;repeat refine aF ?_
 refine aB 176 ?_;refine aA rfl (ccut_c h 0 (Nat.zero_le _)) rfl ?_;rintro _ w1 ⟨t0,h1,a0⟩;rw [List.take_zero] at h1;have o0:=hw.go (h.carry a0);have s0:=h1.blk;rcases tr with ⟨hr,rfl⟩|⟨n,ps0,hr,rfl,tr⟩
 ·rw [hr] at s0;repeat refine aF ?_
  exact eF (vs:=[]) rfl rfl ⟨_,rfl,t0,[],h1,a0,rfl⟩
 ·have i3:=tr.le;rw [hr] at s0;repeat refine aF ?_
  refine aX (S:=List (Nd×Nat)×Nat×Nd×Value) (λ q=>[(4,.int .i64 (q.2.1:Int)),(1,.slice ka kn kc),(0,.pointer (some ⟨cb,0,none⟩))])
   (λ q w1=>Cu w1 C cb d q.2.2.2 (kf q.1)∧CuTo cb pv q.2.2.2 w w1∧Wlk w1 cb C s (n::ps0)∧Sk s H top key q.1 q.2.2.1∧cD s q.2.1=some q.2.2.1∧q.2.1∈n::ps0∧1≤aT q.2.2.1) (λ q=>H+1-q.1.length) ([],n,top,t0) ⟨rfl,rfl,rfl,trivial⟩ ⟨h1,a0,o0,Sk.start key,tr.node,sM,tr.big⟩ ?_
  clear h1 a0 o0 s0;clear t0;rintro ⟨fr,k,nd,t0⟩ w1 ⟨h1,a0,o0,q,j1,h2,e1⟩;simp only at h1 a0 q j1 h2 e1
  have k3:fr.length≤H:=by
   obtain ⟨h0,L,R,c0,_⟩:=id q;obtain ⟨_,_,_,_,_,hh,_⟩:=c0.all tr.vt;omega
  have g2:=fB j1;have u1:k<4294967296:=by have:=dV (dL j1);have:=tr.n32;omega
  have s0:=h1.blk;have o3:=h1.lt;have u2:∀ j,t0.ownBlock=some j→j<w1.heap.size:=λ j e=>(h1.own e).2;have m0:=hk.go (a0.keys hG);repeat refine aF ?_
  refine aB 163 ?_;refine aA rfl (o0.node h2 j1 u1) rfl ?_;rintro _ w2 ⟨x,rfl,hx,y0⟩;have z2:=y0.size
  cases hl:bN nd with
  | true =>
   repeat (first|(refine aB 80 ?_;refine aA rfl (eX hx hl _) rfl ?_;rintro _ _ ⟨rfl,n0⟩)|refine yC ?_|refine yI λ bk w' hg q0 s1 r1=>?_|refine yJ λ w' hu q0 s1=>?_)
   rename_i w4;have k0:Grow w1 w4:=(aH hu oM (y0.trans hg)).trans n0;have p0:=((hx.go (Carry.grow hg)).go (Carry.upd hu (λ j hj _=>by omega))).go (Carry.grow n0);have k4:=q0.grow n0;have o2:w1.heap.size≤bk∧bk<w4.heap.size:=by have:=k4.lt;omega
   have h4:=h1.grow k0;have v0:=o0.grow k0;have j0:=a0.trans (CuTo.grow k0);have x0:=m0.grow k0;clear q0 hu hg y0 n0 hx s0 h1 o0 a0 m0 k0;refine aB 149 ?_;refine aA rfl (find_c _ _ x nd ka kn kc key _ p0 x0 g2 hl) rfl ?_;rintro _ w5 ⟨rfl,g0⟩;have u0:=p0.go (Carry.grow g0);have k5:=k4.grow g0;have h5:=h4.grow g0;have g1:=v0.grow g0;have l0:=j0.trans (CuTo.grow g0);clear p0 k4 h4 v0 j0 x0 g0;repeat refine aF ?_
   apply T.any 6 [is _,is _,is _,is _,is _,is _];(· kernel_rfl);(· ((repeat' (first|exact aN|refine aK ?_ ?_));(iterate 6 (· (refine yQ λ wq _ _ d3=>?_;(repeat refine aF ?_);exact aD rfl yG rfl)))));(rintro _ _ _ f0 _ _;(refine yT ?_))
   refine aB 177 ?_;refine aA rfl (cpush_c (h5.grow f0) x nd ((dP nd.items key:Nat):Int) (u0.go (Carry.grow f0)) (by rw [cE];omega)) rfl ?_;rintro _ w6 ⟨y1,h6,e0⟩;have o1:=(g1.grow f0).go ((h5.grow f0).carry e0);have i0:=(l0.trans (CuTo.grow f0)).trans e0;obtain ⟨r2,s2,q',f1,f2⟩:=q.found tr.vt hl;repeat refine aF ?_
   refine aB 178 ?_;refine aA rfl (csettF_c tr h6 o1 q' e1) rfl ?_;rintro _ w8 ⟨q2,g3,f3,q1,x1⟩;repeat refine aF ?_
   refine dK (vs:=[]) rfl rfl ⟨_,rfl,q2,g3,f3,i0.trans q1,?_⟩;rw [show dP al key=r2.length by rw [← (q'.all tr.vt).1,findN_split f1 f2]];exact x1
  | false =>
   repeat (first|(refine aB 80 ?_;refine aA rfl (eX hx hl _) rfl ?_;rintro _ _ ⟨rfl,n0⟩)|refine yC ?_|refine yI λ bk w' hg q0 s1 r1=>?_|refine yJ λ w' hu q0 s1=>?_)
   rename_i w4;have k0:Grow w1 w4:=(aH hu oM (y0.trans hg)).trans n0;have p0:=((hx.go (Carry.grow hg)).go (Carry.upd hu (λ j hj _=>by omega))).go (Carry.grow n0);have k4:=q0.grow n0;have o2:w1.heap.size≤bk∧bk<w4.heap.size:=by have:=k4.lt;omega
   have h4:=h1.grow k0;have v0:=o0.grow k0;have j0:=a0.trans (CuTo.grow k0);have x0:=m0.grow k0;clear q0 hu hg y0 n0 hx s0 h1 o0 a0 m0 k0;obtain ⟨k',z1,j2,y2,x2,q'⟩:=q.down tr.vt hl
   have z0:1≤aT z1:=by
    obtain ⟨h0,L,R,c0,_⟩:=id q';obtain ⟨_,_,_,_,m1,_⟩:=c0.all tr.vt;rcases m1 with m1|m1
    ·cases m1
    ·omega
   refine aB 150 ?_;refine aA rfl (kid_c _ _ x nd ka kn kc key _ p0 x0 g2 hl) rfl ?_;rintro _ w5 ⟨rfl,g0⟩;have u0:=p0.go (Carry.grow g0);have k5:=k4.grow g0;have h5:=h4.grow g0;have g1:=v0.grow g0;have l0:=j0.trans (CuTo.grow g0);have z5:=g0.size;clear p0 k4 h4 v0 j0 x0 g0;repeat refine aF ?_
   apply T.any 6 [is _,is _,is _,is _,is _,is _];(· kernel_rfl);(· ((repeat' (first|exact aN|refine aK ?_ ?_));(iterate 6 (· (refine yQ λ wq _ _ d3=>?_;(repeat refine aF ?_);exact aD rfl yG rfl)))));(rintro _ _ _ f0 _ _;(refine yT ?_))
   refine aB 177 ?_;refine aA rfl (cpush_c (h5.grow f0) x nd ((fW nd.keys key:Nat):Int) (u0.go (Carry.grow f0)) (by rw [cE];omega)) rfl ?_;rintro _ w6 ⟨y1,h6,e0⟩;have c6:=(h5.grow f0).carry e0;have o1:=(g1.grow f0).go c6;have i0:=(l0.trans (CuTo.grow f0)).trans e0;have d2:=(u0.go (Carry.grow f0)).go c6
   have k6:=bX (k5.grow f0) e0.but (λ e=>by
    rcases e with e|e
    ·omega
    ·have:=u2 _ e;omega)
   have e2:=d2.kids;have h3:=bR d2.kids;have j3:=(List.getElem?_eq_some_iff.1 j2).1;have m3:w6.cell? (at' x.a2 (fW nd.keys key))=some (.int .i64 (k':Int)):=e2.row.cell (by rw [show bC nd.kids=nd.kids.map λ (k:Nat)=>(.int .i64 (k:Int):Value) from rfl,List.getElem?_map,j2];rfl);clear u0 k5 h5 g1 l0 e0 c6 f0;repeat (first|(refine aI ?_;refine aC (j:=fW nd.keys key) rfl rfl rfl oM (Nat.mul_one _) ⟨_,_,e2⟩ rfl ?_)|refine yC ?_)
   refine aE ((nd,fW nd.keys key)::fr,k',z1,y1) ⟨rfl,rfl,rfl,trivial⟩ ⟨by rw [kf_cons];exact h6,i0,o1,q',y2,List.mem_cons_of_mem _ x2,z0⟩ (by simp only [List.length_cons];omega)
end
structure CE where
 s:Pg
 H:Nat
 top:Nd
 al:bT
 ps:List Nat
 fr:Bs
 to:Bs
structure Ok (w:World) (C:CC) (cb:Nat) (E:CE):Prop where
 tr:TreeOf E.s E.H E.top E.al E.ps C.root
 wlk:Wlk w cb C E.s E.ps
 f:Sl (λ k=>C.lo≤k∧k<cb) w 1 C.fa C.fn C.fc (bB E.fr)
 t:Sl (λ k=>C.lo≤k∧k<cb) w 1 C.ta C.tn C.tc (bB E.to)
 srt:Srt E.al
 n:E.al.length≤1000
 fl:E.fr.length≤100
 tl:E.to.length≤100
 by':∀ x∈E.al,fK x.1∧fK x.2
 ko:∀ x∈E.al,x.1.length≤16∧x.2.length≤32
 most:0≤C.most∧C.most≤9223372036854775807
theorem Ok.go {w w':World} {C:CC} {cb:Nat} {E:CE} (h:Ok w C cb E) (c:Carry (λ k=>C.lo≤k∧k<cb) w (λ k=>C.lo≤k∧k<cb) w'):Ok w' C cb E:=⟨h.tr,h.wlk.go c,h.f.go c,h.t.go c,h.srt,h.n,h.fl,h.tl,h.by',h.ko,h.most⟩
theorem Ok.grow {w w':World} {C:CC} {cb:Nat} {E:CE} (h:Ok w C cb E) (g:Grow w w'):Ok w' C cb E:=h.go (Carry.grow g)
def AtE (E:CE) (fs:List (Nd×Int)) (ix:Option Nat):Prop:=At E.s E.H E.top fs ix
theorem tw_len {to:Bs} (h:to≠[]) (al:bT):(al.takeWhile (kT to)).length=dP al to:=by
 unfold dP;congr 1
 congr 1
 funext x
 have:to.isEmpty=false:=by cases to with|nil=>exact absurd rfl h|cons a b=>rfl
 simp [kT,this]
theorem tw_nil (al:bT):al.takeWhile (kT [])=al:=by
 induction al with
 | nil=>rfl
 | cons x r ih=>rw [List.takeWhile_cons,ih];rfl
section
variable {w:World} {C:CC} {cb:Nat} {d:Int} {pv:Value} {fs:List (Nd×Int)} {E:CE}
theorem Ok.ne (o:Ok w C cb E) {j:Nat} (h:j<E.al.length):C.root≠-1:=by
 rcases o.tr with ⟨hr,ha⟩|⟨n,ps0,hr,_⟩
 ·rw [ha] at h;simp at h
 ·intro e;omega
theorem cbelow_c (o:Ok w C cb E) (h:Cu w C cb d pv fs) :
  Calls Tryz.prog 132 #[.pointer (some ⟨cb,0,none⟩)] w (Ret λ v w'=>∃ pv' fs',Cu w' C cb d pv' fs'∧CuTo cb pv pv' w w'∧AtE E fs' (ixB (E.al.takeWhile (kT E.to)).length)):=by
 have hb:=h.blk;have n0:C.tn=E.to.length:=by have:=o.t.len;rw [bB,List.length_map] at this;omega
 have u0:=o.tl;have hG:∀ k,C.lo≤k∧k<cb→k≠cb∧pv.ownBlock≠some k:=λ k hk=>⟨oM,λ e=>by have:=(h.own e).1;omega⟩
 refine V.calls (args:=[_]) Tryz.func132 rfl Tryz.ntmps132 rfl rfl ?_;by_cases h0:C.tn=0
 ·have i0:E.to=[]:=List.eq_nil_of_length_eq_zero oM;repeat refine aF ?_
  refine aB 175 ?_;refine aA rfl (clast_c o.tr h o.wlk) rfl ?_;rintro _ w1 ⟨m0,l0,h1,a0,g0⟩;repeat refine aF ?_
  exact eF (vs:=[]) rfl rfl ⟨_,rfl,m0,l0,h1,a0,by rw [i0,tw_nil];exact g0⟩
 ·have i0:E.to≠[]:=λ e=>by rw [e] at n0;exact h0 n0
  rw [tw_len i0];repeat refine aF ?_
  refine aB 133 ?_;refine aA rfl (cfind_c o.tr h o.wlk _ hG _ _ _ E.to o.t) rfl ?_;rintro _ w1 ⟨m0,l0,h1,a0,g0⟩;have o1:=o.go (h.carry a0);obtain ⟨a,cp,rfl⟩:=h1.slice;have j0:=h1.blk;unfold kD at g0;split at g0
  ·rename_i q0;have p0:some (dP E.al E.to)≠none→C.root≠-1:=λ _=>o1.ne q0;obtain ⟨fr,nd,c,t0,o0,x,rfl,_⟩:=id g0;have s0:(kf fr++[(nd,(c:Int))]).length=fr.length+1:=by simp [cE]
   rw [s0] at j0;repeat refine aF ?_
   refine aB 137 ?_;refine aA rfl (cmoveB_c o1.tr h1 o1.wlk g0 p0) rfl ?_;rintro _ w2 ⟨pv2,k0,h2,e0,f0⟩;repeat refine aF ?_
   exact dK (vs:=[]) rfl rfl ⟨_,rfl,pv2,k0,h2,a0.trans e0,f0⟩
  ·rename_i x0;have v0:dP E.al E.to≤E.al.length:=findN_le _ _;obtain rfl:l0=[]:=g0;have y0:Blk w1 cb 206 [.pointer (some ⟨cb,0,none⟩),.pointer (some ⟨C.wb,0,none⟩),.int .i64 C.root,.slice C.fa C.fn C.fc,.slice C.ta C.tn C.tc,.bool C.back,.int .i64 C.most,.int .i64 d,.slice a 0 cp]:=j0;clear j0 hb;repeat refine aF ?_
   refine aB 175 ?_;refine aA rfl (clast_c o1.tr h1 o1.wlk) rfl ?_;rintro _ w2 ⟨pv2,k0,h2,e0,f0⟩;repeat refine aF ?_
   exact eF (vs:=[]) rfl rfl ⟨_,rfl,pv2,k0,h2,a0.trans e0,by rw [show dP E.al E.to=E.al.length by omega];exact f0⟩
end
section
variable {w:World} {C:CC} {cb:Nat} {d:Int} {pv:Value} {fs:List (Nd×Int)} {E:CE}
theorem At.item {s:Pg} {H:Nat} {top:Nd} {al:bT} {ps0:List Nat} {n:Nat} (tr:Tr s H top al ps0 n) {fs:List (Nd×Int)} {j:Nat} (h:At s H top fs (some j)):∃ l nd c it,fs=l++[(nd,((c:Nat):Int))]∧nd.items[c]? = some it∧al[j]? = some it∧l.length≤100∧nd.items.length≤100:=by
 obtain ⟨fr,nd,c,i0,f0,x,rfl,q,hl,hx,rfl⟩:=h;obtain ⟨a0,_,j0,_⟩:=q.all tr.vt;obtain ⟨e0,rfl,_⟩:=q.leaf tr.vt hl hx;obtain ⟨h0,g0,_⟩:=q.node tr.vt tr.ok tr.node;have h8:=jC h0;have:=tr.le;exact ⟨kf fr,nd,c,x,rfl,hx,by rw [← a0,List.getElem?_append_right (Nat.le_refl _),Nat.sub_self];rfl,by rw [cE];omega,by have:=g0 hl;omega⟩
end
end Go.Proofs.YtfpadnmdafiddaaGreatDoor
