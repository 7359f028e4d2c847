import Derived.Test.YtfpadnmdafiddaaGreatDoorG0
import Derived.Test.YtfpadnmdafiddaaGreatDoorGh
import Derived.Test.YtfpadnmdafiddaaGreatDoorGe
set_option linter.all false
set_option maxHeartbeats 16000000
set_option maxRecDepth 100000
namespace Go.Proofs.YtfpadnmdafiddaaGreatDoor
open Go Go.RowKit Go.V
def TreeOf (s:Pg) (H:Nat) (top:Nd) (al:bT) (ps:List Nat) (root:Int):Prop:=(root = -1∧al=[])∨∃ n ps0,root=((n:Nat):Int)∧ps=n::ps0∧Tr s H top al ps0 n
theorem Pos.last {s:Pg} {H:Nat} {top:Nd} {al:bT} {ps0:List Nat} (hv:Vt s H top al ps0):Pos s H top [] top (aR top) al []:=by
 obtain ⟨qs,p1,p2,p3⟩:=hv.parts;exact ⟨H,[],[],qs,⟨rfl,rfl,rfl,rfl⟩,p1,oM,by rw [← p3,List.take_length,p2];rfl,by rw [← p3,List.drop_length];rfl⟩
theorem CuTo.keys {cb:Nat} {pv pv':Value} {w w':World} (t:CuTo cb pv pv' w w') {G:Nat→Prop} (hG:∀ k,G k→k≠cb∧pv.ownBlock≠some k):Carry G w G w':=⟨t.but.size,λ k hk hl=>⟨hk,t.but.block k hl (λ e=>by
 obtain ⟨h1,h2⟩:=hG k hk;rcases e with e|e
 ·exact h1 e
 ·exact h2 e)⟩⟩
section
variable {w:World} {C:CC} {cb:Nat} {d:Int} {pv:Value} {fs:List (Nd×Int)} {s:Pg} {H:Nat} {top:Nd} {al:bT} {ps:List Nat}
theorem clast_c (tr:TreeOf s H top al ps C.root) (h:Cu w C cb d pv fs) (hw:Wlk w cb C s ps) :
  Calls Tryz.prog 175 #[.pointer (some ⟨cb,0,none⟩)] w (Ret λ v w'=>∃ pv' fs',Cu w' C cb d pv' fs'∧CuTo cb pv pv' w w'∧At s H top fs' (ixB al.length)):=by
 have hb:=h.blk;refine V.calls (args:=[_]) Tryz.func175 rfl Tryz.ntmps175 rfl rfl ?_;repeat refine aF ?_
 refine aB 176 ?_;refine aA rfl (ccut_c h 0 (Nat.zero_le _)) rfl ?_;rintro _ w1 ⟨pv1,h1,hto1⟩;rw [List.take_zero] at h1;have hw1:=hw.go (h.carry hto1);have hb1:=h1.blk;rcases tr with ⟨hr,rfl⟩|⟨n,ps0,hr,rfl,tr⟩
 ·rw [hr] at hb1;repeat refine aF ?_
  exact cE (vs:=[]) rfl rfl ⟨_,rfl,pv1,[],h1,hto1,rfl⟩
 ·rw [hr] at hb1;repeat refine aF ?_
  refine aB 226 ?_;refine aA rfl (cdescB_c tr (fr:=[]) h1 hw1 (Pos.last tr.vt) tr.node sM tr.big) rfl ?_;rintro _ w2 ⟨pv2,fs2,h2,hto2,hat⟩;repeat refine aF ?_
  exact cE (vs:=[]) rfl rfl ⟨_,rfl,pv2,fs2,h2,hto1.trans hto2,hat⟩
theorem cmoveF_c (tr:TreeOf s H top al ps C.root) (h:Cu w C cb d pv fs) (hw:Wlk w cb C s ps) {ix:Option Nat} (hat:At s H top fs ix) (hne:ix≠none→C.root≠-1) :
  Calls Tryz.prog 137 #[.pointer (some ⟨cb,0,none⟩),.int .i64 1] w (Ret λ v w'=>∃ pv' fs',Cu w' C cb d pv' fs'∧CuTo cb pv pv' w w'∧At s H top fs' (ix.bind λ j=>jY al.length (j+1))):=by
 refine V.calls (args:=[_,_]) Tryz.func137 rfl Tryz.ntmps137 rfl rfl ?_;obtain ⟨a,cp,rfl⟩:=h.slice;have hb:=h.blk
 cases ix with
 | none =>
  obtain rfl:fs=[]:=hat;have hb0:Blk w cb 206 [.pointer (some ⟨cb,0,none⟩),.pointer (some ⟨C.wb,0,none⟩),.int .i64 C.root,.slice C.fa C.fn C.fc,.slice C.ta C.tn C.tc,.bool C.back,.int .i64 C.most,.int .i64 d,.slice a 0 cp]:=hb;repeat refine aF ?_
  exact cE (vs:=[]) rfl rfl ⟨_,rfl,_,[],h,CuTo.grow (Grow.refl _),rfl⟩
 | some j =>
  rcases tr with ⟨hr,_⟩|⟨n,ps0,hr,rfl,tr⟩
  ·exact absurd hr (hne sM)
  obtain ⟨fr,nd,c,pre,post,x,rfl,q,hl,hx,rfl⟩:=hat;obtain ⟨hall,hcs,hfl,_⟩:=q.all tr.vt;have hle:=tr.le;have h8:=jD (q.node tr.vt tr.ok tr.node).1;obtain ⟨post',rfl,q'⟩:=q.leaf tr.vt hl hx;have hln:(kf fr++[(nd,(c:Int))]).length=fr.length+1:=by simp [cC]
  have htop:=ctop_c h oM oM;rw [hln,Nat.add_sub_cancel] at htop;rw [hln] at hb;have h1:1≤aR nd:=by have:=(q'.all tr.vt).2.1;omega
  repeat refine aF ?_
  refine aB 180 ?_;refine aA rfl htop rfl ?_;rintro _ w6 ⟨rfl,hg6⟩;have h6:=h.grow hg6;obtain ⟨g,cap,cur,epv,hg,hbg6,hcl',hget,hset⟩:=h6.bump;cases epv;rw [cC] at hcl' hget hset;have hget6:w6.cell? (at' (some ⟨g,0,none⟩) (fr.length*4+3))=some (.int .i64 (c:Int)):=hbg6.cell hget;repeat (first|refine aQ rfl hget6 rfl ?_|refine yC ?_)
  refine dQ (o:=0+fr.length*4+3) rfl rfl hbg6 rfl (Nat.ble_eq_true_of_le oM) rfl ?_;intro w7 hu7 hb7 hs7;obtain ⟨h7,hto7⟩:=hset w7 _ hu7 hb7;have hw7:=(hw.grow hg6).go (h6.carry hto7);repeat refine aF ?_
  refine aB 178 ?_;refine aA rfl (csettF_c tr (c:=c+1) h7 hw7 q' h1) rfl ?_;rintro _ w8 ⟨pv8,fs8,h8',hto8,hat8⟩;repeat refine aF ?_
  refine cE (vs:=[]) rfl rfl ⟨_,rfl,pv8,fs8,h8',((CuTo.grow hg6).trans hto7).trans hto8,?_⟩;rw [List.length_append] at hat8;exact hat8
theorem cmoveB_c (tr:TreeOf s H top al ps C.root) (h:Cu w C cb d pv fs) (hw:Wlk w cb C s ps) {ix:Option Nat} (hat:At s H top fs ix) (hne:ix≠none→C.root≠-1) :
  Calls Tryz.prog 137 #[.pointer (some ⟨cb,0,none⟩),.int .i64 (-1)] w (Ret λ v w'=>∃ pv' fs',Cu w' C cb d pv' fs'∧CuTo cb pv pv' w w'∧At s H top fs' (ix.bind ixB)):=by
 refine V.calls (args:=[_,_]) Tryz.func137 rfl Tryz.ntmps137 rfl rfl ?_;obtain ⟨a,cp,rfl⟩:=h.slice;have hb:=h.blk
 cases ix with
 | none =>
  obtain rfl:fs=[]:=hat;have hb0:Blk w cb 206 [.pointer (some ⟨cb,0,none⟩),.pointer (some ⟨C.wb,0,none⟩),.int .i64 C.root,.slice C.fa C.fn C.fc,.slice C.ta C.tn C.tc,.bool C.back,.int .i64 C.most,.int .i64 d,.slice a 0 cp]:=hb;repeat refine aF ?_
  exact cE (vs:=[]) rfl rfl ⟨_,rfl,_,[],h,CuTo.grow (Grow.refl _),rfl⟩
 | some j =>
  rcases tr with ⟨hr,_⟩|⟨n,ps0,hr,rfl,tr⟩
  ·exact absurd hr (hne sM)
  obtain ⟨fr,nd,c,pre,post,x,rfl,q,hl,hx,rfl⟩:=hat;obtain ⟨hall,hcs,hfl,_⟩:=q.all tr.vt;have hle:=tr.le;have h8:=jD (q.node tr.vt tr.ok tr.node).1;have hln:(kf fr++[(nd,(c:Int))]).length=fr.length+1:=by simp [cC]
  have htop:=ctop_c h oM oM;rw [hln,Nat.add_sub_cancel] at htop;rw [hln] at hb;have h1:1≤aR nd:=by obtain ⟨_,rfl,q'⟩:=q.leaf tr.vt hl hx;have:=(q'.all tr.vt).2.1;omega
  repeat refine aF ?_
  refine aB 180 ?_;refine aA rfl htop rfl ?_;rintro _ w6 ⟨rfl,hg6⟩;have h6:=h.grow hg6;obtain ⟨g,cap,cur,epv,hg,hbg6,hcl',hget,hset⟩:=h6.bump;cases epv;rw [cC] at hcl' hget hset;have hget6:w6.cell? (at' (some ⟨g,0,none⟩) (fr.length*4+3))=some (.int .i64 (c:Int)):=hbg6.cell hget;repeat (first|refine aQ rfl hget6 rfl ?_|refine yC ?_)
  refine dQ (o:=0+fr.length*4+3) rfl rfl hbg6 rfl (Nat.ble_eq_true_of_le oM) rfl ?_;intro w7 hu7 hb7 hs7;obtain ⟨h7,hto7⟩:=hset w7 _ hu7 hb7;have hw7:=(hw.grow hg6).go (h6.carry hto7);repeat refine aF ?_
  refine aB 178 ?_;refine aA rfl (csettB_c tr (c:=c) h7 hw7 q h1) rfl ?_;rintro _ w8 ⟨pv8,fs8,h8',hto8,hat8⟩;repeat refine aF ?_
  exact cE (vs:=[]) rfl rfl ⟨_,rfl,pv8,fs8,h8',((CuTo.grow hg6).trans hto7).trans hto8,hat8⟩
theorem cfind_c (tr:TreeOf s H top al ps C.root) (h:Cu w C cb d pv fs) (hw:Wlk w cb C s ps) (G:Nat→Prop) (hG:∀ k,G k→k≠cb∧pv.ownBlock≠some k) (ka:Option Addr) (kn kc:Nat) (key:Bs) (hk:Sl G w 1 ka kn kc (bB key)) :
  Calls Tryz.prog 133 #[.pointer (some ⟨cb,0,none⟩),.slice ka kn kc] w (Ret λ v w'=>∃ pv' fs',Cu w' C cb d pv' fs'∧CuTo cb pv pv' w w'∧At s H top fs' (jY al.length (cN al key))):=by
 have hb:=h.blk;refine V.calls (args:=[_,_]) Tryz.func133 rfl Tryz.ntmps133 rfl rfl ?_;repeat refine aF ?_
 refine aB 176 ?_;refine aA rfl (ccut_c h 0 (Nat.zero_le _)) rfl ?_;rintro _ w1 ⟨pv1,h1,hto1⟩;rw [List.take_zero] at h1;have hw1:=hw.go (h.carry hto1);have hb1:=h1.blk;rcases tr with ⟨hr,rfl⟩|⟨n,ps0,hr,rfl,tr⟩
 ·rw [hr] at hb1;repeat refine aF ?_
  exact eB (vs:=[]) rfl rfl ⟨_,rfl,pv1,[],h1,hto1,rfl⟩
 ·have hle:=tr.le;rw [hr] at hb1;repeat refine aF ?_
  refine aX (S:=List (Nd×Nat)×Nat×Nd×Value) (λ q=>[(4,.int .i64 (q.2.1:Int)),(1,.slice ka kn kc),(0,.pointer (some ⟨cb,0,none⟩))])
   (λ q w1=>Cu w1 C cb d q.2.2.2 (kf q.1)∧CuTo cb pv q.2.2.2 w w1∧Wlk w1 cb C s (n::ps0)∧Sk s H top key q.1 q.2.2.1∧cB s q.2.1=some q.2.2.1∧q.2.1∈n::ps0∧1≤aR q.2.2.1) (λ q=>H+1-q.1.length) ([],n,top,pv1) ⟨rfl,rfl,rfl,trivial⟩ ⟨h1,hto1,hw1,Sk.start key,tr.node,sM,tr.big⟩ ?_
  clear h1 hto1 hw1 hb1;clear pv1;rintro ⟨fr,k,nd,pv1⟩ w1 ⟨h1,hto1,hw1,q,hk1,hkp,hbig⟩;simp only at h1 hto1 q hk1 hkp hbig
  have hfl:fr.length≤H:=by
   obtain ⟨h0,L,R,c0,_⟩:=id q;obtain ⟨_,_,_,_,_,hh,_⟩:=c0.all tr.vt;omega
  have hok:=fG hk1;have hk32:k<4294967296:=by have:=dW (dN hk1);have:=tr.n32;omega
  have hb1:=h1.blk;have hcl:=h1.lt;have hpo:∀ j,pv1.ownBlock=some j→j<w1.heap.size:=λ j e=>(h1.own e).2;have hk1':=hk.go (hto1.keys hG);repeat refine aF ?_
  refine aB 163 ?_;refine aA rfl (hw1.node hkp hk1 hk32) rfl ?_;rintro _ w2 ⟨x,rfl,hx,hg2⟩;have z2:=hg2.size
  cases hl:bN nd with
  | true =>
   repeat (first|(refine aB 80 ?_;refine aA rfl (fB hx hl _) rfl ?_;rintro _ _ ⟨rfl,hgc⟩)|refine yC ?_|refine yI λ bk w' hg hbk hsz hsz'=>?_|refine yJ λ w' hu hbk hsz=>?_)
   rename_i w4;have hgw:Grow w1 w4:=(aI hu oM (hg2.trans hg)).trans hgc;have hx4:=((hx.go (Carry.grow hg)).go (Carry.upd hu (λ j hj _=>by omega))).go (Carry.grow hgc);have k4:=hbk.grow hgc;have qbk:w1.heap.size≤bk∧bk<w4.heap.size:=by have:=k4.lt;omega
   have h4:=h1.grow hgw;have hw4:=hw1.grow hgw;have hto4:=hto1.trans (CuTo.grow hgw);have hk4:=hk1'.grow hgw;clear hbk hu hg hg2 hgc hx hb1 h1 hw1 hto1 hk1' hgw;refine aB 149 ?_;refine aA rfl (find_c _ _ x nd ka kn kc key _ hx4 hk4 hok hl) rfl ?_;rintro _ w5 ⟨rfl,hg5⟩;have hx5:=hx4.go (Carry.grow hg5);have k5:=k4.grow hg5;have h5:=h4.grow hg5;have hw5:=hw4.grow hg5;have hto5:=hto4.trans (CuTo.grow hg5);clear hx4 k4 h4 hw4 hto4 hk4 hg5;repeat refine aF ?_
   apply T.any 6 [is _,is _,is _,is _,is _,is _];(· kernel_rfl);(· ((repeat' (first|exact aN|refine aK ?_ ?_));(iterate 6 (· (refine yQ λ wq _ _ hgq=>?_;(repeat refine aF ?_);exact aD rfl yG rfl)))));(rintro _ _ _ hgr _ _;(refine yT ?_))
   refine aB 177 ?_;refine aA rfl (cpush_c (h5.grow hgr) x nd ((cN nd.items key:Nat):Int) (hx5.go (Carry.grow hgr)) (by rw [cC];omega)) rfl ?_;rintro _ w6 ⟨pv6,h6,hto6⟩;have hw6:=(hw5.grow hgr).go ((h5.grow hgr).carry hto6);have hto6':=(hto5.trans (CuTo.grow hgr)).trans hto6;obtain ⟨pre,post,q',f1,f2⟩:=q.found tr.vt hl;repeat refine aF ?_
   refine aB 178 ?_;refine aA rfl (csettF_c tr h6 hw6 q' hbig) rfl ?_;rintro _ w8 ⟨pv8,fs8,h8',hto8,hat8⟩;repeat refine aF ?_
   refine cE (vs:=[]) rfl rfl ⟨_,rfl,pv8,fs8,h8',hto6'.trans hto8,?_⟩;rw [show cN al key=pre.length by rw [← (q'.all tr.vt).1,findN_split f1 f2]];exact hat8
  | false =>
   repeat (first|(refine aB 80 ?_;refine aA rfl (fB hx hl _) rfl ?_;rintro _ _ ⟨rfl,hgc⟩)|refine yC ?_|refine yI λ bk w' hg hbk hsz hsz'=>?_|refine yJ λ w' hu hbk hsz=>?_)
   rename_i w4;have hgw:Grow w1 w4:=(aI hu oM (hg2.trans hg)).trans hgc;have hx4:=((hx.go (Carry.grow hg)).go (Carry.upd hu (λ j hj _=>by omega))).go (Carry.grow hgc);have k4:=hbk.grow hgc;have qbk:w1.heap.size≤bk∧bk<w4.heap.size:=by have:=k4.lt;omega
   have h4:=h1.grow hgw;have hw4:=hw1.grow hgw;have hto4:=hto1.trans (CuTo.grow hgw);have hk4:=hk1'.grow hgw;clear hbk hu hg hg2 hgc hx hb1 h1 hw1 hto1 hk1' hgw;obtain ⟨k',nd',hk',hn',hp',q'⟩:=q.down tr.vt hl
   have hbig':1≤aR nd':=by
    obtain ⟨h0,L,R,c0,_⟩:=id q';obtain ⟨_,_,_,_,h4',_⟩:=c0.all tr.vt;rcases h4' with h4'|h4'
    ·cases h4'
    ·omega
   refine aB 150 ?_;refine aA rfl (kid_c _ _ x nd ka kn kc key _ hx4 hk4 hok hl) rfl ?_;rintro _ w5 ⟨rfl,hg5⟩;have hx5:=hx4.go (Carry.grow hg5);have k5:=k4.grow hg5;have h5:=h4.grow hg5;have hw5:=hw4.grow hg5;have hto5:=hto4.trans (CuTo.grow hg5);have z5:=hg5.size;clear hx4 k4 h4 hw4 hto4 hk4 hg5;repeat refine aF ?_
   apply T.any 6 [is _,is _,is _,is _,is _,is _];(· kernel_rfl);(· ((repeat' (first|exact aN|refine aK ?_ ?_));(iterate 6 (· (refine yQ λ wq _ _ hgq=>?_;(repeat refine aF ?_);exact aD rfl yG rfl)))));(rintro _ _ _ hgr _ _;(refine yT ?_))
   refine aB 177 ?_;refine aA rfl (cpush_c (h5.grow hgr) x nd ((fX nd.keys key:Nat):Int) (hx5.go (Carry.grow hgr)) (by rw [cC];omega)) rfl ?_;rintro _ w6 ⟨pv6,h6,hto6⟩;have c6:=(h5.grow hgr).carry hto6;have hw6:=(hw5.grow hgr).go c6;have hto6':=(hto5.trans (CuTo.grow hgr)).trans hto6;have hx6:=(hx5.go (Carry.grow hgr)).go c6
   have k6:=bY (k5.grow hgr) hto6.but (λ e=>by
    rcases e with e|e
    ·omega
    ·have:=hpo _ e;omega)
   have hsk:=hx6.kids;have hn2:=bR hx6.kids;have hkl:=(List.getElem?_eq_some_iff.1 hk').1;have hcx:w6.cell? (at' x.a2 (fX nd.keys key))=some (.int .i64 (k':Int)):=hsk.row.cell (by rw [show bC nd.kids=nd.kids.map λ (k:Nat)=>(.int .i64 (k:Int):Value) from rfl,List.getElem?_map,hk'];rfl);clear hx5 k5 h5 hw5 hto5 hto6 c6 hgr;repeat (first|(refine aH ?_;refine aC (j:=fX nd.keys key) rfl rfl rfl oM (Nat.mul_one _) ⟨_,_,hsk⟩ rfl ?_)|refine yC ?_)
   refine aE ((nd,fX nd.keys key)::fr,k',nd',pv6) ⟨rfl,rfl,rfl,trivial⟩ ⟨by rw [kf_cons];exact h6,hto6',hw6,q',hn',List.mem_cons_of_mem _ hp',hbig'⟩ (by simp only [List.length_cons];omega)
end
structure CE where
 s:Pg
 H:Nat
 top:Nd
 al:bT
 ps:List Nat
 fr:Bs
 to:Bs
structure Ok (w:World) (C:CC) (cb:Nat) (E:CE):Prop where
 tr:TreeOf E.s E.H E.top E.al E.ps C.root
 wlk:Wlk w cb C E.s E.ps
 f:Sl (λ k=>C.lo≤k∧k<cb) w 1 C.fa C.fn C.fc (bB E.fr)
 t:Sl (λ k=>C.lo≤k∧k<cb) w 1 C.ta C.tn C.tc (bB E.to)
 srt:Srt E.al
 n:E.al.length≤1000
 fl:E.fr.length≤100
 tl:E.to.length≤100
 by':∀ x∈E.al,eZ x.1∧eZ x.2
 ko:∀ x∈E.al,x.1.length≤16∧x.2.length≤32
 most:0≤C.most∧C.most≤9223372036854775807
theorem Ok.go {w w':World} {C:CC} {cb:Nat} {E:CE} (h:Ok w C cb E) (c:Carry (λ k=>C.lo≤k∧k<cb) w (λ k=>C.lo≤k∧k<cb) w'):Ok w' C cb E:=⟨h.tr,h.wlk.go c,h.f.go c,h.t.go c,h.srt,h.n,h.fl,h.tl,h.by',h.ko,h.most⟩
theorem Ok.grow {w w':World} {C:CC} {cb:Nat} {E:CE} (h:Ok w C cb E) (g:Grow w w'):Ok w' C cb E:=h.go (Carry.grow g)
def AtE (E:CE) (fs:List (Nd×Int)) (ix:Option Nat):Prop:=At E.s E.H E.top fs ix
theorem tw_len {to:Bs} (h:to≠[]) (al:bT):(al.takeWhile (kB to)).length=cN al to:=by
 unfold cN;congr 1
 congr 1
 funext x
 have:to.isEmpty=false:=by cases to with|nil=>exact absurd rfl h|cons a b=>rfl
 simp [kB,this]
theorem tw_nil (al:bT):al.takeWhile (kB [])=al:=by
 induction al with
 | nil=>rfl
 | cons x r ih=>rw [List.takeWhile_cons,ih];rfl
section
variable {w:World} {C:CC} {cb:Nat} {d:Int} {pv:Value} {fs:List (Nd×Int)} {E:CE}
theorem Ok.ne (o:Ok w C cb E) {j:Nat} (h:j<E.al.length):C.root≠-1:=by
 rcases o.tr with ⟨hr,ha⟩|⟨n,ps0,hr,_⟩
 ·rw [ha] at h;simp at h
 ·intro e;omega
theorem cbelow_c (o:Ok w C cb E) (h:Cu w C cb d pv fs) :
  Calls Tryz.prog 132 #[.pointer (some ⟨cb,0,none⟩)] w (Ret λ v w'=>∃ pv' fs',Cu w' C cb d pv' fs'∧CuTo cb pv pv' w w'∧AtE E fs' (ixB (E.al.takeWhile (kB E.to)).length)):=by
 have hb:=h.blk;have htn:C.tn=E.to.length:=by have:=o.t.len;rw [bB,List.length_map] at this;omega
 have htl:=o.tl;have hG:∀ k,C.lo≤k∧k<cb→k≠cb∧pv.ownBlock≠some k:=λ k hk=>⟨oM,λ e=>by have:=(h.own e).1;omega⟩
 refine V.calls (args:=[_]) Tryz.func132 rfl Tryz.ntmps132 rfl rfl ?_;by_cases h0:C.tn=0
 ·have hto:E.to=[]:=List.eq_nil_of_length_eq_zero oM;repeat refine aF ?_
  refine aB 175 ?_;refine aA rfl (clast_c o.tr h o.wlk) rfl ?_;rintro _ w1 ⟨pv1,fs1,h1,hto1,hat⟩;repeat refine aF ?_
  exact eB (vs:=[]) rfl rfl ⟨_,rfl,pv1,fs1,h1,hto1,by rw [hto,tw_nil];exact hat⟩
 ·have hto:E.to≠[]:=λ e=>by rw [e] at htn;exact h0 htn
  rw [tw_len hto];repeat refine aF ?_
  refine aB 133 ?_;refine aA rfl (cfind_c o.tr h o.wlk _ hG _ _ _ E.to o.t) rfl ?_;rintro _ w1 ⟨pv1,fs1,h1,hto1,hat⟩;have o1:=o.go (h.carry hto1);obtain ⟨a,cp,rfl⟩:=h1.slice;have hb1:=h1.blk;unfold jY at hat;split at hat
  ·rename_i hlt;have hne:some (cN E.al E.to)≠none→C.root≠-1:=λ _=>o1.ne hlt;obtain ⟨fr,nd,c,pre,post,x,rfl,_⟩:=id hat;have hln:(kf fr++[(nd,(c:Int))]).length=fr.length+1:=by simp [cC]
   rw [hln] at hb1;repeat refine aF ?_
   refine aB 137 ?_;refine aA rfl (cmoveB_c o1.tr h1 o1.wlk hat hne) rfl ?_;rintro _ w2 ⟨pv2,fs2,h2,hto2,hat2⟩;repeat refine aF ?_
   exact cE (vs:=[]) rfl rfl ⟨_,rfl,pv2,fs2,h2,hto1.trans hto2,hat2⟩
  ·rename_i hge;have hle:cN E.al E.to≤E.al.length:=findN_le _ _;obtain rfl:fs1=[]:=hat;have hb0:Blk w1 cb 206 [.pointer (some ⟨cb,0,none⟩),.pointer (some ⟨C.wb,0,none⟩),.int .i64 C.root,.slice C.fa C.fn C.fc,.slice C.ta C.tn C.tc,.bool C.back,.int .i64 C.most,.int .i64 d,.slice a 0 cp]:=hb1;clear hb1 hb;repeat refine aF ?_
   refine aB 175 ?_;refine aA rfl (clast_c o1.tr h1 o1.wlk) rfl ?_;rintro _ w2 ⟨pv2,fs2,h2,hto2,hat2⟩;repeat refine aF ?_
   exact eB (vs:=[]) rfl rfl ⟨_,rfl,pv2,fs2,h2,hto1.trans hto2,by rw [show cN E.al E.to=E.al.length by omega];exact hat2⟩
end
theorem bequal_c (F G:Nat→Prop) (a:Option Addr) (n c:Nat) (b:Option Addr) (m d:Nat) (x y:Bs) (w:World) (hx:Sl F w 1 a n c (bB x)) (hy:Sl G w 1 b m d (bB y)) (hxb:eZ x) (hyb:eZ y) :
  Calls Tryz.prog 181 #[.slice a n c,.slice b m d] w (Ret λ v w'=>v=.bool (decide (x=y))∧Grow w w'):=by
 refine V.calls (args:=[_,_]) Tryz.func181 rfl Tryz.ntmps181 rfl rfl ?_;repeat (first|(refine dL ?_;first|refine gG rfl hx rfl ?_|refine gG rfl hy rfl ?_)|(refine iQ ?_;refine TL.eqS (s:=kH x) (t:=kH y) (b:=decide (x=y)) rfl rfl (txt_eq hxb hyb) rfl ?_)|refine yC ?_)
 exact bA rfl ⟨_,rfl,rfl,Grow.refl _⟩
section
variable {w:World} {C:CC} {cb:Nat} {d:Int} {pv:Value} {fs:List (Nd×Int)} {E:CE}
def ixU (E:CE) (key:Bs):Option Nat:=if E.to≠[]∧¬ eO key E.to then ixB (E.al.takeWhile (kB E.to)).length else ixB (E.al.takeWhile (jH key)).length
theorem At.item {s:Pg} {H:Nat} {top:Nd} {al:bT} {ps0:List Nat} {n:Nat} (tr:Tr s H top al ps0 n) {fs:List (Nd×Int)} {j:Nat} (h:At s H top fs (some j)):∃ l nd c it,fs=l++[(nd,((c:Nat):Int))]∧nd.items[c]? = some it∧al[j]? = some it∧l.length≤100∧nd.items.length≤100:=by
 obtain ⟨fr,nd,c,pre,post,x,rfl,q,hl,hx,rfl⟩:=h;obtain ⟨hall,_,hfl,_⟩:=q.all tr.vt;obtain ⟨post',rfl,_⟩:=q.leaf tr.vt hl hx;obtain ⟨hok,hsz,_⟩:=q.node tr.vt tr.ok tr.node;have h8:=jD hok;have:=tr.le;exact ⟨kf fr,nd,c,x,rfl,hx,by rw [← hall,List.getElem?_append_right (Nat.le_refl _),Nat.sub_self];rfl,by rw [cC];omega,by have:=hsz hl;omega⟩
theorem there_at {al:bT} {key:Bs} {it:Bs×Bs} (h:al[cN al key]? = some it):eR al key=decide (it.1=key):=by
 unfold eR;rw [h];have:(bW it.1 key=0)=(it.1=key):=propext ⟨cmpB_eq,λ e=>by rw [e];exact nT key⟩;simp only [this]
theorem there_no {al:bT} {key:Bs} (h:al[cN al key]? = none):eR al key=false:=by
 unfold eR;rw [h]
theorem cupto_c (o:Ok w C cb E) (h:Cu w C cb d pv fs) (G:Nat→Prop) (hG:∀ k,G k→k≠cb∧pv.ownBlock≠some k) (ka:Option Addr) (kn kc:Nat) (key:Bs) (hk:Sl G w 1 ka kn kc (bB key)) (hkb:eZ key) :
  Calls Tryz.prog 138 #[.pointer (some ⟨cb,0,none⟩),.slice ka kn kc] w (Ret λ v w'=>∃ pv' fs',Cu w' C cb d pv' fs'∧CuTo cb pv pv' w w'∧AtE E fs' (ixU E key)):=by
 have hb:=h.blk;have htn:C.tn=E.to.length:=by have:=o.t.len;rw [bB,List.length_map] at this;omega
 have htl:=o.tl;refine V.calls (args:=[_,_]) Tryz.func138 rfl Tryz.ntmps138 rfl rfl ?_;by_cases hU:E.to≠[]∧¬ eO key E.to
 ·have h0:0<C.tn:=by
   have:0<E.to.length:=List.length_pos_iff.2 hU.1;omega
  have hcmp:0≤bW key E.to:=by have:=hU.2;unfold eO at this;omega
  rw [show ixU E key=ixB (E.al.takeWhile (kB E.to)).length by unfold ixU;rw [if_pos hU]];repeat (first|(refine aB 139 ?_;refine aA rfl (dU _ _ _ _ _ _ _ _ key E.to _ hk o.t) rfl ?_;rintro _ _ ⟨rfl,hgc⟩)|refine yC ?_)
  refine aB 132 ?_;refine aA rfl (cbelow_c (o.grow hgc) (h.grow hgc)) rfl ?_;rintro _ w1 ⟨pv1,fs1,h1,hto1,hat⟩;repeat refine aF ?_
  exact eB (vs:=[]) rfl rfl ⟨_,rfl,pv1,fs1,h1,(CuTo.grow hgc).trans hto1,hat⟩
 ·rw [show ixU E key=ixB (E.al.takeWhile (jH key)).length by unfold ixU;rw [if_neg hU],le_count o.srt];refine dV 1 (λ e w1=>Grow w w1∧Sub [(1,.slice ka kn kc),(0,.pointer (some ⟨cb,0,none⟩))] e) ?_ ?_;rotate_left
  ·by_cases h0:C.tn=0
   ·repeat refine aF ?_
    exact ⟨Grow.refl _,rfl,rfl,trivial⟩
   ·have hcmp:bW key E.to<0:=by
     have hne:E.to≠[]:=λ e=>by rw [e] at htn;exact h0 htn
     by_cases hc:eO key E.to
     ·exact hc
     ·exact absurd ⟨hne,hc⟩ hU
    repeat (first|(refine aB 139 ?_;refine aA rfl (dU _ _ _ _ _ _ _ _ key E.to _ hk o.t) rfl ?_;rintro _ _ ⟨rfl,hgc⟩)|refine yC ?_)
    exact ⟨hgc,rfl,rfl,trivial⟩
  rintro e w1 ⟨hg1,hsub⟩;refine bD (e':=[(1,_),(0,_)]) ?_ hsub;clear hsub;have h1:=h.grow hg1;have o1:=o.grow hg1;have hk1:=hk.grow hg1;clear hb;repeat refine aF ?_
  refine aB 133 ?_;refine aA rfl (cfind_c o1.tr h1 o1.wlk G hG ka kn kc key hk1) rfl ?_;rintro _ w2 ⟨pv2,fs2,h2,hto2,hat⟩;have o2:=o1.go (h1.carry hto2);have hk2:=hk1.go (hto2.keys hG);have hto2':=(CuTo.grow hg1:CuTo cb pv pv w w1).trans hto2;have hb2:=h2.blk;unfold jY at hat;split at hat
  ·rename_i hlt
   obtain ⟨n,ps0,hr,hps,tr⟩:∃ n ps0,C.root=((n:Nat):Int)∧E.ps=n::ps0∧Tr E.s E.H E.top E.al ps0 n:=by
    rcases o.tr with ⟨_,ha⟩|ht
    ·rw [ha] at hlt;simp at hlt
    ·exact ht
   obtain ⟨l,nd,c,it,rfl,hit,hal,hl1,hl2⟩:=hat.item tr;obtain ⟨hib,_⟩:=o.by' it (List.mem_of_getElem? hal);rw [there_at hal];repeat refine aF ?_
   refine aB 179 ?_;refine aA rfl (citem_c h2 hit hl1 hl2) rfl ?_;rintro _ w3 ⟨kv,vv,rfl,⟨ia,in_,ic,rfl,hkv⟩,⟨va,vn,vc,rfl,hvv⟩,hg3⟩;have h3:=h2.grow hg3;have o3:=o2.grow hg3;have hk3:=hk2.grow hg3;clear hb2;by_cases heq:it.1=key
   ·rw [heq,show decide (key=key)=true by simp,if_pos rfl];repeat (first|(refine aB 181 ?_;refine aA rfl (bequal_c _ _ _ _ _ _ _ _ it.1 key _ (hkv.grow yG) (hk3.grow yG) hib hkb) rfl ?_;rintro _ _ ⟨rfl,hgc⟩)|refine yC ?_|refine yI λ bk w' hg hbk hsz hsz'=>?_|refine yJ λ w' hu hbk hsz=>?_)
    have z3:=hg3.size;have hgw:Grow w3 _:=(aI hu oM hg).trans hgc;exact cE (vs:=[]) rfl rfl ⟨_,rfl,pv2,_,h3.grow hgw,(hto2'.trans (CuTo.grow hg3)).trans (CuTo.grow hgw),hat⟩
   ·rw [show decide (it.1=key)=false by simp [heq]];repeat (first|(refine aB 181 ?_;refine aA rfl (bequal_c _ _ _ _ _ _ _ _ it.1 key _ (hkv.grow yG) (hk3.grow yG) hib hkb) rfl ?_;rintro _ _ ⟨rfl,hgc⟩)|refine yC ?_|refine yI λ bk w' hg hbk hsz hsz'=>?_|refine yJ λ w' hu hbk hsz=>?_)
    have hgw:Grow w3 _:=(aI hu oM hg).trans hgc;refine aB 137 ?_;refine aA rfl (cmoveB_c (o3.grow hgw).tr (h3.grow hgw) (o3.grow hgw).wlk hat (λ _=>o.ne hlt)) rfl ?_;rintro _ w5 ⟨pv5,fs5,h5,hto5,hat5⟩;repeat refine aF ?_
    exact cE (vs:=[]) rfl rfl ⟨_,rfl,pv5,fs5,h5,((hto2'.trans (CuTo.grow hg3)).trans (CuTo.grow hgw)).trans hto5,hat5⟩
  ·rename_i hge;have hle:cN E.al key≤E.al.length:=findN_le _ _;rw [there_no (List.getElem?_eq_none_iff.2 oM)];obtain rfl:fs2=[]:=hat;repeat refine aF ?_
   refine aB 179 ?_;refine aA rfl (citem0_c h2) rfl ?_;rintro _ w3 ⟨rfl,hg3⟩;clear hb2;repeat (first|refine aF ?_|refine yI λ bk w' hg hbk hsz hsz'=>?_|refine yJ λ w' hu hbk hsz=>?_)
   have hgw:Grow w2 w':=aI hu (by have:=hg3.size;omega) (hg3.trans hg);refine aB 175 ?_;refine aA rfl (clast_c (o2.grow hgw).tr (h2.grow hgw) (o2.grow hgw).wlk) rfl ?_;rintro _ w5 ⟨pv5,fs5,h5,hto5,hat5⟩;repeat refine aF ?_
   exact cE (vs:=[]) rfl rfl ⟨_,rfl,pv5,fs5,h5,(hto2'.trans (CuTo.grow hgw)).trans hto5,by rw [if_neg sM,show cN E.al key=E.al.length by omega];exact hat5⟩
end
end Go.Proofs.YtfpadnmdafiddaaGreatDoor
