import Derived.Test.YtfpadnmdafiddaaGreatDoorG0
import Derived.Test.YtfpadnmdafiddaaGreatDoorGg
set_option linter.all false
set_option maxHeartbeats 16000000
set_option maxRecDepth 100000
namespace Go.Proofs.YtfpadnmdafiddaaGreatDoor
open Go Go.RowKit Go.V
theorem iT {cs:List Value} {o:Nat} {a b c e:Value} (h:(cs.drop o).take 4=[a,b,c,e]):∀ j u,[a,b,c,e][j]? = some u→cs[o+j]? = some u:=by
 intro j u hj;rw [← h,List.getElem?_take,List.getElem?_drop] at hj;split at hj
 ·exact hj
 ·cases hj
theorem tri_at {cs:List Value} {o:Nat} {a b c:Value} (h:(cs.drop o).take 3=[a,b,c]):∀ j u,[a,b,c][j]? = some u→cs[o+j]? = some u:=by
 intro j u hj;rw [← h,List.getElem?_take,List.getElem?_drop] at hj;split at hj
 ·exact hj
 ·cases hj
theorem Cu.bump {w:World} {C:CC} {cb:Nat} {d:Int} {pv:Value} {l:List (Nd×Int)} {p:Nd} {z:Int} (h:Cu w C cb d pv (l++[(p,z)])):∃ g cap cur,pv=.slice (some ⟨g,0,none⟩) (l++[(p,z)]).length cap∧cb<g∧Blk w g 254 cur∧l.length*4+4≤cur.length∧cur[0+l.length*4+3]? = some (.int .i64 z) ∧
  ∀ w' z',Upd g w w'→Blk w' g 254 (cur.set (0+l.length*4+3) (.int .i64 z'))→Cu w' C cb d pv (l++[(p,z')])∧CuTo cb pv pv w w':=by
 obtain ⟨cs,hrow,hkc⟩:=h.row;obtain ⟨g,cap,cur,rfl,hg,hb,hn,hm,hl,ht⟩:=own_blk hrow sM;obtain ⟨c0,x,rfl,hk0,hx⟩:=hkc.last;have hc0:=hk0.len;have hln:(l++[(p,z)]).length=l.length+1:=by simp
 have hll:l.length*4+4≤cur.length:=by rw [hl];rw [hln] at hn;omega
 have hget:cur[l.length*4+3]? = some (.int .i64 z):=by
  have:(cur.take ((l++[(p,z)]).length*4))[l.length*4+3]? = some (.int .i64 z):=by
   rw [ht,← hc0,List.getElem?_append_right oM,show c0.length+3-c0.length=3 by omega];rfl
  rw [List.getElem?_take] at this;split at this
  ·exact this
  ·cases this
 refine ⟨g,cap,cur,rfl,oM,hb,hll,by rw [Nat.zero_add];exact hget,λ w' z' hu hb'=>⟨⟨h.blk.upd hu oM,?_⟩,⟨⟨hu.os,hu.tape,hu.output,by rw [hu.size];exact Nat.le_refl _,λ k hk hn=>hu.block k (λ e=>hn (.inr (by subst e;rfl)))⟩,λ k hk=>.inl hk⟩⟩⟩;rw [Nat.zero_add] at hb';refine ⟨c0++[x.v1,x.v2,x.v3,.int .i64 z'],?_,KCells.snoc (f:=(p,z')) (hx.go (Carry.upd hu (λ k hk _=>by omega))) (hk0.go (Carry.upd hu (λ k hk _=>by omega)))⟩;have e1:(l++[(p,z')]).length=(l++[(p,z)]).length:=by simp
 rw [e1];refine own_mk hg hb' hn hm (by rw [List.length_set];exact hl) ?_;rw [take_setAt ht,← hc0];rw [List.set_append_right _ _ oM,show c0.length+3-c0.length=3 by omega];rfl
theorem jD {nd:Nd} (hok:bF nd=true):aR nd≤8:=by
 unfold bF at hok;split at hok
 ·rename_i hl;have:=(dG hok).2.1;have hk:=bM.1 hl;simp only [aR,hk,List.length_nil];omega
 ·obtain ⟨h1,_,h8,_⟩:=cO hok;simp only [aR,h1,List.length_nil];omega
theorem toIx_lt {n j:Nat} (h:j<n):jY n j=some j:=by unfold jY;rw [if_pos h]
theorem toIx_ge {n:Nat}:jY n n=none:=by unfold jY;rw [if_neg oM]
section
variable {w:World} {C:CC} {cb:Nat} {d:Int} {pv:Value} {s:Pg} {H:Nat} {top:Nd} {al:bT} {ps0:List Nat} {n:Nat}
def stF:Option (List (Nd×Nat)×Nd×Nat)→List (Nd×Int)
 | none=>[]
 | some (fr,nd,c)=>kf fr++[(nd,(c:Int))]
def okF (s:Pg) (H:Nat) (top:Nd) (al pre post:bT):Option (List (Nd×Nat)×Nd×Nat)→Prop
 | none=>pre=al∧post=[]
 | some (fr,nd,c)=>Pos s H top fr nd c pre post∧1≤aR nd
def msF:Option (List (Nd×Nat)×Nd×Nat)→Nat
 | none=>0
 | some (fr,_,_)=>fr.length+1
theorem At.lt (tr:Tr s H top al ps0 n) {fs:List (Nd×Int)} {j:Nat} (h:At s H top fs (some j)):j<al.length:=by
 obtain ⟨fr,nd,c,pre,post,x,_,q,hl,hx,rfl⟩:=h;obtain ⟨post',rfl,_⟩:=q.leaf tr.vt hl hx;have:=(q.all tr.vt).1;rw [← this,List.length_append,List.length_cons];omega
theorem csettF_c (tr:Tr s H top al ps0 n) {fr:List (Nd×Nat)} {nd:Nd} {c:Nat} (h:Cu w C cb d pv (kf fr++[(nd,(c:Int))])) (hw:Wlk w cb C s (n::ps0)) {pre post:bT} (q:Pos s H top fr nd c pre post) (h1:1≤aR nd) :
  Calls Tryz.prog 178 #[.pointer (some ⟨cb,0,none⟩),.int .i64 1] w (Ret λ v w'=>∃ pv' fs',Cu w' C cb d pv' fs'∧CuTo cb pv pv' w w'∧At s H top fs' (jY al.length pre.length)):=by
 have hle:=tr.le;refine V.calls (args:=[_,_]) Tryz.func178 rfl Tryz.ntmps178 rfl rfl ?_;repeat refine aF ?_
 refine aX (S:=Option (List (Nd×Nat)×Nd×Nat)×Value) (λ q=>[(1,.int .i64 1),(0,.pointer (some ⟨cb,0,none⟩))])
  (λ q w1=>Cu w1 C cb d q.2 (stF q.1)∧CuTo cb pv q.2 w w1∧Wlk w1 cb C s (n::ps0)∧okF s H top al pre post q.1) (λ q=>msF q.1) (some (fr,nd,c),pv) ⟨rfl,rfl,trivial⟩ ⟨h,CuTo.grow (Grow.refl _),hw,q,h1⟩ ?_
 clear h hw q h1;rintro ⟨st,pv1⟩ w1 ⟨h,hto,hw,hok⟩;simp only at h hto hok;obtain ⟨a,cp,rfl⟩:=h.slice;have hb:=h.blk;have hcl:=h.lt
 cases st with
 | none =>
  obtain ⟨rfl,rfl⟩:=hok;have hb0:Blk w1 cb 206 [.pointer (some ⟨cb,0,none⟩),.pointer (some ⟨C.wb,0,none⟩),.int .i64 C.root,.slice C.fa C.fn C.fc,.slice C.ta C.tn C.tc,.bool C.back,.int .i64 C.most,.int .i64 d,.slice a 0 cp]:=hb;repeat refine aF ?_
  exact cE (vs:=[]) rfl rfl ⟨_,rfl,_,[],h,hto,by rw [toIx_ge];rfl⟩
 | some st =>
  obtain ⟨fr,nd,c⟩:=st;obtain ⟨q,h1⟩:=hok;obtain ⟨hall,hcs,hfl,_⟩:=q.all tr.vt;obtain ⟨hnok,hszl,hszb,hkid⟩:=q.node tr.vt tr.ok tr.node;have h8:=jD hnok;have hln:(stF (some (fr,nd,c))).length=fr.length+1:=by simp [stF,cC]
  have htop:=ctop_c h oM oM;rw [hln,Nat.add_sub_cancel] at htop;rw [hln] at hb;obtain ⟨cs,hrow,hkc⟩:=h.row;obtain ⟨a',cp',e1,hsl⟩:=aM hrow;cases e1;rw [hln] at hsl;obtain ⟨c0,x,rfl,hk0,hx'⟩:=KCells.last (l:=kf fr) (f:=(nd,(c:Int))) hkc;have hx:NdAt (λ k=>C.lo≤k∧k<cb) w1 x nd:=hx';have hc0:c0.length=fr.length*4:=by have:=hk0.len;rw [cC] at this;exact this
  have hq4:((c0++[x.v1,x.v2,x.v3,Value.int .i64 (c:Int)]).drop (fr.length*4)).take 4=[x.v1,x.v2,x.v3,Value.int .i64 (c:Int)]:=by rw [← hc0,List.drop_left];rfl
  have hq3:((c0++[x.v1,x.v2,x.v3,Value.int .i64 (c:Int)]).drop (fr.length*4)).take 3=[x.v1,x.v2,x.v3]:=by rw [← hc0,List.drop_left];rfl
  have q0:(c0++[x.v1,x.v2,x.v3,Value.int .i64 (c:Int)])[fr.length*4]? = some x.v1:=iT hq4 0 _ rfl;have q1:(c0++[x.v1,x.v2,x.v3,Value.int .i64 (c:Int)])[fr.length*4+1]? = some x.v2:=iT hq4 1 _ rfl;have q3:(c0++[x.v1,x.v2,x.v3,Value.int .i64 (c:Int)])[fr.length*4+3]? = some (.int .i64 (c:Int)):=iT hq4 3 _ rfl;have m1:=hx.its.len;have m2:=bR hx.kids;have hszx:x.n2+x.n1=aR nd:=by rw [m1,m2];unfold aR;omega
  have h82:x.n1≤1000∧x.n2≤1000:=by omega
  clear hx' hk0;repeat refine aF ?_
  refine aB 180 ?_;refine aA rfl htop rfl ?_;rintro _ w2 ⟨rfl,hg2⟩;have h2:=h.grow hg2;have hw2:=hw.grow hg2;have hto2:=hto.trans (CuTo.grow hg2);have hb2:=hb.grow hg2;have hsl2:=hsl.grow hg2;have hx2:=hx.go (Carry.grow hg2);clear h hw hto hb hsl hx htop hrow hkc;repeat refine aF ?_
  refine bD (e':=[(4,.pointer (some (at' a (fr.length*4)))),(1,.int .i64 1),(0,.pointer (some ⟨cb,0,none⟩))]) ?_ ⟨rfl,rfl,rfl,trivial⟩;by_cases hlt:c<aR nd
  ·apply T.any 16 [is _,is _,is _,is _,is _,is _,is _,is _,is _,is _,is _,is _,is _,is _,is _,is _];(· kernel_rfl);(· ((repeat' (first|exact aN|refine aK ?_ ?_));(iterate 16 (· (refine yQ λ wq _ _ hgq=>?_;(repeat (first|refine aF ?_|(refine bK ?_;refine bJ (o:=fr.length*4) rfl (hsl2.grow hgq) q0 rfl ?_)|(refine aO ?_;first|refine aQ rfl ((hsl2.grow hgq).row.cell q3) rfl ?_|refine dR rfl (hsl2.grow hgq) (iT hq4) rfl rfl ?_)|(refine aB 227 ?_;refine aA rfl (csize_c x _ _ h82.1 h82.2) rfl ?_;rintro _ _ ⟨rfl,hgc⟩)));exact aD rfl yG rfl)))));(rintro _ _ _ hgr _ _;(refine yT ?_))
   rename_i w3;have h3:=h2.grow hgr;have hw3:=hw2.grow hgr;have hto3:=hto2.trans (CuTo.grow hgr);have hb3:=hb2.grow hgr;have hsl3:=hsl2.grow hgr;have hx3:=hx2.go (Carry.grow hgr);clear h2 hw2 hto2 hb2 hsl2 hx2 hgr
   cases hl:bN nd with
   | true =>
    obtain ⟨it,hit⟩:∃ it,nd.items[c]? = some it:=⟨_,List.getElem?_eq_getElem (by have:=hszl hl;omega)⟩
    repeat (first|(refine bK ?_;refine bJ (o:=fr.length*4) rfl hsl3 q0 rfl ?_)|(refine aO ?_;refine dR rfl hsl3 (tri_at hq3) rfl rfl ?_)|(refine aB 80 ?_;refine aA rfl (fB hx3 hl _) rfl ?_;rintro _ _ ⟨rfl,hgc⟩)|refine yC ?_)
    exact eB (vs:=[]) rfl rfl ⟨_,rfl,_,_,h3.grow hgc,hto3.trans (CuTo.grow hgc),by
     have hat:At s H top (kf fr++[(nd,(c:Int))]) (some pre.length):=⟨fr,nd,c,pre,post,it,rfl,q,hl,hit,rfl⟩
     rw [toIx_lt (hat.lt tr)]
     exact hat⟩
   | false =>
    obtain ⟨k',hk'⟩:∃ k,nd.kids[c]? = some k:=⟨_,List.getElem?_eq_getElem (by have:=hszb hl;omega)⟩
    obtain ⟨nd',hn',h4',hp',_⟩:=hkid c k' hk';repeat (first|(refine bK ?_;refine bJ (o:=fr.length*4) rfl hsl3 q0 rfl ?_)|(refine aO ?_;refine dR rfl hsl3 (tri_at hq3) rfl rfl ?_)|(refine aB 80 ?_;refine aA rfl (fB hx3 hl _) rfl ?_;rintro _ _ ⟨rfl,hgc⟩)|refine yC ?_)
    rename_i w4;have h4:=h3.grow hgc;have hw4:=hw3.grow hgc;have hto4:=hto3.trans (CuTo.grow hgc);have hb4:=hb3.grow hgc;have hsl4:=hsl3.grow hgc;have hx4:=hx3.go (Carry.grow hgc);clear h3 hw3 hto3 hb3 hsl3 hx3 hgc;have hkc':(bC nd.kids)[c]? = some (.int .i64 (k':Int)):=by rw [show bC nd.kids=nd.kids.map λ (k:Nat)=>(.int .i64 (k:Int):Value) from rfl,List.getElem?_map,hk'];rfl
    apply T.any 13 [is _,is _,is _,is _,is _,is _,is _,is _,is _,is _,is _,is _,is _];(· kernel_rfl);(· ((repeat' (first|exact aN|refine aK ?_ ?_));(iterate 13 (· (refine yQ λ wq _ _ hgq=>?_;(repeat (first|refine aF ?_|(refine bK ?_;refine bJ (o:=fr.length*4) rfl (hsl4.grow hgq) q0 rfl ?_)|(refine aO ?_;first|refine aQ rfl ((hsl4.grow hgq).row.cell q3) rfl ?_|refine aQ rfl ((hsl4.grow hgq).row.cell q1) rfl ?_|refine aQ rfl ((hx4.kids.grow hgq).row.cell hkc') rfl ?_)|(refine aH ?_;refine aC (j:=c) rfl rfl rfl (by have:=hszb hl;omega) (Nat.mul_one _) ⟨_,_,hx4.kids.grow hgq⟩ rfl ?_)));exact aD rfl yG rfl)))));(rintro _ _ _ hgr _ _;(refine yT ?_))
    have h5:=(show ∀ {wz:World},Cu wz C cb d (.slice a (stF (some (fr,nd,c))).length cp) (stF (some (fr,nd,c)))→Cu wz C cb d (.slice a (stF (some (fr,nd,c))).length cp) (kf ((nd,c)::fr)) from λ hh=>by rw [kf_cons];exact hh) (h4.grow hgr)
    refine aB 226 ?_;refine aA rfl (cdescF_c tr h5 (hw4.grow hgr) (q.downR tr.vt hk' hn') hn' (List.mem_cons_of_mem _ hp') (Nat.le_trans dM h4')) rfl ?_;rintro _ w5 ⟨pv6,fs6,h6,hto6,hat⟩;repeat refine aF ?_
    exact eB (vs:=[]) rfl rfl ⟨_,rfl,_,_,h6,(hto4.trans (CuTo.grow hgr)).trans hto6,by rw [toIx_lt (hat.lt tr)];exact hat⟩
  ·have hce:c=aR nd:=by omega
   subst hce;apply T.any 16 [is _,is _,is _,is _,is _,is _,is _,is _,is _,is _,is _,is _,is _,is _,is _,is _];(· kernel_rfl);(· ((repeat' (first|exact aN|refine aK ?_ ?_));(iterate 16 (· (refine yQ λ wq _ _ hgq=>?_;(repeat (first|refine aF ?_|(refine bK ?_;refine bJ (o:=fr.length*4) rfl (hsl2.grow hgq) q0 rfl ?_)|(refine aO ?_;first|refine aQ rfl ((hsl2.grow hgq).row.cell q3) rfl ?_|refine dR rfl (hsl2.grow hgq) (iT hq4) rfl rfl ?_)|(refine aB 227 ?_;refine aA rfl (csize_c x _ _ h82.1 h82.2) rfl ?_;rintro _ _ ⟨rfl,hgc⟩)));exact aD rfl yG rfl)))));(rintro _ _ _ hgr _ _;(refine yT ?_))
   have h3:=h2.grow hgr;have hw3:=hw2.grow hgr;have hto3:=hto2.trans (CuTo.grow hgr);have hb3:=hb2.grow hgr;clear h2 hw2 hto2 hb2 hsl2 hx2 hgr;repeat refine aF ?_
   apply T.any 9 [is _,is _,is _,is _,is _,is _,is _,is _,is _];(· kernel_rfl);(· ((repeat' (first|exact aN|refine aK ?_ ?_));(iterate 9 (· (refine yQ λ wq _ _ hgq=>?_;(repeat refine aF ?_);exact aD rfl yG rfl)))));(rintro _ _ _ hgr _ _;(refine yT ?_))
   refine aB 176 ?_;refine aA rfl (ccut_c (h3.grow hgr) (fr.length+1-1) (by rw [hln];omega)) rfl ?_;rintro _ w5 ⟨pv5,h5,hto5⟩;have hw5:=(hw3.grow hgr).go ((h3.grow hgr).carry hto5);have hto5':=(hto3.trans (CuTo.grow hgr)).trans hto5;rw [show (stF (some (fr,nd,aR nd))).take (fr.length+1-1)=kf fr by rw [Nat.add_sub_cancel];show (kf fr++_).take _=_;rw [← cC fr,List.take_left]] at h5;clear h3 hw3 hto3 hb3 hgr hto5
   cases fr with
   | nil =>
    obtain ⟨a5,cp5,rfl⟩:=h5.slice;have hb5:=h5.blk;rw [cC] at hb5;obtain ⟨e1,e2⟩:=q.endR tr.vt;repeat refine aF ?_
    refine aE (none,_) ⟨rfl,rfl,trivial⟩ ⟨h5,hto5',hw5,e1,e2⟩ (by simp only [msF];omega)
   | cons pi fr' =>
    obtain ⟨p,i⟩:=pi;have q':=q.popR tr.vt
    have h1p:1≤aR p:=by
     have:=(q'.all tr.vt).2.1;omega
    rw [kf_cons] at h5;obtain ⟨a5,cp5,rfl⟩:=h5.slice;have hb5:=h5.blk;have htop:=ctop_c h5 sM (by simp only [List.length_append,cC,List.length_cons,List.length_nil];simp only [List.length_cons] at hfl;omega);have hln':(kf fr'++[(p,(i:Int))]).length=fr'.length+1:=by simp [cC]
    rw [hln',Nat.add_sub_cancel] at htop;rw [hln'] at hb5;repeat refine aF ?_
    refine aB 180 ?_;refine aA rfl htop rfl ?_;rintro _ w6 ⟨rfl,hg6⟩;have h6:=h5.grow hg6;obtain ⟨g,cap,cur,epv,hg,hbg6,hcl',hget,hset⟩:=h6.bump;cases epv;rw [cC] at hcl' hget hset;have hget6:w6.cell? (at' (some ⟨g,0,none⟩) (fr'.length*4+3))=some (.int .i64 (i:Int)):=hbg6.cell hget;have hi8:i+1≤aR p:=(q'.all tr.vt).2.1;have hp8:=jD (q'.node tr.vt tr.ok tr.node).1;repeat (first|refine aQ rfl hget6 rfl ?_|refine yC ?_)
    refine dQ (o:=0+fr'.length*4+3) rfl rfl hbg6 rfl (Nat.ble_eq_true_of_le oM) rfl ?_;intro w7 hu7 hb7 hs7;obtain ⟨h7,hto7⟩:=hset w7 _ hu7 hb7;repeat refine aF ?_
    refine aE (some (fr',p,i+1),_) ⟨rfl,rfl,trivial⟩ ⟨h7,(hto5'.trans (CuTo.grow hg6)).trans hto7,(hw5.grow hg6).go (h6.carry hto7),q',h1p⟩ (by simp only [msF,List.length_cons];omega)
def stB:Option (List (Nd×Nat)×Nd×Nat)→List (Nd×Int)
 | none=>[]
 | some (fr,nd,c)=>kf fr++[(nd,(c:Int)-1)]
def okB (s:Pg) (H:Nat) (top:Nd) (al pre post:bT):Option (List (Nd×Nat)×Nd×Nat)→Prop
 | none=>pre=[]
 | some (fr,nd,c)=>Pos s H top fr nd c pre post∧1≤aR nd
theorem csettB_c (tr:Tr s H top al ps0 n) {fr:List (Nd×Nat)} {nd:Nd} {c:Nat} (h:Cu w C cb d pv (kf fr++[(nd,(c:Int)-1)])) (hw:Wlk w cb C s (n::ps0)) {pre post:bT} (q:Pos s H top fr nd c pre post) (h1:1≤aR nd) :
  Calls Tryz.prog 178 #[.pointer (some ⟨cb,0,none⟩),.int .i64 (-1)] w (Ret λ v w'=>∃ pv' fs',Cu w' C cb d pv' fs'∧CuTo cb pv pv' w w'∧At s H top fs' (ixB pre.length)):=by
 have hle:=tr.le;refine V.calls (args:=[_,_]) Tryz.func178 rfl Tryz.ntmps178 rfl rfl ?_;repeat refine aF ?_
 refine aX (S:=Option (List (Nd×Nat)×Nd×Nat)×Value) (λ q=>[(1,.int .i64 (-1)),(0,.pointer (some ⟨cb,0,none⟩))])
  (λ q w1=>Cu w1 C cb d q.2 (stB q.1)∧CuTo cb pv q.2 w w1∧Wlk w1 cb C s (n::ps0)∧okB s H top al pre post q.1) (λ q=>msF q.1) (some (fr,nd,c),pv) ⟨rfl,rfl,trivial⟩ ⟨h,CuTo.grow (Grow.refl _),hw,q,h1⟩ ?_
 clear h hw q h1;rintro ⟨st,pv1⟩ w1 ⟨h,hto,hw,hok⟩;simp only at h hto hok;obtain ⟨a,cp,rfl⟩:=h.slice;have hb:=h.blk;have hcl:=h.lt
 cases st with
 | none =>
  obtain rfl:=hok;have hb0:Blk w1 cb 206 [.pointer (some ⟨cb,0,none⟩),.pointer (some ⟨C.wb,0,none⟩),.int .i64 C.root,.slice C.fa C.fn C.fc,.slice C.ta C.tn C.tc,.bool C.back,.int .i64 C.most,.int .i64 d,.slice a 0 cp]:=hb;repeat refine aF ?_
  exact cE (vs:=[]) rfl rfl ⟨_,rfl,_,[],h,hto,rfl⟩
 | some st =>
  obtain ⟨fr,nd,c⟩:=st;obtain ⟨q,h1⟩:=hok
  cases c with
  | succ c =>
   have hz:((c+1:Nat):Int)-1=(c:Int):=by omega
   replace h:Cu w1 C cb d (.slice a (kf fr++[(nd,(c:Int))]).length cp) (kf fr++[(nd,(c:Int))]):=by rw [← hz];exact h
   replace hto:CuTo cb pv (.slice a (kf fr++[(nd,(c:Int))]).length cp) w w1:=by rw [← hz];exact hto
   replace hb:=h.blk;obtain ⟨hall,hcs,hfl,_⟩:=q.all tr.vt;obtain ⟨hnok,hszl,hszb,hkid⟩:=q.node tr.vt tr.ok tr.node;have h8:=jD hnok;have hln:(kf fr++[(nd,(c:Int))]).length=fr.length+1:=by simp [cC]
   have htop:=ctop_c h oM oM;rw [hln,Nat.add_sub_cancel] at htop;rw [hln] at hb;obtain ⟨cs,hrow,hkc⟩:=h.row;obtain ⟨a',cp',e1,hsl⟩:=aM hrow;cases e1;rw [hln] at hsl;obtain ⟨c0,x,rfl,hk0,hx'⟩:=KCells.last (l:=kf fr) (f:=(nd,(c:Int))) hkc;have hx:NdAt (λ k=>C.lo≤k∧k<cb) w1 x nd:=hx';have hc0:c0.length=fr.length*4:=by have:=hk0.len;rw [cC] at this;exact this
   have hq4:((c0++[x.v1,x.v2,x.v3,Value.int .i64 (c:Int)]).drop (fr.length*4)).take 4=[x.v1,x.v2,x.v3,Value.int .i64 (c:Int)]:=by rw [← hc0,List.drop_left];rfl
   have hq3:((c0++[x.v1,x.v2,x.v3,Value.int .i64 (c:Int)]).drop (fr.length*4)).take 3=[x.v1,x.v2,x.v3]:=by rw [← hc0,List.drop_left];rfl
   have q0:(c0++[x.v1,x.v2,x.v3,Value.int .i64 (c:Int)])[fr.length*4]? = some x.v1:=iT hq4 0 _ rfl;have q1:(c0++[x.v1,x.v2,x.v3,Value.int .i64 (c:Int)])[fr.length*4+1]? = some x.v2:=iT hq4 1 _ rfl;have q3:(c0++[x.v1,x.v2,x.v3,Value.int .i64 (c:Int)])[fr.length*4+3]? = some (.int .i64 (c:Int)):=iT hq4 3 _ rfl;have m1:=hx.its.len;have m2:=bR hx.kids;have hszx:x.n2+x.n1=aR nd:=by rw [m1,m2];unfold aR;omega
   have h82:x.n1≤1000∧x.n2≤1000:=by omega
   clear hx' hk0;repeat refine aF ?_
   refine aB 180 ?_;refine aA rfl htop rfl ?_;rintro _ w2 ⟨rfl,hg2⟩;have h2:=h.grow hg2;have hw2:=hw.grow hg2;have hto2:=hto.trans (CuTo.grow hg2);have hb2:=hb.grow hg2;have hsl2:=hsl.grow hg2;have hx2:=hx.go (Carry.grow hg2);clear h hw hto hb hsl hx htop hrow hkc;repeat refine aF ?_
   refine bD (e':=[(4,.pointer (some (at' a (fr.length*4)))),(1,.int .i64 (-1)),(0,.pointer (some ⟨cb,0,none⟩))]) ?_ ⟨rfl,rfl,rfl,trivial⟩;have hlt:c<aR nd:=by omega
   apply T.any 16 [is _,is _,is _,is _,is _,is _,is _,is _,is _,is _,is _,is _,is _,is _,is _,is _];(· kernel_rfl);(· ((repeat' (first|exact aN|refine aK ?_ ?_));(iterate 16 (· (refine yQ λ wq _ _ hgq=>?_;(repeat (first|refine aF ?_|(refine bK ?_;refine bJ (o:=fr.length*4) rfl (hsl2.grow hgq) q0 rfl ?_)|(refine aO ?_;first|refine aQ rfl ((hsl2.grow hgq).row.cell q3) rfl ?_|refine dR rfl (hsl2.grow hgq) (iT hq4) rfl rfl ?_)|(refine aB 227 ?_;refine aA rfl (csize_c x _ _ h82.1 h82.2) rfl ?_;rintro _ _ ⟨rfl,hgc⟩)));exact aD rfl yG rfl)))));(rintro _ _ _ hgr _ _;(refine yT ?_))
   rename_i w3;have h3:=h2.grow hgr;have hw3:=hw2.grow hgr;have hto3:=hto2.trans (CuTo.grow hgr);have hb3:=hb2.grow hgr;have hsl3:=hsl2.grow hgr;have hx3:=hx2.go (Carry.grow hgr);clear h2 hw2 hto2 hb2 hsl2 hx2 hgr
   cases hl:bN nd with
   | true =>
    obtain ⟨it,hit⟩:∃ it,nd.items[c]? = some it:=⟨_,List.getElem?_eq_getElem (by have:=hszl hl;omega)⟩
    repeat (first|(refine bK ?_;refine bJ (o:=fr.length*4) rfl hsl3 q0 rfl ?_)|(refine aO ?_;refine dR rfl hsl3 (tri_at hq3) rfl rfl ?_)|(refine aB 80 ?_;refine aA rfl (fB hx3 hl _) rfl ?_;rintro _ _ ⟨rfl,hgc⟩)|refine yC ?_)
    exact eB (vs:=[]) rfl rfl ⟨_,rfl,_,_,h3.grow hgc,hto3.trans (CuTo.grow hgc),by
     obtain ⟨pre',rfl,q'⟩:=q.back tr.vt hl hit;rw [List.length_append]
     exact ⟨fr,nd,c,pre',_,it,rfl,q',hl,hit,rfl⟩⟩
   | false =>
    obtain ⟨k',hk'⟩:∃ k,nd.kids[c]? = some k:=⟨_,List.getElem?_eq_getElem (by have:=hszb hl;omega)⟩
    obtain ⟨nd',hn',h4',hp',_⟩:=hkid c k' hk';repeat (first|(refine bK ?_;refine bJ (o:=fr.length*4) rfl hsl3 q0 rfl ?_)|(refine aO ?_;refine dR rfl hsl3 (tri_at hq3) rfl rfl ?_)|(refine aB 80 ?_;refine aA rfl (fB hx3 hl _) rfl ?_;rintro _ _ ⟨rfl,hgc⟩)|refine yC ?_)
    rename_i w4;have h4:=h3.grow hgc;have hw4:=hw3.grow hgc;have hto4:=hto3.trans (CuTo.grow hgc);have hb4:=hb3.grow hgc;have hsl4:=hsl3.grow hgc;have hx4:=hx3.go (Carry.grow hgc);clear h3 hw3 hto3 hb3 hsl3 hx3 hgc;have hkc':(bC nd.kids)[c]? = some (.int .i64 (k':Int)):=by rw [show bC nd.kids=nd.kids.map λ (k:Nat)=>(.int .i64 (k:Int):Value) from rfl,List.getElem?_map,hk'];rfl
    apply T.any 13 [is _,is _,is _,is _,is _,is _,is _,is _,is _,is _,is _,is _,is _];(· kernel_rfl);(· ((repeat' (first|exact aN|refine aK ?_ ?_));(iterate 13 (· (refine yQ λ wq _ _ hgq=>?_;(repeat (first|refine aF ?_|(refine bK ?_;refine bJ (o:=fr.length*4) rfl (hsl4.grow hgq) q0 rfl ?_)|(refine aO ?_;first|refine aQ rfl ((hsl4.grow hgq).row.cell q3) rfl ?_|refine aQ rfl ((hsl4.grow hgq).row.cell q1) rfl ?_|refine aQ rfl ((hx4.kids.grow hgq).row.cell hkc') rfl ?_)|(refine aH ?_;refine aC (j:=c) rfl rfl rfl (by have:=hszb hl;omega) (Nat.mul_one _) ⟨_,_,hx4.kids.grow hgq⟩ rfl ?_)));exact aD rfl yG rfl)))));(rintro _ _ _ hgr _ _;(refine yT ?_))
    have h5:=(show ∀ {wz:World},Cu wz C cb d (.slice a (kf fr++[(nd,(c:Int))]).length cp) (kf fr++[(nd,(c:Int))])→Cu wz C cb d (.slice a (kf fr++[(nd,(c:Int))]).length cp) (kf ((nd,c)::fr)) from λ hh=>by rw [kf_cons];exact hh) (h4.grow hgr)
    refine aB 226 ?_;refine aA rfl (cdescB_c tr h5 (hw4.grow hgr) (q.downL tr.vt hk' hn') hn' (List.mem_cons_of_mem _ hp') (Nat.le_trans dM h4')) rfl ?_;rintro _ w5 ⟨pv6,fs6,h6,hto6,hat⟩;repeat refine aF ?_
    exact eB (vs:=[]) rfl rfl ⟨_,rfl,_,_,h6,(hto4.trans (CuTo.grow hgr)).trans hto6,hat⟩
  | zero =>
   replace h:Cu w1 C cb d (.slice a (kf fr++[(nd,(-1:Int))]).length cp) (kf fr++[(nd,(-1:Int))]):=h;replace hto:CuTo cb pv (.slice a (kf fr++[(nd,(-1:Int))]).length cp) w w1:=hto;replace hb:=h.blk;obtain ⟨hall,hcs,hfl,_⟩:=q.all tr.vt;obtain ⟨hnok,hszl,hszb,hkid⟩:=q.node tr.vt tr.ok tr.node;have h8:=jD hnok;have hln:(kf fr++[(nd,(-1:Int))]).length=fr.length+1:=by simp [cC]
   have htop:=ctop_c h oM oM;rw [hln,Nat.add_sub_cancel] at htop;rw [hln] at hb;obtain ⟨cs,hrow,hkc⟩:=h.row;obtain ⟨a',cp',e1,hsl⟩:=aM hrow;cases e1;rw [hln] at hsl;obtain ⟨c0,x,rfl,hk0,hx'⟩:=KCells.last (l:=kf fr) (f:=(nd,(-1))) hkc;have hx:NdAt (λ k=>C.lo≤k∧k<cb) w1 x nd:=hx';have hc0:c0.length=fr.length*4:=by have:=hk0.len;rw [cC] at this;exact this
   have hq4:((c0++[x.v1,x.v2,x.v3,Value.int .i64 (-1)]).drop (fr.length*4)).take 4=[x.v1,x.v2,x.v3,Value.int .i64 (-1)]:=by rw [← hc0,List.drop_left];rfl
   have hq3:((c0++[x.v1,x.v2,x.v3,Value.int .i64 (-1)]).drop (fr.length*4)).take 3=[x.v1,x.v2,x.v3]:=by rw [← hc0,List.drop_left];rfl
   have q0:(c0++[x.v1,x.v2,x.v3,Value.int .i64 (-1)])[fr.length*4]? = some x.v1:=iT hq4 0 _ rfl;have q1:(c0++[x.v1,x.v2,x.v3,Value.int .i64 (-1)])[fr.length*4+1]? = some x.v2:=iT hq4 1 _ rfl;have q3:(c0++[x.v1,x.v2,x.v3,Value.int .i64 (-1)])[fr.length*4+3]? = some (.int .i64 (-1)):=iT hq4 3 _ rfl;have m1:=hx.its.len;have m2:=bR hx.kids;have hszx:x.n2+x.n1=aR nd:=by rw [m1,m2];unfold aR;omega
   have h82:x.n1≤1000∧x.n2≤1000:=by omega
   clear hx' hk0;repeat refine aF ?_
   refine aB 180 ?_;refine aA rfl htop rfl ?_;rintro _ w2 ⟨rfl,hg2⟩;have h2:=h.grow hg2;have hw2:=hw.grow hg2;have hto2:=hto.trans (CuTo.grow hg2);have hb2:=hb.grow hg2;have hsl2:=hsl.grow hg2;have hx2:=hx.go (Carry.grow hg2);clear h hw hto hb hsl hx htop hrow hkc;repeat refine aF ?_
   refine bD (e':=[(4,.pointer (some (at' a (fr.length*4)))),(1,.int .i64 (-1)),(0,.pointer (some ⟨cb,0,none⟩))]) ?_ ⟨rfl,rfl,rfl,trivial⟩;apply T.any 16 [is _,is _,is _,is _,is _,is _,is _,is _,is _,is _,is _,is _,is _,is _,is _,is _];(· kernel_rfl);(· ((repeat' (first|exact aN|refine aK ?_ ?_));(iterate 16 (· (refine yQ λ wq _ _ hgq=>?_;(repeat (first|refine aF ?_|(refine bK ?_;refine bJ (o:=fr.length*4) rfl (hsl2.grow hgq) q0 rfl ?_)|(refine aO ?_;refine aQ rfl ((hsl2.grow hgq).row.cell q3) rfl ?_)));exact aD rfl yG rfl)))));(rintro _ _ _ hgr _ _;(refine yT ?_))
   have h3:=h2.grow hgr;have hw3:=hw2.grow hgr;have hto3:=hto2.trans (CuTo.grow hgr);have hb3:=hb2.grow hgr;clear h2 hw2 hto2 hb2 hsl2 hx2 hgr;repeat refine aF ?_
   apply T.any 9 [is _,is _,is _,is _,is _,is _,is _,is _,is _];(· kernel_rfl);(· ((repeat' (first|exact aN|refine aK ?_ ?_));(iterate 9 (· (refine yQ λ wq _ _ hgq=>?_;(repeat refine aF ?_);exact aD rfl yG rfl)))));(rintro _ _ _ hgr _ _;(refine yT ?_))
   refine aB 176 ?_;refine aA rfl (ccut_c (h3.grow hgr) (fr.length+1-1) (by rw [hln];omega)) rfl ?_;rintro _ w5 ⟨pv5,h5,hto5⟩;have hw5:=(hw3.grow hgr).go ((h3.grow hgr).carry hto5);have hto5':=(hto3.trans (CuTo.grow hgr)).trans hto5;rw [show (kf fr++[(nd,(-1:Int))]).take (fr.length+1-1)=kf fr by rw [Nat.add_sub_cancel];rw [← cC fr,List.take_left]] at h5;clear h3 hw3 hto3 hb3 hgr hto5
   cases fr with
   | nil =>
    obtain ⟨a5,cp5,rfl⟩:=h5.slice;have hb5:=h5.blk;rw [cC] at hb5;obtain ⟨e1,e2⟩:=q.endL tr.vt;repeat refine aF ?_
    refine aE (none,_) ⟨rfl,rfl,trivial⟩ ⟨h5,hto5',hw5,e1⟩ (by simp only [msF];omega)
   | cons pi fr' =>
    obtain ⟨p,i⟩:=pi;have q':=q.popL tr.vt
    have h1p:1≤aR p:=by
     obtain ⟨_,_,_,_,c2,pq2,hc2,_⟩:=q;obtain ⟨_,_,ls2,x2,_,kd2,hx2',_⟩:=c2;have:=(List.getElem?_eq_some_iff.1 hx2').1;have:=kd2.kids;simp only [aR,this,List.length_map];omega
    rw [kf_cons] at h5;obtain ⟨a5,cp5,rfl⟩:=h5.slice;have hb5:=h5.blk;have htop:=ctop_c h5 sM (by simp only [List.length_append,cC,List.length_cons,List.length_nil];simp only [List.length_cons] at hfl;omega);have hln':(kf fr'++[(p,(i:Int))]).length=fr'.length+1:=by simp [cC]
    rw [hln',Nat.add_sub_cancel] at htop;rw [hln'] at hb5;repeat refine aF ?_
    refine aB 180 ?_;refine aA rfl htop rfl ?_;rintro _ w6 ⟨rfl,hg6⟩;have h6:=h5.grow hg6;obtain ⟨g,cap,cur,epv,hg,hbg6,hcl',hget,hset⟩:=h6.bump;cases epv;rw [cC] at hcl' hget hset;have hget6:w6.cell? (at' (some ⟨g,0,none⟩) (fr'.length*4+3))=some (.int .i64 (i:Int)):=hbg6.cell hget;have hi8:i≤aR p:=(q'.all tr.vt).2.1;have hp8:=jD (q'.node tr.vt tr.ok tr.node).1;repeat (first|refine aQ rfl hget6 rfl ?_|refine yC ?_)
    refine dQ (o:=0+fr'.length*4+3) rfl rfl hbg6 rfl (Nat.ble_eq_true_of_le oM) rfl ?_;intro w7 hu7 hb7 hs7;obtain ⟨h7,hto7⟩:=hset w7 _ hu7 hb7;repeat refine aF ?_
    refine aE (some (fr',p,i),_) ⟨rfl,rfl,trivial⟩ ⟨h7,(hto5'.trans (CuTo.grow hg6)).trans hto7,(hw5.grow hg6).go (h6.carry hto7),q',h1p⟩ (by simp only [msF,List.length_cons];omega)
end
end Go.Proofs.YtfpadnmdafiddaaGreatDoor
