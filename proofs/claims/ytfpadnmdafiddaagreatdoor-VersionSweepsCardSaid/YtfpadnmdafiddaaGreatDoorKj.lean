import Derived.Test.YtfpadnmdafiddaaGreatDoorKi
set_option linter.all false
namespace Go.Proofs.YtfpadnmdafiddaaGreatDoor
open Go Go.RowKit Go.V
abbrev ActL:=List (Int×Int×Bs×Bool)
def e0S (i base:Nat) (tv:Value) (bv p:Nat) (a:Option Addr) (n c:Nat):dN:=[(9,.int .i64 (i:Int)),(8,.int .i64 (base:Int)),(7,tv),(6,.pointer (some ⟨bv,0,none⟩)),(5,.pointer (some ⟨p,0,none⟩)),(4,.int .i64 0),(0,.slice a n c)]
theorem idx_in {base j:Nat} {hs:jN} {z:Option Nat×Nat×dS×List Nat} (hz:hs[j]? = some z) (hl:hs.length≤4096):vers.idxV (base:Int) ((fL hs).map dD) ((base+j:Nat):Int)=((j:Int),0):=by
 have hj:=(List.getElem?_eq_some_iff.1 hz).1
 unfold vers.idxV
 rw [vok_roots (by intro e;have:=congrArg List.length e;rw [fV] at this;simp only [List.length_nil] at this;omega) (by rw [fV];exact hl),if_pos rfl,if_pos]
 ·simp
  omega
 ·rw [List.length_map,fV]
  omega
theorem at_in {base j:Nat} {hs:jN} {z:Option Nat×Nat×dS×List Nat} (hz:hs[j]? = some z) (hl:hs.length≤4096):vers.atV (base:Int) ((fL hs).map dD) ((base+j:Nat):Int)=(dD z.1,0):=by
 have hr:((fL hs).map dD).getD j 0=dD z.1:=by simp [fL,List.getD_eq_getElem?_getD,hz]
 unfold vers.atV
 rw [idx_in hz hl,if_pos rfl]
 simp only [Int.toNat_natCast]
 rw [hr]
theorem last_in {base:Nat} {hs:jN} (h0:hs≠[]) (hl:base+hs.length≤4096):(if vers.vok (base:Int) ((fL hs).map dD) then IntKind.wrap .i64 ((base:Int)+((fL hs).map dD).length-1) else 0)=((base+hs.length-1:Nat):Int):=by
 have hp:=List.length_pos_iff.2 h0
 rw [vok_roots (by intro e;have:=congrArg List.length e;rw [fV] at this;simp only [List.length_nil] at this;omega) (by rw [fV];omega),if_pos rfl,List.length_map,fV]
 rw [vers.wrap_i64 (by omega) (by omega)]
 omega
theorem vtake (hs:jN) (k:Nat):vers.ints (((fL hs).map dD).take k)=hU (fL (hs.take k)):=by rw [gI];simp [fL,List.map_take]
theorem vdrop (hs:jN) (k:Nat):vers.ints (((fL hs).map dD).drop k)=hU (fL (hs.drop k)):=by rw [gI];simp [fL,List.map_drop]
theorem vpush (hs:jN) (q:Option Nat×Nat×dS×List Nat):vers.ints (((fL hs).map dD)++[dD q.1])=hU (fL (hs++[q])):=by rw [gI];simp [fL]
theorem sweeps_c {F:Nat→Prop} {w:World} {a:Option Addr} {n c:Nat} {cs:List Value} {l:ActL} (htab:TabAt w) (hs0:Sl F w 4 a n c cs) (ha0:ActV F w cs l) (hn:n=l.length) (hby:∀ x∈l,kW x.2.2.1) (hki:∀ x∈l,(-9223372036854775808≤x.1∧x.1≤9223372036854775807)∧(-9223372036854775808≤x.2.1∧x.2.1≤9223372036854775807)) :
  Calls Tryz.prog 12 #[.slice a n c] w (Ret λ v w'=>v=.bool true∧Grow w w'):=by
 obtain ⟨F0,hF0⟩:∃ F0:Nat→Prop,∀ k,F0 k↔k<w.heap.size:=⟨_,λ _=>Iff.rfl⟩
 have hs:Sl F0 w 4 a n c cs:=hs0.go (Carry.mono λ k _ hl=>(hF0 k).2 hl)
 have ha:ActV F0 w cs l:=ha0.go (Carry.mono λ k _ hl=>(hF0 k).2 hl)
 clear hs0 ha0
 have hnm:=hs.le
 subst hn
 refine V.calls (args:=[_]) Tryz.func12 rfl Tryz.ntmps12 rfl rfl ?_
 repeat (first|(refine aD ?_;refine TL.pure rfl rfl ?_)|refine TL.nil ?_|refine aA ?_|refine aJ ?_|refine aC ?_)
 refine aL 66 ?_
 refine aI (vs:=[]) rfl (vers.lives_c w) rfl ?_
 rintro _ w1 ⟨rfl,hg1⟩
 by_cases hl60:60<l.length
 ·repeat (first|(refine aB ?_;refine TL.pure rfl rfl ?_)|(refine aD ?_;refine TL.pure rfl rfl ?_)|refine TL.nil ?_|refine aA ?_|refine aJ ?_|refine aC ?_|(refine aH ?_;refine bA rfl yD rfl ?_)|refine aO rfl rfl ?_|refine aN rfl ?_|refine aE rfl ?_|refine bC ?_|refine aV ?_|refine bI ?_|refine TL.pure rfl rfl ?_)
  exact cF rfl ⟨_,rfl,rfl,hg1⟩
 repeat (first|(refine aB ?_;refine TL.pure rfl rfl ?_)|refine TL.nil ?_|refine aA ?_|refine aJ ?_|refine aC ?_|(refine aH ?_;refine aR rfl yD rfl ?_)|refine aO rfl rfl ?_|refine aE rfl ?_|refine aV ?_|refine TL.pure rfl rfl ?_)
 refine aL 67 ?_
 refine aI rfl (dnew_c 600 w1 (by omega) (by omega)) rfl ?_
 rintro _ w2 ⟨d,s,m,rfl,hd,hm,hdk,hg2⟩
 repeat (first|(refine aB ?_;refine TL.pure rfl rfl ?_)|(refine aD ?_;refine TL.pure rfl rfl ?_)|refine TL.nil ?_|refine aA ?_|refine aJ ?_|refine aC ?_|(refine aH ?_;refine aR rfl yD rfl ?_)|refine aE rfl ?_|refine aV ?_|refine TL.pure rfl rfl ?_)
 refine aL 68 ?_
 refine aI rfl (open_c (c:=300) hdk (by omega) (by omega)) rfl ?_
 rintro _ w3 ⟨L0,rfl,hLd,hLm,hLp,hLu,hp0,hg3⟩
 have z1:=hg1.size
 have z2:=hg2.size
 have z3:=hg3.size
 have hg03:Grow w w3:=(hg1.trans hg2).trans hg3
 have t3:TabAt w3:=htab.grow hg03
 have h00:=htab.1
 have hpp:PgW w3 L0 (pg0 300):=⟨hp0,t3,λ h=>by unfold PL.S at h;omega⟩
 have hLw:∀ b,b=L0.p∨b=L0.d∨b=L0.u∨b=L0.m→w.heap.size≤b:=λ b hb=>by omega
 have hlts:=hp0.lts
 repeat (first|(refine aB ?_;refine TL.pure rfl rfl ?_)|(refine aD ?_;refine TL.pure rfl rfl ?_)|refine TL.nil ?_|refine aA ?_|refine aJ ?_|refine aC ?_|(refine aH ?_;refine aR rfl yD rfl ?_)|refine aE rfl ?_|refine aV ?_|refine TL.pure rfl rfl ?_)
 refine aL 69 ?_
 refine aI (vs:=[]) rfl (vers.start_c w3) rfl ?_
 rintro _ w4 ⟨va,vn,vc,rfl,hsv,hg4⟩
 have hvn:vn=1:=by have:=hsv.len;simpa [vers.ints] using this.symm
 subst hvn
 repeat (first|refine TL.nil ?_|refine aA ?_|refine aJ ?_|refine aC ?_|(refine aP ?_;(refine aY rfl rfl yB (by exact rfl) (by exact rfl) (by exact rfl) ?_;intro w' hu hbk hsz))|(refine bD ?_;(refine TL.alloc rfl rfl ?_;intro bk w' hg hbk hsz hsz')))
 have hbk0:=hbk
 have hu0:=hu
 refine TL.buildSlice rfl rfl rfl rfl rfl ?_
 intro bt w6 hg6 hb6 hs6 hs7 hs8
 have z4:=hg4.size
 have z5:=hg.size
 have hg36:Grow w3 w6:=(aZ hu (by omega) (hg4.trans hg)).trans hg6
 obtain ⟨bv,rfl⟩:∃ z,z=bk:=⟨bk,rfl⟩
 have hb6':Blk w6 bt 9 [.string (txt (jA []))]:=hb6
 have hvb6:Blk w6 bv 124 [.int .i64 ((0:Nat):Int),.slice va 1 vc]:=hbk0.grow hg6
 have hsv6:Sl (Fq L0 bv (.slice (some ⟨bt,0,none⟩) 1 1)) w6 1 va 1 vc (hU (fL [(none,0,[],[])])):=by
  refine (hsv.tight.go ((Carry.grow hg).trans ((Carry.upd hu λ k hk _=>by have:=hk.2;omega).trans (Carry.grow hg6)))).mono λ k hk=>⟨λ hS=>?_,?_,λ e=>?_⟩
  ·have:=hk.1;unfold PL.S at hS;omega
  ·have:=hk.2;omega
  ·have:=hk.2
   simp only [Value.ownBlock,Option.some.injEq] at e
   omega
 have hC0:Lv w w6 bv L0.p 0 L0 (pg0 300) 0 va vc (.slice (some ⟨bt,0,none⟩) 1 1) [(none,0,[],[])]:=by
  refine ⟨rfl,hpp.grow hg36,hLw,hvb6,hsv6,by omega,⟨λ h=>by unfold PL.S at h;omega,by omega⟩,⟨bt,0,1,[.string (txt (jA []))],rfl,by omega,hb6',Nat.le_refl _,Nat.le_refl _,by unfold maxLen;omega,rfl⟩,λ k hk=>?_,λ q hq=>?_,by simp,by simp,rfl,hg03.trans hg36,h00⟩
  ·simp only [Value.ownBlock,Option.some.injEq] at hk
   refine ⟨λ h=>by unfold PL.S at h;omega,by omega,by omega⟩
  ·rw [List.mem_singleton] at hq
   rw [hq]
   exact ⟨⟨rfl,rfl,rfl⟩,by simp⟩
 clear hsv6 hvb6 hb6' hb6 hs8 hbk0 hu0 hsv hg36 hg4 hg6 hpp hg03 t3 hdk hp0 hlts hLw hg1 hg2 hg3
 repeat (first|(refine aD ?_;refine TL.pure rfl rfl ?_)|refine TL.nil ?_|refine aA ?_|refine aJ ?_|refine aC ?_|refine T.block ?_)
 refine cM (S:=Nat×Nat×Value) (λ q=>e0S q.1 q.2.1 q.2.2 bv L0.p a l.length c)
  (λ q v=>q.1≤l.length∧∃ (L:PL) (g:Pg) (ra:Option Addr) (rc:Nat) (hst:jN),Lv w v bv L0.p q.1 L g q.2.1 ra rc q.2.2 hst) (λ q=>l.length-q.1) (0,0,.slice (some ⟨bt,0,none⟩) 1 1) ⟨rfl,rfl,rfl,rfl,rfl,rfl,rfl,trivial⟩ ⟨Nat.zero_le _,_,_,_,_,_,hC0⟩ ?_
 clear hC0
 rintro ⟨i,base,tv⟩ v ⟨hi,L,g,ra,rc,hst,hC⟩
 simp only at hi hC
 refine cT (e':=[(9,.int .i64 (i:Int)),(8,.int .i64 (base:Int)),(7,tv),(6,.pointer (some ⟨bv,0,none⟩)),(5,.pointer (some ⟨L.p,0,none⟩)),(4,.int .i64 0),(0,.slice a l.length c)]) ?_ ⟨rfl,rfl,rfl,rfl,by rw [hC.p];rfl,rfl,rfl,trivial⟩
 by_cases hlt:i<l.length
 ·obtain ⟨x,hx⟩:∃ q,l[i]? = some q:=⟨_,List.getElem?_eq_getElem hlt⟩
  have hxm:=List.mem_of_getElem? hx
  have hxb:=hby x hxm
  obtain ⟨⟨hk1,hk2⟩,hk3,hk4⟩:=hki x hxm
  obtain ⟨g0,g1,⟨kv,g2,hkx⟩,g3⟩:=ha i x hx
  obtain ⟨ka,kc,rfl,hks⟩:=hkx.sl
  clear hkx hxm hby hki
  have hf0:∀ k,F0 k→k<w.heap.size:=λ k h=>(hF0 k).1 h
  obtain ⟨ta,tc,htv,htsl⟩:=hC.tx.sl
  rw [hQ] at htv htsl
  subst htv
  have hcx:∀ j u,[Value.int .i64 x.1,.int .i64 x.2.1,.slice ka x.2.2.1.length kc,.bool x.2.2.2][j]? = some u→cs[i*4+j]? = some u:=λ j u hj=>by
   match j,hj with
   | 0,hj=>simp only [List.getElem?_cons_zero,Option.some.injEq] at hj;subst hj;exact g0
   | 1,hj=>simp only [List.getElem?_cons_succ,List.getElem?_cons_zero,Option.some.injEq] at hj;subst hj;exact g1
   | 2,hj=>simp only [List.getElem?_cons_succ,List.getElem?_cons_zero,Option.some.injEq] at hj;subst hj;exact g2
   | 3,hj=>simp only [List.getElem?_cons_succ,List.getElem?_cons_zero,Option.some.injEq] at hj;subst hj;exact g3
   | j+4,hj=>simp at hj
  have hsv:=hs.grow hC.gr
  have hkl:=hks.grow hC.gr
  have hzw:=hC.gr.size
  have hszc:=hC.sz
  have hnec:=List.length_pos_iff.2 hC.ne
  by_cases hlong:100<x.2.2.1.length
  ·repeat (first|(refine bF ?_;refine aW (j:=i) rfl rfl rfl hlt rfl ⟨_,_,hsv⟩ rfl ?_)|refine eP rfl hsv hcx rfl rfl ?_|(refine aB ?_;refine TL.pure rfl rfl ?_)|(refine aD ?_;refine TL.pure rfl rfl ?_)|refine aK rfl yM rfl ?_|refine aF rfl rfl ?_|refine TL.nil ?_|refine aA ?_|refine aJ ?_|refine aC ?_|refine T.block ?_|(refine aH ?_;refine bA rfl yD rfl ?_)|(refine aP ?_;(refine aY rfl rfl yB (by exact rfl) (by exact rfl) (by exact rfl) ?_;intro w' hu hbk hsz))|(refine bD ?_;(refine TL.alloc rfl rfl ?_;intro bk w' hg hbk hsz hsz'))|refine aO rfl rfl ?_|refine aN rfl ?_|refine bC ?_|refine aV ?_|refine bI ?_|refine dB ?_|refine dW ?_)
   exact cF rfl ⟨_,rfl,rfl,aZ hu (by omega) (hC.gr.trans hg)⟩
  refine fJ 1 (λ e' w'=>Sub [(9,.int .i64 (i:Int)),(8,.int .i64 (base:Int)),(7,.slice ta hst.length tc),(6,.pointer (some ⟨bv,0,none⟩)),(5,.pointer (some ⟨L.p,0,none⟩)),(4,.int .i64 0),(0,.slice a l.length c)] e'∧v=w') ?_ ?_
  rotate_left
  ·repeat (first|(refine aB ?_;refine TL.pure rfl rfl ?_)|refine TL.nil ?_|refine aA ?_|refine aJ ?_|refine aC ?_|(refine aH ?_;refine bA rfl yD rfl ?_)|refine aO rfl rfl ?_|refine aN rfl ?_|refine aV ?_|refine bH ?_|refine cQ ?_|refine cR ?_)
   exact ⟨⟨rfl,rfl,rfl,rfl,rfl,rfl,rfl,trivial⟩,rfl⟩
  rintro e1 _ ⟨hsub,rfl⟩
  refine cT (e':=[(9,.int .i64 (i:Int)),(8,.int .i64 (base:Int)),(7,.slice ta hst.length tc),(6,.pointer (some ⟨bv,0,none⟩)),(5,.pointer (some ⟨L.p,0,none⟩)),(4,.int .i64 0),(0,.slice a l.length c)]) ?_ hsub
  clear hsub e1
  refine aJ (T.block ?_)
  refine fJ 3 (λ e' v'=>∃ (b q:Nat),Sub [(11,.int .i64 ((base+q:Nat):Int)),(10,.pointer (some ⟨b,0,none⟩)),(9,.int .i64 (i:Int)),(8,.int .i64 (base:Int)),(7,.slice ta hst.length tc),(6,.pointer (some ⟨bv,0,none⟩)),(5,.pointer (some ⟨L.p,0,none⟩)),(4,.int .i64 0),(0,.slice a l.length c)] e' ∧
   q<hst.length∧Blk v' b 127 [.int .i64 x.1,.int .i64 x.2.1,.slice ka x.2.2.1.length kc,.bool x.2.2.2]∧v.heap.size≤b∧Grow v v') ?_ ?_
  rotate_left
  ·repeat (first|(refine bF ?_;refine aW (j:=i) rfl rfl rfl hlt rfl ⟨_,_,hsv⟩ rfl ?_)|refine eP rfl hsv hcx rfl rfl ?_|(refine aB ?_;refine TL.pure rfl rfl ?_)|refine aK rfl yM rfl ?_|refine aF rfl rfl ?_|refine TL.nil ?_|refine aA ?_|refine aJ ?_|refine aC ?_|(refine aH ?_;refine aR rfl yD rfl ?_)|(refine aP ?_;(refine aY rfl rfl yB (by exact rfl) (by exact rfl) (by exact rfl) ?_;intro w' hu hbk hsz))|(refine bD ?_;(refine TL.alloc rfl rfl ?_;intro bk w' hg hbk hsz hsz'))|refine aO rfl rfl ?_|refine aE rfl ?_|refine aV ?_|refine bH ?_|refine cQ ?_)
   refine aL 18 ?_
   refine aI rfl (pick_c x.2.1 hst.length hnec (by omega) _) rfl ?_
   rintro _ v2' ⟨⟨q,rfl,hq⟩,rfl⟩
   repeat (first|(refine aD ?_;refine TL.pure rfl rfl ?_)|(refine bJ ?_;refine bT rfl rfl (by omega) rfl ?_)|refine TL.nil ?_|refine bH ?_|refine cR ?_)
   exact ⟨bk,q,⟨rfl,rfl,rfl,rfl,rfl,rfl,rfl,rfl,rfl,trivial⟩,hq,hbk,by omega,aZ hu (by omega) hg⟩
  rintro e1 v1 ⟨b10,q,hsub,hq,hb10,hb10n,hgv1⟩
  refine cT (e':=[(11,.int .i64 ((base+q:Nat):Int)),(10,.pointer (some ⟨b10,0,none⟩)),(9,.int .i64 (i:Int)),(8,.int .i64 (base:Int)),(7,.slice ta hst.length tc),(6,.pointer (some ⟨bv,0,none⟩)),(5,.pointer (some ⟨L.p,0,none⟩)),(4,.int .i64 0),(0,.slice a l.length c)]) ?_ hsub
  clear hsub e1
  have hC1:=hC.grow hgv1
  refine fJ 1 (λ e' v'=>∃ (base':Nat) (tv':Value),Sub [(9,.int .i64 (i:Int)),(8,.int .i64 (base':Int)),(7,tv'),(6,.pointer (some ⟨bv,0,none⟩)),(5,.pointer (some ⟨L.p,0,none⟩)),(4,.int .i64 0),(0,.slice a l.length c)] e' ∧
   ∃ (L':PL) (g':Pg) (ra':Option Addr) (rc':Nat) (hst':jN),Lv w v' bv L0.p (i+1) L' g' base' ra' rc' tv' hst') ?_ ?_
  rotate_left
  ·have hvb1:=hC1.vb
   have hrs1:=hC1.vs
   have hrs2:=hrs1
   rw [gI] at hrs2
   have htx1:=hC1.tx
   obtain ⟨zq,hzq⟩:∃ z,hst[q]? = some z:=⟨_,List.getElem?_eq_getElem hq⟩
   have hix:=idx_in (base:=base) hzq (by omega)
   repeat (first|refine aK rfl yM rfl ?_|refine aF rfl rfl ?_|refine aJ ?_|refine aC ?_|refine cQ ?_)
   refine aL 18 ?_
   refine aI rfl (pick_c x.1 6 (by omega) (by omega) _) rfl ?_
   rintro _ v2' ⟨⟨r,rfl,hr6⟩,e0⟩
   obtain rfl:v1=v2':=e0.symm
   clear e0
   by_cases hr3:r=3
   ·subst hr3
    repeat (first|(refine aB ?_;refine TL.pure rfl rfl ?_)|(refine aD ?_;refine TL.pure rfl rfl ?_)|(refine aU ?_;refine bE rfl yB (by exact rfl) rfl ?_)|refine TL.nil ?_|refine aA ?_|refine aJ ?_|refine aC ?_|refine T.block ?_|(refine aH ?_;refine bA rfl yD rfl ?_)|refine aN rfl ?_)
    refine aL 70 ?_
    refine aI rfl (vers.trunc_c _ (base:Int) ((base+q:Nat):Int) ra hst.length rc _ v1 hrs2 (by omega) (by omega) (by rw [hix])) rfl ?_
    rintro _ v3 ⟨a3,n3,c3,rfl,hs3,hg3⟩
    rw [vtake,show (((base+q:Nat):Int)-(base:Int)).toNat+1=q+1 by omega] at hs3
    have hvb3:=hvb1.grow hg3
    repeat (first|(refine aB ?_;refine TL.pure rfl rfl ?_)|(refine aD ?_;refine TL.pure rfl rfl ?_)|(refine bJ ?_;refine bT rfl rfl (by omega) rfl ?_)|(refine cJ ?_;refine dI rfl rfl (by omega) (by omega) rfl ?_)|refine TL.nil ?_|refine aA ?_|refine aC ?_|(refine aP ?_;(refine aY rfl rfl yB (by exact rfl) (by exact rfl) (by exact rfl) ?_;intro w' hu hbk hsz))|refine TL.pure rfl rfl ?_)
    have htx3:=(htx1.grow hg3).keep (λ k hk=>hu.block k (hC1.tn k hk).2.2)
    refine eB ?_
    refine TL.sliceLo rfl rfl htx3 (by rw [hQ];omega) (by rw [hQ];omega) rfl ?_
    intro tv' htv' hob
    rw [show base+q-base+1=q+1 by omega] at htv'
    repeat (first|(refine aD ?_;refine TL.pure rfl rfl ?_)|refine TL.nil ?_|refine aT ?_|refine bH ?_|refine cR ?_)
    have hln:(hst.take (q+1)).length=q+1:=by rw [List.length_take];omega
    exact ⟨base,tv',⟨rfl,rfl,rfl,rfl,rfl,rfl,rfl,trivial⟩,L,g,a3,c3,hst.take (q+1),(hC1.cut hg3 hu hbk hs3 (by simpa [textsV,List.map_take] using htv') hob (λ z hz=>List.mem_of_mem_take hz) (λ e=>by rw [e] at hln;simp at hln) (by omega)).next⟩
   by_cases hr4:r=4
   ·subst hr4
    repeat (first|(refine aB ?_;refine TL.pure rfl rfl ?_)|(refine aD ?_;refine TL.pure rfl rfl ?_)|(refine aU ?_;refine bE rfl yB (by exact rfl) rfl ?_)|refine TL.nil ?_|refine aA ?_|refine aJ ?_|refine aC ?_|refine T.block ?_|(refine aH ?_;first|refine bA rfl yD rfl ?_|refine aR rfl yD rfl ?_)|refine aN rfl ?_|refine aE rfl ?_)
    refine aL 71 ?_
    refine aI rfl (vers.drop_c _ (base:Int) ((base+q:Nat):Int) ra hst.length rc _ v1 hrs2 (by omega) (by omega) (by rw [hix])) rfl ?_
    rintro _ v3 ⟨a3,n3,c3,rfl,hs3,hg3⟩
    rw [vdrop,show (((base+q:Nat):Int)-(base:Int)).toNat=q by omega] at hs3
    have hvb3:=hvb1.grow hg3
    repeat (first|(refine aB ?_;refine TL.pure rfl rfl ?_)|(refine aD ?_;refine TL.pure rfl rfl ?_)|(refine cJ ?_;refine dI rfl rfl (by omega) (by omega) rfl ?_)|refine TL.nil ?_|refine aA ?_|refine aC ?_|(refine aP ?_;(refine aY rfl rfl yB (by exact rfl) (by exact rfl) (by exact rfl) ?_;intro w' hu hbk hsz))|refine TL.pure rfl rfl ?_)
    have htx3:=(htx1.grow hg3).keep (λ k hk=>hu.block k (hC1.tn k hk).2.2)
    refine eB ?_
    refine TL.sliceHi rfl rfl htx3 (by rw [hQ];omega) rfl ?_
    intro tv' htv' hob
    rw [show base+q-base=q by omega] at htv'
    repeat (first|(refine aB ?_;refine TL.pure rfl rfl ?_)|(refine aD ?_;refine TL.pure rfl rfl ?_)|refine TL.nil ?_|refine aT ?_|refine bH ?_|refine cR ?_)
    have hln:(hst.drop q).length=hst.length-q:=by rw [List.length_drop]
    exact ⟨base+q,tv',⟨rfl,rfl,rfl,rfl,rfl,rfl,rfl,trivial⟩,L,g,a3,c3,hst.drop q,(hC1.cut hg3 hu hbk hs3 (by simpa [textsV,List.map_drop] using htv') hob (λ z hz=>List.mem_of_mem_drop hz) (λ e=>by rw [e] at hln;simp at hln;omega) (by omega)).next⟩
   by_cases hr5:r=5
   ·subst hr5
    repeat (first|(refine aB ?_;refine TL.pure rfl rfl ?_)|(refine aD ?_;refine TL.pure rfl rfl ?_)|(refine aU ?_;refine bE rfl yB (by exact rfl) rfl ?_)|refine TL.nil ?_|refine aA ?_|refine aJ ?_|refine aC ?_|refine T.block ?_|(refine aH ?_;first|refine bA rfl yD rfl ?_|refine aR rfl yD rfl ?_)|refine aN rfl ?_|refine aE rfl ?_)
    refine aL 72 ?_
    refine aI rfl (swept_c hC1.pg (hC1.hsOk (by omega)) hC1.vs (λ k hk e=>hk.1 (.inr (.inr e))) rfl hC1.ne (by omega)) rfl ?_
    rintro _ v3 ⟨rfl,L',qs,e1,e2,e3,e4,e5,hpg,hused,hok,hb⟩
    have hC2:=hC1.sweep e1 e2 e3 e5 hpg hok hb
    repeat (first|refine TL.nil ?_|refine aA ?_|refine aT ?_|refine aE rfl ?_|refine aV ?_|refine TL.pure rfl rfl ?_|refine bH ?_|refine cR ?_)
    exact ⟨base,_,⟨rfl,rfl,rfl,rfl,rfl,rfl,rfl,trivial⟩,L',_,ra,rc,hst,hC2.next⟩
   obtain ⟨zl,hzl⟩:∃ z,hst[hst.length-1]? = some z:=⟨_,List.getElem?_eq_getElem (by omega)⟩
   obtain ⟨hzt,hzn⟩:=hC1.ok zl (List.mem_of_getElem? hzl)
   have hlast:=λ wq (iq:Grow v1 wq)=>vers.last_c _ (base:Int) ra hst.length rc _ wq (hrs2.grow iq)
   have hat:=λ wq (iq:Grow v1 wq)=>vers.at_c _ (base:Int) ((base+hst.length-1:Nat):Int) ra hst.length rc _ wq (hrs2.grow iq) (by omega) (by omega)
   rw [last_in hC1.ne (by omega)] at hlast
   rw [show base+hst.length-1=base+(hst.length-1) by omega] at hat hlast
   rw [at_in hzl (by omega)] at hat
   repeat (first|(refine aD ?_;refine TL.pure rfl rfl ?_)|refine TL.nil ?_|refine aA ?_|refine aJ ?_|refine aC ?_|refine T.block ?_|(refine aH ?_;refine aR rfl yD rfl ?_)|refine aE rfl ?_)
   refine cT (e':=[(10,.pointer (some ⟨b10,0,none⟩)),(9,.int .i64 (i:Int)),(8,.int .i64 (base:Int)),(7,.slice ta hst.length tc),(6,.pointer (some ⟨bv,0,none⟩)),(5,.pointer (some ⟨L.p,0,none⟩)),(4,.int .i64 0),(0,.slice a l.length c)]) ?_ ⟨rfl,rfl,rfl,rfl,rfl,rfl,rfl,rfl,trivial⟩
   apply T.det 9 [.agg #[.int .i64 (base:Int),.slice ra hst.length rc],.agg #[.int .i64 (base:Int),.slice ra hst.length rc],.int .i64 ((base+(hst.length-1):Nat):Int),.tuple #[.int .i64 (dD zl.1),.int .i64 0],.tuple #[.int .i64 (dD zl.1),.int .i64 0],.int .i64 (dD zl.1),.int .i64 0,.int .i64 (dD zl.1),.int .i64 0] (λ wq=>Grow v1 wq)
   ·rfl
   ·exact λ _ h=>h
   ·repeat' (first|exact gP|refine fS ?_ ?_)
    iterate 2
     ·refine iC rfl rfl rfl ?_
      intro wq iq
      have hvq:=hvb1.grow iq
      repeat (first|(refine aU ?_;refine bE rfl yB (by exact rfl) rfl ?_)|refine TL.nil ?_)
      exact bB rfl iq
    ·refine iC rfl rfl rfl ?_
     intro wq iq
     repeat (refine aJ ?_)
     refine aL 74 ?_
     refine aI rfl (hlast wq iq) rfl ?_
     rintro _ wr ⟨rfl,hgr⟩
     repeat (refine TL.nil ?_)
     exact bB rfl (iq.trans hgr)
    ·refine iC rfl rfl rfl ?_
     intro wq iq
     repeat (refine aJ ?_)
     refine aL 73 ?_
     refine aI rfl (hat wq iq) rfl ?_
     rintro _ wr ⟨rfl,hgr⟩
     repeat (refine TL.nil ?_)
     exact bB rfl (iq.trans hgr)
    iterate 5
     ·refine iC rfl rfl rfl ?_
      intro wq iq
      repeat (first|(refine aB ?_;refine TL.pure rfl rfl ?_)|(refine aD ?_;refine TL.pure rfl rfl ?_)|refine TL.nil ?_|refine TL.pure rfl rfl ?_)
      exact bB rfl iq
   intro v3 hg13
   refine TL.nil (aA ?_)
   refine cT (e':=[(13,.int .i64 0),(12,.int .i64 (dD zl.1)),(10,.pointer (some ⟨b10,0,none⟩)),(9,.int .i64 (i:Int)),(8,.int .i64 (base:Int)),(7,.slice ta hst.length tc),(6,.pointer (some ⟨bv,0,none⟩)),(5,.pointer (some ⟨L.p,0,none⟩)),(4,.int .i64 0),(0,.slice a l.length c)]) ?_ ⟨rfl,rfl,rfl,rfl,rfl,rfl,rfl,rfl,rfl,rfl,trivial⟩
   have hC3:=hC1.grow hg13
   have hb3:=hb10.grow hg13
   have hk3:=hkl.grow (hgv1.trans hg13)
   clear hlast hat hrs1 hrs2 hvb1 htx1 hix hzq
   refine fJ 3 (λ e' v'=>∃ (g':Pg) (root':Option Nat) (lv':Nat) (l':dS) (ps':List Nat) (x0 e0:Int),Sub [(15,.int .i64 e0),(14,.int .i64 x0),(12,.int .i64 (dD zl.1)),(9,.int .i64 (i:Int)),(8,.int .i64 (base:Int)),(7,.slice ta hst.length tc),(6,.pointer (some ⟨bv,0,none⟩)),(5,.pointer (some ⟨L.p,0,none⟩)),(4,.int .i64 0),(0,.slice a l.length c)] e' ∧
    ((e0=0∧x0=dD root')∨(e0≠0∧root'=zl.1))∧Lv w v' bv L0.p i L g' base ra rc (.slice ta hst.length tc) hst∧TrAt g' root' lv' l' ps'∧l'.length≤i+1) ?_ ?_
   rotate_left
   ·have hlv:=hzt.levels (k:=3) (by omega) (by omega)
    have hlts:=hC3.pg.at_.lts
    cases hout:x.2.2.2 with
    | true =>
     rw [hout] at hb3
     repeat (first|(refine aB ?_;refine TL.pure rfl rfl ?_)|(refine aD ?_;refine TL.pure rfl rfl ?_)|refine aK rfl yM rfl ?_|refine aF rfl rfl ?_|refine TL.nil ?_|refine aA ?_|refine aJ ?_|refine aC ?_|(refine aH ?_;refine aR rfl yD rfl ?_)|refine aN rfl ?_|refine aE rfl ?_|refine aV ?_|refine bH ?_|refine cQ ?_)
     refine aL 20 ?_
     refine aI rfl (own_c _ ka x.2.2.1.length kc x.2.2.1 _ hk3 (by omega)) rfl ?_
     rintro vk v7 ⟨hown7,hg7⟩
     obtain ⟨a7,c7,rfl,hs7⟩:=cE hown7
     have hC7:=hC3.grow hg7
     repeat (refine aJ ?_)
     refine aL 19 ?_
     refine aI rfl (del_all hC7.pg hzt (by omega) a7 x.2.2.1.length c7 x.2.2.1 (hs7.mono λ k hk=>λ hS=>by have:=hk.1;unfold PL.S at hS;omega)) rfl ?_
     rintro u v8 ⟨root',g',lv',l',ps',hD⟩
     obtain ⟨⟨x0,e0,rfl,hor⟩,hpg,hext,htr,hlen,hbut⟩:=hD
     repeat (first|(refine aB ?_;refine TL.pure rfl rfl ?_)|(refine aD ?_;refine TL.pure rfl rfl ?_)|refine TL.nil ?_|refine TL.pure rfl rfl ?_|refine bH ?_|refine cR ?_)
     exact ⟨g',root',lv',l',ps',x0,e0,⟨rfl,rfl,rfl,rfl,rfl,rfl,rfl,rfl,rfl,rfl,trivial⟩,hor,hC7.buts hpg hext hbut,htr,by omega⟩
    | false =>
     rw [hout] at hb3
     have hcv:IntKind.u8.wrap (i:Int)=(i:Int):=eW (M:=256) rfl (by omega)
     repeat (first|(refine aB ?_;refine TL.pure rfl rfl ?_)|(refine aD ?_;refine TL.pure rfl rfl ?_)|refine aK rfl yM rfl ?_|refine aF rfl rfl ?_|refine TL.nil ?_|refine aA ?_|refine aJ ?_|refine aC ?_|(refine aH ?_;refine aR rfl yD rfl ?_)|refine aE rfl ?_|refine aV ?_|refine bH ?_|refine cQ ?_)
     refine aL 20 ?_
     refine aI rfl (own_c _ ka x.2.2.1.length kc x.2.2.1 _ hk3 (by omega)) rfl ?_
     rintro vk v7 ⟨hown7,hg7⟩
     obtain ⟨a7,c7,rfl,hs7⟩:=cE hown7
     repeat (first|(refine aB ?_;refine TL.pure rfl rfl ?_)|(refine cZ ?_;refine eV rfl rfl (by omega) rfl ?_))
     refine TL.buildSlice rfl rfl rfl rfl rfl ?_
     intro b8 w8 hg8 hb8 hs8 hs8' hs8''
     have hC8:=hC3.grow (hg7.trans hg8)
     have z7:=hg7.size
     have hkk:Sl (λ k=>¬ L.S k) w8 1 a7 x.2.2.1.length c7 (cX x.2.2.1):=(hs7.grow hg8).mono λ k hk=>λ hS=>by have:=hk.1;unfold PL.S at hS;omega
     have hvv:Sl (λ k=>¬ L.S k) w8 1 (some ⟨b8,0,none⟩) 1 1 (cX [i]):=(bR (sz:=1) (m:=1) (show Blk w8 b8 5 (cX [i]) from hb8) rfl (by decide)).mono (λ k hk=>by subst hk;exact λ hS=>by unfold PL.S at hS;omega)
     repeat (refine aJ ?_)
     refine aL 25 ?_
     refine aI rfl (put_all hC8.pg hzt (by omega) a7 (some ⟨b8,0,none⟩) x.2.2.1.length c7 1 1 x.2.2.1 [i] hkk hvv hxb (λ y hy=>by simp only [List.mem_singleton] at hy;omega)) rfl ?_
     rintro u v9 ⟨root',g',lv',l',ps',hD⟩
     obtain ⟨⟨x0,e0,rfl,hor⟩,hpg,hext,htr,hlen,hbut⟩:=hD
     repeat (first|(refine aB ?_;refine TL.pure rfl rfl ?_)|(refine aD ?_;refine TL.pure rfl rfl ?_)|refine TL.nil ?_|refine TL.pure rfl rfl ?_|refine bH ?_|refine cR ?_)
     exact ⟨g',root',lv',l',ps',x0,e0,⟨rfl,rfl,rfl,rfl,rfl,rfl,rfl,rfl,rfl,rfl,trivial⟩,hor,hC8.buts hpg hext hbut,htr,by omega⟩
   rintro e1 v4 ⟨g',root',lv',l',ps',x0,e0,hsub,hor,hC4,htr,hlen⟩
   refine cT (e':=[(15,.int .i64 e0),(14,.int .i64 x0),(12,.int .i64 (dD zl.1)),(9,.int .i64 (i:Int)),(8,.int .i64 (base:Int)),(7,.slice ta hst.length tc),(6,.pointer (some ⟨bv,0,none⟩)),(5,.pointer (some ⟨L.p,0,none⟩)),(4,.int .i64 0),(0,.slice a l.length c)]) ?_ hsub
   clear hsub e1 hC1 hC3 hb10 hb3 hk3
   refine fJ 1 (λ e' v'=>Sub [(14,.int .i64 (dD root')),(9,.int .i64 (i:Int)),(8,.int .i64 (base:Int)),(7,.slice ta hst.length tc),(6,.pointer (some ⟨bv,0,none⟩)),(5,.pointer (some ⟨L.p,0,none⟩)),(4,.int .i64 0),(0,.slice a l.length c)] e'∧v4=v') ?_ ?_
   rotate_left
   ·rcases hor with ⟨rfl,rfl⟩|⟨hne,rfl⟩
    ·repeat (first|(refine aB ?_;refine TL.pure rfl rfl ?_)|refine TL.nil ?_|refine aA ?_|refine aJ ?_|refine aC ?_|(refine aH ?_;refine aR rfl yD rfl ?_)|refine aE rfl ?_|refine aV ?_|refine bH ?_|refine cQ ?_|refine cR ?_)
     exact ⟨⟨rfl,rfl,rfl,rfl,rfl,rfl,rfl,rfl,trivial⟩,rfl⟩
    ·have hnz:(e0 != 0)=true:=by simpa using hne
     repeat (first|(refine aB ?_;refine TL.pure rfl rfl ?_)|(refine aD ?_;refine TL.pure rfl rfl ?_)|refine TL.nil ?_|refine aA ?_|refine aJ ?_|refine aC ?_|(refine aH ?_;refine bA rfl yD rfl ?_)|refine aN rfl ?_|refine bH ?_|refine cQ ?_|refine cR ?_)
     exact ⟨⟨rfl,rfl,rfl,rfl,rfl,rfl,rfl,rfl,trivial⟩,rfl⟩
   rintro e1 _ ⟨hsub,rfl⟩
   refine cT (e':=[(14,.int .i64 (dD root')),(9,.int .i64 (i:Int)),(8,.int .i64 (base:Int)),(7,.slice ta hst.length tc),(6,.pointer (some ⟨bv,0,none⟩)),(5,.pointer (some ⟨L.p,0,none⟩)),(4,.int .i64 0),(0,.slice a l.length c)]) ?_ hsub
   clear hsub e1
   have hvb4:=hC4.vb
   have hrs4:=hC4.vs
   rw [gI] at hrs4
   have hne0:fL hst≠[]:=by intro e;have:=congrArg List.length e;rw [fV] at this;simp only [List.length_nil] at this;omega
   have hlv':=htr.levels (k:=3) (by omega) (by omega)
   repeat (first|(refine aB ?_;refine TL.pure rfl rfl ?_)|(refine aU ?_;refine bE rfl yB (by exact rfl) rfl ?_)|refine aJ ?_|refine aC ?_)
   refine aL 75 ?_
   refine aI rfl (vers.push_c _ (base:Int) (dD root') ra hst.length rc _ v4 hrs4 (vok_roots hne0 (by rw [fV];omega)) (rootI_ge _) (by omega)) rfl ?_
   rintro _ v5 ⟨a5,n5,c5,rfl,hs5,hg5⟩
   rw [vpush hst (root',lv',l',ps')] at hs5
   have hvb5:=hvb4.grow hg5
   repeat (first|(refine aB ?_;refine TL.pure rfl rfl ?_)|(refine aD ?_;refine TL.pure rfl rfl ?_)|refine TL.nil ?_|refine aA ?_|refine aC ?_|(refine aP ?_;(refine aY rfl rfl yB (by exact rfl) (by exact rfl) (by exact rfl) ?_;intro w' hu hbk hsz))|refine TL.pure rfl rfl ?_)
   have hp6:=hC4.pgU hg5 hu
   have hu6:=hu
   have hbk6:=hbk
   have htx6:=(hC4.tx.grow hg5).keep (λ k hk=>hu6.block k (hC4.tn k hk).2.2)
   refine aL 76 ?_
   refine aI rfl (text_c hp6.at_ htr (by omega) (by omega)) rfl ?_
   rintro _ v7 ⟨rfl,hg7⟩
   repeat (refine aJ ?_)
   refine TL.buildSlice rfl rfl rfl rfl rfl ?_
   intro b8 v8 hg8 hb8 hs8 hs8' hs8''
   have htx8:=(htx6.grow hg7).grow hg8
   have hsl8:Sl (λ k=>k=b8) v8 1 (some ⟨b8,0,none⟩) 1 1 [.string (txt (jA l'))]:=bR (sz:=1) (m:=1) (show Blk v8 b8 9 [.string (txt (jA l'))] from hb8) rfl (by decide)
   have hz5:=hg5.size
   have hz6:=hu6.size
   have hz7:=hg7.size
   have hz8:=hg8.size
   have hzw4:=hC4.gr.size
   refine lG ?_
   refine TL.append1O rfl rfl htx8 hsl8 rfl (by rw [hQ];unfold maxLen;omega) (by rw [hQ];omega) (by omega) rfl ?_
   intro tv' v9 htx9 hgb9 hob9
   repeat (first|(refine aD ?_;refine TL.pure rfl rfl ?_)|refine TL.nil ?_|refine aT ?_|refine bH ?_|refine cR ?_)
   exact ⟨base,tv',⟨rfl,rfl,rfl,rfl,rfl,rfl,rfl,trivial⟩,L,g',a5,c5,hst++[(root',lv',l',ps')],hC4.push hg5 hu6 hbk6 hs5 (hg7.trans hg8) hgb9 (by simpa [textsV] using htx9) hob9 ⟨htr,hlen⟩⟩
  rintro e1 v2 ⟨base',tv',hsub,L',g',ra',rc',hst',hC2⟩
  have hLp:=hC.p
  clear hC hC1 htsl
  obtain ⟨ta',tc',htv,htsl⟩:=hC2.tx.sl
  rw [hQ] at htv htsl
  subst htv
  refine cT (e':=[(9,.int .i64 (i:Int)),(8,.int .i64 (base':Int)),(7,.slice ta' hst'.length tc'),(6,.pointer (some ⟨bv,0,none⟩)),(5,.pointer (some ⟨L.p,0,none⟩)),(4,.int .i64 0),(0,.slice a l.length c)]) ?_ hsub
  clear hsub e1
  have hvb:=hC2.vb
  have hrs:=hC2.vs
  rw [gI] at hrs
  have hsz2:=hC2.sz
  have hne2:=List.length_pos_iff.2 hC2.ne
  have hlast:=vers.last_c _ (base':Int) ra' hst'.length rc' _ v2 hrs
  rw [last_in hC2.ne (by omega)] at hlast
  repeat (first|refine aX rfl rfl rfl ?_|(refine aB ?_;refine TL.pure rfl rfl ?_)|(refine aU ?_;first|refine aK rfl yM rfl ?_|refine bE rfl yB (by exact rfl) rfl ?_)|refine aF rfl rfl ?_|refine aJ ?_|refine aC ?_|(refine aH ?_;refine aR rfl yD rfl ?_)|refine TL.pure rfl rfl ?_)
  refine aL 74 ?_
  refine aI rfl hlast rfl ?_
  rintro _ v3 ⟨rfl,hg3⟩
  repeat (first|refine aX rfl rfl rfl ?_|(refine aB ?_;refine TL.pure rfl rfl ?_)|(refine aD ?_;refine TL.pure rfl rfl ?_)|(refine bJ ?_;refine bT rfl rfl (by omega) rfl ?_)|(refine cJ ?_;refine dI rfl rfl (by omega) (by omega) rfl ?_)|refine TL.nil ?_|refine aA ?_|refine aC ?_|refine aT ?_|(refine aH ?_;refine aR rfl yD rfl ?_)|refine aO rfl rfl ?_|refine aE rfl ?_|refine aV ?_|refine TL.pure rfl rfl ?_)
  exact bG (i+1,base',.slice ta' hst'.length tc') ⟨rfl,rfl,rfl,rfl,by rw [← hLp];rfl,rfl,rfl,trivial⟩ ⟨by simp only;omega,_,_,_,_,_,hC2.grow hg3⟩ (by simp only;omega)
 ·obtain rfl:i=l.length:=by omega
  have hvb:=hC.vb
  have hsz:=hC.sz
  have hne:=hC.ne
  repeat (first|(refine aB ?_;refine TL.pure rfl rfl ?_)|(refine aU ?_;refine bE rfl yB (by exact rfl) rfl ?_)|refine TL.nil ?_|refine aA ?_|refine aJ ?_|refine aC ?_|(refine aH ?_;refine aR rfl yD rfl ?_)|refine aO rfl rfl ?_|refine aE rfl ?_|refine cN ?_|refine bM ?_|refine bO ?_|refine bN ?_)
  refine aL 72 ?_
  refine aI rfl (swept_c hC.pg (hC.hsOk (by omega)) hC.vs (λ k hk e=>hk.1 (.inr (.inr e))) rfl hC.ne (by omega)) rfl ?_
  rintro _ v2 ⟨rfl,L',qs,e1,e2,e3,e4,e5,hpg,hused,hok,hb⟩
  have hC2:=hC.sweep e1 e2 e3 e5 hpg hok hb
  clear hC hb hvb
  rw [← e1]
  obtain ⟨ta,tc,htv,htsl⟩:=hC2.tx.sl
  rw [hQ] at htv htsl
  subst htv
  repeat (first|(refine aD ?_;refine TL.pure rfl rfl ?_)|refine TL.nil ?_|refine aA ?_|refine aJ ?_|refine aC ?_|refine T.block ?_|refine aE rfl ?_|refine aV ?_|refine TL.pure rfl rfl ?_)
  refine cM (S:=Nat) (λ j=>[(16,.int .i64 (j:Int)),(8,.int .i64 (base:Int)),(7,.slice ta hst.length tc),(6,.pointer (some ⟨bv,0,none⟩)),(5,.pointer (some ⟨L'.p,0,none⟩))])
   (λ j v=>j≤hst.length∧Grow v2 v) (λ j=>hst.length-j) 0 ⟨rfl,rfl,rfl,rfl,rfl,trivial⟩ ⟨Nat.zero_le _,Grow.refl _⟩ ?_
  rintro j v3 ⟨hj,hg23⟩
  have hC3:=hC2.grow hg23
  have hvb3:=hC3.vb
  by_cases hjl:j<hst.length
  ·obtain ⟨z,hz⟩:∃ q,hst[j]? = some q:=⟨_,List.getElem?_eq_getElem hjl⟩
   have hzm:=List.mem_of_getElem? hz
   obtain ⟨hzt,hzl⟩:=hC3.ok z hzm
   have hrs3:=hC3.vs
   rw [gI] at hrs3
   have hat:=at_in (base:=base) hz (by omega)
   have hcall:=vers.at_c (Fq L' bv (.slice ta hst.length tc)) (base:Int) ((base+j:Nat):Int) ra hst.length rc _ v3 hrs3 (by omega) (by omega)
   rw [hat] at hcall
   repeat (first|(refine aB ?_;refine TL.pure rfl rfl ?_)|(refine aU ?_;refine bE rfl yB (by exact rfl) rfl ?_)|(refine bJ ?_;refine bT rfl rfl (by omega) rfl ?_)|refine TL.nil ?_|refine aA ?_|refine aJ ?_|refine aC ?_|refine T.block ?_|(refine aH ?_;refine bA rfl yD rfl ?_)|refine aO rfl rfl ?_|refine aN rfl ?_|refine aV ?_)
   refine aL 73 ?_
   refine aI rfl hcall rfl ?_
   rintro _ v4 ⟨rfl,hg34⟩
   have hC4:=hC3.grow hg34
   have hlv:=hzt.levels (k:=3) (by omega) (by omega)
   have hT:=λ wq (iq:Grow v4 wq)=>text_c (hC4.grow iq).pg.at_ hzt (by omega) (by omega)
   have htx:=λ wq (iq:Grow v4 wq)=>htsl.grow ((hg23.trans hg34).trans iq)
   have hcx:∀ wq,Grow v4 wq→wq.cell? (at' ta j)=some (.string (txt (jA z.2.2.1))):=λ wq iq=>(htx wq iq).row.cell (by simp [textsV,hz])
   have hg24:=hg23.trans hg34
   clear hrs3 hcall hvb3 hC3 hg34 hg23
   repeat (first|(refine aB ?_;refine TL.pure rfl rfl ?_)|(refine aD ?_;refine TL.pure rfl rfl ?_)|refine TL.nil ?_|refine aA ?_|refine aJ ?_|refine TL.pure rfl rfl ?_)
   refine cT (e':=[(18,.int .i64 0),(17,.int .i64 (dD z.1)),(16,.int .i64 (j:Int)),(8,.int .i64 (base:Int)),(7,.slice ta hst.length tc),(6,.pointer (some ⟨bv,0,none⟩)),(5,.pointer (some ⟨L'.p,0,none⟩))]) ?_ ⟨rfl,rfl,rfl,rfl,rfl,rfl,rfl,trivial⟩
   apply T.det 12 [.int .i64 0,.bool false,.bool false,.pointer (some ⟨L'.p,0,none⟩),.int .i64 (dD z.1),.string (txt (jA z.2.2.1)),.slice ta hst.length tc,.int .i64 (j:Int),.pointer (some (at' ta j)),.string (txt (jA z.2.2.1)),.bool false,.bool false] (λ wq=>Grow v4 wq)
   ·rfl
   ·exact λ _ h=>h
   ·repeat' (first|exact gP|refine fS ?_ ?_)
    iterate 5
     ·first|refine iC rfl rfl rfl ?_|refine det_mkG rfl rfl rfl ?_
      intro wq iq
      repeat (first|refine aX rfl rfl rfl ?_|(refine aB ?_;refine TL.pure rfl rfl ?_)|refine TL.nil ?_|(refine aH ?_;refine aR rfl yD rfl ?_))
      exact bB rfl iq
    ·refine det_mkG rfl rfl rfl ?_
     intro wq iq
     repeat (refine aX rfl rfl rfl ?_)
     refine aL 76 ?_
     refine aI rfl (hT wq iq) rfl ?_
     rintro _ wr ⟨rfl,hgr⟩
     repeat (refine TL.nil ?_)
     exact bB rfl (iq.trans hgr)
    iterate 2
     ·refine det_mkG rfl rfl rfl ?_
      intro wq iq
      repeat (first|refine aX rfl rfl rfl ?_|(refine aB ?_;refine TL.pure rfl rfl ?_)|refine TL.nil ?_)
      exact bB rfl iq
    ·refine det_mkG rfl rfl rfl ?_
     intro wq iq
     repeat (first|(refine bF ?_;refine aW (j:=j) rfl rfl rfl hjl (Nat.mul_one _) ⟨_,_,htx wq iq⟩ rfl ?_)|refine aX rfl rfl rfl ?_|refine TL.nil ?_)
     exact bB rfl iq
    ·refine det_mkG rfl rfl rfl ?_
     intro wq iq
     have hc:=hcx wq iq
     repeat (first|refine aX rfl rfl rfl ?_|refine aK rfl yM rfl ?_|refine TL.nil ?_)
     exact bB rfl iq
    ·refine det_mkG rfl rfl rfl ?_
     intro wq iq
     repeat (first|(refine aH ?_;refine TL.neS (s:=txt (jA z.2.2.1)) (t:=txt (jA z.2.2.1)) (b:=false) rfl rfl (by simp) rfl ?_)|refine aX rfl rfl rfl ?_|refine TL.nil ?_)
     exact bB rfl iq
    ·refine iC rfl rfl rfl ?_
     intro wq iq
     repeat (first|refine TL.nil ?_|refine TL.pure rfl rfl ?_)
     exact bB rfl iq
   intro v5 hg45
   repeat (first|(refine aB ?_;refine TL.pure rfl rfl ?_)|(refine aD ?_;refine TL.pure rfl rfl ?_)|(refine bJ ?_;refine bT rfl rfl (by omega) rfl ?_)|refine TL.nil ?_|refine aA ?_|refine aC ?_|refine aT ?_|refine aE rfl ?_|refine aV ?_)
   exact bG (j+1) ⟨rfl,rfl,rfl,rfl,rfl,trivial⟩ ⟨by omega,hg24.trans hg45⟩ (by omega)
  ·repeat (first|(refine aB ?_;refine TL.pure rfl rfl ?_)|(refine aD ?_;refine TL.pure rfl rfl ?_)|refine TL.nil ?_|refine aA ?_|refine aJ ?_|refine aC ?_|(refine aH ?_;refine aR rfl yD rfl ?_)|refine aO rfl rfl ?_|refine aE rfl ?_|refine bC ?_|refine cN ?_|refine bM ?_|refine bO ?_|refine bN ?_)
   exact cF rfl ⟨_,rfl,rfl,hC3.gr⟩
end Go.Proofs.YtfpadnmdafiddaaGreatDoor
