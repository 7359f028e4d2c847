import Derived.Test.YtfpadnmdafiddaaGreatDoorMJ
import Derived.Test.YtfpadnmdafiddaaGreatDoorMI
import Derived.Test.YtfpadnmdafiddaaGreatDoorMj
import Derived.Test.YtfpadnmdafiddaaGreatDoorMK
set_option linter.all false
set_option maxHeartbeats 16000000
set_option maxRecDepth 100000
namespace Go.Proofs.YtfpadnmdafiddaaGreatDoor
open Go Go.RowKit Go.V
instance:KeyIs Tryz.prog 9 keyS okS:=keyS_is (by infer_instance)
theorem spare_pg0 (c:Nat):bZ (pg0 c)=c:=by
 have:gT (pg0 c)=0:=by
  unfold gT
  rw [List.length_eq_zero_iff,List.filter_eq_nil_iff]
  intro n _
  rw [pg0_none];simp
 unfold bZ
 rw [this]
 rfl
theorem pick_c (n:Int) (m:Nat) (h0:0<m) (hm:m<9223372036854775808) (w:World):Calls Tryz.prog 18 #[.int .i64 n,.int .i64 (m:Int)] w (Ret λ v w'=>(∃ r:Nat,v=.int .i64 (r:Int)∧r<m)∧w'=w):=by
 refine V.calls (args:=[_,_]) Tryz.func18 rfl Tryz.ntmps18 rfl rfl ?_
 have h1 : -(m:Int)<n.tmod m:=by
  have:=Int.lt_tmod_of_pos n (show (0:Int)<m by omega);omega
 have h2:n.tmod m<m:=Int.tmod_lt_of_pos n (by omega)
 repeat (first|(refine aB ?_;refine TL.pure rfl rfl ?_)|(refine aD ?_;refine TL.pure rfl rfl ?_)|refine TL.nil ?_|refine aA ?_|refine aJ ?_|refine aC ?_|(refine aH ?_;refine TL.pure rfl rfl ?_)|refine gO rfl yD ?_|refine aW ?_)
 refine TL.rem rfl rfl (by omega) rfl ?_
 generalize n.tmod m=r at *
 by_cases hr:r<0
 ·obtain ⟨s,hs⟩:∃ s:Nat,r+m=s:=⟨(r+m).toNat,by omega⟩
  repeat (first|(refine aB ?_;refine TL.pure rfl rfl ?_)|(refine aD ?_;refine TL.pure rfl rfl ?_)|(refine bL ?_;refine TL.addI rfl rfl (by omega) (by omega) rfl ?_)|refine TL.nil ?_|refine aA ?_|refine aJ ?_|refine aC ?_|(refine aH ?_;refine TL.pure rfl rfl ?_)|refine fP rfl yD ?_|refine bE ?_)
  exact cI rfl ⟨_,rfl,⟨s,by rw [hs],by omega⟩,rfl⟩
 ·obtain ⟨s,rfl⟩:∃ s:Nat,r=s:=⟨r.toNat,by omega⟩
  repeat (first|(refine aB ?_;refine TL.pure rfl rfl ?_)|(refine aD ?_;refine TL.pure rfl rfl ?_)|refine TL.nil ?_|refine aA ?_|refine aJ ?_|refine aC ?_|(refine aH ?_;refine TL.pure rfl rfl ?_)|refine aE rfl ?_|refine bE ?_|refine aW ?_)
  exact cI rfl ⟨_,rfl,⟨s,rfl,by omega⟩,rfl⟩
theorem started_c (n:Nat) (w:World) (h1:1≤n) (hn:n≤8192) :
  Calls Tryz.prog 15 #[.int .i64 (n:Int)] w (Ret λ v w'=>∃ L:PL,v=.tuple #[.pointer (some ⟨L.p,0,none⟩),.bool true]∧(∀ b,b=L.p∨b=L.d∨b=L.u∨b=L.m→w.heap.size≤b)∧PgAt w' L (pg0 n)∧Grow w w'):=by
 refine V.calls (args:=[_]) Tryz.func15 rfl Tryz.ntmps15 rfl rfl ?_
 repeat (first|(refine aB ?_;refine TL.pure rfl rfl ?_)|(refine aD ?_;refine TL.pure rfl rfl ?_)|(refine hE ?_;refine hY rfl rfl (by omega) rfl ?_)|refine TL.nil ?_|refine aA ?_|refine aJ ?_|refine aC ?_)
 refine aL 67 ?_
 refine aI rfl (dnew_c (2*n) w (by omega) (by omega)) rfl ?_
 rintro _ w1 ⟨d,s,m,rfl,hd,hm,hdk,hg1⟩
 repeat (first|(refine aB ?_;refine TL.pure rfl rfl ?_)|(refine aD ?_;refine TL.pure rfl rfl ?_)|refine TL.nil ?_|refine aA ?_|refine aJ ?_|refine aC ?_|(refine aH ?_;refine aQ rfl yD rfl ?_)|refine aE rfl ?_|refine aW ?_|refine TL.pure rfl rfl ?_)
 refine aL 68 ?_
 refine aI rfl (open_c hdk h1 hn) rfl ?_
 rintro _ w2 ⟨L,rfl,hLd,hLm,hLp,hLu,hpg,hg2⟩
 have z1:=hg1.size
 repeat (first|(refine dW 25 ?_;refine TL.neNilP rfl rfl rfl ?_)|refine aU rfl rfl rfl ?_|(refine aB ?_;refine TL.pure rfl rfl ?_)|(refine aD ?_;refine TL.pure rfl rfl ?_)|refine TL.nil ?_|refine aA ?_|refine aJ ?_|refine aC ?_|(refine aH ?_;refine aZ rfl yD rfl ?_)|refine bE ?_|refine TL.pure rfl rfl ?_)
 exact jM rfl rfl ⟨_,rfl,L,rfl,λ b hb=>by omega,hpg,hg1.trans hg2⟩
def iL (l:dO):Bs:=l.flatMap λ x=>x.1++[61]++x.2++[59]
theorem toldB_len (l:dO) (h:∀ x∈l,x.1.length≤16∧x.2.length≤32):(iL l).length≤50*l.length:=by
 induction l with
 | nil=>simp [iL]
 | cons x r ih =>
  have h1:=h x (by simp)
  have h2:=ih (λ y hy=>h y (List.mem_cons_of_mem _ hy))
  simp only [iL,List.flatMap_cons,List.length_append,List.length_cons,List.length_nil] at h2 ⊢
  omega
theorem told_c {w:World} {L:PL} {g:Pg} (h:PgAt w L g) {root:Option Nat} {lv:Nat} {l:dO} {ps:List Nat} (ht:TrAt g root lv l ps) (hlv:lv≤16) (hl:l.length≤10000) :
  Calls Tryz.prog 17 #[.pointer (some ⟨L.p,0,none⟩),.int .i64 (dF root)] w (Ret λ v w'=>v=.tuple #[.string (iH (iL l)),.int .i64 (l.length:Int)]∧Grow w w'):=by
 obtain ⟨M,hM,hd,_⟩:=tree_tr ht hlv
 have hrl:∀ n,root=some n→n<4294967296:=λ n e=>by subst e;have:=ht.lt h.ok;omega
 have hik:∀ x∈l,x.1.length≤16∧x.2.length≤32:=λ x hx=>⟨(gJ (ht.items x hx).1).2,jA (ht.items x hx).2⟩
 refine V.calls (args:=[_,_]) Tryz.func17 rfl Tryz.ntmps17 rfl rfl ?_
 repeat (first|(refine aB ?_;refine TL.pure rfl rfl ?_)|(refine aD ?_;refine TL.pure rfl rfl ?_)|refine TL.nil ?_|refine aA ?_|refine aJ ?_|refine aC ?_)
 refine aL 27 ?_
 refine aI rfl (all_c h hrl hM l (by omega) hd (λ e=>ht.empty.1 e)) rfl ?_
 rintro _ w1 ⟨⟨a,c,rfl,hit⟩,hg1⟩
 repeat (first|(refine aB ?_;refine TL.pure rfl rfl ?_)|(refine aD ?_;refine TL.pure rfl rfl ?_)|refine TL.nil ?_|refine aA ?_|refine aJ ?_|refine aC ?_|refine T.block ?_|(refine aH ?_;refine aQ rfl yD rfl ?_)|refine aE rfl ?_|refine aW ?_|refine TL.pure rfl rfl ?_)
 obtain ⟨cs,hcs,hcc⟩:=hit.ex
 refine cU (S:=Nat) (λ i=>[(9,.int .i64 (i:Int)),(8,.string (iH (iL (l.take i)))),(6,.slice a l.length c)])
  (λ i w2=>i≤l.length∧Grow w1 w2) (λ i=>l.length-i) 0 ⟨rfl,rfl,rfl,trivial⟩ ⟨Nat.zero_le _,Grow.refl _⟩ ?_
 rintro i w2 ⟨hi,hg2⟩
 by_cases hlt:i<l.length
 ·obtain ⟨el,hel⟩:∃ q,l[i]? = some q:=⟨_,List.getElem?_eq_getElem hlt⟩
  obtain ⟨h16,h32⟩:=hik el (List.mem_of_getElem? hel)
  obtain ⟨kv,vv,f0,f1,hk,hv⟩:=(hcc.go (Carry.grow hg2)).at' hel
  have hcs2:=hcs.grow hg2
  obtain ⟨ka,kc,rfl,hks⟩:=hk.sl
  obtain ⟨va,vc,rfl,hvs⟩:=hv.sl
  rw [Nat.mul_comm] at f0 f1
  have hlen:(iL (l.take i)).length≤500000:=by
   have:=toldB_len (l.take i) (λ x hx=>hik x (List.mem_of_mem_take hx))
   have:=List.length_take_le i l
   omega
  have hstep:iL (l.take (i+1))=iL (l.take i)++(el.1++[61]++el.2++[59]):=by
   rw [List.take_add_one,hel]
   simp only [iL,List.flatMap_append,Option.toList_some,List.flatMap_cons,List.flatMap_nil,List.append_nil]
  generalize hs:iL (l.take i)=s at *
  repeat (first|(refine aB ?_;refine TL.pure rfl rfl ?_)|refine TL.nil ?_|refine aA ?_|refine aJ ?_|refine aC ?_|refine T.block ?_|(refine aH ?_;refine aZ rfl yD rfl ?_)|refine aO rfl rfl ?_|refine aM rfl ?_|refine aW ?_)
  apply T.any 17 [is (.string (iH s)),is (.slice a l.length c),is (.int .i64 (i:Int)),is (.pointer (some (at' a (i*2)))),is (.pointer (some (at' a (i*2)))),is (.slice ka el.1.length kc),is (.string (iH el.1)),is (.string (iH (s++el.1))),is (.string (iH (s++el.1++[61]))),
   is (.slice a l.length c),is (.int .i64 (i:Int)),is (.pointer (some (at' a (i*2)))),is (.pointer (some (at' a (i*2+1)))),is (.slice va el.2.length vc),is (.string (iH el.2)),is (.string (iH (s++el.1++[61]++el.2))),is (.string (iH (s++el.1++[61]++el.2++[59])))]
  ·rfl
  ·repeat' (first|exact bW|refine bU ?_ ?_)
   iterate 3
    ·(refine aR rfl rfl rfl ?_);( intro wq _ _ hgq;(repeat (refine aG rfl rfl ?_;intro vq hvq;try (obtain rfl:=hvq)));(refine aN ?_))
     repeat (first|(refine aB ?_;refine TL.pure rfl rfl ?_)|refine TL.nil ?_)
     exact aT rfl yG rfl
   ·(refine aR rfl rfl rfl ?_);( intro wq _ _ hgq;(repeat (refine aG rfl rfl ?_;intro vq hvq;try (obtain rfl:=hvq)));(refine aN ?_))
    repeat (first|(refine bC ?_;refine aV (j:=i) rfl rfl rfl hlt rfl ⟨_,_,hcs2.grow hgq⟩ rfl ?_)|refine TL.nil ?_)
    exact aT rfl yG rfl
   ·(refine aR rfl rfl rfl ?_);( intro wq _ _ hgq;(repeat (refine aG rfl rfl ?_;intro vq hvq;try (obtain rfl:=hvq)));(refine aN ?_))
    repeat (first|(refine dU ?_;refine dV (o:=i*2) rfl (hcs2.grow hgq) f0 rfl ?_)|refine TL.nil ?_)
    exact aT rfl yG rfl
   ·(refine aR rfl rfl rfl ?_);( intro wq _ _ hgq;(repeat (refine aG rfl rfl ?_;intro vq hvq;try (obtain rfl:=hvq)));(refine aN ?_))
    have hcx:wq.cell? (at' a (i*2))=some (.slice ka el.1.length kc):=(hcs2.grow hgq).row.cell f0
    repeat (first|refine aK rfl yM rfl ?_|refine TL.nil ?_)
    exact aT rfl yG rfl
   ·(refine aR rfl rfl rfl ?_);( intro wq _ _ hgq;(repeat (refine aG rfl rfl ?_;intro vq hvq;try (obtain rfl:=hvq)));(refine aN ?_))
    refine gA rfl (hks.grow hgq) rfl ?_
    repeat (refine TL.nil ?_)
    exact aT rfl yG rfl
   ·(refine aR rfl rfl rfl ?_);( intro wq _ _ hgq;(repeat (refine aG rfl rfl ?_;intro vq hvq;try (obtain rfl:=hvq)));(refine aN ?_))
    refine TL.addS rfl rfl (by omega) rfl ?_
    repeat (refine TL.nil ?_)
    exact aT rfl yG rfl
   ·(refine aR rfl rfl rfl ?_);( intro wq _ _ hgq;(repeat (refine aG rfl rfl ?_;intro vq hvq;try (obtain rfl:=hvq)));(refine aN ?_))
    refine TL.addS (r:=[61]) rfl rfl (by simp only [List.length_append,List.length_cons,List.length_nil];omega) rfl ?_
    repeat (refine TL.nil ?_)
    exact aT rfl yG rfl
   iterate 2
    ·(refine aR rfl rfl rfl ?_);( intro wq _ _ hgq;(repeat (refine aG rfl rfl ?_;intro vq hvq;try (obtain rfl:=hvq)));(refine aN ?_))
     repeat (first|(refine aB ?_;refine TL.pure rfl rfl ?_)|refine TL.nil ?_)
     exact aT rfl yG rfl
   ·(refine aR rfl rfl rfl ?_);( intro wq _ _ hgq;(repeat (refine aG rfl rfl ?_;intro vq hvq;try (obtain rfl:=hvq)));(refine aN ?_))
    repeat (first|(refine bC ?_;refine aV (j:=i) rfl rfl rfl hlt rfl ⟨_,_,hcs2.grow hgq⟩ rfl ?_)|refine TL.nil ?_)
    exact aT rfl yG rfl
   ·(refine aR rfl rfl rfl ?_);( intro wq _ _ hgq;(repeat (refine aG rfl rfl ?_;intro vq hvq;try (obtain rfl:=hvq)));(refine aN ?_))
    repeat (first|(refine dU ?_;refine dV (o:=i*2) rfl (hcs2.grow hgq) f0 rfl ?_)|refine TL.nil ?_)
    exact aT rfl yG rfl
   ·(refine aR rfl rfl rfl ?_);( intro wq _ _ hgq;(repeat (refine aG rfl rfl ?_;intro vq hvq;try (obtain rfl:=hvq)));(refine aN ?_))
    have hcx:wq.cell? (at' a (i*2+1))=some (.slice va el.2.length vc):=(hcs2.grow hgq).row.cell f1
    repeat (first|refine aK rfl yM rfl ?_|refine TL.nil ?_)
    exact aT rfl yG rfl
   ·(refine aR rfl rfl rfl ?_);( intro wq _ _ hgq;(repeat (refine aG rfl rfl ?_;intro vq hvq;try (obtain rfl:=hvq)));(refine aN ?_))
    refine gA rfl (hvs.grow hgq) rfl ?_
    repeat (refine TL.nil ?_)
    exact aT rfl yG rfl
   ·(refine aR rfl rfl rfl ?_);( intro wq _ _ hgq;(repeat (refine aG rfl rfl ?_;intro vq hvq;try (obtain rfl:=hvq)));(refine aN ?_))
    refine TL.addS rfl rfl (by simp only [List.length_append,List.length_cons,List.length_nil];omega) rfl ?_
    repeat (refine TL.nil ?_)
    exact aT rfl yG rfl
   ·(refine aR rfl rfl rfl ?_);( intro wq _ _ hgq;(repeat (refine aG rfl rfl ?_;intro vq hvq;try (obtain rfl:=hvq)));(refine aN ?_))
    refine TL.addS (r:=[59]) rfl rfl (by simp only [List.length_append,List.length_cons,List.length_nil];omega) rfl ?_
    repeat (refine TL.nil ?_)
    exact aT rfl yG rfl
  ·intro wt lot hit' hgt _ _
   iterate 17 (refine aG rfl rfl ?_;intro vq hvq;try (obtain rfl:=hvq))
   refine aN ?_
   repeat (first|(refine aB ?_;refine TL.pure rfl rfl ?_)|(refine aD ?_;refine TL.pure rfl rfl ?_)|(refine bL ?_;refine bT rfl rfl (by omega) rfl ?_)|refine TL.nil ?_|refine aA ?_|refine aC ?_|refine aS ?_)
   exact bG (i+1) ⟨rfl,by rw [hstep];simp only [← List.append_assoc];rfl,rfl,trivial⟩ ⟨by omega,hg2.trans hgt⟩ (by omega)
 ·have hi2:i=l.length:=by omega
  subst hi2
  repeat (first|(refine aB ?_;refine TL.pure rfl rfl ?_)|(refine aD ?_;refine TL.pure rfl rfl ?_)|refine TL.nil ?_|refine aA ?_|refine aJ ?_|refine aC ?_|(refine aH ?_;refine aQ rfl yD rfl ?_)|refine aO rfl rfl ?_|refine aE rfl ?_|refine bE ?_|refine cV ?_|refine bN ?_|refine bP ?_|refine bO ?_)
  rw [List.take_length]
  exact jM rfl rfl ⟨_,rfl,rfl,hg1.trans hg2⟩
end Go.Proofs.YtfpadnmdafiddaaGreatDoor
namespace Go.Proofs.YtfpadnmdafiddaaGreatDoor
open Go Go.RowKit Go.V
structure PgW (w:World) (L:PL) (g:Pg):Prop where
 at_:PgAt w L g
 tab:TabAt w
 ne0:¬ L.S 0
theorem PgW.grow {w w':World} {L:PL} {g:Pg} (h:PgW w L g) (gr:Grow w w'):PgW w' L g:=⟨h.at_.grow gr,h.tab.keep (gr.block 0 h.tab.1) gr.size,h.ne0⟩
theorem PgW.put {w w':World} {L:PL} {g g':Pg} (h:PgW w L g) (ha:PgAt w' L g') (b:ButS L.S w w'):PgW w' L g':=⟨ha,h.tab.buts b h.ne0,h.ne0⟩
theorem lput_c {w:World} {L:PL} {g:Pg} (h:PgW w L g) {root:Option Nat} {lv:Nat} {l:dO} {ps:List Nat} (ht:TrAt g root lv l ps) (hlv:lv≤16) (hsp:48≤bZ g) (kv:Value) (key:Bs) (hk:BsAt (λ k=>¬ L.S k) w kv key) (hko:dB key=true) (hkb:kD key) :
  Calls Tryz.prog 16 #[.pointer (some ⟨L.p,0,none⟩),.int .i64 (dF root),kv] w (Ret λ v w'=>∃ n g' lv' ps',v=.int .i64 (dF (some n))∧PgW w' L g'∧Ext g g'∧TrAt g' (some n) lv' (gU key key l) ps'∧bZ g'+lv+ps'.length=bZ g+ps.length∧bZ g≤bZ g'+(2*lv+1)∧ButS L.S w w'):=by
 obtain ⟨ka,kc,rfl,hks⟩:=hk.sl
 obtain ⟨h1,h16⟩:=gJ hko
 have hvo:fR key=true:=by simp [fR];omega
 obtain ⟨n,g',lv',ps',e1,e2,e3,e4,e5,e6,e7⟩:=put_tr h.at_.ok ht hko hvo hlv (by omega)
 have hcn:=h.at_.cnt
 have hsc:bZ g≤8192:=by unfold bZ;omega
 refine V.calls (args:=[_,_,_]) Tryz.func16 rfl Tryz.ntmps16 rfl rfl ?_
 repeat (first|(refine aL 21 ?_;refine aI rfl (sparet_c h.at_) rfl ?_;rintro _ _ ⟨rfl,hgc⟩)|(refine aB ?_;refine TL.pure rfl rfl ?_)|(refine aD ?_;refine TL.pure rfl rfl ?_)|refine TL.nil ?_|refine aA ?_|refine aJ ?_|refine aC ?_|(refine aH ?_;refine aQ rfl yD rfl ?_)|refine aE rfl ?_|refine aW ?_)
 refine aL 20 ?_
 refine aI rfl (own_c _ ka key.length kc key _ (hks.grow yG) (by omega)) rfl ?_
 rintro v1 w1 ⟨hv1,hg1⟩
 repeat ((refine aB ?_;refine TL.pure rfl rfl ?_))
 refine aL 20 ?_
 refine aI rfl (own_c _ ka key.length kc key _ (hks.grow yG) (by omega)) rfl ?_
 rintro v2 w2 ⟨hv2,hg2⟩
 obtain ⟨a1,c1,rfl,hs1⟩:=bX hv1
 obtain ⟨a2,c2,rfl,hs2⟩:=bX hv2
 repeat (refine aJ ?_)
 refine aL 25 ?_
 have hgr:Grow w w2:=by exact yG
 have hSl:∀ k,w.heap.size≤k→¬ L.S k:=λ k hk=>by have:=h.at_.lts;unfold PL.S;omega
 have hp2:=h.grow hgr
 refine aI rfl (put_c hp2.at_ hp2.tab hp2.ne0 root a1 a2 key.length c1 key.length c2 key key ((hs1.grow hg2).mono (λ k hk=>hSl k (by have:=hk.1;have:=hgc.size;omega))) (hs2.mono (λ k hk=>hSl k (by have:=hk.1;have:=hgc.size;have:=hg1.size;omega))) hko hvo hkb hkb (by omega) n e1) rfl ?_
 rintro _ w3 ⟨rfl,hpg,hbs⟩
 repeat (first|(refine aB ?_;refine TL.pure rfl rfl ?_)|(refine aD ?_;refine TL.pure rfl rfl ?_)|refine TL.nil ?_|refine aA ?_|refine aJ ?_|refine aC ?_|(refine aH ?_;refine aQ rfl yD rfl ?_)|refine aE rfl ?_|refine bE ?_|refine aW ?_|refine TL.pure rfl rfl ?_)
 exact cI rfl ⟨_,rfl,n,g',lv',ps',rfl,hp2.put hpg hbs,e2,e4,e5,e6,(ButS.grow hgr).trans hbs⟩
def ActCells (F:Nat→Prop) (w:World):List Value→List (Int×Bs×Bs)→Prop
 | [],[]=>True
 | v1::v2::v3::cs,a::l=>(v1=.int .i64 a.1∧BsAt F w v2 a.2.1∧BsAt F w v3 a.2.2)∧ActCells F w cs l
 | _,_=>False
theorem ActCells.go {F F':Nat→Prop} {w w':World} (g:Carry F w F' w'):∀ {cs:List Value} {l:List (Int×Bs×Bs)},ActCells F w cs l→ActCells F' w' cs l
 | [],[],_=>trivial
 | [],_::_,h=>h.elim
 | _::_,[],h=>by
  rename_i v cs
  match cs,h with
  | [],h=>exact h.elim
  | [_],h=>exact h.elim
  | _::_::_,h=>exact h.elim
 | [_],_::_,h=>h.elim
 | [_,_],_::_,h=>h.elim
 | _::_::_::_,_::_,⟨⟨h1,h2,h3⟩,h6⟩=>⟨⟨h1,h2.go g,h3.go g⟩,ActCells.go g h6⟩
theorem ActCells.at' {F:Nat→Prop} {w:World}:∀ {l:List (Int×Bs×Bs)} {cs:List Value} {i:Nat} {x:Int×Bs×Bs},ActCells F w cs l→l[i]? = some x→∃ k v,cs[i*3]? = some (.int .i64 x.1)∧cs[i*3+1]? = some k∧cs[i*3+2]? = some v∧BsAt F w k x.2.1∧BsAt F w v x.2.2
 | [],_,i,nd,_,hx=>by simp at hx
 | _::_,[],_,_,h,_=>h.elim
 | _::_,[_],_,_,h,_=>h.elim
 | _::_,[_,_],_,_,h,_=>h.elim
 | y::l,v1::v2::v3::cs,0,x,⟨⟨h1,h2,h3⟩,_⟩,hx=>by
  simp only [List.getElem?_cons_zero,Option.some.injEq] at hx
  subst hx
  exact ⟨v2,v3,by simp [h1],rfl,rfl,h2,h3⟩
 | y::l,v1::v2::v3::cs,i+1,x,⟨_,h⟩,hx=>by
  obtain ⟨k,v,h1,h2,h3,h4⟩:=ActCells.at' h (by simpa using hx)
  refine ⟨k,v,?_,?_,?_,h4⟩
  ·rw [show (i+1)*3=i*3+1+1+1 by omega];simpa using h1
  ·rw [show (i+1)*3+1=i*3+1+1+1+1 by omega];simpa using h2
  ·rw [show (i+1)*3+2=i*3+2+1+1+1 by omega];simpa using h3
def kZ (l:List (Int×Bs×Bs)):Bool:=decide (l.length≤80)&&l.all λ a=>decide (a.2.1.length≤100)&&decide (a.2.2.length≤100)
theorem small_c {F:Nat→Prop} {w:World} {a:Option Addr} {n c:Nat} {cs:List Value} {l:List (Int×Bs×Bs)} (h:Sl F w 3 a n c cs) (ha:ActCells F w cs l) (hn:n=l.length) :
  Calls Tryz.prog 14 #[.slice a n c] w (Ret λ v w'=>v=.bool (kZ l)∧Grow w w'):=by
 have hnm:=h.le
 refine V.calls (args:=[_]) Tryz.func14 rfl Tryz.ntmps14 rfl rfl ?_
 subst hn
 by_cases h80:80<l.length
 ·have hs:kZ l=false:=by simp [kZ];omega
  repeat (first|(refine aB ?_;refine TL.pure rfl rfl ?_)|(refine aD ?_;refine TL.pure rfl rfl ?_)|refine TL.nil ?_|refine aA ?_|refine aJ ?_|refine aC ?_|(refine aH ?_;refine aZ rfl yD rfl ?_)|refine aO rfl rfl ?_|refine aM rfl ?_|refine bE ?_|refine bI ?_)
  exact cI rfl ⟨_,rfl,by rw [hs],Grow.refl _⟩
 repeat (first|(refine aB ?_;refine TL.pure rfl rfl ?_)|(refine aD ?_;refine TL.pure rfl rfl ?_)|refine TL.nil ?_|refine aA ?_|refine aJ ?_|refine aC ?_|refine T.block ?_|(refine aH ?_;refine aQ rfl yD rfl ?_)|refine aO rfl rfl ?_|refine aE rfl ?_|refine aW ?_)
 refine cU (S:=Nat) (λ i=>[(3,.int .i64 (i:Int)),(0,.slice a l.length c)]) (λ i w2=>i≤l.length∧w=w2∧∀ x∈l.take i,x.2.1.length≤100∧x.2.2.length≤100) (λ i=>l.length-i) 0 ⟨rfl,rfl,trivial⟩ ⟨Nat.zero_le _,rfl,by simp⟩ ?_
 rintro i _ ⟨hi,rfl,hall⟩
 by_cases hlt:i<l.length
 ·obtain ⟨x,hx⟩:∃ q,l[i]? = some q:=⟨_,List.getElem?_eq_getElem hlt⟩
  obtain ⟨kv,vv,f0,f1,f2,hk,hv⟩:=ha.at' hx
  obtain ⟨ka,kc,rfl,hks⟩:=hk.sl
  obtain ⟨va,vc,rfl,hvs⟩:=hv.sl
  have hcx1:w.cell? (at' a (i*3+1))=some (.slice ka x.2.1.length kc):=h.row.cell f1
  have hcx2:w.cell? (at' a (i*3+2))=some (.slice va x.2.2.length vc):=h.row.cell f2
  have hkl:=hks.le
  have hvl:=hvs.le
  have hxm:=List.mem_of_getElem? hx
  by_cases h1:100<x.2.1.length
  ·have hs:kZ l=false:=by
    rw [← Bool.not_eq_true]
    intro e
    simp only [kZ,Bool.and_eq_true,decide_eq_true_eq,List.all_eq_true] at e
    have:=(e.2 x hxm).1
    omega
   repeat (first|(refine bC ?_;refine aV (j:=i) rfl rfl rfl hlt rfl ⟨_,_,h⟩ rfl ?_)|(refine dU ?_;refine dV (o:=i*3) rfl h f0 rfl ?_)|refine bH rfl rfl rfl ?_|(refine aB ?_;refine TL.pure rfl rfl ?_)|(refine aD ?_;refine TL.pure rfl rfl ?_)|refine aK rfl yM rfl ?_|refine TL.nil ?_|refine aA ?_|refine aJ ?_|refine aC ?_|refine T.block ?_|(refine aH ?_;refine aZ rfl yD rfl ?_)|refine aO rfl rfl ?_|refine aM rfl ?_|refine bE ?_|refine aW ?_|refine bI ?_|refine cZ ?_|refine dY ?_|refine TL.pure rfl rfl ?_)
   exact cI rfl ⟨_,rfl,by rw [hs],Grow.refl _⟩
  ·by_cases h2:100<x.2.2.length
   ·have hs:kZ l=false:=by
     rw [← Bool.not_eq_true]
     intro e
     simp only [kZ,Bool.and_eq_true,decide_eq_true_eq,List.all_eq_true] at e
     have:=(e.2 x hxm).2
     omega
    repeat (first|(refine bC ?_;refine aV (j:=i) rfl rfl rfl hlt rfl ⟨_,_,h⟩ rfl ?_)|(refine dU ?_;refine dV (o:=i*3) rfl h f0 rfl ?_)|refine aU rfl rfl rfl ?_|(refine aB ?_;refine TL.pure rfl rfl ?_)|(refine aD ?_;refine TL.pure rfl rfl ?_)|refine aK rfl yM rfl ?_|refine TL.nil ?_|refine aA ?_|refine aJ ?_|refine aC ?_|refine T.block ?_|(refine aH ?_;first|refine aZ rfl yD rfl ?_|refine aQ rfl yD rfl ?_)|refine aO rfl rfl ?_|refine aM rfl ?_|refine bE ?_|refine aW ?_|refine bI ?_|refine cZ ?_|refine dY ?_|refine TL.pure rfl rfl ?_)
    exact cI rfl ⟨_,rfl,by rw [hs],Grow.refl _⟩
   ·repeat (first|(refine bC ?_;refine aV (j:=i) rfl rfl rfl hlt rfl ⟨_,_,h⟩ rfl ?_)|(refine dU ?_;refine dV (o:=i*3) rfl h f0 rfl ?_)|refine aU rfl rfl rfl ?_|(refine aB ?_;refine TL.pure rfl rfl ?_)|(refine aD ?_;refine TL.pure rfl rfl ?_)|refine aK rfl yM rfl ?_|(refine bL ?_;refine bT rfl rfl (by omega) rfl ?_)|refine TL.nil ?_|refine aA ?_|refine aJ ?_|refine aC ?_|refine T.block ?_|refine aS ?_|(refine aH ?_;first|refine aZ rfl yD rfl ?_|refine aQ rfl yD rfl ?_)|refine aO rfl rfl ?_|refine aM rfl ?_|refine aE rfl ?_|refine aW ?_|refine TL.pure rfl rfl ?_)
    refine bG (i+1) ⟨rfl,rfl,trivial⟩ ⟨by omega,rfl,λ y hy=>?_⟩ (by omega)
    rw [List.take_add_one,hx] at hy
    simp only [Option.toList_some,List.mem_append,List.mem_singleton] at hy
    rcases hy with hy|rfl
    ·exact hall y hy
    ·exact ⟨by omega,by omega⟩
 ·obtain rfl:i=l.length:=by omega
  have hs:kZ l=true:=by
   rw [List.take_length] at hall
   simp only [kZ,Bool.and_eq_true,decide_eq_true_eq,List.all_eq_true]
   exact ⟨by omega,λ x hx=>hall x hx⟩
  repeat (first|(refine aB ?_;refine TL.pure rfl rfl ?_)|(refine aD ?_;refine TL.pure rfl rfl ?_)|refine TL.nil ?_|refine aA ?_|refine aJ ?_|refine aC ?_|(refine aH ?_;refine aQ rfl yD rfl ?_)|refine aO rfl rfl ?_|refine aE rfl ?_|refine bE ?_|refine cV ?_|refine bN ?_|refine bP ?_|refine bO ?_)
  exact cI rfl ⟨_,rfl,by rw [hs],Grow.refl _⟩
end Go.Proofs.YtfpadnmdafiddaaGreatDoor
namespace Go.Proofs.YtfpadnmdafiddaaGreatDoor
open Go Go.RowKit Go.V
def liL:Nat→dO
 | 0=>[]
 | i+1=>gU [97+i] [i] (liL i)
theorem liL_len (i:Nat):(liL i).length≤i:=by
 induction i with
 | zero=>simp [liL]
 | succ i ih=>have:=(insI_len [97+i] [i] (liL i)).2;simp only [liL];omega
theorem grow_pg {w w2 w4 w5:World} {L:PL} (hg2:Grow w w2) (hgr:Grow w2 w4) (hbs:ButS L.S w4 w5) (hL:∀ b,b=L.p∨b=L.d∨b=L.u∨b=L.m→w.heap.size≤b):Grow w w5 :=
 have hg:=hg2.trans hgr
 ⟨⟨hbs.os.trans hg.1.os,hbs.tape.trans hg.1.tape,hbs.output.trans hg.1.output,Nat.le_trans hg.2 hbs.size,λ k hk=>(hbs.block k (Nat.lt_of_lt_of_le hk hg.2) (λ hS=>by
  unfold PL.S at hS
  have:=hL k (by rcases hS with h|h|h<;>simp [h])
  omega)).trans (hg.block k hk)⟩,Nat.le_trans hg.2 hbs.size⟩
theorem lives_c (w:World) (ht:TabAt w) :
  Calls Tryz.prog 13 #[] w (Ret λ v w'=>v=.bool true∧Grow w w'):=by
 have h0:0<w.heap.size:=ht.1
 refine V.calls (args:=[]) Tryz.func13 rfl Tryz.ntmps13 rfl rfl ?_
 repeat (first|(refine aD ?_;refine TL.pure rfl rfl ?_)|refine TL.nil ?_|refine aA ?_|refine aJ ?_|refine aC ?_)
 refine aL 15 ?_
 refine aI rfl (started_c 64 w (by omega) (by omega)) rfl ?_
 rintro _ w1 ⟨L,rfl,hLw,hpg,hg1⟩
 have z1:=hg1.size
 have hpw:PgW w1 L (pg0 64):=⟨hpg,ht.keep (hg1.block 0 ht.1) hg1.size,λ h=>by
  unfold PL.S at h
  rcases h with h|h|h
  ·have:=hLw L.u (by simp);omega
  ·have:=hLw L.m (by simp);omega
  ·have:=hLw L.p (by simp);omega⟩
 repeat (first|(refine aB ?_;refine TL.pure rfl rfl ?_)|(refine aD ?_;refine TL.pure rfl rfl ?_)|refine TL.nil ?_|refine aA ?_|refine aJ ?_|refine aC ?_|refine T.block ?_|refine TL.pure rfl rfl ?_)
 refine cU (S:=Nat×Option Nat×Pg) (λ q=>[(4,.int .i64 (q.1:Int)),(3,.int .i64 (dF q.2.1)),(2,.bool true),(1,.pointer (some ⟨L.p,0,none⟩))])
  (λ q w2=>q.1≤9∧PgW w2 L q.2.2∧Grow w w2∧∃ lv ps,TrAt q.2.2 q.2.1 lv (liL q.1) ps∧64≤bZ q.2.2+ps.length+2*q.1) (λ q=>9-q.1) (0,none,pg0 64) ⟨rfl,rfl,rfl,rfl,trivial⟩
  ⟨by simp only;omega,hpw,hg1,0,[],⟨rfl,rfl,rfl⟩,by simp only [spare_pg0];omega⟩ ?_
 rintro ⟨i,root,g⟩ w2 ⟨hi,hp2,hg2,lv,ps,htr,hsp⟩
 simp only at hi hp2 htr hsp
 have hll:=liL_len i
 have hlv:lv≤2:=htr.levels (k:=2) (by omega) (by omega)
 have hps:=htr.pages
 by_cases hlt:i<9
 ·have hcv:∀ m:Nat,m<256→IntKind.u8.wrap (m:Int)=(m:Int):=λ m hm=>fB (M:=256) rfl (by omega)
  have hc1:=hcv i (by omega)
  have hc2:=hcv (97+i) (by omega)
  repeat (first|refine TL.guard_yes rfl rfl yD rfl ?_|(refine aB ?_;refine TL.pure rfl rfl ?_)|(refine bL ?_;refine TL.addI rfl rfl (by omega) (by omega) rfl ?_)|refine TL.nil ?_|refine aA ?_|refine aJ ?_|refine aC ?_|refine T.block ?_|(refine aH ?_;refine TL.pure rfl rfl ?_)|(refine cR ?_;refine eQ rfl rfl (by omega) rfl ?_)|refine aM rfl ?_|refine aW ?_|refine TL.pure rfl rfl ?_)
  refine TL.buildSlice rfl rfl rfl rfl rfl ?_
  intro b3 w3 hg3 hb3 hs3 hs3' hs3''
  repeat (first|(refine aB ?_;refine TL.pure rfl rfl ?_)|(refine cR ?_;refine eQ rfl rfl (by omega) rfl ?_))
  refine TL.buildSlice rfl rfl rfl rfl rfl ?_
  intro b4 w4 hg4 hb4 hs4 hs4' hs4''
  have hSl:∀ k,w2.heap.size≤k→¬ L.S k:=λ k hk=>by have:=hp2.at_.lts;unfold PL.S;omega
  have hgr:=hg3.trans hg4
  have hp4:=hp2.grow hgr
  have hk:Sl (λ k=>¬ L.S k) w4 1 (some ⟨b3,0,none⟩) 1 1 (cX [97+i]):=((bR (sz:=1) (m:=1) (show Blk w3 b3 5 (cX [97+i]) from hb3) rfl (by decide)).grow hg4).mono (λ k hk=>by subst hk;exact hSl _ (by omega))
  have hv:Sl (λ k=>¬ L.S k) w4 1 (some ⟨b4,0,none⟩) 1 1 (cX [i]):=(bR (sz:=1) (m:=1) (show Blk w4 b4 5 (cX [i]) from hb4) rfl (by decide)).mono (λ k hk=>by subst hk;exact hSl _ (by omega))
  obtain ⟨n,g',lv',ps',e1,e2,e3,e4,e5,e6,e7⟩:=put_tr (key:=[97+i]) (v:=[i]) hp2.at_.ok htr rfl rfl (by omega) (by omega)
  have hput:=put_c hp4.at_ hp4.tab hp4.ne0 root _ _ 1 1 1 1 [97+i] [i] hk hv rfl rfl (λ x hx=>by simp only [List.mem_singleton] at hx;omega) (λ x hx=>by simp only [List.mem_singleton] at hx;omega) (by omega) n e1
  repeat (refine aJ ?_)
  refine aL 25 ?_
  refine aI rfl hput rfl ?_
  rintro _ w5 ⟨rfl,hpg5,hbs⟩
  repeat (first|(refine aB ?_;refine TL.pure rfl rfl ?_)|(refine aD ?_;refine TL.pure rfl rfl ?_)|(refine bL ?_;refine TL.addI rfl rfl (by omega) (by omega) rfl ?_)|refine TL.nil ?_|refine aA ?_|refine aJ ?_|refine aC ?_|refine aS ?_|(refine aH ?_;refine TL.pure rfl rfl ?_)|refine TL.pure rfl rfl ?_)
  exact bG (i+1,some n,g') ⟨rfl,rfl,rfl,rfl,trivial⟩ ⟨by simp only;omega,hp4.put hpg5 hbs,grow_pg hg2 hgr hbs hLw,lv',ps',e4,by simp only;omega⟩ (by simp only;omega)
 ·obtain rfl:i=9:=by omega
  have hd:liL 9=[([97],[0]),([98],[1]),([99],[2]),([100],[3]),([101],[4]),([102],[5]),([103],[6]),([104],[7]),([105],[8])]:=by decide
  rw [hd] at htr hps
  obtain ⟨n,rfl⟩:∃ n,root=some n:=by
   cases root with
   | none=>have:=htr.2.1;cases this
   | some n=>exact ⟨n,rfl⟩
  have hn:=htr.lt hp2.at_.ok
  simp only [List.length_cons,List.length_nil] at hps
  obtain rfl:lv=2:=by
   obtain ⟨h,nd,ps',rfl,e2,e3,e4,e5⟩:=htr
   have h8:=node_le e2
   by_cases h0:h=0
   ·subst h0
    obtain ⟨rfl,_⟩:=e3
    simp [bJ] at h8
   ·omega
  obtain ⟨fr,r1,g1,lv1,ps1,d1,d2,d3,d4,d5,d6,d7⟩:=del_tr (key:=[105]) hp2.at_.ok htr ⟨([105],[8]),by simp,rfl⟩ (by omega) (by omega)
  rw [show gV [105] [([97],[0]),([98],[1]),([99],[2]),([100],[3]),([101],[4]),([102],[5]),([103],[6]),([104],[7]),([105],[8])]=[([97],[0]),([98],[1]),([99],[2]),([100],[3]),([101],[4]),([102],[5]),([103],[6]),([104],[7])] by decide] at d5
  have hlv1:lv1≤2:=d5.levels (k:=2) (by omega) (by simp)
  obtain ⟨n1,rfl⟩:∃ n,r1=some n:=by
   cases r1 with
   | none=>have:=d5.2.1;cases this
   | some n=>exact ⟨n,rfl⟩
  have hn1:=d5.lt d4
  obtain ⟨fr2,r2,g2,lv2,ps2,f1,f2,f3,f4,f5,f6,f7⟩:=del_tr (key:=[104]) d4 d5 ⟨([104],[7]),by simp,rfl⟩ (by omega) (by omega)
  rw [show gV [104] [([97],[0]),([98],[1]),([99],[2]),([100],[3]),([101],[4]),([102],[5]),([103],[6]),([104],[7])]=[([97],[0]),([98],[1]),([99],[2]),([100],[3]),([101],[4]),([102],[5]),([103],[6])] by decide] at f5
  have hlv2:lv2≤1:=f5.levels (k:=1) (by omega) (by simp)
  obtain ⟨n2,rfl⟩:∃ n,r2=some n:=by
   cases r2 with
   | none=>have:=f5.2.1;cases this
   | some n=>exact ⟨n,rfl⟩
  obtain rfl:lv2=1:=by
   obtain ⟨h,_,_,e,_⟩:=f5
   omega
  have hn2:=f5.lt f4
  have htr2:=htr.ext (d3.trans f3)
  obtain ⟨M0,hM0,_⟩:=tree_tr htr (by omega)
  obtain ⟨M2,hM2,_⟩:=tree_tr f5 (by omega)
  have hdep:=depth_c hp2.at_ (λ m e=>by cases e;omega) hM0
  repeat (first|refine bH rfl rfl rfl ?_|(refine aB ?_;refine TL.pure rfl rfl ?_)|refine TL.nil ?_|refine aA ?_|refine aJ ?_|refine aC ?_|(refine aH ?_;refine TL.pure rfl rfl ?_)|refine aE rfl ?_|refine aW ?_|refine cV ?_|refine bN ?_|refine bP ?_|refine bO ?_|refine TL.pure rfl rfl ?_)
  refine aL 29 ?_
  refine aI rfl hdep rfl ?_
  rintro _ w3 ⟨rfl,hg3⟩
  repeat (first|(refine aB ?_;refine TL.pure rfl rfl ?_)|(refine aD ?_;refine TL.pure rfl rfl ?_)|refine TL.nil ?_|refine aA ?_|refine aJ ?_|refine aC ?_|refine TL.pure rfl rfl ?_)
  refine TL.buildSlice rfl rfl rfl rfl rfl ?_
  intro b4 w4 hg4 hb4 hs4 hs4' hs4''
  refine TL.convSl rfl (show Blk w4 b4 5 (cX [105]) from hb4) rfl (by omega) (by unfold maxLen;omega) rfl ?_
  intro w5 hu5 hs5
  have hgr5:Grow w2 w5:=aX hu5 (by have:=hg3.2;omega) (hg3.trans hg4)
  have hp5:=hp2.grow hgr5
  have z5:=hgr5.size
  have hSl:∀ k,w2.heap.size≤k→¬ L.S k:=λ k hk=>by have:=hp2.at_.lts;unfold PL.S;omega
  repeat (refine aJ ?_)
  refine aL 19 ?_
  refine aI rfl (delete_c hp5.at_ hp5.tab hp5.ne0 n _ 1 1 [105] (hs5.mono (λ k hk=>by subst hk;exact hSl _ (by have:=hg3.2;omega))) rfl (by omega) fr d1 (some n1) d2) rfl ?_
  rintro _ w6 ⟨rfl,hpg6,hbs6⟩
  have hp6:=hp5.put hpg6 hbs6
  have z6:=hbs6.size
  repeat (first|(refine aB ?_;refine TL.pure rfl rfl ?_)|(refine aD ?_;refine TL.pure rfl rfl ?_)|refine TL.nil ?_|refine aA ?_|refine aJ ?_|refine aC ?_|refine TL.pure rfl rfl ?_)
  refine TL.buildSlice rfl rfl rfl rfl rfl ?_
  intro b7 w7 hg7 hb7 hs7 hs7' hs7''
  repeat (refine aJ ?_)
  refine TL.convSl rfl (show Blk w7 b7 5 (cX [104]) from hb7) rfl (by omega) (by unfold maxLen;omega) rfl ?_
  intro w8 hu8 hs8
  have hgr8:Grow w6 w8:=aX hu8 (by omega) hg7
  have hp8:=hp6.grow hgr8
  have z8:=hgr8.size
  repeat (refine aJ ?_)
  refine aL 19 ?_
  refine aI rfl (delete_c hp8.at_ hp8.tab hp8.ne0 n1 _ 1 1 [104] (hs8.mono (λ k hk=>by subst hk;exact hSl _ (by omega))) rfl (by omega) fr2 f1 (some n2) f2) rfl ?_
  rintro _ w9 ⟨rfl,hpg9,hbs9⟩
  have hp9:=hp8.put hpg9 hbs9
  have z9:=hbs9.size
  repeat (first|(refine aB ?_;refine TL.pure rfl rfl ?_)|(refine aD ?_;refine TL.pure rfl rfl ?_)|refine TL.nil ?_|refine aA ?_|refine aJ ?_|refine aC ?_|refine TL.pure rfl rfl ?_)
  refine aL 29 ?_
  refine aI rfl (depth_c hp9.at_ (root:=some n2) (λ m e=>by cases e;omega) hM2) rfl ?_
  rintro _ w10 ⟨rfl,hg10⟩
  have z10:=hg10.size
  repeat (first|(refine aB ?_;refine TL.pure rfl rfl ?_)|(refine aD ?_;refine TL.pure rfl rfl ?_)|refine TL.nil ?_|refine aA ?_|refine aJ ?_|refine aC ?_|refine TL.pure rfl rfl ?_)
  refine TL.buildSlice rfl rfl rfl rfl rfl ?_
  intro b11 w11 hg11 hb11 hs11 hs11' hs11''
  repeat (refine aJ ?_)
  refine TL.convSl rfl (show Blk w11 b11 5 (cX [105]) from hb11) rfl (by omega) (by unfold maxLen;omega) rfl ?_
  intro w12 hu12 hs12
  have hgr12:Grow w9 w12:=aX hu12 (by omega) (hg10.trans hg11)
  have hp12:=hp9.grow hgr12
  obtain ⟨hh,nd,ps',e1,e2,e3,e4,e5⟩:=htr2
  obtain ⟨frg,th,g1',g2',g3',g4'⟩:=path_tr [105] hh (f:=16) e2 e3 (by omega)
  have hth:=g3'.2 ⟨([105],[8]),by simp,rfl⟩
  subst hth
  obtain ⟨ndg,ig,g5',g6'⟩:=g4' [8] (by simp)
  repeat (refine aJ ?_)
  refine aL 24 ?_
  refine aI rfl (get_c hp12.at_ _ _ 1 1 n [105] [8] frg ndg ig hs12 rfl (by omega) g1' (by rw [g2'];exact g5') g6' (by decide)) rfl ?_
  rintro _ w13 ⟨⟨q,rfl,hq⟩,hg13⟩
  obtain ⟨qa,qc,rfl,hqs⟩:=hq.sl
  repeat (first|refine gA rfl hqs rfl ?_|(refine aH ?_;refine TL.eqS (s:=iH [8]) (t:=iH [8]) (b:=true) rfl rfl (by simp) rfl ?_)|refine aU rfl rfl rfl ?_|(refine aB ?_;refine TL.pure rfl rfl ?_)|(refine aD ?_;refine TL.pure rfl rfl ?_)|refine TL.nil ?_|refine aA ?_|refine aJ ?_|refine aC ?_|(refine aH ?_;refine TL.pure rfl rfl ?_)|refine bE ?_|refine TL.pure rfl rfl ?_)
  refine cI rfl ⟨_,rfl,rfl,?_⟩
  have q5:=grow_pg hg2 hgr5 hbs6 hLw
  have q8:=grow_pg q5 hgr8 hbs9 hLw
  exact (q8.trans hgr12).trans hg13
end Go.Proofs.YtfpadnmdafiddaaGreatDoor
