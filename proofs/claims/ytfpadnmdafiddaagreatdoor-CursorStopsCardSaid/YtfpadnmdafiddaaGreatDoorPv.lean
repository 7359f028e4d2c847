import Derived.Test.YtfpadnmdafiddaaGreatDoorP0
import Derived.Test.YtfpadnmdafiddaaGreatDoorPu
import Derived.Test.YtfpadnmdafiddaaGreatDoorPl
import Derived.Test.YtfpadnmdafiddaaGreatDoorPn
import Derived.Test.YtfpadnmdafiddaaGreatDoorPo
import Derived.Test.YtfpadnmdafiddaaGreatDoorPf
set_option linter.all false
set_option maxHeartbeats 16000000
set_option maxRecDepth 100000
namespace Go.Proofs.YtfpadnmdafiddaaGreatDoor
open Go Go.RowKit Go.V
def keysB (l:bT):Bs:=l.flatMap (·.1)
theorem keysB_len (l:bT) (h:∀ x∈l,x.1.length≤16):(keysB l).length≤16*l.length:=by
 induction l with
 | nil=>simp [keysB]
 | cons x r ih =>
  have h1:=h x sM;have h2:=ih (λ y hy=>h y (List.mem_cons_of_mem _ hy));simp only [keysB,List.flatMap_cons,List.length_append,List.length_cons] at h2 ⊢;omega
theorem rngL_mem {l:bT} {fr to:Bs} {back:Bool} {a0:Int} {x:Bs×Bs} (h:x∈lU l fr to back a0):x∈l:=by
 have hr:∀ y∈lW l fr to back,y∈l:=λ y hy=>by
  unfold lW at hy;have:=(List.mem_filter.1 hy).1;split at this
  ·exact List.mem_reverse.1 this
  ·exact this
 unfold lU at h;split at h
 ·exact hr x (List.mem_of_mem_take h)
 ·exact hr x h
theorem rngL_len (l:bT) (fr to:Bs) (back:Bool) (a0:Int):(lU l fr to back a0).length≤l.length:=by
 have hr:(lW l fr to back).length≤l.length:=by
  unfold lW;refine Nat.le_trans (List.length_filter_le _ _) ?_;split<;>simp
 unfold lU;split
 ·rw [List.length_take];omega
 ·exact hr
theorem keys_c {w:World} {L:PL} {g:Pg} (hp:PgW w L g) {e0:Option Nat} {lv:Nat} {l:bT} {ps:List Nat} (ht:TrAt g e0 lv l ps) (p0:lv≤15) (hl:l.length≤1000) (z0:∀ x∈l,fK x.1∧fK x.2) (G:Nat→Prop) (fa ta:Option Addr) (fn fc tn tc:Nat) (fr to:Bs) (back:Bool) (most:Int) (hf:Sl G w 1 fa fn fc (bB fr)) (m0:Sl G w 1 ta tn tc (bB to)) (x0:fr.length≤16) (n0:to.length≤16) (hm:0≤most∧most≤9223372036854775807) :
  Calls Tryz.prog 131 #[.pointer (some ⟨L.p,0,none⟩),.int .i64 (dS e0),.agg #[.slice fa fn fc,.slice ta tn tc,.bool back,.int .i64 most]] w (Ret λ v w'=>v=.string (txt (keysB (lU l fr to back most)))∧Grow w w'):=by
 have s0:∀ x∈l,x.1.length≤16∧x.2.length≤32:=λ x hx=>⟨(eK (ht.items x hx).1).2,iD (ht.items x hx).2⟩
 refine V.calls (args:=[_,_,_]) Tryz.func131 rfl Tryz.ntmps131 rfl rfl ?_;repeat (first|refine aF ?_|refine yI λ bk w' hg e1 o0 i0=>?_)
 refine aB 54 ?_;refine aA rfl (crange_c (hp.grow hg) ht p0 hl z0 G fa ta fn fc tn tc fr to back most (hf.grow hg) (m0.grow hg) x0 n0 hm) rfl ?_;rintro _ w2 ⟨⟨a,n,c,rfl,a0⟩,l0⟩;have v0:=hg.trans l0;have hn:=a0.len;obtain ⟨R,hR⟩:∃ R,R=lU l fr to back most:=⟨_,rfl⟩
 have h0:∀ x∈R,x.1.length≤16:=λ x hx=>(s0 x (rngL_mem (by rw [← hR];exact hx))).1;have h1:R.length≤1000:=by rw [hR];exact Nat.le_trans (rngL_len _ _ _ _ _) hl
 rw [← hR] at a0 hn ⊢;subst hn;obtain ⟨cs,j0,y0⟩:=a0.ex;clear e1 hg l0 o0 i0;repeat refine aF ?_
 refine aX (S:=Nat) (λ i=>[(10,.int .i64 (i:Int)),(9,.string (txt (keysB (R.take i)))),(7,.slice a R.length c)]) (λ i w1=>i≤R.length∧w2=w1) (λ i=>R.length-i) 0 ⟨rfl,rfl,rfl,trivial⟩ ⟨Nat.zero_le _,rfl⟩ ?_;rintro i w3 ⟨hi,rfl⟩;by_cases k0:i<R.length;rotate_left
 ·obtain rfl:i=R.length:=by omega
  repeat refine aF ?_
  rw [List.take_length];exact bA rfl ⟨_,rfl,rfl,v0⟩
 obtain ⟨x,hx⟩:∃ x,R[i]? = some x:=⟨_,List.getElem?_eq_getElem k0⟩
 obtain ⟨kv,vv,f0,f1,⟨ka,kn,kc,rfl,q0⟩,g1⟩:=y0.at' hx;rw [Nat.mul_comm] at f0;have u0:=h0 x (List.mem_of_getElem? hx);have t0:=keysB_len (R.take i) (λ y hy=>h0 y (List.mem_of_mem_take hy));rw [List.length_take] at t0
 have g0:keysB (R.take (i+1))=keysB (R.take i)++x.1:=by
  rw [dZ hx];simp [keysB]
 repeat (first|(refine aI ?_;refine aC (j:=i) rfl rfl rfl k0 rfl ⟨_,_,j0⟩ rfl ?_)|(refine bM ?_;refine bJ (o:=i*2) rfl j0 f0 rfl ?_)|(refine aQ ?_;refine aS rfl (j0.row.cell f0) rfl ?_)|refine mF rfl q0 rfl ?_|(refine nT ?_;refine TL.addS rfl rfl oM rfl ?_)|refine yC ?_)
 rw [← g0];exact aE (i+1) ⟨rfl,rfl,rfl,trivial⟩ ⟨oM,rfl⟩ oM
def lit1 (x:Bs×Bs):Bool:=decide (x.1.length≤100)&&decide (x.2.length≤100)
def lightB (l:bT):Bool:=decide (l.length≤60)&&l.all lit1
theorem light_c {F:Nat→Prop} {w:World} {a:Option Addr} {n c:Nat} {l:bT} (h:ItsAt F w a n c l) :
  Calls Tryz.prog 52 #[.slice a n c] w (Ret λ v w'=>v=.bool (lightB l)∧w=w'):=by
 obtain ⟨cs,a0,l0⟩:=h.ex;have hn:=h.len;have m0:=a0.cap;have j0:=a0.max;subst hn;refine V.calls (args:=[_]) Tryz.func52 rfl Tryz.ntmps52 rfl rfl ?_;by_cases p0:60<l.length
 ·repeat refine aF ?_
  exact bA rfl ⟨_,rfl,by simp [lightB];omega,rfl⟩
 repeat refine aF ?_
 refine aX (S:=Nat) (λ i=>[(3,.int .i64 (i:Int)),(0,.slice a l.length c)]) (λ i w1=>i≤l.length∧w=w1∧(l.take i).all lit1=true) (λ i=>l.length-i) 0 ⟨rfl,rfl,trivial⟩ ⟨Nat.zero_le _,rfl,rfl⟩ ?_;rintro i w3 ⟨hi,rfl,e0⟩;by_cases h0:i<l.length;rotate_left
 ·obtain rfl:i=l.length:=by omega
  rw [List.take_length] at e0;repeat refine aF ?_
  exact bA rfl ⟨_,rfl,by rw [lightB,e0,decide_eq_true oM];rfl,rfl⟩
 obtain ⟨x,hx⟩:∃ x,l[i]? = some x:=⟨_,List.getElem?_eq_getElem h0⟩
 obtain ⟨kv,vv,f0,f1,hk,hv⟩:=l0.at' hx;obtain ⟨ka,kc,rfl,o0⟩:=hk.sl;obtain ⟨va,vc,rfl,n0⟩:=hv.sl;rw [Nat.mul_comm] at f0 f1
 have g0:(l.take (i+1)).all lit1=lit1 x:=by
  rw [dZ hx,List.all_append,e0];simp
 have i0:lit1 x=false→lightB l=false:=λ e=>by
  have:l.all lit1=false:=by
   rw [List.all_eq_false];exact ⟨x,List.mem_of_getElem? hx,by rw [e];simp⟩
  rw [lightB,this,Bool.and_false]
 by_cases h1:x.1.length≤100
 ·by_cases h2:x.2.length≤100
  ·have k0:lit1 x=true:=by simp [lit1,h1,h2]
   repeat (first|(refine aI ?_;refine aC (j:=i) rfl rfl rfl h0 rfl ⟨_,_,a0⟩ rfl ?_)|(refine bM ?_;refine bJ (o:=i*2) rfl a0 f0 rfl ?_)|(refine aQ ?_;first|refine aS rfl (a0.row.cell f0) rfl ?_|refine aS rfl (a0.row.cell f1) rfl ?_)|refine yC ?_)
   exact aE (i+1) ⟨rfl,rfl,trivial⟩ ⟨oM,rfl,by rw [g0,k0]⟩ oM
  ·repeat (first|(refine aI ?_;refine aC (j:=i) rfl rfl rfl h0 rfl ⟨_,_,a0⟩ rfl ?_)|(refine bM ?_;refine bJ (o:=i*2) rfl a0 f0 rfl ?_)|(refine aQ ?_;first|refine aS rfl (a0.row.cell f0) rfl ?_|refine aS rfl (a0.row.cell f1) rfl ?_)|refine yC ?_)
   exact bA rfl ⟨_,rfl,by rw [i0 (by simp [lit1,h2])],rfl⟩
 ·repeat (first|(refine aI ?_;refine aC (j:=i) rfl rfl rfl h0 rfl ⟨_,_,a0⟩ rfl ?_)|(refine bM ?_;refine bJ (o:=i*2) rfl a0 f0 rfl ?_)|(refine aQ ?_;refine aS rfl (a0.row.cell f0) rfl ?_)|refine yC ?_)
  exact bA rfl ⟨_,rfl,by rw [i0 (by simp [lit1,h1])],rfl⟩
def li3:bT:=[([97],[]),([99],[]),([101],[])]
theorem jH {F:Nat→Prop} {w:World}:Sl F w 1 none 0 0 (bB []):=⟨by simp [bB],Nat.le_refl _,Nat.zero_le _,λ _=>rfl,by simp [Row,bB]⟩
theorem li3_by:∀ x∈li3,fK x.1∧fK x.2:=by
 intro x hx;simp only [li3,List.mem_cons,List.not_mem_nil,or_false] at hx;rcases hx with rfl|rfl|rfl<;>exact ⟨λ y hy=>by simp at hy;omega,λ y hy=>by simp at hy⟩
theorem lives13v_c (w:World) (a0:TabAt w) :
  Calls Tryz.prog 51 #[] w (Ret λ v w'=>v=.bool true∧Grow w w'):=by
 have h0:0<w.heap.size:=a0.1;refine V.calls (args:=[]) Tryz.func51 rfl Tryz.ntmps51 rfl rfl ?_;repeat refine aF ?_
 refine TL.buildSlice rfl rfl rfl rfl rfl ?_;intro b1 w1 a4 g4 z4 t4 _;refine gU rfl (show Blk w1 b1 5 (bB [97]) from g4) rfl oM (by unfold maxLen;omega) rfl ?_;intro w2 e2 t3;have g2:Grow w w2:=aH e2 oM a4;have n4:=g2.size;have g5:b1<w2.heap.size:=by have:=e2.size;omega
 repeat refine aF ?_
 refine TL.buildSlice rfl rfl rfl rfl rfl ?_;intro b3 w3 z3 f4 y4 s4 _;refine gU rfl (show Blk w3 b3 5 (bB [99]) from f4) rfl oM (by unfold maxLen;omega) rfl ?_;intro w4 d2 s3;have f2:Grow w2 w4:=aH d2 oM z3;have m4:=f2.size;have f5:b3<w4.heap.size:=by have:=d2.size;omega
 repeat refine aF ?_
 refine TL.buildSlice rfl rfl rfl rfl rfl ?_;intro b5 w5 y3 e4 x4 r4 _;refine gU rfl (show Blk w5 b5 5 (bB [101]) from e4) rfl oM (by unfold maxLen;omega) rfl ?_;intro w6 z1 r3;have y1:Grow w4 w6:=aH z1 oM y3;have l4:=y1.size;have d5:b5<w6.heap.size:=by have:=z1.size;omega
 repeat refine aF ?_
 refine TL.buildSlice rfl rfl rfl rfl rfl ?_;intro b7 w7 g1 d4 v4 q4 _;have s1:Blk w7 b7 58 [.slice (some ⟨b1,0,none⟩) 1 1,.slice none 0 0,.slice (some ⟨b3,0,none⟩) 1 1,.slice none 0 0,.slice (some ⟨b5,0,none⟩) 1 1,.slice none 0 0]:=d4;have r2:=(f2.trans y1).trans g1;have i4:=y1.trans g1;have e0:Grow w w7:=g2.trans r2;have e1:ItsAt (λ _=>True) w7 (some ⟨b7,0,none⟩) 3 3 li3:=⟨_,(aU (sz:=2) (m:=3) s1 rfl dM).mono (λ _ _=>trivial),⟨_,_,_,rfl,(t3.mono (λ _ _=>trivial)).grow r2⟩,⟨_,_,_,rfl,jH⟩,⟨_,_,_,rfl,(s3.mono (λ _ _=>trivial)).grow i4⟩,⟨_,_,_,rfl,jH⟩,⟨_,_,_,rfl,(r3.mono (λ _ _=>trivial)).grow g1⟩,⟨_,_,_,rfl,jH⟩,trivial⟩
 refine aB 53 ?_;refine aA rfl (planted_c (a0.keep (e0.block 0 a0.1) e0.size) e1 li3_by dM dM) rfl ?_;rintro _ w8 ⟨L,R,k3,g,lv,ps,rfl,m0,b4,a5,k0,c5,x3⟩;rw [show hU li3=li3 by decide] at k0;have f1:=e0.trans x3;have q2:Grow w8 w8:=Grow.refl _;repeat refine aF ?_
 refine TL.buildSlice rfl rfl rfl rfl rfl ?_;intro b9 w9 u3 c4 u4 p4 _;refine eH rfl rfl rfl ?_;refine gU rfl (show Blk w9 b9 5 (bB [98]) from c4) rfl oM (by unfold maxLen;omega) rfl ?_;intro j3 q0 u0;have i0:Grow w8 j3:=aH q0 oM u3;have x2:=i0.size;repeat refine aF ?_
 have z0:=(m0.grow (q2.trans i0)).pw;refine aB 131 ?_;refine aA rfl (keys_c z0 k0 oM dM li3_by (λ _=>True) _ _ _ _ _ _ [98] [] false 0 (u0.mono (λ _ _=>trivial)) jH dM dM dM) rfl ?_;rintro _ i3 ⟨rfl,r1⟩;rw [show keysB (lU li3 [98] [] false 0)=[99,101] by decide];have o2:=(q2.trans i0).trans r1;repeat (first|(refine mE ?_;refine TL.eqS (s:=txt [99,101]) (t:=txt [99,101]) (b:=true) rfl rfl sM rfl ?_)|refine yC ?_)
 refine TL.buildSlice rfl rfl rfl rfl rfl ?_;intro k4 h3 q1 x1 q3 o3 _;refine eH rfl rfl rfl ?_;refine gU rfl (show Blk h3 k4 5 (bB [99]) from x1) rfl oM (by unfold maxLen;omega) rfl ?_;intro g3 p0 t0;have g0:Grow i3 g3:=aH p0 oM q1;have u2:=g0.size;repeat (refine yC ?_)
 have y0:=(m0.grow (o2.trans g0)).pw;refine aB 131 ?_;refine aA rfl (keys_c y0 k0 oM dM li3_by (λ _=>True) _ _ _ _ _ _ [] [99] false 0 jH (t0.mono (λ _ _=>trivial)) dM dM dM) rfl ?_;rintro _ n0 ⟨rfl,o1⟩;rw [show keysB (lU li3 [] [99] false 0)=[97] by decide];have j2:=(o2.trans g0).trans o1;repeat (first|(refine mE ?_;refine TL.eqS (s:=txt [97]) (t:=txt [97]) (b:=true) rfl rfl sM rfl ?_)|refine yC ?_)
 obtain ⟨f3,j0⟩:∃ y,y=n0:=⟨n0,rfl⟩
 have l0:Grow n0 f3:=by rw [j0];exact Grow.refl _
 rw [← j0];have x0:=(m0.grow (j2.trans l0)).pw;refine aB 131 ?_;refine aA rfl (keys_c x0 k0 oM dM li3_by (λ _=>True) _ _ _ _ _ _ [] [] true 0 jH jH dM dM dM) rfl ?_;rintro _ d3 ⟨rfl,m1⟩;rw [show keysB (lU li3 [] [] true 0)=[101,99,97] by decide];have h2:=(j2.trans l0).trans m1;repeat (first|(refine mE ?_;refine TL.eqS (s:=txt [101,99,97]) (t:=txt [101,99,97]) (b:=true) rfl rfl sM rfl ?_)|refine yC ?_)
 refine TL.buildSlice rfl rfl rfl rfl rfl ?_;intro j4 z2 j1 u1 p3 m3 _;refine eH rfl rfl rfl ?_;refine gU rfl (show Blk z2 j4 5 (bB [98]) from u1) rfl oM (by unfold maxLen;omega) rfl ?_;intro y2 o0 s0;have f0:Grow d3 y2:=aH o0 oM j1;have s2:=f0.size;repeat (refine yC ?_)
 have v0:=(m0.grow (h2.trans f0)).pw;refine aB 131 ?_;refine aA rfl (keys_c v0 k0 oM dM li3_by (λ _=>True) _ _ _ _ _ _ [98] [] true 1 (s0.mono (λ _ _=>trivial)) jH dM dM dM) rfl ?_;rintro _ o4 ⟨rfl,h1⟩;rw [show keysB (lU li3 [98] [] true 1)=[101] by decide];have h4:=(h2.trans f0).trans h1;repeat (first|(refine mE ?_;refine TL.eqS (s:=txt [101]) (t:=txt [101]) (b:=true) rfl rfl sM rfl ?_)|refine yC ?_)
 exact bA rfl ⟨_,rfl,rfl,f1.trans h4⟩
theorem kitem_c {F G:Nat→Prop} {w:World} {a1 a2 b1 b2:Option Addr} {n1 c1 n2 c2 m1 d1 m2 d2:Nat} {it:Bs×Bs} (h1:Sl F w 1 a1 n1 c1 (bB it.1)) (h2:Sl F w 1 a2 n2 c2 (bB it.2)) (k1:Sl G w 1 b1 m1 d1 (bB it.1)) (k2:Sl G w 1 b2 m2 d2 (bB it.2)) :
  Calls Tryz.prog 59 #[.agg #[.slice a1 n1 c1,.slice a2 n2 c2],.agg #[.slice b1 m1 d1,.slice b2 m2 d2]] w (Ret λ v w'=>v=.bool true∧Grow w w'):=by
 refine V.calls (args:=[_,_]) Tryz.func59 rfl Tryz.ntmps59 rfl rfl ?_;repeat (first|(refine eA ?_;first|refine mF rfl (h1.grow yG) rfl ?_|refine mF rfl (h2.grow yG) rfl ?_|refine mF rfl (k1.grow yG) rfl ?_|refine mF rfl (k2.grow yG) rfl ?_)|(refine mE ?_;refine TL.eqS (b:=true) rfl rfl sM rfl ?_)|refine yC ?_|refine yI λ bk w' hg f0 e0 a0=>?_)
 exact bA rfl ⟨_,rfl,rfl,yG⟩
theorem ItsAt.item {F:Nat→Prop} {w:World} {a:Option Addr} {n c:Nat} {l:bT} (h:ItsAt F w a n c l) {i:Nat} {x:Bs×Bs} (hx:l[i]? = some x):∃ ka kc va vc cs,Sl F w 2 a n c cs∧(∀ j u,[Value.slice ka x.1.length kc,.slice va x.2.length vc][j]? = some u→cs[i*2+j]? = some u)∧Sl F w 1 ka x.1.length kc (bB x.1)∧Sl F w 1 va x.2.length vc (bB x.2):=by
 obtain ⟨cs,g0,h0⟩:=h.ex;obtain ⟨kv,vv,f0,f1,hk,hv⟩:=h0.at' hx;obtain ⟨ka,kc,rfl,e0⟩:=hk.sl;obtain ⟨va,vc,rfl,a0⟩:=hv.sl;rw [Nat.mul_comm] at f0 f1;exact ⟨ka,kc,va,vc,cs,g0,two_at f0 f1,e0,a0⟩
theorem kitems_c {F G:Nat→Prop} {w:World} {a b:Option Addr} {n c m d:Nat} {l r:bT} (h1:ItsAt F w a n c l) (h2:ItsAt G w b m d r) (k0:l=r) :
  Calls Tryz.prog 41 #[.slice a n c,.slice b m d] w (Ret λ v w'=>v=.bool true∧Grow w w'):=by
 have e1:=h1.len;have e2:=h2.len;have l1:n≤9223372036854775807:=by obtain ⟨cs,l0,_⟩:=h1.ex;exact l0.le
 subst k0;subst e1;subst e2;refine V.calls (args:=[_,_]) Tryz.func41 rfl Tryz.ntmps41 rfl rfl ?_;have hq:(((l.length:Nat):Int) != ((l.length:Nat):Int))=false:=by simp
 repeat refine aF ?_
 refine aX (S:=Nat) (λ i=>[(5,.int .i64 (i:Int)),(1,.slice b l.length d),(0,.slice a l.length c)]) (λ i w2=>i≤l.length∧Grow w w2) (λ i=>l.length-i) 0 ⟨rfl,rfl,rfl,trivial⟩ ⟨Nat.zero_le _,Grow.refl _⟩ ?_;rintro i w2 ⟨hi,hg⟩;by_cases e0:i<l.length
 ·obtain ⟨x,hx⟩:∃ q,l[i]? = some q:=⟨_,List.getElem?_eq_getElem e0⟩
  obtain ⟨ka,kc,va,vc,cs,s1,s2,s3,s4⟩:=(h1.go (Carry.grow hg)).item hx;obtain ⟨j0,i0,h0,g0,o0,q1,q2,q3,q4⟩:=(h2.go (Carry.grow hg)).item hx;repeat refine aF ?_
  apply T.any 10 [is (.slice a l.length c),is (.int .i64 (i:Int)),is (.pointer (some (at' a (i*2)))),is (.agg #[.slice ka x.1.length kc,.slice va x.2.length vc]),is (.slice b l.length d),is (.int .i64 (i:Int)),is (.pointer (some (at' b (i*2)))),is (.agg #[.slice j0 x.1.length i0,.slice h0 x.2.length g0]),is (.bool true),is (.bool false)]
  ·rfl
  ·repeat' (first|exact aN|refine aK ?_ ?_)
   iterate 2
    ·refine yQ λ wq _ _ a0=>?_;repeat refine aF ?_
     exact aD rfl yG rfl
   ·refine yQ λ wq _ _ a0=>?_;refine aC (j:=i) rfl rfl rfl e0 rfl ⟨_,_,s1.grow a0⟩ rfl ?_;repeat refine aF ?_
    exact aD rfl yG rfl
   ·refine yQ λ wq _ _ a0=>?_;refine dJ (o:=i*2) rfl (s1.grow a0) s2 rfl rfl ?_;repeat refine aF ?_
    exact aD rfl yG rfl
   iterate 2
    ·refine yQ λ wq _ _ a0=>?_;repeat refine aF ?_
     exact aD rfl yG rfl
   ·refine yQ λ wq _ _ a0=>?_;refine aC (j:=i) rfl rfl rfl e0 rfl ⟨_,_,q1.grow a0⟩ rfl ?_;repeat refine aF ?_
    exact aD rfl yG rfl
   ·refine yQ λ wq _ _ a0=>?_;refine dJ (o:=i*2) rfl (q1.grow a0) q2 rfl rfl ?_;repeat refine aF ?_
    exact aD rfl yG rfl
   ·refine yQ λ wq _ _ a0=>?_;refine aB 59 ?_;refine aA rfl (kitem_c (s3.grow a0) (s4.grow a0) (q3.grow a0) (q4.grow a0)) rfl ?_;rintro _ w6 ⟨rfl,f0⟩;repeat refine aF ?_
    exact aD rfl f0 rfl
   ·refine yQ λ wq _ _ a0=>?_;repeat refine aF ?_
    exact aD rfl yG rfl
  ·intro w6 m0 n0 f0 _ _;((refine yT ?_))
   repeat refine aF ?_
   exact aE (i+1) ⟨rfl,rfl,rfl,trivial⟩ ⟨oM,hg.trans f0⟩ oM
 ·obtain rfl:i=l.length:=by omega
  repeat refine aF ?_
  exact bA rfl ⟨_,rfl,rfl,hg⟩
def HasOk (F:Nat→Prop) (w:World) (f:Bs→Option Value) (its:bT):Prop:=∀ k,(f k=none∧∀ y∈its,y.1≠k)∨∃ u v,f k=some u∧(k,v)∈its∧BsAt F w u v
theorem HasOk.go {F F':Nat→Prop} {w w':World} {f:Bs→Option Value} {its:bT} (h:HasOk F w f its) (g:Carry F w F' w'):HasOk F' w' f its:=λ k=>by
 rcases h k with h|⟨u,v,h1,h2,h3⟩
 ·exact .inl h
 ·exact .inr ⟨u,v,h1,h2,h3.go g⟩
theorem HasOk.put {F:Nat→Prop} {w:World} {f:Bs→Option Value} {its:bT} (h:HasOk F w f its) (hs:Srt its) {key v:Bs} {u:Value} (hu:BsAt F w u v):HasOk F w (upG f key u) (gQ key v its):=λ k=>by
 by_cases hk:k=key
 ·subst hk;exact .inr ⟨u,v,by simp [upG],(insI_iff hs).2 (.inl rfl),hu⟩
 ·rcases h k with ⟨h1,h2⟩|⟨u',v',h1,h2,h3⟩
  ·refine .inl ⟨by unfold upG;rw [if_neg hk];exact h1,λ y hy=>?_⟩;rcases (insI_iff hs).1 hy with rfl|⟨hy,_⟩
   ·exact λ e=>hk e.symm
   ·exact h2 y hy
  ·exact .inr ⟨u',v',by unfold upG;rw [if_neg hk];exact h1,(insI_iff hs).2 (.inr ⟨h2,hk⟩),h3⟩
theorem HasOk.keys {F:Nat→Prop} {w:World} {f:Bs→Option Value} {its:bT} (h:HasOk F w f its) (k:Bs):(∃ v,f k=some v)↔k∈its.map (·.1):=by
 rcases h k with ⟨h1,h2⟩|⟨u,v,h1,h2,h3⟩
 ·rw [h1]
  exact ⟨(λ ⟨v,e⟩=>by cases e),λ hk=>by
   obtain ⟨y,hy,e⟩:=List.mem_map.1 hk
   exact absurd e (h2 y hy)⟩
 ·exact ⟨λ _=>List.mem_map.2 ⟨_,h2,rfl⟩,λ _=>⟨u,h1⟩⟩
def rootVs (rs:List (Option Nat)):List Value:=rs.map λ r=>.int .i64 (dS r)
def txtVs (ts:List Bs):List Value:=ts.map λ t=>.string (txt t)
def Fv (L:PL) (m:Nat) (rv tv:Value) (k:Nat):Prop:=¬ L.S k∧k≠m∧rv.ownBlock≠some k∧tv.ownBlock≠some k
structure Hd (B:Nat) (v:World) (L:PL) (m:Nat) (rv tv:Value) (rs:List (Option Nat)) (ts:List Bs) (f:Bs→Option Value) (its:bT):Prop where
 r:v.ownsRow B 3 1 rv rs.length (rootVs rs)
 t:v.ownsRow B 9 1 tv ts.length (txtVs ts)
 rn:∀ k,rv.ownBlock=some k→¬ L.S k∧k≠m∧tv.ownBlock≠some k
 tn:∀ k,tv.ownBlock=some k→¬ L.S k∧k≠m
 dn:rv.ownBlock≠some L.d∧tv.ownBlock≠some L.d
 mp:MapG keyS okS v m f
 mn:¬ L.S m∧B≤m∧m≠L.d
 has:HasOk (Fv L m rv tv) v f its
variable {B:Nat} {v v':World} {L:PL} {m:Nat} {rv tv:Value} {rs:List (Option Nat)} {ts:List Bs} {f:Bs→Option Value} {its:bT}
theorem Hd.grow (h:Hd B v L m rv tv rs ts f its) (g:Grow v v'):Hd B v' L m rv tv rs ts f its :=
 ⟨aO h.r g,aO h.t g,h.rn,h.tn,h.dn,h.mp.grow g,h.mn,h.has.go (Carry.grow g)⟩
theorem Hd.pages {L':PL} (h:Hd B v L m rv tv rs ts f its) (h1:L'.p=L.p) (h0:L'.d=L.d) (h2:L'.m=L.m) (h3:v.heap.size≤L'.u) (b:ButS (λ k=>k=L.p) v v'):Hd B v' L' m rv tv rs ts f its:=by
 have hS:∀ k,k<v.heap.size→¬ L.S k→¬ L'.S k:=λ k hk hn hS=>by
  unfold PL.S at hn hS;rw [h1,h2] at hS;rcases hS with hS|hS|hS
  ·omega
  ·exact hn (.inr (.inl hS))
  ·exact hn (.inr (.inr hS))
 have hp:∀ k,¬ L.S k→k≠L.p:=λ k hn e=>hn (.inr (.inr e));refine ⟨cB h.r λ k hk hv=>b.block k (aR h.r hv).2 (hp k (h.rn k hv).1),cB h.t λ k hk hv=>b.block k (aR h.t hv).2 (hp k (h.tn k hv).1),λ k hv=>⟨hS k (aR h.r hv).2 (h.rn k hv).1,(h.rn k hv).2⟩,λ k hv=>⟨hS k (aR h.t hv).2 (h.tn k hv).1,(h.tn k hv).2⟩,h0▸h.dn,h.mp.keep (b.block m h.mp.lt (hp m h.mn.1)),⟨hS m h.mp.lt h.mn.1,h.mn.2.1,h0▸h.mn.2.2⟩,h.has.go ?_⟩;exact (Carry.mono (F':=λ k=>Fv L m rv tv k∧k<v.heap.size) λ k hk hl=>⟨hk,hl⟩).trans ((Carry.buts b λ k hk _=>hp k hk.1.1).trans (Carry.mono λ k hk _=>⟨hS k hk.2 hk.1.1,hk.1.2⟩))
theorem new_block {v v':World} {rv a0:Value} (e0:∀ G:Nat→Prop,Carry (λ j=>G j∧rv.ownBlock≠some j) v (λ j=>G j∧a0.ownBlock≠some j) v') {j:Nat} (h:a0.ownBlock=some j):rv.ownBlock=some j∨v.heap.size≤j:=by
 by_cases h1:rv.ownBlock=some j
 ·exact .inl h1
 ·rcases Nat.lt_or_ge j v.heap.size with h2|h2
  ·exact absurd h ((e0 (λ x=>x=j)).blk j ⟨rfl,h1⟩ h2).1.2
  ·exact .inr h2
theorem Hd.pushR (h:Hd B v L m rv tv rs ts f its) (hl:∀ k,L.S k∨k=L.d→k<v.heap.size) {a0:Value} {r:Option Nat} (ho:v'.ownsRow B 3 1 a0 (rs.length+1) (rootVs rs++[.int .i64 (dS r)])) (gb:v.grownBy v' rv.ownBlock) (e0:∀ G:Nat→Prop,Carry (λ j=>G j∧rv.ownBlock≠some j) v (λ j=>G j∧a0.ownBlock≠some j) v'):Hd B v' L m a0 tv (rs++[r]) ts f its:=by
 have ht:=cB (w':=v') h.t λ k hk hv=>gb.block k (aR h.t hv).2 λ e=>(h.rn k e.symm).2.2 hv;refine ⟨by rw [List.length_append,rootVs,List.map_append];exact ho,ht,λ k hk=>?_,h.tn,⟨λ e=>(new_block e0 e).elim h.dn.1 λ h1=>by have:=hl _ (.inr rfl);omega,h.dn.2⟩,h.mp.keep (gb.block m h.mp.lt λ e=>(h.rn m e.symm).2.1 rfl),h.mn,h.has.go ?_⟩
 ·rcases new_block e0 hk with h1|h1
  ·exact h.rn k h1
  ·refine ⟨λ hS=>by have:=hl k (.inl hS);omega,λ e=>by have:=h.mp.lt;omega,λ e=>by have:=(aR h.t e).2;omega⟩
 ·exact (Carry.mono (F':=λ j=>(¬ L.S j∧j≠m∧tv.ownBlock≠some j)∧rv.ownBlock≠some j) λ k hk _=>⟨⟨hk.1,hk.2.1,hk.2.2.2⟩,hk.2.2.1⟩).trans ((e0 _).trans (Carry.mono λ k hk _=>⟨hk.1.1,hk.1.2.1,hk.2,hk.1.2.2⟩))
end Go.Proofs.YtfpadnmdafiddaaGreatDoor
namespace Go.V
open Go Go.RowKit
section
variable [Rn]
variable {P:Program} {n:Nat} {e:dI} {w:World} {Q:dA} {ops:Array Oper} {rest:List Oper} {d:Nat} {ty:TypeId} {pos:String} {aft:Array Edge}
end
end Go.V
namespace Go.Proofs.YtfpadnmdafiddaaGreatDoor
open Go Go.RowKit Go.V
theorem putL_by {l:bT} {x:Bs×Bs} (h:∀ y∈l,fK y.1∧fK y.2) (hx:fK x.1∧fK x.2):∀ y∈putL l x,fK y.1∧fK y.2:=by
 intro y hy;unfold putL at hy;split at hy
 ·rcases nG hy with rfl|hy
  ·exact hx
  ·exact h y hy
 ·exact h y hy
theorem plant_by {l:bT}:∀ {a0:bT},(∀ y∈a0,fK y.1∧fK y.2)→(∀ y∈l,fK y.1∧fK y.2)→∀ y∈l.foldl putL a0,fK y.1∧fK y.2:=by
 induction l with
 | nil=>intro a0 h _;exact h
 | cons x r ih=>intro a0 h hl;exact ih (putL_by h (hl x sM)) (λ y hy=>hl y (List.mem_cons_of_mem _ hy))
theorem plantL_by {l:bT} (h:∀ y∈l,fK y.1∧fK y.2):∀ y∈hU l,fK y.1∧fK y.2:=plant_by sM h
theorem plantL_len (l:bT):(hU l).length≤l.length:=by have:=foldl_len l [];simpa [hU] using this
theorem light_b {F:Nat→Prop} {w:World} {a:Option Addr} {n c:Nat} {l:bT} (h:ItsAt F w a n c l) {b:Bool} (e:lightB l=b) :
  Calls Tryz.prog 52 #[.slice a n c] w (Ret λ v w'=>v=.bool b∧w=w'):=e▸light_c h
theorem light_of {l:bT} (h:lightB l=true):l.length≤60∧∀ x∈l,x.1.length≤100∧x.2.length≤100:=by
 unfold lightB at h;simp only [Bool.and_eq_true,decide_eq_true_eq,List.all_eq_true] at h;exact ⟨h.1,λ x hx=>by have:=h.2 x hx;simpa [lit1] using this⟩
structure Ky where
 a:Option Addr
 c:Nat
 b:Bs
def Ky.v (k:Ky):Value:=.slice k.a k.b.length k.c
structure Skz (w0 w:World) (C:CC) (cb:Nat) (E:CE) (d:Int) (pv:Value) (fs:List (Nd×Int)) (ix:Option Nat) (b5 bl:Nat) (sp:List Value) (k1 k2:Ky) (R:bT) (ra:Option Addr) (rc:Nat):Prop where
 cu:Cu w C cb d pv fs
 ok:Ok w C cb E
 at_:AtE E fs ix
 bd:∀ j,ix=some j→j<E.al.length
 d0:0≤d
 lt5:b5<cb
 box:Blk w b5 92 sp
 its:ItsAt (λ k=>k<cb) w ra R.length rc R
 ss:∀ z,z=k1∨z=k2→Sl (λ k=>k<cb) w 1 z.a z.b.length z.c (bB z.b)
 kk:Blk w bl 30 [k1.v,k2.v,k1.v]
 ltl:cb<bl
 nl:pv.ownBlock≠some bl
 new:w0.heap.size≤cb
 gr:Grow w0 w
section
variable {w0 w:World} {C:CC} {cb:Nat} {E:CE} {d:Int} {pv:Value} {fs:List (Nd×Int)} {ix:Option Nat} {b5 bl:Nat} {sp:List Value} {k1 k2:Ky} {R:bT} {ra:Option Addr} {rc:Nat}
theorem Skz.grow {w':World} (s:Skz w0 w C cb E d pv fs ix b5 bl sp k1 k2 R ra rc) (g:Grow w w'):Skz w0 w' C cb E d pv fs ix b5 bl sp k1 k2 R ra rc :=
 ⟨s.cu.grow g,s.ok.grow g,s.at_,s.bd,s.d0,s.lt5,s.box.grow g,s.its.go (Carry.grow g),λ z hz=>(s.ss z hz).grow g,s.kk.grow g,s.ltl,s.nl,s.new,s.gr.trans g⟩
theorem Skz.to {w':World} {d':Int} {pv':Value} {e0:List (Nd×Int)} {a0:Option Nat} (s:Skz w0 w C cb E d pv fs ix b5 bl sp k1 k2 R ra rc) (cu:Cu w' C cb d' pv' e0) (t:CuTo cb pv pv' w w') (at_:AtE E e0 a0) (bd:∀ j,a0=some j→j<E.al.length) (d0:0≤d'):Skz w0 w' C cb E d' pv' e0 a0 b5 bl sp k1 k2 R ra rc:=by
 have c:=s.cu.carry0 t;have hl:=s.ltl;have hk:=s.kk.lt
 exact ⟨cu,s.ok.go (s.cu.carry t),at_,bd,d0,s.lt5,bX s.box t.but (λ e=>by
  rcases e with e|e
  ·have:=s.lt5;omega
  ·have:=(s.cu.own e).1;have:=s.lt5;omega),s.its.go c,λ z hz=>(s.ss z hz).go c,bX s.kk t.but (λ e=>by
  rcases e with e|e
  ·omega
  ·exact s.nl e),s.ltl,λ e=>by
  rcases t.own _ e with e|e
  ·exact s.nl e
  ·omega,s.new,gD s.gr t.but (λ k hk=>by
  rcases hk with e|e
  ·have:=s.new;omega
  ·have:=(s.cu.own e).1;have:=s.new;omega)⟩
end
section
variable [Rn]
variable {n:Nat} {e:dI} {w:World} {Q:dA} {ops:Array Oper} {rest:List Oper} {d:Nat} {ty:TypeId} {pos:String} {aft:Array Edge}
end
end Go.Proofs.YtfpadnmdafiddaaGreatDoor
namespace Go.V
open Go Go.RowKit
section
variable [Rn]
variable {P:Program} {n:Nat} {e:dI} {w:World} {Q:dA}
structure RangeOutB (P:Program) (n:Nat) (i:Nat) (B:Code) (Q:dA) (e:dI) (D:Nat) (rc:LoopState→Option Code→Loop) (w:World):Prop where
 mark:w.heap[D]? = some (.deferred (some []))
 cases':(w.heap[D+1]? = some (.loop (rc .ready none))∧∀ (I:Rn) (w4:World),I.ro=none→I.lo=D+1→Upd (D+1) w w4→@T I P n B e w4 (markQ D Q)) ∨
  (w.heap[D+1]? = some (.loop (rc .done (some .ret)))∧∀ w4 w5,Upd (D+1) w w4→Upd D w4 w5→Q .ret e w5) ∨
  (w.heap[D+1]? = some (.loop (rc .done (some (.exit i))))∧∀ (I:Rn) (w4:World),I.ro=none→I.lo=D+1→Upd (D+1) w w4→@T I P n B e w4 (markQ D Q))
theorem T2.rangeB {i:Nat} {g:Operand} {ps:List Tmp} {x y B:Code} {gf:FuncId} {lb:List Value} [hf:FnOk P gf] (h0:Rn.ro=none) (k0:Rn.lo≤w.heap.size) (hg:val e g=some (.func (.func gf) #[] lb.toArray))
  (h:∀ rc w1,LoopIn n ps x y e rc→w1.heap.size=w.heap.size+2→Grow w w1→w1.heap[w.heap.size+1]? = some (.loop (rc .ready none))→w1.heap[w.heap.size]? = some (.deferred (some [])) →
   Calls P gf (.func (.yield (w.heap.size+1)) #[] #[]::lb).toArray w1 (Ret λ _ w2=>RangeOutB P n i B Q e w.heap.size rc w2)) :
  T2 P n (.block i (.rangeFunc g ps.toArray x y)) B e w Q:=λ a ha=>by
 have hF:FR Rn.ro=FR none:=by rw [h0]
 refine wpIn_block (wpIn_rangeFunc λ fn _=>?_);obtain ⟨rc,a0⟩:∃ rc:LoopState→Option Code→Loop,rc=λ st pd=>{ state:=st,pending:=pd,fn:=fn,tmps:=a.tmps,params:=ps.toArray,assign:=x,body:=y,defers:=w.heap.size }:=⟨_,rfl⟩
 have e0:(Instr.enterLoop fn a.tmps ps.toArray x y (FR Rn.ro).round).run P w=.ok (w.heap.size+1,[mkD w.heap.size]) ((w.alloc (.deferred (some []))).alloc (.loop (rc .ready none))):=by
  rw [hF,a0];exact run_enterLoop_outer _ _ _ _ _
 generalize hW:(w.alloc (.deferred (some []))).alloc (.loop (rc .ready none))=W1 at e0
 have l0:W1.heap[w.heap.size+1]? = some (.loop (rc .ready none)):=by
  rw [← hW];have:=World.alloc_heap_new (w.alloc (.deferred (some []))) (.loop (rc .ready none));rwa [World.size_alloc] at this
 have m0:W1.heap[w.heap.size]? = some (.deferred (some [])):=by
  rw [← hW];exact (Below.heap_alloc _ _ _ sM).trans (World.alloc_heap_new w _)
 have n0:Grow w W1:=by rw [← hW];exact Grow.mk (((Below.refl _ w).alloc (Nat.le_refl _) _).alloc sM _)
 have hc:=h rc W1 ⟨fn,a.tmps,w.heap.size,⟨ha.size,ha.get⟩,a0⟩ (by rw [← hW];simp) n0 l0 m0;have o0:∀ st pd,{ (rc st pd) with state:=LoopState.exhausted }=rc .exhausted pd:=by subst a0;exact λ _ _=>rfl
 have g0:∀ st pd,(rc st pd).state=st:=by subst a0;exact λ _ _=>rfl
 have i0:∀ st pd,(rc st pd).pending=pd:=by subst a0;exact λ _ _=>rfl
 refine ⟨w.heap.size+1,[mkD w.heap.size],_,⟨.fn (.func gf) lb.toArray,#[.func (.yield (w.heap.size+1)) #[] #[]]⟩,W1,gf,(.func (.yield (w.heap.size+1)) #[] #[]::lb).toArray,W1,e0,?_,λ _ _=>trivial,?_,(λ h=>by cases h),?_⟩
 ·simp [rangeCall,resolve,ha.eval hg,Deferred.ofValue,Sem.run_bind,Result.andThen];rfl
 ·show (callFunc gf (#[Value.func (.yield (w.heap.size+1)) #[] #[]]++lb.toArray)).run P _=_;have:=lE (P:=P) (f:=gf) (.func (.yield (w.heap.size+1)) #[] #[]::lb).toArray W1;simpa using this
 ·refine CallsIn.mono (calls_fr hc) λ en w2 p0=>?_;obtain ⟨v,rfl,hD,f0⟩:=p0
  have j0:@Fits (behind w.heap.size) n e { a with defers:=mkD w.heap.size::a.defers } :=
   @Fits.mk (behind w.heap.size) n e _ (show mkD w.heap.size::a.defers=mkD w.heap.size::Rn.ds by rw [ha.defers]) ha.size ha.get
  have hB:∀ w4,@T (behind w.heap.size) P n B e w4 (markQ w.heap.size Q)→B.wpIn (FR Rn.ro) 0 P (iG n Q) { a with defers:=mkD w.heap.size::a.defers } w4:=λ w4 hT=>by
   rw [hF];exact wpIn_mono (@T.out (behind w.heap.size) _ _ _ _ _ _ hT _ j0) λ ex a w hx=>lift_mark h0 k0 hx
  rcases f0 with ⟨h1,h2⟩|⟨h1,h2⟩|⟨h1,h2⟩
  ·exact ⟨none,_,by have:=run_endLoop (P:=P) h1 (by rw [g0];simp);rw [i0] at this;exact this,hB _ (h2 _ _ rfl rfl (eZ _ _ _))⟩
  ·refine ⟨some .ret,_,by have:=run_endLoop (P:=P) h1 (by rw [g0];simp);rw [i0] at this;exact this,wpIn_ret ?_⟩;refine ⟨e,[w.heap.size],⟨by rw [← ha.defers];rfl,ha.size,ha.get,sM,λ r hr=>?_,.inl h0⟩,h2 _ _ (eZ _ _ _) (eZ _ _ _)⟩;simp only [List.mem_singleton] at hr;subst hr;exact ⟨k0,by rw [World.putObj_heap_other oM];exact hD⟩
  ·refine ⟨some (.exit i),_,by have:=run_endLoop (P:=P) h1 (by rw [g0];simp);rw [i0] at this;exact this,wpIn_exit ?_⟩;simp only [Exit.inBlock,if_true];exact hB _ (h2 _ _ rfl rfl (eZ _ _ _))
theorem RangeOutB.of {i:Nat} {B:Code} {D:Nat} {rc:LoopState→Option Code→Loop} {w:World} (h1:w.heap[D]? = some (.deferred (some []))) (h2:w.heap[D+1]? = some (.loop (rc .ready none))∨w.heap[D+1]? = some (.loop (rc .done (some (.exit i))))) (h3:∀ (I:Rn) (w4:World),I.ro=none→I.lo=D+1→Upd (D+1) w w4→@T I P n B e w4 (markQ D Q)):RangeOutB P n i B Q e D rc w :=
 ⟨h1,h2.elim (λ h=>.inl ⟨h,h3⟩) (λ h=>.inr (.inr ⟨h,h3⟩))⟩
end
end Go.V
namespace Go.Proofs.YtfpadnmdafiddaaGreatDoor
open Go Go.RowKit Go.V
structure Gt (w:World) (C:CC) (cb:Nat) (E:CE) (B b15 b1 D Dm X:Nat) (w0:World) (told rm:bT) (gv pv:Value):Prop where
 it_:Blk w b1 97 [.pointer (some ⟨cb,0,none⟩)]
 cz:∃ d fs ix,Cz w C cb E d pv fs ix rm
 box:Blk w b15 54 [gv]
 row:∃ cs,w.ownsRow B 58 2 gv told.length cs∧ItCells (λ k=>(B≤k∧k≠D∧k≠D+1∧pv.ownBlock≠some k)∧gv.ownBlock≠some k) w cs told
 gp:∀ k,gv.ownBlock=some k→pv.ownBlock≠some k∧k≠D∧k≠D+1∧k≠b1∧k≠Dm
 pp:∀ k,pv.ownBlock=some k→k≠D∧k≠D+1∧k≠b1∧k≠b15∧k≠Dm
 lt:cb<b15∧b15<B∧B≤b1∧b1<D∧X≤cb∧D+1<w.heap.size∧b15<Dm∧Dm≠D+1∧Dm<w.heap.size
 mrk:w.heap[D]? = some (.deferred (some []))
 mrk2:w.heap[Dm]? = some (.deferred (some []))
 bl:Below X w0 w
section
variable {w w':World} {C:CC} {cb:Nat} {E:CE} {B b15 b1 D Dm X:Nat} {w0:World} {told rm:bT} {gv pv pv':Value}
theorem Gt.free {it:bT} (h:Gt w C cb E B b15 b1 D Dm X w0 told it gv pv) (t:CuTo cb pv pv' w w') {k:Nat} (h1:k≠cb) (h2:pv.ownBlock≠some k) (hl:k<w.heap.size):w'.heap[k]? = w.heap[k]?:=t.but.block k hl (λ e=>e.elim h1 h2)
theorem Gt.next {a0:bT} {d:Int} {fs:List (Nd×Int)} {ix:Option Nat} (h:Gt w C cb E B b15 b1 D Dm X w0 told rm gv pv) (z:Cz w' C cb E d pv' fs ix a0) (t:CuTo cb pv pv' w w'):Gt w' C cb E B b15 b1 D Dm X w0 told a0 gv pv':=by
 have zl:=h.lt;have zs:=t.but.size;obtain ⟨cs,r1,r2⟩:=h.row;obtain ⟨_,_,_,z0⟩:=h.cz;refine ⟨cJ h.it_ (h.free t oM (λ e=>(h.pp _ e).2.2.1 rfl) h.it_.lt),⟨_,_,_,z⟩,cJ h.box (h.free t oM (λ e=>(h.pp _ e).2.2.2.1 rfl) h.box.lt),⟨cs,cB r1 (λ k hk hv=>h.free t oM (h.gp k hv).1 (aR r1 hv).2),r2.go ⟨zs,λ k hk hl=>⟨⟨⟨hk.1.1,hk.1.2.1,hk.1.2.2.1,λ e=>(t.own k e).elim hk.1.2.2.2 (λ e=>by omega)⟩,hk.2⟩,h.free t oM hk.1.2.2.2 hl⟩⟩⟩,λ k hv=>⟨λ e=>(t.own k e).elim (h.gp k hv).1 (λ e=>by have:=(aR r1 hv).2;omega),(h.gp k hv).2⟩,λ k e=>(t.own k e).elim (λ e=>h.pp k e) (λ e=>by omega),oM,(h.free t oM (λ e=>(h.pp _ e).1 rfl) oM).trans h.mrk,(h.free t oM (λ e=>(h.pp _ e).2.2.2.2 rfl) oM).trans h.mrk2,h.bl.trans ⟨t.but.os,t.but.tape,t.but.output,zs,λ k hk=>h.free t oM (λ e=>by have:=(z0.cu.own e).1;omega) oM⟩⟩
theorem Gt.recN {o:Option Obj} (h:Gt w C cb E B b15 b1 D Dm X w0 told rm gv pv) (t:CuTo cb pv pv' w w') (hr:w.heap[D+1]? = o):w'.heap[D+1]? = o:=(h.free t (by have:=h.lt;omega) (λ e=>(h.pp _ e).2.1 rfl) (by have:=h.lt;omega)).trans hr
theorem Gt.grow (h:Gt w C cb E B b15 b1 D Dm X w0 told rm gv pv) (g:Grow w w'):Gt w' C cb E B b15 b1 D Dm X w0 told rm gv pv:=by
 have zl:=h.lt;have zs:=g.size;obtain ⟨cs,r1,r2⟩:=h.row;obtain ⟨_,_,_,z0⟩:=h.cz;exact ⟨h.it_.grow g,⟨_,_,_,z0.grow g⟩,h.box.grow g,⟨cs,aO r1 g,r2.go (Carry.grow g)⟩,h.gp,h.pp,oM,(g.block D oM).trans h.mrk,(g.block Dm oM).trans h.mrk2,kB g oM h.bl⟩
theorem Gt.upd (h:Gt w C cb E B b15 b1 D Dm X w0 told rm gv pv) (u:Upd (D+1) w w'):Gt w' C cb E B b15 b1 D Dm X w0 told rm gv pv:=by
 have zl:=h.lt;have zs:=u.size;obtain ⟨cs,r1,r2⟩:=h.row;obtain ⟨_,_,_,z0⟩:=h.cz;exact ⟨h.it_.upd u oM,⟨_,_,_,z0.upd u oM (λ e=>(h.pp _ e).2.1 rfl)⟩,h.box.upd u oM,⟨cs,cB r1 (λ k hk hv=>u.block k (h.gp k hv).2.2.1),r2.go (Carry.upd u (λ k hk _=>hk.1.2.2.1))⟩,h.gp,h.pp,oM,(u.block D oM).trans h.mrk,(u.block Dm oM).trans h.mrk2,below_upd u oM h.bl⟩
theorem Gt.app {wb:World} {it:Bs×Bs} {cs:List Value} {e0:Value} {a1 a2:Option Addr} {n1 c1 n2 c2:Nat} (h:Gt w C cb E B b15 b1 D Dm X w0 told rm gv pv) (r1:w.ownsRow B 58 2 gv told.length cs) (r2:ItCells (λ k=>(B≤k∧k≠D∧k≠D+1∧pv.ownBlock≠some k)∧gv.ownBlock≠some k) w cs told)
  (s1:Sl (λ k=>(B≤k∧k≠D∧k≠D+1∧pv.ownBlock≠some k)∧gv.ownBlock≠some k) w 1 a1 n1 c1 (bB it.1)) (s2:Sl (λ k=>(B≤k∧k≠D∧k≠D+1∧pv.ownBlock≠some k)∧gv.ownBlock≠some k) w 1 a2 n2 c2 (bB it.2))
  (g0:wb.ownsRow B 58 2 e0 (told.length+1) (cs++[.slice a1 n1 c1,.slice a2 n2 c2])) (f0:w.grownBy wb gv.ownBlock) (a0:∀ G:Nat→Prop,Carry (λ j=>G j∧gv.ownBlock≠some j) w (λ j=>G j∧e0.ownBlock≠some j) wb) (u:Upd b15 wb w') (m0:Blk w' b15 54 [e0]) :
  Gt w' C cb E B b15 b1 D Dm X w0 (told++[it]) rm e0 pv:=by
 have zl:=h.lt;have zb:=f0.size;have zs:=u.size;obtain ⟨_,_,_,z0⟩:=h.cz;have i0:∀ k,gv.ownBlock=some k→B≤k∧k<w.heap.size:=λ k e=>aR r1 e;have h0:∀ k,k<w.heap.size→gv.ownBlock≠some k→wb.heap[k]? = w.heap[k]?:=λ k hk e=>f0.block k hk (λ h=>e h.symm);have n0:ButS (λ k=>gv.ownBlock=some k) w wb:=⟨f0.os,f0.tape,f0.output,zb,h0⟩
 have k0:∀ k,e0.ownBlock=some k→pv.ownBlock≠some k∧k≠D∧k≠D+1∧k≠b1∧k≠Dm:=λ k e=>by
  by_cases hk:k<w.heap.size
  ·by_cases hg:gv.ownBlock=some k
   ·exact h.gp k hg
   ·exact absurd e ((a0 (λ _=>True)).blk k ⟨trivial,hg⟩ hk).1.2
  ·exact ⟨λ e2=>by have:=(z0.cu.own e2).2;omega,oM,oM,oM,oM⟩
 have l0:∀ k,e0.ownBlock=some k→B≤k:=λ k e=>(aR g0 e).1;refine ⟨(cJ h.it_ (h0 b1 oM (λ e=>(h.gp _ e).2.2.2.1 rfl))).upd u oM,⟨_,_,_,(z0.buts n0 (λ k hk=>⟨.inr (by have:=(i0 k hk).1;omega),(h.gp k hk).1⟩)).upd u oM (λ e=>(h.pp _ e).2.2.2.1 rfl)⟩,m0,⟨_,by rw [List.length_append];exact cB g0 (λ k hk hv=>u.block k (by have:=l0 k hv;omega)),?_⟩,k0,h.pp,oM,?_,?_,?_⟩
 ·have j0:ItCells (λ k=>(B≤k∧k≠D∧k≠D+1∧pv.ownBlock≠some k)∧e0.ownBlock≠some k) wb (cs++[.slice a1 n1 c1,.slice a2 n2 c2]) (told++[it]):=ItCells.append (r2.go (a0 _)) ⟨⟨_,_,_,rfl,s1.go (a0 _)⟩,⟨_,_,_,rfl,s2.go (a0 _)⟩,trivial⟩;exact j0.go (Carry.upd u (λ k hk _=>by have:=hk.1.1;omega))
 ·rw [u.block D oM,h0 D oM (λ e=>(h.gp _ e).2.1 rfl)];exact h.mrk
 ·rw [u.block Dm oM,h0 Dm oM (λ e=>(h.gp _ e).2.2.2.2 rfl)];exact h.mrk2
 ·exact below_upd u oM (aL f0 oM (λ k e=>by have:=(i0 k e).1;omega) h.bl)
theorem Gt.recA {o:Option Obj} {wb:World} (h:Gt w C cb E B b15 b1 D Dm X w0 told rm gv pv) (a0:w.grownBy wb gv.ownBlock) (u:Upd b15 wb w') (hr:w.heap[D+1]? = o):w'.heap[D+1]? = o:=by
 have zl:=h.lt;rw [u.block (D+1) oM,a0.block (D+1) oM (λ e=>(h.gp _ e.symm).2.2.1 rfl)];exact hr
theorem Gt.buts {S:Nat→Prop} (h:Gt w C cb E B b15 b1 D Dm X w0 told rm gv pv) (b:ButS S w w') (hS:∀ k,S k→k<C.lo∨w.heap.size≤k):Gt w' C cb E B b15 b1 D Dm X w' told rm gv pv:=by
 have zl:=h.lt;have zs:=b.size;obtain ⟨cs,r1,r2⟩:=h.row;obtain ⟨_,_,_,z0⟩:=h.cz;have a0:C.lo≤cb:=by obtain ⟨_,_,_,_,_,h3,_⟩:=z0.ok.wlk;omega
 have e0:=z0.cu.lt;have hk:∀ k,cb≤k→k<w.heap.size→w'.heap[k]? = w.heap[k]?:=λ k h1 h2=>b.block k h2 (λ e=>by have:=hS k e;omega);exact ⟨cJ h.it_ (hk _ oM h.it_.lt),⟨_,_,_,z0.buts b (λ k e=>⟨(hS k e).imp_right λ e=>by omega,λ e2=>by have:=z0.cu.own e2;have:=hS k e;omega⟩)⟩,cJ h.box (hk _ oM h.box.lt),⟨cs,cB r1 (λ k e hv=>hk k oM (aR r1 hv).2),r2.go ⟨zs,λ k e hl=>⟨e,hk k oM hl⟩⟩⟩,h.gp,h.pp,oM,(hk D oM oM).trans h.mrk,(hk Dm oM oM).trans h.mrk2,Below.refl _ _⟩
theorem Gt.again {a0 D':Nat} (h:Gt w C cb E B b15 b1 D Dm X w0 told rm gv pv) (g:Grow w w') (hb:Blk w' a0 97 [.pointer (some ⟨cb,0,none⟩)]) (h1:w.heap.size≤a0) (h2:a0<D') (h3:w'.heap[D']? = some (.deferred (some []))) (h4:D'+1<w'.heap.size):Gt w' C cb E B b15 a0 D' Dm X w0 told rm gv pv:=by
 have zl:=h.lt;have zs:=g.size;obtain ⟨cs,r1,r2⟩:=h.row;obtain ⟨_,_,_,z0⟩:=h.cz;have e0:=h.box.lt;exact ⟨hb,⟨_,_,_,z0.grow g⟩,h.box.grow g,⟨cs,aO r1 g,(r2.go (F':=λ k=>(B≤k∧k≠D'∧k≠D'+1∧pv.ownBlock≠some k)∧gv.ownBlock≠some k) (Carry.mono λ k hk hl=>⟨⟨hk.1.1,oM,oM,hk.1.2.2.2⟩,hk.2⟩)).go (Carry.grow g)⟩,λ k e=>⟨(h.gp k e).1,by have:=(aR r1 e).2;omega,by have:=(aR r1 e).2;omega,by have:=(aR r1 e).2;omega,(h.gp k e).2.2.2.2⟩,λ k e=>⟨by have:=(z0.cu.own e).2;omega,by have:=(z0.cu.own e).2;omega,by have:=(z0.cu.own e).2;omega,(h.pp k e).2.2.2.1,(h.pp k e).2.2.2.2⟩,oM,h3,(g.block Dm oM).trans h.mrk2,kB g oM h.bl⟩
theorem Gt.at_ (h:Gt w C cb E B b15 b1 D Dm X w0 told rm gv pv):∃ a c,gv=.slice a told.length c∧ItsAt (λ k=>B≤k) w a told.length c told:=by
 obtain ⟨cs,r1,r2⟩:=h.row;obtain ⟨a,c,rfl,hs⟩:=aM r1;exact ⟨a,c,rfl,cs,hs.mono (λ k hk=>hk.1),r2.go (Carry.mono λ k hk _=>hk.1.1)⟩
end
theorem PgW.low {w w':World} {L:PL} {g:Pg} {X:Nat} (h:PgW w L g) (b:Below X w w') (hL:∀ k,k=L.p∨k=L.d∨k=L.u∨k=L.m→k<X) (h0:0<X):PgW w' L g :=
 ⟨h.at_.keep (λ k hk=>b.block k (hL k hk)),h.tab.keep (b.block 0 h0) b.size,h.ne0⟩
theorem grow_low {w w1 w':World} {X:Nat} (g:Grow w w1) (b:Below X w1 w') (h:w.heap.size≤X):Grow w w':=Grow.mk (g.1.trans (b.mono h))
end Go.Proofs.YtfpadnmdafiddaaGreatDoor
