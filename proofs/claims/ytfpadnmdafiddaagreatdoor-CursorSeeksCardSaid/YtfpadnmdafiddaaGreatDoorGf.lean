import Derived.Test.YtfpadnmdafiddaaGreatDoorG0
import Derived.Test.YtfpadnmdafiddaaGreatDoorGe
import Derived.Test.YtfpadnmdafiddaaGreatDoorGc
import Derived.Test.YtfpadnmdafiddaaGreatDoorGb
import Derived.Test.YtfpadnmdafiddaaGreatDoorGd
set_option linter.all false
set_option maxHeartbeats 16000000
set_option maxRecDepth 100000
namespace Go.Proofs.YtfpadnmdafiddaaGreatDoor
open Go Go.RowKit Go.V
structure NdOk (nd:Nd):Prop where
 n1:nd.items.length≤8
 n2:nd.kids.length≤8
 ne1:nd.kids.length≠1
 no:0<nd.kids.length→nd.items.length=0
 n3:nd.keys.length=nd.kids.length-1
 it:∀ (i:Nat) (y:Bs×Bs),nd.items[i]? = some y→eF y.1=true∧fC y.2=true
 it2:∀ (i:Nat) (y z:Bs×Bs),nd.items[i+1]? = some y→nd.items[i]? = some z→bW z.1 y.1<0
 ky:∀ (i:Nat) (y:Bs),nd.keys[i]? = some y→eF y=true
 ky2:∀ (i:Nat) (y z:Bs),nd.keys[i+1]? = some y→nd.keys[i]? = some z→bW z y<0
 kd:∀ (i p:Nat),nd.kids[i]? = some p→p<2147483648
 kd2:∀ (i j p q:Nat),nd.kids[i]? = some p→j<i→nd.kids[j]? = some q→q≠p
theorem ndOk {nd:Nd} (h:bF nd=true):NdOk nd:=by
 unfold bF at h;split at h
 ·rename_i hl;obtain ⟨h1,h2,h3⟩:=dG h;have h4:=bM.1 hl;have hat:∀ i y,nd.items[i]? = some y→gM nd.items i=true:=λ i y hy=>jU h3 (List.getElem?_eq_some_iff.1 hy).1;refine ⟨h2,by rw [h4];simp,by rw [h4];simp,by rw [h4];simp,by rw [h1,h4];rfl,λ i y hy=>mQ h3 (List.mem_of_getElem? hy),λ i y z hy hz=>?_,by rw [h1];simp,by rw [h1];simp,by rw [h4];simp,by rw [h4];simp⟩;have:=hat (i+1) y hy;simp only [gM,hy,hz,Bool.and_eq_true,decide_eq_true_eq] at this;exact this.2
 ·obtain ⟨h1,h2,h3,h4,h5,h6⟩:=cO h;have hat:∀ i y,nd.keys[i]? = some y→jI nd.keys i=true:=λ i y hy=>jU h6 (List.getElem?_eq_some_iff.1 hy).1;have hkt:∀ i y,nd.kids[i]? = some y→kG nd.kids i=true:=λ i y hy=>jU h5 (List.getElem?_eq_some_iff.1 hy).1;refine ⟨by rw [h1];simp,h3,oM,by rw [h1];simp,oM,by rw [h1];simp,by rw [h1];simp,λ i y hy=>key_ok' h6 (List.mem_of_getElem? hy),λ i y z hy hz=>?_,λ i p hp=>kid_ok h5 (List.mem_of_getElem? hp),λ i j p q hp hj hq e=>?_⟩
  ·have:=hat (i+1) y hy;simp only [jI,hy,hz,Bool.and_eq_true,decide_eq_true_eq] at this;exact this.2
  ·have:=hkt i p hp;simp only [kG,hp,Bool.and_eq_true,Bool.not_eq_true',decide_eq_true_eq] at this
   have h7:p∈nd.kids.take i:=by
    subst e;exact List.mem_take_iff_getElem.2 ⟨j,by have:=(List.getElem?_eq_some_iff.1 hq).1;omega,(List.getElem?_eq_some_iff.1 hq).2⟩
   rw [List.contains_iff_mem.2 h7] at this;cases this.2
theorem rcheck_c (F:Nat→Prop) (x:NV) (nd:Nd) (w:World) (h:NdAt F w x nd) (hok:bF nd=true) :
  Calls Tryz.prog 164 #[x.val] w (Ret λ v w'=>v=.int .i64 0∧Grow w w'):=by
 have ok:=ndOk hok;have hn1:=h.its.len;have hn2:=bR h.kids;have hn3:=h.kys.len;obtain ⟨cs,hs,hcell⟩:=h.its.at';obtain ⟨ds,hs3,hcell3⟩:=h.kys.at';have hs2:=h.kids;obtain ⟨a1,n1,c1,a2,n2,c2,a3,n3,c3⟩:=x;simp only at *;show Calls Tryz.prog 164 #[.agg #[.slice a1 n1 c1,.slice a2 n2 c2,.slice a3 n3 c3]] w (Ret λ v w'=>v=.int .i64 0∧Grow w w');have o1:=ok.n1;have o2:=ok.n2;have o3:=ok.ne1;have o4:=ok.no;have o5:=ok.n3;rw [← hn1] at o1 o4;rw [← hn2] at o2 o3 o4 o5;rw [← hn3] at o5;refine V.calls (args:=[_]) Tryz.func164 rfl Tryz.ntmps164 rfl rfl ?_;have kA:∀ {Q:Prop},Q→Q:=λ h=>h;refine dV 2 (λ e w1=>∃ b,Sub [(1,.pointer (some ⟨b,0,none⟩))] e∧Blk w1 b 79 [.slice a1 n1 c1,.slice a2 n2 c2,.slice a3 n3 c3]∧Grow w w1) ?_ ?_;rotate_left
 ·by_cases h2:0<n2
  ·have h10:=o4 h2;repeat (first|(refine eW ?_;refine lP (r:=(n3:Int)) rfl rfl (by split<;>omega) rfl ?_)|refine yC ?_|refine yI λ bk w' hg hbk hsz hsz'=>?_)
   exact ⟨bk,⟨rfl,trivial⟩,yB,yG⟩
  ·have h20:n2=0:=by omega
   repeat (first|(refine eW ?_;refine lP (r:=(n3:Int)) rfl rfl (by split<;>omega) rfl ?_)|(refine iP ?_;refine TL.subI rfl rfl oM oM rfl ?_)|refine yC ?_|refine yI λ bk w' hg hbk hsz hsz'=>?_)
   exact ⟨bk,⟨rfl,trivial⟩,yB,yG⟩
 rintro e w1 ⟨bk,hsub,hbk,hg1⟩;refine bD (e':=[(1,_)]) ?_ hsub;clear hsub;refine dV 1 (λ e w2=>Sub [(1,.pointer (some ⟨bk,0,none⟩))] e∧Blk w2 bk 79 [.slice a1 n1 c1,.slice a2 n2 c2,.slice a3 n3 c3]∧Grow w w2) ?_ ?_;rotate_left
 ·repeat refine aF ?_
  refine aX (S:=Nat) (λ i=>[(3,.int .i64 (i:Int)),(1,.pointer (some ⟨bk,0,none⟩))]) (λ i w2=>i≤n1∧Blk w2 bk 79 [.slice a1 n1 c1,.slice a2 n2 c2,.slice a3 n3 c3]∧Grow w w2) (λ i=>n1-i) 0 ⟨rfl,rfl,trivial⟩ ⟨oM,hbk,hg1⟩ ?_;clear hbk hg1;rintro i w2 ⟨hi,hbk,hg2⟩;have hblt:=hbk.lt;by_cases hlt:i<n1;rotate_left
  ·repeat refine aF ?_
   exact ⟨⟨rfl,trivial⟩,yB,yG⟩
  obtain ⟨y,hy⟩:∃ y,nd.items[i]? = some y:=⟨_,List.getElem?_eq_getElem oM⟩
  obtain ⟨ka,kc,va,vc,g1,g2,s1,s2⟩:=hcell i y hy;obtain ⟨k1,k2⟩:=ok.it i y hy
  cases i with
  | zero =>
   repeat refine aF ?_
   apply T.any 38 [is _,is _,is _,is _,is _,is _,is _,is _,is _,is _,is _,is _,is _,is _,is _,is _,is _,is _,is _,is _,is _,is _,is _,is _,is _,is _,is _,is _,is _,is _,is _,is _,is _,is _,is _,is _,is _,is _];(· kernel_rfl);(· ((repeat' (first|exact aN|refine aK ?_ ?_));(iterate 38 (· (refine yQ λ wq _ _ hgq=>?_;(repeat (first|refine aF ?_|(refine aH ?_;refine aC (j:=0) rfl rfl oM oM rfl ⟨F,_,hs.grow yG⟩ rfl ?_)|(refine bK ?_;refine bJ rfl (hs.grow yG) g1 rfl ?_)|(refine aO ?_;first|refine aQ rfl ((hs.grow yG).row.cell g1) rfl ?_|refine aQ rfl ((hs.grow yG).row.cell g2) rfl ?_)|(refine aB 105 ?_;refine aA rfl (rkey_c ka _ kc y.1 true _ k1 rfl) rfl ?_;rintro _ _ ⟨rfl,rfl⟩)|(refine aB 118 ?_;refine aA rfl (rvalue_c va _ vc y.2 true _ k2 rfl) rfl ?_;rintro _ _ ⟨rfl,rfl⟩)));exact aD rfl yG rfl)))));(rintro _ _ _ hgr _ _;(refine yT ?_))
   repeat refine aF ?_
   exact aE 1 ⟨rfl,rfl,trivial⟩ ⟨oM,yB,yG⟩ oM
  | succ j =>
   obtain ⟨z,hz⟩:∃ z,nd.items[j]? = some z:=⟨_,List.getElem?_eq_getElem oM⟩
   obtain ⟨ka',kc',va',vc',q1,q2,r1,r2⟩:=hcell j z hz;have hc:=ok.it2 j y z hy hz;repeat refine aF ?_
   apply T.any 38 [is _,is _,is _,is _,is _,is _,is _,is _,is _,is _,is _,is _,is _,is _,is _,is _,is _,is _,is _,is _,is _,is _,is _,is _,is _,is _,is _,is _,is _,is _,is _,is _,is _,is _,is _,is _,is _,is _];(· kernel_rfl);(· ((repeat' (first|exact aN|refine aK ?_ ?_));(iterate 38 (· (refine yQ λ wq _ _ hgq=>?_;(repeat (first|refine aF ?_|(refine aH ?_;first|refine aC (j:=j) rfl rfl oM oM rfl ⟨F,_,hs.grow yG⟩ rfl ?_|refine aC (j:=j+1) rfl rfl oM oM rfl ⟨F,_,hs.grow yG⟩ rfl ?_)|(refine bK ?_;first|refine bJ rfl (hs.grow yG) q1 rfl ?_|refine bJ rfl (hs.grow yG) g1 rfl ?_)|(refine aO ?_;first|refine aQ rfl ((hs.grow yG).row.cell q1) rfl ?_|refine aQ rfl ((hs.grow yG).row.cell g1) rfl ?_|refine aQ rfl ((hs.grow yG).row.cell g2) rfl ?_)|(refine aB 105 ?_;refine aA rfl (rkey_c ka _ kc y.1 true _ k1 rfl) rfl ?_;rintro _ _ ⟨rfl,rfl⟩)|(refine aB 118 ?_;refine aA rfl (rvalue_c va _ vc y.2 true _ k2 rfl) rfl ?_;rintro _ _ ⟨rfl,rfl⟩)|(refine aB 140 ?_;refine aA rfl (fF _ _ _ _ _ _ _ _ _ _ _ (r1.grow yG) (s1.grow yG)) rfl ?_;rintro _ _ ⟨rfl,hgc⟩)));exact aD rfl yG rfl)))));(rintro _ _ _ hgr _ _;(refine yT ?_))
   repeat refine aF ?_
   exact aE (j+1+1) ⟨rfl,rfl,trivial⟩ ⟨oM,yB,yG⟩ oM
 clear hbk hg1;rintro e w1 ⟨hsub,hbk,hg1⟩;refine bD (e':=[(1,_)]) ?_ hsub;clear hsub;refine dV 1 (λ e w2=>Sub [(1,.pointer (some ⟨bk,0,none⟩))] e∧Blk w2 bk 79 [.slice a1 n1 c1,.slice a2 n2 c2,.slice a3 n3 c3]∧Grow w w2) ?_ ?_;rotate_left
 ·repeat refine aF ?_
  refine aX (S:=Nat) (λ i=>[(4,.int .i64 (i:Int)),(1,.pointer (some ⟨bk,0,none⟩))]) (λ i w2=>i≤n3∧Blk w2 bk 79 [.slice a1 n1 c1,.slice a2 n2 c2,.slice a3 n3 c3]∧Grow w w2) (λ i=>n3-i) 0 ⟨rfl,rfl,trivial⟩ ⟨oM,hbk,hg1⟩ ?_;clear hbk hg1;rintro i w2 ⟨hi,hbk,hg2⟩;have hblt:=hbk.lt;by_cases hlt:i<n3;rotate_left
  ·repeat refine aF ?_
   exact ⟨⟨rfl,trivial⟩,yB,yG⟩
  obtain ⟨y,hy⟩:∃ y,nd.keys[i]? = some y:=⟨_,List.getElem?_eq_getElem oM⟩
  obtain ⟨ka,kc,g1,s1⟩:=hcell3 i y hy;have k1:=ok.ky i y hy
  cases i with
  | zero =>
   repeat refine aF ?_
   apply T.any 25 [is _,is _,is _,is _,is _,is _,is _,is _,is _,is _,is _,is _,is _,is _,is _,is _,is _,is _,is _,is _,is _,is _,is _,is _,is _];(· kernel_rfl);(· ((repeat' (first|exact aN|refine aK ?_ ?_));(iterate 25 (· (refine yQ λ wq _ _ hgq=>?_;(repeat (first|refine aF ?_|(refine aH ?_;refine aC (j:=0) rfl rfl oM oM (Nat.mul_one _) ⟨F,_,hs3.grow yG⟩ rfl ?_)|(refine aO ?_;refine aQ rfl ((hs3.grow yG).row.cell g1) rfl ?_)|(refine aB 105 ?_;refine aA rfl (rkey_c ka _ kc y true _ k1 rfl) rfl ?_;rintro _ _ ⟨rfl,rfl⟩)));exact aD rfl yG rfl)))));(rintro _ _ _ hgr _ _;(refine yT ?_))
   repeat refine aF ?_
   exact aE 1 ⟨rfl,rfl,trivial⟩ ⟨oM,yB,yG⟩ oM
  | succ j =>
   obtain ⟨z,hz⟩:∃ z,nd.keys[j]? = some z:=⟨_,List.getElem?_eq_getElem oM⟩
   obtain ⟨ka',kc',q1,r1⟩:=hcell3 j z hz;have hc:=ok.ky2 j y z hy hz;repeat refine aF ?_
   apply T.any 25 [is _,is _,is _,is _,is _,is _,is _,is _,is _,is _,is _,is _,is _,is _,is _,is _,is _,is _,is _,is _,is _,is _,is _,is _,is _];(· kernel_rfl);(· ((repeat' (first|exact aN|refine aK ?_ ?_));(iterate 25 (· (refine yQ λ wq _ _ hgq=>?_;(repeat (first|refine aF ?_|(refine aH ?_;first|refine aC (j:=j) rfl rfl oM oM (Nat.mul_one _) ⟨F,_,hs3.grow yG⟩ rfl ?_|refine aC (j:=j+1) rfl rfl oM oM (Nat.mul_one _) ⟨F,_,hs3.grow yG⟩ rfl ?_)|(refine aO ?_;first|refine aQ rfl ((hs3.grow yG).row.cell q1) rfl ?_|refine aQ rfl ((hs3.grow yG).row.cell g1) rfl ?_)|(refine aB 105 ?_;refine aA rfl (rkey_c ka _ kc y true _ k1 rfl) rfl ?_;rintro _ _ ⟨rfl,rfl⟩)|(refine aB 140 ?_;refine aA rfl (fF _ _ _ _ _ _ _ _ _ _ _ (r1.grow yG) (s1.grow yG)) rfl ?_;rintro _ _ ⟨rfl,hgc⟩)));exact aD rfl yG rfl)))));(rintro _ _ _ hgr _ _;(refine yT ?_))
   repeat refine aF ?_
   exact aE (j+1+1) ⟨rfl,rfl,trivial⟩ ⟨oM,yB,yG⟩ oM
 clear hbk hg1;rintro e w1 ⟨hsub,hbk,hg1⟩;refine bD (e':=[(1,_)]) ?_ hsub;clear hsub;repeat refine aF ?_
 refine aX (S:=Nat) (λ i=>[(5,.int .i64 (i:Int)),(1,.pointer (some ⟨bk,0,none⟩))]) (λ i w2=>i≤n2∧Blk w2 bk 79 [.slice a1 n1 c1,.slice a2 n2 c2,.slice a3 n3 c3]∧Grow w w2) (λ i=>n2-i) 0 ⟨rfl,rfl,trivial⟩ ⟨oM,hbk,hg1⟩ ?_;clear hbk hg1;rintro i w2 ⟨hi,hbk,hg2⟩;have hblt:=hbk.lt;by_cases hlt:i<n2;rotate_left
 ·repeat refine aF ?_
  exact bA rfl ⟨_,rfl,rfl,yG⟩
 obtain ⟨p,hp⟩:∃ p,nd.kids[i]? = some p:=⟨_,List.getElem?_eq_getElem oM⟩
 have hp1:=ok.kd i p hp;have g1:=jR hp;repeat (first|(refine aH ?_;refine aC (j:=i) rfl rfl rfl hlt (Nat.mul_one _) ⟨F,_,hs2.grow yG⟩ rfl ?_)|(refine aO ?_;refine aQ rfl ((hs2.grow yG).row.cell g1) rfl ?_)|refine yC ?_)
 refine aX (S:=Nat) (λ k=>[(6,.int .i64 (k:Int)),(5,.int .i64 (i:Int)),(1,.pointer (some ⟨bk,0,none⟩))]) (λ k w3=>k≤i∧Blk w3 bk 79 [.slice a1 n1 c1,.slice a2 n2 c2,.slice a3 n3 c3]∧Grow w w3) (λ k=>i-k) 0 ⟨rfl,rfl,rfl,trivial⟩ ⟨oM,hbk,hg2⟩ ?_;clear hbk hg2;rintro k w3 ⟨hk,hbk,hg2⟩;by_cases hlt2:k<i;rotate_left
 ·obtain rfl:k=i:=by omega
  repeat refine aF ?_
  exact aE (k+1) ⟨rfl,rfl,trivial⟩ ⟨oM,yB,yG⟩ oM
 obtain ⟨q,hq⟩:∃ q,nd.kids[k]? = some q:=⟨_,List.getElem?_eq_getElem oM⟩
 have hne:=ok.kd2 i k p q hp hlt2 hq;have g2:=jR hq;repeat refine aF ?_
 apply T.any 10 [is _,is _,is _,is _,is _,is _,is _,is _,is _,is _];(· kernel_rfl);(· ((repeat' (first|exact aN|refine aK ?_ ?_));(iterate 10 (· (refine yQ λ wq _ _ hgq=>?_;(repeat (first|refine aF ?_|(refine aH ?_;first|refine aC (j:=k) rfl rfl rfl oM (Nat.mul_one _) ⟨F,_,hs2.grow yG⟩ rfl ?_|refine aC (j:=i) rfl rfl rfl hlt (Nat.mul_one _) ⟨F,_,hs2.grow yG⟩ rfl ?_)|(refine aO ?_;first|refine aQ rfl ((hs2.grow yG).row.cell g1) rfl ?_|refine aQ rfl ((hs2.grow yG).row.cell g2) rfl ?_)));exact aD rfl yG rfl)))));(rintro _ _ _ hgr _ _;(refine yT ?_))
 repeat refine aF ?_
 exact aE (k+1) ⟨rfl,rfl,rfl,trivial⟩ ⟨oM,yB,yG⟩ oM
set_option maxRecDepth 20000
theorem rrot_c (x:BitVec 64) (n:Nat) (hn:n≤64) (w:World) :
  Calls Tryz.prog 272 #[wB x,.int .i64 (n:Int)] w (Ret λ v w'=>v=wB (rotl x (64-n))∧w'=w):=by
 refine V.calls (args:=[_,_]) Tryz.func272 rfl Tryz.ntmps272 rfl rfl ?_;unfold rotl;have h1:IntKind.u64.wrap (n:Int)=(n:Int):=eV (M:=18446744073709551616) rfl oM;have h2:IntKind.u64.wrap ((64-n:Nat):Int)=((64-n:Nat):Int):=eV (M:=18446744073709551616) rfl oM;have h3:64-(64-n)=n:=by omega
 rw [h3];repeat (first|(refine dL ?_;first|refine TL.convZ6 rfl h1 rfl ?_|refine TL.convZ6 rfl h2 rfl ?_)|(refine jW ?_;refine TL.shlB6 rfl rfl oM rfl ?_)|(refine eU ?_;refine TL.shrB6 rfl rfl oM rfl ?_)|refine TL.orB6 rfl rfl rfl ?_|refine yC ?_)
 exact bA rfl ⟨_,rfl,by rw [BitVec.or_comm],rfl⟩
theorem K_r (w:World):Calls Tryz.prog 271 #[] w (Ret λ v w'=>v=.agg (Kw.map wB).toArray∧Grow w w'):=by
 refine V.calls (args:=[]) Tryz.func271 rfl Tryz.ntmps271 rfl rfl ?_;refine T.seq ?_;refine nZ ?_;refine TL.alloc rfl rfl ?_;intro bk w1 hg1 hb1 hsz hsz';refine TL.nil ?_;refine fA ?_;refine T.seq ?_;refine nZ ?_;refine mX (cs:=Kw.map wB) rfl kR rfl ?_;(refine eJ rfl rfl hb1 rfl rfl rfl ?_;intro w2 hu2 hb2 hs2)
 refine TL.nil ?_;refine fA ?_;refine T.ret ?_;exact retC rfl (aW hb2 rfl) ⟨_,rfl,rfl,aI hu2 oM hg1⟩
def wAt (bs:List Nat) (t:Nat):List (BitVec 64):=lY (t-16) (part bs (min (8*t) 128))
theorem wAt_len (bs:List Nat) (t:Nat):(wAt bs t).length=80:=by rw [wAt,sched_len,jQ]
theorem wAt_low (bs:List Nat) {t:Nat} (h:t≤16):wAt bs t=part bs (8*t):=by
 rw [wAt,show t-16=0 by omega,Nat.min_eq_left oM];rfl
theorem wAt_high (bs:List Nat) {t:Nat} (h:16≤t):wAt bs (t+1)=(wAt bs t).set t (nextW (wAt bs t) t):=by
 rw [wAt,wAt,show t+1-16=(t-16)+1 by omega,Nat.min_eq_right oM,Nat.min_eq_right oM];show (lY (t-16) _).set (t-16+16) (nextW _ (t-16+16))=_;rw [show t-16+16=t by omega]
theorem wAt_end (bs:List Nat):wAt bs 80=lY 64 (part bs 128):=rfl
attribute [irreducible] wAt
theorem rA1:kY (-1)=64-1:=by decide
theorem rA8:kY (-8)=64-8:=by decide
theorem rA19:kY (-19)=64-19:=by decide
theorem rA61:kY (-61)=64-61:=by decide
theorem rA14:kY (-14)=64-14:=by decide
theorem rA18:kY (-18)=64-18:=by decide
theorem rA41:kY (-41)=64-41:=by decide
theorem rA28:kY (-28)=64-28:=by decide
theorem rA34:kY (-34)=64-34:=by decide
theorem rA39:kY (-39)=64-39:=by decide
theorem addL_comm (s t:St):addL s.l t.l 8=addL t.l s.l 8:=by
 obtain ⟨a,b,c,d,e,f,g,h⟩:=s;obtain ⟨a',b',c',d',e',f',g',h'⟩:=t;simp [addL,St.l,BitVec.add_comm]
theorem rpiece_c (F:Nat→Prop) (s:St) (bs:List Nat) (hl:bs.length=128) (hb:∀ b∈bs,b<256) (a:Option Addr) (c:Nat) (w:World) (hs:Sl F w 1 a 128 c (pbs bs)):Calls Tryz.prog 254 #[.agg (s.l.map wB).toArray,.slice a 128 c] w
  (Ret λ v w'=>v=.agg ((pieceB s bs).map wB).toArray∧Grow w w'):=by
 refine V.calls (args:=[_,_]) Tryz.func254 rfl Tryz.ntmps254 rfl rfl ?_;replace hs:=hs.tight;obtain ⟨ks,hks⟩:∃ ks,ks=Kw:=⟨_,rfl⟩
 have hkl:ks.length=80:=by rw [hks];rfl
 have hkc:∀ w,Calls Tryz.prog 271 #[] w (Ret λ v w'=>v=.agg (ks.map wB).toArray∧Grow w w'):=by rw [hks];exact K_r
 have hpb:pieceB s bs=addL (rnK ks (wAt bs 80) s 80).l s.l 8:=by rw [wAt_end,hks];exact addL_comm _ _
 have hko:(ks.map wB).all Value.oneCell'=true:=by simp [Value.oneCell']
 have hw0:part bs 0=List.replicate 80 0#64:=part_zero bs;repeat (first|(refine aB 271 ?_;refine aA rfl (hkc _) rfl ?_;rintro _ _ ⟨rfl,hgc⟩)|(refine bZ ?_;refine eJ rfl rfl yB (by rw [List.length_map,hkl];rfl) rfl hko ?_;intro w' hu hbk hsz)|refine yC ?_|refine yI λ bk w' hg hbk hsz hsz'=>?_)
 rename_i b2 w2 hg2 hb2 hz2 hz2' b4 w4 hg4 hb4 hz4 hz4' w5 b5 w6 hg6 hb5 hz5 hz5' w7 hb7 hz7;have hsz5:=hgc.2;have h2:Blk w' b2 295 (s.l.map wB):=by exact yB
 have h4:Blk w' b4 295 (List.replicate 8 (wB 0#64)):=(((hb4.grow hgc).grow hg6).upd hu oM).grow hg;have h5:Blk w' b5 340 (ks.map wB):=by exact yB
 have h6:Blk w' bk 340 ((wAt bs 0).map wB):=by rw [wAt_low bs oM,Nat.mul_zero,hw0];exact hbk
 have hlt:w.heap.size≤b2∧w.heap.size≤b4∧b2≠b4∧b2<b5∧b4<b5∧b5<bk∧bk<w'.heap.size:=by omega
 have hG:Grow w w':=by exact yG
 replace hs:=hs.grow hG;clear hg2 hb2 hz2 hz2' hg4 hb4 hz4 hz4' hgc hg6 hb5 hz5 hz5' hu hb7 hz7 hg hbk hsz hsz' hsz5 hks hkc hko hw0
 refine aX (S:=Nat) (λ t=>[(7,.int .i64 (t:Int)),(6,.pointer (some ⟨bk,0,none⟩)),(5,.pointer (some ⟨b5,0,none⟩)),(4,.pointer (some ⟨b4,0,none⟩)),(2,.pointer (some ⟨b2,0,none⟩)),(1,.slice a 128 c)])
  (λ t w7=>t≤80∧Blk w7 bk 340 ((wAt bs t).map wB)∧Blk w7 b2 295 (s.l.map wB)∧Blk w7 b4 295 (List.replicate 8 (wB 0#64))∧Blk w7 b5 340 (ks.map wB)∧Sl (λ k=>F k∧k<w.heap.size) w7 1 a 128 c (pbs bs)∧Grow w w7) (λ t=>80-t) 0 ⟨rfl,rfl,rfl,rfl,rfl,rfl,trivial⟩ ⟨Nat.zero_le _,h6,h2,h4,h5,hs,hG⟩ ?_
 clear h2 h4 h5 h6 hs hG;rintro t w7 ⟨ht,h6,h2,h4,h5,hs,hG⟩;by_cases htk:t<80
 ·have htc:(decide ((t:Int)<80))=true:=decide_eq_true oM;have hwl:=wAt_len bs t;by_cases ht16:t<16
  ·have htd:(decide ((t:Int)<16))=true:=decide_eq_true oM;repeat refine aF ?_
   rw [wAt_low bs (show t≤16 by omega)] at h6 hwl
   refine aX (S:=Nat) (λ i=>[(8,.int .i64 (i:Int)),(7,.int .i64 (t:Int)),(6,.pointer (some ⟨bk,0,none⟩)),(5,.pointer (some ⟨b5,0,none⟩)),(4,.pointer (some ⟨b4,0,none⟩)),(2,.pointer (some ⟨b2,0,none⟩)),(1,.slice a 128 c)])
    (λ i w8=>i≤8∧Blk w8 bk 340 ((part bs (8*t+i)).map wB)∧Blk w8 b2 295 (s.l.map wB)∧Blk w8 b4 295 (List.replicate 8 (wB 0#64))∧Blk w8 b5 340 (ks.map wB)∧Sl (λ k=>F k∧k<w.heap.size) w8 1 a 128 c (pbs bs)∧Grow w w8) (λ i=>8-i) 0 ⟨rfl,rfl,rfl,rfl,rfl,rfl,rfl,trivial⟩ ⟨Nat.zero_le _,h6,h2,h4,h5,hs,hG⟩ ?_
   clear h2 h4 h5 h6 hs hG hwl;rintro i w8 ⟨hi,h6,h2,h4,h5,hs,hG⟩;have hpl:=jQ bs (8*t+i);by_cases hi8:i<8
   ·have hic:(decide ((i:Int)<8))=true:=decide_eq_true oM;have hps:=part_step (bs:=bs) (i:=8*t+i) oM hl;rw [show (8*t+i) / 8=t by omega] at hps;have hbi:bs.getD (8*t+i) 0<256:=by rw [List.getD_eq_getElem?_getD,List.getElem?_eq_getElem oM];exact hb _ (List.getElem_mem _)
    repeat refine aF ?_
    apply T.any 14 [is _,is _,is _,is _,is _,is _,is _,is _,is _,is _,is _,is _,is _,is _];(· kernel_rfl);(· ((repeat' (first|exact aN|refine aK ?_ ?_));(iterate 14 (· (refine yQ λ wq _ _ hgq=>?_;(repeat (first|(refine aO ?_;first|refine aQ rfl (Blk.cell (b:=bk) yB (kD oM)) rfl ?_|refine aQ rfl ((hs.grow hgq).row.cell (pbs_at oM)) rfl ?_)|refine TL.convW8 rfl hbi rfl ?_|refine TL.orB6 rfl rfl rfl ?_|(refine jW ?_;refine TL.shlB6 rfl rfl dM rfl ?_)|refine yC ?_|(refine aH ?_;refine aC (j:=8*t+i) rfl rfl rfl oM (Nat.mul_one _) ⟨_,_,hs.grow hgq⟩ rfl ?_)));exact aD rfl yG rfl)))));(rintro _ _ _ hgr _ _;(refine yT ?_))
    replace h2:=h2.grow hgr;replace h4:=h4.grow hgr;replace h5:=h5.grow hgr;replace h6:=h6.grow hgr;replace hs:=hs.grow hgr;replace hG:=hG.trans hgr;clear hgr;repeat (first|(refine bZ ?_;refine dQ rfl rfl h6 rfl (by rw [List.length_map,hpl];exact Nat.ble_eq_true_of_le oM) (map_set _ _ _) ?_;intro w9 hu hb9 hz9)|refine yC ?_)
    rw [hps] at hb9;replace h2:=h2.upd hu oM;replace h4:=h4.upd hu oM;replace h5:=h5.upd hu oM;replace hs:=hs.upd hu (by intro k hk;omega);replace hG:=aI hu oM hG;clear hu h6 hps;exact aE (i+1) ⟨rfl,rfl,rfl,rfl,rfl,rfl,rfl,trivial⟩ ⟨hi8,hb9,h2,h4,h5,hs,hG⟩ oM
   ·obtain rfl:i=8:=by omega
    have hic:(decide (((8:Nat):Int)<8))=false:=by decide
    repeat refine aF ?_
    exact aE (t+1) ⟨rfl,rfl,rfl,rfl,rfl,rfl,trivial⟩ ⟨htk,by rw [wAt_low bs (show t+1≤16 by omega),show 8*(t+1)=8*t+8 by omega];exact h6,h2,h4,h5,hs,hG⟩ oM
  ·have htd:(decide ((t:Int)<16))=false:=decide_eq_false oM;repeat refine aF ?_
   apply T.any 10 [is _,is _,is _,is _,is _,is _,is _,is _,is _,is _];(· kernel_rfl);(· ((repeat' (first|exact aN|refine aK ?_ ?_));(iterate 10 (· (refine yQ λ wq _ _ hgq=>?_;(repeat (first|refine aF ?_|(refine aO ?_;refine aQ rfl (Blk.cell (b:=bk) yB (kD oM)) rfl ?_)));exact aD rfl yG rfl)))));(rintro _ _ _ hgr _ _;(refine yT ?_))
   replace h2:=h2.grow hgr;replace h4:=h4.grow hgr;replace h5:=h5.grow hgr;replace h6:=h6.grow hgr;replace hs:=hs.grow hgr;replace hG:=hG.trans hgr;clear hgr;repeat refine aF ?_
   apply T.any 28 [is _,is _,is _,is _,is _,is _,is _,is _,is _,is _,is _,is _,is _,is _,is _,is _,is _,is _,is _,is _,is _,is _,is _,is _,is _,is _,is _,is _];(· kernel_rfl);(· ((repeat' (first|exact aN|refine aK ?_ ?_));(iterate 28 (· (refine yQ λ wq _ _ hgq=>?_;(repeat (first|(refine aO ?_;refine aQ rfl (Blk.cell (b:=bk) yB (kD oM)) rfl ?_)|refine jV rfl rfl rfl ?_|refine jX rfl rfl rfl ?_|(refine eU ?_;refine TL.shrB6 rfl rfl dM rfl ?_)|refine yC ?_|(refine aB 272 ?_;refine aA rfl (rrot_c _ _ dM _) rfl ?_;rintro _ _ ⟨rfl,rfl⟩)));exact aD rfl yG rfl)))));(rintro _ _ _ hgr _ _;(refine yT ?_))
   replace h2:=h2.grow hgr;replace h4:=h4.grow hgr;replace h5:=h5.grow hgr;replace h6:=h6.grow hgr;replace hs:=hs.grow hgr;replace hG:=hG.trans hgr;clear hgr;repeat (first|(refine bZ ?_;refine dQ rfl rfl h6 rfl (by rw [List.length_map,hwl];exact Nat.ble_eq_true_of_le oM) (map_set _ _ _) ?_;intro w9 hu hb9 hz9)|refine yC ?_)
   replace h2:=h2.upd hu oM;replace h4:=h4.upd hu oM;replace h5:=h5.upd hu oM;replace hs:=hs.upd hu (by intro k hk;omega);replace hG:=aI hu oM hG;clear hu h6;refine aE (t+1) ⟨rfl,rfl,rfl,rfl,rfl,rfl,trivial⟩ ⟨htk,?_,h2,h4,h5,hs,hG⟩ oM;rw [wAt_high bs oM];simp only [nextW,sg0,sg1,rA1,rA8,rA19,rA61];exact hb9
 ·obtain rfl:t=80:=by omega
  have htc:(decide (((80:Nat):Int)<80))=false:=by decide
  obtain ⟨ws,hws⟩:∃ ws,ws=wAt bs 80:=⟨_,rfl⟩
  rw [← hws] at h6 hpb;have hwl:ws.length=80:=by rw [hws,wAt_len]
  clear hws;repeat (first|refine aF ?_|refine yI λ bk w' hg hbk hsz hsz'=>?_|refine yJ λ w' hu hbk hsz=>?_)
  rename_i b6 w0 w11 hb11 hz11;have hlt2:w.heap.size≤bk∧b2<bk∧b4<bk∧b5<bk∧b6<bk:=by have:=hG.2;have:=h2.lt;have:=h4.lt;have:=h5.lt;have:=h6.lt;omega
  replace h2:=(h2.grow hg).upd hu (by have:=h2.lt;omega);replace h4:=(h4.grow hg).upd hu (by have:=h4.lt;omega);replace h5:=(h5.grow hg).upd hu (by have:=h5.lt;omega);replace h6:=(h6.grow hg).upd hu (by have:=h6.lt;omega);replace hG:=aI hu oM (hG.trans hg);clear hg hu hb11 hz11 hsz' hsz hs
  refine aX (S:=Nat×St) (λ q=>[(12,.int .i64 (q.1:Int)),(11,.pointer (some ⟨bk,0,none⟩)),(6,.pointer (some ⟨b6,0,none⟩)),(5,.pointer (some ⟨b5,0,none⟩)),(4,.pointer (some ⟨b4,0,none⟩)),(2,.pointer (some ⟨b2,0,none⟩))])
   (λ q w7=>q.1≤80∧q.2=rnK ks ws s q.1∧Blk w7 bk 295 (q.2.l.map wB)∧Blk w7 b6 340 (ws.map wB)∧Blk w7 b5 340 (ks.map wB)∧Blk w7 b2 295 (s.l.map wB)∧Blk w7 b4 295 (List.replicate 8 (wB 0#64))∧Grow w w7) (λ q=>80-q.1) (0,s) ⟨rfl,rfl,rfl,rfl,rfl,rfl,trivial⟩ ⟨Nat.zero_le _,rfl,hbk,h6,h5,h2,h4,hG⟩ ?_
  clear h2 h4 h5 h6 hG hbk ht htk htc;rintro ⟨t,s'⟩ w7 ⟨ht,hs',hbk,h6,h5,h2,h4,hG⟩;simp only at ht hs' hbk;by_cases htk:t<80
  ·have htc:(decide ((t:Int)<80))=true:=decide_eq_true oM;have hcs:s'.l.map wB=[wB s'.a,wB s'.b,wB s'.c,wB s'.d,wB s'.e,wB s'.f,wB s'.g,wB s'.h]:=rfl;rw [hcs] at hbk;repeat refine aF ?_
   apply T.any 6 [is _,is _,is _,is _,is _,is _];(· kernel_rfl);(· ((repeat' (first|exact aN|refine aK ?_ ?_));(iterate 6 (· (refine yQ λ wq _ _ hgq=>?_;(repeat refine aF ?_);exact aD rfl yG rfl)))));(rintro _ _ _ hgr _ _;(refine yT ?_))
   replace h2:=h2.grow hgr;replace h4:=h4.grow hgr;replace h5:=h5.grow hgr;replace h6:=h6.grow hgr;replace hbk:=hbk.grow hgr;replace hG:=hG.trans hgr;clear hgr;repeat refine aF ?_
   apply T.any 30 [is _,is _,is _,is _,is _,is _,is _,is _,is _,is _,is _,is _,is _,is _,is _,is _,is _,is _,is _,is _,is _,is _,is _,is _,is _,is _,is _,is _,is _,is _];(· kernel_rfl);(· ((repeat' (first|exact aN|refine aK ?_ ?_));(iterate 30 (· (refine yQ λ wq _ _ hgq=>?_;(repeat (first|(refine aO ?_;first|refine aQ rfl (Blk.cell (b:=bk) yB rfl) rfl ?_|refine aQ rfl (Blk.cell (b:=b6) yB (kD oM)) rfl ?_|refine aQ rfl (Blk.cell (b:=b5) yB (kD oM)) rfl ?_)|refine jV rfl rfl rfl ?_|refine jX rfl rfl rfl ?_|refine TL.andB6 rfl rfl rfl ?_|refine TL.notB6 rfl rfl ?_|refine yC ?_|(refine aB 272 ?_;refine aA rfl (rrot_c _ _ dM _) rfl ?_;rintro _ _ ⟨rfl,rfl⟩)));exact aD rfl yG rfl)))));(rintro _ _ _ hgr _ _;(refine yT ?_))
   replace h2:=h2.grow hgr;replace h4:=h4.grow hgr;replace h5:=h5.grow hgr;replace h6:=h6.grow hgr;replace hbk:=hbk.grow hgr;replace hG:=hG.trans hgr;clear hgr;repeat refine aF ?_
   apply T.any 24 [is _,is _,is _,is _,is _,is _,is _,is _,is _,is _,is _,is _,is _,is _,is _,is _,is _,is _,is _,is _,is _,is _,is _,is _];(· kernel_rfl);(· ((repeat' (first|exact aN|refine aK ?_ ?_));(iterate 24 (· (refine yQ λ wq _ _ hgq=>?_;(repeat (first|(refine aO ?_;refine aQ rfl (Blk.cell (b:=bk) yB rfl) rfl ?_)|refine jV rfl rfl rfl ?_|refine jX rfl rfl rfl ?_|refine TL.andB6 rfl rfl rfl ?_|refine yC ?_|(refine aB 272 ?_;refine aA rfl (rrot_c _ _ dM _) rfl ?_;rintro _ _ ⟨rfl,rfl⟩)));exact aD rfl yG rfl)))));(rintro _ _ _ hgr _ _;(refine yT ?_))
   replace h2:=h2.grow hgr;replace h4:=h4.grow hgr;replace h5:=h5.grow hgr;replace h6:=h6.grow hgr;replace hbk:=hbk.grow hgr;replace hG:=hG.trans hgr;clear hgr;repeat (first|refine jX rfl rfl rfl ?_|(refine bZ ?_;refine eJ rfl rfl hbk rfl rfl rfl ?_;intro w9 hu hb9 hz9)|refine yC ?_)
   have hb9':Blk w9 bk 295 ((rnd s' (ks.getD t 0#64) (ws.getD t 0#64)).l.map wB):=by
    simp only [rnd,tOne,tTwo,bs0,bs1,rA14,rA18,rA41,rA28,rA34,rA39,St.l,List.map];exact hb9
   replace h2:=h2.upd hu oM;replace h4:=h4.upd hu oM;replace h5:=h5.upd hu oM;replace h6:=h6.upd hu oM;replace hG:=aI hu oM hG;clear hu hbk hb9;exact aE (t+1,rnd s' (ks.getD t 0#64) (ws.getD t 0#64)) ⟨rfl,rfl,rfl,rfl,rfl,rfl,trivial⟩ ⟨htk,by rw [hs'];rfl,hb9',h6,h5,h2,h4,hG⟩ (by simp only;omega)
  ·obtain rfl:t=80:=by omega
   have htc:(decide (((80:Nat):Int)<80))=false:=by decide
   repeat refine aF ?_
   refine aX (S:=Nat) (λ q=>[(17,.int .i64 (q:Int)),(11,.pointer (some ⟨bk,0,none⟩)),(4,.pointer (some ⟨b4,0,none⟩)),(2,.pointer (some ⟨b2,0,none⟩))])
    (λ q w8=>q≤8∧Blk w8 bk 295 ((addL s'.l s.l q).map wB)∧Blk w8 b2 295 (s.l.map wB)∧Blk w8 b4 295 (List.replicate 8 (wB 0#64))∧Grow w w8) (λ q=>8-q) 0 ⟨rfl,rfl,rfl,rfl,trivial⟩ ⟨Nat.zero_le _,hbk,h2,h4,hG⟩ ?_
   clear h2 h4 h5 h6 hbk hG;rintro q w8 ⟨hq,hbk,h2,h4,hG⟩;have hal:(addL s'.l s.l q).length=8:=by rw [addL_len];rfl
   by_cases hqk:q<8
   ·have hqc:(decide ((q:Int)<8))=true:=decide_eq_true oM;repeat refine aF ?_
    apply T.any 8 [is _,is _,is _,is _,is _,is _,is _,is _];(· kernel_rfl);(· ((repeat' (first|exact aN|refine aK ?_ ?_));(iterate 8 (· (refine yQ λ wq _ _ hgq=>?_;(repeat (first|(refine aO ?_;first|refine aQ rfl (Blk.cell (b:=bk) yB (kD oM)) rfl ?_|refine aQ rfl (Blk.cell (b:=b2) yB (kD (by show q<8;omega))) rfl ?_)|refine jX rfl rfl rfl ?_|refine yC ?_));exact aD rfl yG rfl)))));(rintro _ _ _ hgr _ _;(refine yT ?_))
    replace h2:=h2.grow hgr;replace h4:=h4.grow hgr;replace hbk:=hbk.grow hgr;replace hG:=hG.trans hgr;clear hgr;repeat (first|(refine bZ ?_;refine dQ rfl rfl hbk rfl (by rw [List.length_map,hal];exact Nat.ble_eq_true_of_le oM) (map_set _ _ _) ?_;intro w9 hu hb9 hz9)|refine yC ?_)
    replace h2:=h2.upd hu oM;replace h4:=h4.upd hu oM;replace hG:=aI hu oM hG;clear hu hbk;exact aE (q+1) ⟨rfl,rfl,rfl,rfl,trivial⟩ ⟨hqk,hb9,h2,h4,hG⟩ oM
   ·obtain rfl:q=8:=by omega
    have hqc:(decide (((8:Nat):Int)<8))=false:=by decide
    obtain ⟨rl,hrl⟩:∃ rl,rl=addL s'.l s.l 8:=⟨_,rfl⟩
    rw [← hrl] at hbk hal;repeat (first|(refine aO ?_;refine iO rfl hbk (by rw [List.length_map,hal];rfl) rfl ?_)|(refine bZ ?_;refine eJ rfl rfl h4 (by rw [List.length_map,hal];rfl) rfl (by simp [Value.oneCell']) ?_;intro w9 hu9 hb9 hs9)|refine yC ?_)
    exact retC rfl (aW hb9 (by rw [List.length_map,hal];rfl)) ⟨_,rfl,by rw [hpb,hrl,hs'],aI hu9 oM hG⟩
theorem rbytes_c (s:St) (w:World):Calls Tryz.prog 216 #[.agg (s.l.map wB).toArray] w (Ret λ v w'=>v=.agg (bB (sumS s)).toArray∧Grow w w'):=by
 refine V.calls (args:=[_]) Tryz.func216 rfl Tryz.ntmps216 rfl rfl ?_;repeat (first|(refine fL ?_;refine eS 64 zero_64 rfl ?_;intro bk w' hg hbk hsz hsz')|refine yC ?_|refine yI λ bk w' hg hbk hsz hsz'=>?_)
 rename_i b1 w1 hg1 hb1 q1 q1' b2 w2 hg2 hb2 q2 q2';have hb1':Blk w' b1 295 (s.l.map wB):=by exact yB
 have hb2':Blk w' b2 238 (bB (zs 64)):=by exact yB
 have hgw:Grow w w':=by exact yG
 have hn:b1≠bk∧b2≠bk∧w.heap.size≤bk∧w.heap.size≤b2:=by omega
 clear hg1 hb1 q1 q1' hg2 hb2 q2 q2' hg hsz hsz';refine aX (S:=Nat) (λ i=>[(4,.int .i64 (i:Int)),(3,.pointer (some ⟨bk,0,none⟩)),(2,.pointer (some ⟨b2,0,none⟩)),(1,.pointer (some ⟨b1,0,none⟩))]) (λ i w3=>i≤64∧Blk w3 bk 238 (bB (sumL s i))∧Blk w3 b1 295 (s.l.map wB)∧Blk w3 b2 238 (bB (zs 64))∧Grow w w3) (λ i=>64-i) 0 ⟨rfl,rfl,rfl,rfl,trivial⟩ ⟨oM,hbk,hb1',hb2',hgw⟩ ?_;clear hbk hb1' hb2' hgw;rintro i w3 ⟨hi,hbk,hb1,hb2,hg⟩;have hln:=sumL_len s i;by_cases hlt:i<64
 ·have hsl:s.l.length=8:=rfl;repeat (first|(refine aO ?_;refine aQ rfl (Blk.cell hb1 (kD oM)) rfl ?_)|(refine aH ?_;refine TL.indexA1 (j:=i / 8) rfl rfl oM rfl ?_)|(refine eQ ?_;refine TL.mulN (a:=8) rfl rfl oM rfl ?_)|(refine iP ?_;refine TL.subN (a:=56) (b:=8*(i%8)) rfl rfl oM oM rfl ?_)|(refine eU ?_;refine TL.shrS rfl rfl (by show 56-8*(i%8)≤64;omega) rfl ?_)|(refine dL ?_;refine iC rfl (M:=256) rfl rfl ?_)|refine yC ?_)
  have hget:(s.l.getD (i / 8) 0#64).toNat / 2^(56-8*(i%8))%256=sumB s i:=rfl;rw [hget];refine dQ rfl rfl hbk rfl (by rw [bE,hln];exact Nat.ble_eq_true_of_le oM) (bys_set _ _ _) ?_;intro w7 hu7 hb7 hs7;repeat refine aF ?_
  exact aE (i+1) ⟨rfl,rfl,rfl,rfl,trivial⟩ ⟨hlt,hb7,hb1.upd hu7 hn.1,hb2.upd hu7 hn.2.1,aI hu7 hn.2.2.1 hg⟩ oM
 obtain rfl:i=64:=by omega
 rw [sumL_end] at hbk;have hl:=kO s;generalize sumS s=l at *;clear hln;obtain ⟨z,hz⟩:∃ z,z=zs 64:=⟨_,rfl⟩
 have hzl:z.length=64:=by rw [hz];exact cJ _
 rw [← hz] at hb2;clear hz;repeat (first|refine nX rfl hbk hl rfl ?_|(refine bZ ?_;refine fK rfl rfl hb2 hzl hl ?_;intro w' hu hb2' hsz)|refine yC ?_)
 exact retC rfl (aW hb2' (by rw [bE,hl];rfl)) ⟨_,rfl,rfl,aI hu hn.2.2.2 hg⟩
theorem rstart_c (w:World):Calls Tryz.prog 255 #[] w (Ret λ v w'=>v=.agg (startL.map wB).toArray∧Grow w w'):=by
 refine V.calls (args:=[]) Tryz.func255 rfl Tryz.ntmps255 rfl rfl ?_;repeat (first|refine dF ?_|refine yI λ bk w' hg hbk hsz hsz'=>?_|refine yJ λ w' hu hbk hsz=>?_)
 exact retC rfl (aW (by assumption) rfl) ⟨_,rfl,rfl,yG⟩
theorem rjoin_c (F:Nat→Prop) (a:Option Addr) (n c:Nat) (bss:List Bs) (w:World) (h:KysAt F w a n c bss) (hn:bss.flatten.length≤100000) :
  Calls Tryz.prog 219 #[.slice a n c] w (Ret λ v w'=>w'.ownsRow w.heap.size 5 1 v bss.flatten.length (bB bss.flatten)∧Grow w w'):=by
 have hlen:=h.len;obtain ⟨cs,hs,hcell⟩:=h.at';have hnle:=hs.le;refine V.calls (args:=[_]) Tryz.func219 rfl Tryz.ntmps219 rfl rfl ?_;repeat refine aF ?_
 refine aX (S:=Value×Nat) (λ s=>[(4,.int .i64 (s.2:Int)),(3,s.1),(0,.slice a n c)]) (λ s w3=>s.2≤n∧w3.ownsRow w.heap.size 5 1 s.1 (bss.take s.2).flatten.length (bB (bss.take s.2).flatten)∧Grow w w3) (λ s=>n-s.2) (.slice none 0 0,0) ⟨rfl,rfl,rfl,trivial⟩ ⟨sM,by simpa [bB] using lK,Grow.refl _⟩ ?_;rintro ⟨v,j⟩ w3 ⟨hj,hown,hg3⟩;simp only at hj hown;have hsz:=hg3.size;have hs3:=hs.grow hg3;have hle:=flat_le bss j;by_cases hlt:j<n
 ·obtain ⟨p,hp⟩:∃ p,bss[j]? = some p:=⟨_,List.getElem?_eq_getElem oM⟩
  obtain ⟨ka,kc,g1,s1⟩:=hcell j p hp;have hcx:w3.cell? (at' a j)=some (.slice ka p.length kc):=hs3.row.cell g1;have hle2:=flat_le bss (j+1);rw [lU hp,List.length_append] at hle2;repeat (first|(refine aH ?_;refine aC rfl rfl rfl hlt (Nat.mul_one _) ⟨F,_,hs3⟩ rfl ?_)|refine yC ?_)
  refine TL.append rfl rfl hown (s1.grow hg3) (bO p) (by unfold maxLen;omega) oM oM rfl ?_;intro v' w4 hown4 hgb _;repeat refine aF ?_
  refine aE (v',j+1) ⟨rfl,rfl,rfl,trivial⟩ ⟨by simp only;omega,?_,Grow.mk (aL hgb oM (λ k hk=>(aT hown hk).1) hg3.1)⟩ (by simp only;omega);simp only;rw [lU hp,dH,List.length_append];exact hown4
 obtain rfl:j=n:=by omega
 rw [List.take_of_length_le oM] at hown;repeat refine aF ?_
 exact bA rfl ⟨_,rfl,hown,hg3⟩
theorem be8_zero:be8 0=zs 8:=by decide
theorem rpad_c (F:Nat→Prop) (a:Option Addr) (c:Nat) (l:Bs) (w:World) (hs:Sl F w 1 a l.length c (bB l)) (hn:l.length≤100000) :
  Calls Tryz.prog 253 #[.slice a l.length c] w (Ret λ v w'=>w'.ownsRow w.heap.size 5 1 v (mI l).length (bB (mI l))∧Grow w w'):=by
 refine V.calls (args:=[_]) Tryz.func253 rfl Tryz.ntmps253 rfl rfl ?_;repeat (first|refine aF ?_|refine yI λ bk w' hg hbk hsz hsz'=>?_)
 refine TL.append rfl rfl (eL hbk (Nat.le_of_eq hsz)) (hs.grow hg) (bO l) (by unfold maxLen;omega) oM oM rfl ?_;intro v1 w1 hown1 hgb1 _;rw [Nat.zero_add,List.nil_append] at hown1;have hg01:Grow w w1:=Grow.mk (aL hgb1 oM (λ k hk=>by simp only [Value.ownBlock,Option.some.injEq] at hk;omega) hg.1);refine TL.buildSlice rfl rfl rfl rfl rfl ?_;intro b' wa hga hba hsa hsb hsc;have hsl:Sl (λ _=>True) wa 1 (some ⟨b',0,none⟩) 1 1 (bB [128]):=(aV (sz:=1) (m:=1) hba hsc dM).mono (λ _ _=>trivial);have hga':=hga.size;have hz1:=hg01.size;refine TL.append rfl rfl (aS hown1 hga) hsl (bO [128]) (by unfold maxLen;omega) oM oM rfl ?_;intro v' wb hownb hgb _;have hgn:Grow w wb:=Grow.mk (aL hgb oM (λ k hk=>(aT (aS hown1 hga) hk).1) (hg01.trans hga).1);repeat refine aF ?_
 clear hown1 hg hgb hgb1 hga hga' hsl hba hsa hsb hsc hg01 hz1 hbk hsz hsz';obtain ⟨L,hL⟩:∃ L,L=l.length:=⟨_,rfl⟩
 rw [← hL] at hownb hn;refine aX (S:=Value×Nat) (λ s=>[(3,s.1),(0,.slice a l.length c)]) (λ s w3=>s.2≤jZ L∧w3.ownsRow w.heap.size 5 1 s.1 (L+1+s.2) (bB (l++[128]++zs s.2))∧Grow w w3) (λ s=>jZ L-s.2) (v',0) ⟨rfl,rfl,trivial⟩ ⟨by simp only;omega,by simp only [zs,List.replicate_zero,List.append_nil];rw [dH];exact hownb,hgn⟩ ?_;clear hownb hgn;rintro ⟨v,z⟩ w3 ⟨hz,hown,hg3⟩;simp only at hz hown;have hsz:=hg3.size;have hpz:jZ L=(239-L%128)%128:=rfl;have hpz2:jZ L<128:=by unfold jZ;omega
 obtain ⟨va,vc,rfl,hsv⟩:=aM hown;by_cases hlt:z<jZ L
 ·have hne:(L+1+z)%128≠112:=by omega
  repeat refine aF ?_
  refine TL.buildSlice rfl rfl rfl rfl rfl ?_;intro b' wa hga hba hsa hsb hsc;have hsl:Sl (λ _=>True) wa 1 (some ⟨b',0,none⟩) 1 1 (bB [0]):=(aV (sz:=1) (m:=1) hba hsc dM).mono (λ _ _=>trivial);have hga':=hga.size;refine TL.append rfl rfl (aS hown hga) hsl (bO [0]) (by unfold maxLen;omega) oM oM rfl ?_;intro v' wb hownb hgb _;have hgn:Grow w wb:=Grow.mk (aL hgb oM (λ k hk=>(aT (aS hown hga) hk).1) (hg3.trans hga).1);repeat refine aF ?_
  refine aE (v',z+1) ⟨rfl,rfl,trivial⟩ ⟨by simp only;omega,?_,hgn⟩ (by simp only;omega);simp only;rw [show zs (z+1)=zs z++[0] by simp [zs,List.replicate_succ'],← List.append_assoc,dH];exact hownb
 obtain rfl:z=jZ L:=by omega
 have hne:(L+1+jZ L)%128=112:=by omega
 obtain ⟨N,hN⟩:∃ N,N=L+1+jZ L:=⟨_,rfl⟩
 rw [← hN] at hown hsv hne;rw [← hN];have hN1:N≤200000:=by omega
 repeat refine aF ?_
 refine eW ?_;refine TL.appendZ (zc:=.int .u8 0) (c:=8) rfl rfl rfl rfl hown oM oM oM oM rfl ?_;intro v4 w4 hown4 hgb4;have hg4:Grow w w4:=Grow.mk (aL hgb4 oM (λ k hk=>(aT hown hk).1) hg3.1)
 have hown5:w4.ownsRow w.heap.size 5 1 v4 (N+8) (bB (l++[128]++zs (jZ L)++be8 0)):=by
  rw [be8_zero,dH];exact hown4
 obtain ⟨pre,hpre⟩:∃ pre,pre=l++[128]++zs (jZ L)++be8 0:=⟨_,rfl⟩
 rw [← hpre] at hown5;clear hown hsv hown4 hgb4 hg3 hsz;repeat (refine yC ?_)
 have hsz4:=hg4.size;refine aX (S:=Value×Nat) (λ s=>[(5,.int .i64 (7-(s.2:Int))),(4,.int .u64 ((8*L:Nat):Int)),(3,s.1)]) (λ s w5=>s.2≤8∧w5.ownsRow w.heap.size 5 1 s.1 (N+8+s.2) (bB (pre++(be8 (8*L)).take s.2))∧Grow w w5) (λ s=>8-s.2) (v4,0) ⟨rfl,by rw [hL,Nat.mul_comm];rfl,rfl,trivial⟩ ⟨by simp only;omega,by simpa using aS hown5 yG,yG⟩ ?_;clear hown5 hg4 hsz4;rintro ⟨v,i⟩ w5 ⟨hi,hown,hg3⟩;simp only at hi hown;have hsz:=hg3.size;obtain ⟨x,hx⟩:∃ x,x=8*L:=⟨_,rfl⟩
 rw [← hx] at hown;rw [← hx];have hx1:x<18446744073709551616:=by omega
 by_cases hlt2:i<8
 ·have hsh:(7-(i:Int))=((7-i:Nat):Int):=by omega
  rw [hsh];repeat (first|(refine eQ ?_;refine TL.mulN (a:=8) rfl rfl oM rfl ?_)|(refine eU ?_;refine TL.shrS rfl rfl (by show 8*(7-i)≤64;omega) rfl ?_)|(refine dL ?_;refine iC rfl (M:=256) rfl rfl ?_)|refine yC ?_)
  rw [show 8*(7-i)=56-8*i by omega];refine TL.buildSlice rfl rfl rfl rfl rfl ?_;intro b' wa hga hba hsa hsb hsc;have hsl:Sl (λ _=>True) wa 1 (some ⟨b',0,none⟩) 1 1 (bB [x / 2^(56-8*i)%256]):=(aV (sz:=1) (m:=1) hba hsc dM).mono (λ _ _=>trivial);have hga':=hga.size;refine TL.append rfl rfl (aS hown hga) hsl (bO [x / 2^(56-8*i)%256]) (by unfold maxLen;omega) oM oM rfl ?_;intro v' wb hownb hgb _;have hgn:Grow w wb:=Grow.mk (aL hgb oM (λ k hk=>(aT (aS hown hga) hk).1) (hg3.trans hga).1);rw [← hsh];repeat refine aF ?_
  refine aE (v',i+1) ⟨?_,by rw [hx];rfl,rfl,trivial⟩ ⟨by simp only;omega,?_,hgn⟩ (by simp only;omega)
  ·show some (Value.int .i64 _)=some (Value.int .i64 _);congr 2
   simp only;omega
  ·simp only
   have hx8:(be8 x).take (i+1)=(be8 x).take i++[x / 2^(56-8*i)%256]:=by
    rw [List.take_add_one];have:(be8 x)[i]? = some (x / 2^(56-8*i)%256):=by simp [be8,hlt2]
    rw [this];rfl
   rw [hx8,← List.append_assoc,dH];exact hownb
 obtain rfl:i=8:=by omega
 repeat refine aF ?_
 have hfin:pre++(be8 x).take 8=mI l:=by
  rw [List.take_of_length_le (by rw [mB];omega),hpre,hx];unfold mI;rw [hL]
 rw [hfin] at hown;have hll:(mI l).length=N+8+8:=by rw [kQ,← hL];omega
 exact bA rfl ⟨_,rfl,by rw [hll];exact hown,hg3⟩
theorem rrun_c (F:Nat→Prop) (s:St) (a:Option Addr) (c:Nat) (l:Bs) (w:World) (hs:Sl F w 1 a l.length c (bB l)) (hn:l.length≤100000) (hb:∀ b∈l,b<256) :
  Calls Tryz.prog 217 #[.agg (s.l.map wB).toArray,.slice a l.length c] w (Ret λ v w'=>v=.agg ((kW s l).l.map wB).toArray∧Grow w w'):=by
 refine V.calls (args:=[_,_]) Tryz.func217 rfl Tryz.ntmps217 rfl rfl ?_;repeat (first|refine aF ?_|refine yI λ bk w' hg hbk hsz hsz'=>?_)
 rename_i b0 w0 g0 k0 s0 s0';have hg2:Grow w w':=by exact yG
 have hb0:Blk w' b0 295 (s.l.map wB):=Blk.grow hg k0;have hsz2:=hg2.size;have hbk':Blk w' bk 295 ((List.replicate 8 0#64).map wB):=hbk;have hne:bk≠b0:=by omega
 have hbkl:=hbk.lt;clear hbk;refine aB 253 ?_;refine aA rfl (rpad_c F a c l _ (hs.grow hg2) hn) rfl ?_;rintro v w2 ⟨hown,hg3⟩;have hm:=padS_mod l;have hlt:=padS_lt hb;have hlp:=kQ l;have hz:jZ l.length<128:=by unfold jZ;omega
 unfold kW;generalize (mI l).length / 128=m at *;generalize mI l=bs at *;rw [hm] at hown;obtain ⟨va,vc,rfl,hsv⟩:=aM hown;obtain ⟨G,hG,hsG⟩:∃ G:Nat→Prop,(∀ k,G k→w'.heap.size≤k∧k<w2.heap.size)∧Sl G w2 1 va (128*m) vc (bB bs):=⟨_,λ k hk=>⟨hk.1.1,hk.2⟩,hsv.tight⟩
 have h3:=hg3.size;have hbb:=hb0.lt;have hcapv:=hsG.cap;repeat refine aF ?_
 refine aX (S:=Nat) (λ k=>[(6,.int .i64 ((128*k:Nat):Int)),(5,.slice va (128*m) vc),(4,.pointer (some ⟨bk,0,none⟩)),(2,.pointer (some ⟨b0,0,none⟩))]) (λ k w3=>k≤m∧Blk w3 b0 295 ((lW s bs k).l.map wB)∧Blk w3 bk 295 ((List.replicate 8 0#64).map wB)∧Sl G w3 1 va (128*m) vc (bB bs)∧Grow w w3) (λ k=>m-k) 0 ⟨rfl,rfl,rfl,rfl,trivial⟩ ⟨Nat.zero_le _,hb0.grow hg3,hbk'.grow hg3,hsG,hg2.trans hg3⟩ ?_;rintro k w3 ⟨hk,q1,q2,q3,q4⟩;have hq4:=q4.size;by_cases hkm:k<m
 ·repeat refine aF ?_
  apply T.any 7 [is (.agg ((lW s bs k).l.map wB).toArray),is (.slice va (128*m) vc),is (.int .i64 ((128*k:Nat):Int)),is (.int .i64 ((128*k:Nat):Int)),is (.int .i64 ((128*k+128:Nat):Int)),slF G 1 128 (vc-128*k) (bB ((bs.drop (128*k)).take 128)),is (.agg ((pieceB (lW s bs k) ((bs.drop (128*k)).take 128)).map wB).toArray)]
  ·rfl
  ·repeat' (first|exact aN|refine aK ?_ ?_)
   iterate 5
    ·refine yQ λ wq _ _ hgq=>?_;repeat refine aF ?_
     exact aD rfl yG rfl
   ·refine yQ λ wq _ _ hgq=>?_;refine TL.slice (l:=128*k) (h:=128*k+128) (mm:=vc) rfl (q3.grow yG) (bI rfl rfl) (bI rfl rfl) (aP _) (by intro h;rfl) oM oM oM oM rfl ?_;intro a' hsl _;repeat refine aF ?_
    rw [show 128*k+128-128*k=128 by omega] at *;refine aD rfl yG ⟨a',rfl,?_⟩;simpa [bB,List.map_take,List.map_drop] using hsl
   ·(((refine bX rfl rfl rfl ?_);( intro wq _ _ hgq;(repeat (refine aJ rfl rfl ?_;intro vq hvq;try (obtain rfl:=hvq)));(refine aZ ?_))))
    obtain ⟨a',rfl,hsl⟩:=hvq;refine aB 254 ?_;refine aA rfl (rpiece_c G (lW s bs k) ((bs.drop (128*k)).take 128) ?_ ?_ a' _ _ hsl) rfl ?_
    ·rw [List.length_take,List.length_drop];omega
    ·exact λ b hb=>hlt b (List.mem_of_mem_drop (List.mem_of_mem_take hb))
    rintro _ w8 ⟨rfl,hg8⟩;repeat refine aF ?_
    exact aD rfl yG rfl
  ·intro w7 lo7 hi7 hg7 _ _;((((repeat (refine aJ rfl rfl ?_;intro vq hvq;try (obtain rfl:=hvq)));(refine aZ ?_))))
   have q1':=q1.grow hg7;rw [← wordsB_l];repeat (first|refine aF ?_|refine yJ λ w' hu hbk hsz=>?_)
   refine aE (k+1) ⟨by show some (Value.int .i64 _)=some (Value.int .i64 _);congr 2,rfl,rfl,rfl,trivial⟩ ⟨oM,hbk,(q2.grow hg7).upd hu oM,(q3.grow hg7).upd hu (λ k hk=>by have:=hG k hk;omega),aI hu oM (q4.trans hg7)⟩ oM
 ·obtain rfl:k=m:=by omega
  repeat (first|refine aF ?_|refine yJ λ w' hu hbk hsz=>?_)
  exact retC rfl (aW hbk rfl) ⟨_,rfl,rfl,aI hu oM q4⟩
theorem rshort_c (w:World):Calls Tryz.prog 218 #[] w (Ret λ v w'=>v=.agg (shortS.l.map wB).toArray∧Grow w w'):=by
 refine V.calls (args:=[]) Tryz.func218 rfl Tryz.ntmps218 rfl rfl ?_;repeat (first|refine aF ?_|refine yI λ bk w' hg hbk hsz hsz'=>?_)
 refine aB 255 ?_;refine aA (vs:=[]) rfl (rstart_c _) rfl ?_;rintro _ w2 ⟨rfl,hg2⟩;have hbr:Blk w2 bk 295 ((List.replicate 8 0#64).map wB):=Blk.grow hg2 hbk;have hgw:Grow w w2:=hg.trans hg2;have hz1:=hg2.size;have hz2:w.heap.size=bk:=hsz;have hz3:=hsz';clear hg hbk hsz hsz' hg2;repeat (first|refine aF ?_|refine yI λ bk w' hg hbk hsz hsz'=>?_|refine yJ λ w' hu hbk hsz=>?_)
 rename_i b0 wa wb hbz hsz0;have hbr2:Blk w' b0 295 ((List.replicate 8 0#64).map wB):=by exact yB
 have hgw2:Grow w w':=by exact yG
 have hne:b0≠bk:=by omega
 have hle1:w.heap.size≤b0:=by omega
 have hle:w.heap.size≤bk:=by omega
 clear hbr hgw hz1 hz2 hz3 hu hsz hg hsz' hbz hsz0;refine aX (S:=Nat) (λ i=>[(2,.int .i64 (i:Int)),(1,.pointer (some ⟨bk,0,none⟩)),(0,.pointer (some ⟨b0,0,none⟩))]) (λ i w3=>i≤8∧Blk w3 bk 295 ((xorL i).map wB)∧Blk w3 b0 295 ((List.replicate 8 0#64).map wB)∧Grow w w3) (λ i=>8-i) 0 ⟨rfl,rfl,rfl,trivial⟩ ⟨oM,hbk,hbr2,hgw2⟩ ?_;clear hbk hbr2 hgw2;rintro i w3 ⟨hi,hbk,hbr,hg⟩;have hln:=xorL_len i;by_cases hlt:i<8
 ·repeat (first|(refine aO ?_;refine aQ rfl (Blk.cell hbk (kD oM)) rfl ?_)|refine jV (b:=xorK) rfl rfl rfl ?_|refine yC ?_)
  refine dQ rfl rfl hbk rfl (by rw [List.length_map,hln];exact Nat.ble_eq_true_of_le oM) (map_set _ _ _) ?_;intro w7 hu7 hb7 hs7;repeat refine aF ?_
  exact aE (i+1) ⟨rfl,rfl,rfl,trivial⟩ ⟨hlt,hb7,hbr.upd hu7 hne,aI hu7 hle hg⟩ oM
 obtain rfl:i=8:=by omega
 repeat (first|(refine aO ?_;refine iO rfl hbk (by rw [List.length_map,hln];rfl) rfl ?_)|refine yC ?_)
 refine TL.buildSlice rfl rfl rfl rfl rfl ?_;intro b1 w4 hg4 hb1 q1 q2 q3;have hb1':Blk w4 b1 5 (bB mJ):=hb1;refine jM rfl hb1' rfl (Nat.le_refl _) dM rfl ?_;intro w5 hu5 hs5;have hz3:=hg.size;have hbrl:=hbr.lt;have hle0:w.heap.size≤b0:=hle1;have hz4:=hg4.size;have hz5:=hu5.size;refine aB 217 ?_;have hsl:(St.of (xorL 8)).l=xorL 8:=St.of_l (xorL_len 8);rw [← hsl];refine aA rfl (rrun_c _ (St.of (xorL 8)) (some ⟨b1,0,none⟩) 11 mJ _ hs5 dM dM) rfl ?_;rintro _ w7 ⟨rfl,hg7⟩;rw [show kW (St.of (xorL 8)) mJ=shortS from rfl];have hz7:=hg7.size;have hbr7:Blk w7 b0 295 ((List.replicate 8 0#64).map wB):=(((hbr.grow hg4).upd hu5 oM).grow hg7)
 have hg8:Grow w w7:=((aI hu5 oM (hg.trans hg4)).trans hg7)
 repeat (first|(refine bZ ?_;refine eJ rfl rfl hbr7 rfl rfl (by simp [Value.oneCell']) ?_;intro w' hu hbk hsz)|refine yC ?_)
 exact retC rfl (aW hbk rfl) ⟨_,rfl,rfl,aI hu oM hg8⟩
theorem rsum_c (F:Nat→Prop) (a:Option Addr) (n c:Nat) (bss:List Bs) (w:World) (h:KysAt F w a n c bss) (hn:bss.flatten.length≤100000) (hb:∀ b∈bss.flatten,b<256) :
  Calls Tryz.prog 172 #[.slice a n c] w (Ret λ v w'=>v=.agg (bB (shaB bss.flatten)).toArray∧Grow w w'):=by
 refine V.calls (args:=[_]) Tryz.func172 rfl Tryz.ntmps172 rfl rfl ?_;repeat (first|(refine fL ?_;refine eS 32 zero_dig rfl ?_;intro bk w' hg hbk hsz hsz')|refine yC ?_)
 refine aB 218 ?_;refine aA (vs:=[]) rfl (rshort_c _) rfl ?_;rintro _ w2 ⟨rfl,hg2⟩;repeat refine aF ?_
 refine aB 219 ?_;refine aA rfl (rjoin_c F a n c bss _ (h.go (Carry.grow (hg.trans hg2))) hn) rfl ?_;rintro vj w3 ⟨hj,hg3⟩;obtain ⟨ja,jc,rfl,hjs⟩:=aM hj;refine aB 217 ?_;refine aA rfl (rrun_c _ shortS ja jc bss.flatten _ hjs hn hb) rfl ?_;rintro _ w4 ⟨rfl,hg4⟩;refine aB 216 ?_;refine aA rfl (rbytes_c _ _) rfl ?_;rintro _ w5 ⟨rfl,hg5⟩;unfold shaB;have hl:=kO (kW shortS bss.flatten);generalize sumS (kW shortS bss.flatten)=l at *;have hb4:Blk w5 bk 243 (bB (zs 32)):=((((hbk.grow hg2).grow hg3).grow hg4).grow hg5)
 have hgw:Grow w w5:=(((hg.trans hg2).trans hg3).trans hg4).trans hg5;have hle:w.heap.size≤bk:=by omega
 have hbl:=hb4.lt;clear hg hbk hsz hsz' hg2 hg3 hg4 hg5 hj hjs;repeat ((refine fL ?_;refine eS 64 zero_64 rfl ?_;intro b2 w6 hg6 hb6 q1 q2))
 refine bZ ?_;refine fK rfl rfl hb6 (cJ _) hl ?_;intro w7 hu7 hb7 q3;repeat (first|(refine fL ?_;refine eS 32 zero_dig rfl ?_;intro b3 w8 hg8 hb8 q4 q5)|refine yC ?_)
 apply T.any 2 [is (.slice (some ⟨b3,0,none⟩) 32 32),is (.slice (some ⟨b2,0,none⟩) 32 64)]
 ·rfl
 ·repeat' (first|exact aN|refine aK ?_ ?_)
  iterate 2
   ·refine yQ λ wq _ _ hgq=>?_;repeat refine aF ?_
    exact aD rfl yG rfl
 intro w9 lo9 hi9 hg9 _ _;((refine yT ?_))
 have hs9:=jO (o:=0) (m:=32) (c:=64) ((hb7.grow hg8).grow hg9) oM oM dM;rw [List.drop_zero] at hs9;refine TL.copyB (b:=b3) (o:=0) (m:=32) (c:=32) rfl rfl (hb8.grow hg9) hs9 (bO _) (by rw [bE,cJ];omega) rfl ?_;intro w10 hu10 hb10 hz10;have hlt32:(l.take 32).length=32:=by rw [List.length_take];omega
 have hb0:iH (bB (zs 32)) 0 ((bB (l.take 32)).take (min 32 32))=bB (l.take 32):=by
  rw [List.take_of_length_le (by rw [bE];omega),putAt_eq _ _ _ (by rw [bE,bE,cJ];omega),bE,hlt32];simp [bB,zs]
 rw [hb0] at hb10;have z9:=hg9.size;have hgw10:Grow w w10:=aI hu10 oM ((aI hu7 oM (hgw.trans hg6)).trans (hg8.trans hg9));have hbk10:Blk w10 bk 243 (bB (zs 32)):=((((hb4.grow hg6).upd hu7 oM).grow hg8).grow hg9).upd hu10 oM;repeat (first|refine nX rfl hb10 hlt32 rfl ?_|(refine bZ ?_;refine fK rfl rfl hbk10 (cJ _) hlt32 ?_;intro w' hu hbk' hsz)|refine yC ?_)
 exact retC rfl (aW hbk' (by rw [bE,hlt32];rfl)) ⟨_,rfl,rfl,aI hu hle hgw10⟩
theorem encL_small:∀ n:Fin 128,encL n.val=[n.val]:=by decide +kernel
theorem blkB_small {p:Bs} (h:p.length<128):bS p=p.length::p:=by
 unfold bS;rw [encL_small ⟨p.length,h⟩];rfl
theorem rroom_c (n:Nat) (hn:n<128) (w:World) :
  Calls Tryz.prog 265 #[.int .u64 (n:Int)] w (Ret λ v w'=>v=.int .i64 1∧w=w'):=by
 have h0:n / 2^7=0:=Nat.div_eq_of_lt oM;refine V.calls (args:=[_]) Tryz.func265 rfl Tryz.ntmps265 rfl rfl ?_;repeat refine aF ?_
 refine aX (S:=Nat) (λ _=>[(3,.int .i64 1),(0,.int .u64 (n:Int))]) (λ i w'=>i=0∧w=w') (λ i=>i) 0 ⟨rfl,rfl,trivial⟩ ⟨rfl,rfl⟩ ?_;rintro _ _ ⟨rfl,rfl⟩;repeat (first|(refine eU ?_;refine TL.shrS (s:=7) rfl rfl (by show 7≤64;omega) rfl ?_;rw [h0])|refine yC ?_)
 exact bA rfl ⟨_,rfl,rfl,rfl⟩
theorem own_copy {F:Nat→Prop} {w0 w w1:World} {v:Value} {l:Bs} (hg:Grow w0 w) (hown:w1.ownsRow w0.heap.size 5 1 v (0+l.length) ([]++bB l)) {b:Nat} (hb:w0.heap.size≤b) (hgb:w.grownBy w1 (Value.slice (some ⟨b,0,none⟩) 0 0).ownBlock):w1.ownsRow w0.heap.size 5 1 v l.length (bB l)∧Grow w0 w1:=by
 rw [Nat.zero_add,List.nil_append] at hown;have:=hg.size;exact ⟨hown,Grow.mk (aL hgb oM (λ k hk=>by simp only [Value.ownBlock,Option.some.injEq] at hk;omega) hg.1)⟩
theorem rnum_c (F:Nat→Prop) (a:Option Addr) (c n:Nat) (l:Bs) (w:World) (hs:Sl F w 1 a l.length c (bB l)) (hl:l.length≤100000) (hn:n<128) :
  Calls Tryz.prog 247 #[.slice a l.length c,.int .u64 (n:Int)] w (Ret λ v w'=>w'.ownsRow w.heap.size 5 1 v (l.length+1) (bB (l++[n]))∧Grow w w'):=by
 refine V.calls (args:=[_,_]) Tryz.func247 rfl Tryz.ntmps247 rfl rfl ?_;repeat (first|refine aF ?_|refine yI λ bk w' hg hbk hsz hsz'=>?_)
 refine TL.append rfl rfl (eL hbk (Nat.le_of_eq hsz)) (hs.grow hg) (bO l) (by unfold maxLen;omega) oM oM rfl ?_;intro v1 w1 hown1 hgb1 _;obtain ⟨hown,hg1⟩:=own_copy (F:=F) hg hown1 (Nat.le_of_eq hsz) hgb1;clear hown1 hgb1 hbk hg hsz;repeat (first|(refine aB 265 ?_;refine aA rfl (rroom_c n hn _) rfl ?_;rintro _ _ ⟨rfl,rfl⟩)|(refine eU ?_;refine TL.shrS (s:=0) rfl rfl (by show 0≤64;omega) rfl ?_;rw [show n / 2^0=n by simp])|refine yC ?_)
 rw [show 256-1*2^(9-1)+n=n by simp];refine TL.buildSlice rfl rfl rfl rfl rfl ?_;intro b' wa hga hba hsa hsb hsc;have hsl:Sl (λ _=>True) wa 1 (some ⟨b',0,none⟩) 1 1 (bB [n]):=(aV (sz:=1) (m:=1) hba hsc dM).mono (λ _ _=>trivial);have hga':=hga.size;have z1:=hg1.size;refine TL.append rfl rfl (aS hown hga) hsl (bO [n]) (by unfold maxLen;omega) oM oM rfl ?_;intro v' wb hownb hgb _;have hgn:Grow w wb:=Grow.mk (aL hgb oM (λ k hk=>(aT (aS hown hga) hk).1) (hg1.trans hga).1);repeat refine aF ?_
 refine aX (S:=Nat) (λ _=>[(7,.int .i64 (-1)),(5,v')]) (λ i w'=>i=0∧wb=w') (λ i=>i) 0 ⟨rfl,rfl,trivial⟩ ⟨rfl,rfl⟩ ?_;rintro _ _ ⟨rfl,rfl⟩;repeat refine aF ?_
 exact bA rfl ⟨_,rfl,by rw [dH];exact hownb,hgn⟩
theorem rblock_c (F G:Nat→Prop) (a b:Option Addr) (c d:Nat) (l p:Bs) (w:World) (hs:Sl F w 1 a l.length c (bB l)) (hp:Sl G w 1 b p.length d (bB p)) (hl:l.length≤100000) (hn:p.length<128) :
  Calls Tryz.prog 203 #[.slice a l.length c,.slice b p.length d] w (Ret λ v w'=>w'.ownsRow w.heap.size 5 1 v (l++bS p).length (bB (l++bS p))∧Grow w w'):=by
 refine V.calls (args:=[_,_]) Tryz.func203 rfl Tryz.ntmps203 rfl rfl ?_;repeat refine aF ?_
 refine aB 247 ?_;refine aA rfl (rnum_c F a c p.length l _ hs hl hn) rfl ?_;rintro v w1 ⟨hown,hg1⟩;have z1:=hg1.size;repeat refine aF ?_
 refine TL.append rfl rfl hown (hp.grow hg1) (bO p) (by unfold maxLen;omega) oM oM rfl ?_;intro v' wb hownb hgb _;have hgn:Grow w wb:=Grow.mk (aL hgb oM (λ k hk=>(aT hown hk).1) hg1.1);have e:l++bS p=l++[p.length]++p:=by rw [blkB_small hn];simp
 have e2:(l++bS p).length=l.length+1+p.length:=by rw [e];simp;omega
 repeat refine aF ?_
 exact bA rfl ⟨_,rfl,by rw [e2,e,dH];exact hownb,hgn⟩
theorem wordL_eq (n:Nat):(List.range 4).map (λ j=>n / 2^(8*j)%256)=bP n:=by
 simp [List.range_succ,bP]
theorem rword_c (F:Nat→Prop) (a:Option Addr) (c n:Nat) (l:Bs) (w:World) (hs:Sl F w 1 a l.length c (bB l)) (hl:l.length≤100000) (hn:n<18446744073709551616) :
  Calls Tryz.prog 173 #[.slice a l.length c,.int .u64 (n:Int),.int .i64 4] w (Ret λ v w'=>w'.ownsRow w.heap.size 5 1 v (l.length+4) (bB (l++bP n))∧Grow w w'):=by
 refine V.calls (args:=[_,_,_]) Tryz.func173 rfl Tryz.ntmps173 rfl rfl ?_;repeat (first|refine aF ?_|refine yI λ bk w' hg hbk hsz hsz'=>?_)
 refine TL.append rfl rfl (eL hbk (Nat.le_of_eq hsz)) (hs.grow hg) (bO l) (by unfold maxLen;omega) oM oM rfl ?_;intro v1 w1 hown1 hgb1 _;obtain ⟨hown,hg1⟩:=own_copy (F:=F) hg hown1 (Nat.le_of_eq hsz) hgb1;clear hown1 hgb1 hbk hg hsz;repeat refine aF ?_
 refine aX (S:=Value×Nat) (λ s=>[(8,.int .i64 (s.2:Int)),(7,s.1),(2,.int .i64 4),(1,.int .u64 (n:Int))]) (λ s w3=>s.2≤4∧w3.ownsRow w.heap.size 5 1 s.1 (l.length+s.2) (bB (l++(List.range s.2).map (λ j=>n / 2^(8*j)%256)))∧Grow w w3) (λ s=>4-s.2) (v1,0) ⟨rfl,rfl,rfl,rfl,trivial⟩ ⟨by simp only;omega,by simpa using hown,hg1⟩ ?_;clear hown hg1;rintro ⟨v,i⟩ w3 ⟨hi,hown,hg3⟩;simp only at hi hown;have z3:=hg3.size;by_cases hlt:i<4
 ·repeat (first|(refine eW ?_;first|refine lP (r:=4) rfl rfl dM rfl ?_|refine TL.minV (r:=4) rfl rfl dM rfl ?_)|(refine eQ ?_;refine TL.mulN (a:=8) rfl rfl oM rfl ?_)|(refine eU ?_;refine TL.shrS rfl rfl (by show 8*i≤64;omega) rfl ?_)|(refine dL ?_;refine iC rfl (M:=256) rfl rfl ?_)|refine yC ?_)
  refine TL.buildSlice rfl rfl rfl rfl rfl ?_;intro b' wa hga hba hsa hsb hsc;have hsl:Sl (λ _=>True) wa 1 (some ⟨b',0,none⟩) 1 1 (bB [n / 2^(8*i)%256]):=(aV (sz:=1) (m:=1) hba hsc dM).mono (λ _ _=>trivial);have hga':=hga.size;refine TL.append rfl rfl (aS hown hga) hsl (bO [n / 2^(8*i)%256]) (by unfold maxLen;omega) oM oM rfl ?_;intro v' wb hownb hgb _;have hgn:Grow w wb:=Grow.mk (aL hgb oM (λ k hk=>(aT (aS hown hga) hk).1) (hg3.trans hga).1);repeat refine aF ?_
  refine aE (v',i+1) ⟨rfl,rfl,rfl,rfl,trivial⟩ ⟨by simp only;omega,?_,hgn⟩ (by simp only;omega);simp only;rw [List.range_succ,List.map_append,← List.append_assoc,dH];exact hownb
 ·obtain rfl:i=4:=by omega
  rw [wordL_eq] at hown;repeat (first|(refine eW ?_;first|refine lP (r:=4) rfl rfl dM rfl ?_|refine TL.minV (r:=4) rfl rfl dM rfl ?_)|refine yC ?_)
  exact bA rfl ⟨_,rfl,hown,hg3⟩
def RdR (B b:Nat) (r:Bs) (w:World):Prop:=∃ a c,Blk w b 289 [.slice a r.length c,.int .i64 0]∧Sl (λ k=>B≤k∧k<b) w 1 a r.length c (bB r)
theorem RdR.lt {B b:Nat} {r:Bs} {w:World} (h:RdR B b r w):b<w.heap.size:=by
 obtain ⟨a,c,h1,_⟩:=h;exact h1.lt
theorem RdR.grow {B b:Nat} {r:Bs} {w w':World} (h:RdR B b r w) (g:Grow w w'):RdR B b r w':=by
 obtain ⟨a,c,h1,h2⟩:=h;exact ⟨a,c,h1.grow g,h2.grow g⟩
theorem rread_c (F:Nat→Prop) (a:Option Addr) (c:Nat) (l:Bs) (w:World) (hs:Sl F w 1 a l.length c (bB l)) (hl:l.length≤100000) :
  Calls Tryz.prog 205 #[.slice a l.length c] w (Ret λ v w'=>∃ b,v=.pointer (some ⟨b,0,none⟩)∧w.heap.size≤b∧RdR w.heap.size b l w'∧Grow w w'):=by
 refine V.calls (args:=[_]) Tryz.func205 rfl Tryz.ntmps205 rfl rfl ?_;repeat (first|refine aF ?_|refine yI λ bk w' hg hbk hsz hsz'=>?_)
 refine TL.append rfl rfl (eL hbk (Nat.le_of_eq hsz)) (hs.grow hg) (bO l) (by unfold maxLen;omega) oM oM rfl ?_;intro v1 w1 hown1 hgb1 _;obtain ⟨hown,hg1⟩:=own_copy (F:=F) hg hown1 (Nat.le_of_eq hsz) hgb1;clear hown1 hgb1 hbk hg hsz;obtain ⟨a1,c1,rfl,hs1⟩:=aM hown;have z1:=hg1.size;repeat (first|refine aF ?_|refine yI λ bk w' hg hbk hsz hsz'=>?_)
 exact bA rfl ⟨_,rfl,bk,rfl,oM,⟨a1,c1,hbk,(hs1.tight.grow hg).mono (λ k hk=>⟨hk.1.1,by have:=hk.2;omega⟩)⟩,hg1.trans hg⟩
theorem rtake_c {B b:Nat} {r:Bs} {w:World} (h:RdR B b r w) (m:Nat) (hm:m≤r.length) (hl:r.length≤100000) :
  Calls Tryz.prog 206 #[.pointer (some ⟨b,0,none⟩),.int .i64 (m:Int)] w (Ret λ v w'=>∃ a c,v=.slice a m c∧Sl (λ k=>w.heap.size≤k) w' 1 a m c (bB (r.take m))∧RdR B b (r.drop m) w'∧Mut b w w'):=by
 have hbl:=h.lt;obtain ⟨a,c,h1,h2⟩:=h;have hcap:=h2.cap;refine V.calls (args:=[_,_]) Tryz.func206 rfl Tryz.ntmps206 rfl rfl ?_;repeat (first|(refine eW ?_;refine lP (r:=(m:Int)) rfl rfl (by split<;>omega) rfl ?_)|(refine cG ?_;first|refine dE (l:=0) (h:=m) (mm:=c) rfl (aP _) (bI rfl rfl) (aP _) (by intro h;cases h) oM oM oM oM oM rfl ?_|refine dE (l:=m) (h:=r.length) (mm:=c) rfl (bI rfl rfl) (aP _) (aP _) (by intro h;rfl) oM oM oM oM oM rfl ?_)|refine yC ?_|refine yI λ bk w' hg hbk hsz hsz'=>?_|refine yJ λ w' hu hbk hsz=>?_)
 rename_i w1 hb1 q1;have hu1:=hu;clear hu;have z1:=hu1.size;have z2:=hg.size
 have s0:Sl (λ k=>B≤k∧k<b) w 1 (eP a c 0 1) m c (bB (r.take m)):=by
  have:=eY (l:=0) (h:=m) (mm:=c) h2 (Nat.zero_le _) hm oM (Nat.le_refl _);simpa [bB,List.map_take] using this
 have s1:Sl (λ k=>B≤k∧k<b) w 1 (eP a c m 1) (r.drop m).length (c-m) (bB (r.drop m)):=by
  have:=eY (l:=m) (h:=r.length) (mm:=c) h2 hm (Nat.le_refl _) hcap (Nat.le_refl _);rw [List.take_of_length_le (by rw [List.length_drop,bE];omega)] at this;simpa [bB,List.map_drop] using this
 have e1:(r.drop m).length=r.length-m:=List.length_drop;refine TL.append rfl rfl (eL (base:=w.heap.size) hbk oM) ((s0.upd hu1 (λ k hk=>by omega)).grow hg) (bO _) (by unfold maxLen;omega) oM oM rfl ?_;intro v2 w2 hown2 hgb _;have hown3:w2.ownsRow w.heap.size 5 1 v2 m (bB (r.take m)):=by simpa using hown2
 have hgn:Grow w1 w2:=Grow.mk (aL hgb oM (λ k hk=>by simp only [Value.ownBlock,Option.some.injEq] at hk;omega) hg.1);obtain ⟨a2,c2,rfl,s2⟩:=aM hown3;repeat refine aF ?_
 refine bA rfl ⟨_,rfl,a2,c2,rfl,s2.mono (λ k hk=>hk.1),⟨eP a c m 1,c-m,?_,(s1.upd hu1 (λ k hk=>by omega)).grow hgn⟩,(mut_upd hu1).trans (iK hgn)⟩;rw [e1];exact Blk.grow hgn hb1
theorem rnumber_c {B b n:Nat} {t:Bs} {w:World} (h:RdR B b (n::t) w) (hn:n<128) (hl:(n::t).length≤100000) :
  Calls Tryz.prog 248 #[.pointer (some ⟨b,0,none⟩)] w (Ret λ v w'=>v=.int .u64 (n:Int)∧RdR B b t w'∧Mut b w w'):=by
 have hbl:=h.lt;obtain ⟨a,c,h1,h2⟩:=h;have hcap:=h2.cap;have hlen:(n::t).length=t.length+1:=rfl;have hcell:w.cell? (at' a 0)=some (.int .u8 (n:Int)):=h2.row.cell rfl;have h0:n / 2^7=0:=Nat.div_eq_of_lt oM;have hmod:n%128=n:=Nat.mod_eq_of_lt hn
 have s1:Sl (λ k=>B≤k∧k<b) w 1 (eP a c 1 1) t.length (c-1) (bB t):=by
  have:=eY (l:=1) (h:=(n::t).length) (mm:=c) h2 oM (Nat.le_refl _) hcap (Nat.le_refl _);rw [List.take_of_length_le (by simp [bE])] at this;simpa [bB] using this
 obtain ⟨N,hN⟩:∃ N,N=(n::t).length:=⟨_,rfl⟩
 rw [← hN] at h1 h2 hcap hl hlen;refine V.calls (args:=[_]) Tryz.func248 rfl Tryz.ntmps248 rfl rfl ?_;repeat refine aF ?_
 refine aX (S:=Nat) (λ _=>[(3,.int .i64 1),(0,.pointer (some ⟨b,0,none⟩))]) (λ i w'=>i=0∧w=w') (λ i=>i) 0 ⟨rfl,rfl,trivial⟩ ⟨rfl,rfl⟩ ?_;rintro _ _ ⟨rfl,rfl⟩;repeat (first|(refine aH ?_;refine aC (j:=0) rfl rfl rfl oM (Nat.mul_one _) ⟨_,_,h2⟩ rfl ?_)|(refine eU ?_;refine TL.shrS (s:=7) rfl rfl (by show 7≤8;omega) rfl ?_;rw [h0])|refine aQ rfl hcell rfl ?_|(refine jW ?_;refine TL.shlS (M:=18446744073709551616) (a:=1) (s:=7) rfl rfl rfl dM dM rfl ?_)|(refine TL.isRem ?_;first|(refine TL.remU (a:=n) (b:=128) rfl rfl oM rfl ?_;rw [hmod])|refine TL.remU (a:=0) (b:=2) rfl rfl oM rfl ?_)|refine yC ?_)
 refine aX (S:=Nat) (λ _=>[(5,.int .i64 1),(4,.int .u64 (n:Int)),(3,.int .i64 1),(0,.pointer (some ⟨b,0,none⟩))]) (λ i w'=>i=0∧w=w') (λ i=>i) 0 ⟨rfl,rfl,rfl,rfl,trivial⟩ ⟨rfl,rfl⟩ ?_;rintro _ _ ⟨rfl,rfl⟩;repeat (first|(refine aB 265 ?_;refine aA rfl (rroom_c n hn _) rfl ?_;rintro _ _ ⟨rfl,rfl⟩)|(refine cG ?_;refine dE (l:=1) (h:=N) (mm:=c) rfl (bI rfl rfl) (aP _) (aP _) (by intro h;rfl) oM oM oM oM oM rfl ?_)|refine yC ?_|refine yJ λ w' hu hbk hsz=>?_)
 have e2:N-1=t.length:=by omega
 rw [e2] at hbk;exact bA rfl ⟨_,rfl,rfl,⟨_,_,hbk,s1.upd hu (λ k hk=>by omega)⟩,mut_upd hu⟩
theorem rdblock_c {B b:Nat} {p t:Bs} {w:World} (h:RdR B b (bS p++t) w) (hn:p.length<128) (hl:(bS p++t).length≤100000) :
  Calls Tryz.prog 207 #[.pointer (some ⟨b,0,none⟩)] w (Ret λ v w'=>∃ a c,v=.slice a p.length c∧Sl (λ k=>w.heap.size≤k) w' 1 a p.length c (bB p)∧RdR B b t w'∧Mut b w w'):=by
 have hbl:=h.lt;rw [blkB_small hn,List.cons_append] at h hl;have h':=h;obtain ⟨a,c,h1,h2⟩:=h';refine V.calls (args:=[_]) Tryz.func207 rfl Tryz.ntmps207 rfl rfl ?_;repeat refine aF ?_
 refine aB 248 ?_;refine aA rfl (rnumber_c h hn hl) rfl ?_;rintro _ w1 ⟨rfl,hr1,hm1⟩;have hr1':=hr1;obtain ⟨a3,c3,h3,h4⟩:=hr1';have hlp:(p++t).length=p.length+t.length:=List.length_append;have hl1:(p++t).length≤100000:=by simp only [List.length_cons] at hl;omega
 obtain ⟨N,hN⟩:∃ N,N=(p++t).length:=⟨_,rfl⟩
 have z1:=hm1.size;rw [← hN] at h3;clear h1 h2 h;repeat refine aF ?_
 refine aB 206 ?_;refine aA rfl (rtake_c hr1 p.length oM hl1) rfl ?_;rintro _ w2 ⟨a5,c5,rfl,s5,hr5,hm5⟩;rw [List.take_left' rfl] at s5;rw [List.drop_left' rfl] at hr5;repeat refine aF ?_
 exact bA rfl ⟨_,rfl,a5,c5,rfl,s5.mono (λ k hk=>by omega),hr5,hm1.trans hm5⟩
def beW (r:Bs):Nat→Nat
 | 0=>0
 | i+1=>beW r i*256+r.getD (3-i) 0
theorem beW_word {k:Nat} (h:k<4294967296):beW (bP k) 4=k:=by
 simp [beW,bP];omega
theorem beW_lt {r:Bs} (hr:∀ x∈r,x<256):∀ i,beW r i<256^i
 | 0=>by simp [beW]
 | i+1=>by
  have ih:=beW_lt hr i
  have hg:r.getD (3-i) 0<256:=by
   rw [List.getD_eq_getElem?_getD]
   cases hx:r[3-i]? with
   | none=>simp
   | some x=>exact hr x (List.mem_of_getElem? hx)
  simp only [beW,Nat.pow_succ];omega
theorem rdword_c {B b k:Nat} {t:Bs} {w:World} (h:RdR B b (bP k++t) w) (hk:k<4294967296) (hl:(bP k++t).length≤100000) :
  Calls Tryz.prog 208 #[.pointer (some ⟨b,0,none⟩),.int .i64 4] w (Ret λ v w'=>v=.int .u64 (k:Int)∧RdR B b t w'∧Mut b w w'):=by
 have hbl:=h.lt;refine V.calls (args:=[_,_]) Tryz.func208 rfl Tryz.ntmps208 rfl rfl ?_;repeat (first|(refine eW ?_;first|refine lP (r:=4) rfl rfl dM rfl ?_|refine TL.minV (r:=4) rfl rfl dM rfl ?_)|refine yC ?_)
 refine aB 206 ?_;refine aA rfl (rtake_c h 4 (by simp [bP]) hl) rfl ?_;rintro _ w2 ⟨a5,c5,rfl,s5,hr5,hm5⟩;have e4:(bP k++t).take 4=bP k:=List.take_left' rfl;have e5:(bP k++t).drop 4=t:=List.drop_left' rfl;rw [e4] at s5;rw [e5] at hr5;have hw4:∀ x∈bP k,x<256:=word4_lt k;repeat refine aF ?_
 refine aX (S:=Nat) (λ i=>[(7,.int .i64 (3-(i:Int))),(6,.int .u64 (beW (bP k) i:Int)),(5,.slice a5 4 c5)]) (λ i w'=>i≤4∧w2=w') (λ i=>4-i) 0 ⟨rfl,rfl,rfl,trivial⟩ ⟨oM,rfl⟩ ?_;rintro i _ ⟨hi,rfl⟩;by_cases hlt:i<4
 ·have hsh:(3-(i:Int))=((3-i:Nat):Int):=by omega
  have hb1:=beW_lt hw4 i;have hpw:256^i≤256^3:=Nat.pow_le_pow_right oM oM
  have hg:(bP k)[3-i]? = some ((bP k).getD (3-i) 0):=by
   rw [List.getD_eq_getElem?_getD];rw [List.getElem?_eq_getElem (by show 3-i<4;omega)];rfl
  have hgl:(bP k).getD (3-i) 0<256:=hw4 _ (List.mem_of_getElem? hg);have hcx:w2.cell? (at' a5 (3-i))=some (.int .u8 (((bP k).getD (3-i) 0:Nat):Int)):=s5.row.cell (bys_at hg);have hst:beW (bP k) (i+1)=beW (bP k) i*256+(bP k).getD (3-i) 0:=rfl;generalize beW (bP k) i=x at *;generalize (bP k).getD (3-i) 0=y at *;rw [hsh];repeat (first|(refine aH ?_;refine aC (j:=3-i) rfl rfl rfl oM (Nat.mul_one _) ⟨_,_,s5⟩ rfl ?_)|refine yC ?_)
  refine aE (i+1) ⟨?_,?_,rfl,trivial⟩ ⟨hlt,rfl⟩ oM
  ·show some (Value.int .i64 _)=some (Value.int .i64 _);congr 2
   omega
  ·rw [hst];rfl
 ·obtain rfl:i=4:=by omega
  rw [beW_word hk];repeat refine aF ?_
  exact bA rfl ⟨_,rfl,rfl,hr5,hm5⟩
theorem RdR.keep {B b:Nat} {r:Bs} {w w':World} (h:RdR B b r w) (hs:w.heap.size≤w'.heap.size) (hk:∀ k,k≤b→w'.heap[k]? = w.heap[k]?):RdR B b r w':=by
 obtain ⟨a,c,h1,h2⟩:=h;exact ⟨a,c,dS h1 (hk b (Nat.le_refl _)),h2.keep (λ k hk2 _=>hk k oM) hs⟩
structure RdH (w w4:World) (B b bk bk2:Nat) (ha:Option Addr) (hc:Nat) (kd cnt:Nat):Prop where
 b2:Blk w4 bk2 79 nil3
 hd:Sl (λ k=>b<k∧k<bk) w4 1 ha 2 hc (bB [kd,cnt])
 g:Grow w w4
theorem RdH.go {w w4 w5:World} {B b bk bk2:Nat} {ha:Option Addr} {hc kd cnt:Nat} (h:RdH w w4 B b bk bk2 ha hc kd cnt) (hs:w4.heap.size≤w5.heap.size) (hg:Grow w w5) (hbb:bk2<b) (hk:∀ k,k<bk→k≠b→w5.heap[k]? = w4.heap[k]?) (hbk:b<bk):RdH w w5 B b bk bk2 ha hc kd cnt :=
 ⟨dS h.b2 (hk bk2 oM oM),h.hd.keep (λ k hk2 _=>hk k hk2.2 oM) hs,hg⟩
theorem RdH.c0 {w w4:World} {B b bk bk2:Nat} {ha:Option Addr} {hc kd cnt:Nat} (h:RdH w w4 B b bk bk2 ha hc kd cnt):w4.cell? (at' ha 0)=some (.int .u8 (kd:Int)):=h.hd.row.cell rfl
theorem RdH.c1 {w w4:World} {B b bk bk2:Nat} {ha:Option Addr} {hc kd cnt:Nat} (h:RdH w w4 B b bk bk2 ha hc kd cnt):w4.cell? (at' ha 1)=some (.int .u8 (cnt:Int)):=h.hd.row.cell rfl
theorem bytesN_len {nd:Nd} (h:bF nd=true):(bN nd=true→dC nd=0::nd.items.length::nd.items.flatMap (λ x:Bs×Bs=>bS x.1++bS x.2))∧(bN nd=false→dC nd=1::nd.kids.length::(nd.kids.flatMap bP++nd.keys.flatMap bS)):=by
 refine ⟨λ hl=>?_,λ hl=>?_⟩
 ·unfold dC;rw [if_pos hl];rfl
 ·unfold dC;rw [if_neg (by rw [hl];simp)];simp
theorem rread_n (F:Nat→Prop) (a:Option Addr) (c:Nat) (nd:Nd) (z:Nat) (bs:Bs) (w:World) (hbs:bs=dC nd++List.replicate z 0) (hs:Sl F w 1 a bs.length c (bB bs)) (hl:bs.length≤100000) (hok:bF nd=true) :
  Calls Tryz.prog 167 #[.slice a bs.length c] w (Ret λ v w'=>∃ x:NV,v=.tuple #[x.val,.int .i64 0]∧NdAt (λ k=>w.heap.size≤k) w' x nd∧Grow w w'):=by
 have ok:=ndOk hok;obtain ⟨hbl,hbb⟩:=bytesN_len hok
 obtain ⟨kd,cnt,rest,hbs2,hkd,hcnt⟩:∃ kd cnt rest,bs=kd::cnt::rest∧kd≤1∧cnt≤8:=by
  cases hlf:bN nd with
  | true=>exact ⟨0,_,_,by rw [hbs,hbl hlf];rfl,oM,ok.n1⟩
  | false=>exact ⟨1,_,_,by rw [hbs,hbb hlf];rfl,oM,ok.n2⟩
 refine V.calls (args:=[_]) Tryz.func167 rfl Tryz.ntmps167 rfl rfl ?_;refine dV 5 (λ e w4=>∃ (B b bk bk2:Nat) (ha:Option Addr) (hc:Nat),Sub [(6,.pointer (some ⟨bk,0,none⟩)),(5,.slice ha 2 hc),(4,.pointer (some ⟨b,0,none⟩)),(2,.pointer (some ⟨bk2,0,none⟩))] e∧w.heap.size≤bk2∧bk2<b∧b<bk∧w4.heap.size=bk+1∧bk2<B∧Blk w4 bk 79 nil3∧RdR B b rest w4∧RdH w w4 B b bk bk2 ha hc kd cnt) ?_ ?_;rotate_left
 ·repeat (first|refine aF ?_|refine yI λ bk w' hg hbk hsz hsz'=>?_)
  obtain ⟨bk2,rfl⟩:=yE bk;obtain ⟨w0,rfl⟩:=yE w';refine aB 205 ?_;refine aA rfl (rread_c F a c bs _ (hs.grow hg) hl) rfl ?_;rintro _ w1 ⟨b,rfl,hb1,hr1,hg1⟩;have hb2:Blk w1 bk2 79 nil3:=Blk.grow hg1 hbk;have hgw:=hg.trans hg1;have z1:=hg1.size;have hrl:=hr1.lt;clear hbk hg hg1;repeat refine aF ?_
  refine aB 206 ?_;refine aA rfl (rtake_c hr1 2 (by rw [hbs2];simp) hl) rfl ?_;rintro _ w2 ⟨ha,hc,rfl,hh,hr2,hm2⟩;rw [hbs2] at hh hr2;simp only [List.take_succ_cons,List.take_zero,List.drop_succ_cons,List.drop_zero] at hh hr2;have z2:=hm2.size;have hb22:=cD (dO hm2) hb2 oM;have hgw2:=gR (dO hm2) oM hgw;have hc0:w2.cell? (at' ha 0)=some (.int .u8 (kd:Int)):=hh.row.cell rfl;have hc1:w2.cell? (at' ha 1)=some (.int .u8 (cnt:Int)):=hh.row.cell rfl;obtain ⟨ra,rc,hrb,_⟩:=id hr2;have hrl2:=hr2.lt;clear hb2 hm2;repeat (first|(refine aH ?_;first|refine aC (j:=0) rfl rfl rfl oM (Nat.mul_one _) ⟨_,_,hh⟩ rfl ?_|refine aC (j:=1) rfl rfl rfl oM (Nat.mul_one _) ⟨_,_,hh⟩ rfl ?_)|refine yC ?_|refine yI λ bk w' hg hbk hsz hsz'=>?_)
  exact ⟨w0.heap.size,b,bk,bk2,ha,hc,⟨rfl,rfl,rfl,rfl,trivial⟩,oM,oM,oM,oM,oM,hbk,hr2.grow hg,⟨hb22.grow hg,(hh.tight.grow hg).mono (λ k hk=>⟨by have:=hk.1;omega,by have:=hk.2;omega⟩),hgw2.trans hg⟩⟩
 rintro e w4 ⟨B,b,bk,bk2,ha,hc,hsub,q1,q2,q3,q4,q5,hbk4,hr4,hh4⟩;refine bD (e':=[(6,_),(5,_),(4,_),(2,_)]) ?_ hsub;clear hsub;refine dV 1 (λ e w5=>∃ (a1:Option Addr) (n1 c1:Nat) (a2:Option Addr) (n2 c2:Nat),Sub [(6,.pointer (some ⟨bk,0,none⟩)),(5,.slice ha 2 hc),(4,.pointer (some ⟨b,0,none⟩)),(2,.pointer (some ⟨bk2,0,none⟩))] e∧bk<w5.heap.size∧Blk w5 bk 79 [.slice a1 n1 c1,.slice a2 n2 c2,.slice none 0 0]∧ItsAt (λ k=>bk+1≤k) w5 a1 n1 c1 nd.items∧Sl (λ k=>bk+1≤k) w5 1 a2 n2 c2 (bC nd.kids)∧RdR B b (nd.keys.flatMap bS++List.replicate z 0) w5∧RdH w w5 B b bk bk2 ha hc kd cnt) ?_ ?_;rotate_left
 ·cases hlf:bN nd with
  | true =>
   have e1:=hbl hlf;rw [hbs2,e1] at hbs;simp only [List.cons_append,List.cons.injEq] at hbs;obtain ⟨rfl,rfl,rfl⟩:=hbs;have hk0:=bM.1 hlf
   have hks0:nd.keys=[]:=by
    have:=ok.n3;rw [hk0] at this;exact List.eq_nil_of_length_eq_zero this
   ·repeat refine aF ?_
    refine aX (S:=Value×Nat) (λ s=>[(7,.int .i64 (s.2:Int)),(6,.pointer (some ⟨bk,0,none⟩)),(5,.slice ha 2 hc),(4,.pointer (some ⟨b,0,none⟩)),(2,.pointer (some ⟨bk2,0,none⟩))])
     (λ s w1=>s.2≤nd.items.length∧∃ (cells:List Value),Blk w1 bk 79 [s.1,.slice none 0 0,.slice none 0 0]∧w1.ownsRow (bk+1) 58 2 s.1 s.2 cells∧ItCells (λ k=>bk+1≤k∧s.1.ownBlock≠some k) w1 cells (nd.items.take s.2)∧RdR B b ((nd.items.drop s.2).flatMap (λ x:Bs×Bs=>bS x.1++bS x.2)++List.replicate z 0) w1∧((nd.items.drop s.2).flatMap (λ x:Bs×Bs=>bS x.1++bS x.2)++List.replicate z 0).length≤100000∧RdH w w1 B b bk bk2 ha hc 0 nd.items.length)
     (λ s=>nd.items.length-s.2) (.slice none 0 0,0) ⟨rfl,rfl,rfl,rfl,rfl,trivial⟩ ⟨Nat.zero_le _,[],hbk4,lK,trivial,hr4,by rw [hbs2] at hl;simp only [List.length_cons] at hl;simp only [List.drop_zero];omega,hh4⟩ ?_
    clear hbk4 hr4 hh4;rintro ⟨v,i⟩ w1 ⟨hi,cells,hbk,hown,hcells,hrs,hlen,hh⟩;simp only at hi hbk hown hcells hrs hlen;refine bD (e':=[(7,.int .i64 (i:Int)),(6,.pointer (some ⟨bk,0,none⟩)),(5,.slice ha 2 hc),(4,.pointer (some ⟨b,0,none⟩)),(2,.pointer (some ⟨bk2,0,none⟩))]) ?_ ⟨rfl,rfl,rfl,rfl,rfl,trivial⟩;have hl1:=hbk.lt;have hc0:=hh.c0;have hc1:=hh.c1;by_cases hlt:i<nd.items.length;rotate_left
    ·obtain rfl:i=nd.items.length:=by omega
     repeat (first|(refine aH ?_;refine aC (j:=1) rfl rfl rfl oM (Nat.mul_one _) ⟨_,_,hh.hd⟩ rfl ?_)|refine yC ?_)
     obtain ⟨va,vc,rfl,hsl⟩:=aM hown;rw [List.take_length] at hcells;rw [List.drop_length] at hrs;exact ⟨va,_,vc,none,0,0,⟨rfl,rfl,rfl,rfl,trivial⟩,hl1,hbk,⟨cells,hsl.mono λ k hk=>hk.1,hcells.go (Carry.mono λ k hk _=>hk.1)⟩,by rw [hk0];exact Sl.nil_mk _ _ _,by rw [hks0];exact hrs,hh⟩
    obtain ⟨y,hy⟩:∃ y,nd.items[i]? = some y:=⟨_,List.getElem?_eq_getElem hlt⟩
    obtain ⟨y1,y2⟩:=ok.it i y hy;have hy1:=(eM y1).2;have hy2:=iD y2
    have hd:(nd.items.drop i).flatMap (λ x:Bs×Bs=>bS x.1++bS x.2)++List.replicate z 0=bS y.1++(bS y.2++((nd.items.drop (i+1)).flatMap (λ x:Bs×Bs=>bS x.1++bS x.2)++List.replicate z 0)):=by
     rw [gT hy];simp
    rw [hd] at hrs hlen;obtain ⟨rest,hrest⟩:∃ r,r=(nd.items.drop (i+1)).flatMap (λ x:Bs×Bs=>bS x.1++bS x.2)++List.replicate z 0:=⟨_,rfl⟩
    rw [← hrest] at hrs hlen;have hlen0:=hlen;have hlen1:(bS y.2++rest).length≤100000:=by rw [List.length_append] at hlen0;omega
    repeat (first|(refine aH ?_;first|refine aC (j:=0) rfl rfl rfl oM (Nat.mul_one _) ⟨_,_,hh.hd⟩ rfl ?_|refine aC (j:=1) rfl rfl rfl oM (Nat.mul_one _) ⟨_,_,hh.hd⟩ rfl ?_)|refine yC ?_)
    refine aB 207 ?_;refine aA rfl (rdblock_c hrs oM hlen0) rfl ?_;rintro _ w2 ⟨ka,kc,rfl,hks,hrs2,hm2⟩;have hbu2:=dO hm2;have hbk2':Blk w2 bk 79 [v,.slice none 0 0,.slice none 0 0]:=cD hbu2 hbk oM;have hs2:=hm2.size;repeat refine aF ?_
    apply nC (Mut b) 7 4 (λ w=>RdR B b (bS y.2++rest) w∧But b w2 w) (λ w=>RdR B b rest w∧But b w2 w) (λ w=>But b w2 w)
     [gZ _,gZ _,gZ _,gZ _,ofA (λ u w=>∃ a c,u=.slice a y.2.length c∧Sl (λ k=>w2.heap.size≤k) w 1 a y.2.length c (bB y.2)) (by rintro u w w' g ⟨a,c,h1,h2⟩;exact ⟨a,c,h1,h2.grow g⟩),
      ofA (λ u w=>∃ a c,u=.agg #[.slice ka y.1.length kc,.slice a y.2.length c]∧Sl (λ k=>w2.heap.size≤k) w 1 a y.2.length c (bB y.2)) (by rintro u w w' g ⟨a,c,h1,h2⟩;exact ⟨a,c,h1,h2.grow g⟩),
      ofA (λ u w=>∃ bb a c,u=.slice (some ⟨bb,0,none⟩) 1 1∧w2.heap.size≤bb∧Blk w bb 58 [.slice ka y.1.length kc,.slice a y.2.length c]∧Sl (λ k=>w2.heap.size≤k) w 1 a y.2.length c (bB y.2)) (by rintro u w w' g ⟨bb,a,c,h1,h0,h2,h3⟩;exact ⟨bb,a,c,h1,h0,h2.grow g,h3.grow g⟩)]
    ·kernel_rfl
    ·exact ⟨hrs2,But.refl _ _⟩
    ·exact λ _ h=>h.2
    ·exact λ _ h=>h.2
    ·exact λ _ h=>h.size
    ·exact λ _ _ h g=>⟨h.1.grow g,gE g h.2⟩
    ·exact λ _ _ h g=>⟨h.1.grow g,gE g h.2⟩
    ·exact λ _ _ h=>h.size
    ·repeat' (first|exact iN|refine gU ?_ ?_)
     iterate 4
      ·refine dA rfl rfl rfl rfl ?_;intro wq _ _ hiw;have hbq:=cD hiw hbk2' oM;(refine yU ?_)
       repeat refine aF ?_
       exact bQ rfl (Grow.refl _) rfl
     ·refine iM rfl rfl rfl rfl ?_;intro wq _ _ hiw;(refine yU ?_)
      refine aA rfl (rdblock_c hiw.1 oM hlen1) rfl ?_;rintro _ w5 ⟨va,vc,rfl,hvs,hrs5,hm5⟩;repeat refine aF ?_
      have:=hiw.2.size;exact bQ rfl ⟨hm5,hrs5,but_but (dO hm5) hiw.2⟩ ⟨va,vc,rfl,hvs.mono λ k hk=>by omega⟩
     ·refine dA rfl rfl rfl rfl ?_;intro wq _ _ hiw;(((repeat (refine needA_cons rfl rfl ?_;intro vq hvq;try (obtain rfl:=Eq.symm hvq)));(refine needA_nil ?_)))
      obtain ⟨va,vc,rfl,hvs⟩:=hvq;repeat refine aF ?_
      exact bQ rfl (Grow.refl _) ⟨va,vc,rfl,hvs⟩
     ·refine dA rfl rfl rfl rfl ?_;intro wq _ _ hiw;(((repeat (refine needA_cons rfl rfl ?_;intro vq hvq;try (obtain rfl:=Eq.symm hvq)));(refine needA_nil ?_)))
      obtain ⟨va,vc,rfl,hvs⟩:=hvq;have:=hiw.size;refine TL.buildSlice rfl rfl rfl rfl rfl ?_;intro bb w6 hg6 hb6 hs61 hs62 hs63;repeat refine aF ?_
      exact bQ rfl hg6 ⟨bb,va,vc,rfl,oM,hb6,hvs.grow hg6⟩
    ·rintro wT lo hi ⟨hrT,hbT⟩ _ _;(((repeat (refine needA_cons rfl rfl ?_;intro vq hvq;try (obtain rfl:=Eq.symm hvq)));(refine needA_nil ?_)))
     obtain ⟨bb,va,vc,rfl,hbb0,hbb,hvs⟩:=hvq;have hownT:=mN (mN hown hbu2 oM) hbT oM;have hbkT:=cD hbT hbk2' oM;have hsT:=hbT.size;refine eG rfl rfl hownT (aV (sz:=2) (m:=1) hbb rfl dM) (by simp [Value.oneCell']) (by unfold maxLen;omega) oM oM rfl ?_;intro v' w7 hown7 hgb7 hcar;have hbk7:=dD hgb7 (λ e=>by have:=aT hownT e;omega) hbkT;have hr7:RdR B b rest w7:=hrT.keep hgb7.size (λ k h1=>hgb7.block k (by have:=hrT.lt;omega) (λ e=>by have:=aT hownT e.symm;omega));have hg7:Grow w w7:=Grow.mk (aL hgb7 oM (λ k hk=>by have:=aT hownT hk;omega) (gR hbT oM (gR hbu2 oM hh.g)).1);have hc1':Carry (λ k=>bk+1≤k∧v.ownBlock≠some k) w2 (λ k=>bk+1≤k∧v'.ownBlock≠some k) w7:=(Carry.but hbT (λ k hk _=>by omega)).trans (hcar (λ k=>bk+1≤k));have hc2':Carry (λ k=>bk+1≤k∧v.ownBlock≠some k) wT (λ k=>bk+1≤k∧v'.ownBlock≠some k) w7:=hcar (λ k=>bk+1≤k);have hcellsA:=hcells.go ((Carry.but hbu2 (λ k hk _=>by omega)).trans hc1');have hkA:=hks.go ((Carry.mono (λ k hk _=>⟨oM,λ e=>by have:=aT hown e;omega⟩)).trans hc1');have hvA:=hvs.go ((Carry.mono (λ k hk _=>⟨oM,λ e=>by have:=aT hown e;omega⟩)).trans hc2');have hs7:=hgb7.size;have hh7:RdH w w7 B b bk bk2 ha hc 0 nd.items.length:=hh.go oM hg7 q2 (λ k h1 h2=>(hgb7.block k oM (λ e=>by have:=aT hownT e.symm;omega)).trans ((hbT.block k oM h2).trans (hbu2.block k oM h2))) q3;obtain ⟨va7,vc7,rfl,hsl7⟩:=aM hown7;clear hcar hc1' hc2' hbk hbk2' hbkT hrT hrs hrs2 hc0 hc1 hh;repeat (first|refine aF ?_|refine yJ λ w' hu hbk hsz=>?_)
     have hcu:Carry (λ k=>bk+1≤k∧(Value.slice va7 (i+1) vc7).ownBlock≠some k) w7 (λ k=>bk+1≤k∧(Value.slice va7 (i+1) vc7).ownBlock≠some k) w':=Carry.upd hu (λ k hk _=>by omega);have hz:=hu.size;refine aE (.slice va7 (i+1) vc7,i+1) ⟨rfl,rfl,rfl,rfl,rfl,trivial⟩ ⟨hlt,cells++[.slice ka y.1.length kc,.slice va y.2.length vc],hbk,gA hown7 hu oM,?_,?_,?_,hh7.go oM (aI hu oM hg7) q2 (λ k h1 h2=>hu.block k oM) q3⟩ (by simp only;omega)
     ·simp only;rw [eA hy];exact (hcellsA.append (show ItCells _ _ [_,_] [y] from ⟨⟨_,_,_,rfl,hkA⟩,⟨_,_,_,rfl,hvA⟩,trivial⟩)).go hcu
     ·simp only;rw [← hrest];exact hr7.keep oM (λ k h1=>hu.block k oM)
     ·simp only;rw [← hrest];rw [List.length_append] at hlen1;omega
  | false =>
   have e1:=hbb hlf;rw [hbs2,e1] at hbs;simp only [List.cons_append,List.cons.injEq] at hbs;obtain ⟨rfl,rfl,rfl⟩:=hbs;have hn2:nd.kids≠[]:=λ e=>by rw [bM.2 e] at hlf;cases hlf
   have hi0:nd.items=[]:=by
    have h1:=ok.no;have h2:0<nd.kids.length:=List.length_pos_iff.2 hn2;exact List.eq_nil_of_length_eq_zero (h1 h2)
   ·repeat refine aF ?_
    refine aX (S:=Value×Nat) (λ s=>[(7,.int .i64 (s.2:Int)),(6,.pointer (some ⟨bk,0,none⟩)),(5,.slice ha 2 hc),(4,.pointer (some ⟨b,0,none⟩)),(2,.pointer (some ⟨bk2,0,none⟩))])
     (λ s w1=>s.2≤nd.kids.length∧Blk w1 bk 79 [.slice none 0 0,s.1,.slice none 0 0]∧w1.ownsRow (bk+1) 3 1 s.1 s.2 (bC (nd.kids.take s.2))∧RdR B b (((nd.kids.drop s.2).flatMap bP)++(nd.keys.flatMap bS++List.replicate z 0)) w1∧(((nd.kids.drop s.2).flatMap bP)++(nd.keys.flatMap bS++List.replicate z 0)).length≤100000∧RdH w w1 B b bk bk2 ha hc 1 nd.kids.length)
     (λ s=>nd.kids.length-s.2) (.slice none 0 0,0) ⟨rfl,rfl,rfl,rfl,rfl,trivial⟩ ⟨Nat.zero_le _,hbk4,lK,by simpa using hr4,by rw [hbs2] at hl;simp only [List.length_cons] at hl;simp only [List.drop_zero];simp only [List.append_assoc] at hl;omega,hh4⟩ ?_
    clear hbk4 hr4 hh4;rintro ⟨v,i⟩ w1 ⟨hi,hbk,hown,hrs,hlen,hh⟩;simp only at hi hbk hown hrs hlen;refine bD (e':=[(7,.int .i64 (i:Int)),(6,.pointer (some ⟨bk,0,none⟩)),(5,.slice ha 2 hc),(4,.pointer (some ⟨b,0,none⟩)),(2,.pointer (some ⟨bk2,0,none⟩))]) ?_ ⟨rfl,rfl,rfl,rfl,rfl,trivial⟩;have hl1:=hbk.lt;have hc0:=hh.c0;have hc1:=hh.c1;by_cases hlt:i<nd.kids.length;rotate_left
    ·obtain rfl:i=nd.kids.length:=by omega
     repeat (first|(refine aH ?_;refine aC (j:=1) rfl rfl rfl oM (Nat.mul_one _) ⟨_,_,hh.hd⟩ rfl ?_)|refine yC ?_)
     obtain ⟨va,vc,rfl,hsl⟩:=aM hown;rw [List.take_length] at hsl;rw [List.drop_length] at hrs;exact ⟨none,0,0,va,_,vc,⟨rfl,rfl,rfl,rfl,trivial⟩,hl1,hbk,by rw [hi0];exact ⟨[],Sl.nil_mk _ _ _,trivial⟩,hsl.mono λ k hk=>hk.1,hrs,hh⟩
    obtain ⟨y,hy⟩:∃ y,nd.kids[i]? = some y:=⟨_,List.getElem?_eq_getElem hlt⟩
    have hy4:=ok.kd i y hy
    have hd:(nd.kids.drop i).flatMap bP++(nd.keys.flatMap bS++List.replicate z 0)=bP y++((nd.kids.drop (i+1)).flatMap bP++(nd.keys.flatMap bS++List.replicate z 0)):=by
     rw [gT hy];simp
    rw [hd] at hrs hlen;obtain ⟨rest,hrest⟩:∃ r,r=(nd.kids.drop (i+1)).flatMap bP++(nd.keys.flatMap bS++List.replicate z 0):=⟨_,rfl⟩
    rw [← hrest] at hrs hlen;have hlen1:rest.length≤100000:=by rw [List.length_append] at hlen;omega
    repeat (first|(refine aH ?_;first|refine aC (j:=0) rfl rfl rfl oM (Nat.mul_one _) ⟨_,_,hh.hd⟩ rfl ?_|refine aC (j:=1) rfl rfl rfl oM (Nat.mul_one _) ⟨_,_,hh.hd⟩ rfl ?_)|refine yC ?_)
    apply nC (Mut b) 6 3 (λ w=>RdR B b (bP y++rest) w∧But b w1 w) (λ w=>RdR B b rest w∧But b w1 w) (λ w=>But b w1 w)
     [gZ _,gZ _,gZ _,gZ (.int .u64 (y:Int)),gZ (.int .i64 (y:Int)),
      ofA (λ u w=>∃ bb,u=.slice (some ⟨bb,0,none⟩) 1 1∧w1.heap.size≤bb∧Blk w bb 3 [.int .i64 (y:Int)]) (by rintro u w w' g ⟨bb,h1,h0,h2⟩;exact ⟨bb,h1,h0,h2.grow g⟩)]
    ·kernel_rfl
    ·exact ⟨hrs,But.refl _ _⟩
    ·exact λ _ h=>h.2
    ·exact λ _ h=>h.2
    ·exact λ _ h=>h.size
    ·exact λ _ _ h g=>⟨h.1.grow g,gE g h.2⟩
    ·exact λ _ _ h g=>⟨h.1.grow g,gE g h.2⟩
    ·exact λ _ _ h=>h.size
    ·repeat' (first|exact iN|refine gU ?_ ?_)
     iterate 3
      ·refine dA rfl rfl rfl rfl ?_;intro wq _ _ hiw;have hbq:=cD hiw hbk oM;(refine yU ?_)
       repeat refine aF ?_
       exact bQ rfl (Grow.refl _) rfl
     ·refine iM rfl rfl rfl rfl ?_;intro wq _ _ hiw;(refine yU ?_)
      refine aA rfl (rdword_c hiw.1 oM hlen) rfl ?_;rintro _ w5 ⟨rfl,hrs5,hm5⟩;repeat refine aF ?_
      exact bQ rfl ⟨hm5,hrs5,but_but (dO hm5) hiw.2⟩ rfl
     ·refine dA rfl rfl rfl rfl ?_;intro wq _ _ hiw;(refine yU ?_)
      repeat refine aF ?_
      exact bQ rfl (Grow.refl _) rfl
     ·refine dA rfl rfl rfl rfl ?_;intro wq _ _ hiw;(refine yU ?_)
      have:=hiw.size;refine TL.buildSlice rfl rfl rfl rfl rfl ?_;intro bb w6 hg6 hb6 hs61 hs62 hs63;repeat refine aF ?_
      exact bQ rfl hg6 ⟨bb,rfl,oM,hb6⟩
    ·rintro wT lo hi ⟨hrT,hbT⟩ _ _;(((repeat (refine needA_cons rfl rfl ?_;intro vq hvq;try (obtain rfl:=Eq.symm hvq)));(refine needA_nil ?_)))
     obtain ⟨bb,rfl,hbb0,hbb⟩:=hvq;have hownT:=mN hown hbT oM;have hbkT:=cD hbT hbk oM;have hsT:=hbT.size;refine eG rfl rfl hownT (aV (sz:=1) (m:=1) hbb rfl dM) (by simp [Value.oneCell']) (by unfold maxLen;omega) oM oM rfl ?_;intro v' w7 hown7 hgb7 hcar;have hbk7:=dD hgb7 (λ e=>by have:=aT hownT e;omega) hbkT;have hr7:RdR B b rest w7:=hrT.keep hgb7.size (λ k h1=>hgb7.block k (by have:=hrT.lt;omega) (λ e=>by have:=aT hownT e.symm;omega));have hg7:Grow w w7:=Grow.mk (aL hgb7 oM (λ k hk=>by have:=aT hownT hk;omega) (gR hbT oM hh.g).1);have hs7:=hgb7.size;have hh7:RdH w w7 B b bk bk2 ha hc 1 nd.kids.length:=hh.go oM hg7 q2 (λ k h1 h2=>(hgb7.block k oM (λ e=>by have:=aT hownT e.symm;omega)).trans (hbT.block k oM h2)) q3;obtain ⟨va7,vc7,rfl,hsl7⟩:=aM hown7;clear hcar hbk hbkT hrT hrs hc0 hc1 hh;repeat (first|refine aF ?_|refine yJ λ w' hu hbk hsz=>?_)
     have hz:=hu.size;refine aE (.slice va7 (i+1) vc7,i+1) ⟨rfl,rfl,rfl,rfl,rfl,trivial⟩ ⟨hlt,hbk,?_,?_,?_,hh7.go oM (aI hu oM hg7) q2 (λ k h1 h2=>hu.block k oM) q3⟩ (by simp only;omega)
     ·simp only;rw [eA hy];have:=gA hown7 hu oM;simpa [bC] using this
     ·simp only;rw [← hrest];exact hr7.keep oM (λ k h1=>hu.block k oM)
     ·simp only;rw [← hrest];exact hlen1
 rintro e w5 ⟨a1,n1,c1,a2,n2,c2,hsub,z5,hbk5,hits5,hkds5,hr5,hh5⟩;refine bD (e':=[(6,_),(5,_),(4,_),(2,_)]) ?_ hsub;clear hsub hbk4 hr4 hh4;have hn2:=bR hkds5;have o5:=ok.n3;have o2:=ok.n2;have hn1:=hits5.len;have o1:=ok.n1
 have hkl:(nd.keys.flatMap bS++List.replicate z 0).length≤100000:=by
  cases hlf:bN nd with
  | true =>
   have hk0:=bM.1 hlf
   have hks0:nd.keys=[]:=by
    rw [hk0] at o5;exact List.eq_nil_of_length_eq_zero o5
   have e1:=hbl hlf;rw [hbs,e1] at hl;rw [hks0];simp only [List.length_append,List.length_cons,List.flatMap_nil,List.length_nil] at hl ⊢;omega
  | false =>
   have e1:=hbb hlf;rw [hbs,e1] at hl;simp only [List.length_append,List.length_cons] at hl ⊢;omega
 refine dV 1 (λ e w6=>∃ (a3:Option Addr) (n3 c3:Nat),Sub [(6,.pointer (some ⟨bk,0,none⟩)),(5,.slice ha 2 hc),(4,.pointer (some ⟨b,0,none⟩)),(2,.pointer (some ⟨bk2,0,none⟩))] e∧bk<w6.heap.size∧Blk w6 bk 79 [.slice a1 n1 c1,.slice a2 n2 c2,.slice a3 n3 c3]∧NdAt (λ k=>bk+1≤k) w6 ⟨a1,n1,c1,a2,n2,c2,a3,n3,c3⟩ nd∧RdR B b (List.replicate z 0) w6∧RdH w w6 B b bk bk2 ha hc kd cnt) ?_ ?_;rotate_left
 ·repeat refine aF ?_
  obtain ⟨H,hH⟩:∃ H,w5.heap.size=H:=⟨_,rfl⟩
  have hbH:bk+1≤H:=by omega
  have hits:ItsAt (λ k=>bk+1≤k∧k<H) w5 a1 n1 c1 nd.items:=hits5.go (Carry.mono λ k hk hl2=>⟨hk,oM⟩);have hkds:Sl (λ k=>bk+1≤k∧k<H) w5 1 a2 n2 c2 (bC nd.kids):=hkds5.tight.mono (λ k hk=>⟨hk.1,oM⟩)
  refine aX (S:=Value×Nat) (λ s=>[(9,.int .i64 ((s.2+1:Nat):Int)),(6,.pointer (some ⟨bk,0,none⟩)),(5,.slice ha 2 hc),(4,.pointer (some ⟨b,0,none⟩)),(2,.pointer (some ⟨bk2,0,none⟩))])
   (λ s w1=>s.2≤nd.keys.length∧H≤w1.heap.size∧∃ (cells:List Value),Blk w1 bk 79 [.slice a1 n1 c1,.slice a2 n2 c2,s.1]∧ItsAt (λ k=>bk+1≤k∧k<H) w1 a1 n1 c1 nd.items∧Sl (λ k=>bk+1≤k∧k<H) w1 1 a2 n2 c2 (bC nd.kids)∧w1.ownsRow H 30 1 s.1 s.2 cells∧KyCells (λ k=>H≤k∧s.1.ownBlock≠some k) w1 cells (nd.keys.take s.2)∧RdR B b ((nd.keys.drop s.2).flatMap bS++List.replicate z 0) w1∧((nd.keys.drop s.2).flatMap bS++List.replicate z 0).length≤100000∧RdH w w1 B b bk bk2 ha hc kd cnt)
   (λ s=>nd.keys.length-s.2) (.slice none 0 0,0) ⟨rfl,rfl,rfl,rfl,rfl,trivial⟩ ⟨Nat.zero_le _,oM,[],hbk5,hits,hkds,lK,trivial,hr5,hkl,hh5⟩ ?_
  clear hbk5 hr5 hh5 hits hkds hits5 hkds5 z5 hH;rintro ⟨v,i⟩ w1 ⟨hi,hHw,cells,hbk,hits,hkds,hown,hcells,hrs,hlen,hh⟩;simp only at hi hbk hown hcells hrs hlen;refine bD (e':=[(9,.int .i64 ((i+1:Nat):Int)),(6,.pointer (some ⟨bk,0,none⟩)),(5,.slice ha 2 hc),(4,.pointer (some ⟨b,0,none⟩)),(2,.pointer (some ⟨bk2,0,none⟩))]) ?_ ⟨rfl,rfl,rfl,rfl,rfl,trivial⟩;have hl1:=hbk.lt;by_cases hlt:i<nd.keys.length;rotate_left
  ·obtain rfl:i=nd.keys.length:=by omega
   repeat refine aF ?_
   obtain ⟨va,vc,rfl,hsl⟩:=aM hown;rw [List.take_length] at hcells;rw [List.drop_length] at hrs;exact ⟨va,_,vc,⟨rfl,rfl,rfl,rfl,trivial⟩,hl1,hbk,⟨hits.go (Carry.mono λ k hk _=>hk.1),hkds.mono λ k hk=>hk.1,⟨cells,hsl.mono λ k hk=>by have:=hk.1;omega,hcells.go (Carry.mono λ k hk _=>by have:=hk.1;omega)⟩⟩,hrs,hh⟩
  obtain ⟨y,hy⟩:∃ y,nd.keys[i]? = some y:=⟨_,List.getElem?_eq_getElem hlt⟩
  have hy1:=(eM (ok.ky i y hy)).2
  have hd:(nd.keys.drop i).flatMap bS++List.replicate z 0=bS y++((nd.keys.drop (i+1)).flatMap bS++List.replicate z 0):=by
   rw [gT hy];simp
  rw [hd] at hrs hlen;obtain ⟨rest2,hrest⟩:∃ r,r=(nd.keys.drop (i+1)).flatMap bS++List.replicate z 0:=⟨_,rfl⟩
  rw [← hrest] at hrs hlen;have hlen1:rest2.length≤100000:=by rw [List.length_append] at hlen;omega
  repeat refine aF ?_
  apply nC (Mut b) 5 3 (λ w=>RdR B b (bS y++rest2) w∧But b w1 w) (λ w=>RdR B b rest2 w∧But b w1 w) (λ w=>But b w1 w)
   [gZ _,gZ _,gZ _,ofA (λ u w=>∃ a c,u=.slice a y.length c∧Sl (λ k=>w1.heap.size≤k) w 1 a y.length c (bB y)) (by rintro u w w' g ⟨a,c,h1,h2⟩;exact ⟨a,c,h1,h2.grow g⟩),
    ofA (λ u w=>∃ bb a c,u=.slice (some ⟨bb,0,none⟩) 1 1∧w1.heap.size≤bb∧Blk w bb 30 [.slice a y.length c]∧Sl (λ k=>w1.heap.size≤k) w 1 a y.length c (bB y)) (by rintro u w w' g ⟨bb,a,c,h1,h0,h2,h3⟩;exact ⟨bb,a,c,h1,h0,h2.grow g,h3.grow g⟩)]
  ·kernel_rfl
  ·exact ⟨hrs,But.refl _ _⟩
  ·exact λ _ h=>h.2
  ·exact λ _ h=>h.2
  ·exact λ _ h=>h.size
  ·exact λ _ _ h g=>⟨h.1.grow g,gE g h.2⟩
  ·exact λ _ _ h g=>⟨h.1.grow g,gE g h.2⟩
  ·exact λ _ _ h=>h.size
  ·repeat' (first|exact iN|refine gU ?_ ?_)
   iterate 3
    ·refine dA rfl rfl rfl rfl ?_;intro wq _ _ hiw;have hbq:=cD hiw hbk oM;(refine yU ?_)
     repeat refine aF ?_
     exact bQ rfl (Grow.refl _) rfl
   ·refine iM rfl rfl rfl rfl ?_;intro wq _ _ hiw;(refine yU ?_)
    refine aA rfl (rdblock_c hiw.1 oM hlen) rfl ?_;rintro _ w5 ⟨va,vc,rfl,hvs,hrs5,hm5⟩;repeat refine aF ?_
    have:=hiw.2.size;exact bQ rfl ⟨hm5,hrs5,but_but (dO hm5) hiw.2⟩ ⟨va,vc,rfl,hvs.mono λ k hk=>by omega⟩
   ·refine dA rfl rfl rfl rfl ?_;intro wq _ _ hiw;(((repeat (refine needA_cons rfl rfl ?_;intro vq hvq;try (obtain rfl:=Eq.symm hvq)));(refine needA_nil ?_)))
    obtain ⟨va,vc,rfl,hvs⟩:=hvq;have:=hiw.size;refine TL.buildSlice rfl rfl rfl rfl rfl ?_;intro bb w6 hg6 hb6 hs61 hs62 hs63;repeat refine aF ?_
    exact bQ rfl hg6 ⟨bb,va,vc,rfl,oM,hb6,hvs.grow hg6⟩
  ·rintro wT lo hi ⟨hrT,hbT⟩ _ _;(((repeat (refine needA_cons rfl rfl ?_;intro vq hvq;try (obtain rfl:=Eq.symm hvq)));(refine needA_nil ?_)))
   obtain ⟨bb,va,vc,rfl,hbb0,hbb,hvs⟩:=hvq;have hownT:=mN hown hbT oM;have hbkT:=cD hbT hbk oM;have hsT:=hbT.size;refine eG rfl rfl hownT (aV (sz:=1) (m:=1) hbb rfl dM) (by simp [Value.oneCell']) (by unfold maxLen;omega) oM oM rfl ?_;intro v' w7 hown7 hgb7 hcar;have hbk7:=dD hgb7 (λ e=>by have:=aT hownT e;omega) hbkT;have hr7:RdR B b rest2 w7:=hrT.keep hgb7.size (λ k h1=>hgb7.block k (by have:=hrT.lt;omega) (λ e=>by have:=aT hownT e.symm;omega));have hg7:Grow w w7:=Grow.mk (aL hgb7 oM (λ k hk=>by have:=aT hownT hk;omega) (gR hbT oM hh.g).1);have hc2':Carry (λ k=>H≤k∧v.ownBlock≠some k) wT (λ k=>H≤k∧v'.ownBlock≠some k) w7:=hcar (λ k=>H≤k);have hcellsA:=hcells.go ((Carry.but hbT (λ k hk _=>by omega)).trans hc2');have hvA:=hvs.go ((Carry.mono (λ k hk _=>⟨oM,λ e=>by have:=aT hown e;omega⟩)).trans hc2');have hs7:=hgb7.size;have keepH:∀ k,k<w1.heap.size→k<H→k≠b→w7.heap[k]? = w1.heap[k]?:=λ k h0 h1 h2=>(hgb7.block k oM (λ e=>by have:=aT hownT e.symm;omega)).trans (hbT.block k oM h2);have hh7:RdH w w7 B b bk bk2 ha hc kd cnt:=hh.go oM hg7 q2 (λ k h1 h2=>keepH k oM oM h2) q3;have cH:Carry (λ k=>bk+1≤k∧k<H) w1 (λ k=>bk+1≤k∧k<H) w7:=⟨oM,λ k hk hl2=>⟨hk,keepH k hl2 hk.2 oM⟩⟩
   have hits7:=hits.go cH;have hkds7:=hkds.go cH;obtain ⟨va7,vc7,rfl,hsl7⟩:=aM hown7;clear hcar hc2' hbk hbkT hrT hrs hh hits hkds cH keepH;repeat (first|refine aF ?_|refine yJ λ w' hu hbk hsz=>?_)
   have hcu:Carry (λ k=>H≤k∧(Value.slice va7 (i+1) vc7).ownBlock≠some k) w7 (λ k=>H≤k∧(Value.slice va7 (i+1) vc7).ownBlock≠some k) w':=Carry.upd hu (λ k hk _=>by omega);have cu:Carry (λ k=>bk+1≤k∧k<H) w7 (λ k=>bk+1≤k∧k<H) w':=Carry.upd hu (λ k hk _=>by omega);have hz:=hu.size;refine aE (.slice va7 (i+1) vc7,i+1) ⟨rfl,rfl,rfl,rfl,rfl,trivial⟩ ⟨hlt,oM,cells++[.slice va y.length vc],hbk,hits7.go cu,hkds7.go cu,gA hown7 hu oM,?_,?_,?_,hh7.go oM (aI hu oM hg7) q2 (λ k h1 h2=>hu.block k oM) q3⟩ (by simp only;omega)
   ·simp only;rw [eA hy];exact (hcellsA.append (show KyCells _ _ [_] [y] from ⟨⟨_,_,_,rfl,hvA⟩,trivial⟩)).go hcu
   ·simp only;rw [← hrest];exact hr7.keep oM (λ k h1=>hu.block k oM)
   ·simp only;rw [← hrest];exact hlen1
 rintro e w6 ⟨a3,n3,c3,hsub,z6,hbk6,hnd6,hr6,hh6⟩;refine bD (e':=[(6,_),(5,_),(4,_),(2,_)]) ?_ hsub;clear hsub hbk5 hits5 hkds5 hr5 hh5 z5;have hc0:=hh6.c0;have hg6:=hh6.g;have hb26:=hh6.b2;obtain ⟨ra,rc,hrb,hrsl⟩:=id hr6;have hrl:=hr6.lt;have hzl:(List.replicate z 0:Bs).length=z:=List.length_replicate;rw [hzl] at hrb hrsl
 have hzz:z≤100000:=by
  rw [List.length_append,hzl] at hkl;omega
 refine dV 1 (λ e w7=>Sub [(6,.pointer (some ⟨bk,0,none⟩)),(5,.slice ha 2 hc),(4,.pointer (some ⟨b,0,none⟩)),(2,.pointer (some ⟨bk2,0,none⟩))] e∧Grow w6 w7) ?_ ?_;rotate_left
 ·cases hlf:bN nd with
  | true =>
   have hk0:kd=0:=by
    have e1:=hbl hlf;rw [hbs,e1] at hbs2;simp only [List.cons_append,List.cons.injEq] at hbs2;exact hbs2.1.symm
   subst hk0;repeat (first|(refine aB 164 ?_;refine aA rfl (rcheck_c _ ⟨a1,n1,c1,a2,n2,c2,a3,n3,c3⟩ nd _ hnd6 hok) rfl ?_;rintro _ _ ⟨rfl,hgc⟩)|(refine aH ?_;refine aC (j:=0) rfl rfl rfl oM (Nat.mul_one _) ⟨_,_,hh6.hd.grow (by assumption)⟩ rfl ?_)|(refine aO ?_;refine aQ rfl ((hh6.hd.grow (by assumption)).row.cell (show (bB [0,cnt])[0]? = some (.int .u8 0) from rfl)) rfl ?_)|refine yC ?_)
   exact ⟨⟨rfl,rfl,rfl,rfl,trivial⟩,by assumption⟩
  | false =>
   have hk1:kd=1:=by
    have e1:=hbb hlf;rw [hbs,e1] at hbs2;simp only [List.cons_append,List.cons.injEq] at hbs2;exact hbs2.1.symm
   subst hk1
   have hn20:n2≠0:=by
    rw [hn2];intro e;rw [bM.2 (List.eq_nil_of_length_eq_zero e)] at hlf;cases hlf
   repeat (first|(refine aB 164 ?_;refine aA rfl (rcheck_c _ ⟨a1,n1,c1,a2,n2,c2,a3,n3,c3⟩ nd _ hnd6 hok) rfl ?_;rintro _ _ ⟨rfl,hgc⟩)|(refine aH ?_;refine aC (j:=0) rfl rfl rfl oM (Nat.mul_one _) ⟨_,_,hh6.hd.grow (by assumption)⟩ rfl ?_)|(refine aO ?_;refine aQ rfl ((hh6.hd.grow (by assumption)).row.cell (show (bB [1,cnt])[0]? = some (.int .u8 1) from rfl)) rfl ?_)|refine yC ?_)
   exact ⟨⟨rfl,rfl,rfl,rfl,trivial⟩,by assumption⟩
 rintro e w7 ⟨hsub,hg7⟩;refine bD (e':=[(6,_),(5,_),(4,_),(2,_)]) ?_ hsub;clear hsub;have hbk7:=hbk6.grow hg7;have hb27:=hb26.grow hg7;have hrb7:=hrb.grow hg7;have hrsl7:=hrsl.grow hg7;have hnd7:=hnd6.go (Carry.grow hg7);have hgw7:=hg6.trans hg7;have z7:=hg7.size;clear hbk6 hb26 hrb hrsl hnd6 hg6 hg7 hr6 hh6;repeat refine aF ?_
 refine aX (S:=Nat) (λ i=>[(10,.int .i64 (i:Int)),(6,.pointer (some ⟨bk,0,none⟩)),(4,.pointer (some ⟨b,0,none⟩)),(2,.pointer (some ⟨bk2,0,none⟩))]) (λ i w'=>i≤z∧w7=w') (λ i=>z-i) 0 ⟨rfl,rfl,rfl,rfl,trivial⟩ ⟨Nat.zero_le _,rfl⟩ ?_;rintro i _ ⟨hi,rfl⟩;by_cases hlt:i<z
 ·have hcx:w7.cell? (at' ra i)=some (.int .u8 0):=hrsl7.row.cell (by
   have:(List.replicate z 0:Bs)[i]? = some 0:=by simp [hlt]
   exact bys_at this)
  repeat (first|(refine aH ?_;refine aC (j:=i) rfl rfl rfl hlt (Nat.mul_one _) ⟨_,_,hrsl7⟩ rfl ?_)|refine yC ?_)
  exact aE (i+1) ⟨rfl,rfl,rfl,rfl,trivial⟩ ⟨hlt,rfl⟩ oM
 obtain rfl:i=z:=by omega
 repeat (first|refine aF ?_|refine yJ λ w' hu hbk hsz=>?_)
 refine fN rfl (aW hbk rfl) rfl ⟨_,rfl,⟨a1,n1,c1,a2,n2,c2,a3,n3,c3⟩,rfl,(hnd7.go (Carry.upd hu (λ k hk _=>by omega))).go (Carry.mono λ k hk _=>by omega),aI hu oM hgw7⟩
theorem lM {p:Bs} (h:p.length<128):(bS p).length=p.length+1:=by rw [blkB_small h];rfl
theorem its_len_le {l:bT} (h:∀ (i:Nat) (y:Bs×Bs),l[i]? = some y→eF y.1=true∧fC y.2=true):∀ i,((l.take i).flatMap λ x:Bs×Bs=>bS x.1++bS x.2).length≤50*i
 | 0=>by simp
 | i+1=>by
  have ih:=its_len_le h i
  cases hy:l[i]? with
  | none=>rw [List.take_of_length_le (by have:=List.getElem?_eq_none_iff.1 hy;omega)];rw [List.take_of_length_le (by have:=List.getElem?_eq_none_iff.1 hy;omega)] at ih;omega
  | some y =>
   obtain ⟨h1,h2⟩:=h i y hy;have h3:=(eM h1).2;have h4:=iD h2;rw [eA hy,List.flatMap_append,List.length_append];simp only [List.flatMap_cons,List.flatMap_nil,List.append_nil,List.length_append];rw [lM oM,lM oM];omega
theorem kys_len_le {l:List Bs} (h:∀ (i:Nat) (y:Bs),l[i]? = some y→eF y=true):∀ i,((l.take i).flatMap bS).length≤50*i
 | 0=>by simp
 | i+1=>by
  have ih:=kys_len_le h i
  cases hy:l[i]? with
  | none=>rw [List.take_of_length_le (by have:=List.getElem?_eq_none_iff.1 hy;omega)];rw [List.take_of_length_le (by have:=List.getElem?_eq_none_iff.1 hy;omega)] at ih;omega
  | some y =>
   have h3:=(eM (h i y hy)).2;rw [eA hy,List.flatMap_append,List.length_append];simp only [List.flatMap_cons,List.flatMap_nil,List.append_nil];rw [lM oM];omega
theorem kds_len (l:List Nat) (i:Nat):((l.take i).flatMap bP).length=4*(l.take i).length:=by
 generalize l.take i=m
 induction m with
 | nil=>rfl
 | cons a r ih=>simp only [List.flatMap_cons,List.length_append,List.length_cons,ih,lL];omega
theorem rbytesN_c (F:Nat→Prop) (x:NV) (nd:Nd) (w:World) (h:NdAt F w x nd) (hok:bF nd=true) :
  Calls Tryz.prog 165 #[x.val] w (Ret λ v w'=>∃ u,v=.tuple #[u,.int .i64 0]∧w'.ownsRow w.heap.size 5 1 u (dC nd).length (bB (dC nd))∧Grow w w'):=by
 have ok:=ndOk hok;obtain ⟨hbl,hbb⟩:=bytesN_len hok;have hn1:=h.its.len;have hn2:=bR h.kids;have hn3:=h.kys.len;obtain ⟨cs,hs,hcell⟩:=h.its.at';obtain ⟨ds,hs3,hcell3⟩:=h.kys.at';have hs2:=h.kids;have hchk:=λ w' (g:Grow w w')=>rcheck_c F x nd w' (h.go (Carry.grow g)) hok;obtain ⟨a1,n1,c1,a2,n2,c2,a3,n3,c3⟩:=x;simp only at hn1 hn2 hn3 hs hs3 hs2 hcell hcell3;show Calls Tryz.prog 165 #[.agg #[.slice a1 n1 c1,.slice a2 n2 c2,.slice a3 n3 c3]] w _;replace hchk:∀ w',Grow w w'→Calls Tryz.prog 164 #[.agg #[.slice a1 n1 c1,.slice a2 n2 c2,.slice a3 n3 c3]] w' (Ret λ v w''=>v=.int .i64 0∧Grow w' w''):=hchk;have o1:=ok.n1;have o2:=ok.n2;have o5:=ok.n3;rw [← hn1] at o1;rw [← hn2] at o2 o5;rw [← hn3] at o5;refine V.calls (args:=[_]) Tryz.func165 rfl Tryz.ntmps165 rfl rfl ?_
 cases hlf:bN nd with
 | true =>
  have h20:n2=0:=by rw [hn2,bM.1 hlf];rfl
  rw [hbl hlf];rw [← hn1];repeat (first|(refine aB 164 ?_;refine aA rfl (hchk _ yG) rfl ?_;rintro _ _ ⟨rfl,hgc⟩)|(refine aB 114 ?_;refine aA rfl (rleaf_c ⟨a1,n1,c1,a2,n2,c2,a3,n3,c3⟩ true _ (by simp only;rw [h20];rfl)) rfl ?_;rintro _ _ ⟨rfl,hgc⟩)|refine yC ?_|refine yI λ bk w' hg hbk hsz hsz'=>?_)
  rename_i wz;have hbk0:Blk wz bk 79 [.slice a1 n1 c1,.slice a2 n2 c2,.slice a3 n3 c3]:=by exact yB
  have hgw:Grow w wz:=by exact yG
  have z0:=hgw.size;refine TL.buildSlice rfl rfl rfl rfl rfl ?_;intro b w3 hg3 hb3 e3 e4 e5;have hown3:w3.ownsRow w.heap.size 5 1 (.slice (some ⟨b,0,none⟩) 2 2) 2 (bB [0,n1]):=own_lit hb3 oM rfl dM;have hgw3:=hgw.trans hg3;have hbk3:=hbk0.grow hg3;clear hgc hbk hbk0 hg3 hb3 hgw;repeat refine aF ?_
  refine aX (S:=Value×Nat) (λ s=>[(5,.int .i64 (s.2:Int)),(4,s.1),(1,.pointer (some ⟨bk,0,none⟩))]) (λ s w2=>s.2≤n1∧w2.ownsRow w.heap.size 5 1 s.1 (0::n1::(nd.items.take s.2).flatMap λ x:Bs×Bs=>bS x.1++bS x.2).length (bB (0::n1::(nd.items.take s.2).flatMap λ x:Bs×Bs=>bS x.1++bS x.2))∧Blk w2 bk 79 [.slice a1 n1 c1,.slice a2 n2 c2,.slice a3 n3 c3]∧Grow w w2) (λ s=>n1-s.2) (.slice (some ⟨b,0,none⟩) 2 2,0) ⟨rfl,rfl,rfl,trivial⟩ ⟨Nat.zero_le _,hown3,hbk3,hgw3⟩ ?_;clear hown3 hbk3 hgw3;rintro ⟨u,i⟩ w2 ⟨hi,hown,hbk2,hg2⟩;simp only at hi hown;have hlen:=its_len_le ok.it i;have z2:=hg2.size;have hbl2:=hbk2.lt;by_cases hlt:i<n1;rotate_left
  ·obtain rfl:i=n1:=by omega
   rw [List.take_of_length_le oM] at hown;repeat refine aF ?_
   exact fM rfl rfl ⟨_,rfl,u,rfl,hown,hg2⟩
  obtain ⟨y,hy⟩:∃ y,nd.items[i]? = some y:=⟨_,List.getElem?_eq_getElem oM⟩
  obtain ⟨ka,kc,va,vc,g1,g2,s1,s2⟩:=hcell i y hy;obtain ⟨k1,k2⟩:=ok.it i y hy;have k1':=(eM k1).2;have k2':=iD k2;have lk1:=lM (p:=y.1) oM;have e6:(nd.items.take (i+1)).flatMap (λ x:Bs×Bs=>bS x.1++bS x.2)=(nd.items.take i).flatMap (λ x:Bs×Bs=>bS x.1++bS x.2)++bS y.1++bS y.2:=by rw [eA hy];simp
  obtain ⟨Lx,hLx⟩:∃ Lx,Lx=0::n1::(nd.items.take i).flatMap λ x:Bs×Bs=>bS x.1++bS x.2:=⟨_,rfl⟩
  have e7:(0::n1::(nd.items.take (i+1)).flatMap λ x:Bs×Bs=>bS x.1++bS x.2)=Lx++bS y.1++bS y.2:=by rw [hLx,e6];simp
  have hLl:Lx.length≤1000:=by rw [hLx];simp only [List.length_cons];omega
  rw [← hLx] at hown;obtain ⟨ua,uc,rfl,hus⟩:=aM hown;repeat refine aF ?_
  apply T.any 15 [is (.slice ua Lx.length uc),is (.pointer (some ⟨bk,0,none⟩)),is (.slice a1 n1 c1),is (.int .i64 (i:Int)),is _,is _,is (.slice ka y.1.length kc),own w2.heap.size 5 1 (Lx++bS y.1).length (bB (Lx++bS y.1)),is (.pointer (some ⟨bk,0,none⟩)),is (.slice a1 n1 c1),is (.int .i64 (i:Int)),is _,is _,is (.slice va y.2.length vc),own w2.heap.size 5 1 (Lx++bS y.1++bS y.2).length (bB (Lx++bS y.1++bS y.2))]
  ·rfl
  ·repeat' (first|exact aN|refine aK ?_ ?_)
   iterate 7
    ·refine yQ λ wq _ _ hgq=>?_;repeat (first|(refine aH ?_;refine aC (j:=i) rfl rfl rfl hlt rfl ⟨F,_,hs.grow (hg2.trans hgq)⟩ rfl ?_)|(refine bK ?_;refine bJ rfl (hs.grow (hg2.trans hgq)) g1 rfl ?_)|(refine aO ?_;refine aQ rfl ((hs.grow (hg2.trans hgq)).row.cell g1) rfl ?_)|refine yC ?_)
     exact aD rfl yG rfl
   ·refine yQ λ wq _ _ hgq=>?_;have zq:=hgq.size;refine aB 203 ?_;refine aA rfl (rblock_c _ F ua ka uc kc Lx y.1 _ (hus.grow hgq) (s1.grow (hg2.trans hgq)) oM oM) rfl ?_;rintro v5 w5 ⟨hown5,hg5⟩;repeat refine aF ?_
    exact aD rfl yG (eC hown5 zq)
   iterate 6
    ·refine yQ λ wq _ _ hgq=>?_;repeat (first|(refine aH ?_;refine aC (j:=i) rfl rfl rfl hlt rfl ⟨F,_,hs.grow (hg2.trans hgq)⟩ rfl ?_)|(refine bK ?_;refine bJ rfl (hs.grow (hg2.trans hgq)) g1 rfl ?_)|(refine aO ?_;refine aQ rfl ((hs.grow (hg2.trans hgq)).row.cell g2) rfl ?_)|refine yC ?_)
     exact aD rfl yG rfl
   ·(((refine bX rfl rfl rfl ?_);( intro wq _ _ hgq;(repeat (refine aJ rfl rfl ?_;intro vq hvq;try (obtain rfl:=hvq)));(refine aZ ?_))))
    have zq:=hgq.size;have hown7:wq.ownsRow w2.heap.size 5 1 vq (Lx++bS y.1).length (bB (Lx++bS y.1)):=hvq;obtain ⟨qa,qc,rfl,hqs⟩:=aM hown7;refine aB 203 ?_;refine aA rfl (rblock_c _ F qa va qc vc (Lx++bS y.1) y.2 _ hqs (s2.grow (hg2.trans hgq)) (by rw [List.length_append];omega) oM) rfl ?_;rintro v5 w5 ⟨hown5,hg5⟩;repeat refine aF ?_
    exact aD rfl yG (eC hown5 zq)
  intro w5 lo5 hi5 hg5 _ _;((((repeat (refine aJ rfl rfl ?_;intro vq hvq;try (obtain rfl:=hvq)));(refine aZ ?_))))
  have hown7:w5.ownsRow w2.heap.size 5 1 vq (Lx++bS y.1++bS y.2).length (bB (Lx++bS y.1++bS y.2)):=hvq;repeat refine aF ?_
  refine aE (vq,i+1) ⟨rfl,rfl,rfl,trivial⟩ ⟨hlt,?_,hbk2.grow hg5,hg2.trans hg5⟩ (by simp only;omega);simp only;rw [e7];exact eC hown7 z2
 | false =>
  have hn20:n2≠0:=by
   rw [hn2];intro e;rw [bM.2 (List.eq_nil_of_length_eq_zero e)] at hlf;cases hlf
  rw [hbb hlf];rw [← hn2];repeat (first|(refine aB 164 ?_;refine aA rfl (hchk _ yG) rfl ?_;rintro _ _ ⟨rfl,hgc⟩)|(refine aB 114 ?_;refine aA rfl (rleaf_c ⟨a1,n1,c1,a2,n2,c2,a3,n3,c3⟩ false _ (by simp [hn20])) rfl ?_;rintro _ _ ⟨rfl,hgc⟩)|refine yC ?_|refine yI λ bk w' hg hbk hsz hsz'=>?_)
  rename_i wz;have hbk0:Blk wz bk 79 [.slice a1 n1 c1,.slice a2 n2 c2,.slice a3 n3 c3]:=by exact yB
  have hgw:Grow w wz:=by exact yG
  have z0:=hgw.size;refine TL.buildSlice rfl rfl rfl rfl rfl ?_;intro b w3 hg3 hb3 e3 e4 e5;have hown3:w3.ownsRow w.heap.size 5 1 (.slice (some ⟨b,0,none⟩) 2 2) 2 (bB [1,n2]):=own_lit hb3 oM rfl dM;have hgw3:=hgw.trans hg3;have hbk3:=hbk0.grow hg3;clear hgc hbk hbk0 hg3 hb3 hgw;repeat refine aF ?_
  refine aX (S:=Value×Nat) (λ s=>[(7,.int .i64 (s.2:Int)),(6,s.1),(1,.pointer (some ⟨bk,0,none⟩))]) (λ s w2=>s.2≤n2∧w2.ownsRow w.heap.size 5 1 s.1 (1::n2::(nd.kids.take s.2).flatMap bP).length (bB (1::n2::(nd.kids.take s.2).flatMap bP))∧Blk w2 bk 79 [.slice a1 n1 c1,.slice a2 n2 c2,.slice a3 n3 c3]∧Grow w w2) (λ s=>n2-s.2) (.slice (some ⟨b,0,none⟩) 2 2,0) ⟨rfl,rfl,rfl,trivial⟩ ⟨Nat.zero_le _,hown3,hbk3,hgw3⟩ ?_;clear hown3 hbk3 hgw3;rintro ⟨u,i⟩ w2 ⟨hi,hown,hbk2,hg2⟩;simp only at hi hown;have hlen:=kds_len nd.kids i;have hlt4:(nd.kids.take i).length≤i:=by rw [List.length_take];omega
  have z2:=hg2.size;have hbl2:=hbk2.lt;obtain ⟨Lx,hLx⟩:∃ Lx,Lx=1::n2::(nd.kids.take i).flatMap bP:=⟨_,rfl⟩
  have hLl:Lx.length≤1000:=by rw [hLx];simp only [List.length_cons];omega
  by_cases hlt:i<n2
  ·obtain ⟨y,hy⟩:∃ y,nd.kids[i]? = some y:=⟨_,List.getElem?_eq_getElem oM⟩
   have hy1:=ok.kd i y hy;have g1:=jR hy;have e7:(1::n2::(nd.kids.take (i+1)).flatMap bP)=Lx++bP y:=by rw [hLx,eA hy];simp
   rw [← hLx] at hown;obtain ⟨ua,uc,rfl,hus⟩:=aM hown;repeat (first|(refine aH ?_;refine aC (j:=i) rfl rfl rfl hlt (Nat.mul_one _) ⟨F,_,hs2.grow hg2⟩ rfl ?_)|(refine aO ?_;refine aQ rfl ((hs2.grow hg2).row.cell g1) rfl ?_)|refine yC ?_)
   refine aB 173 ?_;refine aA rfl (rword_c _ ua uc y Lx _ hus oM oM) rfl ?_;rintro v5 w5 ⟨hown5,hg5⟩;repeat refine aF ?_
   refine aE (v5,i+1) ⟨rfl,rfl,rfl,trivial⟩ ⟨hlt,?_,hbk2.grow hg5,hg2.trans hg5⟩ (by simp only;omega);simp only;rw [e7,List.length_append,lL];exact eC hown5 z2
  obtain rfl:i=n2:=by omega
  rw [List.take_of_length_le oM] at hLx;rw [List.take_of_length_le oM,← hLx] at hown;have e8:1::i::(nd.kids.flatMap bP++nd.keys.flatMap bS)=Lx++nd.keys.flatMap bS:=by rw [hLx];simp
  rw [e8];clear hlen hlt4;repeat refine aF ?_
  refine aX (S:=Value×Nat) (λ s=>[(8,.int .i64 (s.2:Int)),(6,s.1),(1,.pointer (some ⟨bk,0,none⟩))]) (λ s w2=>s.2≤n3∧w2.ownsRow w.heap.size 5 1 s.1 (Lx++(nd.keys.take s.2).flatMap bS).length (bB (Lx++(nd.keys.take s.2).flatMap bS))∧Blk w2 bk 79 [.slice a1 n1 c1,.slice a2 i c2,.slice a3 n3 c3]∧Grow w w2) (λ s=>n3-s.2) (u,0) ⟨rfl,rfl,rfl,trivial⟩ ⟨Nat.zero_le _,by simpa using hown,hbk2,hg2⟩ ?_;clear hown hbk2 hg2 z2 hbl2;rintro ⟨u,j⟩ w2 ⟨hj,hown,hbk2,hg2⟩;simp only at hj hown;have hlen:=kys_len_le ok.ky j;have z2:=hg2.size;by_cases hlt:j<n3
  ·obtain ⟨y,hy⟩:∃ y,nd.keys[j]? = some y:=⟨_,List.getElem?_eq_getElem oM⟩
   obtain ⟨ka,kc,g1,s1⟩:=hcell3 j y hy;have k1':=(eM (ok.ky j y hy)).2;have e7:Lx++(nd.keys.take (j+1)).flatMap bS=Lx++(nd.keys.take j).flatMap bS++bS y:=by rw [eA hy];simp
   obtain ⟨Ly,hLy⟩:∃ Ly,Ly=Lx++(nd.keys.take j).flatMap bS:=⟨_,rfl⟩
   have hLyl:Ly.length≤3000:=by rw [hLy,List.length_append];omega
   rw [← hLy] at hown e7;obtain ⟨ua,uc,rfl,hus⟩:=aM hown;repeat (first|(refine aH ?_;refine aC (j:=j) rfl rfl rfl hlt (Nat.mul_one _) ⟨F,_,hs3.grow hg2⟩ rfl ?_)|(refine aO ?_;refine aQ rfl ((hs3.grow hg2).row.cell g1) rfl ?_)|refine yC ?_)
   refine aB 203 ?_;refine aA rfl (rblock_c _ F ua ka uc kc Ly y _ hus (s1.grow hg2) oM oM) rfl ?_;rintro v5 w5 ⟨hown5,hg5⟩;repeat refine aF ?_
   refine aE (v5,j+1) ⟨rfl,rfl,rfl,trivial⟩ ⟨hlt,?_,hbk2.grow hg5,hg2.trans hg5⟩ (by simp only;omega);simp only;rw [e7];exact eC hown5 z2
  obtain rfl:j=n3:=by omega
  rw [List.take_of_length_le oM] at hown;repeat refine aF ?_
  exact fM rfl rfl ⟨_,rfl,u,rfl,hown,hg2⟩
theorem rfind_c (F G:Nat→Prop) (x:NV) (nd:Nd) (b:Option Addr) (m d:Nat) (key:Bs) (w:World) (h:NdAt F w x nd) (hk:Sl G w 1 b m d (bB key)) (hok:bF nd=true) (hl:bN nd=true) :
  Calls Tryz.prog 108 #[x.val,.slice b m d] w (Ret λ v w'=>v=.tuple #[.int .i64 (cN nd.items key:Int),.bool (eR nd.items key)]∧Grow w w'):=by
 have ok:=ndOk hok;have hn1:=h.its.len;have hn2:=bR h.kids;obtain ⟨cs,hs,hcell⟩:=h.its.at';have hchk:=λ w' (g:Grow w w')=>rcheck_c F x nd w' (h.go (Carry.grow g)) hok;obtain ⟨a1,n1,c1,a2,n2,c2,a3,n3,c3⟩:=x;simp only at hn1 hn2 hs hcell;show Calls Tryz.prog 108 #[.agg #[.slice a1 n1 c1,.slice a2 n2 c2,.slice a3 n3 c3],.slice b m d] w _;replace hchk:∀ w',Grow w w'→Calls Tryz.prog 164 #[.agg #[.slice a1 n1 c1,.slice a2 n2 c2,.slice a3 n3 c3]] w' (Ret λ v w''=>v=.int .i64 0∧Grow w' w''):=hchk;have o1:=ok.n1;rw [← hn1] at o1;have h20:n2=0:=by rw [hn2,bM.1 hl];rfl
 refine V.calls (args:=[_,_]) Tryz.func108 rfl Tryz.ntmps108 rfl rfl ?_;repeat (first|(refine aB 164 ?_;refine aA rfl (hchk _ yG) rfl ?_;rintro _ _ ⟨rfl,hgc⟩)|(refine aB 114 ?_;refine aA rfl (rleaf_c ⟨a1,n1,c1,a2,n2,c2,a3,n3,c3⟩ true _ (by simp only;rw [h20];rfl)) rfl ?_;rintro _ _ ⟨rfl,hgc⟩)|refine yC ?_|refine yI λ bk w' hg hbk hsz hsz'=>?_)
 rename_i wz;have hbk0:Blk wz bk 79 [.slice a1 n1 c1,.slice a2 n2 c2,.slice a3 n3 c3]:=by exact yB
 have hgw:Grow w wz:=by exact yG
 clear hbk hg hgc;refine aX (S:=Nat) (λ i=>[(6,.int .i64 (i:Int)),(1,.slice b m d),(2,.pointer (some ⟨bk,0,none⟩))]) (λ i w1=>Blk w1 bk 79 [.slice a1 n1 c1,.slice a2 n2 c2,.slice a3 n3 c3]∧Grow w w1∧i≤n1∧∀ j y,j<i→nd.items[j]? = some y→eO y.1 key) (λ i=>n1-i) 0 ⟨rfl,rfl,rfl,trivial⟩ ⟨hbk0,hgw,oM,λ j y hj=>by omega⟩ ?_;clear hbk0 hgw;rintro i w1 ⟨hbk,hg1,hi,hall⟩;by_cases hlt:i<n1;rotate_left
 ·have he:cN nd.items key=n1:=findN_eq (λ j y hj hy=>hall j y oM hy) (λ y hy=>by rw [List.getElem?_eq_none oM] at hy;cases hy) oM;have ht:eR nd.items key=false:=by unfold eR;rw [he,List.getElem?_eq_none oM]
  obtain rfl:i=n1:=by omega
  rw [he,ht];repeat refine aF ?_
  exact fM rfl rfl ⟨_,rfl,rfl,yG⟩
 obtain ⟨y,hy⟩:∃ y,nd.items[i]? = some y:=⟨_,List.getElem?_eq_getElem oM⟩
 obtain ⟨ka,kc,va,vc,g1,g2,s1,s2⟩:=hcell i y hy;by_cases hc:bW y.1 key<0
 ·repeat (first|(refine aH ?_;refine aC (j:=i) rfl rfl rfl hlt rfl ⟨F,_,hs.grow yG⟩ rfl ?_)|(refine bK ?_;refine bJ rfl (hs.grow yG) g1 rfl ?_)|(refine aO ?_;refine aQ rfl ((hs.grow yG).row.cell g1) rfl ?_)|(refine aB 140 ?_;refine aA rfl (fF _ _ _ _ _ _ _ _ _ _ _ (s1.grow yG) (hk.grow yG)) rfl ?_;rintro _ _ ⟨rfl,hgc⟩)|refine yC ?_)
  exact aE (i+1) ⟨rfl,rfl,rfl,trivial⟩ ⟨yB,yG,oM,λ j z hj hz=>by
   by_cases hj2:j=i
   ·subst hj2;rw [hy] at hz;cases hz;exact hc
   ·exact hall j z oM hz⟩ oM
 ·have he:cN nd.items key=i:=findN_eq hall (λ z hz=>by rw [hy] at hz;cases hz;exact hc) oM;have ht:eR nd.items key=decide (bW y.1 key=0):=by unfold eR;rw [he,hy]
  rw [he,ht];by_cases h0:bW y.1 key=0
  ·rw [decide_eq_true h0];repeat (first|(refine aH ?_;refine aC (j:=i) rfl rfl rfl hlt rfl ⟨F,_,hs.grow yG⟩ rfl ?_)|(refine bK ?_;refine bJ rfl (hs.grow yG) g1 rfl ?_)|(refine aO ?_;refine aQ rfl ((hs.grow yG).row.cell g1) rfl ?_)|(refine aB 140 ?_;refine aA rfl (fF _ _ _ _ _ _ _ _ _ _ _ (s1.grow yG) (hk.grow yG)) rfl ?_;rintro _ _ ⟨rfl,hgc⟩)|refine yC ?_)
   exact fM rfl rfl ⟨_,rfl,rfl,yG⟩
  ·rw [decide_eq_false h0];repeat (first|(refine aH ?_;refine aC (j:=i) rfl rfl rfl hlt rfl ⟨F,_,hs.grow yG⟩ rfl ?_)|(refine bK ?_;refine bJ rfl (hs.grow yG) g1 rfl ?_)|(refine aO ?_;refine aQ rfl ((hs.grow yG).row.cell g1) rfl ?_)|(refine aB 140 ?_;refine aA rfl (fF _ _ _ _ _ _ _ _ _ _ _ (s1.grow yG) (hk.grow yG)) rfl ?_;rintro _ _ ⟨rfl,hgc⟩)|refine yC ?_)
   exact fM rfl rfl ⟨_,rfl,rfl,yG⟩
theorem rkid_c (F G:Nat→Prop) (x:NV) (nd:Nd) (b:Option Addr) (m d:Nat) (key:Bs) (w:World) (h:NdAt F w x nd) (hk:Sl G w 1 b m d (bB key)) (hok:bF nd=true) (hl:bN nd=false) :
  Calls Tryz.prog 115 #[x.val,.slice b m d] w (Ret λ v w'=>v=.int .i64 (fX nd.keys key:Int)∧Grow w w'):=by
 have ok:=ndOk hok;have hn2:=bR h.kids;have hn3:=h.kys.len;obtain ⟨cs,hs,hcell⟩:=h.kys.at';have hchk:=λ w' (g:Grow w w')=>rcheck_c F x nd w' (h.go (Carry.grow g)) hok;obtain ⟨a1,n1,c1,a2,n2,c2,a3,n3,c3⟩:=x;simp only at hn3 hn2 hs hcell;show Calls Tryz.prog 115 #[.agg #[.slice a1 n1 c1,.slice a2 n2 c2,.slice a3 n3 c3],.slice b m d] w _;replace hchk:∀ w',Grow w w'→Calls Tryz.prog 164 #[.agg #[.slice a1 n1 c1,.slice a2 n2 c2,.slice a3 n3 c3]] w' (Ret λ v w''=>v=.int .i64 0∧Grow w' w''):=hchk;have o2:=ok.n2;have o5:=ok.n3;rw [← hn2] at o2 o5;rw [← hn3] at o5
 have hn20:n2≠0:=by
  rw [hn2];intro e;rw [bM.2 (List.eq_nil_of_length_eq_zero e)] at hl;cases hl
 refine V.calls (args:=[_,_]) Tryz.func115 rfl Tryz.ntmps115 rfl rfl ?_;repeat (first|(refine aB 164 ?_;refine aA rfl (hchk _ yG) rfl ?_;rintro _ _ ⟨rfl,hgc⟩)|(refine aB 114 ?_;refine aA rfl (rleaf_c ⟨a1,n1,c1,a2,n2,c2,a3,n3,c3⟩ false _ (by simp [hn20])) rfl ?_;rintro _ _ ⟨rfl,hgc⟩)|refine yC ?_|refine yI λ bk w' hg hbk hsz hsz'=>?_)
 rename_i wz;have hbk0:Blk wz bk 79 [.slice a1 n1 c1,.slice a2 n2 c2,.slice a3 n3 c3]:=by exact yB
 have hgw:Grow w wz:=by exact yG
 clear hbk hg hgc;refine aX (S:=Nat) (λ i=>[(5,.int .i64 (i:Int)),(1,.slice b m d),(2,.pointer (some ⟨bk,0,none⟩))]) (λ i w1=>Blk w1 bk 79 [.slice a1 n1 c1,.slice a2 n2 c2,.slice a3 n3 c3]∧Grow w w1∧i≤n3∧∀ j y,j<i→nd.keys[j]? = some y→bW y key≤0) (λ i=>n3-i) 0 ⟨rfl,rfl,rfl,trivial⟩ ⟨hbk0,hgw,oM,λ j y hj=>by omega⟩ ?_;clear hbk0 hgw;rintro i w1 ⟨hbk,hg1,hi,hall⟩;by_cases hlt:i<n3;rotate_left
 ·have he:fX nd.keys key=n3:=kidN_eq (λ j y hj hy=>hall j y oM hy) (λ y hy=>by rw [List.getElem?_eq_none oM] at hy;cases hy) oM;obtain rfl:i=n3:=by omega
  rw [he];repeat refine aF ?_
  exact bA rfl ⟨_,rfl,rfl,yG⟩
 obtain ⟨y,hy⟩:∃ y,nd.keys[i]? = some y:=⟨_,List.getElem?_eq_getElem oM⟩
 obtain ⟨ka,kc,g1,s1⟩:=hcell i y hy;by_cases hc:bW y key≤0
 ·repeat (first|(refine aH ?_;refine aC (j:=i) rfl rfl rfl hlt (Nat.mul_one _) ⟨F,_,hs.grow yG⟩ rfl ?_)|(refine aO ?_;refine aQ rfl ((hs.grow yG).row.cell g1) rfl ?_)|(refine aB 140 ?_;refine aA rfl (fF _ _ _ _ _ _ _ _ _ _ _ (s1.grow yG) (hk.grow yG)) rfl ?_;rintro _ _ ⟨rfl,hgc⟩)|refine yC ?_)
  exact aE (i+1) ⟨rfl,rfl,rfl,trivial⟩ ⟨yB,yG,oM,λ j z hj hz=>by
   by_cases hj2:j=i
   ·subst hj2;rw [hy] at hz;cases hz;exact hc
   ·exact hall j z oM hz⟩ oM
 ·have he:fX nd.keys key=i:=kidN_eq hall (λ z hz=>by rw [hy] at hz;cases hz;exact hc) oM;rw [he];repeat (first|(refine aH ?_;refine aC (j:=i) rfl rfl rfl hlt (Nat.mul_one _) ⟨F,_,hs.grow yG⟩ rfl ?_)|(refine aO ?_;refine aQ rfl ((hs.grow yG).row.cell g1) rfl ?_)|(refine aB 140 ?_;refine aA rfl (fF _ _ _ _ _ _ _ _ _ _ _ (s1.grow yG) (hk.grow yG)) rfl ?_;rintro _ _ ⟨rfl,hgc⟩)|refine yC ?_)
  exact bA rfl ⟨_,rfl,rfl,yG⟩
structure RL where
 p:Nat
 d:Nat
 b:Nat
 c:Nat
 u:Nat
def us (g:Pg):List Value:=(List.range g.count).map λ n=>.bool (bL g n)
theorem nO (g:Pg):(us g).length=g.count:=by simp [us]
theorem us_at {g:Pg} {n:Nat} (h:n<g.count):(us g)[n]? = some (.bool (bL g n)):=by simp [us,h]
def RL.S (R:RL) (k:Nat):Prop:=k=R.p∨k=R.c∨k=R.u
structure SecAt (K:Nat→Prop) (w:World) (cs:List Value) (j:Nat) (l:Bs):Prop where
 ex:∃ a c,cs[j]? = some (.slice (some a) 256 c)∧Sl K w 1 (some a) 256 c (bB l)
theorem SecAt.go {K K':Nat→Prop} {w w':World} {cs:List Value} {j:Nat} {l:Bs} (h:SecAt K w cs j l) (g:Carry K w K' w'):SecAt K' w' cs j l:=by
 obtain ⟨a,c,h1,h2⟩:=h.ex;exact ⟨a,c,h1,h2.go g⟩
structure RfAt (K:Nat→Prop) (w:World) (R:RL) (g:Pg):Prop where
 blk:Blk w R.p 174 [.pointer (some ⟨R.d,0,none⟩),.slice (some ⟨R.u,0,none⟩) g.count g.count]
 dsk:Blk w R.d 171 [.slice (some ⟨R.b,0,none⟩) (512*g.count) (512*g.count),.slice (some ⟨R.c,0,none⟩) (2*g.count) (2*g.count)]
 used:Blk w R.u 4 (us g)
 ok:PgOk g
 cache:∃ cs,cs.length=2*g.count∧Blk w R.c 30 cs∧∀ n,bL g n=true→SecAt K w cs (2*n) ((gQ n (g.body n)).take 256)∧SecAt K w cs (2*n+1) ((gQ n (g.body n)).drop 256)
 lt:∀ n,∀ x∈g.body n,x<256
 bl:∀ n,bL g n=true→(g.body n).length=500
 kne:∀ k,K k→¬ R.S k
 ne:R.p≠R.d∧R.p≠R.c∧R.p≠R.u∧R.d≠R.c∧R.d≠R.u∧R.c≠R.u
theorem RfAt.cnt {K:Nat→Prop} {w:World} {R:RL} {g:Pg} (h:RfAt K w R g):g.count≤8192:=h.ok.cnt
theorem RfAt.lts {K:Nat→Prop} {w:World} {R:RL} {g:Pg} (h:RfAt K w R g):R.p<w.heap.size∧R.d<w.heap.size∧R.c<w.heap.size∧R.u<w.heap.size:=by
 obtain ⟨cs,_,h1,_⟩:=h.cache;exact ⟨h.blk.lt,h.dsk.lt,h1.lt,h.used.lt⟩
theorem RfAt.keep {K:Nat→Prop} {w w':World} {R:RL} {g:Pg} (h:RfAt K w R g) (c:Carry K w K w') (hb:∀ k,k=R.p∨k=R.d∨k=R.c∨k=R.u→w'.heap[k]? = w.heap[k]?):RfAt K w' R g:=by
 obtain ⟨cs,h1,h2,h3⟩:=h.cache;exact ⟨dS h.blk (hb _ sM),dS h.dsk (hb _ sM),dS h.used (hb _ sM),h.ok,⟨cs,h1,dS h2 (hb _ sM),λ n hn=>⟨(h3 n hn).1.go c,(h3 n hn).2.go c⟩⟩,h.lt,h.bl,h.kne,h.ne⟩
theorem RfAt.grow {K:Nat→Prop} {w w':World} {R:RL} {g:Pg} (h:RfAt K w R g) (gr:Grow w w'):RfAt K w' R g :=
 h.keep (Carry.grow gr) λ k hk=>gr.block k (by have:=h.lts;omega)
theorem RfAt.buts {K S:Nat→Prop} {w w':World} {R:RL} {g:Pg} (h:RfAt K w R g) (u:ButS S w w') (h1:∀ k,K k→¬ S k) (h2:∀ k,k=R.p∨k=R.d∨k=R.c∨k=R.u→¬ S k):RfAt K w' R g :=
 h.keep (Carry.buts u λ k hk _=>h1 k hk) λ k hk=>u.block k (by have:=h.lts;omega) (h2 k hk)
theorem RfAt.upd {K:Nat→Prop} {w w':World} {R:RL} {g:Pg} {b:Nat} (h:RfAt K w R g) (u:Upd b w w') (h1:¬ K b∨w.heap.size≤b) (h2:b≠R.p∧b≠R.d∧b≠R.c∧b≠R.u):RfAt K w' R g :=
 h.keep ⟨Nat.le_of_eq u.size.symm,λ k hk hl=>⟨hk,u.block k (λ e=>by subst e;rcases h1 with h1|h1<;>first|exact h1 hk|omega)⟩⟩ λ k hk=>u.block k oM
theorem rsize_c (d:Nat) (bv:Value) (ca:Option Addr) (m c:Nat) (w:World) (h:Blk w d 171 [bv,.slice ca m c]) :
  Calls Tryz.prog 103 #[.pointer (some ⟨d,0,none⟩)] w (Ret λ v w'=>v=.int .i64 (m:Int)∧w=w'):=by
 refine V.calls (args:=[_]) Tryz.func103 rfl Tryz.ntmps103 rfl rfl ?_;repeat refine dF ?_
 exact bA rfl ⟨_,rfl,rfl,rfl⟩
theorem rdread_c (K:Nat→Prop) (d b c m j:Nat) (bl:Nat) (cs:List Value) (l:Bs) (w:World) (h:Blk w d 171 [.slice (some ⟨b,0,none⟩) bl bl,.slice (some ⟨c,0,none⟩) m m]) (hc:Blk w c 30 cs) (hcs:cs.length=m) (hm:m≤100000) (hj:j<m) (hl:l.length=256) (hs:SecAt K w cs j l) :
  Calls Tryz.prog 204 #[.pointer (some ⟨d,0,none⟩),.int .i64 (j:Int)] w (Ret λ v w'=>∃ u,v=.tuple #[u,.int .i64 0]∧w'.ownsRow w.heap.size 5 1 u 256 (bB l)∧Grow w w'):=by
 obtain ⟨a,cc,h1,h2⟩:=hs.ex;have hux:Sl (λ k=>k=c) w 1 (some ⟨c,0,none⟩) m m cs:=aV (sz:=1) (m:=m) hc oM (by unfold maxLen;omega);have hcell:w.cell? (at' (some ⟨c,0,none⟩) j)=some (.slice (some a) 256 cc):=hux.row.cell h1;refine V.calls (args:=[_,_]) Tryz.func204 rfl Tryz.ntmps204 rfl rfl ?_;repeat (first|(refine aB 103 ?_;refine aA rfl (rsize_c d _ _ m _ _ h) rfl ?_;rintro _ _ ⟨rfl,rfl⟩)|(refine aH ?_;refine aC (j:=j) rfl rfl rfl hj (Nat.mul_one _) ⟨_,_,hux.grow yG⟩ rfl ?_)|refine yC ?_|refine yI λ bk w' hg hbk hsz hsz'=>?_)
 refine TL.append rfl rfl (eL (base:=w.heap.size) hbk oM) (h2.grow yG) (bO l) (by unfold maxLen;omega) oM oM rfl ?_;intro v1 w1 hown1 hgb1 _;have hown2:w1.ownsRow w.heap.size 5 1 v1 256 (bB l):=by simpa using hown1
 have hg2:Grow w w1:=Grow.mk (aL hgb1 oM (λ k hk=>by simp only [Value.ownBlock,Option.some.injEq] at hk;omega) hg.1);repeat refine aF ?_
 exact fM rfl rfl ⟨_,rfl,v1,rfl,hown2,hg2⟩
theorem rdwrite_c (F:Nat→Prop) (d b c m j:Nat) (bl:Nat) (cs:List Value) (a:Option Addr) (ac:Nat) (l:Bs) (w:World) (h:Blk w d 171 [.slice (some ⟨b,0,none⟩) bl bl,.slice (some ⟨c,0,none⟩) m m]) (hc:Blk w c 30 cs) (hcs:cs.length=m) (hm:m≤100000) (hj:j<m) (hs:Sl F w 1 a 256 ac (bB l)) :
  Calls Tryz.prog 126 #[.pointer (some ⟨d,0,none⟩),.int .i64 (j:Int),.slice a 256 ac] w (Ret λ v w'=>v=.int .i64 0∧∃ g cap,Blk w' c 30 (cs.set j (.slice (some ⟨g,0,none⟩) 256 cap))∧Sl (λ k=>w.heap.size≤k) w' 1 (some ⟨g,0,none⟩) 256 cap (bB l)∧But c w w'):=by
 have hlb:=gX hs;have hux:Sl (λ k=>k=c) w 1 (some ⟨c,0,none⟩) m m cs:=aV (sz:=1) (m:=m) hc oM (by unfold maxLen;omega);refine V.calls (args:=[_,_,_]) Tryz.func126 rfl Tryz.ntmps126 rfl rfl ?_;repeat (first|(refine aB 103 ?_;refine aA rfl (rsize_c d _ _ m _ _ h) rfl ?_;rintro _ _ ⟨rfl,rfl⟩)|refine yC ?_)
 apply T.anyL 8 7 [is (.pointer (some ⟨d,0,none⟩)),is (.pointer (some ⟨d,0,none⟩)),is (.pointer (some ⟨d,1,none⟩)),is (.slice (some ⟨c,0,none⟩) m m),is (.int .i64 (j:Int)),own w.heap.size 5 1 0 [],is (.slice a 256 ac),own w.heap.size 5 1 256 (bB l)]
 ·rfl
 ·rfl
 ·repeat' (first|exact aN|refine aK ?_ ?_)
  iterate 5
   ·refine yQ λ wq _ _ hgq=>?_;repeat refine aF ?_
    exact aD rfl yG rfl
  ·refine yQ λ wq _ _ hgq=>?_;have h4:=hgq.size;repeat (first|refine aF ?_|refine yI λ bk w' hg hbk hsz hsz'=>?_)
   exact aD rfl yG (eL hbk oM)
  ·refine yQ λ wq _ _ hgq=>?_;repeat refine aF ?_
   exact aD rfl yG rfl
  ·(((refine bX rfl rfl rfl ?_);( intro wq _ _ hgq;(repeat (refine aJ rfl rfl ?_;intro vq hvq;try (obtain rfl:=hvq)));(refine aZ ?_))))
   have h4:=hgq.size;have hown:World.ownsRow _ _ _ _ vq 0 []:=hvq;refine TL.append rfl rfl hown (hs.grow hgq) (bO l) (by unfold maxLen;omega) oM oM rfl ?_;intro v' w3 hown3 hgb _;repeat refine aF ?_
   exact one_loose rfl (aL hgb h4 (λ k hk=>(aT hown hk).1) (Below.refl _ _)) (show w3.ownsRow w.heap.size 5 1 v' 256 (bB l) by simpa using hown3)
 ·intro w9 lo9 hi9 hg9 _ _;((((repeat (refine aJ rfl rfl ?_;intro vq hvq;try (obtain rfl:=hvq)));(refine aZ ?_))))
  have hcl:=hc.lt;have hv9:w9.ownsRow w.heap.size 5 1 vq 256 (bB l):=hvq;obtain ⟨g,cap,cur,rfl,o1,o2,o3,o4,o5,o6⟩:=own_blk hv9 oM;obtain ⟨a',c',e',hsl⟩:=aM hv9;cases e';refine aC (j:=j) rfl rfl rfl hj (Nat.mul_one _) ⟨_,_,hux.grow hg9⟩ rfl ?_;rw [show at' (some ⟨c,0,none⟩) j=⟨c,j,none⟩ by rw [at_some,Nat.zero_add]];refine dQ rfl rfl (hc.grow hg9) rfl (by rw [hcs];exact Nat.ble_eq_true_of_le hj) rfl ?_;intro w10 hu10 hb10 _;repeat refine aF ?_
  exact bA rfl ⟨_,rfl,rfl,g,cap,hb10,(hsl.mono (λ k hk=>hk.1)).upd hu10 (λ k hk=>by omega),but_upd hu10 (but_grow' hg9)⟩
theorem rpage_c (F:Nat→Prop) (n:Nat) (hn:n<2147483648) (a:Option Addr) (c:Nat) (b:Bs) (w:World) (hs:Sl F w 1 a b.length c (bB b)) (hm:b.length≤500) (hb:∀ x∈b,x<256) :
  Calls Tryz.prog 125 #[.int .i64 (n:Int),.slice a b.length c] w (Ret λ v w'=>∃ u,v=.tuple #[u,.int .i64 0]∧w'.ownsRow w.heap.size 5 1 u 512 (bB (gQ n b))∧Grow w w'):=by
 refine V.calls (args:=[_,_]) Tryz.func125 rfl Tryz.ntmps125 rfl rfl ?_;refine dV 3 (λ e w3=>∃ v3,Sub [(6,v3),(0,.int .i64 (n:Int))] e∧w3.ownsRow w.heap.size 5 1 v3 500 (bB (dB b))∧Grow w w3) ?_ ?_;rotate_left
 ·repeat (first|refine aF ?_|refine yI λ bk w' hg hbk hsz hsz'=>?_)
  refine TL.append rfl rfl (eL (base:=w.heap.size) hbk oM) (hs.grow yG) (bO b) (by unfold maxLen;omega) oM oM rfl ?_;intro v1 w1 hown1 hgb1 _;have hown2:w1.ownsRow w.heap.size 5 1 v1 b.length (bB b):=by simpa using hown1
  have hg2:Grow w w1:=Grow.mk (aL hgb1 oM (λ k hk=>by simp only [Value.ownBlock,Option.some.injEq] at hk;omega) hg.1);have z2:=hg2.size;clear hown1 hgb1 hbk hg hsz hsz';repeat refine aF ?_
  refine eW ?_;by_cases h500:b.length=500
  ·obtain ⟨a1,c1,rfl,hs1⟩:=aM hown2;have hb5:dB b=b:=by unfold dB;rw [h500];simp [zs]
   have hc1:=hs1.cap;rw [show 500-b.length=0 by omega];refine TL.appendZ0 rfl rfl hc1 rfl ?_;repeat refine aF ?_
   exact ⟨_,⟨rfl,rfl,trivial⟩,by rw [hb5];rw [h500] at hown2;rw [h500];exact hown2,hg2⟩
  ·refine TL.appendZ (zc:=.int .u8 0) (c:=500-b.length) rfl rfl rfl rfl hown2 oM oM oM oM rfl ?_;intro v4 w4 hown4 hgb4;repeat refine aF ?_
   refine ⟨v4,⟨rfl,rfl,trivial⟩,?_,Grow.mk (aL hgb4 oM (λ k hk=>(aT hown2 hk).1) hg2.1)⟩;have e5:bB (dB b)=bB b++List.replicate (500-b.length) (.int .u8 0):=by simp [dB,bB,zs]
   rw [e5];have:=hown4;rwa [show b.length+(500-b.length)=500 by omega] at this
 rintro e w3 ⟨v3,hsub,hown,hg3⟩;refine bD (e':=[(6,_),(0,_)]) ?_ hsub;clear hsub;have hl5:=jE b hm;have hlt5:=body_lt hb;obtain ⟨B,hB⟩:∃ B,B=dB b:=⟨_,rfl⟩
 have hpg:gQ n b=(shaB (bP n++B)).take 12++B:=by rw [hB];rfl
 rw [hpg];rw [← hB] at hl5 hlt5 hown;clear hpg hB;obtain ⟨a3,c3,rfl,hs3⟩:=aM hown;have z3:=hg3.size;repeat refine aF ?_
 refine aB 173 ?_;refine aA rfl (rword_c (λ _=>True) none 0 n [] _ (Sl.nil_mk _ _ _) sM oM) rfl ?_;rintro v4 w4 ⟨hown4,hg4⟩;obtain ⟨a4,c4,rfl,hs4⟩:=aM hown4;repeat refine aF ?_
 refine TL.buildSlice rfl rfl rfl rfl rfl ?_;intro b5 w5 hg5 hb5 r1 r2 r3;have hky:KysAt (λ _=>True) w5 (some ⟨b5,0,none⟩) 2 2 [bP n,B]:=⟨_,(aV (sz:=1) (m:=2) hb5 r3 dM).mono (λ _ _=>trivial),⟨_,_,_,rfl,(hs4.grow hg5).mono (λ _ _=>trivial)⟩,⟨_,_,_,rfl,((hs3.grow hg4).grow hg5).mono (λ _ _=>trivial)⟩,trivial⟩
 have ef:([bP n,B]:List Bs).flatten=bP n++B:=by simp
 refine aB 172 ?_
 refine aA rfl (rsum_c _ _ 2 2 [bP n,B] _ hky (by rw [ef,List.length_append,lL];omega) (by
  rw [ef];intro x hx;rcases List.mem_append.1 hx with hx|hx
  ·exact word4_lt n x hx
  ·exact hlt5 x hx)) rfl ?_
 rintro _ w6 ⟨rfl,hg6⟩;rw [ef];have hD:(shaB (bP n++B)).length=32:=kP _;generalize shaB (bP n++B)=D at *;have hgw6:Grow w w6:=(hg3.trans hg4).trans (hg5.trans hg6);have hsB:=((hs3.grow hg4).grow hg5).grow hg6;clear hg3 hg4 hg5 hg6 hs3 hs4 hb5 hky hown hown4;have z6:=hgw6.size;repeat ((refine fL ?_;refine eS 32 zero_dig rfl ?_;intro b7 w7 hg7 hb7 q1 q2))
 refine fK rfl rfl hb7 (cJ _) hD ?_;intro w8 hu8 hb8 q3;have hgw8:Grow w w8:=aI hu8 oM (hgw6.trans hg7);have hsB8:Sl (λ k=>w.heap.size≤k∧k<w6.heap.size) w8 1 a3 500 c3 (bB B):=((hsB.tight.mono (λ k hk=>⟨hk.1.1,hk.2⟩)).grow hg7).upd hu8 (λ k hk=>by omega);clear hg7 hb7 hu8 hsB;repeat (first|refine aF ?_|refine yI λ bk w' hg hbk hsz hsz'=>?_)
 have z8:=hgw8.size;have hs7:=jO (o:=0) (m:=12) (c:=32) (hb8.grow hg) oM oM dM;rw [List.drop_zero] at hs7;refine TL.append rfl rfl (eL (base:=w.heap.size) hbk oM) hs7 (bO _) (by unfold maxLen;omega) oM oM rfl ?_;intro v9 w9 hown9 hgb9 _;have hown9':w9.ownsRow w.heap.size 5 1 v9 12 (bB (D.take 12)):=by simpa using hown9
 have hg9:Grow w8 w9:=Grow.mk (aL hgb9 oM (λ k hk=>by simp only [Value.ownBlock,Option.some.injEq] at hk;omega) hg.1);have z9:=hg9.size;repeat refine aF ?_
 have hl12:(D.take 12).length=12:=by rw [List.length_take];omega
 refine TL.append rfl rfl hown9' (hsB8.grow hg9) (bO _) (by unfold maxLen;omega) oM oM rfl ?_;intro v10 w10 hown10 hgb10 _;have hg10:Grow w w10:=Grow.mk (aL hgb10 oM (λ k hk=>(aT hown9' hk).1) (hgw8.trans hg9).1);repeat refine aF ?_
 exact fM rfl rfl ⟨_,rfl,v10,rfl,by rw [dH];exact hown10,hg10⟩
theorem us_sl {w:World} {u:Nat} {g:Pg} (h:Blk w u 4 (us g)) (hc:g.count≤8192):Sl (λ k=>k=u) w 1 (some ⟨u,0,none⟩) g.count g.count (us g) :=
 aV (sz:=1) (m:=g.count) h (by rw [nO,Nat.mul_one]) (by unfold maxLen;omega)
theorem ris_c {K:Nat→Prop} {w:World} {R:RL} {g:Pg} (h:RfAt K w R g) (n:Nat) (hn:n<9223372036854775808) :
  Calls Tryz.prog 117 #[.pointer (some ⟨R.p,0,none⟩),.int .i64 (n:Int)] w (Ret λ v w'=>v=.bool (bL g n)∧w=w'):=by
 have hb:=h.blk;have hux:=us_sl h.used h.cnt;have hcn:=h.cnt;refine V.calls (args:=[_,_]) Tryz.func117 rfl Tryz.ntmps117 rfl rfl ?_;by_cases hlt:n<g.count
 ·have hcell:w.cell? (at' (some ⟨R.u,0,none⟩) n)=some (.bool (bL g n)):=hux.row.cell (us_at hlt);repeat (first|(refine aH ?_;refine aC (j:=n) rfl rfl rfl hlt (Nat.mul_one _) ⟨_,_,hux⟩ rfl ?_)|refine yC ?_)
  exact bA rfl ⟨_,rfl,rfl,rfl⟩
 ·have hup:bL g n=false:=by simp [bL,hlt]
  rw [hup];repeat (refine yC ?_)
  exact bA rfl ⟨_,rfl,rfl,rfl⟩
theorem rpread_c {K:Nat→Prop} {w:World} {R:RL} {g:Pg} (h:RfAt K w R g) (n:Nat) (hu:bL g n=true) :
  Calls Tryz.prog 166 #[.pointer (some ⟨R.p,0,none⟩),.int .i64 (n:Int)] w (Ret λ v w'=>∃ u,v=.tuple #[u,.int .i64 0]∧w'.ownsRow w.heap.size 5 1 u 500 (bB (g.body n))∧Grow w w'):=by
 have hlt:=dW hu;have hcn:=h.cnt;have hb:=h.blk;have hd:=h.dsk;have hbl:=h.bl n hu;have hbt:=h.lt n;obtain ⟨cs,hcl,hcb,hsec⟩:=h.cache;obtain ⟨hse1,hse2⟩:=hsec n hu;have hlp:=lN n (g.body n) oM;have hb5:dB (g.body n)=g.body n:=by unfold dB;rw [hbl];simp [zs]
 have hdr:(gQ n (g.body n)).drop 12=g.body n:=by
  unfold gQ;rw [hb5,List.drop_left' (by rw [List.length_take,kP];rfl)]
 have hpb:gQ n ((gQ n (g.body n)).drop 12)=gQ n (g.body n):=by rw [hdr]
 have his:=ris_c h n oM;rw [hu] at his;refine V.calls (args:=[_,_]) Tryz.func166 rfl Tryz.ntmps166 rfl rfl ?_;repeat (first|(refine aB 117 ?_;refine aA rfl (his) rfl ?_;rintro _ _ ⟨rfl,rfl⟩)|(refine eQ ?_;refine TL.mulN (a:=2) rfl rfl oM rfl ?_)|refine yC ?_)
 refine aB 204 ?_;refine aA rfl (rdread_c K _ _ _ (2*g.count) (2*n) _ cs _ _ hd hcb hcl oM oM (by rw [List.length_take];omega) hse1) rfl ?_;rintro _ w1 ⟨u1,rfl,hown1,hg1⟩;repeat (first|(refine eQ ?_;refine TL.mulN (a:=2) rfl rfl oM rfl ?_)|refine yC ?_)
 refine aB 204 ?_;refine aA rfl (rdread_c K _ _ _ (2*g.count) (2*n+1) _ cs _ _ (hd.grow hg1) (hcb.grow hg1) hcl oM oM (by rw [List.length_drop];omega) (hse2.go (Carry.grow hg1))) rfl ?_;rintro _ w2 ⟨u2,rfl,hown2,hg2⟩;have z1:=hg1.size;have z2:=hg2.size;obtain ⟨a2,c2,rfl,hs2⟩:=aM hown2;repeat refine aF ?_
 refine TL.append rfl rfl (aS hown1 hg2) hs2 (bO _) (by unfold maxLen;omega) oM oM rfl ?_;intro v3 w3 hown3 hgb3 _;rw [← dH,List.take_append_drop] at hown3;have hg3:Grow w w3:=Grow.mk (aL hgb3 oM (λ k hk=>(aT (aS hown1 hg2) hk).1) (hg1.trans hg2).1);obtain ⟨a3,c3,rfl,hs3⟩:=aM hown3;obtain ⟨pg,hpg⟩:∃ pg,pg=gQ n (g.body n):=⟨_,rfl⟩
 rw [← hpg] at hs3 hlp hdr hpb;have hc3:=hs3.cap
 have s12:Sl (λ k=>w.heap.size≤k) w3 1 (eP a3 c3 12 1) (g.body n).length (c3-12) (bB (g.body n)):=by
  have:=(eY (l:=12) (h:=512) (mm:=c3) hs3 oM oM oM (Nat.le_refl _)).mono (λ k hk=>hk.1);rw [List.take_of_length_le (by rw [List.length_drop,bE];omega)] at this;rw [Nat.mul_one,show (bB pg).drop 12=bB (pg.drop 12) by simp [bB,List.map_drop],hdr] at this;rw [hbl];exact this
 clear hown1 hown2 hown3 hgb3 hg1 hg2 hs2 hse1 hse2 hsec hcb;repeat (first|(refine cG ?_;refine dE (l:=12) (h:=512) (mm:=c3) rfl (bI rfl rfl) (aP _) (aP _) (by intro h;rfl) oM oM oM oM oM rfl ?_)|refine yC ?_)
 refine aB 125 ?_;rw [show (512-12:Nat)=(g.body n).length by omega];refine aA rfl (rpage_c _ n oM _ _ (g.body n) _ s12 oM hbt) rfl ?_;rintro _ w4 ⟨u4,rfl,hown4,hg4⟩;rw [← hpg] at hown4;obtain ⟨a4,c4,rfl,hs4⟩:=aM hown4;have z4:=hg4.size;have z3:=hg3.size;repeat (first|(refine dL ?_;first|refine gG rfl hs4 rfl ?_|refine gG rfl (hs3.grow hg4) rfl ?_)|(refine TL.isNeT 9 ?_;refine TL.neS (b:=false) rfl rfl sM rfl ?_)|(refine cG ?_;refine dE (l:=12) (h:=512) (mm:=c3) rfl (bI rfl rfl) (aP _) (aP _) (by intro h;rfl) oM oM oM oM oM rfl ?_)|refine yC ?_|refine yI λ bk w' hg hbk hsz hsz'=>?_)
 rw [show (512-12:Nat)=(g.body n).length by omega];refine TL.append rfl rfl (eL (base:=w.heap.size) hbk oM) ((s12.grow hg4).grow hg) (bO _) (by unfold maxLen;omega) oM oM rfl ?_;intro v5 w5 hown5 hgb5 _
 have hown6:w5.ownsRow w.heap.size 5 1 v5 500 (bB (g.body n)):=by
  rw [Nat.zero_add,hbl] at hown5;simpa using hown5
 have hg5:Grow w w5:=Grow.mk (aL hgb5 oM (λ k hk=>by simp only [Value.ownBlock,Option.some.injEq] at hk;omega) (hg3.trans (hg4.trans hg)).1);repeat refine aF ?_
 exact fM rfl rfl ⟨_,rfl,v5,rfl,hown6,hg5⟩
theorem us_new {g g':Pg} {n:Nat} {b:Bs} (h:New g g' n b):(us g).set n (.bool true)=us g':=by
 apply List.ext_getElem?;intro i;rw [List.getElem?_set];have hl:=h.lt;have hc:=h.count;by_cases hi:n=i
 ·subst hi;rw [if_pos rfl,if_pos (by rw [nO];exact hl),us_at oM,h.used];simp
 ·rw [if_neg hi];by_cases hlt:i<g.count
  ·rw [us_at hlt,us_at oM,h.used];have:i≠n:=λ e=>hi e.symm;simp [this]
  ·rw [List.getElem?_eq_none (by rw [nO];omega),List.getElem?_eq_none (by rw [nO];omega)]
theorem rpnew_c {K:Nat→Prop} {w:World} {R:RL} {g:Pg} (h:RfAt K w R g) (hK:∀ k,w.heap.size≤k→K k) (F:Nat→Prop) (a:Option Addr) (c:Nat) (b:Bs) (hs:Sl F w 1 a b.length c (bB b)) (hm:b.length≤500) (hbl:∀ x∈b,x<256) (n:Nat) (g':Pg) (hne:newP g b=some (n,g')) :
  Calls Tryz.prog 46 #[.pointer (some ⟨R.p,0,none⟩),.slice a b.length c] w (Ret λ v w'=>v=.tuple #[.int .i64 (n:Int),.int .i64 0]∧RfAt K w' R g'∧ButS R.S w w'):=by
 have hnew:=newP_new h.ok hne
 have hlow:lowP g=n:=by
  unfold newP at hne;simp only at hne;split at hne
  ·cases hne
  ·cases hne;rfl
 have hcn:=h.cnt;have hlt:=hnew.lt;have hux:=us_sl h.used hcn;have hb:=h.blk;refine V.calls (args:=[_,_]) Tryz.func46 rfl Tryz.ntmps46 rfl rfl ?_;repeat refine aF ?_
 refine aX (S:=Nat) (λ i=>[(6,.int .i64 (i:Int)),(1,.slice a b.length c),(0,.pointer (some ⟨R.p,0,none⟩))]) (λ i w'=>i≤n∧w=w') (λ i=>n-i) 0 ⟨rfl,rfl,rfl,trivial⟩ ⟨Nat.zero_le _,rfl⟩ ?_;rintro i _ ⟨hi,rfl⟩;have hicn:i<g.count:=by omega
 have hcell:w.cell? (at' (some ⟨R.u,0,none⟩) i)=some (.bool (bL g i)):=hux.row.cell (us_at hicn);by_cases hin:i<n
 ·have hui:bL g i=true:=lowP_used oM;rw [hui] at hcell;repeat (first|(refine aH ?_;refine aC (j:=i) rfl rfl rfl hicn (Nat.mul_one _) ⟨_,_,hux⟩ rfl ?_)|refine yC ?_)
  exact aE (i+1) ⟨rfl,rfl,rfl,trivial⟩ ⟨oM,rfl⟩ oM
 obtain rfl:i=n:=by omega
 rw [hnew.free] at hcell;repeat (first|(refine aH ?_;refine aC (j:=i) rfl rfl rfl hicn (Nat.mul_one _) ⟨_,_,hux⟩ rfl ?_)|refine yC ?_)
 refine aB 125 ?_;refine aA rfl (rpage_c F i oM a c b _ hs hm hbl) rfl ?_;rintro _ w2 ⟨u2,rfl,hown2,hg2⟩;have hlp:=lN i b oM;obtain ⟨a2,c2,rfl,hs2⟩:=aM hown2;have hc2:=hs2.cap;obtain ⟨pg,hpg⟩:∃ pg,pg=gQ i b:=⟨_,rfl⟩
 rw [← hpg] at hlp hs2;have h2:=h.grow hg2;have hl:=h.lts;have z2:=hg2.size
 have s1:Sl (λ k=>w.heap.size≤k∧k<w2.heap.size) w2 1 (eP a2 c2 0 1) 256 c2 (bB (pg.take 256)):=by
  have:=(eY (l:=0) (h:=256) (mm:=c2) hs2.tight oM oM oM (Nat.le_refl _)).mono (λ k hk=>(⟨hk.1.1,hk.2⟩:w.heap.size≤k∧k<w2.heap.size));simpa [bB,List.map_take] using this
 have s2:Sl (λ k=>w.heap.size≤k∧k<w2.heap.size) w2 1 (eP a2 c2 256 1) 256 (c2-256) (bB (pg.drop 256)):=by
  have:=(eY (l:=256) (h:=512) (mm:=c2) hs2.tight oM oM oM (Nat.le_refl _)).mono (λ k hk=>(⟨hk.1.1,hk.2⟩:w.heap.size≤k∧k<w2.heap.size));rw [List.take_of_length_le (by rw [List.length_drop,bE];omega)] at this;simpa [bB,List.map_drop] using this
 have hp2:=h2.blk;have hd2:=h2.dsk;obtain ⟨cs,hcl,hcb,hsec⟩:=h2.cache;repeat refine aF ?_
 apply T.any 8 [is (.pointer (some ⟨R.p,0,none⟩)),is (.pointer (some ⟨R.p,0,none⟩)),is (.pointer (some ⟨R.p,0,none⟩)),is (.pointer (some ⟨R.d,0,none⟩)),is (.int .i64 (i:Int)),is (.int .i64 ((2*i:Nat):Int)),is (.slice a2 512 c2),is (.slice (eP a2 c2 0 1) 256 c2)]
 ·rfl
 ·repeat' (first|exact aN|refine aK ?_ ?_)
  iterate 8
   ·refine yQ λ wq _ _ hgq=>?_;repeat (first|(refine eQ ?_;refine TL.mulN (a:=2) rfl rfl oM rfl ?_)|(refine cG ?_;refine dE (l:=0) (h:=256) (mm:=c2) rfl (aP _) (bI rfl rfl) (aP _) (by intro h;cases h) oM oM oM oM oM rfl ?_)|refine yC ?_)
    exact aD rfl yG rfl
 intro w5 lo5 hi5 hg5 _ _;((refine yT ?_))
 refine aB 126 ?_;refine aA rfl (rdwrite_c _ _ _ _ (2*g.count) (2*i) _ cs _ _ _ _ (hd2.grow hg5) (hcb.grow hg5) hcl oM oM (s1.grow hg5)) rfl ?_;rintro _ w6 ⟨rfl,g6,cap6,hcb6,hs6,hu6⟩;have z5:=hg5.size;have z6:=hu6.size;have hp6:=cD hu6 (hp2.grow hg5) h.ne.2.1;have hd6:=cD hu6 (hd2.grow hg5) h.ne.2.2.2.1;have hus6:=cD hu6 ((h2.used).grow hg5) (Ne.symm h.ne.2.2.2.2.2);have hbs6:ButS R.S w w6:=(ButS.grow (hg2.trans hg5)).trans (ButS.but hu6 (.inr (.inl rfl)));have s26:=((s2.grow hg5).tight.keep (w':=w6) (λ k hk hk2=>hu6.block k hk2 oM) z6)
 have cK6:Carry K w2 K w6:=(Carry.grow hg5).trans ⟨z6,λ k hk hl=>⟨hk,hu6.block k hl (λ e=>h.kne k hk (.inr (.inl e)))⟩⟩;repeat refine aF ?_
 apply T.any 9 [is (.pointer (some ⟨R.p,0,none⟩)),is (.pointer (some ⟨R.p,0,none⟩)),is (.pointer (some ⟨R.p,0,none⟩)),is (.pointer (some ⟨R.d,0,none⟩)),is (.int .i64 (i:Int)),is (.int .i64 ((2*i:Nat):Int)),is (.int .i64 ((2*i+1:Nat):Int)),is (.slice a2 512 c2),is (.slice (eP a2 c2 256 1) 256 (c2-256))]
 ·rfl
 ·repeat' (first|exact aN|refine aK ?_ ?_)
  iterate 9
   ·refine yQ λ wq _ _ hgq=>?_;repeat (first|(refine eQ ?_;refine TL.mulN (a:=2) rfl rfl oM rfl ?_)|(refine cG ?_;refine dE (l:=256) (h:=512) (mm:=c2) rfl (bI rfl rfl) (aP _) (aP _) (by intro h;rfl) oM oM oM oM oM rfl ?_)|refine yC ?_)
    exact aD rfl yG rfl
 intro w7 lo7 hi7 hg7 _ _;((refine yT ?_))
 refine aB 126 ?_;refine aA rfl (rdwrite_c _ _ _ _ (2*g.count) (2*i+1) _ _ _ _ _ _ (hd6.grow hg7) (hcb6.grow hg7) (by rw [List.length_set];exact hcl) oM oM (s26.grow hg7)) rfl ?_;rintro _ w8 ⟨rfl,g8,cap8,hcb8,hs8,hu8⟩;have z7:=hg7.size;have z8:=hu8.size;have hp8:=cD hu8 (hp6.grow hg7) h.ne.2.1;have hd8:=cD hu8 (hd6.grow hg7) h.ne.2.2.2.1;have hus8:=cD hu8 (hus6.grow hg7) (Ne.symm h.ne.2.2.2.2.2);have hbs8:ButS R.S w w8:=hbs6.trans ((ButS.grow hg7).trans (ButS.but hu8 (.inr (.inl rfl))));have hs68:=((hs6.grow hg7).tight.keep (w':=w8) (λ k hk hk2=>hu8.block k hk2 oM) z8)
 have cK8:Carry K w2 K w8:=cK6.trans ((Carry.grow hg7).trans ⟨z8,λ k hk hl=>⟨hk,hu8.block k hl (λ e=>h.kne k hk (.inr (.inl e)))⟩⟩);have hux8:=us_sl hus8 hcn;clear hu6 hu8 hg5 hg7 hcb6 hs6 hp6 hd6 hus6 hbs6 cK6;repeat (first|(refine aH ?_;refine aC (j:=i) rfl rfl rfl hicn (Nat.mul_one _) ⟨_,_,hux8⟩ rfl ?_;rw [show at' (some ⟨R.u,0,none⟩) i=⟨R.u,i,none⟩ by rw [at_some,Nat.zero_add]])|(refine bZ ?_;refine dQ rfl rfl hus8 rfl (by rw [nO];exact Nat.ble_eq_true_of_le hicn) (us_new hnew) ?_;intro w9 hu9 hb9 _)|refine yC ?_)
 have z9:=hu9.size;have cK9:Carry K w2 K w9:=cK8.trans ⟨oM,λ k hk hl=>⟨hk,hu9.block k (λ e=>h.kne k hk (.inr (.inr e)))⟩⟩;have n6:Sl K w9 1 (some ⟨g6,0,none⟩) 256 cap6 (bB (pg.take 256)):=(hs68.upd hu9 (λ k hk=>by have:=hk.1;omega)).mono (λ k hk=>hK k (by have:=hk.1;omega));have n8:Sl K w9 1 (some ⟨g8,0,none⟩) 256 cap8 (bB (pg.drop 256)):=(hs8.upd hu9 (λ k hk=>by omega)).mono (λ k hk=>hK k oM);refine fM rfl rfl ⟨_,rfl,rfl,⟨?_,?_,hb9,hnew.ok,?_,?_,?_,h.kne,h.ne⟩,hbs8.trans (ButS.but (but_upd hu9 (But.refl _ _)) (.inr (.inr rfl)))⟩
 ·rw [hnew.count];exact hp8.upd hu9 h.ne.2.2.1
 ·rw [hnew.count];exact hd8.upd hu9 h.ne.2.2.2.2.1
 ·refine ⟨_,by rw [hnew.count,List.length_set,List.length_set];exact hcl,hcb8.upd hu9 h.ne.2.2.2.2.2,λ k hk=>?_⟩;rw [hnew.used] at hk;by_cases hki:k=i
  ·subst hki;rw [hnew.body,show padB b=dB b from rfl,pageB_body k b oM,← hpg];exact ⟨⟨_,_,by rw [List.getElem?_set,if_neg oM,List.getElem?_set,if_pos rfl,if_pos oM],n6⟩,⟨_,_,by rw [List.getElem?_set,if_pos rfl,if_pos (by rw [List.length_set];omega)],n8⟩⟩
  ·have hk2:bL g k=true:=by simpa [hki] using hk
   have hkl:=dW hk2;rw [hnew.other k hki];obtain ⟨e1,e2⟩:=hsec k hk2;obtain ⟨a1,c1,f1,f2⟩:=(e1.go cK9).ex;obtain ⟨a3,c3,f3,f4⟩:=(e2.go cK9).ex;exact ⟨⟨a1,c1,by rw [List.getElem?_set,if_neg oM,List.getElem?_set,if_neg oM];exact f1,f2⟩,⟨a3,c3,by rw [List.getElem?_set,if_neg oM,List.getElem?_set,if_neg oM];exact f3,f4⟩⟩
 ·intro k x hx;by_cases hki:k=i
  ·subst hki;rw [hnew.body] at hx;exact body_lt hbl x hx
  ·rw [hnew.other k hki] at hx;exact h.lt k x hx
 ·intro k hk;rw [hnew.used] at hk;by_cases hki:k=i
  ·subst hki;rw [hnew.body];exact jE b oM
  ·rw [hnew.other k hki];exact h.bl k (by simpa [hki] using hk)
theorem grow_own {w w4 w5:World} {v:Value} {xs:List Value} {n e:Nat} (hg:Grow w w4) (ho:w4.ownsRow w.heap.size e 1 v n xs) (hgb:w4.grownBy w5 v.ownBlock):Grow w w5 :=
 ⟨aL hgb hg.2 (λ k hk=>(aT ho hk).1) hg.1,by have:=hg.2;have:=hgb.size;omega⟩
theorem own_full {w:World} {base el sz b c:Nat} {xs:List Value} (h:w.ownsRow base el sz (.slice (some ⟨b,0,none⟩) c c) c xs):base≤b∧Blk w b el xs:=by
 obtain ⟨hl,h|⟨g,cap,cur,e,h1,h2,h3,h4,h5,h6⟩⟩:=h
 ·cases h.1
 ·cases e;refine ⟨h1,?_⟩;unfold Blk;rw [List.take_of_length_le (by simp;omega)] at h6;rw [← h6];simpa using h2
theorem usedL_cons (g:Pg) (i:Nat):(List.range (i+1)).filter (λ n=>bL g n)=(List.range i).filter (λ n=>bL g n)++if bL g i then [i] else []:=by
 rw [List.range_succ,List.filter_append];congr 1
 cases h:bL g i<;>simp [h]
theorem rused_c {K:Nat→Prop} {w:World} {R:RL} {g:Pg} (h:RfAt K w R g) :
  Calls Tryz.prog 38 #[.pointer (some ⟨R.p,0,none⟩)] w (Ret λ v w'=>w'.ownsRow w.heap.size 3 1 v (usedL g).length (bC (usedL g))∧Grow w w'):=by
 have hcn:=h.cnt;refine V.calls (args:=[_]) Tryz.func38 rfl Tryz.ntmps38 rfl rfl ?_;repeat refine aF ?_
 refine aX (S:=Value×Nat) (λ q=>[(4,.int .i64 (q.2:Int)),(3,q.1),(0,.pointer (some ⟨R.p,0,none⟩))])
  (λ q w2=>q.2≤g.count∧w2.ownsRow w.heap.size 3 1 q.1 ((List.range q.2).filter λ n=>bL g n).length (bC ((List.range q.2).filter λ n=>bL g n))∧Grow w w2)
  (λ q=>g.count-q.2) (.slice none 0 0,0) ⟨rfl,rfl,rfl,trivial⟩ ⟨Nat.zero_le _,World.ownsRow_nil _ _ _ _,Grow.refl _⟩ ?_
 rintro ⟨v,i⟩ w2 ⟨hi,hown,hg2⟩;simp only at hi hown;have h2:=h.grow hg2;have hb:=h2.blk;have hux:=us_sl h2.used hcn;have z2:=hg2.size;by_cases hlt:i<g.count
 ·have hcell:w2.cell? (at' (some ⟨R.u,0,none⟩) i)=some (.bool (bL g i)):=hux.row.cell (us_at hlt);have hcons:=usedL_cons g i;have hlen:((List.range i).filter λ n=>bL g n).length≤i:=Nat.le_trans (List.length_filter_le _ _) sM
  cases hu:bL g i with
  | false =>
   rw [hu] at hcell hcons;simp only [Bool.false_eq_true,if_false,List.append_nil] at hcons;repeat (first|(refine aH ?_;refine aC (j:=i) rfl rfl rfl hlt (Nat.mul_one _) ⟨_,_,hux⟩ rfl ?_)|refine yC ?_)
   exact aE (v,i+1) ⟨rfl,rfl,rfl,trivial⟩ ⟨hlt,by simp only;rw [hcons];exact hown,hg2⟩ (by simp only;omega)
  | true =>
   rw [hu] at hcell hcons;simp only [if_true] at hcons;repeat (first|(refine aH ?_;refine aC (j:=i) rfl rfl rfl hlt (Nat.mul_one _) ⟨_,_,hux⟩ rfl ?_)|refine yC ?_)
   refine TL.buildSlice rfl rfl rfl rfl rfl ?_;intro b' wa hga hba hsa hsb hsc;have hsl:Sl (λ _=>True) wa 1 (some ⟨b',0,none⟩) 1 1 (bC [i]):=(aV (sz:=1) (m:=1) hba hsc dM).mono (λ _ _=>trivial);have hga':=hga.size;refine TL.append rfl rfl (aS hown hga) hsl (gD _) (by unfold maxLen;omega) oM oM rfl ?_;intro v' wb hownb hgb _;have hgn:Grow w wb:=grow_own (hg2.trans hga) (aS hown hga) hgb;repeat refine aF ?_
   refine aE (v',i+1) ⟨rfl,rfl,rfl,trivial⟩ ⟨hlt,?_,hgn⟩ (by simp only;omega);simp only;rw [hcons,List.length_append];have e:bC (((List.range i).filter λ n=>bL g n)++[i])=bC ((List.range i).filter λ n=>bL g n)++bC [i]:=by simp [bC]
   rw [e];exact hownb
 ·obtain rfl:i=g.count:=by omega
  repeat refine aF ?_
  exact bA rfl ⟨_,rfl,hown,hg2⟩
theorem rspare_c {K:Nat→Prop} {w:World} {R:RL} {g:Pg} (h:RfAt K w R g) :
  Calls Tryz.prog 106 #[.pointer (some ⟨R.p,0,none⟩)] w (Ret λ v w'=>v=.int .i64 (cR g:Int)∧Grow w w'):=by
 have hcn:=h.cnt;have hb:=h.blk;have htl:=nF g;refine V.calls (args:=[_]) Tryz.func106 rfl Tryz.ntmps106 rfl rfl ?_;repeat refine aF ?_
 apply T.any 8 [is (.pointer (some ⟨R.p,0,none⟩)),is (.pointer (some ⟨R.p,0,none⟩)),is (.pointer (some ⟨R.p,1,none⟩)),is (.slice (some ⟨R.u,0,none⟩) g.count g.count),is (.int .i64 (g.count:Int)),is (.pointer (some ⟨R.p,0,none⟩)),own w.heap.size 3 1 (usedL g).length (bC (usedL g)),is (.int .i64 ((usedL g).length:Int))]
 ·rfl
 ·repeat' (first|exact aN|refine aK ?_ ?_)
  iterate 6
   ·refine yQ λ wq _ _ hgq=>?_;repeat refine aF ?_
    exact aD rfl yG rfl
  ·refine yQ λ wq _ _ hgq=>?_;have hq:=hgq.size;refine aB 38 ?_;refine aA rfl (rused_c (h.grow hgq)) rfl ?_;rintro v5 w5 ⟨hown5,hg5⟩;repeat refine aF ?_
   exact aD rfl yG (eC hown5 hq)
  ·(((refine bX rfl rfl rfl ?_);( intro wq _ _ hgq;(repeat (refine aJ rfl rfl ?_;intro vq hvq;try (obtain rfl:=hvq)));(refine aZ ?_))))
   obtain ⟨a,c,rfl,_⟩:=aM hvq;repeat refine aF ?_
   exact aD rfl yG rfl
 intro w5 lo5 hi5 hg5 _ _;((((repeat (refine aJ rfl rfl ?_;intro vq hvq;try (obtain rfl:=hvq)));(refine aZ ?_))))
 rw [usedL_len];repeat refine aF ?_
 refine bA rfl ⟨_,rfl,rfl,hg5⟩
theorem us_keep {g:Pg} (hok:PgOk g) {qs:List Nat} (hq:∀ q∈qs,bL g q=true):us (jJ g qs)=(List.range g.count).map λ n=>.bool (decide (n∈qs)):=by
 unfold us;show (List.range g.count).map _=_;apply List.map_congr_left;intro n _;rw [kI hok hq]
def mkU (c:Nat) (l:List Nat):List Value:=(List.range c).map λ n=>.bool (decide (n∈l))
theorem length_mkU (c:Nat) (l:List Nat):(mkU c l).length=c:=by simp [mkU]
theorem mkU_set {c q:Nat} {l:List Nat} (h:q<c):(mkU c l).set q (.bool true)=mkU c (l++[q]):=by
 apply List.ext_getElem?;intro i;rw [List.getElem?_set];by_cases hi:q=i
 ·subst hi;rw [if_pos rfl,if_pos (by rw [length_mkU];exact h)];simp [mkU,h]
 ·rw [if_neg hi];simp only [mkU,List.getElem?_map,List.mem_append,List.mem_singleton];by_cases hlt:i<c
  ·have:i≠q:=λ e=>hi e.symm;simp [hlt,this]
  ·simp [hlt]
theorem mkU_zero (c:Nat):(madeCells (Value.bool false).cells (c*1)).toList=mkU c []:=by
 have h0:∀ i:Nat,(Value.bool false).cells[i%(Value.bool false).cells.size]! = .bool false:=by
  intro i;rw [show i%(Value.bool false).cells.size=0 from Nat.mod_one i];rfl
 simp only [mkU,madeCells,Nat.mul_one,Array.toList_map,Array.toList_range,h0];simp
theorem rkeep_c {K F:Nat→Prop} {w:World} {R:RL} {g:Pg} (h:RfAt K w R g) {a:Option Addr} {n c:Nat} {qs:List Nat} (hs:Sl F w 1 a n c (bC qs)) (hF:∀ k,F k→k<w.heap.size) (hq:∀ q∈qs,bL g q=true) :
  Calls Tryz.prog 36 #[.pointer (some ⟨R.p,0,none⟩),.slice a n c] w (Ret λ v w'=>∃ u,w.heap.size≤u∧v=.tuple #[.int .i64 ((fQ g:Int)-(fQ (jJ g qs):Int)),.int .i64 0]∧RfAt (λ k=>K k∧k≠u) w' ⟨R.p,R.d,R.b,R.c,u⟩ (jJ g qs)∧ButS (λ k=>k=R.p) w w'):=by
 have hcn:=h.cnt;have hb:=h.blk;have hl:=h.lts;have hnq:=bR hs;refine V.calls (args:=[_,_]) Tryz.func36 rfl Tryz.ntmps36 rfl rfl ?_;repeat refine aF ?_
 refine TL.isMake ?_;refine jB (c:=g.count) rfl rfl oM (by unfold maxLen;omega) rfl ?_;intro u w1 hu1 hown1 hg1;obtain ⟨hu0,hbu⟩:=own_full hown1;rw [mkU_zero] at hbu;have hnle:=hs.le;have hqc:∀ q∈qs,q<g.count:=λ q hm=>dW (hq q hm);clear hown1;repeat refine aF ?_
 refine aX (S:=Nat) (λ i=>[(7,.int .i64 (i:Int)),(6,.slice (some ⟨u,0,none⟩) g.count g.count),(1,.slice a n c),(0,.pointer (some ⟨R.p,0,none⟩))]) (λ i w2=>i≤n∧Blk w2 u 4 (mkU g.count (qs.take i))∧Grow w w2) (λ i=>n-i) 0 ⟨rfl,rfl,rfl,rfl,trivial⟩ ⟨Nat.zero_le _,by simpa using hbu,hg1⟩ ?_;clear hbu hg1;rintro i w2 ⟨hi,hbu,hg2⟩;have z2:=hg2.size;have hul:=hbu.lt;by_cases hlt:i<n
 ·obtain ⟨q,hqi⟩:∃ q,qs[i]? = some q:=⟨_,List.getElem?_eq_getElem oM⟩
  have hqm:=List.mem_of_getElem? hqi;have hql:=hqc q hqm;have hcx:w2.cell? (at' a i)=some (.int .i64 (q:Int)):=(hs.grow hg2).row.cell (jR hqi);have his:=ris_c (h.grow hg2) q oM;rw [hq q hqm] at his;have hux:Sl (λ k=>k=u) w2 1 (some ⟨u,0,none⟩) g.count g.count (mkU g.count (qs.take i)):=aV (sz:=1) (m:=g.count) hbu (by rw [length_mkU,Nat.mul_one]) (by unfold maxLen;omega);repeat (first|(refine aB 117 ?_;refine aA rfl (his) rfl ?_;rintro _ _ ⟨rfl,rfl⟩)|(refine aH ?_;first|refine aC (j:=i) rfl rfl rfl hlt (Nat.mul_one _) ⟨F,_,hs.grow hg2⟩ rfl ?_|(refine aC (j:=q) rfl rfl rfl hql (Nat.mul_one _) ⟨_,_,hux⟩ rfl ?_;rw [show at' (some ⟨u,0,none⟩) q=⟨u,q,none⟩ by rw [at_some,Nat.zero_add]]))|(refine bZ ?_;refine dQ rfl rfl hbu rfl (by rw [length_mkU];exact Nat.ble_eq_true_of_le hql) (mkU_set hql) ?_;intro w3 hu3 hb3 _)|refine yC ?_)
  refine aE (i+1) ⟨rfl,rfl,rfl,rfl,trivial⟩ ⟨hlt,?_,aI hu3 oM hg2⟩ oM;rw [eA hqi];exact hb3
 obtain rfl:i=n:=by omega
 rw [List.take_of_length_le oM] at hbu;have hp2:=hb.grow hg2;repeat refine aF ?_
 refine aB 38 ?_;refine aA rfl (rused_c (h.grow hg2)) rfl ?_;rintro v3 w3 ⟨hown3,hg3⟩;obtain ⟨a3,c3,rfl,_⟩:=aM hown3;have hp3:=hp2.grow hg3;have hg13:=hg2.trans hg3;have hbu3:=hbu.grow hg3;have z3:=hg3.size;clear hp2 hbu hown3;rw [usedL_len];repeat (first|refine aF ?_|refine yJ λ w' hu hbk hsz=>?_)
 have hgc:(jJ g qs).count=g.count:=rfl;have hz:=hu.size;have hne:=h.ne
 have hR:RfAt (λ k=>K k∧k≠u) w' ⟨R.p,R.d,R.b,R.c,u⟩ (jJ g qs):=by
  obtain ⟨cs,hcl,hcb,hsec⟩:=h.cache;have cc:Carry K w (λ k=>K k∧k≠u) w':=⟨oM,λ k hk hl2=>⟨⟨hk,oM⟩,(hu.block k (λ e=>h.kne k hk (.inl e))).trans (hg13.block k hl2)⟩⟩
  refine ⟨hbk,(h.dsk.grow hg13).upd hu (Ne.symm hne.1),?_,keep_ok h.ok hq,⟨cs,hcl,(hcb.grow hg13).upd hu (Ne.symm hne.2.1),λ k hk=>?_⟩,h.lt,λ k hk=>?_,λ k hk hS=>?_,?_⟩
  ·rw [us_keep h.ok hq];exact hbu3.upd hu (by show u≠R.p;omega)
  ·rw [kI h.ok hq] at hk;have hk2:=hq k (of_decide_eq_true hk);exact ⟨(hsec k hk2).1.go cc,(hsec k hk2).2.go cc⟩
  ·rw [kI h.ok hq] at hk;exact h.bl k (hq k (of_decide_eq_true hk))
  ·have:=h.kne k hk.1;unfold RL.S at hS this;simp only at hS;omega
  ·exact ⟨hne.1,hne.2.1,by show R.p≠u;omega,hne.2.2.2.1,by show R.d≠u;omega,by show R.c≠u;omega⟩
 refine aB 38 ?_;refine aA rfl (rused_c (R:=⟨R.p,R.d,R.b,R.c,u⟩) hR) rfl ?_;rintro v4 w4 ⟨hown4,hg4⟩;obtain ⟨a4,c4,rfl,_⟩:=aM hown4;rw [usedL_len];have ht1:=nF g;have ht2:=nF (jJ g qs);repeat (first|(refine iP ?_;refine TL.subI rfl rfl oM oM rfl ?_)|refine yC ?_)
 refine fM rfl rfl ⟨_,rfl,u,hu0,rfl,hR.grow hg4,?_⟩;exact ((ButS.grow hg13).trans (ButS.but (S:=λ k=>k=R.p) (but_upd hu (But.refl _ _)) rfl)).trans (ButS.grow hg4)
theorem made_of (z:Value) (h:z.cells = #[z]) (m:Nat):(madeCells z.cells (m*1)).toList=List.replicate m z:=by
 have h0:∀ x:Nat,z.cells[x%z.cells.size]! = z:=λ x=>by
  rw [h];simp [Nat.mod_one]
 simp only [madeCells,Nat.mul_one,Array.toList_map,Array.toList_range,h0];rw [List.map_const',List.length_range]
def mkS {B:Nat} (el:TypeId) (m:Nat) (cs:List Value):SFact B:={ G:=λ v lo hi w=>∃ b,v=.slice (some ⟨b,0,none⟩) m m∧B≤b∧Blk w b el cs,st:=λ v _ _ w w' g h=>by obtain ⟨b,h1,h2,h4⟩:=h;exact ⟨b,h1,h2,h4.grow g⟩ }
def dskA (B n:Nat) (v:Value) (w:World):Prop:=∃ b c,v=.agg #[.slice (some ⟨b,0,none⟩) (n*256) (n*256),.slice (some ⟨c,0,none⟩) n n]∧B≤b∧B≤c∧Blk w c 30 (List.replicate n (.slice none 0 0))
def dskF {B:Nat} (n:Nat):SFact B:={ G:=λ v _ _ w=>dskA B n v w,st:=λ v _ _ w w' g h=>by obtain ⟨b,c,h1,h2,h3,h4⟩:=h;exact ⟨b,c,h1,h2,h3,h4.grow g⟩ }
def dskP {B:Nat} (n:Nat):SFact B:={ G:=λ v _ _ w=>∃ d b c,v=.pointer (some ⟨d,0,none⟩)∧B≤d∧B≤b∧B≤c∧Blk w d 171 [.slice (some ⟨b,0,none⟩) (n*256) (n*256),.slice (some ⟨c,0,none⟩) n n]∧Blk w c 30 (List.replicate n (.slice none 0 0)),st:=λ v _ _ w w' g h=>by obtain ⟨d,b,c,h1,h2,h3,h4,h5,h6⟩:=h;exact ⟨d,b,c,h1,h2,h3,h4,h5.grow g,h6.grow g⟩ }
theorem rdisk_c (n:Nat) (w:World) (h1:1≤n) (h2:n≤16384) :
  Calls Tryz.prog 31 #[.int .i64 (n:Int)] w (Ret λ v w'=>∃ d b c,v=.tuple #[.pointer (some ⟨d,0,none⟩),.int .i64 0]∧w.heap.size≤d∧w.heap.size≤b∧w.heap.size≤c∧Blk w' d 171 [.slice (some ⟨b,0,none⟩) (n*256) (n*256),.slice (some ⟨c,0,none⟩) n n]∧Blk w' c 30 (List.replicate n (.slice none 0 0))∧Grow w w'):=by
 refine V.calls (args:=[_]) Tryz.func31 rfl Tryz.ntmps31 rfl rfl ?_;repeat refine aF ?_
 apply T.any 7 [is (.int .i64 (n:Int)),is (.int .i64 ((n*256:Nat):Int)),mkS 5 (n*256) (List.replicate (n*256) (.int .u8 0)),is (.int .i64 (n:Int)),mkS 30 n (List.replicate n (.slice none 0 0)),dskF n,dskP n]
 ·rfl
 ·repeat' (first|exact aN|refine aK ?_ ?_)
  ·refine yQ λ wq _ _ hgq=>?_;repeat refine aF ?_
   exact aD rfl yG rfl
  ·refine yQ λ wq _ _ hgq=>?_;refine TL.mulN (a:=n) (b:=256) rfl rfl oM rfl ?_;repeat refine aF ?_
   exact aD rfl yG rfl
  ·refine yQ λ wq _ _ hgq=>?_;refine jB (c:=n*256) (z:=.int .u8 0) rfl rfl oM (by unfold maxLen;omega) rfl ?_;intro b w2 hb hown hg2;obtain ⟨hb0,hbb⟩:=own_full hown;rw [made_of _ rfl] at hbb;have:=hbb.lt;repeat refine aF ?_
   exact aD rfl yG ⟨b,rfl,Nat.le_trans hgq.size hb0,hbb⟩
  ·refine yQ λ wq _ _ hgq=>?_;repeat refine aF ?_
   exact aD rfl yG rfl
  ·refine yQ λ wq _ _ hgq=>?_;refine jB (c:=n) (z:=.slice none 0 0) rfl rfl oM (by unfold maxLen;omega) rfl ?_;intro b w2 hb hown hg2;obtain ⟨hb0,hbb⟩:=own_full hown;rw [made_of _ rfl] at hbb;have:=hbb.lt;repeat refine aF ?_
   exact aD rfl yG ⟨b,rfl,Nat.le_trans hgq.size hb0,hbb⟩
  ·refine bX rfl rfl rfl ?_;intro wq _ _ hgq;refine aJ rfl rfl ?_;intro v2 h2;refine aJ rfl rfl ?_;intro v4 h4;refine aZ ?_;obtain ⟨b2,rfl,l2,k2⟩:=h2;obtain ⟨b4,rfl,l4,k4⟩:=h4;repeat refine aF ?_
   exact aD rfl yG ⟨b2,b4,rfl,l2,l4,k4⟩
  ·(((refine bX rfl rfl rfl ?_);( intro wq _ _ hgq;(repeat (refine aJ rfl rfl ?_;intro vq hvq;try (obtain rfl:=hvq)));(refine aZ ?_))))
   obtain ⟨b,c,rfl,l2,l4,k4⟩:=hvq;have hq:=hgq.size;repeat (first|refine aF ?_|refine yI λ bk w' hg hbk hsz hsz'=>?_)
   exact aD rfl yG ⟨bk,b,c,rfl,oM,l2,l4,hbk,yB⟩
 intro w5 lo5 hi5 hg5 _ _;((((repeat (refine aJ rfl rfl ?_;intro vq hvq;try (obtain rfl:=hvq)));(refine aZ ?_))))
 obtain ⟨d,b,c,rfl,q1,q2,q3,q4,q5⟩:=hvq;repeat refine aF ?_
 exact fM rfl rfl ⟨_,rfl,d,b,c,rfl,q1,q2,q3,q4,q5,hg5⟩
instance ptrRDisk:PtrTy Tryz.prog 62:=⟨kR⟩
instance ptrRPages:PtrTy Tryz.prog 65:=⟨kR⟩
theorem us_pg0 (c:Nat):us (pg0 c)=List.replicate c (.bool false):=by
 unfold us;simp only [nJ];show (List.range c).map (λ _=>Value.bool false)=_;rw [List.map_const',List.length_range]
theorem ropen_c (c d b cc:Nat) (w:World) (h1:1≤c) (h2:c≤8192) (hd:Blk w d 171 [.slice (some ⟨b,0,none⟩) ((2*c)*256) ((2*c)*256),.slice (some ⟨cc,0,none⟩) (2*c) (2*c)]) (hc:Blk w cc 30 (List.replicate (2*c) (.slice none 0 0))) (hdc:d≠cc) :
  Calls Tryz.prog 32 #[.pointer (some ⟨d,0,none⟩),.slice none 0 0] w (Ret λ v w'=>∃ p u,v=.tuple #[.pointer (some ⟨p,0,none⟩),.int .i64 0]∧w.heap.size≤p∧w.heap.size≤u∧(∀ K:Nat→Prop,(∀ k,K k→¬ RL.S ⟨p,d,b,cc,u⟩ k)→RfAt K w' ⟨p,d,b,cc,u⟩ (pg0 c))∧Grow w w'):=by
 refine V.calls (args:=[_,_]) Tryz.func32 rfl Tryz.ntmps32 rfl rfl ?_;repeat (first|(refine aB 103 ?_;refine aA rfl (rsize_c d _ _ (2*c) _ _ hd) rfl ?_;rintro _ _ ⟨rfl,rfl⟩)|(refine kU 62 ?_;refine TL.eqNilP rfl rfl rfl ?_)|refine yC ?_)
 rw [show 2*c / 2=c by omega];refine TL.isMake ?_;refine jB (c:=c) (z:=.bool false) rfl rfl oM (by unfold maxLen;omega) rfl ?_;intro u w2 hu hown hg2;obtain ⟨hu0,hbu⟩:=own_full hown;rw [made_of _ rfl] at hbu;have hul:=hbu.lt;clear hown;have hdl:=hd.lt;have hcl:=hc.lt;have z2:=hg2.size;repeat (first|refine aF ?_|refine yI λ bk w' hg hbk hsz hsz'=>?_)
 refine aX (S:=Nat) (λ _=>[(7,.int .i64 0),(6,.pointer (some ⟨bk,0,none⟩)),(1,.slice none 0 0)]) (λ i w3=>i=0∧w'=w3) (λ i=>i) 0 ⟨rfl,rfl,rfl,trivial⟩ ⟨rfl,rfl⟩ ?_;rintro _ _ ⟨rfl,rfl⟩;repeat refine aF ?_
 refine fM rfl rfl ⟨_,rfl,bk,u,rfl,oM,oM,λ K hK=>?_,hg2.trans hg⟩;refine ⟨hbk,?_,by rw [us_pg0];exact hbu.grow hg,pg0_ok c h2,⟨_,by rw [List.length_replicate];rfl,(hc.grow hg2).grow hg,λ n hn=>(by rw [nJ] at hn;cases hn)⟩,λ n x hx=>(by cases hx),λ n hn=>(by rw [nJ] at hn;cases hn),hK,?_⟩
 ·rw [show 512*(pg0 c).count=2*c*256 by show 512*c=_;omega];exact (hd.grow hg2).grow hg
 ·show bk≠d∧bk≠cc∧bk≠u∧d≠cc∧d≠u∧cc≠u;omega
theorem RfAt.tight {K:Nat→Prop} {w:World} {R:RL} {g:Pg} (h:RfAt K w R g):RfAt (λ k=>K k∧k<w.heap.size) w R g:=by
 obtain ⟨cs,h1,h2,h3⟩:=h.cache;have cc:Carry K w (λ k=>K k∧k<w.heap.size) w:=Carry.mono λ k hk hl=>⟨hk,hl⟩
 exact ⟨h.blk,h.dsk,h.used,h.ok,⟨cs,h1,h2,λ n hn=>⟨(h3 n hn).1.go cc,(h3 n hn).2.go cc⟩⟩,h.lt,h.bl,λ k hk=>h.kne k hk.1,h.ne⟩
theorem rnode_c {K:Nat→Prop} {w:World} {R:RL} {g:Pg} (h:RfAt K w R g) (n:Nat) (nd:Nd) (hn:cB g n=some nd) :
  Calls Tryz.prog 113 #[.pointer (some ⟨R.p,0,none⟩),.int .i64 (n:Int)] w (Ret λ v w'=>∃ x:NV,v=.tuple #[x.val,.int .i64 0]∧NdAt (λ k=>w.heap.size≤k) w' x nd∧Grow w w'):=by
 obtain ⟨hok,z,hz⟩:=nodeP_body h.lt hn;have hu:=dN hn;have hbl:=h.bl n hu;refine V.calls (args:=[_,_]) Tryz.func113 rfl Tryz.ntmps113 rfl rfl ?_;repeat (first|refine aF ?_|refine yI λ bk w' hg hbk hsz hsz'=>?_)
 refine aB 166 ?_;refine aA rfl (rpread_c (h.grow hg) n hu) rfl ?_;rintro _ w2 ⟨u,rfl,hown,hg2⟩;obtain ⟨a,c,rfl,hs⟩:=aM hown;have hbk2:Blk w2 bk 79 nil3:=Blk.grow hg2 hbk;have hgw:=hg.trans hg2;have z1:=hg2.size;have z2:=hgw.size;clear hbk hg hg2 hown;repeat refine aF ?_
 refine aB 167 ?_;rw [← hbl] at hs ⊢;refine aA rfl (rread_n _ a c nd z (g.body n) _ hz hs oM hok) rfl ?_;rintro _ w3 ⟨x,rfl,hnd,hg3⟩;have hbk3:=hbk2.grow hg3;have hgw3:=hgw.trans hg3;have z3:=hg3.size;clear hbk2 hgw hg3 hs;repeat (first|refine aF ?_|refine yJ λ w' hu hbk hsz=>?_)
 exact fN rfl (aW hbk rfl) rfl ⟨_,rfl,x,rfl,(hnd.go (Carry.upd hu (λ k hk _=>by omega))).go (Carry.mono λ k hk _=>by omega),aI hu oM hgw3⟩
theorem rin_no (F:Nat→Prop) (a:Option Addr) (n c:Nat) (l:List Nat) (k:Nat) (w:World) (hs:Sl F w 1 a n c (bC l)) (hk:k∉l) :
  Calls Tryz.prog 209 #[.slice a n c,.int .i64 (k:Int)] w (Ret λ v w'=>v=.bool false∧w=w'):=by
 refine V.calls (args:=[_,_]) Tryz.func209 rfl Tryz.ntmps209 rfl rfl ?_;have hn:=bR hs;have hle:=hs.le;repeat refine aF ?_
 refine aX (S:=Nat) (λ i=>[(5,.int .i64 (i:Int)),(0,.slice a n c),(1,.int .i64 (k:Int))]) (λ i w'=>w=w'∧i≤n) (λ i=>n-i) 0 ⟨rfl,rfl,rfl,trivial⟩ ⟨rfl,Nat.zero_le _⟩ ?_;rintro i _ ⟨rfl,hi⟩;by_cases hlt:i<n
 ·obtain ⟨p,hp⟩:∃ p,l[i]? = some p:=⟨_,List.getElem?_eq_getElem oM⟩
  have hcx:w.cell? (at' a i)=some (.int .i64 (p:Int)):=hs.row.cell (jR hp);have hne:p≠k:=λ e=>hk (e▸List.mem_of_getElem? hp);repeat (first|(refine aH ?_;refine aC rfl rfl rfl hlt (Nat.mul_one _) ⟨F,_,hs⟩ rfl ?_)|refine yC ?_)
  exact aE (i+1) ⟨rfl,rfl,rfl,trivial⟩ ⟨rfl,oM⟩ oM
 ·repeat refine aF ?_
  exact bA rfl ⟨_,rfl,rfl,rfl⟩
theorem rwithin_c (F G H:Nat→Prop) (a b d:Option Addr) (c e f:Nat) (k fr to:Bs) (w:World) (hk:Sl F w 1 a k.length c (bB k)) (hf:Sl G w 1 b fr.length e (bB fr)) (ht:Sl H w 1 d to.length f (bB to)) (h1:fr=[]∨¬ eO k fr) (h2:to=[]∨eO k to) :
  Calls Tryz.prog 210 #[.slice a k.length c,.slice b fr.length e,.slice d to.length f] w (Ret λ v w'=>v=.bool true∧Grow w w'):=by
 refine V.calls (args:=[_,_,_]) Tryz.func210 rfl Tryz.ntmps210 rfl rfl ?_;by_cases hf0:fr.length=0
 ·by_cases ht0:to.length=0
  ·repeat refine aF ?_
   exact bA rfl ⟨_,rfl,rfl,yG⟩
  ·have c2:bW k to<0:=by
    rcases h2 with h2|h2
    ·rw [h2] at ht0;simp at ht0
    ·exact h2
   repeat (first|(refine aB 140 ?_;refine aA rfl (fF _ _ _ _ _ _ _ _ _ _ _ (hk.grow yG) (ht.grow yG)) rfl ?_;rintro _ _ ⟨rfl,hgc⟩)|refine yC ?_)
   exact bA rfl ⟨_,rfl,rfl,yG⟩
 ·have c1:bW fr k≤0:=by
   rcases h1 with h1|h1
   ·rw [h1] at hf0;simp at hf0
   ·exact cmpB_le.2 h1
  by_cases ht0:to.length=0
  ·repeat (first|(refine aB 140 ?_;refine aA rfl (fF _ _ _ _ _ _ _ _ _ _ _ (hf.grow yG) (hk.grow yG)) rfl ?_;rintro _ _ ⟨rfl,hgc⟩)|refine yC ?_)
   exact bA rfl ⟨_,rfl,rfl,yG⟩
  ·have c2:bW k to<0:=by
    rcases h2 with h2|h2
    ·rw [h2] at ht0;simp at ht0
    ·exact h2
   repeat refine aF ?_
   refine aB 140 ?_;refine aA rfl (fF _ _ _ _ _ _ _ _ _ _ _ hf hk) rfl ?_;rintro _ w2 ⟨rfl,hg2⟩;repeat refine aF ?_
   refine aB 140 ?_;refine aA rfl (fF _ _ _ _ _ _ _ _ _ _ _ (hk.grow hg2) (ht.grow hg2)) rfl ?_;rintro _ w3 ⟨rfl,hg3⟩;repeat refine aF ?_
   exact bA rfl ⟨_,rfl,rfl,hg2.trans hg3⟩
structure WkTo (w w':World) (sb:Nat) (pv iv pv' iv':Value):Prop where
 os:w'.os=w.os
 tape:w'.tape=w.tape
 output:w'.output=w.output
 size:w.heap.size≤w'.heap.size
 block:∀ k,k<w.heap.size→k≠sb→pv.ownBlock≠some k→iv.ownBlock≠some k→w'.heap[k]? = w.heap[k]?
 np:∀ j,j<w.heap.size→pv.ownBlock≠some j→pv'.ownBlock≠some j
 ni:∀ j,j<w.heap.size→iv.ownBlock≠some j→iv'.ownBlock≠some j
def QF (sb:Nat) (pv iv:Value) (k:Nat):Prop:=k≠sb∧pv.ownBlock≠some k∧iv.ownBlock≠some k
section
variable {a b c w w' w0:World} {sb:Nat} {p i p1 i1 p2 i2 p' i':Value}
theorem WkTo.trans (h:WkTo a b sb p i p1 i1) (k:WkTo b c sb p1 i1 p2 i2):WkTo a c sb p i p2 i2 :=
 ⟨k.os.trans h.os,k.tape.trans h.tape,k.output.trans h.output,Nat.le_trans h.size k.size,
  λ j hj h1 h2 h3=>(k.block j (Nat.lt_of_lt_of_le hj h.size) h1 (h.np j hj h2) (h.ni j hj h3)).trans (h.block j hj h1 h2 h3),
  λ j hj h2=>k.np j (Nat.lt_of_lt_of_le hj h.size) (h.np j hj h2),λ j hj h2=>k.ni j (Nat.lt_of_lt_of_le hj h.size) (h.ni j hj h2)⟩
theorem WkTo.grow (g:Grow w w'):WkTo w w' sb p i p i:=⟨g.1.os,g.1.tape,g.1.output,g.2,λ k hk _ _ _=>g.block k hk,λ _ _ h=>h,λ _ _ h=>h⟩
theorem WkTo.upd (h:WkTo w0 w sb p i p1 i1) {d:Nat} (u:Upd d w w') (hd:d=sb∨w0.heap.size≤d):WkTo w0 w' sb p i p1 i1 :=
 ⟨u.os.trans h.os,u.tape.trans h.tape,u.output.trans h.output,by rw [u.size];exact h.size,λ k hk h1 h2 h3=>(u.block k (λ e=>by subst e;rcases hd with e|e<;>omega)).trans (h.block k hk h1 h2 h3),h.np,h.ni⟩
theorem WkTo.carry (h:WkTo w w' sb p i p' i') (G:Nat→Prop):Carry (λ k=>G k∧QF sb p i k) w (λ k=>G k∧QF sb p' i' k) w' :=
 ⟨h.size,λ k hk hl=>⟨⟨hk.1,hk.2.1,h.np k hl hk.2.2.1,h.ni k hl hk.2.2.2⟩,h.block k hl hk.2.1 hk.2.2.1 hk.2.2.2⟩⟩
theorem WkTo.carryQ (h:WkTo w w' sb p i p' i'):Carry (QF sb p i) w (QF sb p' i') w' :=
 ⟨h.size,λ k hk hl=>⟨⟨hk.1,h.np k hl hk.2.1,h.ni k hl hk.2.2⟩,h.block k hl hk.1 hk.2.1 hk.2.2⟩⟩
end
structure SeenAt (w:World) (sb B:Nat) (pv iv:Value) (P:List Nat) (I:bT) (dep:Nat):Prop where
 blk:Blk w sb 191 [pv,iv,.int .i64 (dep:Int)]
 pg:w.ownsRow B 3 1 pv P.length (bC P)
 it:∃ cs,w.ownsRow B 58 2 iv I.length cs∧ItCells (λ j=>B≤j∧QF sb pv iv j) w cs I
 lt:sb<B
theorem own_apart {w:World} {B1 B2 e1 e2 s1 s2 n1 n2:Nat} {v u:Value} {xs ys:List Value} (h:w.ownsRow B1 e1 s1 v n1 xs) (k:w.ownsRow B2 e2 s2 u n2 ys) (he:e1≠e2):∀ j,v.ownBlock=some j→u.ownBlock≠some j:=by
 intro j hj hk;obtain ⟨_,⟨rfl,_⟩|⟨g,cap,cur,rfl,h1,h2,_⟩⟩:=h
 ·cases hj
 obtain ⟨_,⟨rfl,_⟩|⟨g',cap',cur',rfl,k1,k2,_⟩⟩:=k
 ·cases hk
 simp only [Value.ownBlock,Option.some.injEq] at hj hk;subst hj;subst hk;rw [h2] at k2;simp only [Option.some.injEq,Obj.cells.injEq] at k2;exact he k2.2.1
theorem SeenAt.pl {w:World} {sb B:Nat} {pv iv:Value} {P:List Nat} {I:bT} {dep:Nat} (h:SeenAt w sb B pv iv P I dep):∀ j,pv.ownBlock=some j→B≤j∧j<w.heap.size:=h.pg.lt
theorem SeenAt.il {w:World} {sb B:Nat} {pv iv:Value} {P:List Nat} {I:bT} {dep:Nat} (h:SeenAt w sb B pv iv P I dep):∀ j,iv.ownBlock=some j→B≤j∧j<w.heap.size:=by
 obtain ⟨cs,h1,_⟩:=h.it;exact h1.lt
theorem SeenAt.pi {w:World} {sb B:Nat} {pv iv:Value} {P:List Nat} {I:bT} {dep:Nat} (h:SeenAt w sb B pv iv P I dep):∀ j,pv.ownBlock=some j→iv.ownBlock≠some j:=by
 obtain ⟨cs,h1,_⟩:=h.it;exact own_apart h.pg h1 dM
theorem SeenAt.grow {w w':World} {sb B:Nat} {pv iv:Value} {P:List Nat} {I:bT} {dep:Nat} (h:SeenAt w sb B pv iv P I dep) (g:Grow w w'):SeenAt w' sb B pv iv P I dep:=by
 obtain ⟨cs,h1,h2⟩:=h.it;exact ⟨h.blk.grow g,aS h.pg g,⟨cs,aS h1 g,h2.go (Carry.grow g)⟩,h.lt⟩
theorem SeenAt.upd {w w':World} {sb B d:Nat} {pv iv:Value} {P:List Nat} {I:bT} {dep:Nat} (h:SeenAt w sb B pv iv P I dep) (u:Upd d w w') (h1:d≠sb) (h2:w.heap.size≤d):SeenAt w' sb B pv iv P I dep:=by
 obtain ⟨cs,k1,k2⟩:=h.it;exact ⟨h.blk.upd u (Ne.symm h1),cL h.pg (λ k _ hk=>u.block k (by have:=h.pl k hk;omega)),⟨cs,cL k1 (λ k _ hk=>u.block k (by have:=h.il k hk;omega)),k2.go (Carry.upd u (λ k hk hl=>by omega))⟩,h.lt⟩
theorem RfAt.walk {K:Nat→Prop} {w w':World} {R:RL} {g:Pg} {sb B:Nat} {pv iv pv' iv':Value} {P:List Nat} {I:bT} {dep:Nat} (h:RfAt K w R g) (hK:∀ k,K k→k<sb) (hR:R.p<sb∧R.d<sb∧R.c<sb∧R.u<sb) (s:SeenAt w sb B pv iv P I dep) (t:WkTo w w' sb pv iv pv' iv'):RfAt K w' R g:=by
 have hlt:=s.lt;have key:∀ k,k<sb→k<w.heap.size→w'.heap[k]? = w.heap[k]?:=λ k hk hl=>t.block k hl oM (λ e=>by have:=s.pl k e;omega) (λ e=>by have:=s.il k e;omega);exact h.keep ⟨t.size,λ k hk hl=>⟨hk,key k (hK k hk) hl⟩⟩ λ k hk=>key k oM (by have:=h.lts;omega)
theorem NdAt.tightN {F:Nat→Prop} {w:World} {x:NV} {nd:Nd} (h:NdAt F w x nd):NdAt (λ k=>F k∧k<w.heap.size) w x nd:=h.go (Carry.mono λ k hk hl=>⟨hk,hl⟩)
theorem its_cells {F:Nat→Prop} {w:World} {cs:List Value} {l:bT} (h:ItCells F w cs l):∀ (i:Nat) (y:Bs×Bs),l[i]? = some y→∃ ka kc va vc,cs[i*2]? = some (.slice ka y.1.length kc)∧cs[i*2+1]? = some (.slice va y.2.length vc)∧Sl F w 1 ka y.1.length kc (bB y.1)∧Sl F w 1 va y.2.length vc (bB y.2):=λ i y hy=>by
 obtain ⟨k,v,g1,g2,b1,b2⟩:=h.at' hy;obtain ⟨ka,kc,rfl,s1⟩:=b1.sl;obtain ⟨va,vc,rfl,s2⟩:=b2.sl;exact ⟨ka,kc,va,vc,by rw [Nat.mul_comm];exact g1,by rw [Nat.mul_comm];exact g2,s1,s2⟩
def RwC (K:Nat→Prop) (R:RL) (g:Pg) (h:Nat):Prop:=∀ (w:World) (sb B:Nat) (pv iv:Value) (P:List Nat) (I:bT) (dep n d:Nat) (nd:Nd) (l:bT) (ps:List Nat) (top:Bool) (fa ta:Option Addr) (fc tc:Nat) (fr to:Bs),
 RfAt K w R g→(∀ k,K k→k<sb)→(R.p<sb∧R.d<sb∧R.c<sb∧R.u<sb)→cB g n=some nd→Vt g h nd l ps→(top=true∨4≤aR nd)→1≤aR nd→1≤d→d+h≤16→(dep=0∨dep=d+h)→(∀ p∈n::ps,p∉P)→SeenAt w sb B pv iv P I dep→B≤w.heap.size →
 Sl (QF sb pv iv) w 1 fa fr.length fc (bB fr)→Sl (QF sb pv iv) w 1 ta to.length tc (bB to)→(∀ x∈l,(fr=[]∨¬ eO x.1 fr)∧(to=[]∨eO x.1 to))→(P++n::ps).length≤100000→(I++l).length≤100000 →
 Calls Tryz.prog 168 #[.pointer (some ⟨R.p,0,none⟩),.pointer (some ⟨sb,0,none⟩),.int .i64 (n:Int),.int .i64 (d:Int),.bool top,.slice fa fr.length fc,.slice ta to.length tc] w (Ret λ v w'=>v=.bool true∧∃ pv' iv',SeenAt w' sb B pv' iv' (P++n::ps) (I++l) (d+h)∧WkTo w w' sb pv iv pv' iv')
theorem rwalk_of {K:Nat→Prop} {R:RL} {g:Pg} (h:Nat) (ih:∀ h',h=h'+1→RwC K R g h'):RwC K R g h:=by
 intro w sb B pv iv P I dep n d nd l ps top fa ta fc tc fr to hrf hK hR hn hv htop hsz hd1 hd hdep hnew hseen hB hfr hto hbd hPl hIl;have hsblt:=hseen.lt;have hok:=fG hn;have hnl:=dW (dN hn);have hcn:=hrf.cnt;have hslb:=hseen.blk;have hnP:n∉P:=hnew n sM;obtain ⟨pa,pc,rfl,hps⟩:=aM hseen.pg;refine V.calls (args:=[_,_,_,_,_,_,_]) Tryz.func168 rfl Tryz.ntmps168 rfl rfl ?_;refine dV 4 (λ e w5=>∃ (bn:Nat) (x:NV) (pv1:Value),Sub [(16,.int .i64 0),(15,.pointer (some ⟨bn,0,none⟩)),(6,.slice ta to.length tc),(5,.slice fa fr.length fc),(4,.bool top),(3,.int .i64 (d:Int)),(2,.int .i64 (n:Int)),(1,.pointer (some ⟨sb,0,none⟩)),(0,.pointer (some ⟨R.p,0,none⟩))] e∧w.heap.size≤bn∧Blk w5 bn 79 x.cs∧NdAt (λ k=>w.heap.size≤k∧QF sb pv1 iv k) w5 x nd∧SeenAt w5 sb B pv1 iv (P++[n]) I dep∧WkTo w w5 sb (.slice pa P.length pc) iv pv1 iv∧QF sb pv1 iv bn) ?_ ?_;rotate_left
 ·repeat (first|(refine aB 209 ?_;refine aA rfl (rin_no _ pa P.length pc P n _ hps hnP) rfl ?_;rintro _ _ ⟨rfl,rfl⟩)|refine yC ?_)
  refine TL.buildSlice rfl rfl rfl rfl rfl ?_;intro b1 w1 hg1 hb1 e1 e2 e3;have hsl:Sl (λ _=>True) w1 1 (some ⟨b1,0,none⟩) 1 1 (bC [n]):=(aV (sz:=1) (m:=1) hb1 e3 dM).mono (λ _ _=>trivial);have z1:=hg1.size;have hPl':P.length+1≤100000:=by simp only [List.length_append,List.length_cons] at hPl;omega
  refine eG rfl rfl (aS hseen.pg hg1) hsl (gD _) (by unfold maxLen;omega) oM oM rfl ?_;intro pv1 w2 hpg2 hgb2 hcar2;have t2:WkTo w w2 sb (.slice pa P.length pc) iv pv1 iv:=(WkTo.grow hg1).trans ⟨hgb2.os,hgb2.tape,hgb2.output,hgb2.size,λ k hk _ h2 _=>hgb2.block k hk (λ e=>h2 e.symm),λ j hj h2=>((hcar2 (λ k=>k=j)).blk j ⟨rfl,h2⟩ hj).1.2,λ _ _ h=>h⟩;have z2:=hgb2.size;have hsb2:Blk w2 sb 191 [.slice pa P.length pc,iv,.int .i64 (dep:Int)]:=dD hgb2 (λ e=>by have:=hseen.pl sb e;omega) (hslb.grow hg1);obtain ⟨ci,hi1,hi2⟩:=hseen.it;obtain ⟨pa1,pc1,rfl,_⟩:=aM hpg2;repeat (first|refine aF ?_|refine yJ λ w' hu hbk hsz=>?_)
  obtain ⟨w3,rfl⟩:=yE w';have t3:=t2.upd hu (.inl rfl)
  have hsn3:SeenAt w3 sb B (.slice pa1 (P.length+1) pc1) iv (P++[n]) I dep:=by
   refine ⟨hbk,?_,⟨ci,cL hi1 (λ k _ hk=>?_),hi2.go (t3.carry (λ j=>B≤j))⟩,hsblt⟩
   ·have:=gA hpg2 hu hsblt;simpa [bC] using this
   ·have hkl:=hseen.il k hk;exact (hu.block k oM).trans ((hgb2.block k oM (λ e=>hseen.pi k e.symm hk)).trans (hg1.block k hkl.2))
  have hr3:=hrf.walk hK hR hseen t3;have zt3:=t3.size;clear hsz hu hbk hcar2 hgb2 hg1 hb1 hsl hsb2 hpg2 t2 hi1 hi2;refine aB 113 ?_;refine aA rfl (rnode_c hr3 n nd hn) rfl ?_;rintro _ w4 ⟨x,rfl,hnd,hg4⟩;have z4:=hg4.size;repeat (first|refine aF ?_|refine yI λ bk w' hg hbk hsz hsz'=>?_|refine yJ λ w' hu hbk hsz=>?_)
  obtain ⟨bn,rfl⟩:=yE bk;have hqn:∀ k,w3.heap.size≤k→QF sb (.slice pa1 (P.length+1) pc1) iv k:=λ k hk=>⟨by have:=hsn3.blk.lt;omega,λ e=>by have:=hsn3.pl k e;omega,λ e=>by have:=hsn3.il k e;omega⟩
  have hg45:Grow w3 w':=aI hu oM (hg4.trans hg);refine ⟨bn,x,_,⟨rfl,rfl,rfl,rfl,rfl,rfl,rfl,rfl,rfl,trivial⟩,oM,hbk,?_,hsn3.grow hg45,t3.trans (WkTo.grow hg45),hqn bn oM⟩;exact (hnd.tightN.go ((Carry.grow hg).trans (Carry.upd hu (λ k hk _=>by have:=hk.2;omega)))).go (Carry.mono λ k hk _=>⟨by have:=hk.1;omega,hqn k hk.1⟩)
 rintro e w5 ⟨bn,x,pv1,hsub,hbnw,hbn,hnd,hs5,t5,hqbn⟩;refine bD (e':=[(16,_),(15,_),(6,_),(5,_),(4,_),(3,_),(2,_),(1,_),(0,_)]) ?_ hsub;clear hsub;have hr5:=hrf.walk hK hR hseen t5;have hfr5:=hfr.go t5.carryQ;have hto5:=hto.go t5.carryQ;have hn1:=hnd.its.len;have hn2:=bR hnd.kids;have hn3:=hnd.kys.len;have hsb5:=hs5.blk;have zt5:=t5.size;have hsz8:aR nd≤8:=sizeN_le hok;have hszx:x.n1+x.n2=aR nd:=by rw [hn1,hn2];rfl
 obtain ⟨a1,n1,c1,a2,n2,c2,a3,n3,c3⟩:=x;simp only at hn1 hn2 hn3 hszx;have hbn':Blk w5 bn 79 [.slice a1 n1 c1,.slice a2 n2 c2,.slice a3 n3 c3]:=hbn;clear hbn;refine dV 1 (λ e w6=>Sub [(15,.pointer (some ⟨bn,0,none⟩)),(6,.slice ta to.length tc),(5,.slice fa fr.length fc),(3,.int .i64 (d:Int)),(2,.int .i64 (n:Int)),(1,.pointer (some ⟨sb,0,none⟩)),(0,.pointer (some ⟨R.p,0,none⟩))] e∧w5=w6) ?_ ?_;rotate_left
 ·cases top with
  | true =>
   repeat refine aF ?_
   exact ⟨⟨rfl,rfl,rfl,rfl,rfl,rfl,rfl,trivial⟩,rfl⟩
  | false =>
   have h4:4≤n2+n1∧4≤n1+n2:=by
    rcases htop with h|h
    ·cases h
    ·omega
   repeat refine aF ?_
   exact ⟨⟨rfl,rfl,rfl,rfl,rfl,rfl,rfl,trivial⟩,rfl⟩
 rintro e _ ⟨hsub,rfl⟩;refine bD (e':=[(15,_),(6,_),(5,_),(3,_),(2,_),(1,_),(0,_)]) ?_ hsub;clear hsub;have hits:=hnd.its;have hkds:=hnd.kids;have hkys:=hnd.kys;obtain ⟨ci,hi1,hi2⟩:=hs5.it
 cases h with
 | zero =>
  obtain ⟨rfl,rfl,hsrt,hitok⟩:=hv;have h20:n2=0:=by rw [hn2];rfl
  have hl1:n1=l.length:=hn1;obtain ⟨cs,hcs,hcel⟩:=hits.ex;simp only at hcs hcel;have hcell:=its_cells hcel;have hd0:dep=0∨dep=d:=by omega
  have hdd:d≤100:=by omega
  rcases hd0 with hd0|hd0
  all_goals
   repeat (first|(refine aB 114 ?_;refine aA rfl (rleaf_c ⟨a1,n1,c1,a2,n2,c2,a3,n3,c3⟩ true _ (by simp only;rw [h20];rfl)) rfl ?_;rintro _ _ ⟨rfl,hgc⟩)|refine yC ?_|refine yJ λ w' hu hbk hsz=>?_)
   obtain ⟨w6,rfl⟩:=yE w';have t6:WkTo w5 w6 sb pv1 iv pv1 iv:=(WkTo.grow hgc).upd hu (.inl rfl);have hbn6:=(hbn'.grow hgc).upd hu hqbn.1;have hpg6:=gA (aS hs5.pg hgc) hu hsblt;have hi16:=gA (aS hi1 hgc) hu hsblt;have hi26:=hi2.go (t6.carry (λ j=>B≤j));have hfr6:=hfr5.go t6.carryQ;have hto6:=hto5.go t6.carryQ;have hcs6:=hcs.go (t6.carry (λ k=>w.heap.size≤k));have zt6:=t6.size;have hsb6:Blk w6 sb 191 [pv1,iv,.int .i64 (d:Int)]:=hbk;have hpl:=hs5.pl;have hil:=hs5.il;have hpi:=hs5.pi;clear hbk hu hsz hgc hbn' hsb5;refine aX (S:=Nat) (λ i=>[(17,.int .i64 (i:Int)),(15,.pointer (some ⟨bn,0,none⟩)),(6,.slice ta to.length tc),(5,.slice fa fr.length fc),(1,.pointer (some ⟨sb,0,none⟩))]) (λ i w7=>i≤n1∧Grow w6 w7) (λ i=>n1-i) 0 ⟨rfl,rfl,rfl,rfl,rfl,trivial⟩ ⟨Nat.zero_le _,Grow.refl _⟩ ?_;rintro i w7 ⟨hi,hg7⟩;have hbn7:=hbn6.grow hg7;by_cases hlt:i<n1
   ·obtain ⟨y,hy⟩:∃ y,l[i]? = some y:=⟨_,List.getElem?_eq_getElem oM⟩
    obtain ⟨ka,kc,va,vc,g1,g2,s1,s2⟩:=hcell i y hy;obtain ⟨b1,b2⟩:=hbd y (List.mem_of_getElem? hy);have s16:=(s1.go (t6.carry (λ k=>w.heap.size≤k))).grow hg7;have hcs7:=hcs6.grow hg7;repeat (first|(refine aH ?_;refine aC (j:=i) rfl rfl rfl hlt rfl ⟨_,_,hcs7⟩ rfl ?_)|refine bJ rfl hcs7 g1 rfl ?_|(refine aO ?_;refine aQ rfl (hcs7.row.cell g1) rfl ?_)|(refine aB 210 ?_;refine aA rfl (rwithin_c _ _ _ ka fa ta kc fc tc y.1 fr to _ s16 (hfr6.grow hg7) (hto6.grow hg7) b1 b2) rfl ?_;rintro _ _ ⟨rfl,hgc⟩)|refine yC ?_)
    exact aE (i+1) ⟨rfl,rfl,rfl,rfl,rfl,trivial⟩ ⟨hlt,yG⟩ oM
   obtain rfl:i=n1:=by omega
   have hsb7:=hsb6.grow hg7;repeat refine aF ?_
   have hcl7:=(hcel.go (t6.carry (λ k=>w.heap.size≤k))).go (Carry.grow hg7);have hcs7:=hcs6.grow hg7;have hi17:=aS hi16 hg7;have hi27:=hi26.go (Carry.grow hg7);have z7:=hg7.size;have hIl':I.length+l.length≤100000:=by rw [List.length_append] at hIl;exact hIl
   apply nC (λ wa wb=>wa.grownBy wb iv.ownBlock) 8 7 (λ wq=>Grow w7 wq) (λ wq=>w7.grownBy wq iv.ownBlock) (λ wq=>w7.grownBy wq iv.ownBlock)
    [gZ _,gZ _,gZ _,gZ _,gZ iv,gZ _,gZ _,ofA (λ u wq=>∃ cs',wq.ownsRow B 58 2 u (I.length+l.length) cs'∧ItCells (λ j=>B≤j∧QF sb pv1 u j) wq cs' (I++l)∧∀ j,j<w7.heap.size→iv.ownBlock≠some j→u.ownBlock≠some j) (by rintro u wa wb g ⟨cs',q1,q2,q3⟩;exact ⟨cs',aS q1 g,q2.go (Carry.grow g),q3⟩)]
   ·kernel_rfl
   ·exact Grow.refl _
   ·exact λ wq g=>⟨g.1.os,g.1.tape,g.1.output,g.2,λ k hk _=>g.block k hk⟩
   ·exact λ _ h=>h
   ·exact λ _ h=>h.size
   ·exact λ _ _ h g=>h.trans g
   ·exact λ _ _ h g=>⟨g.1.os.trans h.os,g.1.tape.trans h.tape,g.1.output.trans h.output,Nat.le_trans h.size g.2,λ k hk hne=>(g.block k (Nat.lt_of_lt_of_le hk h.size)).trans (h.block k hk hne)⟩
   ·exact λ _ _ h=>h.size
   ·repeat' (first|exact iN|refine gU ?_ ?_)
    iterate 7
     ·refine dA rfl rfl rfl rfl ?_;intro wq _ _ hiw;have q1:=dD hiw (λ e=>by have:=hil sb e;omega) hsb7;have q2:=dD hiw (λ e=>by have:=hqbn.2.2 e;exact this) hbn7;(refine yU ?_)
      repeat refine aF ?_
      exact bQ rfl (Grow.refl _) rfl
    ·refine iM rfl rfl rfl rfl ?_;intro wq _ _ hiw;(refine yU ?_)
     have zq:=hiw.size;refine eG rfl rfl (aS hi17 hiw) (hcs7.grow hiw) hcel.one (by unfold maxLen;omega) oM oM rfl ?_;intro v' w8 hown8 hgb8 hcar8;refine TL.nil ?_;have cA:Carry (λ j=>B≤j∧QF sb pv1 iv j) wq (λ j=>B≤j∧QF sb pv1 v' j) w8:=((Carry.mono λ j hj _=>⟨⟨hj.1,hj.2.1,hj.2.2.1⟩,hj.2.2.2⟩).trans (hcar8 (λ j=>B≤j∧j≠sb∧pv1.ownBlock≠some j))).trans (Carry.mono λ j hj _=>⟨hj.1.1,hj.1.2.1,hj.1.2.2,hj.2⟩);refine bQ rfl ⟨hgb8,⟨hgb8.os.trans hiw.1.os,hgb8.tape.trans hiw.1.tape,hgb8.output.trans hiw.1.output,Nat.le_trans hiw.2 hgb8.size,λ k hk hne=>(hgb8.block k oM hne).trans (hiw.block k hk)⟩⟩ ⟨ci++cs,by rw [← hl1];exact hown8,?_,λ j hj hne=>((hcar8 (λ k=>k=j)).blk j ⟨rfl,hne⟩ oM).1.2⟩;exact ((hi27.go (Carry.grow hiw)).go cA).append (((hcl7.go (Carry.grow hiw)).go (Carry.mono λ k hk _=>⟨oM,hk.2⟩)).go cA)
   ·rintro wT lo hi' hI1 _ _;(((repeat (refine needA_cons rfl rfl ?_;intro vq hvq;try (obtain rfl:=Eq.symm hvq)));(refine needA_nil ?_)))
    obtain ⟨cs',q1,q2,q3⟩:=hvq;have zT:=hI1.size;have hsbT:=dD hI1 (λ e=>by have:=hil sb e;omega) hsb7;obtain ⟨qa,qc,rfl,_⟩:=aM q1;have hpgT:wT.ownsRow B 3 1 pv1 (P++[n]).length (bC (P++[n])):=cL (aS hpg6 hg7) (λ k _ hk=>hI1.block k (by have:=hpl k hk;omega) (λ e=>hpi k hk e.symm));clear hsb7;repeat (first|refine aF ?_|refine yJ λ w' hu hbk hsz=>?_)
    have tfin:WkTo w w' sb (.slice pa P.length pc) iv pv1 (.slice qa (I.length+l.length) qc):=(((t5.trans t6).trans (WkTo.grow hg7)).trans ⟨hI1.os,hI1.tape,hI1.output,hI1.size,λ k hk _ _ h3=>hI1.block k hk (λ e=>h3 e.symm),λ _ _ h=>h,q3⟩).upd hu (.inl rfl);refine bA rfl ⟨_,rfl,rfl,pv1,_,⟨hbk,gA hpgT hu hsblt,⟨cs',?_,q2.go (Carry.upd hu λ k hk _=>hk.2.1)⟩,hsblt⟩,tfin⟩;have:=gA q1 hu hsblt;rw [List.length_append];exact this
 | succ h =>
  have hnot:=hv.notin hn;have hnod:=hv.nodup;obtain ⟨ls,v1,v2,v3,v4,v5,v6,v7,v8⟩:=hv;have ok:=ndOk hok;have hn1z:n1=0:=by rw [hn1,v1];rfl
  have hn2l:n2=ls.length:=by rw [hn2,v2,List.length_map]
  have h2:2≤n2:=by
   have h3:=ok.ne1;rw [← hn2] at h3;omega
  have hn3l:n3+1=n2:=by rw [hn3,hn2l,v3]
  have hne:∀ x∈ls,x.its≠[]:=λ x hx=>by
   obtain ⟨nd',g1,g2,g3⟩:=v8 x hx;exact g3.ne oM
  obtain ⟨kcs,hkcs,hkcel⟩:=hkys.at';have hdd:d≤100:=by omega
  repeat (first|(refine aB 114 ?_;refine aA rfl (rleaf_c ⟨a1,n1,c1,a2,n2,c2,a3,n3,c3⟩ false _ (by simp only;exact decide_eq_false oM)) rfl ?_;rintro _ _ ⟨rfl,hgc⟩)|refine yC ?_)
  refine aX (S:=Nat) (λ i=>[(18,.int .i64 (i:Int)),(15,.pointer (some ⟨bn,0,none⟩)),(6,.slice ta to.length tc),(5,.slice fa fr.length fc),(3,.int .i64 (d:Int)),(1,.pointer (some ⟨sb,0,none⟩)),(0,.pointer (some ⟨R.p,0,none⟩))]) (λ i w7=>i≤n3∧Grow w5 w7) (λ i=>n3-i) 0 ⟨rfl,rfl,rfl,rfl,rfl,rfl,rfl,trivial⟩ ⟨Nat.zero_le _,hgc⟩ ?_;clear hgc;rintro i w7 ⟨hi,hg7⟩;have hbn7:=hbn'.grow hg7;by_cases hlt:i<n3
  ·obtain ⟨y,hy⟩:∃ y,nd.keys[i]? = some y:=⟨_,List.getElem?_eq_getElem oM⟩
   obtain ⟨ka,kc,g1,s1⟩:=hkcel i y hy;obtain ⟨⟨ya,ya1,ya2⟩,yb,yb1,yb2⟩:=key_between v3 v4 hne (List.mem_of_getElem? hy);rw [← v6] at ya1 yb1;have b1:fr=[]∨¬ eO y fr:=(hbd ya ya1).1.imp id λ q e=>q (dK ya2 e);have b2:to=[]∨eO y to:=(hbd yb yb1).2.imp id λ q=>klt_of_le yb2 q;have hkcs7:=hkcs.grow hg7;repeat (first|(refine aH ?_;refine aC (j:=i) rfl rfl rfl hlt (Nat.mul_one _) ⟨_,_,hkcs7⟩ rfl ?_)|(refine aO ?_;refine aQ rfl (hkcs7.row.cell g1) rfl ?_)|(refine aB 210 ?_;refine aA rfl (rwithin_c _ _ _ ka fa ta kc fc tc y fr to _ (s1.grow hg7) (hfr5.grow hg7) (hto5.grow hg7) b1 b2) rfl ?_;rintro _ _ ⟨rfl,hgc⟩)|refine yC ?_)
   exact aE (i+1) ⟨rfl,rfl,rfl,rfl,rfl,rfl,rfl,trivial⟩ ⟨hlt,yG⟩ oM
  obtain rfl:i=n3:=by omega
  repeat refine aF ?_
  refine aX (S:=Nat) (λ j=>[(19,.int .i64 (j:Int)),(15,.pointer (some ⟨bn,0,none⟩)),(6,.slice ta to.length tc),(5,.slice fa fr.length fc),(3,.int .i64 (d:Int)),(1,.pointer (some ⟨sb,0,none⟩)),(0,.pointer (some ⟨R.p,0,none⟩))]) (λ j w8=>j≤n2∧∃ (pv2 iv2:Value) (dep2:Nat),SeenAt w8 sb B pv2 iv2 (P++[n]++(ls.take j).flatMap (λ x:Sb=>x.page::x.ps)) (I++(ls.take j).flatMap (λ x:Sb=>x.its)) dep2∧(dep2=0∨dep2=d+(h+1))∧(0<j→dep2=d+(h+1))∧WkTo w5 w8 sb pv1 iv pv2 iv2) (λ j=>n2-j) 0 ⟨rfl,rfl,rfl,rfl,rfl,rfl,rfl,trivial⟩ ⟨Nat.zero_le _,pv1,iv,dep,by simpa using hs5.grow hg7,hdep,λ e=>by omega,WkTo.grow hg7⟩ ?_;clear hbn7 hg7 hi hlt;rintro j w8 ⟨hj,pv2,iv2,dep2,hs8,hd8,hd9,t8⟩;have c8:=t8.carry (λ k=>w.heap.size≤k);have hbn8:Blk w8 bn 79 [.slice a1 n1 c1,.slice a2 n2 c2,.slice a3 i c3]:=dS hbn' (t8.block bn hbn'.lt hqbn.1 hqbn.2.1 hqbn.2.2);by_cases hlt:j<n2;rotate_left
  ·obtain rfl:j=n2:=by omega
   rw [List.take_of_length_le oM] at hs8;have:=hd9 oM;subst this;repeat refine aF ?_
   refine bA rfl ⟨_,rfl,rfl,pv2,iv2,?_,t5.trans t8⟩;have e:P++n::ps=P++[n]++ls.flatMap (λ x:Sb=>x.page::x.ps):=by rw [v7];simp
   rw [e,v6];exact hs8
  obtain ⟨x,hx⟩:∃ x,ls[j]? = some x:=⟨_,List.getElem?_eq_getElem oM⟩
  have hxm:=List.mem_of_getElem? hx;obtain ⟨nd',g1,g2,g3⟩:=v8 x hxm;have hxk:nd.kids[j]? = some x.page:=by rw [v2,List.getElem?_map,hx];rfl
  have hxit:∀ y∈x.its,y∈l:=λ y hy=>by rw [v6];exact List.mem_flatMap.2 ⟨x,hxm,hy⟩
  have hxps:∀ p∈x.page::x.ps,p∈ps:=λ p hp=>by rw [v7];exact List.mem_flatMap.2 ⟨x,hxm,hp⟩
  have hxnew:∀ p∈x.page::x.ps,p∉P++[n]++(ls.take j).flatMap (λ x:Sb=>x.page::x.ps):=by
   intro p hp hm;rcases List.mem_append.1 hm with hm|hm
   ·rcases List.mem_append.1 hm with hm|hm
    ·exact hnew p (List.mem_cons_of_mem _ (hxps p hp)) hm
    ·simp only [List.mem_singleton] at hm;subst hm;exact hnot (hxps p hp)
   ·rw [v7,split_at hx,List.flatMap_append] at hnod;have:=(List.nodup_append.1 hnod).2.2 p hm p (by simp only [List.flatMap_cons,List.mem_append];exact .inl hp);exact this rfl
  have hr8:=hr5.walk hK hR hs5 t8;have hpg:=jR hxk;have hkd8:=hkds.go c8;have hkc8:=hkcs.go c8;have hfr8:=hfr5.go t8.carryQ;have hto8:=hto5.go t8.carryQ;have z8:=t8.size;have hz8:=hs8.blk.lt;refine dV 1 (λ e w9=>Sub [(19,.int .i64 (j:Int)),(15,.pointer (some ⟨bn,0,none⟩)),(6,.slice ta to.length tc),(5,.slice fa fr.length fc),(3,.int .i64 (d:Int)),(1,.pointer (some ⟨sb,0,none⟩)),(0,.pointer (some ⟨R.p,0,none⟩))] e∧w8=w9) ?_ ?_;rotate_left
  ·repeat refine aF ?_
   exact ⟨⟨rfl,rfl,rfl,rfl,rfl,rfl,rfl,trivial⟩,rfl⟩
  rintro e _ ⟨hsub,rfl⟩;refine bD (e':=[(19,_),(15,_),(6,_),(5,_),(3,_),(1,_),(0,_)]) ?_ hsub;clear hsub;refine T.seq (T.block ?_);refine dV 3 (λ e w9=>∃ (qa ua:Option Addr) (qc uc:Nat) (q u:Bs),Sub [(21,.slice ua u.length uc),(20,.slice qa q.length qc),(19,.int .i64 (j:Int)),(15,.pointer (some ⟨bn,0,none⟩)),(6,.slice ta to.length tc),(5,.slice fa fr.length fc),(3,.int .i64 (d:Int)),(1,.pointer (some ⟨sb,0,none⟩)),(0,.pointer (some ⟨R.p,0,none⟩))] e∧w8=w9∧Sl (QF sb pv2 iv2) w8 1 qa q.length qc (bB q)∧Sl (QF sb pv2 iv2) w8 1 ua u.length uc (bB u)∧∀ y∈x.its,(q=[]∨¬ eO y.1 q)∧(u=[]∨eO y.1 u)) ?_ ?_;rotate_left
  ·have hlo:j=0∨∃ jj k,j=jj+1∧nd.keys[jj]? = some k:=by
    cases j with
    | zero=>exact .inl rfl
    | succ jj=>exact .inr ⟨jj,_,rfl,List.getElem?_eq_getElem oM⟩
   have hhi:j=i∨∃ k,j<i∧nd.keys[j]? = some k:=by
    by_cases e:j=i
    ·exact .inl e
    ·exact .inr ⟨_,oM,List.getElem?_eq_getElem oM⟩
   have hL:∀ jj k,j=jj+1→nd.keys[jj]? = some k→∀ y∈x.its,¬ eO y.1 k:=λ jj k e hk y hy=>(toks_adj v3 v4 jj k hk).2 x (by rw [← e];exact hx) y hy;have hH:∀ k,nd.keys[j]? = some k→∀ y∈x.its,eO y.1 k:=λ k hk y hy=>(toks_adj v3 v4 j k hk).1 x hx y hy;have bq:=λ y hy=>hbd y (hxit y hy);rcases hlo with hlo|⟨jj,kl,hlo,hkl⟩
   ·rcases hhi with hhi|⟨kh,hhi,hkh⟩
    ·omega
    ·obtain ⟨ha,hcc,gh,sh⟩:=hkcel j kh hkh;repeat (first|(refine aH ?_;refine aC (j:=j) rfl rfl rfl hhi (Nat.mul_one _) ⟨_,_,hkc8⟩ rfl ?_)|(refine aO ?_;refine aQ rfl (hkc8.row.cell gh) rfl ?_)|refine yC ?_)
     exact ⟨fa,ha,fc,hcc,fr,kh,⟨rfl,rfl,rfl,rfl,rfl,rfl,rfl,rfl,rfl,trivial⟩,rfl,hfr8,(sh.go c8).mono (λ k hk=>hk.2),λ y hy=>⟨(bq y hy).1,.inr (hH kh hkh y hy)⟩⟩
   ·obtain ⟨la,lcc,gl,sl⟩:=hkcel jj kl hkl;have hjl:jj<i:=by omega
    rcases hhi with hhi|⟨kh,hhi,hkh⟩
    ·repeat (first|(refine aH ?_;refine aC (j:=jj) rfl rfl oM hjl (Nat.mul_one _) ⟨_,_,hkc8⟩ rfl ?_)|(refine aO ?_;refine aQ rfl (hkc8.row.cell gl) rfl ?_)|refine yC ?_)
     exact ⟨la,ta,lcc,tc,kl,to,⟨rfl,rfl,rfl,rfl,rfl,rfl,rfl,rfl,rfl,trivial⟩,rfl,(sl.go c8).mono (λ k hk=>hk.2),hto8,λ y hy=>⟨.inr (hL jj kl hlo hkl y hy),(bq y hy).2⟩⟩
    ·obtain ⟨ha,hcc,gh,sh⟩:=hkcel j kh hkh;repeat (first|(refine aH ?_;first|refine aC (j:=j) rfl rfl rfl hhi (Nat.mul_one _) ⟨_,_,hkc8⟩ rfl ?_|refine aC (j:=jj) rfl rfl oM hjl (Nat.mul_one _) ⟨_,_,hkc8⟩ rfl ?_)|(refine aO ?_;first|refine aQ rfl (hkc8.row.cell gh) rfl ?_|refine aQ rfl (hkc8.row.cell gl) rfl ?_)|refine yC ?_)
     exact ⟨la,ha,lcc,hcc,kl,kh,⟨rfl,rfl,rfl,rfl,rfl,rfl,rfl,rfl,rfl,trivial⟩,rfl,(sl.go c8).mono (λ k hk=>hk.2),(sh.go c8).mono (λ k hk=>hk.2),λ y hy=>⟨.inr (hL jj kl hlo hkl y hy),.inr (hH kh hkh y hy)⟩⟩
  rintro e _ ⟨qa,ua,qc,uc,q,u,hsub,rfl,hq,hu8,hbb⟩;refine bD (e':=[(21,_),(20,_),(19,_),(15,_),(6,_),(5,_),(3,_),(1,_),(0,_)]) ?_ hsub;clear hsub
  have hlenP:(P++[n]++(ls.take j).flatMap (λ x:Sb=>x.page::x.ps)++x.page::x.ps).length≤100000:=by
   rw [v7,split_at hx] at hPl;simp only [List.length_append,List.length_cons,List.flatMap_append,List.flatMap_cons,List.length_nil] at hPl ⊢;omega
  have hlenI:(I++(ls.take j).flatMap (λ x:Sb=>x.its)++x.its).length≤100000:=by
   rw [v6,split_at hx] at hIl;simp only [List.length_append,List.flatMap_append,List.flatMap_cons] at hIl ⊢;omega
  repeat (first|(refine aH ?_;refine aC (j:=j) rfl rfl rfl hlt (Nat.mul_one _) ⟨_,_,hkd8⟩ rfl ?_)|(refine aO ?_;refine aQ rfl (hkd8.row.cell hpg) rfl ?_)|refine yC ?_)
  refine aB 168 ?_;refine aA rfl (ih h rfl w8 sb B pv2 iv2 _ _ dep2 x.page (d+1) nd' x.its x.ps false qa ua qc uc q u hr8 hK hR g1 g3 (.inr g2) oM oM oM oM hxnew hs8 oM hq hu8 hbb hlenP hlenI) rfl ?_;rintro _ w9 ⟨rfl,pv3,iv3,hs9,t9⟩;repeat refine aF ?_
  refine aE (j+1) ⟨rfl,rfl,rfl,rfl,rfl,rfl,rfl,trivial⟩ ⟨hlt,pv3,iv3,d+1+h,?_,.inr oM,λ _=>by omega,t8.trans t9⟩ oM;rw [eA hx,List.flatMap_append,List.flatMap_append];simp only [List.flatMap_cons,List.flatMap_nil,List.append_nil,← List.append_assoc] at hs9 ⊢;exact hs9
end Go.Proofs.YtfpadnmdafiddaaGreatDoor
