import Derived.Test.YtfpadnmdafiddaaGreatDoorJ0
import Derived.Test.YtfpadnmdafiddaaGreatDoorJt
import Derived.Test.YtfpadnmdafiddaaGreatDoorJo
import Derived.Test.YtfpadnmdafiddaaGreatDoorJp
import Derived.Test.YtfpadnmdafiddaaGreatDoorJl
import Derived.Test.YtfpadnmdafiddaaGreatDoorJk
import Derived.Test.YtfpadnmdafiddaaGreatDoorJf
set_option linter.all false
set_option maxHeartbeats 16000000
set_option maxRecDepth 100000
namespace Go.Proofs.YtfpadnmdafiddaaGreatDoor
open Go Go.RowKit Go.V
theorem writeAll_nok {s2:Pg}:∀ {l:List Nd} {s:Pg} {ks:List Nat},fC s l=some (ks,s2)→∀ x∈l,bE x=true
 | [],_,_,_,x,hx=>by cases hx
 | y::l,s,ks,h,x,hx=>by
  obtain ⟨p,s1,l1,h1,h2,rfl⟩:=kK h;rcases List.mem_cons.1 hx with rfl|hx
  ·exact (gO h1).1
  ·exact writeAll_nok h2 x hx
theorem pathP_br {s:Pg} {key:Bs} {th:Bool}:∀ {f n:Nat} {fr:List (Nd×Nat)},jR s key f n=some (fr,th)→∀ i x,fr[i]? = some x→i+1<fr.length→bM x.1=false
 | f,n,fr,h,i,x,hi,hx=>by
  obtain ⟨f',nd,rfl,hn,hor⟩:=eV h;rcases hor with ⟨hl,rfl,rfl⟩|⟨hl,k,r,hk,hr,rfl⟩
  ·simp at hx
  ·cases i with
   | zero=>simp only [List.getElem?_cons_zero,Option.some.injEq] at hi;subst hi;exact hl
   | succ i=>exact pathP_br hr i x (by simpa using hi) (by simpa using hx)
theorem pathP_leaf {s:Pg} {key:Bs} {th:Bool}:∀ {f n:Nat} {fr:List (Nd×Nat)},jR s key f n=some (fr,th)→∀ i x,fr[i]? = some x→i+1=fr.length→bM x.1=true∧x.2=dP x.1.items key∧th=fS x.1.items key
 | f,n,fr,h,i,x,hi,hx=>by
  obtain ⟨f',nd,rfl,hn,hor⟩:=eV h;rcases hor with ⟨hl,rfl,rfl⟩|⟨hl,k,r,hk,hr,rfl⟩
  ·cases i with
   | zero=>simp only [List.getElem?_cons_zero,Option.some.injEq] at hi;subst hi;exact ⟨hl,rfl,rfl⟩
   | succ i=>simp at hx
  ·cases i with
   | zero =>
    have:r≠[]:=by
     obtain ⟨_,_,_,_,a0⟩:=eV hr;rcases a0 with ⟨_,rfl,_⟩|⟨_,_,_,_,_,rfl⟩<;>simp
    cases r with
    | nil=>exact absurd rfl this
    | cons a b=>simp at hx
   | succ i=>exact pathP_leaf hr i x (by simpa using hi) (by simpa using hx)
theorem pathP_ne {s:Pg} {key:Bs} {th:Bool} {f n:Nat} {fr:List (Nd×Nat)} (h:jR s key f n=some (fr,th)):1≤fr.length:=by
 obtain ⟨_,_,_,_,a0⟩:=eV h;rcases a0 with ⟨_,rfl,_⟩|⟨_,_,_,_,_,rfl⟩<;>simp
theorem insL_cutL {α : Type} {l x:List α} {i:Nat} (h:i≤l.length):iE (dV l i (i+1)) i x=l.take i++x++l.drop (i+1):=by
 simp only [iE,dV];rw [List.take_append_of_le_length (by rw [List.length_take];omega),List.take_take,Nat.min_self,List.drop_append_of_le_length (by rw [List.length_take];omega),List.drop_take_self,List.nil_append]
theorem putNode_br {n up:Nd} {i:Nat} {item:Bs×Bs} {th:Bool} (hl:bM n=false) (h:i≤n.kids.length):cP n i up item th=⟨n.items,n.kids.take i++up.kids++n.kids.drop (i+1),n.keys.take i++up.keys++n.keys.drop i⟩:=by
 unfold cP;rw [hl];simp only [Bool.false_eq_true,if_false];rw [insL_cutL h];rfl
theorem ritemsI_c {F:Nat→Prop} {w:World} (hF:∀ k,w.heap.size≤k→F k) (a b:Option Addr) (n c m d i k:Nat) (l xs:bQ) (h:ItsAt F w a n c l) (hx:ItsAt F w b m d xs) (f0:i≤k) (hk:k≤n) (hn:n+m≤1000000) :
  Calls Tryz.prog 109 #[.slice a n c,.int .i64 (i:Int),.int .i64 (k:Int),.slice b m d] w (Ret λ v w'=>(∃ a' c',v=.slice a' (i+m+(n-k)) c'∧ItsAt F w' a' (i+m+(n-k)) c' (l.take i++xs++l.drop k))∧Grow w w'):=by
 obtain ⟨cs,hs,hc⟩:=h.ex;obtain ⟨ds,e0,hd⟩:=hx.ex;refine Calls.mono (ritems_t F F a b n c m d i k cs ds w hs e0 hc.one hd.one f0 hk hn) ?_;rintro _ w' ⟨v,rfl,a0,hg⟩;rw [Nat.mul_comm i,Nat.mul_comm k] at a0;exact ⟨v,rfl,its_of_own a0 hF (ItCells.go (Carry.grow hg) (((hc.take i).1.append hd).append (hc.take k).2)),hg⟩
theorem rkeysK_c {F:Nat→Prop} {w:World} (hF:∀ k,w.heap.size≤k→F k) (a b:Option Addr) (n c m d i k:Nat) (l xs:List Bs) (h:KysAt F w a n c l) (hx:KysAt F w b m d xs) (f0:i≤k) (hk:k≤n) (hn:n+m≤1000000) :
  Calls Tryz.prog 121 #[.slice a n c,.int .i64 (i:Int),.int .i64 (k:Int),.slice b m d] w (Ret λ v w'=>(∃ a' c',v=.slice a' (i+m+(n-k)) c'∧KysAt F w' a' (i+m+(n-k)) c' (l.take i++xs++l.drop k))∧Grow w w'):=by
 obtain ⟨cs,hs,hc⟩:=h.ex;obtain ⟨ds,e0,hd⟩:=hx.ex;refine Calls.mono (rkeys_t F F a b n c m d i k cs ds w hs e0 hc.one hd.one f0 hk hn) ?_;rintro _ w' ⟨v,rfl,a0,hg⟩;rw [Nat.mul_one,Nat.mul_one] at a0;exact ⟨v,rfl,kys_of_own a0 hF (KyCells.go (Carry.grow hg) (((hc.take i).1.append hd).append (hc.take k).2)),hg⟩
theorem rkidsN_c {F G:Nat→Prop} {w:World} (hF:∀ k,w.heap.size≤k→F k) (a b:Option Addr) (n c m d i k:Nat) (l xs:List Nat) (h:Sl F w 1 a n c (bC l)) (hx:Sl G w 1 b m d (bC xs)) (e0:i≤k) (hk:k≤n) (hn:n+m≤1000000) :
  Calls Tryz.prog 111 #[.slice a n c,.int .i64 (i:Int),.int .i64 (k:Int),.slice b m d] w (Ret λ v w'=>(∃ a' c',v=.slice a' (i+m+(n-k)) c'∧Sl F w' 1 a' (i+m+(n-k)) c' (bC (l.take i++xs++l.drop k)))∧Grow w w'):=by
 refine Calls.mono (rkids_t F G a b n c m d i k _ _ w h hx (gG l) (gG xs) e0 hk hn) ?_;rintro _ w' ⟨v,rfl,a0,hg⟩;rw [Nat.mul_one,Nat.mul_one] at a0;obtain ⟨a',c',rfl,hs⟩:=aN a0;refine ⟨_,rfl,⟨a',c',rfl,?_⟩,hg⟩;have:=hs.mono (F':=F) (λ k hk=>hF k hk.1);simpa [bC,List.map_take,List.map_drop] using this
theorem rput_c {K:Nat→Prop} {w:World} {R:RL} {g g':Pg} (h:RfAt K w R g) (hK:∀ k,w.heap.size≤k→K k) (r1:Option Nat) (G G':Nat→Prop) (a a':Option Addr) (m c m' c':Nat) (key v:Bs) (hk:Sl G w 1 a m c (bB key)) (hv:Sl G' w 1 a' m' c' (bB v)) (t8:eF key=true) (u7:fB v=true) (l7:fL key) (y6:fL v) (aj:32≤cR g) (n':Nat) (k3:putP g r1 key v=some (n',g')) :
  Calls Tryz.prog 37 #[.pointer (some ⟨R.p,0,none⟩),.int .i64 (dC r1),.slice a m c,.slice a' m' c'] w (Ret λ u w'=>u=.tuple #[.int .i64 (n':Int),.int .i64 0]∧RfAt K w' R g'∧ButS R.S w w'):=by
 have l6:∀ k,w.heap.size≤k→¬ R.S k:=λ k hk=>by have:=h.lts;unfold RL.S;omega
 have i9:∀ n,r1=some n→n<9223372036854775808:=λ n e=>by
  subst e;obtain ⟨fr,th,up,s1,hp,_⟩:=putP_some k3;obtain ⟨_,_,_,hn,_⟩:=eV hp;have:=dW (dL hn);have:=h.cnt;omega
 have hm:m=key.length:=by have:=hk.len;rw [bB,List.length_map] at this;omega
 have p9:m'=v.length:=by have:=hv.len;rw [bB,List.length_map] at this;omega
 have ar:1≤key.length∧key.length≤16:=by simpa [eF] using t8
 have ai:v.length≤32:=by simpa [fB] using u7
 refine V.calls (args:=[_,_,_,_]) Tryz.func37 rfl Tryz.ntmps37 rfl rfl ?_;repeat (first|(refine aB 104 ?_;refine aA rfl (rbegin_c R.p r1 i9 _) rfl ?_;rintro _ _ ⟨rfl,rfl⟩)|(refine aB 105 ?_;refine aA rfl (rkey_c a _ c key true _ t8 hm) rfl ?_;rintro _ _ ⟨rfl,rfl⟩)|(refine aB 118 ?_;refine aA rfl (rvalue_c a' _ c' v true _ u7 p9) rfl ?_;rintro _ _ ⟨rfl,rfl⟩)|(refine aB 106 ?_;refine aA rfl (rspare_c h) rfl ?_;rintro _ _ ⟨rfl,m7⟩)|refine yC ?_|refine yI λ bk w' hg a0 m0 l0=>?_)
 obtain ⟨w2,rfl⟩:=yE w';have f3:=m7.trans hg;have z2:=f3.size;have z1:=m7.size;have o6:w2.ownsRow w.heap.size 5 1 (.slice (some ⟨bk,0,none⟩) 0 0) 0 []:=own_lit a0 oM rfl dM;refine TL.append rfl rfl o6 (hk.grow f3) (bP key) (by unfold maxLen;omega) oM oM rfl ?_;intro v1 w3 x4 v8 _;have d3:Grow w w3:=Grow.mk (aL v8 oM (λ k hk=>(aT o6 hk).1) f3.1);clear m7 hg a0 m0 l0 f3 o6 v8;have z3:=d3.size;repeat (first|refine aF ?_|refine yI λ bk w' hg a0 m0 l0=>?_)
 obtain ⟨w4,rfl⟩:=yE w';have z4:=hg.size;have u5:=d3.trans hg;have n6:w4.ownsRow w3.heap.size 5 1 (.slice (some ⟨bk,0,none⟩) 0 0) 0 []:=own_lit a0 oM rfl dM;refine TL.append rfl rfl n6 (hv.grow u5) (bP v) (by unfold maxLen;omega) oM oM rfl ?_;intro v5 w5 v4 h1 _;have g1:Grow w3 w5:=Grow.mk (aL h1 oM (λ k hk=>(aT n6 hk).1) hg.1);have s3:=d3.trans g1;have z5:=g1.size;have i3:=aS x4 g1;clear hg a0 m0 l0 u5 n6 x4 h1;obtain ⟨ka,kc,rfl,c4⟩:=aN i3;obtain ⟨va,vc,rfl,x3⟩:=aN v4;have c4:BsAt (λ k=>w.heap.size≤k) w5 (.slice ka (0+m) kc) key:=⟨_,_,_,rfl,c4.mono (λ k hk=>hk.1)⟩
 have x3:BsAt (λ k=>w.heap.size≤k) w5 (.slice va (0+m') vc) v:=⟨_,_,_,rfl,x3.mono (λ k hk=>Nat.le_trans z3 hk.1)⟩
 clear i3 v4 d3 g1
 cases r1 with
 | none =>
  obtain ⟨f1,c7⟩:=gO (show gZ g ⟨[(key,v)],[],[]⟩=some (n',g') from k3);repeat (first|refine aF ?_|refine yI λ bk w' hg a0 m0 l0=>?_|refine yJ λ w' hu a0 m0=>?_)
  refine TL.buildSlice rfl rfl rfl rfl rfl ?_;intro b' wa f0 o1 j6 i6 h6;have i0:Blk wa b' 58 [.slice ka (0+m) kc,.slice va (0+m') vc]:=o1;have g0:Grow w5 wa:=(aI hu oM hg).trans f0;have v0:Grow w wa:=s3.trans g0
  have a4:NdAt (λ k=>w.heap.size≤k) wa ⟨some ⟨b',0,none⟩,1,1,none,0,0,none,0,0⟩ ⟨[(key,v)],[],[]⟩ :=
   ⟨⟨_,(aU (sz:=2) (m:=1) i0 rfl dM).mono (λ k hk=>by subst hk;have:=hg.size;show w.heap.size≤_;omega),c4.go (Carry.grow g0),x3.go (Carry.grow g0),trivial⟩,jC,jM⟩
  clear a0 o1 i0 hu hg f0 g0 c4 x3 m0 l0;repeat refine aF ?_
  refine aB 110 ?_;refine aA rfl (rwrite_c (h.grow v0) (λ k hk=>hK k (by have:=v0.size;omega)) _ ⟨some ⟨b',0,none⟩,1,1,none,0,0,none,0,0⟩ _ a4 f1 (lZ f1 ⟨by intro x hx;simp only [List.mem_singleton] at hx;subst hx;exact ⟨l7,y6⟩,sM⟩) n' c7) rfl ?_;rintro _ w7 ⟨rfl,j9,y9⟩;repeat refine aF ?_
  exact eZ rfl rfl ⟨_,rfl,rfl,j9,(ButS.grow v0).trans y9⟩
 | some n =>
  obtain ⟨fr,th,up,s1,hp,k8,n7⟩:=putP_some k3;have t3:=pathP_frames (λ n=>h.lt n) hp;repeat (first|refine aF ?_|refine yI λ bk w' hg a0 m0 l0=>?_|refine yJ λ w' hu a0 m0=>?_)
  have e1:Blk w' bk 58 [.slice ka (0+m) kc,.slice va (0+m') vc]:=a0;obtain ⟨c9,rfl⟩:=yE bk;obtain ⟨w6,rfl⟩:=yE w';have g0:Grow w5 w6:=aI hu oM hg;have v0:Grow w w6:=s3.trans g0;have l5:=c4.go (Carry.grow g0);have m4:=x3.go (Carry.grow g0);have zq:=g0.size;have z6:=e1.lt;have ah:w.heap.size≤c9:=by have:=hg.size;omega
  clear a0 hu hg g0 c4 x3 m0 l0 s3;refine aB 107 ?_;refine aA rfl (rdown_c (h.grow v0) _ a m c n key fr th (hk.grow v0) hp) rfl ?_;rintro _ w7 ⟨⟨b,d,cs,b2,d2,rfl,n8,e7,m5⟩,d4⟩;have z7:=d4.size;have t5:=v0.trans d4;replace e1:=e1.grow d4;have k5:=l5.go (Carry.grow d4);have l4:=m4.go (Carry.grow d4);clear v0 d4 l5 m4;have ap:=pathP_ne hp;have r9:=pathP_len hp;obtain ⟨f,hf⟩:∃ f,fr[fr.length-1]? = some f:=⟨_,List.getElem?_eq_getElem oM⟩
  obtain ⟨b4,x8,f8⟩:=pathP_leaf hp _ f hf oM;have fo:=t3 f (List.mem_of_getElem? hf);obtain ⟨x,x6,hx⟩:=e7.at' (l:=fr.map (·.1)) (i:=fr.length-1) (nd:=f.1) (by rw [List.getElem?_map,hf];rfl);repeat (first|refine aF ?_|refine yI λ bk w' hg a0 m0 l0=>?_|refine yJ λ w' hu a0 m0=>?_)
  have u3:Blk w' bk 177 [.slice b fr.length d,.slice b2 (fr.length-1) d2]:=a0;obtain ⟨g4,rfl⟩:=yE bk;obtain ⟨w8,rfl⟩:=yE w';have g0:Grow w7 w8:=aI hu oM hg;have ac:=g0.size;have z8:=u3.lt;have ag:c9<g4:=by omega
  have s5:=t5.trans g0;replace e1:=e1.grow g0;have j5:=k5.go (Carry.grow g0);have k4:=l4.go (Carry.grow g0);have y2:=n8.go (Carry.grow g0);have d5:=e7.go (Carry.grow g0);have o5:=m5.go (Carry.grow g0);have r7:=hx.go (Carry.grow g0);clear a0 hu hg g0 k5 l4 m0 l0 t5 n8 e7 m5 hx;repeat (first|(refine aH ?_;refine aC (j:=fr.length-1) rfl rfl oM oM rfl ⟨_,_,y2⟩ rfl ?_)|(refine aO ?_;refine cB rfl y2 (three_at x6) rfl rfl ?_)|refine yC ?_|refine yI λ bk w' hg a0 m0 l0=>?_|refine yJ λ w' hu a0 m0=>?_)
  have x0:Blk w' bk 79 x.cs:=a0;obtain ⟨j1,rfl⟩:=yE bk;obtain ⟨w9,rfl⟩:=yE w';have g0:Grow w8 w9:=aI hu oM hg;have ab:=g0.size;have z9:=x0.lt;have af:g4<j1:=by omega
  obtain ⟨F,hF⟩:∃ F:Nat→Prop,∀ k,F k↔w.heap.size≤k∧k≠j1:=⟨_,λ _=>Iff.rfl⟩
  have cF:∀ F0:Nat→Prop,(∀ k,F0 k→w.heap.size≤k)→Carry F0 w8 F w9:=λ F0 h0=>(Carry.mono λ k hk hl=>(hF k).2 ⟨h0 k hk,oM⟩).trans (Carry.grow g0);have r3:=s5.trans g0;have r2:=e1.grow g0;have y0:=u3.grow g0;have h5:=j5.go (cF _ λ k hk=>hk);have j4:=k4.go (cF _ λ k hk=>hk);have a5:=y2.go (cF _ λ k hk=>by omega);have c5:=d5.go (cF _ λ k hk=>by omega);have n5:=o5.go (cF _ λ k hk=>by omega);have u6:=r7.go (cF _ λ k hk=>by omega);clear a0 hu hg g0 j5 k4 m0 l0 s5 y2 d5 o5 r7 e1 u3 cF;refine aB 108 ?_;refine aA rfl (rfind_c _ _ x f.1 a m c key _ u6 (hk.grow r3) fo.ok b4) rfl ?_;rintro _ h4 ⟨rfl,k0⟩;rw [← x8,← f8];have e9:=k0.size;have o2:=r3.trans k0;replace r2:=r2.grow k0;replace y0:=y0.grow k0;replace x0:=x0.grow k0;have u0:=h5.go (Carry.grow k0);have t0:=j4.go (Carry.grow k0);have y1:=a5.go (Carry.grow k0);have e2:=c5.go (Carry.grow k0);have j2:=n5.go (Carry.grow k0);have s0:=u6.go (Carry.grow k0);clear k0 r3 h5 j4 a5 c5 n5 u6;obtain ⟨x9,x5⟩:=fo.leaf b4;have o9:=s0.its.len;have s2:∀ wq:World,h4.heap.size≤wq.heap.size→∀ k,wq.heap.size≤k→F k:=λ wq hq k hk=>(hF k).2 ⟨oM,oM⟩
  have r5:f.1.items.length≤8:=by
   have f1:=fo.ok;unfold bE at f1;rw [if_pos b4] at f1;exact (cO f1).2.1
  repeat (first|(refine TL.isMove ?_;refine TL.pure rfl rfl ?_)|(refine TL.isAsg ?_;refine TL.pure rfl rfl ?_)|refine TL.pure rfl rfl ?_)
  refine TL.nil ?_;refine eY ?_;refine dT 3 (λ e w3=>∃ (y:NV),Sub [(13,.pointer (some ⟨j1,0,none⟩)),(12,.pointer (some ⟨g4,0,none⟩)),(0,.pointer (some ⟨R.p,0,none⟩))] e∧Blk w3 j1 79 y.cs∧NdAt F w3 y (cP f.1 f.2 nd0 (key,v) th)∧Blk w3 g4 177 [.slice b fr.length d,.slice b2 (fr.length-1) d2]∧Sl F w3 3 b fr.length d cs∧NdCells F w3 cs (fr.map (·.1))∧Sl F w3 1 b2 (fr.length-1) d2 (bC (fr.dropLast.map (·.2)))∧Grow w w3∧j1<w3.heap.size) ?_ ?_;rotate_left
  ·cases th with
   | true =>
    have y8:=x5 rfl;repeat refine aF ?_
    refine TL.buildSlice rfl rfl rfl rfl rfl ?_;intro b' wa f0 o1 j6 i6 h6;have i0:Blk wa b' 58 [.slice ka (0+m) kc,.slice va (0+m') vc]:=o1;have za:=f0.size;have q5:ItsAt F wa (some ⟨b',0,none⟩) 1 1 [(key,v)]:=⟨_,(aU (sz:=2) (m:=1) i0 rfl dM).mono (λ k hk=>by subst hk;exact s2 h4 (Nat.le_refl _) _ oM),u0.go (Carry.grow f0),t0.go (Carry.grow f0),trivial⟩
    have t6:=s0.go (Carry.grow f0);repeat refine aF ?_
    refine aB 109 ?_;refine aA rfl (ritemsI_c (F:=F) (s2 _ za) x.a1 (some ⟨b',0,none⟩) x.n1 x.c1 1 1 f.2 (f.2+1) f.1.items [(key,v)] t6.its q5 oM oM oM) rfl ?_;rintro _ wb ⟨⟨a8,c8,rfl,r5⟩,q1⟩;have zb:=q1.size;have e0:=f0.trans q1;have s6:=x0.grow e0;have q3:=o2.trans e0;clear o1 i0 q5 f0 x0 u0 t0 q1;repeat (first|refine aF ?_|refine yJ λ w' hu a0 m0=>?_)
    have cU:Carry F wb F w':=Carry.upd hu (λ k hk _=>((hF k).1 hk).2);have cW:Carry F h4 F w':=(Carry.grow e0).trans cU;have p3:Grow w w':=aI hu oM q3
    have y3:cP f.1 f.2 nd0 (key,v) true=⟨f.1.items.take f.2++[(key,v)]++f.1.items.drop (f.2+1),f.1.kids,f.1.keys⟩:=by
     simp only [cP,b4];simp only [if_true,iE,dV];rw [List.take_append_of_le_length (by rw [List.length_take];omega),List.take_take,Nat.min_self,List.drop_append_of_le_length (by rw [List.length_take];omega),List.drop_take_self,List.nil_append]
    refine ⟨⟨a8,f.2+1+(x.n1-(f.2+1)),c8,x.a2,x.n2,x.c2,x.a3,x.n3,x.c3⟩,⟨rfl,rfl,rfl,trivial⟩,a0,?_,(y0.grow e0).upd hu oM,y1.go cW,e2.go cW,j2.go cW,p3,oM⟩;rw [y3];exact ⟨r5.go cU,s0.kids.go cW,s0.kys.go cW⟩
   | false =>
    repeat refine aF ?_
    refine TL.buildSlice rfl rfl rfl rfl rfl ?_;intro b' wa f0 o1 j6 i6 h6;have i0:Blk wa b' 58 [.slice ka (0+m) kc,.slice va (0+m') vc]:=o1;have za:=f0.size;have q5:ItsAt F wa (some ⟨b',0,none⟩) 1 1 [(key,v)]:=⟨_,(aU (sz:=2) (m:=1) i0 rfl dM).mono (λ k hk=>by subst hk;exact s2 h4 (Nat.le_refl _) _ oM),u0.go (Carry.grow f0),t0.go (Carry.grow f0),trivial⟩
    have t6:=s0.go (Carry.grow f0);repeat refine aF ?_
    refine aB 109 ?_;refine aA rfl (ritemsI_c (F:=F) (s2 _ za) x.a1 (some ⟨b',0,none⟩) x.n1 x.c1 1 1 f.2 f.2 f.1.items [(key,v)] t6.its q5 oM oM oM) rfl ?_;rintro _ wb ⟨⟨a8,c8,rfl,r5⟩,q1⟩;have zb:=q1.size;have e0:=f0.trans q1;have s6:=x0.grow e0;have q3:=o2.trans e0;clear o1 i0 q5 f0 x0 u0 t0 q1;repeat (first|refine aF ?_|refine yJ λ w' hu a0 m0=>?_)
    have cU:Carry F wb F w':=Carry.upd hu (λ k hk _=>((hF k).1 hk).2);have cW:Carry F h4 F w':=(Carry.grow e0).trans cU;have p3:Grow w w':=aI hu oM q3
    have y3:cP f.1 f.2 nd0 (key,v) false=⟨f.1.items.take f.2++[(key,v)]++f.1.items.drop f.2,f.1.kids,f.1.keys⟩:=by
     simp only [cP,b4];simp only [if_true,if_false,Bool.false_eq_true,iE]
    refine ⟨⟨a8,f.2+1+(x.n1-f.2),c8,x.a2,x.n2,x.c2,x.a3,x.n3,x.c3⟩,⟨rfl,rfl,rfl,trivial⟩,a0,?_,(y0.grow e0).upd hu oM,y1.go cW,e2.go cW,j2.go cW,p3,oM⟩;rw [y3];exact ⟨r5.go cU,s0.kids.go cW,s0.kys.go cW⟩
  rintro e w0 ⟨y,n4,b1,iy,i12,p0,z0,q0,ig,f6⟩;refine bD (e':=[(13,_),(12,_),(0,_)]) ?_ n4;have q9:=h.lts;have r4:RfAt (λ k=>K k∧k≠j1) w0 R g:=(h.tight.grow ig).keep2 (Carry.mono λ k hk _=>⟨hk.1,oM⟩) (λ _ _=>rfl) (λ k hk=>h.kne k hk.1);have zg:=ig.size;have m6:w.heap.size≤j1:=by omega
  have o7:NdB (cP f.1 f.2 nd0 (key,v) th):=putNode_by (i:=f.2) (item:=(key,v)) (th:=th) fo.by' ⟨by simp [nd0],by simp [nd0]⟩ l7 y6;clear u0 t0 y1 e2 j2 s0 r2 y0 x0 o2 o9 s2;repeat refine aF ?_
  refine aX (S:=Nat×NV×Nd×Pg) (λ s=>[(17,.int .i64 (s.1:Int)),(13,.pointer (some ⟨j1,0,none⟩)),(12,.pointer (some ⟨g4,0,none⟩)),(0,.pointer (some ⟨R.p,0,none⟩))])
   (λ s w1=>s.1<fr.length∧(∃ f up,fr[s.1]? = some f∧mO (key,v) th (fr.drop (s.1+1)) g=some (up,s.2.2.2)∧UpOk up∧(s.1+1<fr.length→up.kids.length=up.keys.length+1)∧s.2.2.1=cP f.1 f.2 up (key,v) th)∧Blk w1 j1 79 s.2.1.cs∧NdAt F w1 s.2.1 s.2.2.1∧Blk w1 g4 177 [.slice b fr.length d,.slice b2 (fr.length-1) d2]∧Sl F w1 3 b fr.length d cs∧NdCells F w1 cs (fr.map (·.1))∧Sl F w1 1 b2 (fr.length-1) d2 (bC (fr.dropLast.map (·.2)))∧RfAt (λ k=>K k∧k≠j1) w1 R s.2.2.2∧ButS R.S w w1∧j1<w1.heap.size)
   (λ s=>s.1) (fr.length-1,y,cP f.1 f.2 nd0 (key,v) th,g) ⟨rfl,rfl,rfl,rfl,trivial⟩
   ⟨by simp only;omega,⟨f,nd0,hf,by rw [List.drop_of_length_le (by simp only;omega)];rfl,⟨rfl,.inl rfl,dM,dM,⟨by simp [nd0],by simp [nd0]⟩⟩,λ hh=>by simp only at hh;omega,rfl⟩,b1,iy,i12,p0,z0,q0,r4,ButS.grow ig,f6⟩ ?_
  clear b1 iy i12 p0 z0 q0 r4 ig f6 zg o7 n4 fo hf x8 f8 b4 x9 x5 r5;rintro ⟨i,y,nd,gi⟩ w1 ⟨hi,⟨f,ad,hf,m8,d8,y7,a4⟩,b1,iy,i12,p0,z0,q0,s4,d6,f6⟩;simp only at hi hf m8 y7 a4 b1 iy s4;have z1:=d6.size;have fo:=t3 f (List.mem_of_getElem? hf);obtain ⟨o0,g2,b7⟩:=putUp_suffix k8 i;have k6:=b7;rw [List.drop_eq_getElem_cons hi,show fr[i]'hi=f from (List.getElem?_eq_some_iff.1 hf).2] at b7;obtain ⟨ae,au,p7,a7⟩:=putUp_cons b7;rw [m8] at p7;simp only [Option.some.injEq,Prod.mk.injEq] at p7;obtain ⟨rfl,rfl⟩:=p7;rw [← a4] at a7;obtain ⟨h8,g8⟩:=putNode_shape (item:=(key,v)) fo d8 (λ hl=>y7 (pathP_last hp i f hf hl));rw [← a4] at h8 g8;have g7:NdB nd:=by rw [a4];exact putNode_by (i:=f.2) (item:=(key,v)) (th:=th) fo.by' d8.by' l7 y6
  obtain ⟨u1,j0⟩:=storeP_up a7 g7;obtain ⟨i4,ks,t7,u2,y4⟩:=storeP_parts a7;have f4:∀ wq:World,j1<wq.heap.size→∀ k,wq.heap.size≤k→F k:=λ wq hq k hk=>(hF k).2 ⟨oM,oM⟩;have l9:i4.length≤2:=by rcases y4 with ⟨_,rfl,_⟩|⟨_,rfl,_⟩<;>simp
  have f7:∀ x∈i4,fL (dE x):=by
   have f1:=writeAll_nok t7;obtain ⟨c1,c2,_⟩:=splitN_by g7;intro x hx;refine lZ (f1 x hx) ?_;rcases y4 with ⟨_,rfl,_⟩|⟨_,rfl,_⟩
   ·simp only [List.mem_singleton] at hx;subst hx;exact g7
   ·simp only [List.mem_cons,List.not_mem_nil,or_false] at hx;rcases hx with rfl|rfl
    ·exact c1
    ·exact c2
  repeat refine aF ?_
  refine aB 119 ?_;refine aA rfl (rsplit_c F _ (f4 _ f6) y nd iy h8 g8 i4 ks y4) rfl ?_;rintro _ w2 ⟨⟨la,lc,kv,g9,rfl,o8,p8,s8⟩,g3⟩;have z2:=g3.size;replace b1:=b1.grow g3;replace i12:=i12.grow g3;replace p0:=p0.go (Carry.grow g3);replace z0:=z0.go (Carry.grow g3);replace q0:=q0.go (Carry.grow g3);replace s4:=s4.grow g3;replace d6:=d6.trans (ButS.grow g3);clear iy g3;repeat refine aF ?_
  refine aB 120 ?_;refine aA rfl (rpages_c s4 (λ k hk=>⟨hK k oM,oM⟩) (λ k hk _=>l6 k ((hF k).1 hk).1) la i4.length lc g9 i4 o8 p8 f7 oM o0.kids t7) rfl ?_;rintro _ w3 ⟨pa,pc,rfl,l8,x2,m1⟩;have z3:=m1.size;have cS:Carry F w2 F w3:=Carry.buts m1 (λ k hk _=>l6 k ((hF k).1 hk).1);replace b1:=bO b1 m1 (l6 _ m6);replace i12:=bO i12 m1 (l6 _ oM);replace p0:=p0.go cS;replace z0:=z0.go cS;replace q0:=q0.go cS;have o3:∀ key,ks=[key]→BsAt F w3 kv key:=λ k hk=>(s8 k hk).go cS;have x1:Sl F w3 1 pa o0.kids.length pc (bC o0.kids):=l8.mono (λ k hk=>f4 w2 oM k hk);have h3:=d6.trans m1;clear m1 d6 cS s8 l8 s4 o8 p8;by_cases v9:i=0
  ·subst v9;rw [List.drop_zero,k8] at k6;simp only [Option.some.injEq,Prod.mk.injEq] at k6;obtain ⟨rfl,rfl⟩:=k6;rcases n7 with ⟨p5,rfl⟩|⟨p5,h9⟩
   ·have aq:up.kids.length=1:=by rw [p5];rfl
    have a9:w3.cell? (at' pa 0)=some (.int .i64 (n':Int)):=x1.row.cell (by rw [p5];rfl);repeat (first|(refine aH ?_;refine aC (j:=0) rfl rfl rfl oM rfl ⟨_,_,x1⟩ rfl ?_)|refine yC ?_)
    exact eZ rfl rfl ⟨_,rfl,rfl,x2.keep2 (Carry.mono λ k hk _=>hk.1) (λ _ _=>rfl) h.kne,h3⟩
   ·obtain ⟨f1,c7⟩:=gO h9
    obtain ⟨q7,q2⟩:∃ k,ks=[k]:=by
     rcases y4 with ⟨_,rfl,rfl⟩|⟨_,rfl,rfl⟩
     ·rw [u2] at j0;exact absurd j0 (by rw [u2] at p5;simpa using p5)
     ·exact ⟨_,rfl⟩
    obtain ⟨r6,p6,q6,rfl,m3⟩:=o3 _ q2;repeat refine aF ?_
    refine TL.buildSlice rfl rfl rfl rfl rfl ?_;intro b' wa f0 o1 j6 i6 h6;have i0:Blk wa b' 30 [.slice r6 p6 q6]:=o1;have za:=f0.size
    have d7:NdAt F wa ⟨none,0,0,pa,up.kids.length,pc,some ⟨b',0,none⟩,1,1⟩ up:=by
     rw [u2,q2];refine ⟨jN,x1.grow f0,⟨_,(aU (sz:=1) (m:=1) i0 rfl dM).mono (λ k hk=>by subst hk;exact f4 w2 oM _ oM),⟨_,_,_,rfl,m3.grow f0⟩,trivial⟩⟩
    have k7:fL (dE up):=lZ f1 u1.by';repeat refine aF ?_
    refine aB 110 ?_;refine aA rfl (rwrite_c (x2.grow f0) (λ k hk=>⟨hK k oM,oM⟩) F ⟨none,0,0,pa,up.kids.length,pc,some ⟨b',0,none⟩,1,1⟩ up d7 f1 k7 n' c7) rfl ?_;rintro _ w6 ⟨rfl,k9,aa⟩;repeat refine aF ?_
    exact eZ rfl rfl ⟨_,rfl,rfl,k9.keep2 (Carry.mono λ k hk _=>hk.1) (λ _ _=>rfl) h.kne,(h3.trans (ButS.grow f0)).trans aa⟩
  ·obtain ⟨f2,e4⟩:∃ f2,fr[i-1]? = some f2:=⟨_,List.getElem?_eq_getElem oM⟩
   have b9:=t3 f2 (List.mem_of_getElem? e4);have h7:=pathP_br hp (i-1) f2 e4 oM;have s9:=b9.kid h7
   obtain ⟨ao,an,ak,am,_,_⟩:=cC (n:=f2.1) (by
    have f1:=b9.ok;unfold bE at f1
    rwa [h7] at f1)
   obtain ⟨x,x6,hx⟩:=z0.at' (l:=fr.map (·.1)) (i:=i-1) (nd:=f2.1) (by rw [List.getElem?_map,e4];rfl)
   have t9:(bC (fr.dropLast.map (·.2)))[i-1]? = some (.int .i64 (f2.2:Int)):=by
    rw [show bC (fr.dropLast.map (·.2))=(fr.dropLast.map (·.2)).map λ (k:Nat)=>(.int .i64 (k:Int):Value) from rfl,List.getElem?_map,List.getElem?_map,List.getElem?_dropLast,if_pos oM,e4];rfl
   have n9:=bU hx.kids;have m9:=hx.kys.len;have y3:=putNode_br (up:=o0) (item:=(key,v)) (th:=th) h7 (i:=f2.2) oM;repeat (first|(refine aH ?_;refine aC (j:=i-1) rfl rfl rfl oM rfl ⟨_,_,p0⟩ rfl ?_)|(refine aO ?_;refine cB rfl p0 (three_at x6) rfl rfl ?_)|refine yC ?_|refine yJ λ w' hu a0 m0=>?_)
   obtain ⟨w4,rfl⟩:=yE w';have cU:Carry F w3 F w4:=Carry.upd hu (λ k hk _=>((hF k).1 hk).2);have j3:Blk w4 j1 79 x.cs:=a0;replace i12:=i12.upd hu oM;replace p0:=p0.go cU;replace z0:=z0.go cU;replace q0:=q0.go cU;have v6:=hx.go cU;have t4:=x1.go cU;have g5:∀ key,ks=[key]→BsAt F w4 kv key:=λ k hk=>(o3 k hk).go cU;have q4:=x2.upd hu (.inl (λ hh=>hh.2 rfl)) oM;have c6:=h3.upd hu oM;have z4:=hu.size;clear a0 hu hx x1 o3 x2 h3 cU b1 m0;have x7:=u1.two;have v7:=u1.ks;have a9:w4.cell? (at' b2 (i-1))=some (.int .i64 (f2.2:Int)):=q0.row.cell t9;repeat (first|(refine aH ?_;refine aC (j:=i-1) rfl rfl rfl oM (Nat.mul_one _) ⟨_,_,q0⟩ rfl ?_)|refine yC ?_)
   refine aB 111 ?_;refine aA rfl (rkidsN_c (F:=F) (G:=F) (f4 _ oM) x.a2 pa x.n2 x.c2 o0.kids.length pc f2.2 (f2.2+1) f2.1.kids o0.kids v6.kids t4 oM oM oM) rfl ?_;rintro _ w5 ⟨⟨qa,qc,rfl,hq⟩,h1⟩;have z5:=h1.size;replace j3:=j3.grow h1;replace i12:=i12.grow h1;replace p0:=p0.go (Carry.grow h1);replace z0:=z0.go (Carry.grow h1);replace q0:=q0.go (Carry.grow h1);have s7:=v6.go (Carry.grow h1);have f5:∀ key,ks=[key]→BsAt F w5 kv key:=λ k hk=>(g5 k hk).go (Carry.grow h1);have p4:=q4.grow h1;have a6:=c6.trans (ButS.grow h1);clear v6 t4 g5 q4 c6 h1 a9;repeat (first|refine aF ?_|refine yJ λ w' hu a0 m0=>?_)
   have b1:Blk w' j1 79 [x.v1,.slice qa (f2.2+o0.kids.length+(x.n2-(f2.2+1))) qc,x.v3]:=a0;obtain ⟨w6,rfl⟩:=yE w';have cU:Carry F w5 F w6:=Carry.upd hu (λ k hk _=>((hF k).1 hk).2);replace i12:=i12.upd hu oM;replace p0:=p0.go cU;replace z0:=z0.go cU;replace q0:=q0.go cU;have g6:=s7.go cU;have j8:=hq.go cU;have j7:∀ key,ks=[key]→BsAt F w6 kv key:=λ k hk=>(f5 k hk).go cU;have o4:=p4.upd hu (.inl (λ hh=>hh.2 rfl)) oM;have y5:=a6.upd hu oM;have z6:=hu.size;clear a0 hu s7 hq f5 p4 a6 cU j3 m0;have n0:o0.keys=ks:=by rw [u2]
   have u4:mO (key,v) th (fr.drop (i-1+1)) g=some (o0,g2):=by rw [show i-1+1=i by omega];exact k6
   by_cases h2:o0.kids.length=2
   ·obtain ⟨q7,q2⟩:∃ k,ks=[k]:=by
     rw [h2,n0] at j0
     match ks,j0 with
     | [k],_=>exact ⟨k,rfl⟩
    obtain ⟨r6,p6,q6,rfl,m3⟩:=j7 _ q2;repeat refine aF ?_
    refine TL.buildSlice rfl rfl rfl rfl rfl ?_;intro b' wa f0 o1 j6 i6 h6;have i0:Blk wa b' 30 [.slice r6 p6 q6]:=o1;have za:=f0.size;have q8:KysAt F wa (some ⟨b',0,none⟩) 1 1 [q7]:=⟨_,(aU (sz:=1) (m:=1) i0 rfl dM).mono (λ k hk=>by subst hk;exact f4 w6 oM _ oM),⟨_,_,_,rfl,m3.grow f0⟩,trivial⟩
    have r8:=g6.kys.go (Carry.grow f0);replace b1:=b1.grow f0;repeat refine aF ?_
    refine aB 121 ?_;refine aA rfl (rkeysK_c (F:=F) (f4 _ oM) x.a3 (some ⟨b',0,none⟩) x.n3 x.c3 1 1 f2.2 f2.2 f2.1.keys [q7] r8 q8 oM oM oM) rfl ?_;rintro _ wb ⟨⟨ra,rc,rfl,hr⟩,q1⟩;have zb:=q1.size;have e0:=f0.trans q1;replace b1:=b1.grow q1;clear o1 i0 q8 r8 f0 q1;repeat (first|refine aF ?_|refine yJ λ w' hu a0 m0=>?_)
    have cW:Carry F w6 F w':=(Carry.grow e0).trans (Carry.upd hu (λ k hk _=>((hF k).1 hk).2));have cV:Carry F wb F w':=Carry.upd hu (λ k hk _=>((hF k).1 hk).2);have zu:=hu.size;refine aE (i-1,⟨x.a1,x.n1,x.c1,qa,f2.2+o0.kids.length+(x.n2-(f2.2+1)),qc,ra,f2.2+1+(x.n3-f2.2),rc⟩,cP f2.1 f2.2 o0 (key,v) th,g2) ⟨rfl,rfl,rfl,rfl,trivial⟩ ⟨by simp only;omega,⟨f2,o0,e4,u4,u1,λ _=>j0,rfl⟩,a0,?_,(i12.grow e0).upd hu oM,p0.go cW,z0.go cW,q0.go cW,(o4.grow e0).upd hu (.inl (λ hh=>hh.2 rfl)) oM,(y5.trans (ButS.grow e0)).upd hu oM,oM⟩ (by simp only;omega);rw [y3,n0,q2];exact ⟨g6.its.go cW,j8.go cW,hr.go cV⟩
   ·have u9:o0.keys=[]:=by
     rcases y4 with ⟨_,_,rfl⟩|⟨_,rfl,rfl⟩
     ·exact n0
     ·rw [n0] at j0;simp only [List.length_cons,List.length_nil] at j0;omega
    repeat refine aF ?_
    refine aE (i-1,⟨x.a1,x.n1,x.c1,qa,f2.2+o0.kids.length+(x.n2-(f2.2+1)),qc,x.a3,x.n3,x.c3⟩,cP f2.1 f2.2 o0 (key,v) th,g2) ⟨rfl,rfl,rfl,rfl,trivial⟩ ⟨by simp only;omega,⟨f2,o0,e4,u4,u1,λ _=>j0,rfl⟩,b1,?_,i12,p0,z0,q0,o4,y5,oM⟩ (by simp only;omega);rw [y3,u9,List.append_nil,List.take_append_drop];exact ⟨g6.its,j8,g6.kys⟩
theorem rput_bad {w:World} (p:Nat) (a0:Option Nat) (e0:∀ n,a0=some n→n<9223372036854775808) (G G':Nat→Prop) (a a':Option Addr) (m c m' c':Nat) (key v:Bs) (hk:Sl G w 1 a m c (bB key)) (hv:Sl G' w 1 a' m' c' (bB v)) (hb:(eF key&&fB v)=false) :
  Calls Tryz.prog 37 #[.pointer (some ⟨p,0,none⟩),.int .i64 (dC a0),.slice a m c,.slice a' m' c'] w (Ret λ u w'=>u=.tuple #[.int .i64 0,.int .i64 2]∧Grow w w'):=by
 have hm:m=key.length:=by have:=hk.len;rw [bB,List.length_map] at this;omega
 have g0:m'=v.length:=by have:=hv.len;rw [bB,List.length_map] at this;omega
 refine V.calls (args:=[_,_,_,_]) Tryz.func37 rfl Tryz.ntmps37 rfl rfl ?_
 cases hko:eF key with
 | false =>
  repeat (first|(refine aB 104 ?_;refine aA rfl (rbegin_c p a0 e0 _) rfl ?_;rintro _ _ ⟨rfl,rfl⟩)|(refine aB 105 ?_;refine aA rfl (rkey_c a _ c key false _ hko hm) rfl ?_;rintro _ _ ⟨rfl,rfl⟩)|refine yC ?_)
  exact eZ rfl rfl ⟨_,rfl,rfl,Grow.refl _⟩
 | true =>
  have f0:fB v=false:=by rw [hko] at hb;simpa using hb
  repeat (first|(refine aB 104 ?_;refine aA rfl (rbegin_c p a0 e0 _) rfl ?_;rintro _ _ ⟨rfl,rfl⟩)|(refine aB 105 ?_;refine aA rfl (rkey_c a _ c key true _ hko hm) rfl ?_;rintro _ _ ⟨rfl,rfl⟩)|(refine aB 118 ?_;refine aA rfl (rvalue_c a' _ c' v false _ f0 g0) rfl ?_;rintro _ _ ⟨rfl,rfl⟩)|refine yC ?_)
  exact eZ rfl rfl ⟨_,rfl,rfl,Grow.refl _⟩
theorem TrAt.rlt {g:Pg} {a0:Option Nat} {lv:Nat} {l:bQ} {ps:List Nat} (ht:TrAt g a0 lv l ps) (e0:PgOk g):∀ n,a0=some n→n<9223372036854775808:=λ n e=>by
 subst e;have:=dW (ht.root_used n rfl);have:=e0.cnt;omega
theorem both_det {g:Pg} (i0:PgOk g) {a0:Option Nat} {lv:Nat} {l:bQ} {ps:List Nat} (ht:TrAt g a0 lv l ps) (n0:lv≤15) (l0:32≤cR g) (key v:Bs) (m0:fL key) (k0:fL v):∃ (x e:Int) (e0:Option Nat) (g':Pg) (f0:Nat) (l':bQ) (g0:List Nat),
  (((eF key&&fB v)=true∧e=0∧x=dC e0∧l'=hO key v l)∨((eF key&&fB v)=false∧e=2∧x=0∧e0=a0∧g'=g∧l'=l∧f0=lv))∧Ext g g'∧PgOk g'∧TrAt g' e0 f0 l' g0 ∧
  (∀ {w:World} {L:PL},PgW w L g→∀ (a a':Option Addr) (m c m' c':Nat),Sl (λ k=>¬ L.S k) w 1 a m c (bB key)→Sl (λ k=>¬ L.S k) w 1 a' m' c' (bB v) →
   Calls Tryz.prog 25 #[.pointer (some ⟨L.p,0,none⟩),.int .i64 (dC a0),.slice a m c,.slice a' m' c'] w (Ret λ u w'=>u=.tuple #[.int .i64 x,.int .i64 e]∧PgW w' L g'∧ButS L.S w w')) ∧
  ∀ {K G G':Nat→Prop} {w:World} {R:RL},RfAt K w R g→(∀ k,w.heap.size≤k→K k)→∀ (a a':Option Addr) (m c m' c':Nat),Sl G w 1 a m c (bB key)→Sl G' w 1 a' m' c' (bB v) →
   Calls Tryz.prog 37 #[.pointer (some ⟨R.p,0,none⟩),.int .i64 (dC a0),.slice a m c,.slice a' m' c'] w (Ret λ u w'=>u=.tuple #[.int .i64 x,.int .i64 e]∧RfAt K w' R g'∧ButS R.S w w'):=by
 cases hb:eF key&&fB v with
 | false =>
  refine ⟨0,2,a0,g,lv,l,ps,.inr ⟨rfl,rfl,rfl,rfl,rfl,rfl,rfl⟩,Ext.refl _,i0,ht,λ h a a' m c m' c' hk hv=>Calls.mono (put_bad h.at_ a0 ht.root_used a a' m c m' c' key v hk hv hb) λ y w' hy=>hy.mono λ u w' ⟨hu,hg⟩=>⟨hu,h.grow hg,ButS.grow hg⟩,λ h hK a a' m c m' c' hk hv=>Calls.mono (rput_bad _ a0 (ht.rlt i0) _ _ a a' m c m' c' key v hk hv hb) λ y w' hy=>hy.mono λ u w' ⟨hu,hg⟩=>⟨hu,h.grow hg,ButS.grow hg⟩⟩
 | true =>
  obtain ⟨j0,h0⟩:=Bool.and_eq_true_iff.1 hb;obtain ⟨n,g',f0,g0,e1,e2,e3,e4,e5,e6,e7⟩:=put_tr i0 ht j0 h0 oM oM;exact ⟨_,0,some n,g',f0,_,g0,.inl ⟨rfl,rfl,rfl,rfl⟩,e2,e3,e4,λ h a a' m c m' c' hk hv=>Calls.mono (put_c h.at_ h.tab h.ne0 a0 a a' m c m' c' key v hk hv j0 h0 m0 k0 l0 n e1) λ y w' hy=>hy.mono λ u w' ⟨hu,hp,hb⟩=>⟨hu,h.put hp hb,hb⟩,λ h hK a a' m c m' c' hk hv=>rput_c h hK a0 _ _ a a' m c m' c' key v hk hv j0 h0 m0 k0 l0 n e1⟩
def putL (l:bQ) (x:Bs×Bs):bQ:=if eF x.1&&fB x.2 then hO x.1 x.2 l else l
def iD (l:bQ):bQ:=l.foldl putL []
theorem putL_len (l:bQ) (x:Bs×Bs):(putL l x).length≤l.length+1:=by
 unfold putL;split
 ·exact (insI_len _ _ l).2
 ·omega
theorem foldl_len (l:bQ):∀ (a0:bQ),(l.foldl putL a0).length≤a0.length+l.length:=by
 induction l with
 | nil=>intro a0;simp
 | cons x r ih=>intro a0;have:=ih (putL a0 x);have:=putL_len a0 x;simp only [List.foldl_cons,List.length_cons];omega
structure Pl (w:World) (B:Nat) (L:PL) (R:RL) (g:Pg):Prop where
 pw:PgW w L g
 rf:RfAt (λ k=>¬ L.S k∧¬ R.S k) w R g
 lB:∀ k,k=L.p∨k=L.d∨k=L.u∨k=L.m→B≤k
 rB:∀ k,k=R.p∨k=R.d∨k=R.c∨k=R.u→B≤k
 dj:∀ k,k=R.p∨k=R.d∨k=R.c∨k=R.u→¬ L.S k
 dj2:∀ k,k=L.p∨k=L.d∨k=L.u∨k=L.m→¬ R.S k
 r0:¬ R.S 0
theorem Pl.grow {w w':World} {B:Nat} {L:PL} {R:RL} {g:Pg} (h:Pl w B L R g) (gr:Grow w w'):Pl w' B L R g:=⟨h.pw.grow gr,h.rf.grow gr,h.lB,h.rB,h.dj,h.dj2,h.r0⟩
theorem Pl.lS {w:World} {B:Nat} {L:PL} {R:RL} {g:Pg} (h:Pl w B L R g) {k:Nat} (hk:L.S k):B≤k∧k<w.heap.size:=by
 have:=h.pw.at_.lts;unfold PL.S at hk;rcases hk with rfl|rfl|rfl
 ·exact ⟨h.lB _ sM,oM⟩
 ·exact ⟨h.lB _ sM,oM⟩
 ·exact ⟨h.lB _ sM,oM⟩
theorem Pl.rS {w:World} {B:Nat} {L:PL} {R:RL} {g:Pg} (h:Pl w B L R g) {k:Nat} (hk:R.S k):B≤k∧k<w.heap.size:=by
 have:=h.rf.lts;unfold RL.S at hk;rcases hk with rfl|rfl|rfl
 ·exact ⟨h.rB _ sM,oM⟩
 ·exact ⟨h.rB _ sM,oM⟩
 ·exact ⟨h.rB _ sM,oM⟩
theorem Pl.keeps {w w1 w2:World} {B:Nat} {L L':PL} {R:RL} {g:Pg} {u:Nat} {qs:List Nat} (h:Pl w B L R g) (hB:B≤w.heap.size) (e1:L'.p=L.p) (e2:L'.d=L.d) (e3:L'.m=L.m) (e5:w.heap.size≤L'.u) (pg:PgAt w1 L' (jL g qs)) (b1:ButS (λ k=>k=L.p) w w1) (hu:w1.heap.size≤u) (b2:ButS (λ k=>k=R.p) w1 w2)
  (hr:RfAt (λ k=>(¬ L'.S k∧¬ R.S k)∧k≠u) w2 ⟨R.p,R.d,R.b,R.c,u⟩ (jL g qs)):Pl w2 B L' ⟨R.p,R.d,R.b,R.c,u⟩ (jL g qs):=by
 have z1:=b1.size;have hl:=h.pw.at_.lts;have g0:=h.rf.lts;have f0:=pg.lts;have h0:=h.pw.tab.1;have nL:∀ x,(x=R.p∨x=R.d∨x=R.c)→x<w.heap.size∧(x=L'.m→False)∧(x=L'.p→False):=λ x hx=>⟨oM,λ e=>h.dj x (by rcases hx with h|h|h<;>simp [h]) (by unfold PL.S;rw [e,e3];simp),λ e=>h.dj x (by rcases hx with h|h|h<;>simp [h]) (by unfold PL.S;rw [e,e1];simp)⟩
 have nR:∀ x,(x=L'.p∨x=L'.d∨x=L'.m)→x<w.heap.size∧(x=R.p→False)∧(x=R.c→False):=λ x hx=>⟨oM,λ e=>h.dj2 x (by rw [← e1,← e2,← e3];rcases hx with h|h|h<;>simp [h]) (by unfold RL.S;simp [e]),λ e=>h.dj2 x (by rw [← e1,← e2,← e3];rcases hx with h|h|h<;>simp [h]) (by unfold RL.S;simp [e])⟩
 have n0:¬ L'.S 0:=λ e=>by
  unfold PL.S at e;rcases e with e|e|e
  ·omega
  ·exact h.pw.ne0 (by unfold PL.S;rw [← e3];simp [e])
  ·exact h.pw.ne0 (by unfold PL.S;rw [← e1];simp [e])
 have r0:0≠R.p∧0≠R.c:=⟨λ e=>h.r0 (by unfold RL.S;simp [e]),λ e=>h.r0 (by unfold RL.S;simp [e])⟩
 have a0:=hr.lts;simp only at a0;refine ⟨(⟨pg,h.pw.tab.buts b1 (λ e=>h.pw.ne0 (by unfold PL.S;simp [e])),n0⟩:PgW w1 L' (jL g qs)).other b2 (λ k hk e=>?_) r0.1,hr.keep2 (Carry.mono λ k hk _=>⟨hk.1.1,λ e=>?_⟩) (λ _ _=>rfl) (λ k hk=>hk.2),λ k hk=>?_,λ k hk=>?_,λ k hk e=>?_,λ k hk e=>?_,λ e=>?_⟩
 ·rcases hk with hk|hk|hk|hk
  ·exact (nR k (by simp [hk])).2.1 e
  ·exact (nR k (by simp [hk])).2.1 e
  ·omega
  ·exact (nR k (by simp [hk])).2.1 e
 ·have h1:=hk.1.2;unfold RL.S at e h1;simp only at e;rcases e with e|e|e
  ·exact h1 (.inl e)
  ·exact h1 (.inr (.inl e))
  ·exact hk.2 e
 ·rcases hk with hk|hk|hk|hk
  ·exact h.lB k (by simp [hk,e1])
  ·exact h.lB k (by simp [hk,e2])
  ·omega
  ·exact h.lB k (by simp [hk,e3])
 ·simp only at hk;rcases hk with hk|hk|hk|hk
  ·exact h.rB k (by simp [hk])
  ·exact h.rB k (by simp [hk])
  ·exact h.rB k (by simp [hk])
  ·omega
 ·simp only at hk;unfold PL.S at e;by_cases e0:k=u
  ·omega
  ·obtain ⟨a1,a2,a3⟩:=nL k oM;rcases e with e|e|e
   ·omega
   ·exact a2 e
   ·exact a3 e
 ·unfold RL.S at e;simp only at e;by_cases e0:k=L'.u
  ·omega
  ·obtain ⟨a1,a2,a3⟩:=nR k oM;rcases e with e|e|e
   ·exact a2 e
   ·exact a3 e
   ·omega
 ·unfold RL.S at e;simp only at e;rcases e with e|e|e
  ·exact r0.1 e
  ·exact r0.2 e
  ·omega
theorem planted_c {F0:Nat→Prop} {w:World} {a:Option Addr} {n c:Nat} {l:bQ} (v0:TabAt w) (h0:ItsAt F0 w a n c l) (c7:∀ x∈l,fL x.1∧fL x.2) (u6:l.length≤60) (r4:∀ x∈l,x.1.length≤100∧x.2.length≤100) :
  Calls Tryz.prog 53 #[.slice a n c] w (Ret λ v w'=>∃ L R i0 g lv ps,v=.tuple #[.pointer (some ⟨L.p,0,none⟩),.pointer (some ⟨R.p,0,none⟩),.int .i64 (dC i0),.bool true]∧Pl w' w.heap.size L R g∧g.count=200∧32≤cR g∧TrAt g i0 lv (iD l) ps∧lv≤4∧Grow w w'):=by
 obtain ⟨F,hF⟩:∃ F:Nat→Prop,∀ k,F k↔k<w.heap.size:=⟨_,λ _=>Iff.rfl⟩
 have q2:ItsAt F w a n c l:=⟨_,(h0.ex.choose_spec.1).go (Carry.mono λ k _ hl=>(hF k).2 hl),h0.ex.choose_spec.2.go (Carry.mono λ k _ hl=>(hF k).2 hl)⟩
 clear h0;have o6:=q2.len;subst o6;have u7:0<w.heap.size:=v0.1;refine V.calls (args:=[_]) Tryz.func53 rfl Tryz.ntmps53 rfl rfl ?_;repeat refine aF ?_
 refine aB 67 ?_;refine aA rfl (dnew_c (2*200) w oM oM) rfl ?_;rintro _ w1 ⟨d,s,m,rfl,hd,hm,q3,d5⟩;have z1:=d5.size;have zd:d<w1.heap.size∧m<w1.heap.size:=⟨q3.blk.lt,q3.map.lt⟩
 repeat refine aF ?_
 refine aB 31 ?_;refine aA rfl (rdisk_c (2*200) w1 oM oM) rfl ?_;rintro _ w2 ⟨rd,rb,rc,rfl,d6,g6,f6,x2,s1,p3⟩;have z2:=p3.size;have zr:rd<w2.heap.size∧rc<w2.heap.size:=⟨x2.lt,s1.lt⟩
 have p5:rd≠rc:=by
  rintro rfl;unfold Blk at x2 s1;rw [x2] at s1;injection (Option.some.inj s1) with h1 h2 h3;revert h2
  decide
 repeat refine aF ?_
 refine aB 32 ?_;refine aA rfl (ropen_c 200 rd rb rc w2 oM oM x2 s1 p5) rfl ?_;rintro _ w3 ⟨rp,ru,rfl,a6,y5,j4,o3⟩;have z3:=o3.size;have d2:=j4 (λ k=>¬ RL.S ⟨rp,rd,rb,rc,ru⟩ k) (λ k hk=>hk);have g5:=d2.lts;simp only at g5;repeat refine aF ?_
 refine aB 68 ?_;refine aA rfl (open_c (q3.grow (p3.trans o3)) oM oM) rfl ?_;rintro _ w4 ⟨L,rfl,m7,l7,k7,j7,p4,m3⟩;have z4:=m3.size;have k3:=((d5.trans p3).trans o3).trans m3;have zL:=p4.lts;have n5:Pl w4 w.heap.size L ⟨rp,rd,rb,rc,ru⟩ (pg0 200):=⟨⟨p4,v0.keep (k3.block 0 v0.1) k3.size,λ h=>by unfold PL.S at h;omega⟩,(j4 _ (λ k hk=>hk.2)).grow m3,λ b hb=>by omega,λ b hb=>by simp only at hb;omega,λ k hk=>by unfold PL.S;simp only at hk;omega,λ k hk=>by unfold RL.S;simp only;omega,λ h=>by unfold RL.S at h;simp only at h;omega⟩
 repeat refine aF ?_
 refine aX (S:=Nat×Option Nat×Pg×PL×RL) (λ q=>[(15,.int .i64 (q.1:Int)),(14,.int .i64 (dC q.2.1)),(13,.int .i64 (dC q.2.1)),(12,.pointer (some ⟨q.2.2.2.1.p,0,none⟩)),(10,.pointer (some ⟨q.2.2.2.2.p,0,none⟩)),(0,.slice a l.length c)])
  (λ q w1=>q.1≤l.length∧Pl w1 w.heap.size q.2.2.2.1 q.2.2.2.2 q.2.2.1∧q.2.2.1.count=200∧32≤cR q.2.2.1∧Grow w w1∧∃ lv ps,TrAt q.2.2.1 q.2.1 lv (iD (l.take q.1)) ps) (λ q=>l.length-q.1) (0,none,pg0 200,L,⟨rp,rd,rb,rc,ru⟩) ⟨rfl,rfl,rfl,rfl,rfl,rfl,trivial⟩
  ⟨Nat.zero_le _,n5,rfl,by simp only [spare_pg0];omega,k3,0,[],⟨rfl,rfl,rfl⟩⟩ ?_
 clear n5 k3 j4 d2 q3 x2 s1 p4 d5 p3 o3 m3 z1 z2 z3 z4 zd zr g5 zL hd hm d6 g6 f6 a6 y5 m7 l7 k7 j7 p5;clear L w1 w2 w3 w4 d s m rd rb rc rp ru;rintro ⟨i,i0,g,L,R⟩ v1 ⟨hi,hp,z0,d4,q1,lv,ps,o1⟩;simp only at hi hp z0 d4 o1
 have i6:(iD (l.take i)).length≤i:=by
  have:=foldl_len (l.take i) [];rw [List.length_take,List.length_nil] at this;unfold iD;omega
 have q6:lv≤4:=o1.levels (k:=4) oM oM;have q7:=o1.rlt hp.pw.at_.ok;have zv:=q1.size;by_cases r6:i<l.length;rotate_left
 ·obtain rfl:i=l.length:=by omega
  rw [List.take_length] at o1;repeat refine aF ?_
  refine eH (vs:=[_,_,_,_]) ⟨_,_,rfl,rfl,_,_,rfl,rfl,_,_,rfl,rfl,_,[],rfl,rfl,rfl⟩ rfl ⟨_,rfl,L,R,i0,g,lv,ps,rfl,hp,z0,d4,o1,q6,q1⟩
 obtain ⟨x,hx⟩:∃ x,l[i]? = some x:=⟨_,List.getElem?_eq_getElem r6⟩
 have k5:=List.mem_of_getElem? hx;obtain ⟨g7,f7⟩:=c7 x k5;obtain ⟨p7,o7⟩:=r4 x k5;obtain ⟨cs,o5,v6⟩:=q2.ex;obtain ⟨kv,vv,f0,f1,e7,d7⟩:=v6.at' hx;obtain ⟨ka,kc,rfl,j3⟩:=e7.sl;obtain ⟨va,vc,rfl,l5⟩:=d7.sl;have g1:cs[i*2]? = some (.slice ka x.1.length kc):=by rw [Nat.mul_comm];exact f0
 have g2:cs[i*2+1]? = some (.slice va x.2.length vc):=by rw [Nat.mul_comm];exact f1
 obtain ⟨xv,e,e0,g',u3,x3,l0,g3,a7,x0,j0,f2,p0⟩:=both_det hp.pw.at_.ok o1 oM d4 x.1 x.2 g7 f7;have y0:=o5.go (Carry.grow q1);have t4:=j3.go (Carry.grow q1);have b4:=l5.go (Carry.grow q1);have d3:∀ k,F k→¬ L.S k:=λ k hk e=>by have:=(hp.lS e).1;have:=(hF k).1 hk;omega
 have r5:∀ k,F k→¬ R.S k:=λ k hk e=>by have:=(hp.rS e).1;have:=(hF k).1 hk;omega
 have i3:∀ k,v1.heap.size≤k→¬ L.S k:=λ k hk e=>by have:=(hp.lS e).2;omega
 have k0:iD (l.take (i+1))=putL (iD (l.take i)) x:=by
  unfold iD;rw [List.take_add_one,hx,Option.toList_some,List.foldl_append];rfl
 have o2:x3=iD (l.take (i+1)):=by
  rw [k0];unfold putL;rcases g3 with ⟨h1,_,_,h2⟩|⟨h1,_,_,_,_,h2,_⟩
  ·rw [if_pos h1];exact h2
  ·rw [if_neg (by rw [h1];simp)];exact h2
 rw [o2] at j0;repeat refine aF ?_
 apply nD (ButS L.S) 20 14 (λ wq=>PgW wq L g∧Grow v1 wq) (λ wq=>PgW wq L g'∧ButS L.S v1 wq) (λ wq=>ButS L.S v1 wq)
  [hZ (.pointer (some ⟨L.p,0,none⟩)),hZ (.int .i64 (dC i0)),hZ (.slice a l.length c),hZ (.int .i64 (i:Int)),hZ (.pointer (some (at' a (i*2)))),hZ (.pointer (some (at' a (i*2+0)))),hZ (.slice ka x.1.length kc),ownS v1.heap.size 5 1 x.1.length (bB x.1) i3,
   hZ (.slice a l.length c),hZ (.int .i64 (i:Int)),hZ (.pointer (some (at' a (i*2)))),hZ (.pointer (some (at' a (i*2+1)))),hZ (.slice va x.2.length vc),ownS v1.heap.size 5 1 x.2.length (bB x.2) i3,
   hZ (.tuple #[.int .i64 xv,.int .i64 e]),hZ (.tuple #[.int .i64 xv,.int .i64 e]),hZ (.int .i64 xv),hZ (.int .i64 e),hZ (.int .i64 xv),hZ (.int .i64 e)]
 ·kernel_rfl
 ·exact ⟨hp.pw,Grow.refl _⟩
 ·exact λ _ h=>ButS.grow h.2
 ·exact λ _ h=>h.2
 ·exact λ _ h=>h.size
 ·exact λ _ _ h g=>⟨h.1.grow g,h.2.trans g⟩
 ·exact λ _ _ h g=>⟨h.1.grow g,h.2.trans (ButS.grow g)⟩
 ·exact λ _ _ h=>h.size
 ·repeat' (first|exact iT|refine gY ?_ ?_)
  iterate 7
   ·refine dA rfl rfl rfl rfl ?_;intro wq _ _ a0;(refine yU ?_)
    have g0:=y0.go (Carry.buts a0 λ k hk _=>d3 k hk);have s3:wq.cell? (at' a (i*2))=some (.slice ka x.1.length kc):=g0.row.cell g1;have r3:wq.cell? (at' a (i*2+1))=some (.slice va x.2.length vc):=g0.row.cell g2;repeat (first|(refine aH ?_;refine aC (j:=i) rfl rfl rfl oM rfl ⟨_,_,g0⟩ rfl ?_)|(refine bN ?_;refine bJ (o:=i*2) rfl g0 g1 rfl ?_)|refine yC ?_)
    exact bT rfl (Grow.refl _) rfl
  ·refine dA rfl rfl rfl rfl ?_;intro wq _ _ a0;(refine yU ?_)
   refine aB 20 ?_;refine aA rfl (own_c _ ka x.1.length kc x.1 _ (t4.go (Carry.buts a0 λ k hk _=>d3 k hk)) oM) rfl ?_;rintro vk v7 ⟨m0,a5⟩;repeat refine aF ?_
   exact bT rfl a5 (dX m0 a0.size)
  iterate 5
   ·refine dA rfl rfl rfl rfl ?_;intro wq _ _ a0;(refine yU ?_)
    have g0:=y0.go (Carry.buts a0 λ k hk _=>d3 k hk);have s3:wq.cell? (at' a (i*2))=some (.slice ka x.1.length kc):=g0.row.cell g1;have r3:wq.cell? (at' a (i*2+1))=some (.slice va x.2.length vc):=g0.row.cell g2;repeat (first|(refine aH ?_;refine aC (j:=i) rfl rfl rfl oM rfl ⟨_,_,g0⟩ rfl ?_)|(refine bN ?_;refine bJ (o:=i*2) rfl g0 g1 rfl ?_)|refine yC ?_)
    exact bT rfl (Grow.refl _) rfl
  ·refine dA rfl rfl rfl rfl ?_;intro wq _ _ a0;(((repeat (refine needA_cons rfl rfl ?_;intro vq x1;try (obtain rfl:=Eq.symm x1)));(refine needA_nil ?_)))
   refine aB 20 ?_;refine aA rfl (own_c _ va x.2.length vc x.2 _ (b4.go (Carry.buts a0 λ k hk _=>d3 k hk)) oM) rfl ?_;rintro vk v7 ⟨m0,a5⟩;repeat refine aF ?_
   exact bT rfl a5 (dX m0 a0.size)
  ·refine iS rfl rfl rfl rfl ?_;intro wq _ _ a0;refine needA_cons rfl rfl ?_;intro t5 u0
   refine needA_cons rfl rfl ?_;intro s5 t0
   refine needA_cons rfl rfl ?_;intro j5 s0
   refine needA_cons rfl rfl ?_;intro h5 q0
   refine needA_nil ?_;obtain rfl:=Eq.symm u0;obtain rfl:=Eq.symm t0;have n6:wq.ownsRow v1.heap.size 5 1 j5 x.1.length (bB x.1):=s0;have m6:wq.ownsRow v1.heap.size 5 1 h5 x.2.length (bB x.2):=q0;obtain ⟨a3,c3,rfl,x5⟩:=aN n6;obtain ⟨a4,c4,rfl,u5⟩:=aN m6;refine aB 25 ?_;refine aA rfl (f2 a0.1 a3 a4 x.1.length c3 x.2.length c4 (x5.mono λ k hk=>i3 k hk.1) (u5.mono λ k hk=>i3 k hk.1)) rfl ?_;rintro _ v8 ⟨rfl,q4,y2⟩;repeat refine aF ?_
   exact bT rfl ⟨y2,q4,(ButS.grow a0.2).trans y2⟩ rfl
  iterate 5
   ·refine dA rfl rfl rfl rfl ?_;intro wq _ _ a0;(first|refine yU ?_|((repeat (refine needA_cons rfl rfl ?_;intro vq x1;try (obtain rfl:=Eq.symm x1)));(refine needA_nil ?_)))
    have g0:=y0.go (Carry.buts a0 λ k hk _=>d3 k hk);have s3:wq.cell? (at' a (i*2))=some (.slice ka x.1.length kc):=g0.row.cell g1;have r3:wq.cell? (at' a (i*2+1))=some (.slice va x.2.length vc):=g0.row.cell g2;repeat (refine yC ?_)
    exact bT rfl (Grow.refl _) rfl
 ·rintro v2 lo t7 ⟨l6,j1⟩ _ _;(((repeat (refine needA_cons rfl rfl ?_;intro vq x1;try (obtain rfl:=Eq.symm x1)));(refine needA_nil ?_)))
  have y6:∀ k,L.S k→w.heap.size≤k:=λ k hk=>(hp.lS hk).1;have x6:∀ k,R.S k→w.heap.size≤k:=λ k hk=>(hp.rS hk).1;have o0:Grow w v2:=fV q1 j1 y6;have z2:=j1.size;have i4:=hp.rf.buts j1 (λ k hk=>hk.1) hp.dj;have r2:=o5.go (Carry.grow o0);have s4:=j3.go (Carry.grow o0);have y3:=l5.go (Carry.grow o0);repeat refine aF ?_
  apply nD (ButS R.S) 18 12 (λ wq=>RfAt (λ k=>¬ L.S k∧¬ R.S k) wq R g∧Grow v2 wq) (λ wq=>RfAt (λ k=>¬ L.S k∧¬ R.S k) wq R g'∧ButS R.S v2 wq) (λ wq=>ButS R.S v2 wq)
   [hZ (.pointer (some ⟨R.p,0,none⟩)),hZ (.int .i64 (dC i0)),hZ (.slice a l.length c),hZ (.int .i64 (i:Int)),hZ (.pointer (some (at' a (i*2)))),hZ (.pointer (some (at' a (i*2+0)))),hZ (.slice ka x.1.length kc),
    hZ (.slice a l.length c),hZ (.int .i64 (i:Int)),hZ (.pointer (some (at' a (i*2)))),hZ (.pointer (some (at' a (i*2+1)))),hZ (.slice va x.2.length vc),
    hZ (.tuple #[.int .i64 xv,.int .i64 e]),hZ (.tuple #[.int .i64 xv,.int .i64 e]),hZ (.int .i64 xv),hZ (.int .i64 e),hZ (.int .i64 xv),hZ (.int .i64 e)]
  ·kernel_rfl
  ·exact ⟨i4,Grow.refl _⟩
  ·exact λ _ h=>ButS.grow h.2
  ·exact λ _ h=>h.2
  ·exact λ _ h=>h.size
  ·exact λ _ _ h g=>⟨h.1.grow g,h.2.trans g⟩
  ·exact λ _ _ h g=>⟨h.1.grow g,h.2.trans (ButS.grow g)⟩
  ·exact λ _ _ h=>h.size
  ·repeat' (first|exact iT|refine gY ?_ ?_)
   iterate 12
    ·refine dA rfl rfl rfl rfl ?_;intro wq _ _ a0;(refine yU ?_)
     have g0:=r2.go (Carry.buts a0 λ k hk _=>r5 k hk);have s3:wq.cell? (at' a (i*2))=some (.slice ka x.1.length kc):=g0.row.cell g1;have r3:wq.cell? (at' a (i*2+1))=some (.slice va x.2.length vc):=g0.row.cell g2;repeat (first|(refine aH ?_;refine aC (j:=i) rfl rfl rfl oM rfl ⟨_,_,g0⟩ rfl ?_)|(refine bN ?_;refine bJ (o:=i*2) rfl g0 g1 rfl ?_)|refine yC ?_)
     exact bT rfl (Grow.refl _) rfl
   ·refine iS rfl rfl rfl rfl ?_;intro wq _ _ a0;refine needA_cons rfl rfl ?_;intro t5 u0
    refine needA_cons rfl rfl ?_;intro s5 t0
    refine needA_cons rfl rfl ?_;intro j5 s0
    refine needA_cons rfl rfl ?_;intro h5 q0
    refine needA_nil ?_;obtain rfl:=Eq.symm u0;obtain rfl:=Eq.symm t0;obtain rfl:=Eq.symm s0;obtain rfl:=Eq.symm q0;refine aB 37 ?_;have zi:=a0.2.size;refine aA rfl (p0 a0.1 (λ k hk=>⟨λ e=>by have:=(hp.lS e).2;omega,λ e=>by have:=(hp.rS e).2;omega⟩) ka va x.1.length kc x.2.length vc (s4.grow a0.2) (y3.grow a0.2)) rfl ?_;rintro _ v8 ⟨rfl,q4,y2⟩;repeat refine aF ?_
    exact bT rfl ⟨y2,q4,(ButS.grow a0.2).trans y2⟩ rfl
   iterate 5
    ·refine dA rfl rfl rfl rfl ?_;intro wq _ _ a0;(refine yU ?_)
     have g0:=r2.go (Carry.buts a0 λ k hk _=>r5 k hk);have s3:wq.cell? (at' a (i*2))=some (.slice ka x.1.length kc):=g0.row.cell g1;have r3:wq.cell? (at' a (i*2+1))=some (.slice va x.2.length vc):=g0.row.cell g2;repeat (refine yC ?_)
     exact bT rfl (Grow.refl _) rfl
  ·rintro v3 n7 s7 ⟨k6,b1⟩ _ _;(refine yU ?_)
   have u2:Grow w v3:=fV o0 b1 x6;have z3:=b1.size;have t3:Pl v3 w.heap.size L R g':=⟨l6.other b1 hp.dj2 hp.r0,k6,hp.lB,hp.rB,hp.dj,hp.dj2,hp.r0⟩
   have p6:u3≤4:=j0.levels (k:=4) oM (by have:=putL_len (iD (l.take i)) x;rw [k0];omega);have c6:=j0.rlt x0;have n0:g'.count=200:=a7.count.trans z0
   have j2:∃ x9:Int,(e=0→x9=dC e0∧xv=dC e0)∧(e≠0→e0=i0):=⟨xv,λ he=>by
    rcases g3 with ⟨_,_,h3,_⟩|⟨_,h2,_⟩
    ·exact ⟨h3,h3⟩
    ·omega,λ he=>by
    rcases g3 with ⟨_,h2,_⟩|⟨_,_,_,h4,_⟩
    ·exact absurd h2 he
    ·exact h4⟩
   refine TL.nil (eY ?_);refine bD (e':=[(19,.int .i64 e),(18,.int .i64 xv),(17,.int .i64 e),(16,.int .i64 xv),(15,.int .i64 (i:Int)),(14,.int .i64 (dC i0)),(13,.int .i64 (dC i0)),(12,.pointer (some ⟨L.p,0,none⟩)),(10,.pointer (some ⟨R.p,0,none⟩)),(0,.slice a l.length c)]) ?_ ⟨rfl,rfl,rfl,rfl,rfl,rfl,rfl,rfl,rfl,rfl,trivial⟩;refine dT 2 (λ e w3=>v3=w3∧Sub [(15,.int .i64 (i:Int)),(14,.int .i64 (dC e0)),(13,.int .i64 (dC e0)),(12,.pointer (some ⟨L.p,0,none⟩)),(10,.pointer (some ⟨R.p,0,none⟩)),(0,.slice a l.length c)] e) ?_ ?_;rotate_left
   ·rcases g3 with ⟨_,rfl,rfl,_⟩|⟨_,rfl,rfl,rfl,_⟩
    ·repeat refine aF ?_
     exact ⟨rfl,rfl,rfl,rfl,rfl,rfl,rfl,trivial⟩
    ·repeat refine aF ?_
     exact ⟨rfl,rfl,rfl,rfl,rfl,rfl,rfl,trivial⟩
   rintro e4 v4 ⟨rfl,y1⟩;refine bD (e':=[(15,_),(14,_),(13,_),(12,_),(10,_),(0,_)]) ?_ y1;clear y1 j2 f2 p0;by_cases v5:cR g'<32
   ·repeat (first|(refine aB 21 ?_;refine aA rfl (sparet_c t3.pw.at_) rfl ?_;rintro _ _ ⟨rfl,r1⟩)|refine yC ?_)
    have n4:=j0.pages;have y4:=u2.trans r1;rename_i w4;have f5:=t3.grow r1;have z4:=r1.size;refine aB 35 ?_;refine aA rfl (rreach_c f5.rf j0 oM (by rw [k0];have:=putL_len (iD (l.take i)) x;omega)) rfl ?_;rintro _ w5 ⟨qa,qc,rfl,m5,c5⟩;have u1:=f5.grow c5;have s2:=y4.trans c5;have z5:=c5.size;have h6:(srtN l0.reverse).length=l0.length:=by rw [length_srtN,List.length_reverse]
    have j6:l0.length≤30:=by rw [k0] at n4;have:=putL_len (iD (l.take i)) x;omega
    have f3:∀ q∈srtN l0.reverse,bK g' q=true:=λ q hq=>j0.used q (by rw [srtN_mem,List.mem_reverse] at hq;exact hq);have m4:Sl (λ k=>k<w5.heap.size) w5 1 qa l0.length qc (bC (srtN l0.reverse)):=m5.go (Carry.mono λ k _ hk=>hk);repeat refine aF ?_
    refine aB 23 ?_;refine aA rfl (keep_c u1.pw.at_ m4 (λ k hk=>hk) f3 oM) rfl ?_;rintro _ w6 ⟨L',e1,e2,e3,e4,e5,⟨kk,rfl⟩,o4,m1⟩;have z6:=m1.size;have t6:∀ k,k=L.p→w.heap.size≤k:=λ k hk=>hp.lB k (by simp [hk]);have s6:∀ k,k=R.p→w.heap.size≤k:=λ k hk=>hp.rB k (by simp [hk]);have x4:Grow w w6:=fV s2 m1 t6;have l4:Sl (λ k=>w4.heap.size≤k) w6 1 qa l0.length qc (bC (srtN l0.reverse)):=m5.go (Carry.buts m1 λ k hk _ e=>by have:=f5.pw.at_.lts;omega);have k4:Sl (λ k=>k<w6.heap.size) w6 1 qa l0.length qc (bC (srtN l0.reverse)):=l4.go (Carry.mono λ k _ hk=>hk)
    have g4:RfAt (λ k=>¬ L'.S k∧¬ R.S k) w6 R g':=by
     have r7:=u1.pw.at_.lts;have b7:=u1.dj;refine (u1.rf.keep2 (K':=λ k=>¬ L'.S k∧¬ R.S k) ⟨m1.size,λ k hk hl=>⟨⟨λ e=>?_,hk.2⟩,m1.block k hl ?_⟩⟩ (λ k hk=>m1.block k (by have:=u1.rf.lts;omega) (λ e=>b7 k hk (by unfold PL.S;omega))) (λ k hk=>hk.2))
     ·have:=hk.1;unfold PL.S at e this;omega
     ·have:=hk.1;unfold PL.S at this;omega
    repeat refine aF ?_
    refine aB 36 ?_;refine aA rfl (rkeep_c g4 k4 (λ k hk=>hk) f3) rfl ?_;rintro _ w7 ⟨u,hu,rfl,f4,q5⟩;have h7:=u1.keeps (by have:=s2.size;omega) e1 e2 e3 e5 o4 m1 hu q5 f4;have u4:Grow w w7:=fV x4 q5 s6;have j3:=keep_spare x0 f3;rw [n0,h6] at j3;repeat refine aF ?_
    refine aE (i+1,e0,jL g' (srtN l0.reverse),L',⟨R.p,R.d,R.b,R.c,u⟩) ⟨rfl,rfl,rfl,by rw [← e1];rfl,rfl,rfl,trivial⟩ ⟨by simp only;omega,h7,n0,by simp only;omega,u4,u3,l0,j0.keep x0 f3 (λ p hp=>by rw [srtN_mem,List.mem_reverse];exact hp)⟩ (by simp only;omega)
   ·repeat (first|(refine aB 21 ?_;refine aA rfl (sparet_c t3.pw.at_) rfl ?_;rintro _ _ ⟨rfl,r1⟩)|refine yC ?_)
    refine aE (i+1,e0,g',L,R) ⟨rfl,rfl,rfl,rfl,rfl,rfl,trivial⟩ ⟨by simp only;omega,t3.grow r1,n0,by simp only;omega,u2.trans r1,u3,l0,j0⟩ (by simp only;omega)
theorem open_tree {g:Pg} (f0:PgOk g) {a0:Option Nat} {lv:Nat} {l:bQ} {ps:List Nat} (ht:TrAt g a0 lv l ps) (g0:lv≤15):∃ H top M',TreeOf g H top l ps (dC a0)∧treeP g a0 []=some (lv,M')∧∀ k∈ps,∃ t,fX M' k=some t∧cD g k=some t.node:=by
 obtain ⟨M',h1,h2,h3⟩:=tree_trM (s:=g) (M:=[]) (λ n t hn=>by cases hn) ht oM
 have hk:∀ k∈ps,∃ t,fX M' k=some t∧cD g k=some t.node:=λ k hk=>by
  obtain ⟨t,e⟩:=(h3 k).2 (.inr hk);obtain ⟨h,l',e0,kn⟩:=h2 k t e;exact ⟨t,e,kn.node⟩
 cases a0 with
 | none =>
  obtain ⟨rfl,rfl,rfl⟩:=ht;exact ⟨0,nd0,M',.inl ⟨rfl,rfl⟩,h1,hk⟩
 | some n =>
  obtain ⟨h,nd,e0,rfl,e2,e3,e4,rfl⟩:=ht;exact ⟨h,nd,M',.inr ⟨n,e0,rfl,rfl,⟨e3,f0,e2,e4,oM,by have:=f0.cnt;omega⟩⟩,h1,hk⟩
theorem copen_c {w:World} {L:PL} {g:Pg} (hp:PgW w L g) {a0:Option Nat} {lv:Nat} {l:bQ} {ps:List Nat} (ht:TrAt g a0 lv l ps) (h2:lv≤15) (hl:l.length≤1000) (s2:∀ x∈l,fL x.1∧fL x.2) (G:Nat→Prop) (fa ta:Option Addr) (fn fc tn tc:Nat) (fr to:Bs) (back:Bool) (e0:Int) (hf:Sl G w 1 fa fn fc (bB fr)) (m1:Sl G w 1 ta tn tc (bB to)) (x3:fr.length≤16) (o3:to.length≤16) (hm:0≤e0∧e0≤9223372036854775807) :
  Calls Tryz.prog 55 #[.pointer (some ⟨L.p,0,none⟩),.int .i64 (dC a0),.agg #[.slice fa fn fc,.slice ta tn tc,.bool back,.int .i64 e0]] w (Ret λ v w'=>∃ cb C E pv fs ix,v=.tuple #[.pointer (some ⟨cb,0,none⟩),.int .i64 0]∧w.heap.size≤cb∧Cu w' C cb 0 pv fs∧Ok w' C cb E∧AtE E fs ix∧(∀ j,ix=some j→j<E.al.length)∧iC E C.back ix=eC l fr to back∧E.al=l∧E.fr=fr∧E.to=to∧C.back=back∧C.most=e0∧C.lo=w.heap.size∧Grow w w'):=by
 obtain ⟨H,top,M',hT,hM,g2⟩:=open_tree hp.at_.ok ht h2;have w1:∀ n,a0=some n→n<4294967296:=λ n e=>by subst e;have:=ht.lt hp.at_.ok;omega
 have s1 : -1≤dC a0∧dC a0≤9223372036854775807:=by
  cases a0 with
  | none=>show (-1:Int)≤-1∧(-1:Int)≤_;omega
  | some n=>have:=w1 n rfl;show (-1:Int)≤(n:Int)∧(n:Int)≤_;omega
 have y3:fn=fr.length:=by have:=hf.len;rw [bB,List.length_map] at this;omega
 have m3:tn=to.length:=by have:=m1.len;rw [bB,List.length_map] at this;omega
 have j2:∀ x∈l,x.1.length≤16∧x.2.length≤32:=λ x hx=>⟨(eB (ht.items x hx).1).2,gW (ht.items x hx).2⟩
 refine V.calls (args:=[_,_,_]) Tryz.func55 rfl Tryz.ntmps55 rfl rfl ?_;repeat (first|refine aF ?_|refine yI λ bk w' hg n0 y0 p0=>?_)
 refine aB 87 ?_;refine aA rfl (walk_new L.p _) rfl ?_;rintro _ w2 ⟨wb,wm,rfl,k3,i3,i0,b1⟩;have l0:=hg.trans b1;have k5:Blk w2 bk 92 [.slice fa fn fc,.slice ta tn tc,.bool back,.int .i64 e0]:=n0.grow b1;have z1:=hg.size;have q5:w.heap.size≤bk∧bk<w2.heap.size∧bk<w'.heap.size:=by have:=k5.lt;have:=n0.lt;omega
 obtain ⟨b5,rfl⟩:=yE bk;clear n0 hg b1 y0 p0;repeat (first|(refine aB 93 ?_;refine aA rfl (ready_c (hp.at_.grow l0) _ s1.1 s1.2) rfl ?_;rintro _ _ ⟨rfl,rfl⟩)|refine yC ?_)
 refine aB 88 ?_;have u3:=hp.at_.lts;refine aA rfl (tree_c (G:=λ k=>w.heap.size≤k∧k≠wm∧k≠b5) (hp.at_.grow l0) i0.blk (mem_new (w':=w2) i0) ⟨i0.ne,oM,oM,oM,oM⟩ (λ k hk=>hk.2.1) (λ k hk=>by have:=i0.map.lt;omega) w1 hM) rfl ?_;rintro _ w3 ⟨rfl,k0,s0⟩;have j3:=i0.blk.lt;have f2:=i0.map.lt;have g0:Grow w w3:=grow_buts l0 s0 oM;have g3:=s0.size;have g1:=bO k5 s0 oM;have f0:=bO i0.blk s0 i0.ne;have x1:=hf.grow g0;have o1:=m1.grow g0;clear k5;repeat refine aF ?_
 refine bD (e':=[(8,.pointer (some ⟨wb,0,none⟩)),(5,.pointer (some ⟨b5,0,none⟩)),(1,.int .i64 (dC a0)),(0,.pointer (some ⟨L.p,0,none⟩))]) ?_ ⟨rfl,rfl,rfl,rfl,trivial⟩;apply T.any 7 [is (.pointer (some ⟨b5,0+0,none⟩)),is (.slice fa fn fc),bsF w3.heap.size fr,is (.pointer (some ⟨b5,0+1,none⟩)),is (.slice ta tn tc),bsF w3.heap.size to,is (.pointer (some ⟨b5,0+0,none⟩))]
 ·rfl
 ·repeat' (first|exact aM|refine aK ?_ ?_)
  iterate 2
   ·refine yQ λ wq _ _ m0=>?_;repeat refine aF ?_
    exact aD rfl yG rfl
  ·refine yQ λ wq _ _ m0=>?_;have zq:=m0.size;refine aB 95 ?_;refine aA rfl (kN _ _ fr _ (⟨_,_,_,rfl,x1.grow m0⟩:BsAt G _ _ fr) oM) rfl ?_;rintro u wr ⟨hu,o2⟩;repeat refine aF ?_
   exact aD rfl yG (hu.go (Carry.mono λ k hk _=>by omega))
  iterate 2
   ·refine yQ λ wq _ _ m0=>?_;repeat refine aF ?_
    exact aD rfl yG rfl
  ·(((refine bR rfl rfl rfl ?_);( intro wq _ _ m0;(repeat (refine aJ rfl rfl ?_;intro vq j0;try (obtain rfl:=j0)));(refine aY ?_))))
   have zq:=m0.size;refine aB 95 ?_;refine aA rfl (kN _ _ to _ (⟨_,_,_,rfl,o1.grow m0⟩:BsAt G _ _ to) oM) rfl ?_;rintro u wr ⟨hu,o2⟩;repeat refine aF ?_
   exact aD rfl yG (hu.go (Carry.mono λ k hk _=>by omega))
  ·(((refine bR rfl rfl rfl ?_);( intro wq _ _ m0;(repeat (refine aJ rfl rfl ?_;intro vq j0;try (obtain rfl:=j0)));(refine aY ?_))))
   repeat refine aF ?_
   exact aD rfl yG rfl
 rintro w4 _ _ q0 _ _;iterate 2 (refine aJ rfl rfl ?_;intro vq j0;try (obtain rfl:=j0))
 refine aJ rfl rfl ?_;intro u1 j1;iterate 2 (refine aJ rfl rfl ?_;intro vq j0;try (obtain rfl:=j0))
 refine aJ rfl rfl ?_;intro u2 h1;refine aJ rfl rfl ?_;intro vq j0;obtain rfl:=j0;refine aY ?_;obtain ⟨q1,q2,rfl,q3⟩:=BsAt.sl j1;obtain ⟨r1,r2,rfl,r3⟩:=BsAt.sl h1;have e2:=g1.grow q0;have f3:=q0.size;clear g1 j1 h1;repeat (first|refine aF ?_|refine yI λ bk w' hg n0 y0 p0=>?_|refine yJ λ w' hu n0 y0=>?_)
 rename_i wA x0 y2 t3 wB v0 y1 s3 wC x2 p3;have e1:Blk w' bk 206 [.pointer (some ⟨bk,0,none⟩),.pointer (some ⟨wb,0,none⟩),.int .i64 (dC a0),.slice q1 fr.length q2,.slice r1 to.length r2,.bool back,.int .i64 e0,.int .i64 0,.slice none 0 0]:=n0;have h3:Blk w' b5 92 [.slice q1 fr.length q2,.slice r1 to.length r2,.bool back,.int .i64 e0]:=Blk.upd hu oM (Blk.grow hg y1);have z0:Grow w w':=aI hu oM ((aI v0 oM (aI x0 oM (g0.trans q0))).trans hg);have cX:Carry (λ k=>w.heap.size≤k∧k≠b5) w4 (λ k=>w.heap.size≤k∧k<bk) w':=((Carry.upd x0 (λ k hk _=>hk.2)).trans (Carry.upd v0 (λ k hk _=>hk.2))).trans ((Carry.mono λ k hk hl=>by omega).trans ((Carry.grow hg).trans (Carry.upd hu (λ k hk _=>by omega))));have cY:Carry (λ k=>w.heap.size≤k∧k≠b5) w3 (λ k=>w.heap.size≤k∧k<bk) w':=(Carry.grow q0).trans cX;have zb:w3.heap.size≤bk:=by omega
 have d3:=g0.size
 have u0:Wlk w' bk ⟨wb,dC a0,q1,fr.length,q2,r1,to.length,r2,back,e0,w.heap.size⟩ g ps :=
  ⟨L.p,wm,M',dO f0 (cY.blk wb oM f0.lt).2,k0.go ((Carry.mono λ k hk _=>⟨hk.1,hk.2.2⟩).trans cY) (cY.blk wm oM k0.lt).2,by have:=f0.lt;show w.heap.size≤wb∧wb<bk;omega,by have:=k0.lt;show w.heap.size≤wm∧wm<bk;omega,g2⟩
 have o:Ok w' ⟨wb,dC a0,q1,fr.length,q2,r1,to.length,r2,back,e0,w.heap.size⟩ bk ⟨g,H,top,l,ps,fr,to⟩ :=
  ⟨hT,u0,q3.go ((Carry.mono λ k hk _=>by omega).trans cX),r3.go ((Carry.mono λ k hk _=>by omega).trans cX),ht.srt,hl,by show fr.length≤100;omega,by show to.length≤100;omega,s2,j2,hm⟩
 have h:Cu w' ⟨wb,dC a0,q1,fr.length,q2,r1,to.length,r2,back,e0,w.heap.size⟩ bk 0 (.slice none 0 0) []:=⟨e1,[],World.ownsRow_nil _ _ _ _,trivial⟩
 have qb:w.heap.size≤bk:=by have:=g0.size;omega
 clear n0 hu x2 hg x0 v0 y2 y1 cX cY q0 f0 k0 s0 i0 q3 r3 e2 x1 o1 g0 l0;obtain ⟨w5,rfl⟩:=yE w'
 have d2:∀ {w9:World} {pv9:Value},CuTo bk (.slice none 0 0) pv9 w5 w9→Grow w w9:=λ t=>fV z0 t.but (λ k hk=>by
  rcases hk with e|e
  ·omega
  ·cases e)
 cases back with
 | true =>
  repeat refine aF ?_
  refine aB 132 ?_;refine aA rfl (cbelow_c o h) rfl ?_;rintro _ w6 ⟨t0,f1,h6,h0,o0⟩;repeat refine aF ?_
  exact eZ rfl rfl ⟨_,rfl,bk,_,_,t0,f1,_,rfl,qb,h6,o.go (h.carry h0),o0,ixB_lt (tw_le _ _),range_B ht.srt fr to,rfl,rfl,rfl,rfl,rfl,rfl,d2 h0⟩
 | false =>
  have z2:∀ k,w.heap.size≤k∧k<bk→k≠bk∧(Value.slice none 0 0).ownBlock≠some k:=λ k hk=>⟨oM,λ e=>by cases e⟩
  repeat refine aF ?_
  refine aB 133 ?_;refine aA rfl (cfind_c o.tr h o.wlk _ z2 _ _ _ fr o.f) rfl ?_;rintro _ w6 ⟨t0,f1,h6,h0,o0⟩;repeat refine aF ?_
  exact eZ rfl rfl ⟨_,rfl,bk,_,_,t0,f1,_,rfl,qb,h6,o.go (h.carry h0),o0,toIx_bd,range_F ht.srt fr to,rfl,rfl,rfl,rfl,rfl,rfl,d2 h0⟩
end Go.Proofs.YtfpadnmdafiddaaGreatDoor
namespace Go.V
open Go Go.RowKit
def fnTyB (P:Program) (t:TypeId):Bool:=match P.underlying t with|some (.func ..)=>true|_=>false
class FnTy (P:Program) (t:TypeId):Prop where
 h:fnTyB P t=true
theorem FnTy.und {P:Program} {t:TypeId} (h:FnTy P t):∃ a b c,P.underlying t=some (.func a b c):=by
 have h:=h.h;unfold fnTyB at h;split at h
 ·exact ⟨_,_,_,by assumption⟩
 ·cases h
theorem run_equalIn_fn {P:Program} (dp:Nat) {t:TypeId} (h:FnTy P t) (f:Fn) (xs cs:Array Value) (w:World):(Op.equalIn (dp+1) t (.func f xs cs) .nilFunc).run P w=.ok false w:=by
 obtain ⟨a,b,c,hu⟩:=h.und;simp [Op.equalIn,underlying,hu]
theorem TL.eqFnNil [Rn] {P:Program} {n:Nat} {e:dJ} {w:World} {Q:dG} {ops:Array Oper} {rest:List Oper} {d:Nat} {ty:TypeId} {pos:String} {aft:Array Edge} {t t2:TypeId} {x y:Operand} {f:Fn} {xs cs:Array Value} [ht:FnTy P t] (hx:val e x=some (.func f xs cs)) (hy:val e y=some .nilFunc) (hd:Nat.blt d n=true)
  (k:TL P n ops rest ((d,.bool false)::e) w Q):TL P n ops (⟨some d,.binOp .eql t x y t2,ty,pos,aft,none⟩::rest) e w Q :=
 TL.run (λ r hr=>by
  have hg:eqGuard .eql t x y (.func f xs cs) .nilFunc=Pure.pure ():=rfl;simp only [execOp,hr.eval hx,hr.eval hy,hg];simp only [binOp]
  simp [Op.equal,Op.maxDepth,run_equalIn_fn 9999 ht]) hd k
end Go.V
namespace Go.Proofs.YtfpadnmdafiddaaGreatDoor
open Go Go.RowKit Go.V
instance fnYield:FnTy Tryz.prog 208:=⟨kR⟩
def remL (E:CE) (C:CC) (d:Int) (ix:Option Nat):bQ:=if 0<C.most then (iC E C.back ix).take (C.most-d).toNat else iC E C.back ix
structure Cz (w:World) (C:CC) (cb:Nat) (E:CE) (d:Int) (pv:Value) (fs:List (Nd×Int)) (ix:Option Nat) (rm:bQ):Prop where
 cu:Cu w C cb d pv fs
 ok:Ok w C cb E
 at_:AtE E fs ix
 bd:∀ j,ix=some j→j<E.al.length
 d0:0≤d
 d1:d+rm.length≤1000000
 rem:remL E C d ix=rm
theorem Cz.grow {w w':World} {C:CC} {cb:Nat} {E:CE} {d:Int} {pv:Value} {fs:List (Nd×Int)} {ix:Option Nat} {rm:bQ} (z:Cz w C cb E d pv fs ix rm) (g:Grow w w'):Cz w' C cb E d pv fs ix rm:=⟨z.cu.grow g,z.ok.grow g,z.at_,z.bd,z.d0,z.d1,z.rem⟩
theorem Cz.upd {w w':World} {C:CC} {cb b:Nat} {E:CE} {d:Int} {pv:Value} {fs:List (Nd×Int)} {ix:Option Nat} {rm:bQ} (z:Cz w C cb E d pv fs ix rm) (u:Upd b w w') (hb:cb<b) (hn:pv.ownBlock≠some b):Cz w' C cb E d pv fs ix rm:=⟨z.cu.upd u hb hn,z.ok.go (Carry.upd u (λ k hk _=>by omega)),z.at_,z.bd,z.d0,z.d1,z.rem⟩
theorem rem_cons {E:CE} {C:CC} {d:Int} {ix a0:Option Nat} {it:Bs×Bs} (hl:¬ lim C d) (h:iC E C.back ix=it::iC E C.back a0):remL E C d ix=it::remL E C (d+1) a0:=by
 unfold remL;split
 ·rename_i hm
  have hd:d<C.most:=by
   by_cases h2:C.most≤d
   ·exact absurd ⟨hm,h2⟩ hl
   ·omega
  obtain ⟨k,hk⟩:∃ k:Nat,(C.most-d).toNat=k+1:=⟨(C.most-d).toNat-1,oM⟩
  rw [hk,show (C.most-(d+1)).toNat=k by omega,h,List.take_succ_cons]
 ·exact h
theorem rem_nil {E:CE} {C:CC} {d:Int} {ix:Option Nat} (h:lim C d∨iC E C.back ix=[]):remL E C d ix=[]:=by
 unfold remL;rcases h with h|h
 ·rw [if_pos h.1,show (C.most-d).toNat=0 by have:=h.2;omega,List.take_zero]
 ·rw [h];split<;>simp
theorem citems_c (cb:Nat) (w:World) :
  Calls Tryz.prog 56 #[.pointer (some ⟨cb,0,none⟩)] w (Ret λ v w'=>∃ b1,v=.func (.func 134) #[] #[.pointer (some ⟨b1,0,none⟩)]∧w.heap.size≤b1∧Blk w' b1 97 [.pointer (some ⟨cb,0,none⟩)]∧Grow w w'):=by
 refine V.calls (args:=[_]) Tryz.func56 rfl Tryz.ntmps56 rfl rfl ?_;repeat (first|(refine nB ?_;refine TL.makeFunc (xs:=[]) (cs:=[_]) rfl rfl rfl ?_)|refine yA ?_|refine yI λ bk w' hg f0 e0 a0=>?_)
 exact bA rfl ⟨_,rfl,_,rfl,oM,yB,yG⟩
theorem cznext_c {w:World} {C:CC} {cb:Nat} {E:CE} {d:Int} {pv:Value} {fs:List (Nd×Int)} {ix:Option Nat} {rm:bQ} (z:Cz w C cb E d pv fs ix rm) :
  Calls Tryz.prog 57 #[.pointer (some ⟨cb,0,none⟩)] w (Ret λ v w'=>∃ a1 n1 c1 a2 n2 c2 e,v=.tuple #[.agg #[.slice a1 n1 c1,.slice a2 n2 c2],.int .i64 e] ∧
   ((e=0∧∃ it r a0 e0 g0,rm=it::r∧it∈E.al∧Cz w' C cb E (d+1) a0 e0 g0 r∧CuTo cb pv a0 w w'∧Sl (λ k=>w.heap.size≤k∧a0.ownBlock≠some k) w' 1 a1 n1 c1 (bB it.1)∧Sl (λ k=>w.heap.size≤k∧a0.ownBlock≠some k) w' 1 a2 n2 c2 (bB it.2)) ∨
    (e=6∧rm=[]∧∃ a0 e0,Cz w' C cb E d a0 e0 ix []∧CuTo cb pv a0 w w'))):=by
 refine Calls.mono (cnext_c z.ok z.cu z.at_ z.bd ⟨z.d0,by have:=z.d1;omega⟩) λ y w' hy=>hy.mono λ v w' ⟨a0,e0,g0,d',u1,u2,e,hv,j0,h0,l0,k0,m0⟩=>?_;rcases m0 with ⟨rfl,hl,it,hr,hm,rfl,⟨a1,n1,c1,rfl,h1⟩,⟨a2,n2,c2,rfl,h2⟩⟩|⟨rfl,i0,rfl,rfl,rfl,rfl⟩
 ·have f0:=rem_cons hl hr;refine ⟨a1,n1,c1,a2,n2,c2,0,hv,.inl ⟨rfl,it,remL E C (d+1) g0,a0,e0,g0,by rw [← z.rem,f0],hm,⟨j0,z.ok.go (z.cu.carry h0),l0,k0,by have:=z.d0;omega,?_,rfl⟩,h0,h1,h2⟩⟩;have:=z.d1;rw [← z.rem,f0,List.length_cons] at this;omega
 ·have f0:rm=[]:=by rw [← z.rem];exact rem_nil i0
  exact ⟨none,0,0,none,0,0,6,hv,.inr ⟨rfl,f0,a0,e0,⟨j0,z.ok.go (z.cu.carry h0),l0,k0,z.d0,by have:=z.d1;rw [f0] at this;exact this,rem_nil i0⟩,h0⟩⟩
theorem cyield_c (l b1 cb:Nat) (C:CC) (E:CE) (J:bQ→Value→World→Prop) (Fin:bQ→World→Prop)
  (j0:∀ rm pv w,J rm pv w→Blk w b1 97 [.pointer (some ⟨cb,0,none⟩)]∧∃ d fs ix,Cz w C cb E d pv fs ix rm)
  (e0:∀ it rm pv w,J (it::rm) pv w→∀ w' d' a0 g0 i0 a1 n1 c1 a2 n2 c2,it∈E.al→Cz w' C cb E d' a0 g0 i0 rm→CuTo cb pv a0 w w'→Sl (λ k=>w.heap.size≤k∧a0.ownBlock≠some k) w' 1 a1 n1 c1 (bB it.1)→Sl (λ k=>w.heap.size≤k∧a0.ownBlock≠some k) w' 1 a2 n2 c2 (bB it.2) →
   Yld Tryz.prog l [.agg #[.slice a1 n1 c1,.slice a2 n2 c2]] w' (λ v p0=>(v=.bool true∧J rm a0 p0)∨(v=.bool false∧Fin rm p0)))
  (n0:∀ pv w,J [] pv w→∀ w' d' a0 g0 i0,Cz w' C cb E d' a0 g0 i0 []→CuTo cb pv a0 w w'→Fin [] w')
  (rm:bQ) (pv:Value) (w:World) (h0:J rm pv w) :
  Calls Tryz.prog 134 #[.func (.yield l) #[] #[],.pointer (some ⟨b1,0,none⟩)] w (Ret λ _ w'=>∃ rm',Fin rm' w'):=by
 refine V.calls (args:=[_,_]) Tryz.func134 rfl Tryz.ntmps134 rfl rfl ?_;obtain ⟨q0,-⟩:=j0 rm pv w h0;repeat (first|(refine kX 208 ?_;refine TL.eqFnNil rfl rfl rfl ?_)|refine yC ?_)
 refine aX (S:=bQ×Value) (λ q=>[(1,.pointer (some ⟨b1,0,none⟩)),(0,.func (.yield l) #[] #[])]) (λ q w1=>J q.1 q.2 w1) (λ q=>q.1.length) (rm,pv) ⟨rfl,rfl,trivial⟩ h0 ?_;clear h0 q0;clear rm w pv;rintro ⟨rm,pv⟩ w hJ;simp only at hJ;obtain ⟨q0,d,fs,ix,z⟩:=j0 rm pv w hJ;repeat refine aF ?_
 refine aB 57 ?_;refine aA rfl (cznext_c z) rfl ?_;rintro _ w2 ⟨a1,n1,c1,a2,n2,c2,e,rfl,s0⟩;rcases s0 with ⟨rfl,it,r,a0,g0,i0,rfl,hm,z2,k0,h1,h2⟩|⟨rfl,rfl,a0,g0,z2,k0⟩
 ·repeat (first|refine aF ?_|refine yI λ bk w' hg o0 m0 l0=>?_|refine yJ λ w' hu o0 m0=>?_)
  have f0:Grow w2 w':=aI hu oM hg;have hy:=e0 it r pv w hJ w' _ a0 g0 i0 a1 n1 c1 a2 n2 c2 hm (z2.grow f0) (k0.trans (CuTo.grow f0)) (h1.grow f0) (h2.grow f0);refine TL.yield rfl rfl hy rfl ?_;rintro v w7 (⟨rfl,t0⟩|⟨rfl,u0⟩)
  ·repeat refine aF ?_
   exact aE (r,a0) ⟨rfl,rfl,trivial⟩ t0 sM
  ·repeat refine aF ?_
   exact eH (vs:=[]) rfl rfl ⟨_,rfl,r,u0⟩
 ·repeat (first|refine aF ?_|refine yI λ bk w' hg o0 m0 l0=>?_|refine yJ λ w' hu o0 m0=>?_)
  have f0:Grow w2 w':=aI hu oM hg;exact eH (vs:=[]) rfl rfl ⟨_,rfl,[],n0 pv w hJ w' _ a0 g0 ix (z2.grow f0) (k0.trans (CuTo.grow f0))⟩
def iM (l:bQ) (fr to:Bs) (back:Bool) (most:Int):bQ:=if 0<most then (eC l fr to back).take most.toNat else eC l fr to back
theorem ccount_c {w:World} {L:PL} {g:Pg} (hp:PgW w L g) {j0:Option Nat} {lv:Nat} {l:bQ} {ps:List Nat} (ht:TrAt g j0 lv l ps) (j2:lv≤15) (hl:l.length≤1000) (f3:∀ x∈l,fL x.1∧fL x.2) (G:Nat→Prop) (fa ta:Option Addr) (fn fc tn tc:Nat) (fr to:Bs) (back:Bool) (g0:Int) (hf:Sl G w 1 fa fn fc (bB fr)) (e0:Sl G w 1 ta tn tc (bB to)) (y2:fr.length≤16) (x1:to.length≤16) (hm:0≤g0∧g0≤9223372036854775807) :
  Calls Tryz.prog 58 #[.pointer (some ⟨L.p,0,none⟩),.int .i64 (dC j0),.agg #[.slice fa fn fc,.slice ta tn tc,.bool back,.int .i64 g0]] w (Ret λ v w'=>v=.tuple #[.int .i64 ((iM l fr to back g0).length:Int),.int .i64 0]∧Grow w w'):=by
 refine V.calls (args:=[_,_,_]) Tryz.func58 rfl Tryz.ntmps58 rfl rfl ?_;repeat (first|refine aF ?_|refine yI λ bk w' hg i0 q0 l0=>?_)
 have x2:=hg;refine aB 55 ?_;refine aA rfl (copen_c (hp.grow hg) ht j2 hl f3 G fa ta fn fc tn tc fr to back g0 (hf.grow hg) (e0.grow hg) y2 x1 hm) rfl ?_;rintro _ w2 ⟨cb,C,E,pv,fs,ix,rfl,y3,f1,e2,j3,g3,z1,rfl,rfl,rfl,rfl,rfl,_,r1⟩;have m0:=hg.trans r1;have d3:w.heap.size≤cb:=by have:=hg.size;omega
 have u3:(eC E.al E.fr E.to C.back).length≤E.al.length:=by
  unfold eC;refine Nat.le_trans (List.length_filter_le _ _) ?_;split<;>simp
 have u0:remL E C 0 ix=iM E.al E.fr E.to C.back C.most:=by
  unfold remL iM;rw [z1,Int.sub_zero]
 have t3:(iM E.al E.fr E.to C.back C.most).length≤1000:=by
  unfold iM;split
  ·rw [List.length_take];omega
  ·omega
 have z:Cz w2 C cb E 0 pv fs ix (iM E.al E.fr E.to C.back C.most):=⟨f1,e2,j3,g3,Int.le_refl _,oM,u0⟩
 have z2:=m0.size;clear i0 hg r1 q0 l0;repeat (first|refine T.seqR ?_|refine yC ?_|refine yI λ bk w' hg i0 q0 l0=>?_|refine yJ λ w' hu i0 q0=>?_)
 obtain ⟨f0,rfl⟩:=yE bk;have y0:Grow w2 w':=aI hu oM hg;have j1:Blk w' f0 3 [.int .i64 0]:=i0;have o3:w2.heap.size≤f0∧f0<w'.heap.size:=by have:=j1.lt;omega
 refine aB 56 ?_;refine aA rfl (citems_c cb _) rfl ?_;rintro _ w3 ⟨b1,rfl,h3,s1,e1⟩;have i3:=s1.lt;have z3:=e1.size;repeat refine aF ?_
 refine kL (T2.range (ps:=[23]) (lb:=[_]) rfl (Nat.zero_le _) rfl ?_);intro rc w4 o2 y1 z0 o1 u1;obtain ⟨D,hD⟩:∃ D,D=w3.heap.size:=⟨_,rfl⟩
 rw [← hD] at o1 u1 y1 ⊢;have n0:=y0.trans (e1.trans z0);have x0:=m0.trans n0;have s0:=(j1.grow e1).grow z0;have g1:=s1.grow z0;have z4:=z.grow n0;have d2:∀ k,pv.ownBlock=some k→k<f0:=λ k e=>by have:=(f1.own e).2;omega
 have x3:=f1.lt
 refine Calls.mono (cyield_c (D+1) b1 cb C E (λ rm pv w'=>Blk w' b1 97 [.pointer (some ⟨cb,0,none⟩)]∧(∃ d fs ix,Cz w' C cb E d pv fs ix rm)∧(∀ k,pv.ownBlock=some k→k<f0∨D+1<k)∧(∃ t:Nat,Blk w' f0 3 [.int .i64 (t:Int)]∧t+rm.length=(iM E.al E.fr E.to C.back C.most).length)∧w'.heap[D+1]? = some (.loop (rc .ready none))∧w'.heap[D]? = some (.deferred (some []))∧Grow w w')
  (λ rm w'=>Blk w' f0 3 [.int .i64 ((iM E.al E.fr E.to C.back C.most).length:Int)]∧w'.heap[D+1]? = some (.loop (rc .ready none))∧w'.heap[D]? = some (.deferred (some []))∧Grow w w') (λ rm pv w' h=>⟨h.1,h.2.1⟩) ?_ ?_ (iM E.al E.fr E.to C.back C.most) pv _ ?_) ?_
 ·rintro it rm pv w5 ⟨q1,q2,q3,⟨t,q4,o0⟩,q5,q6,q7⟩ w6 d' p0 k3 w1 a1 n1 c1 a2 n2 c2 f2 hz e0 h1 h2;have l1:=q1.lt;have l4:=q4.lt;have l5:=(Array.getElem?_eq_some_iff.1 q5).1;have l6:=(Array.getElem?_eq_some_iff.1 q6).1
  have a0:∀ k,f0≤k→k≤D+1→¬ (k=cb∨pv.ownBlock=some k):=λ k u2 s2 e=>by
   rcases e with e|e
   ·omega
   ·rcases q3 k e with e|e<;>omega
  have z6:=e0.but.size;have p1:=bO q1 e0.but (a0 b1 oM oM);have p4:=bO q4 e0.but (a0 f0 oM oM);have p5:w6.heap[D+1]? = some (.loop (rc .ready none)):=(e0.but.block _ l5 (a0 _ oM oM)).trans q5;have p6:w6.heap[D]? = some (.deferred (some [])):=(e0.but.block _ l6 (a0 _ oM oM)).trans q6
  have p3:∀ k,p0.ownBlock=some k→k<f0∨D+1<k:=λ k e=>by
   rcases e0.own k e with e|e
   ·exact q3 k e
   ·omega
  have p7:Grow w w6:=fV q7 e0.but (λ k hk=>by
   rcases hk with e|e
   ·omega
   ·obtain ⟨_,_,_,z5⟩:=q2
    have:=(z5.cu.own e).1;omega)
  have v0:p0.ownBlock≠some f0:=λ e=>by rcases p3 _ e with e|e<;>omega
  have m1:p0.ownBlock≠some (D+1):=λ e=>by rcases p3 _ e with e|e<;>omega
  simp only [List.length_cons] at o0;refine yld_of o2 p5 rfl rfl λ I=>?_;repeat refine aF ?_
  refine ⟨p5,λ w7 k0 r2=>?_⟩;have s3:=p4.upd k0 oM;repeat (first|refine aF ?_|refine yJ λ w' hu i0 q0=>?_)
  refine ⟨?_,λ wz h0 g2=>.inl ⟨rfl,?_,⟨_,_,_,((hz.upd k0 oM m1).upd hu oM v0).upd h0 oM m1⟩,p3,⟨t+1,i0.upd h0 oM,oM⟩,g2,?_,?_⟩⟩
  ·rw [hu.block _ oM];exact r2
  ·exact ((p1.upd k0 oM).upd hu oM).upd h0 oM
  ·rw [h0.block _ oM,hu.block _ oM,k0.block _ oM];exact p6
  ·exact aI h0 oM (aI hu oM (aI k0 oM p7))
 ·rintro pv w5 ⟨q1,q2,q3,⟨t,q4,o0⟩,q5,q6,q7⟩ w6 d' p0 k3 w1 hz e0;have l4:=q4.lt;have l5:=(Array.getElem?_eq_some_iff.1 q5).1;have l6:=(Array.getElem?_eq_some_iff.1 q6).1
  have a0:∀ k,f0≤k→k≤D+1→¬ (k=cb∨pv.ownBlock=some k):=λ k u2 s2 e=>by
   rcases e with e|e
   ·omega
   ·rcases q3 k e with e|e<;>omega
  have p4:=bO q4 e0.but (a0 f0 oM oM);simp only [List.length_nil,Nat.add_zero] at o0;rw [o0] at p4
  exact ⟨p4,(e0.but.block _ l5 (a0 _ oM oM)).trans q5,(e0.but.block _ l6 (a0 _ oM oM)).trans q6,fV q7 e0.but (λ k hk=>by
   rcases hk with e|e
   ·omega
   ·obtain ⟨_,_,_,z5⟩:=q2
    have:=(z5.cu.own e).1;omega)⟩
 ·exact ⟨g1,⟨_,_,_,z4⟩,λ k e=>.inl (d2 k e),⟨0,s0,oM⟩,o1,u1,x0⟩
 ·rintro _ w5 ⟨v,rfl,m3,q1,q5,q6,q7⟩;refine ⟨v,rfl,q6,.inl ⟨q5,λ I w6 t0=>?_⟩⟩;have r3:=q1.upd t0 oM;repeat refine aF ?_
  refine ⟨?_,λ wz h0=>?_⟩
  ·rw [t0.block _ oM];exact q6
  ·exact eZ rfl rfl ⟨_,rfl,rfl,aI h0 oM (aI t0 oM q7)⟩
end Go.Proofs.YtfpadnmdafiddaaGreatDoor
