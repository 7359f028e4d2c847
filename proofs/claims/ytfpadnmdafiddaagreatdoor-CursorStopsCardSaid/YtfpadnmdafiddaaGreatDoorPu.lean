import Derived.Test.YtfpadnmdafiddaaGreatDoorP0
import Derived.Test.YtfpadnmdafiddaaGreatDoorPt
import Derived.Test.YtfpadnmdafiddaaGreatDoorPo
import Derived.Test.YtfpadnmdafiddaaGreatDoorPl
import Derived.Test.YtfpadnmdafiddaaGreatDoorPk
import Derived.Test.YtfpadnmdafiddaaGreatDoorPf
import Derived.Test.YtfpadnmdafiddaaGreatDoorPd
set_option linter.all false
set_option maxHeartbeats 16000000
set_option maxRecDepth 100000
namespace Go.Proofs.YtfpadnmdafiddaaGreatDoor
open Go Go.RowKit Go.V
theorem writeAll_nok {s2:Pg}:∀ {l:List Nd} {s:Pg} {ks:List Nat},eY s l=some (ks,s2)→∀ x∈l,bF x=true
 | [],_,_,_,x,hx=>by cases hx
 | y::l,s,ks,h,x,hx=>by
  obtain ⟨p,s1,l1,h1,h2,rfl⟩:=kC h;rcases List.mem_cons.1 hx with rfl|hx
  ·exact (gJ h1).1
  ·exact writeAll_nok h2 x hx
theorem pathP_br {s:Pg} {key:Bs} {th:Bool}:∀ {f n:Nat} {fr:List (Nd×Nat)},jK s key f n=some (fr,th)→∀ i x,fr[i]? = some x→i+1<fr.length→bN x.1=false
 | f,n,fr,h,i,x,hi,hx=>by
  obtain ⟨f',nd,rfl,hn,hor⟩:=eV h;rcases hor with ⟨hl,rfl,rfl⟩|⟨hl,k,r,hk,hr,rfl⟩
  ·simp at hx
  ·cases i with
   | zero=>simp only [List.getElem?_cons_zero,Option.some.injEq] at hi;subst hi;exact hl
   | succ i=>exact pathP_br hr i x (by simpa using hi) (by simpa using hx)
theorem pathP_leaf {s:Pg} {key:Bs} {th:Bool}:∀ {f n:Nat} {fr:List (Nd×Nat)},jK s key f n=some (fr,th)→∀ i x,fr[i]? = some x→i+1=fr.length→bN x.1=true∧x.2=dP x.1.items key∧th=fP x.1.items key
 | f,n,fr,h,i,x,hi,hx=>by
  obtain ⟨f',nd,rfl,hn,hor⟩:=eV h;rcases hor with ⟨hl,rfl,rfl⟩|⟨hl,k,r,hk,hr,rfl⟩
  ·cases i with
   | zero=>simp only [List.getElem?_cons_zero,Option.some.injEq] at hi;subst hi;exact ⟨hl,rfl,rfl⟩
   | succ i=>simp at hx
  ·cases i with
   | zero =>
    have:r≠[]:=by
     obtain ⟨_,_,_,_,a0⟩:=eV hr;rcases a0 with ⟨_,rfl,_⟩|⟨_,_,_,_,_,rfl⟩<;>simp
    cases r with
    | nil=>exact absurd rfl this
    | cons a b=>simp at hx
   | succ i=>exact pathP_leaf hr i x (by simpa using hi) (by simpa using hx)
theorem pathP_ne {s:Pg} {key:Bs} {th:Bool} {f n:Nat} {fr:List (Nd×Nat)} (h:jK s key f n=some (fr,th)):1≤fr.length:=by
 obtain ⟨_,_,_,_,a0⟩:=eV h;rcases a0 with ⟨_,rfl,_⟩|⟨_,_,_,_,_,rfl⟩<;>simp
theorem insL_cutL {α : Type} {l x:List α} {i:Nat} (h:i≤l.length):hY (dT l i (i+1)) i x=l.take i++x++l.drop (i+1):=by
 simp only [hY,dT];rw [List.take_append_of_le_length (by rw [List.length_take];omega),List.take_take,Nat.min_self,List.drop_append_of_le_length (by rw [List.length_take];omega),List.drop_take_self,List.nil_append]
theorem putNode_br {n up:Nd} {i:Nat} {item:Bs×Bs} {th:Bool} (hl:bN n=false) (h:i≤n.kids.length):cP n i up item th=⟨n.items,n.kids.take i++up.kids++n.kids.drop (i+1),n.keys.take i++up.keys++n.keys.drop i⟩:=by
 unfold cP;rw [hl];simp only [Bool.false_eq_true,if_false];rw [insL_cutL h];rfl
theorem ritemsI_c {F:Nat→Prop} {w:World} (hF:∀ k,w.heap.size≤k→F k) (a b:Option Addr) (n c m d i k:Nat) (l xs:bT) (h:ItsAt F w a n c l) (hx:ItsAt F w b m d xs) (f0:i≤k) (hk:k≤n) (hn:n+m≤1000000) :
  Calls Tryz.prog 109 #[.slice a n c,.int .i64 (i:Int),.int .i64 (k:Int),.slice b m d] w (Ret λ v w'=>(∃ a' c',v=.slice a' (i+m+(n-k)) c'∧ItsAt F w' a' (i+m+(n-k)) c' (l.take i++xs++l.drop k))∧Grow w w'):=by
 obtain ⟨cs,hs,hc⟩:=h.ex;obtain ⟨ds,e0,hd⟩:=hx.ex;refine Calls.mono (ritems_t F F a b n c m d i k cs ds w hs e0 hc.one hd.one f0 hk hn) ?_;rintro _ w' ⟨v,rfl,a0,hg⟩;rw [Nat.mul_comm i,Nat.mul_comm k] at a0;exact ⟨v,rfl,its_of_own a0 hF (ItCells.go (Carry.grow hg) (((hc.take i).1.append hd).append (hc.take k).2)),hg⟩
theorem rkeysK_c {F:Nat→Prop} {w:World} (hF:∀ k,w.heap.size≤k→F k) (a b:Option Addr) (n c m d i k:Nat) (l xs:List Bs) (h:KysAt F w a n c l) (hx:KysAt F w b m d xs) (f0:i≤k) (hk:k≤n) (hn:n+m≤1000000) :
  Calls Tryz.prog 121 #[.slice a n c,.int .i64 (i:Int),.int .i64 (k:Int),.slice b m d] w (Ret λ v w'=>(∃ a' c',v=.slice a' (i+m+(n-k)) c'∧KysAt F w' a' (i+m+(n-k)) c' (l.take i++xs++l.drop k))∧Grow w w'):=by
 obtain ⟨cs,hs,hc⟩:=h.ex;obtain ⟨ds,e0,hd⟩:=hx.ex;refine Calls.mono (rkeys_t F F a b n c m d i k cs ds w hs e0 hc.one hd.one f0 hk hn) ?_;rintro _ w' ⟨v,rfl,a0,hg⟩;rw [Nat.mul_one,Nat.mul_one] at a0;exact ⟨v,rfl,kys_of_own a0 hF (KyCells.go (Carry.grow hg) (((hc.take i).1.append hd).append (hc.take k).2)),hg⟩
theorem rkidsN_c {F G:Nat→Prop} {w:World} (hF:∀ k,w.heap.size≤k→F k) (a b:Option Addr) (n c m d i k:Nat) (l xs:List Nat) (h:Sl F w 1 a n c (bC l)) (hx:Sl G w 1 b m d (bC xs)) (e0:i≤k) (hk:k≤n) (hn:n+m≤1000000) :
  Calls Tryz.prog 111 #[.slice a n c,.int .i64 (i:Int),.int .i64 (k:Int),.slice b m d] w (Ret λ v w'=>(∃ a' c',v=.slice a' (i+m+(n-k)) c'∧Sl F w' 1 a' (i+m+(n-k)) c' (bC (l.take i++xs++l.drop k)))∧Grow w w'):=by
 refine Calls.mono (rkids_t F G a b n c m d i k _ _ w h hx (gC l) (gC xs) e0 hk hn) ?_;rintro _ w' ⟨v,rfl,a0,hg⟩;rw [Nat.mul_one,Nat.mul_one] at a0;obtain ⟨a',c',rfl,hs⟩:=aM a0;refine ⟨_,rfl,⟨a',c',rfl,?_⟩,hg⟩;have:=hs.mono (F':=F) (λ k hk=>hF k hk.1);simpa [bC,List.map_take,List.map_drop] using this
theorem rput_c {K:Nat→Prop} {w:World} {R:RL} {g g':Pg} (h:RfAt K w R g) (hK:∀ k,w.heap.size≤k→K k) (u1:Option Nat) (G G':Nat→Prop) (a a':Option Addr) (m c m' c':Nat) (key v:Bs) (hk:Sl G w 1 a m c (bB key)) (hv:Sl G' w 1 a' m' c' (bB v)) (x8:dW key=true) (v7:eR v=true) (m7:fK key) (a7:fK v) (ak:32≤cC g) (n':Nat) (m3:putP g u1 key v=some (n',g')) :
  Calls Tryz.prog 37 #[.pointer (some ⟨R.p,0,none⟩),.int .i64 (dS u1),.slice a m c,.slice a' m' c'] w (Ret λ u w'=>u=.tuple #[.int .i64 (n':Int),.int .i64 0]∧RfAt K w' R g'∧ButS R.S w w'):=by
 have m6:∀ k,w.heap.size≤k→¬ R.S k:=λ k hk=>by have:=h.lts;unfold RL.S;omega
 have j9:∀ n,u1=some n→n<9223372036854775808:=λ n e=>by
  subst e;obtain ⟨fr,th,up,s1,hp,_⟩:=putP_some m3;obtain ⟨_,_,_,hn,_⟩:=eV hp;have:=dV (dL hn);have:=h.cnt;omega
 have hm:m=key.length:=by have:=hk.len;rw [bB,List.length_map] at this;omega
 have q9:m'=v.length:=by have:=hv.len;rw [bB,List.length_map] at this;omega
 have au:1≤key.length∧key.length≤16:=by simpa [dW] using x8
 have aj:v.length≤32:=by simpa [eR] using v7
 refine V.calls (args:=[_,_,_,_]) Tryz.func37 rfl Tryz.ntmps37 rfl rfl ?_;repeat (first|(refine aB 104 ?_;refine aA rfl (rbegin_c R.p u1 j9 _) rfl ?_;rintro _ _ ⟨rfl,rfl⟩)|(refine aB 105 ?_;refine aA rfl (rkey_c a _ c key true _ x8 hm) rfl ?_;rintro _ _ ⟨rfl,rfl⟩)|(refine aB 118 ?_;refine aA rfl (rvalue_c a' _ c' v true _ v7 q9) rfl ?_;rintro _ _ ⟨rfl,rfl⟩)|(refine aB 106 ?_;refine aA rfl (rspare_c h) rfl ?_;rintro _ _ ⟨rfl,n7⟩)|refine yC ?_|refine yI λ bk w' hg a0 m0 l0=>?_)
 obtain ⟨w2,rfl⟩:=yE w';have g3:=n7.trans hg;have z2:=g3.size;have z1:=n7.size;have p6:w2.ownsRow w.heap.size 5 1 (.slice (some ⟨bk,0,none⟩) 0 0) 0 []:=own_lit a0 oM rfl dM;refine TL.append rfl rfl p6 (hk.grow g3) (bO key) (by unfold maxLen;omega) oM oM rfl ?_;intro v1 w3 y4 y8 _;have f3:Grow w w3:=Grow.mk (aL y8 oM (λ k hk=>(aR p6 hk).1) g3.1);clear n7 hg a0 m0 l0 g3 p6 y8;have z3:=f3.size;repeat (first|refine aF ?_|refine yI λ bk w' hg a0 m0 l0=>?_)
 obtain ⟨w4,rfl⟩:=yE w';have z4:=hg.size;have x5:=f3.trans hg;have o6:w4.ownsRow w3.heap.size 5 1 (.slice (some ⟨bk,0,none⟩) 0 0) 0 []:=own_lit a0 oM rfl dM;refine TL.append rfl rfl o6 (hv.grow x5) (bO v) (by unfold maxLen;omega) oM oM rfl ?_;intro v5 w5 x4 j1 _;have h1:Grow w3 w5:=Grow.mk (aL j1 oM (λ k hk=>(aR o6 hk).1) hg.1);have t3:=f3.trans h1;have z5:=h1.size;have j3:=aO y4 h1;clear hg a0 m0 l0 x5 o6 y4 j1;obtain ⟨ka,kc,rfl,d4⟩:=aM j3;obtain ⟨va,vc,rfl,y3⟩:=aM x4;have d4:BsAt (λ k=>w.heap.size≤k) w5 (.slice ka (0+m) kc) key:=⟨_,_,_,rfl,d4.mono (λ k hk=>hk.1)⟩
 have y3:BsAt (λ k=>w.heap.size≤k) w5 (.slice va (0+m') vc) v:=⟨_,_,_,rfl,y3.mono (λ k hk=>Nat.le_trans z3 hk.1)⟩
 clear j3 x4 f3 h1
 cases u1 with
 | none =>
  obtain ⟨g1,d7⟩:=gJ (show gV g ⟨[(key,v)],[],[]⟩=some (n',g') from m3);repeat (first|refine aF ?_|refine yI λ bk w' hg a0 m0 l0=>?_|refine yJ λ w' hu a0 m0=>?_)
  refine TL.buildSlice rfl rfl rfl rfl rfl ?_;intro b' wa f0 q1 k6 j6 i6;have i0:Blk wa b' 58 [.slice ka (0+m) kc,.slice va (0+m') vc]:=q1;have g0:Grow w5 wa:=(aH hu oM hg).trans f0;have v0:Grow w wa:=t3.trans g0
  have b4:NdAt (λ k=>w.heap.size≤k) wa ⟨some ⟨b',0,none⟩,1,1,none,0,0,none,0,0⟩ ⟨[(key,v)],[],[]⟩ :=
   ⟨⟨_,(aU (sz:=2) (m:=1) i0 rfl dM).mono (λ k hk=>by subst hk;have:=hg.size;show w.heap.size≤_;omega),d4.go (Carry.grow g0),y3.go (Carry.grow g0),trivial⟩,iX,jG⟩
  clear a0 q1 i0 hu hg f0 g0 d4 y3 m0 l0;repeat refine aF ?_
  refine aB 110 ?_;refine aA rfl (rwrite_c (h.grow v0) (λ k hk=>hK k (by have:=v0.size;omega)) _ ⟨some ⟨b',0,none⟩,1,1,none,0,0,none,0,0⟩ _ b4 g1 (lO g1 ⟨by intro x hx;simp only [List.mem_singleton] at hx;subst hx;exact ⟨m7,a7⟩,sM⟩) n' d7) rfl ?_;rintro _ w7 ⟨rfl,k9,aa⟩;repeat refine aF ?_
  exact fJ rfl rfl ⟨_,rfl,rfl,k9,(ButS.grow v0).trans aa⟩
 | some n =>
  obtain ⟨fr,th,up,s1,hp,m8,o7⟩:=putP_some m3;have u3:=pathP_frames (λ n=>h.lt n) hp;repeat (first|refine aF ?_|refine yI λ bk w' hg a0 m0 l0=>?_|refine yJ λ w' hu a0 m0=>?_)
  have f1:Blk w' bk 58 [.slice ka (0+m) kc,.slice va (0+m') vc]:=a0;obtain ⟨f9,rfl⟩:=yE bk;obtain ⟨w6,rfl⟩:=yE w';have g0:Grow w5 w6:=aH hu oM hg;have v0:Grow w w6:=t3.trans g0;have m5:=d4.go (Carry.grow g0);have n4:=y3.go (Carry.grow g0);have zq:=g0.size;have z6:=f1.lt;have ai:w.heap.size≤f9:=by have:=hg.size;omega
  clear a0 hu hg g0 d4 y3 m0 l0 t3;refine aB 107 ?_;refine aA rfl (rdown_c (h.grow v0) _ a m c n key fr th (hk.grow v0) hp) rfl ?_;rintro _ w7 ⟨⟨b,d,cs,b2,d2,rfl,p8,f7,n5⟩,e4⟩;have z7:=e4.size;have u5:=v0.trans e4;replace f1:=f1.grow e4;have l5:=m5.go (Carry.grow e4);have m4:=n4.go (Carry.grow e4);clear v0 e4 m5 n4;have aq:=pathP_ne hp;have s9:=pathP_len hp;obtain ⟨f,hf⟩:∃ f,fr[fr.length-1]? = some f:=⟨_,List.getElem?_eq_getElem oM⟩
  obtain ⟨c4,a9,h8⟩:=pathP_leaf hp _ f hf oM;have fo:=u3 f (List.mem_of_getElem? hf);obtain ⟨x,y6,hx⟩:=f7.at' (l:=fr.map (·.1)) (i:=fr.length-1) (nd:=f.1) (by rw [List.getElem?_map,hf];rfl);repeat (first|refine aF ?_|refine yI λ bk w' hg a0 m0 l0=>?_|refine yJ λ w' hu a0 m0=>?_)
  have x3:Blk w' bk 177 [.slice b fr.length d,.slice b2 (fr.length-1) d2]:=a0;obtain ⟨h4,rfl⟩:=yE bk;obtain ⟨w8,rfl⟩:=yE w';have g0:Grow w7 w8:=aH hu oM hg;have ad:=g0.size;have z8:=x3.lt;have ah:f9<h4:=by omega
  have t5:=u5.trans g0;replace f1:=f1.grow g0;have k5:=l5.go (Carry.grow g0);have l4:=m4.go (Carry.grow g0);have d3:=p8.go (Carry.grow g0);have f5:=f7.go (Carry.grow g0);have p5:=n5.go (Carry.grow g0);have s7:=hx.go (Carry.grow g0);clear a0 hu hg g0 l5 m4 m0 l0 u5 p8 f7 n5 hx;repeat (first|(refine aI ?_;refine aC (j:=fr.length-1) rfl rfl oM oM rfl ⟨_,_,d3⟩ rfl ?_)|(refine aQ ?_;refine dJ rfl d3 (three_at y6) rfl rfl ?_)|refine yC ?_|refine yI λ bk w' hg a0 m0 l0=>?_|refine yJ λ w' hu a0 m0=>?_)
  have x0:Blk w' bk 79 x.cs:=a0;obtain ⟨m1,rfl⟩:=yE bk;obtain ⟨w9,rfl⟩:=yE w';have g0:Grow w8 w9:=aH hu oM hg;have ac:=g0.size;have z9:=x0.lt;have ag:h4<m1:=by omega
  obtain ⟨F,hF⟩:∃ F:Nat→Prop,∀ k,F k↔w.heap.size≤k∧k≠m1:=⟨_,λ _=>Iff.rfl⟩
  have cF:∀ F0:Nat→Prop,(∀ k,F0 k→w.heap.size≤k)→Carry F0 w8 F w9:=λ F0 h0=>(Carry.mono λ k hk hl=>(hF k).2 ⟨h0 k hk,oM⟩).trans (Carry.grow g0);have s3:=t5.trans g0;have s2:=f1.grow g0;have y0:=x3.grow g0;have j5:=k5.go (cF _ λ k hk=>hk);have k4:=l4.go (cF _ λ k hk=>hk);have c5:=d3.go (cF _ λ k hk=>by omega);have d5:=f5.go (cF _ λ k hk=>by omega);have o5:=p5.go (cF _ λ k hk=>by omega);have v6:=s7.go (cF _ λ k hk=>by omega);clear a0 hu hg g0 k5 l4 m0 l0 t5 d3 f5 p5 s7 f1 x3 cF;refine aB 108 ?_;refine aA rfl (rfind_c _ _ x f.1 a m c key _ v6 (hk.grow s3) fo.ok c4) rfl ?_;rintro _ i4 ⟨rfl,k0⟩;rw [← a9,← h8];have g9:=k0.size;have q2:=s3.trans k0;replace s2:=s2.grow k0;replace y0:=y0.grow k0;replace x0:=x0.grow k0;have u0:=j5.go (Carry.grow k0);have t0:=k4.go (Carry.grow k0);have e2:=c5.go (Carry.grow k0);have j2:=d5.go (Carry.grow k0);have o2:=o5.go (Carry.grow k0);have s0:=v6.go (Carry.grow k0);clear k0 s3 j5 k4 c5 d5 o5 v6;obtain ⟨y9,y5⟩:=fo.leaf c4;have p9:=s0.its.len;have u2:∀ wq:World,i4.heap.size≤wq.heap.size→∀ k,wq.heap.size≤k→F k:=λ wq hq k hk=>(hF k).2 ⟨oM,oM⟩
  have s5:f.1.items.length≤8:=by
   have g1:=fo.ok;unfold bF at g1;rw [if_pos c4] at g1;exact (dG g1).2.1
  repeat (first|(refine TL.isMove ?_;refine TL.pure rfl rfl ?_)|(refine TL.isAsg ?_;refine TL.pure rfl rfl ?_)|refine TL.pure rfl rfl ?_)
  refine TL.nil ?_;refine eP ?_;refine dU 3 (λ e w3=>∃ (y:NV),Sub [(13,.pointer (some ⟨m1,0,none⟩)),(12,.pointer (some ⟨h4,0,none⟩)),(0,.pointer (some ⟨R.p,0,none⟩))] e∧Blk w3 m1 79 y.cs∧NdAt F w3 y (cP f.1 f.2 nd0 (key,v) th)∧Blk w3 h4 177 [.slice b fr.length d,.slice b2 (fr.length-1) d2]∧Sl F w3 3 b fr.length d cs∧NdCells F w3 cs (fr.map (·.1))∧Sl F w3 1 b2 (fr.length-1) d2 (bC (fr.dropLast.map (·.2)))∧Grow w w3∧m1<w3.heap.size) ?_ ?_;rotate_left
  ·cases th with
   | true =>
    have b9:=y5 rfl;repeat refine aF ?_
    refine TL.buildSlice rfl rfl rfl rfl rfl ?_;intro b' wa f0 q1 k6 j6 i6;have i0:Blk wa b' 58 [.slice ka (0+m) kc,.slice va (0+m') vc]:=q1;have za:=f0.size;have r5:ItsAt F wa (some ⟨b',0,none⟩) 1 1 [(key,v)]:=⟨_,(aU (sz:=2) (m:=1) i0 rfl dM).mono (λ k hk=>by subst hk;exact u2 i4 (Nat.le_refl _) _ oM),u0.go (Carry.grow f0),t0.go (Carry.grow f0),trivial⟩
    have u6:=s0.go (Carry.grow f0);repeat refine aF ?_
    refine aB 109 ?_;refine aA rfl (ritemsI_c (F:=F) (u2 _ za) x.a1 (some ⟨b',0,none⟩) x.n1 x.c1 1 1 f.2 (f.2+1) f.1.items [(key,v)] u6.its r5 oM oM oM) rfl ?_;rintro _ wb ⟨⟨a8,c8,rfl,s5⟩,r1⟩;have zb:=r1.size;have e0:=f0.trans r1;have t6:=x0.grow e0;have r3:=q2.trans e0;clear q1 i0 r5 f0 x0 u0 t0 r1;repeat (first|refine aF ?_|refine yJ λ w' hu a0 m0=>?_)
    have cU:Carry F wb F w':=Carry.upd hu (λ k hk _=>((hF k).1 hk).2);have cW:Carry F i4 F w':=(Carry.grow e0).trans cU;have q3:Grow w w':=aH hu oM r3
    have a4:cP f.1 f.2 nd0 (key,v) true=⟨f.1.items.take f.2++[(key,v)]++f.1.items.drop (f.2+1),f.1.kids,f.1.keys⟩:=by
     simp only [cP,c4];simp only [if_true,hY,dT];rw [List.take_append_of_le_length (by rw [List.length_take];omega),List.take_take,Nat.min_self,List.drop_append_of_le_length (by rw [List.length_take];omega),List.drop_take_self,List.nil_append]
    refine ⟨⟨a8,f.2+1+(x.n1-(f.2+1)),c8,x.a2,x.n2,x.c2,x.a3,x.n3,x.c3⟩,⟨rfl,rfl,rfl,trivial⟩,a0,?_,(y0.grow e0).upd hu oM,e2.go cW,j2.go cW,o2.go cW,q3,oM⟩;rw [a4];exact ⟨s5.go cU,s0.kids.go cW,s0.kys.go cW⟩
   | false =>
    repeat refine aF ?_
    refine TL.buildSlice rfl rfl rfl rfl rfl ?_;intro b' wa f0 q1 k6 j6 i6;have i0:Blk wa b' 58 [.slice ka (0+m) kc,.slice va (0+m') vc]:=q1;have za:=f0.size;have r5:ItsAt F wa (some ⟨b',0,none⟩) 1 1 [(key,v)]:=⟨_,(aU (sz:=2) (m:=1) i0 rfl dM).mono (λ k hk=>by subst hk;exact u2 i4 (Nat.le_refl _) _ oM),u0.go (Carry.grow f0),t0.go (Carry.grow f0),trivial⟩
    have u6:=s0.go (Carry.grow f0);repeat refine aF ?_
    refine aB 109 ?_;refine aA rfl (ritemsI_c (F:=F) (u2 _ za) x.a1 (some ⟨b',0,none⟩) x.n1 x.c1 1 1 f.2 f.2 f.1.items [(key,v)] u6.its r5 oM oM oM) rfl ?_;rintro _ wb ⟨⟨a8,c8,rfl,s5⟩,r1⟩;have zb:=r1.size;have e0:=f0.trans r1;have t6:=x0.grow e0;have r3:=q2.trans e0;clear q1 i0 r5 f0 x0 u0 t0 r1;repeat (first|refine aF ?_|refine yJ λ w' hu a0 m0=>?_)
    have cU:Carry F wb F w':=Carry.upd hu (λ k hk _=>((hF k).1 hk).2);have cW:Carry F i4 F w':=(Carry.grow e0).trans cU;have q3:Grow w w':=aH hu oM r3
    have a4:cP f.1 f.2 nd0 (key,v) false=⟨f.1.items.take f.2++[(key,v)]++f.1.items.drop f.2,f.1.kids,f.1.keys⟩:=by
     simp only [cP,c4];simp only [if_true,if_false,Bool.false_eq_true,hY]
    refine ⟨⟨a8,f.2+1+(x.n1-f.2),c8,x.a2,x.n2,x.c2,x.a3,x.n3,x.c3⟩,⟨rfl,rfl,rfl,trivial⟩,a0,?_,(y0.grow e0).upd hu oM,e2.go cW,j2.go cW,o2.go cW,q3,oM⟩;rw [a4];exact ⟨s5.go cU,s0.kids.go cW,s0.kys.go cW⟩
  rintro e w0 ⟨y,o4,e1,iy,i12,p0,z0,q0,ig,g6⟩;refine bD (e':=[(13,_),(12,_),(0,_)]) ?_ o4;have r9:=h.lts;have s4:RfAt (λ k=>K k∧k≠m1) w0 R g:=(h.tight.grow ig).keep2 (Carry.mono λ k hk _=>⟨hk.1,oM⟩) (λ _ _=>rfl) (λ k hk=>h.kne k hk.1);have zg:=ig.size;have n6:w.heap.size≤m1:=by omega
  have p7:NdB (cP f.1 f.2 nd0 (key,v) th):=putNode_by (i:=f.2) (item:=(key,v)) (th:=th) fo.by' ⟨by simp [nd0],by simp [nd0]⟩ m7 a7;clear u0 t0 e2 j2 o2 s0 s2 y0 x0 q2 p9 u2;repeat refine aF ?_
  refine aX (S:=Nat×NV×Nd×Pg) (λ s=>[(17,.int .i64 (s.1:Int)),(13,.pointer (some ⟨m1,0,none⟩)),(12,.pointer (some ⟨h4,0,none⟩)),(0,.pointer (some ⟨R.p,0,none⟩))])
   (λ s w1=>s.1<fr.length∧(∃ f up,fr[s.1]? = some f∧mI (key,v) th (fr.drop (s.1+1)) g=some (up,s.2.2.2)∧UpOk up∧(s.1+1<fr.length→up.kids.length=up.keys.length+1)∧s.2.2.1=cP f.1 f.2 up (key,v) th)∧Blk w1 m1 79 s.2.1.cs∧NdAt F w1 s.2.1 s.2.2.1∧Blk w1 h4 177 [.slice b fr.length d,.slice b2 (fr.length-1) d2]∧Sl F w1 3 b fr.length d cs∧NdCells F w1 cs (fr.map (·.1))∧Sl F w1 1 b2 (fr.length-1) d2 (bC (fr.dropLast.map (·.2)))∧RfAt (λ k=>K k∧k≠m1) w1 R s.2.2.2∧ButS R.S w w1∧m1<w1.heap.size)
   (λ s=>s.1) (fr.length-1,y,cP f.1 f.2 nd0 (key,v) th,g) ⟨rfl,rfl,rfl,rfl,trivial⟩
   ⟨by simp only;omega,⟨f,nd0,hf,by rw [List.drop_of_length_le (by simp only;omega)];rfl,⟨rfl,.inl rfl,dM,dM,⟨by simp [nd0],by simp [nd0]⟩⟩,λ hh=>by simp only at hh;omega,rfl⟩,e1,iy,i12,p0,z0,q0,s4,ButS.grow ig,g6⟩ ?_
  clear e1 iy i12 p0 z0 q0 s4 ig g6 zg p7 o4 fo hf a9 h8 c4 y9 y5 s5;rintro ⟨i,y,nd,gi⟩ w1 ⟨hi,⟨f,ae,hf,o8,g8,d8,b4⟩,e1,iy,i12,p0,z0,q0,t4,f6,g6⟩;simp only at hi hf o8 d8 b4 e1 iy t4;have z1:=f6.size;have fo:=u3 f (List.mem_of_getElem? hf);obtain ⟨o0,g2,c7⟩:=putUp_suffix m8 i;have l6:=c7;rw [List.drop_eq_getElem_cons hi,show fr[i]'hi=f from (List.getElem?_eq_some_iff.1 hf).2] at c7;obtain ⟨af,av,q7,b7⟩:=putUp_cons c7;rw [o8] at q7;simp only [Option.some.injEq,Prod.mk.injEq] at q7;obtain ⟨rfl,rfl⟩:=q7;rw [← b4] at b7;obtain ⟨k8,j8⟩:=putNode_shape (item:=(key,v)) fo g8 (λ hl=>d8 (pathP_last hp i f hf hl));rw [← b4] at k8 j8;have h7:NdB nd:=by rw [b4];exact putNode_by (i:=f.2) (item:=(key,v)) (th:=th) fo.by' g8.by' m7 a7
  obtain ⟨x1,j0⟩:=storeP_up b7 h7;obtain ⟨j4,ks,u7,x2,a5⟩:=storeP_parts b7;have g4:∀ wq:World,m1<wq.heap.size→∀ k,wq.heap.size≤k→F k:=λ wq hq k hk=>(hF k).2 ⟨oM,oM⟩;have m9:j4.length≤2:=by rcases a5 with ⟨_,rfl,_⟩|⟨_,rfl,_⟩<;>simp
  have g7:∀ x∈j4,fK (dC x):=by
   have g1:=writeAll_nok u7;obtain ⟨c1,c2,_⟩:=splitN_by h7;intro x hx;refine lO (g1 x hx) ?_;rcases a5 with ⟨_,rfl,_⟩|⟨_,rfl,_⟩
   ·simp only [List.mem_singleton] at hx;subst hx;exact h7
   ·simp only [List.mem_cons,List.not_mem_nil,or_false] at hx;rcases hx with rfl|rfl
    ·exact c1
    ·exact c2
  repeat refine aF ?_
  refine aB 119 ?_;refine aA rfl (rsplit_c F _ (g4 _ g6) y nd iy k8 j8 j4 ks a5) rfl ?_;rintro _ w2 ⟨⟨la,lc,kv,h9,rfl,q8,r8,v8⟩,h3⟩;have z2:=h3.size;replace e1:=e1.grow h3;replace i12:=i12.grow h3;replace p0:=p0.go (Carry.grow h3);replace z0:=z0.go (Carry.grow h3);replace q0:=q0.go (Carry.grow h3);replace t4:=t4.grow h3;replace f6:=f6.trans (ButS.grow h3);clear iy h3;repeat refine aF ?_
  refine aB 120 ?_;refine aA rfl (rpages_c t4 (λ k hk=>⟨hK k oM,oM⟩) (λ k hk _=>m6 k ((hF k).1 hk).1) la j4.length lc h9 j4 q8 r8 g7 oM o0.kids u7) rfl ?_;rintro _ w3 ⟨pa,pc,rfl,n8,y2,o1⟩;have z3:=o1.size;have cS:Carry F w2 F w3:=Carry.buts o1 (λ k hk _=>m6 k ((hF k).1 hk).1);replace e1:=bX e1 o1 (m6 _ n6);replace i12:=bX i12 o1 (m6 _ oM);replace p0:=p0.go cS;replace z0:=z0.go cS;replace q0:=q0.go cS;have p3:∀ key,ks=[key]→BsAt F w3 kv key:=λ k hk=>(v8 k hk).go cS;have y1:Sl F w3 1 pa o0.kids.length pc (bC o0.kids):=n8.mono (λ k hk=>g4 w2 oM k hk);have i3:=f6.trans o1;clear o1 f6 cS v8 n8 t4 q8 r8;by_cases x9:i=0
  ·subst x9;rw [List.drop_zero,m8] at l6;simp only [Option.some.injEq,Prod.mk.injEq] at l6;obtain ⟨rfl,rfl⟩:=l6;rcases o7 with ⟨q5,rfl⟩|⟨q5,i9⟩
   ·have ar:up.kids.length=1:=by rw [q5];rfl
    have c9:w3.cell? (at' pa 0)=some (.int .i64 (n':Int)):=y1.row.cell (by rw [q5];rfl);repeat (first|(refine aI ?_;refine aC (j:=0) rfl rfl rfl oM rfl ⟨_,_,y1⟩ rfl ?_)|refine yC ?_)
    exact fJ rfl rfl ⟨_,rfl,rfl,y2.keep2 (Carry.mono λ k hk _=>hk.1) (λ _ _=>rfl) h.kne,i3⟩
   ·obtain ⟨g1,d7⟩:=gJ i9
    obtain ⟨r7,r2⟩:∃ k,ks=[k]:=by
     rcases a5 with ⟨_,rfl,rfl⟩|⟨_,rfl,rfl⟩
     ·rw [x2] at j0;exact absurd j0 (by rw [x2] at q5;simpa using q5)
     ·exact ⟨_,rfl⟩
    obtain ⟨s6,q6,r6,rfl,o3⟩:=p3 _ r2;repeat refine aF ?_
    refine TL.buildSlice rfl rfl rfl rfl rfl ?_;intro b' wa f0 q1 k6 j6 i6;have i0:Blk wa b' 30 [.slice s6 q6 r6]:=q1;have za:=f0.size
    have e7:NdAt F wa ⟨none,0,0,pa,up.kids.length,pc,some ⟨b',0,none⟩,1,1⟩ up:=by
     rw [x2,r2];refine ⟨jZ,y1.grow f0,⟨_,(aU (sz:=1) (m:=1) i0 rfl dM).mono (λ k hk=>by subst hk;exact g4 w2 oM _ oM),⟨_,_,_,rfl,o3.grow f0⟩,trivial⟩⟩
    have l7:fK (dC up):=lO g1 x1.by';repeat refine aF ?_
    refine aB 110 ?_;refine aA rfl (rwrite_c (y2.grow f0) (λ k hk=>⟨hK k oM,oM⟩) F ⟨none,0,0,pa,up.kids.length,pc,some ⟨b',0,none⟩,1,1⟩ up e7 g1 l7 n' d7) rfl ?_;rintro _ w6 ⟨rfl,l9,ab⟩;repeat refine aF ?_
    exact fJ rfl rfl ⟨_,rfl,rfl,l9.keep2 (Carry.mono λ k hk _=>hk.1) (λ _ _=>rfl) h.kne,(i3.trans (ButS.grow f0)).trans ab⟩
  ·obtain ⟨f2,f4⟩:∃ f2,fr[i-1]? = some f2:=⟨_,List.getElem?_eq_getElem oM⟩
   have e9:=u3 f2 (List.mem_of_getElem? f4);have j7:=pathP_br hp (i-1) f2 f4 oM;have t9:=e9.kid j7
   obtain ⟨ap,ao,am,an,_,_⟩:=cO (n:=f2.1) (by
    have g1:=e9.ok;unfold bF at g1
    rwa [j7] at g1)
   obtain ⟨x,y6,hx⟩:=z0.at' (l:=fr.map (·.1)) (i:=i-1) (nd:=f2.1) (by rw [List.getElem?_map,f4];rfl)
   have u9:(bC (fr.dropLast.map (·.2)))[i-1]? = some (.int .i64 (f2.2:Int)):=by
    rw [show bC (fr.dropLast.map (·.2))=(fr.dropLast.map (·.2)).map λ (k:Nat)=>(.int .i64 (k:Int):Value) from rfl,List.getElem?_map,List.getElem?_map,List.getElem?_dropLast,if_pos oM,f4];rfl
   have o9:=bR hx.kids;have n9:=hx.kys.len;have a4:=putNode_br (up:=o0) (item:=(key,v)) (th:=th) j7 (i:=f2.2) oM;repeat (first|(refine aI ?_;refine aC (j:=i-1) rfl rfl rfl oM rfl ⟨_,_,p0⟩ rfl ?_)|(refine aQ ?_;refine dJ rfl p0 (three_at y6) rfl rfl ?_)|refine yC ?_|refine yJ λ w' hu a0 m0=>?_)
   obtain ⟨w4,rfl⟩:=yE w';have cU:Carry F w3 F w4:=Carry.upd hu (λ k hk _=>((hF k).1 hk).2);have k3:Blk w4 m1 79 x.cs:=a0;replace i12:=i12.upd hu oM;replace p0:=p0.go cU;replace z0:=z0.go cU;replace q0:=q0.go cU;have x6:=hx.go cU;have u4:=y1.go cU;have h5:∀ key,ks=[key]→BsAt F w4 kv key:=λ k hk=>(p3 k hk).go cU;have r4:=y2.upd hu (.inl (λ hh=>hh.2 rfl)) oM;have d6:=i3.upd hu oM;have z4:=hu.size;clear a0 hu hx y1 p3 y2 i3 cU e1 m0;have y7:=x1.two;have x7:=x1.ks;have c9:w4.cell? (at' b2 (i-1))=some (.int .i64 (f2.2:Int)):=q0.row.cell u9;repeat (first|(refine aI ?_;refine aC (j:=i-1) rfl rfl rfl oM (Nat.mul_one _) ⟨_,_,q0⟩ rfl ?_)|refine yC ?_)
   refine aB 111 ?_;refine aA rfl (rkidsN_c (F:=F) (G:=F) (g4 _ oM) x.a2 pa x.n2 x.c2 o0.kids.length pc f2.2 (f2.2+1) f2.1.kids o0.kids x6.kids u4 oM oM oM) rfl ?_;rintro _ w5 ⟨⟨qa,qc,rfl,hq⟩,j1⟩;have z5:=j1.size;replace k3:=k3.grow j1;replace i12:=i12.grow j1;replace p0:=p0.go (Carry.grow j1);replace z0:=z0.go (Carry.grow j1);replace q0:=q0.go (Carry.grow j1);have t7:=x6.go (Carry.grow j1);have g5:∀ key,ks=[key]→BsAt F w5 kv key:=λ k hk=>(h5 k hk).go (Carry.grow j1);have q4:=r4.grow j1;have c6:=d6.trans (ButS.grow j1);clear x6 u4 h5 r4 d6 j1 c9;repeat (first|refine aF ?_|refine yJ λ w' hu a0 m0=>?_)
   have e1:Blk w' m1 79 [x.v1,.slice qa (f2.2+o0.kids.length+(x.n2-(f2.2+1))) qc,x.v3]:=a0;obtain ⟨w6,rfl⟩:=yE w';have cU:Carry F w5 F w6:=Carry.upd hu (λ k hk _=>((hF k).1 hk).2);replace i12:=i12.upd hu oM;replace p0:=p0.go cU;replace z0:=z0.go cU;replace q0:=q0.go cU;have h6:=t7.go cU;have l8:=hq.go cU;have k7:∀ key,ks=[key]→BsAt F w6 kv key:=λ k hk=>(g5 k hk).go cU;have p4:=q4.upd hu (.inl (λ hh=>hh.2 rfl)) oM;have a6:=c6.upd hu oM;have z6:=hu.size;clear a0 hu t7 hq g5 q4 c6 cU k3 m0;have n0:o0.keys=ks:=by rw [x2]
   have v4:mI (key,v) th (fr.drop (i-1+1)) g=some (o0,g2):=by rw [show i-1+1=i by omega];exact l6
   by_cases h2:o0.kids.length=2
   ·obtain ⟨r7,r2⟩:∃ k,ks=[k]:=by
     rw [h2,n0] at j0
     match ks,j0 with
     | [k],_=>exact ⟨k,rfl⟩
    obtain ⟨s6,q6,r6,rfl,o3⟩:=k7 _ r2;repeat refine aF ?_
    refine TL.buildSlice rfl rfl rfl rfl rfl ?_;intro b' wa f0 q1 k6 j6 i6;have i0:Blk wa b' 30 [.slice s6 q6 r6]:=q1;have za:=f0.size;have s8:KysAt F wa (some ⟨b',0,none⟩) 1 1 [r7]:=⟨_,(aU (sz:=1) (m:=1) i0 rfl dM).mono (λ k hk=>by subst hk;exact g4 w6 oM _ oM),⟨_,_,_,rfl,o3.grow f0⟩,trivial⟩
    have t8:=h6.kys.go (Carry.grow f0);replace e1:=e1.grow f0;repeat refine aF ?_
    refine aB 121 ?_;refine aA rfl (rkeysK_c (F:=F) (g4 _ oM) x.a3 (some ⟨b',0,none⟩) x.n3 x.c3 1 1 f2.2 f2.2 f2.1.keys [r7] t8 s8 oM oM oM) rfl ?_;rintro _ wb ⟨⟨ra,rc,rfl,hr⟩,r1⟩;have zb:=r1.size;have e0:=f0.trans r1;replace e1:=e1.grow r1;clear q1 i0 s8 t8 f0 r1;repeat (first|refine aF ?_|refine yJ λ w' hu a0 m0=>?_)
    have cW:Carry F w6 F w':=(Carry.grow e0).trans (Carry.upd hu (λ k hk _=>((hF k).1 hk).2));have cV:Carry F wb F w':=Carry.upd hu (λ k hk _=>((hF k).1 hk).2);have zu:=hu.size;refine aE (i-1,⟨x.a1,x.n1,x.c1,qa,f2.2+o0.kids.length+(x.n2-(f2.2+1)),qc,ra,f2.2+1+(x.n3-f2.2),rc⟩,cP f2.1 f2.2 o0 (key,v) th,g2) ⟨rfl,rfl,rfl,rfl,trivial⟩ ⟨by simp only;omega,⟨f2,o0,f4,v4,x1,λ _=>j0,rfl⟩,a0,?_,(i12.grow e0).upd hu oM,p0.go cW,z0.go cW,q0.go cW,(p4.grow e0).upd hu (.inl (λ hh=>hh.2 rfl)) oM,(a6.trans (ButS.grow e0)).upd hu oM,oM⟩ (by simp only;omega);rw [a4,n0,r2];exact ⟨h6.its.go cW,l8.go cW,hr.go cV⟩
   ·have v9:o0.keys=[]:=by
     rcases a5 with ⟨_,_,rfl⟩|⟨_,rfl,rfl⟩
     ·exact n0
     ·rw [n0] at j0;simp only [List.length_cons,List.length_nil] at j0;omega
    repeat refine aF ?_
    refine aE (i-1,⟨x.a1,x.n1,x.c1,qa,f2.2+o0.kids.length+(x.n2-(f2.2+1)),qc,x.a3,x.n3,x.c3⟩,cP f2.1 f2.2 o0 (key,v) th,g2) ⟨rfl,rfl,rfl,rfl,trivial⟩ ⟨by simp only;omega,⟨f2,o0,f4,v4,x1,λ _=>j0,rfl⟩,e1,?_,i12,p0,z0,q0,p4,a6,oM⟩ (by simp only;omega);rw [a4,v9,List.append_nil,List.take_append_drop];exact ⟨h6.its,l8,h6.kys⟩
theorem rput_bad {w:World} (p:Nat) (a0:Option Nat) (e0:∀ n,a0=some n→n<9223372036854775808) (G G':Nat→Prop) (a a':Option Addr) (m c m' c':Nat) (key v:Bs) (hk:Sl G w 1 a m c (bB key)) (hv:Sl G' w 1 a' m' c' (bB v)) (hb:(dW key&&eR v)=false) :
  Calls Tryz.prog 37 #[.pointer (some ⟨p,0,none⟩),.int .i64 (dS a0),.slice a m c,.slice a' m' c'] w (Ret λ u w'=>u=.tuple #[.int .i64 0,.int .i64 2]∧Grow w w'):=by
 have hm:m=key.length:=by have:=hk.len;rw [bB,List.length_map] at this;omega
 have g0:m'=v.length:=by have:=hv.len;rw [bB,List.length_map] at this;omega
 refine V.calls (args:=[_,_,_,_]) Tryz.func37 rfl Tryz.ntmps37 rfl rfl ?_
 cases hko:dW key with
 | false =>
  repeat (first|(refine aB 104 ?_;refine aA rfl (rbegin_c p a0 e0 _) rfl ?_;rintro _ _ ⟨rfl,rfl⟩)|(refine aB 105 ?_;refine aA rfl (rkey_c a _ c key false _ hko hm) rfl ?_;rintro _ _ ⟨rfl,rfl⟩)|refine yC ?_)
  exact fJ rfl rfl ⟨_,rfl,rfl,Grow.refl _⟩
 | true =>
  have f0:eR v=false:=by rw [hko] at hb;simpa using hb
  repeat (first|(refine aB 104 ?_;refine aA rfl (rbegin_c p a0 e0 _) rfl ?_;rintro _ _ ⟨rfl,rfl⟩)|(refine aB 105 ?_;refine aA rfl (rkey_c a _ c key true _ hko hm) rfl ?_;rintro _ _ ⟨rfl,rfl⟩)|(refine aB 118 ?_;refine aA rfl (rvalue_c a' _ c' v false _ f0 g0) rfl ?_;rintro _ _ ⟨rfl,rfl⟩)|refine yC ?_)
  exact fJ rfl rfl ⟨_,rfl,rfl,Grow.refl _⟩
theorem TrAt.rlt {g:Pg} {a0:Option Nat} {lv:Nat} {l:bT} {ps:List Nat} (ht:TrAt g a0 lv l ps) (e0:PgOk g):∀ n,a0=some n→n<9223372036854775808:=λ n e=>by
 subst e;have:=dV (ht.root_used n rfl);have:=e0.cnt;omega
theorem both_det {g:Pg} (i0:PgOk g) {a0:Option Nat} {lv:Nat} {l:bT} {ps:List Nat} (ht:TrAt g a0 lv l ps) (n0:lv≤15) (l0:32≤cC g) (key v:Bs) (m0:fK key) (k0:fK v):∃ (x e:Int) (e0:Option Nat) (g':Pg) (f0:Nat) (l':bT) (g0:List Nat),
  (((dW key&&eR v)=true∧e=0∧x=dS e0∧l'=gQ key v l)∨((dW key&&eR v)=false∧e=2∧x=0∧e0=a0∧g'=g∧l'=l∧f0=lv))∧Ext g g'∧PgOk g'∧TrAt g' e0 f0 l' g0 ∧
  (∀ {w:World} {L:PL},PgW w L g→∀ (a a':Option Addr) (m c m' c':Nat),Sl (λ k=>¬ L.S k) w 1 a m c (bB key)→Sl (λ k=>¬ L.S k) w 1 a' m' c' (bB v) →
   Calls Tryz.prog 25 #[.pointer (some ⟨L.p,0,none⟩),.int .i64 (dS a0),.slice a m c,.slice a' m' c'] w (Ret λ u w'=>u=.tuple #[.int .i64 x,.int .i64 e]∧PgW w' L g'∧ButS L.S w w')) ∧
  ∀ {K G G':Nat→Prop} {w:World} {R:RL},RfAt K w R g→(∀ k,w.heap.size≤k→K k)→∀ (a a':Option Addr) (m c m' c':Nat),Sl G w 1 a m c (bB key)→Sl G' w 1 a' m' c' (bB v) →
   Calls Tryz.prog 37 #[.pointer (some ⟨R.p,0,none⟩),.int .i64 (dS a0),.slice a m c,.slice a' m' c'] w (Ret λ u w'=>u=.tuple #[.int .i64 x,.int .i64 e]∧RfAt K w' R g'∧ButS R.S w w'):=by
 cases hb:dW key&&eR v with
 | false =>
  refine ⟨0,2,a0,g,lv,l,ps,.inr ⟨rfl,rfl,rfl,rfl,rfl,rfl,rfl⟩,Ext.refl _,i0,ht,λ h a a' m c m' c' hk hv=>Calls.mono (put_bad h.at_ a0 ht.root_used a a' m c m' c' key v hk hv hb) λ y w' hy=>hy.mono λ u w' ⟨hu,hg⟩=>⟨hu,h.grow hg,ButS.grow hg⟩,λ h hK a a' m c m' c' hk hv=>Calls.mono (rput_bad _ a0 (ht.rlt i0) _ _ a a' m c m' c' key v hk hv hb) λ y w' hy=>hy.mono λ u w' ⟨hu,hg⟩=>⟨hu,h.grow hg,ButS.grow hg⟩⟩
 | true =>
  obtain ⟨j0,h0⟩:=Bool.and_eq_true_iff.1 hb;obtain ⟨n,g',f0,g0,e1,e2,e3,e4,e5,e6,e7⟩:=put_tr i0 ht j0 h0 oM oM;exact ⟨_,0,some n,g',f0,_,g0,.inl ⟨rfl,rfl,rfl,rfl⟩,e2,e3,e4,λ h a a' m c m' c' hk hv=>Calls.mono (put_c h.at_ h.tab h.ne0 a0 a a' m c m' c' key v hk hv j0 h0 m0 k0 l0 n e1) λ y w' hy=>hy.mono λ u w' ⟨hu,hp,hb⟩=>⟨hu,h.put hp hb,hb⟩,λ h hK a a' m c m' c' hk hv=>rput_c h hK a0 _ _ a a' m c m' c' key v hk hv j0 h0 m0 k0 l0 n e1⟩
def putL (l:bT) (x:Bs×Bs):bT:=if dW x.1&&eR x.2 then gQ x.1 x.2 l else l
def hU (l:bT):bT:=l.foldl putL []
theorem putL_len (l:bT) (x:Bs×Bs):(putL l x).length≤l.length+1:=by
 unfold putL;split
 ·exact (insI_len _ _ l).2
 ·omega
theorem foldl_len (l:bT):∀ (a0:bT),(l.foldl putL a0).length≤a0.length+l.length:=by
 induction l with
 | nil=>intro a0;simp
 | cons x r ih=>intro a0;have:=ih (putL a0 x);have:=putL_len a0 x;simp only [List.foldl_cons,List.length_cons];omega
structure Pl (w:World) (B:Nat) (L:PL) (R:RL) (g:Pg):Prop where
 pw:PgW w L g
 rf:RfAt (λ k=>¬ L.S k∧¬ R.S k) w R g
 lB:∀ k,k=L.p∨k=L.d∨k=L.u∨k=L.m→B≤k
 rB:∀ k,k=R.p∨k=R.d∨k=R.c∨k=R.u→B≤k
 dj:∀ k,k=R.p∨k=R.d∨k=R.c∨k=R.u→¬ L.S k
 dj2:∀ k,k=L.p∨k=L.d∨k=L.u∨k=L.m→¬ R.S k
 r0:¬ R.S 0
theorem Pl.grow {w w':World} {B:Nat} {L:PL} {R:RL} {g:Pg} (h:Pl w B L R g) (gr:Grow w w'):Pl w' B L R g:=⟨h.pw.grow gr,h.rf.grow gr,h.lB,h.rB,h.dj,h.dj2,h.r0⟩
theorem Pl.lS {w:World} {B:Nat} {L:PL} {R:RL} {g:Pg} (h:Pl w B L R g) {k:Nat} (hk:L.S k):B≤k∧k<w.heap.size:=by
 have:=h.pw.at_.lts;unfold PL.S at hk;rcases hk with rfl|rfl|rfl
 ·exact ⟨h.lB _ sM,oM⟩
 ·exact ⟨h.lB _ sM,oM⟩
 ·exact ⟨h.lB _ sM,oM⟩
theorem Pl.rS {w:World} {B:Nat} {L:PL} {R:RL} {g:Pg} (h:Pl w B L R g) {k:Nat} (hk:R.S k):B≤k∧k<w.heap.size:=by
 have:=h.rf.lts;unfold RL.S at hk;rcases hk with rfl|rfl|rfl
 ·exact ⟨h.rB _ sM,oM⟩
 ·exact ⟨h.rB _ sM,oM⟩
 ·exact ⟨h.rB _ sM,oM⟩
theorem Pl.keeps {w w1 w2:World} {B:Nat} {L L':PL} {R:RL} {g:Pg} {u:Nat} {qs:List Nat} (h:Pl w B L R g) (hB:B≤w.heap.size) (e1:L'.p=L.p) (e2:L'.d=L.d) (e3:L'.m=L.m) (e5:w.heap.size≤L'.u) (pg:PgAt w1 L' (hX g qs)) (b1:ButS (λ k=>k=L.p) w w1) (hu:w1.heap.size≤u) (b2:ButS (λ k=>k=R.p) w1 w2)
  (hr:RfAt (λ k=>(¬ L'.S k∧¬ R.S k)∧k≠u) w2 ⟨R.p,R.d,R.b,R.c,u⟩ (hX g qs)):Pl w2 B L' ⟨R.p,R.d,R.b,R.c,u⟩ (hX g qs):=by
 have z1:=b1.size;have hl:=h.pw.at_.lts;have g0:=h.rf.lts;have f0:=pg.lts;have h0:=h.pw.tab.1;have nL:∀ x,(x=R.p∨x=R.d∨x=R.c)→x<w.heap.size∧(x=L'.m→False)∧(x=L'.p→False):=λ x hx=>⟨oM,λ e=>h.dj x (by rcases hx with h|h|h<;>simp [h]) (by unfold PL.S;rw [e,e3];simp),λ e=>h.dj x (by rcases hx with h|h|h<;>simp [h]) (by unfold PL.S;rw [e,e1];simp)⟩
 have nR:∀ x,(x=L'.p∨x=L'.d∨x=L'.m)→x<w.heap.size∧(x=R.p→False)∧(x=R.c→False):=λ x hx=>⟨oM,λ e=>h.dj2 x (by rw [← e1,← e2,← e3];rcases hx with h|h|h<;>simp [h]) (by unfold RL.S;simp [e]),λ e=>h.dj2 x (by rw [← e1,← e2,← e3];rcases hx with h|h|h<;>simp [h]) (by unfold RL.S;simp [e])⟩
 have n0:¬ L'.S 0:=λ e=>by
  unfold PL.S at e;rcases e with e|e|e
  ·omega
  ·exact h.pw.ne0 (by unfold PL.S;rw [← e3];simp [e])
  ·exact h.pw.ne0 (by unfold PL.S;rw [← e1];simp [e])
 have r0:0≠R.p∧0≠R.c:=⟨λ e=>h.r0 (by unfold RL.S;simp [e]),λ e=>h.r0 (by unfold RL.S;simp [e])⟩
 have a0:=hr.lts;simp only at a0;refine ⟨(⟨pg,h.pw.tab.buts b1 (λ e=>h.pw.ne0 (by unfold PL.S;simp [e])),n0⟩:PgW w1 L' (hX g qs)).other b2 (λ k hk e=>?_) r0.1,hr.keep2 (Carry.mono λ k hk _=>⟨hk.1.1,λ e=>?_⟩) (λ _ _=>rfl) (λ k hk=>hk.2),λ k hk=>?_,λ k hk=>?_,λ k hk e=>?_,λ k hk e=>?_,λ e=>?_⟩
 ·rcases hk with hk|hk|hk|hk
  ·exact (nR k (by simp [hk])).2.1 e
  ·exact (nR k (by simp [hk])).2.1 e
  ·omega
  ·exact (nR k (by simp [hk])).2.1 e
 ·have h1:=hk.1.2;unfold RL.S at e h1;simp only at e;rcases e with e|e|e
  ·exact h1 (.inl e)
  ·exact h1 (.inr (.inl e))
  ·exact hk.2 e
 ·rcases hk with hk|hk|hk|hk
  ·exact h.lB k (by simp [hk,e1])
  ·exact h.lB k (by simp [hk,e2])
  ·omega
  ·exact h.lB k (by simp [hk,e3])
 ·simp only at hk;rcases hk with hk|hk|hk|hk
  ·exact h.rB k (by simp [hk])
  ·exact h.rB k (by simp [hk])
  ·exact h.rB k (by simp [hk])
  ·omega
 ·simp only at hk;unfold PL.S at e;by_cases e0:k=u
  ·omega
  ·obtain ⟨a1,a2,a3⟩:=nL k oM;rcases e with e|e|e
   ·omega
   ·exact a2 e
   ·exact a3 e
 ·unfold RL.S at e;simp only at e;by_cases e0:k=L'.u
  ·omega
  ·obtain ⟨a1,a2,a3⟩:=nR k oM;rcases e with e|e|e
   ·exact a2 e
   ·exact a3 e
   ·omega
 ·unfold RL.S at e;simp only at e;rcases e with e|e|e
  ·exact r0.1 e
  ·exact r0.2 e
  ·omega
theorem planted_c {F0:Nat→Prop} {w:World} {a:Option Addr} {n c:Nat} {l:bT} (v0:TabAt w) (h0:ItsAt F0 w a n c l) (d7:∀ x∈l,fK x.1∧fK x.2) (v6:l.length≤60) (s4:∀ x∈l,x.1.length≤100∧x.2.length≤100) :
  Calls Tryz.prog 53 #[.slice a n c] w (Ret λ v w'=>∃ L R i0 g lv ps,v=.tuple #[.pointer (some ⟨L.p,0,none⟩),.pointer (some ⟨R.p,0,none⟩),.int .i64 (dS i0),.bool true]∧Pl w' w.heap.size L R g∧g.count=200∧32≤cC g∧TrAt g i0 lv (hU l) ps∧lv≤4∧Grow w w'):=by
 obtain ⟨F,hF⟩:∃ F:Nat→Prop,∀ k,F k↔k<w.heap.size:=⟨_,λ _=>Iff.rfl⟩
 have r2:ItsAt F w a n c l:=⟨_,(h0.ex.choose_spec.1).go (Carry.mono λ k _ hl=>(hF k).2 hl),h0.ex.choose_spec.2.go (Carry.mono λ k _ hl=>(hF k).2 hl)⟩
 clear h0;have p6:=r2.len;subst p6;have x7:0<w.heap.size:=v0.1;refine V.calls (args:=[_]) Tryz.func53 rfl Tryz.ntmps53 rfl rfl ?_;repeat refine aF ?_
 refine aB 67 ?_;refine aA rfl (dnew_c (2*200) w oM oM) rfl ?_;rintro _ w1 ⟨d,s,m,rfl,hd,hm,r3,f5⟩;have z1:=f5.size;have zd:d<w1.heap.size∧m<w1.heap.size:=⟨r3.blk.lt,r3.map.lt⟩
 repeat refine aF ?_
 refine aB 31 ?_;refine aA rfl (rdisk_c (2*200) w1 oM oM) rfl ?_;rintro _ w2 ⟨rd,rb,rc,rfl,f6,h6,g6,y2,u1,q3⟩;have z2:=q3.size;have zr:rd<w2.heap.size∧rc<w2.heap.size:=⟨y2.lt,u1.lt⟩
 have q5:rd≠rc:=by
  rintro rfl;unfold Blk at y2 u1;rw [y2] at u1;injection (Option.some.inj u1) with h1 h2 h3;revert h2
  decide
 repeat refine aF ?_
 refine aB 32 ?_;refine aA rfl (ropen_c 200 rd rb rc w2 oM oM y2 u1 q5) rfl ?_;rintro _ w3 ⟨rp,ru,rfl,c6,a6,k4,p3⟩;have z3:=p3.size;have f2:=k4 (λ k=>¬ RL.S ⟨rp,rd,rb,rc,ru⟩ k) (λ k hk=>hk);have h5:=f2.lts;simp only at h5;repeat refine aF ?_
 refine aB 68 ?_;refine aA rfl (open_c (r3.grow (q3.trans p3)) oM oM) rfl ?_;rintro _ w4 ⟨L,rfl,n7,m7,l7,k7,q4,o3⟩;have z4:=o3.size;have m3:=((f5.trans q3).trans p3).trans o3;have zL:=q4.lts;have o5:Pl w4 w.heap.size L ⟨rp,rd,rb,rc,ru⟩ (pg0 200):=⟨⟨q4,v0.keep (m3.block 0 v0.1) m3.size,λ h=>by unfold PL.S at h;omega⟩,(k4 _ (λ k hk=>hk.2)).grow o3,λ b hb=>by omega,λ b hb=>by simp only at hb;omega,λ k hk=>by unfold PL.S;simp only at hk;omega,λ k hk=>by unfold RL.S;simp only;omega,λ h=>by unfold RL.S at h;simp only at h;omega⟩
 repeat refine aF ?_
 refine aX (S:=Nat×Option Nat×Pg×PL×RL) (λ q=>[(15,.int .i64 (q.1:Int)),(14,.int .i64 (dS q.2.1)),(13,.int .i64 (dS q.2.1)),(12,.pointer (some ⟨q.2.2.2.1.p,0,none⟩)),(10,.pointer (some ⟨q.2.2.2.2.p,0,none⟩)),(0,.slice a l.length c)])
  (λ q w1=>q.1≤l.length∧Pl w1 w.heap.size q.2.2.2.1 q.2.2.2.2 q.2.2.1∧q.2.2.1.count=200∧32≤cC q.2.2.1∧Grow w w1∧∃ lv ps,TrAt q.2.2.1 q.2.1 lv (hU (l.take q.1)) ps) (λ q=>l.length-q.1) (0,none,pg0 200,L,⟨rp,rd,rb,rc,ru⟩) ⟨rfl,rfl,rfl,rfl,rfl,rfl,trivial⟩
  ⟨Nat.zero_le _,o5,rfl,by simp only [spare_pg0];omega,m3,0,[],⟨rfl,rfl,rfl⟩⟩ ?_
 clear o5 m3 k4 f2 r3 y2 u1 q4 f5 q3 p3 o3 z1 z2 z3 z4 zd zr h5 zL hd hm f6 h6 g6 c6 a6 n7 m7 l7 k7 q5;clear L w1 w2 w3 w4 d s m rd rb rc rp ru;rintro ⟨i,i0,g,L,R⟩ v1 ⟨hi,hp,z0,f4,r1,lv,ps,q1⟩;simp only at hi hp z0 f4 q1
 have j6:(hU (l.take i)).length≤i:=by
  have:=foldl_len (l.take i) [];rw [List.length_take,List.length_nil] at this;unfold hU;omega
 have r6:lv≤4:=q1.levels (k:=4) oM oM;have r7:=q1.rlt hp.pw.at_.ok;have zv:=r1.size;by_cases s6:i<l.length;rotate_left
 ·obtain rfl:i=l.length:=by omega
  rw [List.take_length] at q1;repeat refine aF ?_
  refine eF (vs:=[_,_,_,_]) ⟨_,_,rfl,rfl,_,_,rfl,rfl,_,_,rfl,rfl,_,[],rfl,rfl,rfl⟩ rfl ⟨_,rfl,L,R,i0,g,lv,ps,rfl,hp,z0,f4,q1,r6,r1⟩
 obtain ⟨x,hx⟩:∃ x,l[i]? = some x:=⟨_,List.getElem?_eq_getElem s6⟩
 have l5:=List.mem_of_getElem? hx;obtain ⟨h7,g7⟩:=d7 x l5;obtain ⟨q7,p7⟩:=s4 x l5;obtain ⟨cs,p5,x6⟩:=r2.ex;obtain ⟨kv,vv,f0,f1,f7,e7⟩:=x6.at' hx;obtain ⟨ka,kc,rfl,k3⟩:=f7.sl;obtain ⟨va,vc,rfl,m5⟩:=e7.sl;have g1:cs[i*2]? = some (.slice ka x.1.length kc):=by rw [Nat.mul_comm];exact f0
 have g2:cs[i*2+1]? = some (.slice va x.2.length vc):=by rw [Nat.mul_comm];exact f1
 obtain ⟨xv,e,e0,g',x3,y3,l0,i3,b7,x0,j0,j2,p0⟩:=both_det hp.pw.at_.ok q1 oM f4 x.1 x.2 h7 g7;have y0:=p5.go (Carry.grow r1);have u4:=k3.go (Carry.grow r1);have d4:=m5.go (Carry.grow r1);have f3:∀ k,F k→¬ L.S k:=λ k hk e=>by have:=(hp.lS e).1;have:=(hF k).1 hk;omega
 have s5:∀ k,F k→¬ R.S k:=λ k hk e=>by have:=(hp.rS e).1;have:=(hF k).1 hk;omega
 have j3:∀ k,v1.heap.size≤k→¬ L.S k:=λ k hk e=>by have:=(hp.lS e).2;omega
 have k0:hU (l.take (i+1))=putL (hU (l.take i)) x:=by
  unfold hU;rw [List.take_add_one,hx,Option.toList_some,List.foldl_append];rfl
 have q2:y3=hU (l.take (i+1)):=by
  rw [k0];unfold putL;rcases i3 with ⟨h1,_,_,h2⟩|⟨h1,_,_,_,_,h2,_⟩
  ·rw [if_pos h1];exact h2
  ·rw [if_neg (by rw [h1];simp)];exact h2
 rw [q2] at j0;repeat refine aF ?_
 apply mX (ButS L.S) 20 14 (λ wq=>PgW wq L g∧Grow v1 wq) (λ wq=>PgW wq L g'∧ButS L.S v1 wq) (λ wq=>ButS L.S v1 wq)
  [gY (.pointer (some ⟨L.p,0,none⟩)),gY (.int .i64 (dS i0)),gY (.slice a l.length c),gY (.int .i64 (i:Int)),gY (.pointer (some (at' a (i*2)))),gY (.pointer (some (at' a (i*2+0)))),gY (.slice ka x.1.length kc),ownS v1.heap.size 5 1 x.1.length (bB x.1) j3,
   gY (.slice a l.length c),gY (.int .i64 (i:Int)),gY (.pointer (some (at' a (i*2)))),gY (.pointer (some (at' a (i*2+1)))),gY (.slice va x.2.length vc),ownS v1.heap.size 5 1 x.2.length (bB x.2) j3,
   gY (.tuple #[.int .i64 xv,.int .i64 e]),gY (.tuple #[.int .i64 xv,.int .i64 e]),gY (.int .i64 xv),gY (.int .i64 e),gY (.int .i64 xv),gY (.int .i64 e)]
 ·kernel_rfl
 ·exact ⟨hp.pw,Grow.refl _⟩
 ·exact λ _ h=>ButS.grow h.2
 ·exact λ _ h=>h.2
 ·exact λ _ h=>h.size
 ·exact λ _ _ h g=>⟨h.1.grow g,h.2.trans g⟩
 ·exact λ _ _ h g=>⟨h.1.grow g,h.2.trans (ButS.grow g)⟩
 ·exact λ _ _ h=>h.size
 ·repeat' (first|exact iO|refine gT ?_ ?_)
  iterate 7
   ·refine cZ rfl rfl rfl rfl ?_;intro wq _ _ a0;(refine yU ?_)
    have g0:=y0.go (Carry.buts a0 λ k hk _=>f3 k hk);have t3:wq.cell? (at' a (i*2))=some (.slice ka x.1.length kc):=g0.row.cell g1;have s3:wq.cell? (at' a (i*2+1))=some (.slice va x.2.length vc):=g0.row.cell g2;repeat (first|(refine aI ?_;refine aC (j:=i) rfl rfl rfl oM rfl ⟨_,_,g0⟩ rfl ?_)|(refine bM ?_;refine bJ (o:=i*2) rfl g0 g1 rfl ?_)|refine yC ?_)
    exact bQ rfl (Grow.refl _) rfl
  ·refine cZ rfl rfl rfl rfl ?_;intro wq _ _ a0;(refine yU ?_)
   refine aB 20 ?_;refine aA rfl (own_c _ ka x.1.length kc x.1 _ (u4.go (Carry.buts a0 λ k hk _=>f3 k hk)) oM) rfl ?_;rintro vk v7 ⟨m0,c5⟩;repeat refine aF ?_
   exact bQ rfl c5 (eB m0 a0.size)
  iterate 5
   ·refine cZ rfl rfl rfl rfl ?_;intro wq _ _ a0;(refine yU ?_)
    have g0:=y0.go (Carry.buts a0 λ k hk _=>f3 k hk);have t3:wq.cell? (at' a (i*2))=some (.slice ka x.1.length kc):=g0.row.cell g1;have s3:wq.cell? (at' a (i*2+1))=some (.slice va x.2.length vc):=g0.row.cell g2;repeat (first|(refine aI ?_;refine aC (j:=i) rfl rfl rfl oM rfl ⟨_,_,g0⟩ rfl ?_)|(refine bM ?_;refine bJ (o:=i*2) rfl g0 g1 rfl ?_)|refine yC ?_)
    exact bQ rfl (Grow.refl _) rfl
  ·refine cZ rfl rfl rfl rfl ?_;intro wq _ _ a0;(((repeat (refine needA_cons rfl rfl ?_;intro vq y1;try (obtain rfl:=Eq.symm y1)));(refine needA_nil ?_)))
   refine aB 20 ?_;refine aA rfl (own_c _ va x.2.length vc x.2 _ (d4.go (Carry.buts a0 λ k hk _=>f3 k hk)) oM) rfl ?_;rintro vk v7 ⟨m0,c5⟩;repeat refine aF ?_
   exact bQ rfl c5 (eB m0 a0.size)
  ·refine iN rfl rfl rfl rfl ?_;intro wq _ _ a0;refine needA_cons rfl rfl ?_;intro u5 u0
   refine needA_cons rfl rfl ?_;intro t5 t0
   refine needA_cons rfl rfl ?_;intro k5 s0
   refine needA_cons rfl rfl ?_;intro j5 q0
   refine needA_nil ?_;obtain rfl:=Eq.symm u0;obtain rfl:=Eq.symm t0;have o6:wq.ownsRow v1.heap.size 5 1 k5 x.1.length (bB x.1):=s0;have n6:wq.ownsRow v1.heap.size 5 1 j5 x.2.length (bB x.2):=q0;obtain ⟨a3,c3,rfl,y5⟩:=aM o6;obtain ⟨a4,c4,rfl,v5⟩:=aM n6;refine aB 25 ?_;refine aA rfl (j2 a0.1 a3 a4 x.1.length c3 x.2.length c4 (y5.mono λ k hk=>j3 k hk.1) (v5.mono λ k hk=>j3 k hk.1)) rfl ?_;rintro _ v8 ⟨rfl,r4,d3⟩;repeat refine aF ?_
   exact bQ rfl ⟨d3,r4,(ButS.grow a0.2).trans d3⟩ rfl
  iterate 5
   ·refine cZ rfl rfl rfl rfl ?_;intro wq _ _ a0;(first|refine yU ?_|((repeat (refine needA_cons rfl rfl ?_;intro vq y1;try (obtain rfl:=Eq.symm y1)));(refine needA_nil ?_)))
    have g0:=y0.go (Carry.buts a0 λ k hk _=>f3 k hk);have t3:wq.cell? (at' a (i*2))=some (.slice ka x.1.length kc):=g0.row.cell g1;have s3:wq.cell? (at' a (i*2+1))=some (.slice va x.2.length vc):=g0.row.cell g2;repeat (refine yC ?_)
    exact bQ rfl (Grow.refl _) rfl
 ·rintro v2 lo u7 ⟨m6,m1⟩ _ _;(((repeat (refine needA_cons rfl rfl ?_;intro vq y1;try (obtain rfl:=Eq.symm y1)));(refine needA_nil ?_)))
  have a7:∀ k,L.S k→w.heap.size≤k:=λ k hk=>(hp.lS hk).1;have y6:∀ k,R.S k→w.heap.size≤k:=λ k hk=>(hp.rS hk).1;have o0:Grow w v2:=gD r1 m1 a7;have z2:=m1.size;have j4:=hp.rf.buts m1 (λ k hk=>hk.1) hp.dj;have s2:=p5.go (Carry.grow o0);have t4:=k3.go (Carry.grow o0);have b4:=m5.go (Carry.grow o0);repeat refine aF ?_
  apply mX (ButS R.S) 18 12 (λ wq=>RfAt (λ k=>¬ L.S k∧¬ R.S k) wq R g∧Grow v2 wq) (λ wq=>RfAt (λ k=>¬ L.S k∧¬ R.S k) wq R g'∧ButS R.S v2 wq) (λ wq=>ButS R.S v2 wq)
   [gY (.pointer (some ⟨R.p,0,none⟩)),gY (.int .i64 (dS i0)),gY (.slice a l.length c),gY (.int .i64 (i:Int)),gY (.pointer (some (at' a (i*2)))),gY (.pointer (some (at' a (i*2+0)))),gY (.slice ka x.1.length kc),
    gY (.slice a l.length c),gY (.int .i64 (i:Int)),gY (.pointer (some (at' a (i*2)))),gY (.pointer (some (at' a (i*2+1)))),gY (.slice va x.2.length vc),
    gY (.tuple #[.int .i64 xv,.int .i64 e]),gY (.tuple #[.int .i64 xv,.int .i64 e]),gY (.int .i64 xv),gY (.int .i64 e),gY (.int .i64 xv),gY (.int .i64 e)]
  ·kernel_rfl
  ·exact ⟨j4,Grow.refl _⟩
  ·exact λ _ h=>ButS.grow h.2
  ·exact λ _ h=>h.2
  ·exact λ _ h=>h.size
  ·exact λ _ _ h g=>⟨h.1.grow g,h.2.trans g⟩
  ·exact λ _ _ h g=>⟨h.1.grow g,h.2.trans (ButS.grow g)⟩
  ·exact λ _ _ h=>h.size
  ·repeat' (first|exact iO|refine gT ?_ ?_)
   iterate 12
    ·refine cZ rfl rfl rfl rfl ?_;intro wq _ _ a0;(refine yU ?_)
     have g0:=s2.go (Carry.buts a0 λ k hk _=>s5 k hk);have t3:wq.cell? (at' a (i*2))=some (.slice ka x.1.length kc):=g0.row.cell g1;have s3:wq.cell? (at' a (i*2+1))=some (.slice va x.2.length vc):=g0.row.cell g2;repeat (first|(refine aI ?_;refine aC (j:=i) rfl rfl rfl oM rfl ⟨_,_,g0⟩ rfl ?_)|(refine bM ?_;refine bJ (o:=i*2) rfl g0 g1 rfl ?_)|refine yC ?_)
     exact bQ rfl (Grow.refl _) rfl
   ·refine iN rfl rfl rfl rfl ?_;intro wq _ _ a0;refine needA_cons rfl rfl ?_;intro u5 u0
    refine needA_cons rfl rfl ?_;intro t5 t0
    refine needA_cons rfl rfl ?_;intro k5 s0
    refine needA_cons rfl rfl ?_;intro j5 q0
    refine needA_nil ?_;obtain rfl:=Eq.symm u0;obtain rfl:=Eq.symm t0;obtain rfl:=Eq.symm s0;obtain rfl:=Eq.symm q0;refine aB 37 ?_;have zi:=a0.2.size;refine aA rfl (p0 a0.1 (λ k hk=>⟨λ e=>by have:=(hp.lS e).2;omega,λ e=>by have:=(hp.rS e).2;omega⟩) ka va x.1.length kc x.2.length vc (t4.grow a0.2) (b4.grow a0.2)) rfl ?_;rintro _ v8 ⟨rfl,r4,d3⟩;repeat refine aF ?_
    exact bQ rfl ⟨d3,r4,(ButS.grow a0.2).trans d3⟩ rfl
   iterate 5
    ·refine cZ rfl rfl rfl rfl ?_;intro wq _ _ a0;(refine yU ?_)
     have g0:=s2.go (Carry.buts a0 λ k hk _=>s5 k hk);have t3:wq.cell? (at' a (i*2))=some (.slice ka x.1.length kc):=g0.row.cell g1;have s3:wq.cell? (at' a (i*2+1))=some (.slice va x.2.length vc):=g0.row.cell g2;repeat (refine yC ?_)
     exact bQ rfl (Grow.refl _) rfl
  ·rintro v3 o7 t7 ⟨l6,j1⟩ _ _;(refine yU ?_)
   have x2:Grow w v3:=gD o0 j1 y6;have z3:=j1.size;have u3:Pl v3 w.heap.size L R g':=⟨m6.other j1 hp.dj2 hp.r0,l6,hp.lB,hp.rB,hp.dj,hp.dj2,hp.r0⟩
   have q6:x3≤4:=j0.levels (k:=4) oM (by have:=putL_len (hU (l.take i)) x;rw [k0];omega);have d6:=j0.rlt x0;have n0:g'.count=200:=b7.count.trans z0
   have o2:∃ x9:Int,(e=0→x9=dS e0∧xv=dS e0)∧(e≠0→e0=i0):=⟨xv,λ he=>by
    rcases i3 with ⟨_,_,h3,_⟩|⟨_,h2,_⟩
    ·exact ⟨h3,h3⟩
    ·omega,λ he=>by
    rcases i3 with ⟨_,h2,_⟩|⟨_,_,_,h4,_⟩
    ·exact absurd h2 he
    ·exact h4⟩
   refine TL.nil (eP ?_);refine bD (e':=[(19,.int .i64 e),(18,.int .i64 xv),(17,.int .i64 e),(16,.int .i64 xv),(15,.int .i64 (i:Int)),(14,.int .i64 (dS i0)),(13,.int .i64 (dS i0)),(12,.pointer (some ⟨L.p,0,none⟩)),(10,.pointer (some ⟨R.p,0,none⟩)),(0,.slice a l.length c)]) ?_ ⟨rfl,rfl,rfl,rfl,rfl,rfl,rfl,rfl,rfl,rfl,trivial⟩;refine dU 2 (λ e w3=>v3=w3∧Sub [(15,.int .i64 (i:Int)),(14,.int .i64 (dS e0)),(13,.int .i64 (dS e0)),(12,.pointer (some ⟨L.p,0,none⟩)),(10,.pointer (some ⟨R.p,0,none⟩)),(0,.slice a l.length c)] e) ?_ ?_;rotate_left
   ·rcases i3 with ⟨_,rfl,rfl,_⟩|⟨_,rfl,rfl,rfl,_⟩
    ·repeat refine aF ?_
     exact ⟨rfl,rfl,rfl,rfl,rfl,rfl,rfl,trivial⟩
    ·repeat refine aF ?_
     exact ⟨rfl,rfl,rfl,rfl,rfl,rfl,rfl,trivial⟩
   rintro e4 v4 ⟨rfl,d2⟩;refine bD (e':=[(15,_),(14,_),(13,_),(12,_),(10,_),(0,_)]) ?_ d2;clear d2 o2 j2 p0;by_cases x5:cC g'<32
   ·repeat (first|(refine aB 21 ?_;refine aA rfl (sparet_c u3.pw.at_) rfl ?_;rintro _ _ ⟨rfl,s1⟩)|refine yC ?_)
    have o4:=j0.pages;have a5:=x2.trans s1;rename_i w4;have g5:=u3.grow s1;have z4:=s1.size;refine aB 35 ?_;refine aA rfl (rreach_c g5.rf j0 oM (by rw [k0];have:=putL_len (hU (l.take i)) x;omega)) rfl ?_;rintro _ w5 ⟨qa,qc,rfl,n5,d5⟩;have x1:=g5.grow d5;have u2:=a5.trans d5;have z5:=d5.size;have i6:(srtN l0.reverse).length=l0.length:=by rw [length_srtN,List.length_reverse]
    have k6:l0.length≤30:=by rw [k0] at o4;have:=putL_len (hU (l.take i)) x;omega
    have g3:∀ q∈srtN l0.reverse,bK g' q=true:=λ q hq=>j0.used q (by rw [srtN_mem,List.mem_reverse] at hq;exact hq);have n4:Sl (λ k=>k<w5.heap.size) w5 1 qa l0.length qc (bC (srtN l0.reverse)):=n5.go (Carry.mono λ k _ hk=>hk);repeat refine aF ?_
    refine aB 23 ?_;refine aA rfl (keep_c x1.pw.at_ n4 (λ k hk=>hk) g3 oM) rfl ?_;rintro _ w6 ⟨L',e1,e2,e3,e4,e5,⟨kk,rfl⟩,p4,o1⟩;have z6:=o1.size;have u6:∀ k,k=L.p→w.heap.size≤k:=λ k hk=>hp.lB k (by simp [hk]);have t6:∀ k,k=R.p→w.heap.size≤k:=λ k hk=>hp.rB k (by simp [hk]);have y4:Grow w w6:=gD u2 o1 u6;have m4:Sl (λ k=>w4.heap.size≤k) w6 1 qa l0.length qc (bC (srtN l0.reverse)):=n5.go (Carry.buts o1 λ k hk _ e=>by have:=g5.pw.at_.lts;omega);have l4:Sl (λ k=>k<w6.heap.size) w6 1 qa l0.length qc (bC (srtN l0.reverse)):=m4.go (Carry.mono λ k _ hk=>hk)
    have i4:RfAt (λ k=>¬ L'.S k∧¬ R.S k) w6 R g':=by
     have s7:=x1.pw.at_.lts;have c7:=x1.dj;refine (x1.rf.keep2 (K':=λ k=>¬ L'.S k∧¬ R.S k) ⟨o1.size,λ k hk hl=>⟨⟨λ e=>?_,hk.2⟩,o1.block k hl ?_⟩⟩ (λ k hk=>o1.block k (by have:=x1.rf.lts;omega) (λ e=>c7 k hk (by unfold PL.S;omega))) (λ k hk=>hk.2))
     ·have:=hk.1;unfold PL.S at e this;omega
     ·have:=hk.1;unfold PL.S at this;omega
    repeat refine aF ?_
    refine aB 36 ?_;refine aA rfl (rkeep_c i4 l4 (λ k hk=>hk) g3) rfl ?_;rintro _ w7 ⟨u,hu,rfl,g4,r5⟩;have j7:=x1.keeps (by have:=u2.size;omega) e1 e2 e3 e5 p4 o1 hu r5 g4;have x4:Grow w w7:=gD y4 r5 t6;have k3:=keep_spare x0 g3;rw [n0,i6] at k3;repeat refine aF ?_
    refine aE (i+1,e0,hX g' (srtN l0.reverse),L',⟨R.p,R.d,R.b,R.c,u⟩) ⟨rfl,rfl,rfl,by rw [← e1];rfl,rfl,rfl,trivial⟩ ⟨by simp only;omega,j7,n0,by simp only;omega,x4,x3,l0,j0.keep x0 g3 (λ p hp=>by rw [srtN_mem,List.mem_reverse];exact hp)⟩ (by simp only;omega)
   ·repeat (first|(refine aB 21 ?_;refine aA rfl (sparet_c u3.pw.at_) rfl ?_;rintro _ _ ⟨rfl,s1⟩)|refine yC ?_)
    refine aE (i+1,e0,g',L,R) ⟨rfl,rfl,rfl,rfl,rfl,rfl,trivial⟩ ⟨by simp only;omega,u3.grow s1,n0,by simp only;omega,x2.trans s1,x3,l0,j0⟩ (by simp only;omega)
theorem open_tree {g:Pg} (f0:PgOk g) {a0:Option Nat} {lv:Nat} {l:bT} {ps:List Nat} (ht:TrAt g a0 lv l ps) (g0:lv≤15):∃ H top M',TreeOf g H top l ps (dS a0)∧treeP g a0 []=some (lv,M')∧∀ k∈ps,∃ t,gM M' k=some t∧cD g k=some t.node:=by
 obtain ⟨M',h1,h2,h3⟩:=tree_trM (s:=g) (M:=[]) (λ n t hn=>by cases hn) ht oM
 have hk:∀ k∈ps,∃ t,gM M' k=some t∧cD g k=some t.node:=λ k hk=>by
  obtain ⟨t,e⟩:=(h3 k).2 (.inr hk);obtain ⟨h,l',e0,kn⟩:=h2 k t e;exact ⟨t,e,kn.node⟩
 cases a0 with
 | none =>
  obtain ⟨rfl,rfl,rfl⟩:=ht;exact ⟨0,nd0,M',.inl ⟨rfl,rfl⟩,h1,hk⟩
 | some n =>
  obtain ⟨h,nd,e0,rfl,e2,e3,e4,rfl⟩:=ht;exact ⟨h,nd,M',.inr ⟨n,e0,rfl,rfl,⟨e3,f0,e2,e4,oM,by have:=f0.cnt;omega⟩⟩,h1,hk⟩
theorem copen_c {w:World} {L:PL} {g:Pg} (hp:PgW w L g) {a0:Option Nat} {lv:Nat} {l:bT} {ps:List Nat} (ht:TrAt g a0 lv l ps) (j2:lv≤15) (hl:l.length≤1000) (x2:∀ x∈l,fK x.1∧fK x.2) (G:Nat→Prop) (fa ta:Option Addr) (fn fc tn tc:Nat) (fr to:Bs) (back:Bool) (e0:Int) (hf:Sl G w 1 fa fn fc (bB fr)) (o1:Sl G w 1 ta tn tc (bB to)) (y3:fr.length≤16) (p3:to.length≤16) (hm:0≤e0∧e0≤9223372036854775807) :
  Calls Tryz.prog 55 #[.pointer (some ⟨L.p,0,none⟩),.int .i64 (dS a0),.agg #[.slice fa fn fc,.slice ta tn tc,.bool back,.int .i64 e0]] w (Ret λ v w'=>∃ cb C E pv fs ix,v=.tuple #[.pointer (some ⟨cb,0,none⟩),.int .i64 0]∧w.heap.size≤cb∧Cu w' C cb 0 pv fs∧Ok w' C cb E∧AtE E fs ix∧(∀ j,ix=some j→j<E.al.length)∧hQ E C.back ix=lW l fr to back∧E.al=l∧E.fr=fr∧E.to=to∧C.back=back∧C.most=e0∧C.lo=w.heap.size∧Grow w w'):=by
 obtain ⟨H,top,M',hT,hM,h2⟩:=open_tree hp.at_.ok ht j2;have x1:∀ n,a0=some n→n<4294967296:=λ n e=>by subst e;have:=ht.lt hp.at_.ok;omega
 have w1 : -1≤dS a0∧dS a0≤9223372036854775807:=by
  cases a0 with
  | none=>show (-1:Int)≤-1∧(-1:Int)≤_;omega
  | some n=>have:=x1 n rfl;show (-1:Int)≤(n:Int)∧(n:Int)≤_;omega
 have z3:fn=fr.length:=by have:=hf.len;rw [bB,List.length_map] at this;omega
 have o3:tn=to.length:=by have:=o1.len;rw [bB,List.length_map] at this;omega
 have o2:∀ x∈l,x.1.length≤16∧x.2.length≤32:=λ x hx=>⟨(eK (ht.items x hx).1).2,iD (ht.items x hx).2⟩
 refine V.calls (args:=[_,_,_]) Tryz.func55 rfl Tryz.ntmps55 rfl rfl ?_;repeat (first|refine aF ?_|refine yI λ bk w' hg n0 y0 p0=>?_)
 refine aB 87 ?_;refine aA rfl (walk_new L.p _) rfl ?_;rintro _ w2 ⟨wb,wm,rfl,m3,j3,i0,e1⟩;have l0:=hg.trans e1;have k5:Blk w2 bk 92 [.slice fa fn fc,.slice ta tn tc,.bool back,.int .i64 e0]:=n0.grow e1;have z1:=hg.size;have q5:w.heap.size≤bk∧bk<w2.heap.size∧bk<w'.heap.size:=by have:=k5.lt;have:=n0.lt;omega
 obtain ⟨b5,rfl⟩:=yE bk;clear n0 hg e1 y0 p0;repeat (first|(refine aB 93 ?_;refine aA rfl (ready_c (hp.at_.grow l0) _ w1.1 w1.2) rfl ?_;rintro _ _ ⟨rfl,rfl⟩)|refine yC ?_)
 refine aB 88 ?_;have x3:=hp.at_.lts;refine aA rfl (tree_c (G:=λ k=>w.heap.size≤k∧k≠wm∧k≠b5) (hp.at_.grow l0) i0.blk (mem_new (w':=w2) i0) ⟨i0.ne,oM,oM,oM,oM⟩ (λ k hk=>hk.2.1) (λ k hk=>by have:=i0.map.lt;omega) x1 hM) rfl ?_;rintro _ w3 ⟨rfl,k0,s0⟩;have k3:=i0.blk.lt;have g2:=i0.map.lt;have g0:Grow w w3:=grow_buts l0 s0 oM;have h3:=s0.size;have h1:=bX k5 s0 oM;have f0:=bX i0.blk s0 i0.ne;have y1:=hf.grow g0;have s1:=o1.grow g0;clear k5;repeat refine aF ?_
 refine bD (e':=[(8,.pointer (some ⟨wb,0,none⟩)),(5,.pointer (some ⟨b5,0,none⟩)),(1,.int .i64 (dS a0)),(0,.pointer (some ⟨L.p,0,none⟩))]) ?_ ⟨rfl,rfl,rfl,rfl,trivial⟩;apply T.any 7 [is (.pointer (some ⟨b5,0+0,none⟩)),is (.slice fa fn fc),bsF w3.heap.size fr,is (.pointer (some ⟨b5,0+1,none⟩)),is (.slice ta tn tc),bsF w3.heap.size to,is (.pointer (some ⟨b5,0+0,none⟩))]
 ·rfl
 ·repeat' (first|exact aN|refine aK ?_ ?_)
  iterate 2
   ·refine yQ λ wq _ _ m0=>?_;repeat refine aF ?_
    exact aD rfl yG rfl
  ·refine yQ λ wq _ _ m0=>?_;have zq:=m0.size;refine aB 95 ?_;refine aA rfl (nC _ _ fr _ (⟨_,_,_,rfl,y1.grow m0⟩:BsAt G _ _ fr) oM) rfl ?_;rintro u wr ⟨hu,s2⟩;repeat refine aF ?_
   exact aD rfl yG (hu.go (Carry.mono λ k hk _=>by omega))
  iterate 2
   ·refine yQ λ wq _ _ m0=>?_;repeat refine aF ?_
    exact aD rfl yG rfl
  ·(((refine bW rfl rfl rfl ?_);( intro wq _ _ m0;(repeat (refine aJ rfl rfl ?_;intro vq j0;try (obtain rfl:=j0)));(refine aZ ?_))))
   have zq:=m0.size;refine aB 95 ?_;refine aA rfl (nC _ _ to _ (⟨_,_,_,rfl,s1.grow m0⟩:BsAt G _ _ to) oM) rfl ?_;rintro u wr ⟨hu,s2⟩;repeat refine aF ?_
   exact aD rfl yG (hu.go (Carry.mono λ k hk _=>by omega))
  ·(((refine bW rfl rfl rfl ?_);( intro wq _ _ m0;(repeat (refine aJ rfl rfl ?_;intro vq j0;try (obtain rfl:=j0)));(refine aZ ?_))))
   repeat refine aF ?_
   exact aD rfl yG rfl
 rintro w4 _ _ q0 _ _;iterate 2 (refine aJ rfl rfl ?_;intro vq j0;try (obtain rfl:=j0))
 refine aJ rfl rfl ?_;intro u1 m1;iterate 2 (refine aJ rfl rfl ?_;intro vq j0;try (obtain rfl:=j0))
 refine aJ rfl rfl ?_;intro u2 j1;refine aJ rfl rfl ?_;intro vq j0;obtain rfl:=j0;refine aZ ?_;obtain ⟨q1,q2,rfl,q3⟩:=BsAt.sl m1;obtain ⟨r1,r2,rfl,r3⟩:=BsAt.sl j1;have f2:=h1.grow q0;have g3:=q0.size;clear h1 m1 j1;repeat (first|refine aF ?_|refine yI λ bk w' hg n0 y0 p0=>?_|refine yJ λ w' hu n0 y0=>?_)
 rename_i wA x0 z2 u3 wB v0 d2 t3 wC y2 s3;have f1:Blk w' bk 206 [.pointer (some ⟨bk,0,none⟩),.pointer (some ⟨wb,0,none⟩),.int .i64 (dS a0),.slice q1 fr.length q2,.slice r1 to.length r2,.bool back,.int .i64 e0,.int .i64 0,.slice none 0 0]:=n0;have i3:Blk w' b5 92 [.slice q1 fr.length q2,.slice r1 to.length r2,.bool back,.int .i64 e0]:=Blk.upd hu oM (Blk.grow hg d2);have z0:Grow w w':=aH hu oM ((aH v0 oM (aH x0 oM (g0.trans q0))).trans hg);have cX:Carry (λ k=>w.heap.size≤k∧k≠b5) w4 (λ k=>w.heap.size≤k∧k<bk) w':=((Carry.upd x0 (λ k hk _=>hk.2)).trans (Carry.upd v0 (λ k hk _=>hk.2))).trans ((Carry.mono λ k hk hl=>by omega).trans ((Carry.grow hg).trans (Carry.upd hu (λ k hk _=>by omega))));have cY:Carry (λ k=>w.heap.size≤k∧k≠b5) w3 (λ k=>w.heap.size≤k∧k<bk) w':=(Carry.grow q0).trans cX;have zb:w3.heap.size≤bk:=by omega
 have f3:=g0.size
 have u0:Wlk w' bk ⟨wb,dS a0,q1,fr.length,q2,r1,to.length,r2,back,e0,w.heap.size⟩ g ps :=
  ⟨L.p,wm,M',cJ f0 (cY.blk wb oM f0.lt).2,k0.go ((Carry.mono λ k hk _=>⟨hk.1,hk.2.2⟩).trans cY) (cY.blk wm oM k0.lt).2,by have:=f0.lt;show w.heap.size≤wb∧wb<bk;omega,by have:=k0.lt;show w.heap.size≤wm∧wm<bk;omega,h2⟩
 have o:Ok w' ⟨wb,dS a0,q1,fr.length,q2,r1,to.length,r2,back,e0,w.heap.size⟩ bk ⟨g,H,top,l,ps,fr,to⟩ :=
  ⟨hT,u0,q3.go ((Carry.mono λ k hk _=>by omega).trans cX),r3.go ((Carry.mono λ k hk _=>by omega).trans cX),ht.srt,hl,by show fr.length≤100;omega,by show to.length≤100;omega,x2,o2,hm⟩
 have h:Cu w' ⟨wb,dS a0,q1,fr.length,q2,r1,to.length,r2,back,e0,w.heap.size⟩ bk 0 (.slice none 0 0) []:=⟨f1,[],World.ownsRow_nil _ _ _ _,trivial⟩
 have qb:w.heap.size≤bk:=by have:=g0.size;omega
 clear n0 hu y2 hg x0 v0 z2 d2 cX cY q0 f0 k0 s0 i0 q3 r3 f2 y1 s1 g0 l0;obtain ⟨w5,rfl⟩:=yE w'
 have e2:∀ {w9:World} {pv9:Value},CuTo bk (.slice none 0 0) pv9 w5 w9→Grow w w9:=λ t=>gD z0 t.but (λ k hk=>by
  rcases hk with e|e
  ·omega
  ·cases e)
 cases back with
 | true =>
  repeat refine aF ?_
  refine aB 132 ?_;refine aA rfl (cbelow_c o h) rfl ?_;rintro _ w6 ⟨t0,g1,h6,h0,o0⟩;repeat refine aF ?_
  exact fJ rfl rfl ⟨_,rfl,bk,_,_,t0,g1,_,rfl,qb,h6,o.go (h.carry h0),o0,ixB_lt (tw_le _ _),range_B ht.srt fr to,rfl,rfl,rfl,rfl,rfl,rfl,e2 h0⟩
 | false =>
  have d3:∀ k,w.heap.size≤k∧k<bk→k≠bk∧(Value.slice none 0 0).ownBlock≠some k:=λ k hk=>⟨oM,λ e=>by cases e⟩
  repeat refine aF ?_
  refine aB 133 ?_;refine aA rfl (cfind_c o.tr h o.wlk _ d3 _ _ _ fr o.f) rfl ?_;rintro _ w6 ⟨t0,g1,h6,h0,o0⟩;repeat refine aF ?_
  exact fJ rfl rfl ⟨_,rfl,bk,_,_,t0,g1,_,rfl,qb,h6,o.go (h.carry h0),o0,toIx_bd,range_F ht.srt fr to,rfl,rfl,rfl,rfl,rfl,rfl,e2 h0⟩
end Go.Proofs.YtfpadnmdafiddaaGreatDoor
namespace Go.V
open Go Go.RowKit
def fnTyB (P:Program) (t:TypeId):Bool:=match P.underlying t with|some (.func ..)=>true|_=>false
class FnTy (P:Program) (t:TypeId):Prop where
 h:fnTyB P t=true
theorem FnTy.und {P:Program} {t:TypeId} (h:FnTy P t):∃ a b c,P.underlying t=some (.func a b c):=by
 have h:=h.h;unfold fnTyB at h;split at h
 ·exact ⟨_,_,_,by assumption⟩
 ·cases h
theorem run_equalIn_fn {P:Program} (dp:Nat) {t:TypeId} (h:FnTy P t) (f:Fn) (xs cs:Array Value) (w:World):(Op.equalIn (dp+1) t (.func f xs cs) .nilFunc).run P w=.ok false w:=by
 obtain ⟨a,b,c,hu⟩:=h.und;simp [Op.equalIn,underlying,hu]
theorem TL.eqFnNil [Rn] {P:Program} {n:Nat} {e:dI} {w:World} {Q:dA} {ops:Array Oper} {rest:List Oper} {d:Nat} {ty:TypeId} {pos:String} {aft:Array Edge} {t t2:TypeId} {x y:Operand} {f:Fn} {xs cs:Array Value} [ht:FnTy P t] (hx:val e x=some (.func f xs cs)) (hy:val e y=some .nilFunc) (hd:Nat.blt d n=true)
  (k:TL P n ops rest ((d,.bool false)::e) w Q):TL P n ops (⟨some d,.binOp .eql t x y t2,ty,pos,aft,none⟩::rest) e w Q :=
 TL.run (λ r hr=>by
  have hg:eqGuard .eql t x y (.func f xs cs) .nilFunc=Pure.pure ():=rfl;simp only [execOp,hr.eval hx,hr.eval hy,hg];simp only [binOp]
  simp [Op.equal,Op.maxDepth,run_equalIn_fn 9999 ht]) hd k
end Go.V
namespace Go.Proofs.YtfpadnmdafiddaaGreatDoor
open Go Go.RowKit Go.V
instance fnYield:FnTy Tryz.prog 208:=⟨kR⟩
def remL (E:CE) (C:CC) (d:Int) (ix:Option Nat):bT:=if 0<C.most then (hQ E C.back ix).take (C.most-d).toNat else hQ E C.back ix
structure Cz (w:World) (C:CC) (cb:Nat) (E:CE) (d:Int) (pv:Value) (fs:List (Nd×Int)) (ix:Option Nat) (rm:bT):Prop where
 cu:Cu w C cb d pv fs
 ok:Ok w C cb E
 at_:AtE E fs ix
 bd:∀ j,ix=some j→j<E.al.length
 d0:0≤d
 d1:d+rm.length≤1000000
 rem:remL E C d ix=rm
theorem Cz.grow {w w':World} {C:CC} {cb:Nat} {E:CE} {d:Int} {pv:Value} {fs:List (Nd×Int)} {ix:Option Nat} {rm:bT} (z:Cz w C cb E d pv fs ix rm) (g:Grow w w'):Cz w' C cb E d pv fs ix rm:=⟨z.cu.grow g,z.ok.grow g,z.at_,z.bd,z.d0,z.d1,z.rem⟩
theorem Cz.upd {w w':World} {C:CC} {cb b:Nat} {E:CE} {d:Int} {pv:Value} {fs:List (Nd×Int)} {ix:Option Nat} {rm:bT} (z:Cz w C cb E d pv fs ix rm) (u:Upd b w w') (hb:cb<b) (hn:pv.ownBlock≠some b):Cz w' C cb E d pv fs ix rm:=⟨z.cu.upd u hb hn,z.ok.go (Carry.upd u (λ k hk _=>by omega)),z.at_,z.bd,z.d0,z.d1,z.rem⟩
theorem rem_cons {E:CE} {C:CC} {d:Int} {ix a0:Option Nat} {it:Bs×Bs} (hl:¬ lim C d) (h:hQ E C.back ix=it::hQ E C.back a0):remL E C d ix=it::remL E C (d+1) a0:=by
 unfold remL;split
 ·rename_i hm
  have hd:d<C.most:=by
   by_cases h2:C.most≤d
   ·exact absurd ⟨hm,h2⟩ hl
   ·omega
  obtain ⟨k,hk⟩:∃ k:Nat,(C.most-d).toNat=k+1:=⟨(C.most-d).toNat-1,oM⟩
  rw [hk,show (C.most-(d+1)).toNat=k by omega,h,List.take_succ_cons]
 ·exact h
theorem rem_nil {E:CE} {C:CC} {d:Int} {ix:Option Nat} (h:lim C d∨hQ E C.back ix=[]):remL E C d ix=[]:=by
 unfold remL;rcases h with h|h
 ·rw [if_pos h.1,show (C.most-d).toNat=0 by have:=h.2;omega,List.take_zero]
 ·rw [h];split<;>simp
theorem citems_c (cb:Nat) (w:World) :
  Calls Tryz.prog 56 #[.pointer (some ⟨cb,0,none⟩)] w (Ret λ v w'=>∃ b1,v=.func (.func 134) #[] #[.pointer (some ⟨b1,0,none⟩)]∧w.heap.size≤b1∧Blk w' b1 97 [.pointer (some ⟨cb,0,none⟩)]∧Grow w w'):=by
 refine V.calls (args:=[_]) Tryz.func56 rfl Tryz.ntmps56 rfl rfl ?_;repeat (first|(refine mW ?_;refine TL.makeFunc (xs:=[]) (cs:=[_]) rfl rfl rfl ?_)|refine yA ?_|refine yI λ bk w' hg f0 e0 a0=>?_)
 exact bA rfl ⟨_,rfl,_,rfl,oM,yB,yG⟩
theorem cznext_c {w:World} {C:CC} {cb:Nat} {E:CE} {d:Int} {pv:Value} {fs:List (Nd×Int)} {ix:Option Nat} {rm:bT} (z:Cz w C cb E d pv fs ix rm) :
  Calls Tryz.prog 57 #[.pointer (some ⟨cb,0,none⟩)] w (Ret λ v w'=>∃ a1 n1 c1 a2 n2 c2 e,v=.tuple #[.agg #[.slice a1 n1 c1,.slice a2 n2 c2],.int .i64 e] ∧
   ((e=0∧∃ it r pv' a0 f0,rm=it::r∧it∈E.al∧Cz w' C cb E (d+1) pv' a0 f0 r∧CuTo cb pv pv' w w'∧Sl (λ k=>w.heap.size≤k∧pv'.ownBlock≠some k) w' 1 a1 n1 c1 (bB it.1)∧Sl (λ k=>w.heap.size≤k∧pv'.ownBlock≠some k) w' 1 a2 n2 c2 (bB it.2)) ∨
    (e=6∧rm=[]∧∃ pv' a0,Cz w' C cb E d pv' a0 ix []∧CuTo cb pv pv' w w'))):=by
 refine Calls.mono (cnext_c z.ok z.cu z.at_ z.bd ⟨z.d0,by have:=z.d1;omega⟩) λ y w' hy=>hy.mono λ v w' ⟨pv',a0,f0,d',u1,u2,e,hv,i0,g0,k0,j0,l0⟩=>?_;rcases l0 with ⟨rfl,hl,it,hr,hm,rfl,⟨a1,n1,c1,rfl,h1⟩,⟨a2,n2,c2,rfl,h2⟩⟩|⟨rfl,h0,rfl,rfl,rfl,rfl⟩
 ·have e0:=rem_cons hl hr;refine ⟨a1,n1,c1,a2,n2,c2,0,hv,.inl ⟨rfl,it,remL E C (d+1) f0,pv',a0,f0,by rw [← z.rem,e0],hm,⟨i0,z.ok.go (z.cu.carry g0),k0,j0,by have:=z.d0;omega,?_,rfl⟩,g0,h1,h2⟩⟩;have:=z.d1;rw [← z.rem,e0,List.length_cons] at this;omega
 ·have e0:rm=[]:=by rw [← z.rem];exact rem_nil h0
  exact ⟨none,0,0,none,0,0,6,hv,.inr ⟨rfl,e0,pv',a0,⟨i0,z.ok.go (z.cu.carry g0),k0,j0,z.d0,by have:=z.d1;rw [e0] at this;exact this,rem_nil h0⟩,g0⟩⟩
theorem cyield_c (l b1 cb:Nat) (C:CC) (E:CE) (J:bT→Value→World→Prop) (Fin:bT→World→Prop)
  (i0:∀ rm pv w,J rm pv w→Blk w b1 97 [.pointer (some ⟨cb,0,none⟩)]∧∃ d fs ix,Cz w C cb E d pv fs ix rm)
  (a0:∀ it rm pv w,J (it::rm) pv w→∀ w' d' pv' f0 g0 a1 n1 c1 a2 n2 c2,it∈E.al→Cz w' C cb E d' pv' f0 g0 rm→CuTo cb pv pv' w w'→Sl (λ k=>w.heap.size≤k∧pv'.ownBlock≠some k) w' 1 a1 n1 c1 (bB it.1)→Sl (λ k=>w.heap.size≤k∧pv'.ownBlock≠some k) w' 1 a2 n2 c2 (bB it.2) →
   Yld Tryz.prog l [.agg #[.slice a1 n1 c1,.slice a2 n2 c2]] w' (λ v o0=>(v=.bool true∧J rm pv' o0)∨(v=.bool false∧Fin rm o0)))
  (m0:∀ pv w,J [] pv w→∀ w' d' pv' f0 g0,Cz w' C cb E d' pv' f0 g0 []→CuTo cb pv pv' w w'→Fin [] w')
  (rm:bT) (pv:Value) (w:World) (h0:J rm pv w) :
  Calls Tryz.prog 134 #[.func (.yield l) #[] #[],.pointer (some ⟨b1,0,none⟩)] w (Ret λ _ w'=>∃ rm',Fin rm' w'):=by
 refine V.calls (args:=[_,_]) Tryz.func134 rfl Tryz.ntmps134 rfl rfl ?_;obtain ⟨p0,-⟩:=i0 rm pv w h0;repeat (first|(refine iR 208 ?_;refine TL.eqFnNil rfl rfl rfl ?_)|refine yC ?_)
 refine aX (S:=bT×Value) (λ q=>[(1,.pointer (some ⟨b1,0,none⟩)),(0,.func (.yield l) #[] #[])]) (λ q w1=>J q.1 q.2 w1) (λ q=>q.1.length) (rm,pv) ⟨rfl,rfl,trivial⟩ h0 ?_;clear h0 p0;clear rm w pv;rintro ⟨rm,pv⟩ w hJ;simp only at hJ;obtain ⟨p0,d,fs,ix,z⟩:=i0 rm pv w hJ;repeat refine aF ?_
 refine aB 57 ?_;refine aA rfl (cznext_c z) rfl ?_;rintro _ w2 ⟨a1,n1,c1,a2,n2,c2,e,rfl,q0⟩;rcases q0 with ⟨rfl,it,r,pv',f0,g0,rfl,hm,z2,j0,h1,h2⟩|⟨rfl,rfl,pv',f0,z2,j0⟩
 ·repeat (first|refine aF ?_|refine yI λ bk w' hg n0 l0 k0=>?_|refine yJ λ w' hu n0 l0=>?_)
  have e0:Grow w2 w':=aH hu oM hg;have hy:=a0 it r pv w hJ w' _ pv' f0 g0 a1 n1 c1 a2 n2 c2 hm (z2.grow e0) (j0.trans (CuTo.grow e0)) (h1.grow e0) (h2.grow e0);refine TL.yield rfl rfl hy rfl ?_;rintro v w7 (⟨rfl,s0⟩|⟨rfl,t0⟩)
  ·repeat refine aF ?_
   exact aE (r,pv') ⟨rfl,rfl,trivial⟩ s0 sM
  ·repeat refine aF ?_
   exact eF (vs:=[]) rfl rfl ⟨_,rfl,r,t0⟩
 ·repeat (first|refine aF ?_|refine yI λ bk w' hg n0 l0 k0=>?_|refine yJ λ w' hu n0 l0=>?_)
  have e0:Grow w2 w':=aH hu oM hg;exact eF (vs:=[]) rfl rfl ⟨_,rfl,[],m0 pv w hJ w' _ pv' f0 ix (z2.grow e0) (j0.trans (CuTo.grow e0))⟩
def lU (l:bT) (fr to:Bs) (back:Bool) (most:Int):bT:=if 0<most then (lW l fr to back).take most.toNat else lW l fr to back
theorem Cz.buts {w w':World} {C:CC} {cb:Nat} {E:CE} {d:Int} {pv:Value} {fs:List (Nd×Int)} {ix:Option Nat} {rm:bT} {S:Nat→Prop} (z:Cz w C cb E d pv fs ix rm) (b:ButS S w w') (hS:∀ k,S k→(k<C.lo∨cb<k)∧pv.ownBlock≠some k):Cz w' C cb E d pv fs ix rm:=by
 have c:Carry (λ k=>C.lo≤k∧k<cb) w (λ k=>C.lo≤k∧k<cb) w':=Carry.buts b (λ k hk _ hs=>by have:=(hS k hs).1;omega);have a0:C.lo≤cb:=by obtain ⟨_,_,_,_,_,h3,_⟩:=z.ok.wlk;omega
 obtain ⟨cs,h1,h2⟩:=z.cu.row;exact ⟨⟨bX z.cu.blk b (λ e=>by have:=(hS _ e).1;omega),cs,cB h1 (λ k hk hv=>b.block k (aR h1 hv).2 (λ e=>(hS k e).2 hv)),h2.go c⟩,z.ok.go c,z.at_,z.bd,z.d0,z.d1,z.rem⟩
theorem crange_c {w:World} {L:PL} {g:Pg} (hp:PgW w L g) {q0:Option Nat} {lv:Nat} {l:bT} {ps:List Nat} (ht:TrAt g q0 lv l ps) (k4:lv≤15) (hl:l.length≤1000) (c5:∀ x∈l,fK x.1∧fK x.2) (G:Nat→Prop) (fa ta:Option Addr) (fn fc tn tc:Nat) (fr to:Bs) (back:Bool) (h0:Int) (hf:Sl G w 1 fa fn fc (bB fr)) (e0:Sl G w 1 ta tn tc (bB to)) (y4:fr.length≤16) (a4:to.length≤16) (hm:0≤h0∧h0≤9223372036854775807) :
  Calls Tryz.prog 54 #[.pointer (some ⟨L.p,0,none⟩),.int .i64 (dS q0),.agg #[.slice fa fn fc,.slice ta tn tc,.bool back,.int .i64 h0]] w (Ret λ v w'=>(∃ a n c,v=.tuple #[.slice a n c,.int .i64 0]∧ItsAt (λ k=>w.heap.size≤k) w' a n c (lU l fr to back h0))∧Grow w w'):=by
 refine V.calls (args:=[_,_,_]) Tryz.func54 rfl Tryz.ntmps54 rfl rfl ?_;repeat (first|refine aF ?_|refine yI λ bk w' hg n0 s0 o0=>?_)
 have u4:=hg;refine aB 55 ?_;refine aA rfl (copen_c (hp.grow hg) ht k4 hl c5 G fa ta fn fc tn tc fr to back h0 (hf.grow hg) (e0.grow hg) y4 a4 hm) rfl ?_;rintro _ w2 ⟨cb,C,E,pv,fs,ix,rfl,h6,j2,h4,k5,d5,e4,rfl,rfl,rfl,rfl,rfl,_,i3⟩;have u0:=hg.trans i3;have a5:w.heap.size≤cb:=by have:=hg.size;omega
 have d6:(lW E.al E.fr E.to C.back).length≤E.al.length:=by
  unfold lW;refine Nat.le_trans (List.length_filter_le _ _) ?_;split<;>simp
 have u1:remL E C 0 ix=lU E.al E.fr E.to C.back C.most:=by
  unfold remL lU;rw [e4,Int.sub_zero]
 have d4:(lU E.al E.fr E.to C.back C.most).length≤1000:=by
  unfold lU;split
  ·rw [List.length_take];omega
  ·omega
 have z:Cz w2 C cb E 0 pv fs ix (lU E.al E.fr E.to C.back C.most):=⟨j2,h4,k5,d5,Int.le_refl _,oM,u1⟩
 have z2:=u0.size;clear n0 hg i3 s0 o0;repeat (first|refine T.seqR ?_|refine yC ?_|refine yI λ bk w' hg n0 s0 o0=>?_)
 obtain ⟨f0,rfl⟩:=yE bk;have d2:Grow w2 w':=hg;have u2:Blk w' f0 54 [.slice none 0 0]:=n0;have v5:w2.heap.size≤f0∧f0<w'.heap.size:=by have:=u2.lt;omega
 refine aB 56 ?_;refine aA rfl (citems_c cb _) rfl ?_;rintro _ w3 ⟨b1,rfl,h5,k3,f2⟩;have j5:=k3.lt;have z3:=f2.size;repeat refine aF ?_
 refine iI (T2.range (ps:=[24]) (lb:=[_]) rfl (Nat.zero_le _) rfl ?_);intro rc w4 m4 c4 e2 h3 m3;obtain ⟨D,hD⟩:∃ D,D=w3.heap.size:=⟨_,rfl⟩
 rw [← hD] at h3 m3 c4 ⊢;have v0:=d2.trans (f2.trans e2);have z1:=u0.trans v0;have o1:=(u2.grow f2).grow e2;have r2:=k3.grow e2;have z4:=z.grow v0;have f4:∀ k,pv.ownBlock=some k→k<f0:=λ k e=>by have:=(j2.own e).2;omega
 have g6:=j2.lt;obtain ⟨y0,r1⟩:∃ t,t=lU E.al E.fr E.to C.back C.most:=⟨_,rfl⟩
 rw [← r1] at z4 d4 ⊢
 refine Calls.mono (cyield_c (D+1) b1 cb C E (λ rm pv w'=>Blk w' b1 97 [.pointer (some ⟨cb,0,none⟩)]∧(∃ d fs ix,Cz w' C cb E d pv fs ix rm)∧(∀ k,pv.ownBlock=some k→k<f0∨D+1<k)∧(∃ told gv cs,told++rm=y0∧Blk w' f0 54 [gv]∧w'.ownsRow (D+2) 58 2 gv told.length cs∧ItCells (λ k=>(D+1<k∧pv.ownBlock≠some k)∧gv.ownBlock≠some k) w' cs told∧∀ k,gv.ownBlock=some k→pv.ownBlock≠some k)∧w'.heap[D+1]? = some (.loop (rc .ready none))∧w'.heap[D]? = some (.deferred (some []))∧Grow w w')
  (λ rm w'=>(∃ gv cs,Blk w' f0 54 [gv]∧w'.ownsRow (D+2) 58 2 gv y0.length cs∧ItCells (λ k=>D+1<k) w' cs y0)∧w'.heap[D+1]? = some (.loop (rc .ready none))∧w'.heap[D]? = some (.deferred (some []))∧Grow w w') (λ rm pv w' h=>⟨h.1,h.2.1⟩) ?_ ?_ y0 pv _ ?_) ?_
 ·rintro it rm pv w5 ⟨q1,q2,q3,⟨told,gv,cs,g1,g2,g3,g4,g5⟩,q5,q6,q7⟩ w6 d' pv' m5 t3 a1 n1 c1 a2 n2 c2 i4 hz e0 h1 h2;have l1:=q1.lt;have l4:=g2.lt;have l5:=(Array.getElem?_eq_some_iff.1 q5).1;have l6:=(Array.getElem?_eq_some_iff.1 q6).1
  have a0:∀ k,f0≤k→k≤D+1→¬ (k=cb∨pv.ownBlock=some k):=λ k s4 q4 e=>by
   rcases e with e|e
   ·omega
   ·rcases q3 k e with e|e<;>omega
  have z6:=e0.but.size;have p1:=bX q1 e0.but (a0 b1 oM oM);have p2:=bX g2 e0.but (a0 f0 oM oM);have p5:w6.heap[D+1]? = some (.loop (rc .ready none)):=(e0.but.block _ l5 (a0 _ oM oM)).trans q5;have p6:w6.heap[D]? = some (.deferred (some [])):=(e0.but.block _ l6 (a0 _ oM oM)).trans q6
  have p3:∀ k,pv'.ownBlock=some k→k<f0∨D+1<k:=λ k e=>by
   rcases e0.own k e with e|e
   ·exact q3 k e
   ·omega
  have p7:Grow w w6:=gD q7 e0.but (λ k hk=>by
   rcases hk with e|e
   ·omega
   ·obtain ⟨_,_,_,z5⟩:=q2
    have:=(z5.cu.own e).1;omega)
  have r3:w6.ownsRow (D+2) 58 2 gv told.length cs:=cB g3 (λ k hk hv=>e0.but.block k (aR g3 hv).2 (λ e=>by
   rcases e with e|e
   ·omega
   ·exact g5 k hv e))
  have o3:∀ k,gv.ownBlock=some k→pv'.ownBlock≠some k:=λ k hv e=>by
   have:=(aR g3 hv).2;rcases e0.own k e with e|e
   ·exact g5 k hv e
   ·omega
  have r4:ItCells (λ k=>(D+1<k∧pv'.ownBlock≠some k)∧gv.ownBlock≠some k) w6 cs told:=g4.go ⟨e0.but.size,λ k hk hl=>⟨⟨⟨hk.1.1,λ e=>by
   rcases e0.own k e with e|e
   ·exact hk.1.2 e
   ·omega⟩,hk.2⟩,e0.but.block k hl (λ e=>by
    rcases e with e|e
    ·have:=hk.1.1;omega
    ·exact hk.1.2 e)⟩⟩
  have s1:Sl (λ k=>(D+1<k∧pv'.ownBlock≠some k)∧gv.ownBlock≠some k) w6 1 a1 n1 c1 (bB it.1):=h1.go (Carry.mono λ k hk _=>⟨⟨oM,hk.2⟩,λ e=>by have:=(aR g3 e).2;omega⟩);have s2:Sl (λ k=>(D+1<k∧pv'.ownBlock≠some k)∧gv.ownBlock≠some k) w6 1 a2 n2 c2 (bB it.2):=h2.go (Carry.mono λ k hk _=>⟨⟨oM,hk.2⟩,λ e=>by have:=(aR g3 e).2;omega⟩);have w1:pv'.ownBlock≠some f0:=λ e=>by rcases p3 _ e with e|e<;>omega
  have f3:pv'.ownBlock≠some (D+1):=λ e=>by rcases p3 _ e with e|e<;>omega
  have y3:told.length≤1000:=by have:=congrArg List.length g1;rw [List.length_append] at this;omega
  refine yld_of m4 p5 rfl rfl λ I=>?_;repeat (first|refine aF ?_|refine yI λ bk w' hg n0 s0 o0=>?_|refine yJ λ w' hu n0 s0=>?_)
  have m0:Grow w6 w':=aH hu oM hg;have m1:Blk w' bk 58 [.slice a1 n1 c1,.slice a2 n2 c2]:=n0;have qk:w6.heap.size≤bk∧bk<w'.heap.size:=by have:=m1.lt;omega
  obtain ⟨t5,rfl⟩:=yE w';have d3:=hz.grow m0;clear n0 hu hg;refine ⟨(m0.block _ oM).trans p5,λ w7 k0 n4=>?_⟩;have x1:=(p1.grow m0).upd k0 oM;have x2:=(p2.grow m0).upd k0 oM;have s5:=m1.upd k0 oM;have x3:=cB (aO r3 m0) (w':=w7) (λ k hk hv=>k0.block k oM);have cx:Carry (λ k=>(D+1<k∧pv'.ownBlock≠some k)∧gv.ownBlock≠some k) w6 (λ k=>(D+1<k∧pv'.ownBlock≠some k)∧gv.ownBlock≠some k) w7:=(Carry.grow m0).trans (Carry.upd k0 (λ k hk _=>by have:=hk.1.1;omega));have x4:=r4.go cx;have y1:=s1.go cx;have y2:=s2.go cx;have xz:=d3.upd k0 oM f3;have xg:Grow w w7:=aH k0 oM (p7.trans m0);have xD:w7.heap[D]? = some (.deferred (some [])):=(k0.block _ oM).trans ((m0.block _ oM).trans p6);have z7:=k0.size;have g0:∀ k,gv.ownBlock=some k→D+2≤k∧k<w7.heap.size:=λ k e=>aR x3 e;obtain ⟨ga,gc,rfl,-⟩:=aM g3;clear k0 m0 p1 p2 m1 r3 r4 s1 s2 hz d3 cx;repeat refine aF ?_
  refine TL.buildSlice rfl rfl rfl rfl rfl ?_;intro b' wa l0 f5 c6 a6 y5;have o2:Blk wa b' 58 [.slice a1 n1 c1,.slice a2 n2 c2]:=f5;have b4:Sl (λ _=>True) wa 2 (some ⟨b',0,none⟩) 1 1 [.slice a1 n1 c1,.slice a2 n2 c2]:=(aU (sz:=2) (m:=1) o2 rfl dM).mono (λ _ _=>trivial);have za:=l0.size;have s3:=aO x3 l0;refine dO (bytes:=48) rfl rfl s3 b4 (by intro u hu;simp only [List.mem_cons,List.not_mem_nil,or_false] at hu;rcases hu with rfl|rfl<;>rfl) (by unfold maxLen;omega) oM oM rfl ?_;intro i6 wb i0 p0 x0;have zb:=p0.size;obtain ⟨j1,f1,rfl,-⟩:=aM i0;have t0:∀ k,k<wa.heap.size→(Value.slice ga told.length gc).ownBlock≠some k→wb.heap[k]? = wa.heap[k]?:=λ k hk e=>p0.block k hk (λ h=>e h.symm);have o5:(Value.slice ga told.length gc).ownBlock≠some f0:=λ e=>by have:=g0 _ e;omega
  have e1:(Value.slice ga told.length gc).ownBlock≠some b1:=λ e=>by have:=g0 _ e;omega
  have eD:(Value.slice ga told.length gc).ownBlock≠some D:=λ e=>by have:=g0 _ e;omega
  have n5:(Value.slice ga told.length gc).ownBlock≠some (D+1):=λ e=>by have:=g0 _ e;omega
  have r5:=cJ (x2.grow l0) (t0 f0 oM o5);repeat (first|refine aF ?_|refine yJ λ w' hu n0 s0=>?_)
  have j3:ButS (λ k=>(Value.slice ga told.length gc).ownBlock=some k) wa wb:=⟨p0.os,p0.tape,p0.output,p0.size,t0⟩
  have zz:=(xz.grow l0).buts j3 (λ k hk=>⟨by have:=(g0 k hk).1;omega,o3 k hk⟩);have u3:=(xz.grow l0).cu
  have gd:∀ k,(Value.slice j1 (told.length+1) f1).ownBlock=some k→pv'.ownBlock≠some k:=λ k h1 h2=>by
   have o4:=(u3.own h2).2;have p4:(Value.slice ga told.length gc).ownBlock≠some k:=λ e=>o3 k e h2;exact ((x0 (λ _=>True)).blk k ⟨trivial,p4⟩ o4).1.2 h1
  have cI:=(Carry.grow l0:Carry (λ k=>(D+1<k∧pv'.ownBlock≠some k)∧(Value.slice ga told.length gc).ownBlock≠some k) w7 _ wa).trans (x0 (λ k=>D+1<k∧pv'.ownBlock≠some k))
  have t4:ItCells (λ k=>(D+1<k∧pv'.ownBlock≠some k)∧(Value.slice j1 (told.length+1) f1).ownBlock≠some k) wb (cs++[.slice a1 n1 c1,.slice a2 n2 c2]) (told++[it]) :=
   ItCells.append (x4.go cI) ⟨⟨_,_,_,rfl,y1.go cI⟩,⟨_,_,_,rfl,y2.go cI⟩,trivial⟩
  have f6:=λ k (e:(Value.slice j1 (told.length+1) f1).ownBlock=some k)=>(aR i0 e).1;refine ⟨?_,λ wz j0 j4=>.inl ⟨rfl,?_,⟨_,_,_,(zz.upd hu oM w1).upd j0 oM f3⟩,p3,⟨told++[it],.slice j1 (told.length+1) f1,cs++[.slice a1 n1 c1,.slice a2 n2 c2],by rw [List.append_assoc];exact g1,n0.upd j0 oM,?_,?_,gd⟩,j4,?_,?_⟩⟩
  ·rw [hu.block _ oM,t0 _ oM n5,l0.block _ oM];exact n4
  ·exact ((cJ (x1.grow l0) (t0 b1 oM e1)).upd hu oM).upd j0 oM
  ·rw [List.length_append];exact cB (cB i0 (w':=w') (λ k hk hv=>hu.block k oM)) (λ k hk hv=>j0.block k oM)
  ·exact (t4.go (Carry.upd hu (λ k hk _=>by have:=hk.1.1;omega))).go (Carry.upd j0 (λ k hk _=>by have:=hk.1.1;omega))
  ·rw [j0.block _ oM,hu.block _ oM,t0 _ oM eD,l0.block _ oM];exact xD
  ·exact aH j0 oM (aH hu oM (gD (xg.trans l0) j3 (λ k hk=>by have:=(g0 k hk).1;omega)))
 ·rintro pv w5 ⟨q1,q2,q3,⟨told,gv,cs,g1,g2,g3,g4,g5⟩,q5,q6,q7⟩ w6 d' pv' m5 t3 hz e0;have l4:=g2.lt;have l5:=(Array.getElem?_eq_some_iff.1 q5).1;have l6:=(Array.getElem?_eq_some_iff.1 q6).1
  have a0:∀ k,f0≤k→k≤D+1→¬ (k=cb∨pv.ownBlock=some k):=λ k s4 q4 e=>by
   rcases e with e|e
   ·omega
   ·rcases q3 k e with e|e<;>omega
  have p2:=bX g2 e0.but (a0 f0 oM oM);rw [List.append_nil] at g1;subst g1
  refine ⟨⟨gv,cs,p2,cB g3 (λ k hk hv=>e0.but.block k (aR g3 hv).2 (λ e=>by
   rcases e with e|e
   ·omega
   ·exact g5 k hv e)),g4.go ⟨e0.but.size,λ k hk hl=>⟨hk.1.1,e0.but.block k hl (λ e=>by
    rcases e with e|e
    ·have:=hk.1.1;omega
    ·exact hk.1.2 e)⟩⟩⟩,(e0.but.block _ l5 (a0 _ oM oM)).trans q5,(e0.but.block _ l6 (a0 _ oM oM)).trans q6,gD q7 e0.but (λ k hk=>by
   rcases hk with e|e
   ·omega
   ·obtain ⟨_,_,_,z5⟩:=q2
    have:=(z5.cu.own e).1;omega)⟩
 ·exact ⟨r2,⟨_,_,_,z4⟩,λ k e=>.inl (f4 k e),⟨[],.slice none 0 0,[],rfl,o1,World.ownsRow_nil _ _ _ _,trivial,λ k e=>by cases e⟩,h3,m3,z1⟩
 ·rintro _ w5 ⟨v,rfl,u5,⟨gv,cs,g2,g3,g4⟩,q5,q6,q7⟩;obtain ⟨ga,gc,rfl,v4⟩:=aM g3;refine ⟨v,rfl,q6,.inl ⟨q5,λ I w6 z0=>?_⟩⟩;have x5:=g2.upd z0 oM;repeat refine aF ?_
  refine ⟨?_,λ wz j0=>?_⟩
  ·rw [z0.block _ oM];exact q6
  ·have cc:Carry (λ k=>D+1<k) w5 (λ k=>w.heap.size≤k) wz:=(Carry.upd z0 (λ k hk _=>by omega)).trans ((Carry.upd j0 (λ k hk _=>by omega)).trans (Carry.mono λ k hk _=>by omega));exact fJ rfl rfl ⟨_,rfl,⟨ga,_,gc,rfl,⟨cs,(v4.mono (λ k hk=>by have:=hk.1;omega)).go cc,g4.go cc⟩⟩,aH j0 oM (aH z0 oM q7)⟩
end Go.Proofs.YtfpadnmdafiddaaGreatDoor
