import Derived.Test.YtfpadnmdafiddaaGreatDoorP0
import Derived.Test.YtfpadnmdafiddaaGreatDoorPn
import Derived.Test.YtfpadnmdafiddaaGreatDoorPh
import Derived.Test.YtfpadnmdafiddaaGreatDoorPd
import Derived.Test.YtfpadnmdafiddaaGreatDoorPm
import Derived.Test.YtfpadnmdafiddaaGreatDoorPl
import Derived.Test.YtfpadnmdafiddaaGreatDoorPb
import Derived.Shelf.SlIterI.Sorted
import Derived.Shelf.SortM.Plain
import Derived.Shelf.SortM.SortNone
set_option linter.all false
set_option maxHeartbeats 16000000
set_option maxRecDepth 100000
namespace Go.Proofs.YtfpadnmdafiddaaGreatDoor
open Go Go.RowKit Go.V
theorem own_full {w:World} {base el sz b c:Nat} {xs:List Value} (h:w.ownsRow base el sz (.slice (some ⟨b,0,none⟩) c c) c xs):base≤b∧Blk w b el xs:=by
 obtain ⟨hl,h|⟨g,e0,a0,e,h1,h2,h3,h4,h5,h6⟩⟩:=h
 ·cases h.1
 ·cases e;refine ⟨h1,?_⟩;unfold Blk;rw [List.take_of_length_le (by simp;omega)] at h6;rw [← h6];simpa using h2
theorem usedL_cons (g:Pg) (i:Nat):(List.range (i+1)).filter (λ n=>bK g n)=(List.range i).filter (λ n=>bK g n)++if bK g i then [i] else []:=by
 rw [List.range_succ,List.filter_append];congr 1
 cases h:bK g i<;>simp [h]
theorem rused_c {K:Nat→Prop} {w:World} {R:RL} {g:Pg} (h:RfAt K w R g) :
  Calls Tryz.prog 38 #[.pointer (some ⟨R.p,0,none⟩)] w (Ret λ v w'=>w'.ownsRow w.heap.size 3 1 v (usedL g).length (bC (usedL g))∧Grow w w'):=by
 have s0:=h.cnt;refine V.calls (args:=[_]) Tryz.func38 rfl Tryz.ntmps38 rfl rfl ?_;repeat refine aF ?_
 refine aX (S:=Value×Nat) (λ q=>[(4,.int .i64 (q.2:Int)),(3,q.1),(0,.pointer (some ⟨R.p,0,none⟩))])
  (λ q w2=>q.2≤g.count∧w2.ownsRow w.heap.size 3 1 q.1 ((List.range q.2).filter λ n=>bK g n).length (bC ((List.range q.2).filter λ n=>bK g n))∧Grow w w2)
  (λ q=>g.count-q.2) (.slice none 0 0,0) ⟨rfl,rfl,rfl,trivial⟩ ⟨Nat.zero_le _,World.ownsRow_nil _ _ _ _,Grow.refl _⟩ ?_
 rintro ⟨v,i⟩ w2 ⟨hi,e0,i0⟩;simp only at hi e0;have h2:=h.grow i0;have hb:=h2.blk;have k0:=us_sl h2.used s0;have z2:=i0.size;by_cases h0:i<g.count
 ·have f0:w2.cell? (at' (some ⟨R.u,0,none⟩) i)=some (.bool (bK g i)):=k0.row.cell (us_at h0);have a0:=usedL_cons g i;have n0:((List.range i).filter λ n=>bK g n).length≤i:=Nat.le_trans (List.length_filter_le _ _) sM
  cases hu:bK g i with
  | false =>
   rw [hu] at f0 a0;simp only [Bool.false_eq_true,if_false,List.append_nil] at a0;repeat (first|(refine aI ?_;refine aC (j:=i) rfl rfl rfl h0 (Nat.mul_one _) ⟨_,_,k0⟩ rfl ?_)|refine yC ?_)
   exact aE (v,i+1) ⟨rfl,rfl,rfl,trivial⟩ ⟨h0,by simp only;rw [a0];exact e0,i0⟩ (by simp only;omega)
  | true =>
   rw [hu] at f0 a0;simp only [if_true] at a0;repeat (first|(refine aI ?_;refine aC (j:=i) rfl rfl rfl h0 (Nat.mul_one _) ⟨_,_,k0⟩ rfl ?_)|refine yC ?_)
   refine TL.buildSlice rfl rfl rfl rfl rfl ?_;intro b' wa j0 t0 v0 u0 m0;have l0:Sl (λ _=>True) wa 1 (some ⟨b',0,none⟩) 1 1 (bC [i]):=(aU (sz:=1) (m:=1) t0 m0 dM).mono (λ _ _=>trivial);have q0:=j0.size;refine TL.append rfl rfl (aO e0 j0) l0 (gC _) (by unfold maxLen;omega) oM oM rfl ?_;intro v' wb g0 p0 _;have o0:Grow w wb:=grow_own (i0.trans j0) (aO e0 j0) p0;repeat refine aF ?_
   refine aE (v',i+1) ⟨rfl,rfl,rfl,trivial⟩ ⟨h0,?_,o0⟩ (by simp only;omega);simp only;rw [a0,List.length_append];have e:bC (((List.range i).filter λ n=>bK g n)++[i])=bC ((List.range i).filter λ n=>bK g n)++bC [i]:=by simp [bC]
   rw [e];exact g0
 ·obtain rfl:i=g.count:=by omega
  repeat refine aF ?_
  exact bA rfl ⟨_,rfl,e0,i0⟩
theorem rspare_c {K:Nat→Prop} {w:World} {R:RL} {g:Pg} (h:RfAt K w R g) :
  Calls Tryz.prog 106 #[.pointer (some ⟨R.p,0,none⟩)] w (Ret λ v w'=>v=.int .i64 (cC g:Int)∧Grow w w'):=by
 have k0:=h.cnt;have hb:=h.blk;have i0:=nA g;refine V.calls (args:=[_]) Tryz.func106 rfl Tryz.ntmps106 rfl rfl ?_;repeat refine aF ?_
 apply T.any 8 [is (.pointer (some ⟨R.p,0,none⟩)),is (.pointer (some ⟨R.p,0,none⟩)),is (.pointer (some ⟨R.p,1,none⟩)),is (.slice (some ⟨R.u,0,none⟩) g.count g.count),is (.int .i64 (g.count:Int)),is (.pointer (some ⟨R.p,0,none⟩)),own w.heap.size 3 1 (usedL g).length (bC (usedL g)),is (.int .i64 ((usedL g).length:Int))]
 ·rfl
 ·repeat' (first|exact aN|refine aK ?_ ?_)
  iterate 6
   ·refine yQ λ wq _ _ f0=>?_;repeat refine aF ?_
    exact aD rfl yG rfl
  ·refine yQ λ wq _ _ f0=>?_;have hq:=f0.size;refine aB 38 ?_;refine aA rfl (rused_c (h.grow f0)) rfl ?_;rintro v5 w5 ⟨a0,g0⟩;repeat refine aF ?_
   exact aD rfl yG (eB a0 hq)
  ·(((refine bW rfl rfl rfl ?_);( intro wq _ _ f0;(repeat (refine aJ rfl rfl ?_;intro vq e0;try (obtain rfl:=e0)));(refine aZ ?_))))
   obtain ⟨a,c,rfl,_⟩:=aM e0;repeat refine aF ?_
   exact aD rfl yG rfl
 intro w5 h0 j0 g0 _ _;((((repeat (refine aJ rfl rfl ?_;intro vq e0;try (obtain rfl:=e0)));(refine aZ ?_))))
 rw [usedL_len];repeat refine aF ?_
 refine bA rfl ⟨_,rfl,rfl,g0⟩
theorem us_keep {g:Pg} (a0:PgOk g) {qs:List Nat} (hq:∀ q∈qs,bK g q=true):us (hX g qs)=(List.range g.count).map λ n=>.bool (decide (n∈qs)):=by
 unfold us;show (List.range g.count).map _=_;apply List.map_congr_left;intro n _;rw [jX a0 hq]
def mkU (c:Nat) (l:List Nat):List Value:=(List.range c).map λ n=>.bool (decide (n∈l))
theorem length_mkU (c:Nat) (l:List Nat):(mkU c l).length=c:=by simp [mkU]
theorem mkU_set {c q:Nat} {l:List Nat} (h:q<c):(mkU c l).set q (.bool true)=mkU c (l++[q]):=by
 apply List.ext_getElem?;intro i;rw [List.getElem?_set];by_cases hi:q=i
 ·subst hi;rw [if_pos rfl,if_pos (by rw [length_mkU];exact h)];simp [mkU,h]
 ·rw [if_neg hi];simp only [mkU,List.getElem?_map,List.mem_append,List.mem_singleton];by_cases a0:i<c
  ·have:i≠q:=λ e=>hi e.symm;simp [a0,this]
  ·simp [a0]
theorem mkU_zero (c:Nat):(madeCells (Value.bool false).cells (c*1)).toList=mkU c []:=by
 have h0:∀ i:Nat,(Value.bool false).cells[i%(Value.bool false).cells.size]! = .bool false:=by
  intro i;rw [show i%(Value.bool false).cells.size=0 from Nat.mod_one i];rfl
 simp only [mkU,madeCells,Nat.mul_one,Array.toList_map,Array.toList_range,h0];simp
theorem rkeep_c {K F:Nat→Prop} {w:World} {R:RL} {g:Pg} (h:RfAt K w R g) {a:Option Addr} {n c:Nat} {qs:List Nat} (hs:Sl F w 1 a n c (bC qs)) (hF:∀ k,F k→k<w.heap.size) (hq:∀ q∈qs,bK g q=true) :
  Calls Tryz.prog 36 #[.pointer (some ⟨R.p,0,none⟩),.slice a n c] w (Ret λ v w'=>∃ u,w.heap.size≤u∧v=.tuple #[.int .i64 ((fN g:Int)-(fN (hX g qs):Int)),.int .i64 0]∧RfAt (λ k=>K k∧k≠u) w' ⟨R.p,R.d,R.b,R.c,u⟩ (hX g qs)∧ButS (λ k=>k=R.p) w w'):=by
 have g2:=h.cnt;have hb:=h.blk;have hl:=h.lts;have d2:=bR hs;refine V.calls (args:=[_,_]) Tryz.func36 rfl Tryz.ntmps36 rfl rfl ?_;repeat refine aF ?_
 refine TL.isMake ?_;refine jA (c:=g.count) rfl rfl oM (by unfold maxLen;omega) rfl ?_;intro u w1 s1 g0 x0;obtain ⟨e1,a0⟩:=own_full g0;rw [mkU_zero] at a0;have g1:=hs.le;have f1:∀ q∈qs,q<g.count:=λ q hm=>dV (hq q hm);clear g0;repeat refine aF ?_
 refine aX (S:=Nat) (λ i=>[(7,.int .i64 (i:Int)),(6,.slice (some ⟨u,0,none⟩) g.count g.count),(1,.slice a n c),(0,.pointer (some ⟨R.p,0,none⟩))]) (λ i w2=>i≤n∧Blk w2 u 4 (mkU g.count (qs.take i))∧Grow w w2) (λ i=>n-i) 0 ⟨rfl,rfl,rfl,rfl,trivial⟩ ⟨Nat.zero_le _,by simpa using a0,x0⟩ ?_;clear a0 x0;rintro i w2 ⟨hi,a0,h0⟩;have z2:=h0.size;have r1:=a0.lt;by_cases s0:i<n
 ·obtain ⟨q,n0⟩:∃ q,qs[i]? = some q:=⟨_,List.getElem?_eq_getElem oM⟩
  have p0:=List.mem_of_getElem? n0;have m0:=f1 q p0;have f2:w2.cell? (at' a i)=some (.int .i64 (q:Int)):=(hs.grow h0).row.cell (jM n0);have u0:=ris_c (h.grow h0) q oM;rw [hq q p0] at u0;have y0:Sl (λ k=>k=u) w2 1 (some ⟨u,0,none⟩) g.count g.count (mkU g.count (qs.take i)):=aU (sz:=1) (m:=g.count) a0 (by rw [length_mkU,Nat.mul_one]) (by unfold maxLen;omega);repeat (first|(refine aB 117 ?_;refine aA rfl (u0) rfl ?_;rintro _ _ ⟨rfl,rfl⟩)|(refine aI ?_;first|refine aC (j:=i) rfl rfl rfl s0 (Nat.mul_one _) ⟨F,_,hs.grow h0⟩ rfl ?_|(refine aC (j:=q) rfl rfl rfl m0 (Nat.mul_one _) ⟨_,_,y0⟩ rfl ?_;rw [show at' (some ⟨u,0,none⟩) q=⟨u,q,none⟩ by rw [at_some,Nat.zero_add]]))|(refine bZ ?_;refine dR rfl rfl a0 rfl (by rw [length_mkU];exact Nat.ble_eq_true_of_le m0) (mkU_set m0) ?_;intro w3 z0 q1 _)|refine yC ?_)
  refine aE (i+1) ⟨rfl,rfl,rfl,rfl,trivial⟩ ⟨s0,?_,aH z0 oM h0⟩ oM;rw [dZ n0];exact q1
 obtain rfl:i=n:=by omega
 rw [List.take_of_length_le oM] at a0;have q0:=hb.grow h0;repeat refine aF ?_
 refine aB 38 ?_;refine aA rfl (rused_c (h.grow h0)) rfl ?_;rintro v3 w3 ⟨f0,l0⟩;obtain ⟨a3,c3,rfl,_⟩:=aM f0;have z1:=q0.grow l0;have e0:=h0.trans l0;have o0:=a0.grow l0;have z3:=l0.size;clear q0 a0 f0;rw [usedL_len];repeat (first|refine aF ?_|refine yJ λ w' hu o1 y1=>?_)
 have e2:(hX g qs).count=g.count:=rfl;have hz:=hu.size;have k0:=h.ne
 have hR:RfAt (λ k=>K k∧k≠u) w' ⟨R.p,R.d,R.b,R.c,u⟩ (hX g qs):=by
  obtain ⟨cs,j1,m1,i0⟩:=h.cache;have cc:Carry K w (λ k=>K k∧k≠u) w':=⟨oM,λ k hk h1=>⟨⟨hk,oM⟩,(hu.block k (λ e=>h.kne k hk (.inl e))).trans (e0.block k h1)⟩⟩
  refine ⟨o1,(h.dsk.grow e0).upd hu (Ne.symm k0.1),?_,keep_ok h.ok hq,⟨cs,j1,(m1.grow e0).upd hu (Ne.symm k0.2.1),λ k hk=>?_⟩,h.lt,λ k hk=>?_,λ k hk hS=>?_,?_⟩
  ·rw [us_keep h.ok hq];exact o0.upd hu (by show u≠R.p;omega)
  ·rw [jX h.ok hq] at hk;have t0:=hq k (of_decide_eq_true hk);exact ⟨(i0 k t0).1.go cc,(i0 k t0).2.go cc⟩
  ·rw [jX h.ok hq] at hk;exact h.bl k (hq k (of_decide_eq_true hk))
  ·have:=h.kne k hk.1;unfold RL.S at hS this;simp only at hS;omega
  ·exact ⟨k0.1,k0.2.1,by show R.p≠u;omega,k0.2.2.2.1,by show R.d≠u;omega,by show R.c≠u;omega⟩
 refine aB 38 ?_;refine aA rfl (rused_c (R:=⟨R.p,R.d,R.b,R.c,u⟩) hR) rfl ?_;rintro v4 w4 ⟨j0,v0⟩;obtain ⟨a4,c4,rfl,_⟩:=aM j0;rw [usedL_len];have x1:=nA g;have u1:=nA (hX g qs);repeat (first|(refine iQ ?_;refine TL.subI rfl rfl oM oM rfl ?_)|refine yC ?_)
 refine fJ rfl rfl ⟨_,rfl,u,e1,rfl,hR.grow v0,?_⟩;exact ((ButS.grow e0).trans (ButS.but (S:=λ k=>k=R.p) (but_upd hu (But.refl _ _)) rfl)).trans (ButS.grow v0)
theorem made_of (z:Value) (h:z.cells = #[z]) (m:Nat):(madeCells z.cells (m*1)).toList=List.replicate m z:=by
 have h0:∀ x:Nat,z.cells[x%z.cells.size]! = z:=λ x=>by
  rw [h];simp [Nat.mod_one]
 simp only [madeCells,Nat.mul_one,Array.toList_map,Array.toList_range,h0];rw [List.map_const',List.length_range]
def mkS {B:Nat} (el:TypeId) (m:Nat) (cs:List Value):SFact B:={ G:=λ v lo hi w=>∃ b,v=.slice (some ⟨b,0,none⟩) m m∧B≤b∧Blk w b el cs,st:=λ v _ _ w w' g h=>by obtain ⟨b,h1,h2,h4⟩:=h;exact ⟨b,h1,h2,h4.grow g⟩ }
def dskA (B n:Nat) (v:Value) (w:World):Prop:=∃ b c,v=.agg #[.slice (some ⟨b,0,none⟩) (n*256) (n*256),.slice (some ⟨c,0,none⟩) n n]∧B≤b∧B≤c∧Blk w c 30 (List.replicate n (.slice none 0 0))
def dskF {B:Nat} (n:Nat):SFact B:={ G:=λ v _ _ w=>dskA B n v w,st:=λ v _ _ w w' g h=>by obtain ⟨b,c,h1,h2,h3,h4⟩:=h;exact ⟨b,c,h1,h2,h3,h4.grow g⟩ }
def dskP {B:Nat} (n:Nat):SFact B:={ G:=λ v _ _ w=>∃ d b c,v=.pointer (some ⟨d,0,none⟩)∧B≤d∧B≤b∧B≤c∧Blk w d 171 [.slice (some ⟨b,0,none⟩) (n*256) (n*256),.slice (some ⟨c,0,none⟩) n n]∧Blk w c 30 (List.replicate n (.slice none 0 0)),st:=λ v _ _ w w' g h=>by obtain ⟨d,b,c,h1,h2,h3,h4,h5,h6⟩:=h;exact ⟨d,b,c,h1,h2,h3,h4,h5.grow g,h6.grow g⟩ }
theorem rdisk_c (n:Nat) (w:World) (h1:1≤n) (h2:n≤16384) :
  Calls Tryz.prog 31 #[.int .i64 (n:Int)] w (Ret λ v w'=>∃ d b c,v=.tuple #[.pointer (some ⟨d,0,none⟩),.int .i64 0]∧w.heap.size≤d∧w.heap.size≤b∧w.heap.size≤c∧Blk w' d 171 [.slice (some ⟨b,0,none⟩) (n*256) (n*256),.slice (some ⟨c,0,none⟩) n n]∧Blk w' c 30 (List.replicate n (.slice none 0 0))∧Grow w w'):=by
 refine V.calls (args:=[_]) Tryz.func31 rfl Tryz.ntmps31 rfl rfl ?_;repeat refine aF ?_
 apply T.any 7 [is (.int .i64 (n:Int)),is (.int .i64 ((n*256:Nat):Int)),mkS 5 (n*256) (List.replicate (n*256) (.int .u8 0)),is (.int .i64 (n:Int)),mkS 30 n (List.replicate n (.slice none 0 0)),dskF n,dskP n]
 ·rfl
 ·repeat' (first|exact aN|refine aK ?_ ?_)
  ·refine yQ λ wq _ _ a0=>?_;repeat refine aF ?_
   exact aD rfl yG rfl
  ·refine yQ λ wq _ _ a0=>?_;refine TL.mulN (a:=n) (b:=256) rfl rfl oM rfl ?_;repeat refine aF ?_
   exact aD rfl yG rfl
  ·refine yQ λ wq _ _ a0=>?_;refine jA (c:=n*256) (z:=.int .u8 0) rfl rfl oM (by unfold maxLen;omega) rfl ?_;intro b w2 hb e0 k0;obtain ⟨h0,f0⟩:=own_full e0;rw [made_of _ rfl] at f0;have:=f0.lt;repeat refine aF ?_
   exact aD rfl yG ⟨b,rfl,Nat.le_trans a0.size h0,f0⟩
  ·refine yQ λ wq _ _ a0=>?_;repeat refine aF ?_
   exact aD rfl yG rfl
  ·refine yQ λ wq _ _ a0=>?_;refine jA (c:=n) (z:=.slice none 0 0) rfl rfl oM (by unfold maxLen;omega) rfl ?_;intro b w2 hb e0 k0;obtain ⟨h0,f0⟩:=own_full e0;rw [made_of _ rfl] at f0;have:=f0.lt;repeat refine aF ?_
   exact aD rfl yG ⟨b,rfl,Nat.le_trans a0.size h0,f0⟩
  ·refine bW rfl rfl rfl ?_;intro wq _ _ a0;refine aJ rfl rfl ?_;intro v2 h2;refine aJ rfl rfl ?_;intro v4 h4;refine aZ ?_;obtain ⟨b2,rfl,l2,k2⟩:=h2;obtain ⟨b4,rfl,l4,k4⟩:=h4;repeat refine aF ?_
   exact aD rfl yG ⟨b2,b4,rfl,l2,l4,k4⟩
  ·(((refine bW rfl rfl rfl ?_);( intro wq _ _ a0;(repeat (refine aJ rfl rfl ?_;intro vq g0;try (obtain rfl:=g0)));(refine aZ ?_))))
   obtain ⟨b,c,rfl,l2,l4,k4⟩:=g0;have hq:=a0.size;repeat (first|refine aF ?_|refine yI λ bk w' hg l0 n0 i0=>?_)
   exact aD rfl yG ⟨bk,b,c,rfl,oM,l2,l4,l0,yB⟩
 intro w5 m0 o0 j0 _ _;((((repeat (refine aJ rfl rfl ?_;intro vq g0;try (obtain rfl:=g0)));(refine aZ ?_))))
 obtain ⟨d,b,c,rfl,q1,q2,q3,q4,q5⟩:=g0;repeat refine aF ?_
 exact fJ rfl rfl ⟨_,rfl,d,b,c,rfl,q1,q2,q3,q4,q5,j0⟩
instance ptrRDisk:PtrTy Tryz.prog 62:=⟨kR⟩
instance ptrRPages:PtrTy Tryz.prog 65:=⟨kR⟩
theorem us_pg0 (c:Nat):us (pg0 c)=List.replicate c (.bool false):=by
 unfold us;simp only [nE];show (List.range c).map (λ _=>Value.bool false)=_;rw [List.map_const',List.length_range]
theorem ropen_c (c d b cc:Nat) (w:World) (h1:1≤c) (h2:c≤8192) (hd:Blk w d 171 [.slice (some ⟨b,0,none⟩) ((2*c)*256) ((2*c)*256),.slice (some ⟨cc,0,none⟩) (2*c) (2*c)]) (hc:Blk w cc 30 (List.replicate (2*c) (.slice none 0 0))) (m0:d≠cc) :
  Calls Tryz.prog 32 #[.pointer (some ⟨d,0,none⟩),.slice none 0 0] w (Ret λ v w'=>∃ p u,v=.tuple #[.pointer (some ⟨p,0,none⟩),.int .i64 0]∧w.heap.size≤p∧w.heap.size≤u∧(∀ K:Nat→Prop,(∀ k,K k→¬ RL.S ⟨p,d,b,cc,u⟩ k)→RfAt K w' ⟨p,d,b,cc,u⟩ (pg0 c))∧Grow w w'):=by
 refine V.calls (args:=[_,_]) Tryz.func32 rfl Tryz.ntmps32 rfl rfl ?_;repeat (first|(refine aB 103 ?_;refine aA rfl (rsize_c d _ _ (2*c) _ _ hd) rfl ?_;rintro _ _ ⟨rfl,rfl⟩)|(refine iR 62 ?_;refine TL.eqNilP rfl rfl rfl ?_)|refine yC ?_)
 rw [show 2*c / 2=c by omega];refine TL.isMake ?_;refine jA (c:=c) (z:=.bool false) rfl rfl oM (by unfold maxLen;omega) rfl ?_;intro u w2 hu a0 e0;obtain ⟨j0,f0⟩:=own_full a0;rw [made_of _ rfl] at f0;have i0:=f0.lt;clear a0;have l0:=hd.lt;have n0:=hc.lt;have z2:=e0.size;repeat (first|refine aF ?_|refine yI λ bk w' hg h0 k0 g0=>?_)
 refine aX (S:=Nat) (λ _=>[(7,.int .i64 0),(6,.pointer (some ⟨bk,0,none⟩)),(1,.slice none 0 0)]) (λ i w3=>i=0∧w'=w3) (λ i=>i) 0 ⟨rfl,rfl,rfl,trivial⟩ ⟨rfl,rfl⟩ ?_;rintro _ _ ⟨rfl,rfl⟩;repeat refine aF ?_
 refine fJ rfl rfl ⟨_,rfl,bk,u,rfl,oM,oM,λ K hK=>?_,e0.trans hg⟩;refine ⟨h0,?_,by rw [us_pg0];exact f0.grow hg,pg0_ok c h2,⟨_,by rw [List.length_replicate];rfl,(hc.grow e0).grow hg,λ n hn=>(by rw [nE] at hn;cases hn)⟩,λ n x hx=>(by cases hx),λ n hn=>(by rw [nE] at hn;cases hn),hK,?_⟩
 ·rw [show 512*(pg0 c).count=2*c*256 by show 512*c=_;omega];exact (hd.grow e0).grow hg
 ·show bk≠d∧bk≠cc∧bk≠u∧d≠cc∧d≠u∧cc≠u;omega
theorem RfAt.tight {K:Nat→Prop} {w:World} {R:RL} {g:Pg} (h:RfAt K w R g):RfAt (λ k=>K k∧k<w.heap.size) w R g:=by
 obtain ⟨cs,h1,h2,h3⟩:=h.cache;have cc:Carry K w (λ k=>K k∧k<w.heap.size) w:=Carry.mono λ k hk hl=>⟨hk,hl⟩
 exact ⟨h.blk,h.dsk,h.used,h.ok,⟨cs,h1,h2,λ n hn=>⟨(h3 n hn).1.go cc,(h3 n hn).2.go cc⟩⟩,h.lt,h.bl,λ k hk=>h.kne k hk.1,h.ne⟩
theorem rnode_c {K:Nat→Prop} {w:World} {R:RL} {g:Pg} (h:RfAt K w R g) (n:Nat) (nd:Nd) (hn:cD g n=some nd) :
  Calls Tryz.prog 113 #[.pointer (some ⟨R.p,0,none⟩),.int .i64 (n:Int)] w (Ret λ v w'=>∃ x:NV,v=.tuple #[x.val,.int .i64 0]∧NdAt (λ k=>w.heap.size≤k) w' x nd∧Grow w w'):=by
 obtain ⟨m0,z,hz⟩:=nodeP_body h.lt hn;have hu:=dL hn;have o0:=h.bl n hu;refine V.calls (args:=[_,_]) Tryz.func113 rfl Tryz.ntmps113 rfl rfl ?_;repeat (first|refine aF ?_|refine yI λ bk w' hg h0 l0 k0=>?_)
 refine aB 166 ?_;refine aA rfl (rpread_c (h.grow hg) n hu) rfl ?_;rintro _ w2 ⟨u,rfl,a0,g0⟩;obtain ⟨a,c,rfl,hs⟩:=aM a0;have e0:Blk w2 bk 79 nil3:=Blk.grow g0 h0;have j0:=hg.trans g0;have z1:=g0.size;have z2:=j0.size;clear h0 hg g0 a0;repeat refine aF ?_
 refine aB 167 ?_;rw [← o0] at hs ⊢;refine aA rfl (rread_n _ a c nd z (g.body n) _ hz hs oM m0) rfl ?_;rintro _ w3 ⟨x,rfl,n0,f0⟩;have p0:=e0.grow f0;have i0:=j0.trans f0;have z3:=f0.size;clear e0 j0 f0 hs;repeat (first|refine aF ?_|refine yJ λ w' hu h0 l0=>?_)
 exact fL rfl (aW h0 rfl) rfl ⟨_,rfl,x,rfl,(n0.go (Carry.upd hu (λ k hk _=>by omega))).go (Carry.mono λ k hk _=>by omega),aH hu oM i0⟩
theorem rin_no (F:Nat→Prop) (a:Option Addr) (n c:Nat) (l:List Nat) (k:Nat) (w:World) (hs:Sl F w 1 a n c (bC l)) (hk:k∉l) :
  Calls Tryz.prog 209 #[.slice a n c,.int .i64 (k:Int)] w (Ret λ v w'=>v=.bool false∧w=w'):=by
 refine V.calls (args:=[_,_]) Tryz.func209 rfl Tryz.ntmps209 rfl rfl ?_;have hn:=bR hs;have f0:=hs.le;repeat refine aF ?_
 refine aX (S:=Nat) (λ i=>[(5,.int .i64 (i:Int)),(0,.slice a n c),(1,.int .i64 (k:Int))]) (λ i w'=>w=w'∧i≤n) (λ i=>n-i) 0 ⟨rfl,rfl,rfl,trivial⟩ ⟨rfl,Nat.zero_le _⟩ ?_;rintro i _ ⟨rfl,hi⟩;by_cases a0:i<n
 ·obtain ⟨p,hp⟩:∃ p,l[i]? = some p:=⟨_,List.getElem?_eq_getElem oM⟩
  have g0:w.cell? (at' a i)=some (.int .i64 (p:Int)):=hs.row.cell (jM hp);have e0:p≠k:=λ e=>hk (e▸List.mem_of_getElem? hp);repeat (first|(refine aI ?_;refine aC rfl rfl rfl a0 (Nat.mul_one _) ⟨F,_,hs⟩ rfl ?_)|refine yC ?_)
  exact aE (i+1) ⟨rfl,rfl,rfl,trivial⟩ ⟨rfl,oM⟩ oM
 ·repeat refine aF ?_
  exact bA rfl ⟨_,rfl,rfl,rfl⟩
theorem rwithin_c (F G H:Nat→Prop) (a b d:Option Addr) (c e f:Nat) (k fr to:Bs) (w:World) (hk:Sl F w 1 a k.length c (bB k)) (hf:Sl G w 1 b fr.length e (bB fr)) (ht:Sl H w 1 d to.length f (bB to)) (h1:fr=[]∨¬ fQ k fr) (h2:to=[]∨fQ k to) :
  Calls Tryz.prog 210 #[.slice a k.length c,.slice b fr.length e,.slice d to.length f] w (Ret λ v w'=>v=.bool true∧Grow w w'):=by
 refine V.calls (args:=[_,_,_]) Tryz.func210 rfl Tryz.ntmps210 rfl rfl ?_;by_cases f0:fr.length=0
 ·by_cases a0:to.length=0
  ·repeat refine aF ?_
   exact bA rfl ⟨_,rfl,rfl,yG⟩
  ·have c2:bY k to<0:=by
    rcases h2 with h2|h2
    ·rw [h2] at a0;simp at a0
    ·exact h2
   repeat (first|(refine aB 140 ?_;refine aA rfl (fA _ _ _ _ _ _ _ _ _ _ _ (hk.grow yG) (ht.grow yG)) rfl ?_;rintro _ _ ⟨rfl,g0⟩)|refine yC ?_)
   exact bA rfl ⟨_,rfl,rfl,yG⟩
 ·have c1:bY fr k≤0:=by
   rcases h1 with h1|h1
   ·rw [h1] at f0;simp at f0
   ·exact cmpB_le.2 h1
  by_cases a0:to.length=0
  ·repeat (first|(refine aB 140 ?_;refine aA rfl (fA _ _ _ _ _ _ _ _ _ _ _ (hf.grow yG) (hk.grow yG)) rfl ?_;rintro _ _ ⟨rfl,g0⟩)|refine yC ?_)
   exact bA rfl ⟨_,rfl,rfl,yG⟩
  ·have c2:bY k to<0:=by
    rcases h2 with h2|h2
    ·rw [h2] at a0;simp at a0
    ·exact h2
   repeat refine aF ?_
   refine aB 140 ?_;refine aA rfl (fA _ _ _ _ _ _ _ _ _ _ _ hf hk) rfl ?_;rintro _ w2 ⟨rfl,e0⟩;repeat refine aF ?_
   refine aB 140 ?_;refine aA rfl (fA _ _ _ _ _ _ _ _ _ _ _ (hk.grow e0) (ht.grow e0)) rfl ?_;rintro _ w3 ⟨rfl,h0⟩;repeat refine aF ?_
   exact bA rfl ⟨_,rfl,rfl,e0.trans h0⟩
structure WkTo (w w':World) (sb:Nat) (pv iv pv' iv':Value):Prop where
 os:w'.os=w.os
 tape:w'.tape=w.tape
 output:w'.output=w.output
 size:w.heap.size≤w'.heap.size
 block:∀ k,k<w.heap.size→k≠sb→pv.ownBlock≠some k→iv.ownBlock≠some k→w'.heap[k]? = w.heap[k]?
 np:∀ j,j<w.heap.size→pv.ownBlock≠some j→pv'.ownBlock≠some j
 ni:∀ j,j<w.heap.size→iv.ownBlock≠some j→iv'.ownBlock≠some j
def QF (sb:Nat) (pv iv:Value) (k:Nat):Prop:=k≠sb∧pv.ownBlock≠some k∧iv.ownBlock≠some k
section
variable {a b c w w' w0:World} {sb:Nat} {p i p1 i1 p2 i2 p' i':Value}
theorem WkTo.trans (h:WkTo a b sb p i p1 i1) (k:WkTo b c sb p1 i1 p2 i2):WkTo a c sb p i p2 i2 :=
 ⟨k.os.trans h.os,k.tape.trans h.tape,k.output.trans h.output,Nat.le_trans h.size k.size,
  λ j hj h1 h2 h3=>(k.block j (Nat.lt_of_lt_of_le hj h.size) h1 (h.np j hj h2) (h.ni j hj h3)).trans (h.block j hj h1 h2 h3),
  λ j hj h2=>k.np j (Nat.lt_of_lt_of_le hj h.size) (h.np j hj h2),λ j hj h2=>k.ni j (Nat.lt_of_lt_of_le hj h.size) (h.ni j hj h2)⟩
theorem WkTo.grow (g:Grow w w'):WkTo w w' sb p i p i:=⟨g.1.os,g.1.tape,g.1.output,g.2,λ k hk _ _ _=>g.block k hk,λ _ _ h=>h,λ _ _ h=>h⟩
theorem WkTo.upd (h:WkTo w0 w sb p i p1 i1) {d:Nat} (u:Upd d w w') (hd:d=sb∨w0.heap.size≤d):WkTo w0 w' sb p i p1 i1 :=
 ⟨u.os.trans h.os,u.tape.trans h.tape,u.output.trans h.output,by rw [u.size];exact h.size,λ k hk h1 h2 h3=>(u.block k (λ e=>by subst e;rcases hd with e|e<;>omega)).trans (h.block k hk h1 h2 h3),h.np,h.ni⟩
theorem WkTo.carry (h:WkTo w w' sb p i p' i') (G:Nat→Prop):Carry (λ k=>G k∧QF sb p i k) w (λ k=>G k∧QF sb p' i' k) w' :=
 ⟨h.size,λ k hk hl=>⟨⟨hk.1,hk.2.1,h.np k hl hk.2.2.1,h.ni k hl hk.2.2.2⟩,h.block k hl hk.2.1 hk.2.2.1 hk.2.2.2⟩⟩
theorem WkTo.carryQ (h:WkTo w w' sb p i p' i'):Carry (QF sb p i) w (QF sb p' i') w' :=
 ⟨h.size,λ k hk hl=>⟨⟨hk.1,h.np k hl hk.2.1,h.ni k hl hk.2.2⟩,h.block k hl hk.1 hk.2.1 hk.2.2⟩⟩
end
structure SeenAt (w:World) (sb B:Nat) (pv iv:Value) (P:List Nat) (I:bT) (dep:Nat):Prop where
 blk:Blk w sb 191 [pv,iv,.int .i64 (dep:Int)]
 pg:w.ownsRow B 3 1 pv P.length (bC P)
 it:∃ cs,w.ownsRow B 58 2 iv I.length cs∧ItCells (λ j=>B≤j∧QF sb pv iv j) w cs I
 lt:sb<B
theorem own_apart {w:World} {B1 B2 e1 e2 s1 s2 n1 n2:Nat} {v u:Value} {xs ys:List Value} (h:w.ownsRow B1 e1 s1 v n1 xs) (k:w.ownsRow B2 e2 s2 u n2 ys) (he:e1≠e2):∀ j,v.ownBlock=some j→u.ownBlock≠some j:=by
 intro j hj hk;obtain ⟨_,⟨rfl,_⟩|⟨g,g0,f0,rfl,h1,h2,_⟩⟩:=h
 ·cases hj
 obtain ⟨_,⟨rfl,_⟩|⟨g',e0,a0,rfl,k1,k2,_⟩⟩:=k
 ·cases hk
 simp only [Value.ownBlock,Option.some.injEq] at hj hk;subst hj;subst hk;rw [h2] at k2;simp only [Option.some.injEq,Obj.cells.injEq] at k2;exact he k2.2.1
theorem SeenAt.pl {w:World} {sb B:Nat} {pv iv:Value} {P:List Nat} {I:bT} {a0:Nat} (h:SeenAt w sb B pv iv P I a0):∀ j,pv.ownBlock=some j→B≤j∧j<w.heap.size:=h.pg.lt
theorem SeenAt.il {w:World} {sb B:Nat} {pv iv:Value} {P:List Nat} {I:bT} {a0:Nat} (h:SeenAt w sb B pv iv P I a0):∀ j,iv.ownBlock=some j→B≤j∧j<w.heap.size:=by
 obtain ⟨cs,h1,_⟩:=h.it;exact h1.lt
theorem SeenAt.pi {w:World} {sb B:Nat} {pv iv:Value} {P:List Nat} {I:bT} {a0:Nat} (h:SeenAt w sb B pv iv P I a0):∀ j,pv.ownBlock=some j→iv.ownBlock≠some j:=by
 obtain ⟨cs,h1,_⟩:=h.it;exact own_apart h.pg h1 dM
theorem SeenAt.grow {w w':World} {sb B:Nat} {pv iv:Value} {P:List Nat} {I:bT} {a0:Nat} (h:SeenAt w sb B pv iv P I a0) (g:Grow w w'):SeenAt w' sb B pv iv P I a0:=by
 obtain ⟨cs,h1,h2⟩:=h.it;exact ⟨h.blk.grow g,aO h.pg g,⟨cs,aO h1 g,h2.go (Carry.grow g)⟩,h.lt⟩
theorem SeenAt.upd {w w':World} {sb B d:Nat} {pv iv:Value} {P:List Nat} {I:bT} {a0:Nat} (h:SeenAt w sb B pv iv P I a0) (u:Upd d w w') (h1:d≠sb) (h2:w.heap.size≤d):SeenAt w' sb B pv iv P I a0:=by
 obtain ⟨cs,k1,k2⟩:=h.it;exact ⟨h.blk.upd u (Ne.symm h1),cB h.pg (λ k _ hk=>u.block k (by have:=h.pl k hk;omega)),⟨cs,cB k1 (λ k _ hk=>u.block k (by have:=h.il k hk;omega)),k2.go (Carry.upd u (λ k hk hl=>by omega))⟩,h.lt⟩
theorem RfAt.walk {K:Nat→Prop} {w w':World} {R:RL} {g:Pg} {sb B:Nat} {pv iv pv' a0:Value} {P:List Nat} {I:bT} {e0:Nat} (h:RfAt K w R g) (hK:∀ k,K k→k<sb) (hR:R.p<sb∧R.d<sb∧R.c<sb∧R.u<sb) (s:SeenAt w sb B pv iv P I e0) (t:WkTo w w' sb pv iv pv' a0):RfAt K w' R g:=by
 have f0:=s.lt;have key:∀ k,k<sb→k<w.heap.size→w'.heap[k]? = w.heap[k]?:=λ k hk hl=>t.block k hl oM (λ e=>by have:=s.pl k e;omega) (λ e=>by have:=s.il k e;omega);exact h.keep ⟨t.size,λ k hk hl=>⟨hk,key k (hK k hk) hl⟩⟩ λ k hk=>key k oM (by have:=h.lts;omega)
theorem NdAt.tightN {F:Nat→Prop} {w:World} {x:NV} {nd:Nd} (h:NdAt F w x nd):NdAt (λ k=>F k∧k<w.heap.size) w x nd:=h.go (Carry.mono λ k hk hl=>⟨hk,hl⟩)
theorem its_cells {F:Nat→Prop} {w:World} {cs:List Value} {l:bT} (h:ItCells F w cs l):∀ (i:Nat) (y:Bs×Bs),l[i]? = some y→∃ ka kc va vc,cs[i*2]? = some (.slice ka y.1.length kc)∧cs[i*2+1]? = some (.slice va y.2.length vc)∧Sl F w 1 ka y.1.length kc (bB y.1)∧Sl F w 1 va y.2.length vc (bB y.2):=λ i y hy=>by
 obtain ⟨k,v,g1,g2,b1,b2⟩:=h.at' hy;obtain ⟨ka,kc,rfl,s1⟩:=b1.sl;obtain ⟨va,vc,rfl,s2⟩:=b2.sl;exact ⟨ka,kc,va,vc,by rw [Nat.mul_comm];exact g1,by rw [Nat.mul_comm];exact g2,s1,s2⟩
def RwC (K:Nat→Prop) (R:RL) (g:Pg) (h:Nat):Prop:=∀ (w:World) (sb B:Nat) (pv iv:Value) (P:List Nat) (I:bT) (dep n d:Nat) (nd:Nd) (l:bT) (ps:List Nat) (top:Bool) (fa ta:Option Addr) (fc tc:Nat) (fr to:Bs),
 RfAt K w R g→(∀ k,K k→k<sb)→(R.p<sb∧R.d<sb∧R.c<sb∧R.u<sb)→cD g n=some nd→Vt g h nd l ps→(top=true∨4≤aT nd)→1≤aT nd→1≤d→d+h≤16→(dep=0∨dep=d+h)→(∀ p∈n::ps,p∉P)→SeenAt w sb B pv iv P I dep→B≤w.heap.size →
 Sl (QF sb pv iv) w 1 fa fr.length fc (bB fr)→Sl (QF sb pv iv) w 1 ta to.length tc (bB to)→(∀ x∈l,(fr=[]∨¬ fQ x.1 fr)∧(to=[]∨fQ x.1 to))→(P++n::ps).length≤100000→(I++l).length≤100000 →
 Calls Tryz.prog 168 #[.pointer (some ⟨R.p,0,none⟩),.pointer (some ⟨sb,0,none⟩),.int .i64 (n:Int),.int .i64 (d:Int),.bool top,.slice fa fr.length fc,.slice ta to.length tc] w (Ret λ v w'=>v=.bool true∧∃ pv' iv',SeenAt w' sb B pv' iv' (P++n::ps) (I++l) (d+h)∧WkTo w w' sb pv iv pv' iv')
theorem rwalk_of {K:Nat→Prop} {R:RL} {g:Pg} (h:Nat) (ih:∀ h',h=h'+1→RwC K R g h'):RwC K R g h:=by
 intro w sb B pv iv P I u2 n d nd l ps top fa ta fc tc fr to t4 hK hR hn hv l4 x1 s8 hd n5 j3 a0 hB s7 b7 f4 s5 g4;have f0:=a0.lt;have i6:=fB hn;have p8:=dV (dL hn);have x8:=t4.cnt;have p4:=a0.blk;have o7:n∉P:=j3 n sM;obtain ⟨pa,pc,rfl,k7⟩:=aM a0.pg;refine V.calls (args:=[_,_,_,_,_,_,_]) Tryz.func168 rfl Tryz.ntmps168 rfl rfl ?_;refine dU 4 (λ e w5=>∃ (bn:Nat) (x:NV) (h0:Value),Sub [(16,.int .i64 0),(15,.pointer (some ⟨bn,0,none⟩)),(6,.slice ta to.length tc),(5,.slice fa fr.length fc),(4,.bool top),(3,.int .i64 (d:Int)),(2,.int .i64 (n:Int)),(1,.pointer (some ⟨sb,0,none⟩)),(0,.pointer (some ⟨R.p,0,none⟩))] e∧w.heap.size≤bn∧Blk w5 bn 79 x.cs∧NdAt (λ k=>w.heap.size≤k∧QF sb h0 iv k) w5 x nd∧SeenAt w5 sb B h0 iv (P++[n]) I u2∧WkTo w w5 sb (.slice pa P.length pc) iv h0 iv∧QF sb h0 iv bn) ?_ ?_;rotate_left
 ·repeat (first|(refine aB 209 ?_;refine aA rfl (rin_no _ pa P.length pc P n _ k7 o7) rfl ?_;rintro _ _ ⟨rfl,rfl⟩)|refine yC ?_)
  refine TL.buildSlice rfl rfl rfl rfl rfl ?_;intro b1 w1 r2 q6 e1 e2 e3;have f6:Sl (λ _=>True) w1 1 (some ⟨b1,0,none⟩) 1 1 (bC [n]):=(aU (sz:=1) (m:=1) q6 e3 dM).mono (λ _ _=>trivial);have z1:=r2.size;have g8:P.length+1≤100000:=by simp only [List.length_append,List.length_cons] at s5;omega
  refine dO rfl rfl (aO a0.pg r2) f6 (gC _) (by unfold maxLen;omega) oM oM rfl ?_;intro h0 w2 d2 i0 m1;have t2:WkTo w w2 sb (.slice pa P.length pc) iv h0 iv:=(WkTo.grow r2).trans ⟨i0.os,i0.tape,i0.output,i0.size,λ k hk _ h2 _=>i0.block k hk (λ e=>h2 e.symm),λ j hj h2=>((m1 (λ k=>k=j)).blk j ⟨rfl,h2⟩ hj).1.2,λ _ _ h=>h⟩;have z2:=i0.size;have s4:Blk w2 sb 191 [.slice pa P.length pc,iv,.int .i64 (u2:Int)]:=dE i0 (λ e=>by have:=a0.pl sb e;omega) (p4.grow r2);obtain ⟨ci,e4,d4⟩:=a0.it;obtain ⟨z5,y5,rfl,_⟩:=aM d2;repeat (first|refine aF ?_|refine yJ λ w' hu t0 x1=>?_)
  obtain ⟨w3,rfl⟩:=yE w';have t3:=t2.upd hu (.inl rfl)
  have u0:SeenAt w3 sb B (.slice z5 (P.length+1) y5) iv (P++[n]) I u2:=by
   refine ⟨t0,?_,⟨ci,cB e4 (λ k _ hk=>?_),d4.go (t3.carry (λ j=>B≤j))⟩,f0⟩
   ·have:=fZ d2 hu f0;simpa [bC] using this
   ·have r3:=a0.il k hk;exact (hu.block k oM).trans ((i0.block k oM (λ e=>a0.pi k e.symm hk)).trans (r2.block k r3.2))
  have j7:=t4.walk hK hR a0 t3;have m8:=t3.size;clear x1 hu t0 m1 i0 r2 q6 f6 s4 d2 t2 e4 d4;refine aB 113 ?_;refine aA rfl (rnode_c j7 n nd hn) rfl ?_;rintro _ w4 ⟨x,rfl,z0,n6⟩;have z4:=n6.size;repeat (first|refine aF ?_|refine yI λ bk w' hg t0 x1 d7=>?_|refine yJ λ w' hu t0 x1=>?_)
  obtain ⟨bn,rfl⟩:=yE bk;have h6:∀ k,w3.heap.size≤k→QF sb (.slice z5 (P.length+1) y5) iv k:=λ k hk=>⟨by have:=u0.blk.lt;omega,λ e=>by have:=u0.pl k e;omega,λ e=>by have:=u0.il k e;omega⟩
  have y3:Grow w3 w':=aH hu oM (n6.trans hg);refine ⟨bn,x,_,⟨rfl,rfl,rfl,rfl,rfl,rfl,rfl,rfl,rfl,trivial⟩,oM,t0,?_,u0.grow y3,t3.trans (WkTo.grow y3),h6 bn oM⟩;exact (z0.tightN.go ((Carry.grow hg).trans (Carry.upd hu (λ k hk _=>by have:=hk.2;omega)))).go (Carry.mono λ k hk _=>⟨by have:=hk.1;omega,h6 k hk.1⟩)
 rintro e w5 ⟨bn,x,h0,e0,x7,p6,z0,y0,t5,o0⟩;refine bD (e':=[(16,_),(15,_),(6,_),(5,_),(4,_),(3,_),(2,_),(1,_),(0,_)]) ?_ e0;clear e0;have h7:=t4.walk hK hR a0 t5;have j2:=s7.go t5.carryQ;have u1:=b7.go t5.carryQ;have c4:=z0.its.len;have k3:=bR z0.kids;have j6:=z0.kys.len;have r4:=y0.blk;have l8:=t5.size;have c7:aT nd≤8:=sizeN_le i6;have o4:x.n1+x.n2=aT nd:=by rw [c4,k3];rfl
 obtain ⟨a1,n1,c1,a2,n2,c2,a3,n3,c3⟩:=x;simp only at c4 k3 j6 o4;have q0:Blk w5 bn 79 [.slice a1 n1 c1,.slice a2 n2 c2,.slice a3 n3 c3]:=p6;clear p6;refine dU 1 (λ e w6=>Sub [(15,.pointer (some ⟨bn,0,none⟩)),(6,.slice ta to.length tc),(5,.slice fa fr.length fc),(3,.int .i64 (d:Int)),(2,.int .i64 (n:Int)),(1,.pointer (some ⟨sb,0,none⟩)),(0,.pointer (some ⟨R.p,0,none⟩))] e∧w5=w6) ?_ ?_;rotate_left
 ·cases top with
  | true =>
   repeat refine aF ?_
   exact ⟨⟨rfl,rfl,rfl,rfl,rfl,rfl,rfl,trivial⟩,rfl⟩
  | false =>
   have h4:4≤n2+n1∧4≤n1+n2:=by
    rcases l4 with h|h
    ·cases h
    ·omega
   repeat refine aF ?_
   exact ⟨⟨rfl,rfl,rfl,rfl,rfl,rfl,rfl,trivial⟩,rfl⟩
 rintro e _ ⟨e0,rfl⟩;refine bD (e':=[(15,_),(6,_),(5,_),(3,_),(2,_),(1,_),(0,_)]) ?_ e0;clear e0;have f5:=z0.its;have d5:=z0.kids;have c5:=z0.kys;obtain ⟨ci,e4,d4⟩:=y0.it
 cases h with
 | zero =>
  obtain ⟨rfl,rfl,e7,l6⟩:=hv;have j8:n2=0:=by rw [k3];rfl
  have r7:n1=l.length:=c4;obtain ⟨cs,o6,x0⟩:=f5.ex;simp only at o6 x0;have a4:=its_cells x0;have o5:u2=0∨u2=d:=by omega
  have t7:d≤100:=by omega
  rcases o5 with o5|o5
  all_goals
   repeat (first|(refine aB 114 ?_;refine aA rfl (rleaf_c ⟨a1,n1,c1,a2,n2,c2,a3,n3,c3⟩ true _ (by simp only;rw [j8];rfl)) rfl ?_;rintro _ _ ⟨rfl,s0⟩)|refine yC ?_|refine yJ λ w' hu t0 x1=>?_)
   obtain ⟨w6,rfl⟩:=yE w';have t6:WkTo w5 w6 sb h0 iv h0 iv:=(WkTo.grow s0).upd hu (.inl rfl);have r5:=(q0.grow s0).upd hu o0.1;have x4:=fZ (aO y0.pg s0) hu f0;have k5:=fZ (aO e4 s0) hu f0;have h5:=d4.go (t6.carry (λ j=>B≤j));have m5:=j2.go t6.carryQ;have n4:=u1.go t6.carryQ;have z3:=o6.go (t6.carry (λ k=>w.heap.size≤k));have k8:=t6.size;have q4:Blk w6 sb 191 [h0,iv,.int .i64 (d:Int)]:=t0;have l7:=y0.pl;have m6:=y0.il;have m7:=y0.pi;clear t0 hu x1 s0 q0 r4;refine aX (S:=Nat) (λ i=>[(17,.int .i64 (i:Int)),(15,.pointer (some ⟨bn,0,none⟩)),(6,.slice ta to.length tc),(5,.slice fa fr.length fc),(1,.pointer (some ⟨sb,0,none⟩))]) (λ i w7=>i≤n1∧Grow w6 w7) (λ i=>n1-i) 0 ⟨rfl,rfl,rfl,rfl,rfl,trivial⟩ ⟨Nat.zero_le _,Grow.refl _⟩ ?_;rintro i w7 ⟨hi,g0⟩;have o2:=r5.grow g0;by_cases v0:i<n1
   ·obtain ⟨y,hy⟩:∃ y,l[i]? = some y:=⟨_,List.getElem?_eq_getElem oM⟩
    obtain ⟨ka,kc,va,vc,g1,g2,s1,s2⟩:=a4 i y hy;obtain ⟨b1,b2⟩:=f4 y (List.mem_of_getElem? hy);have u6:=(s1.go (t6.carry (λ k=>w.heap.size≤k))).grow g0;have p0:=z3.grow g0;repeat (first|(refine aI ?_;refine aC (j:=i) rfl rfl rfl v0 rfl ⟨_,_,p0⟩ rfl ?_)|refine bJ rfl p0 g1 rfl ?_|(refine aQ ?_;refine aS rfl (p0.row.cell g1) rfl ?_)|(refine aB 210 ?_;refine aA rfl (rwithin_c _ _ _ ka fa ta kc fc tc y.1 fr to _ u6 (m5.grow g0) (n4.grow g0) b1 b2) rfl ?_;rintro _ _ ⟨rfl,s0⟩)|refine yC ?_)
    exact aE (i+1) ⟨rfl,rfl,rfl,rfl,rfl,trivial⟩ ⟨v0,yG⟩ oM
   obtain rfl:i=n1:=by omega
   have y1:=q4.grow g0;repeat refine aF ?_
   have p5:=(x0.go (t6.carry (λ k=>w.heap.size≤k))).go (Carry.grow g0);have p0:=z3.grow g0;have j5:=aO k5 g0;have g5:=h5.go (Carry.grow g0);have z7:=g0.size;have h8:I.length+l.length≤100000:=by rw [List.length_append] at g4;exact g4
   apply mX (λ wa wb=>wa.grownBy wb iv.ownBlock) 8 7 (λ wq=>Grow w7 wq) (λ wq=>w7.grownBy wq iv.ownBlock) (λ wq=>w7.grownBy wq iv.ownBlock)
    [gY _,gY _,gY _,gY _,gY iv,gY _,gY _,ofA (λ u wq=>∃ x2,wq.ownsRow B 58 2 u (I.length+l.length) x2∧ItCells (λ j=>B≤j∧QF sb h0 u j) wq x2 (I++l)∧∀ j,j<w7.heap.size→iv.ownBlock≠some j→u.ownBlock≠some j) (by rintro u wa wb g ⟨x2,q1,q2,q3⟩;exact ⟨x2,aO q1 g,q2.go (Carry.grow g),q3⟩)]
   ·kernel_rfl
   ·exact Grow.refl _
   ·exact λ wq g=>⟨g.1.os,g.1.tape,g.1.output,g.2,λ k hk _=>g.block k hk⟩
   ·exact λ _ h=>h
   ·exact λ _ h=>h.size
   ·exact λ _ _ h g=>h.trans g
   ·exact λ _ _ h g=>⟨g.1.os.trans h.os,g.1.tape.trans h.tape,g.1.output.trans h.output,Nat.le_trans h.size g.2,λ k hk f2=>(g.block k (Nat.lt_of_lt_of_le hk h.size)).trans (h.block k hk f2)⟩
   ·exact λ _ _ h=>h.size
   ·repeat' (first|exact iO|refine gT ?_ ?_)
    iterate 7
     ·refine cZ rfl rfl rfl rfl ?_;intro wq _ _ l0;have q1:=dE l0 (λ e=>by have:=m6 sb e;omega) y1;have q2:=dE l0 (λ e=>by have:=o0.2.2 e;exact this) o2;(refine yU ?_)
      repeat refine aF ?_
      exact bQ rfl (Grow.refl _) rfl
    ·refine iN rfl rfl rfl rfl ?_;intro wq _ _ l0;(refine yU ?_)
     have zq:=l0.size;refine dO rfl rfl (aO j5 l0) (p0.grow l0) x0.one (by unfold maxLen;omega) oM oM rfl ?_;intro v' w8 f3 m0 j1;refine TL.nil ?_;have cA:Carry (λ j=>B≤j∧QF sb h0 iv j) wq (λ j=>B≤j∧QF sb h0 v' j) w8:=((Carry.mono λ j hj _=>⟨⟨hj.1,hj.2.1,hj.2.2.1⟩,hj.2.2.2⟩).trans (j1 (λ j=>B≤j∧j≠sb∧h0.ownBlock≠some j))).trans (Carry.mono λ j hj _=>⟨hj.1.1,hj.1.2.1,hj.1.2.2,hj.2⟩);refine bQ rfl ⟨m0,⟨m0.os.trans l0.1.os,m0.tape.trans l0.1.tape,m0.output.trans l0.1.output,Nat.le_trans l0.2 m0.size,λ k hk f2=>(m0.block k oM f2).trans (l0.block k hk)⟩⟩ ⟨ci++cs,by rw [← r7];exact f3,?_,λ j hj f2=>((j1 (λ k=>k=j)).blk j ⟨rfl,f2⟩ oM).1.2⟩;exact ((g5.go (Carry.grow l0)).go cA).append (((p5.go (Carry.grow l0)).go (Carry.mono λ k hk _=>⟨oM,hk.2⟩)).go cA)
   ·rintro wT lo q8 o1 _ _;(((repeat (refine needA_cons rfl rfl ?_;intro vq d6;try (obtain rfl:=Eq.symm d6)));(refine needA_nil ?_)))
    obtain ⟨x2,q1,q2,q3⟩:=d6;have zT:=o1.size;have f7:=dE o1 (λ e=>by have:=m6 sb e;omega) y1;obtain ⟨qa,qc,rfl,_⟩:=aM q1;have u4:wT.ownsRow B 3 1 h0 (P++[n]).length (bC (P++[n])):=cB (aO x4 g0) (λ k _ hk=>o1.block k (by have:=l7 k hk;omega) (λ e=>m7 k hk e.symm));clear y1;repeat (first|refine aF ?_|refine yJ λ w' hu t0 x1=>?_)
    have i4:WkTo w w' sb (.slice pa P.length pc) iv h0 (.slice qa (I.length+l.length) qc):=(((t5.trans t6).trans (WkTo.grow g0)).trans ⟨o1.os,o1.tape,o1.output,o1.size,λ k hk _ _ h3=>o1.block k hk (λ e=>h3 e.symm),λ _ _ h=>h,q3⟩).upd hu (.inl rfl);refine bA rfl ⟨_,rfl,rfl,h0,_,⟨t0,fZ u4 hu f0,⟨x2,?_,q2.go (Carry.upd hu λ k hk _=>hk.2.1)⟩,f0⟩,i4⟩;have:=fZ q1 hu f0;rw [List.length_append];exact this
 | succ h =>
  have y4:=hv.notin hn;have i3:=hv.nodup;obtain ⟨ls,v1,v2,v3,v4,v5,v6,v7,v8⟩:=hv;have ok:=ndOk i6;have q7:n1=0:=by rw [c4,v1];rfl
  have a5:n2=ls.length:=by rw [k3,v2,List.length_map]
  have h2:2≤n2:=by
   have h3:=ok.ne1;rw [← k3] at h3;omega
  have p7:n3+1=n2:=by rw [j6,a5,v3]
  have f2:∀ x∈ls,x.its≠[]:=λ x hx=>by
   obtain ⟨a6,g1,g2,g3⟩:=v8 x hx;exact g3.ne oM
  obtain ⟨n8,x3,k0⟩:=c5.at';have t7:d≤100:=by omega
  repeat (first|(refine aB 114 ?_;refine aA rfl (rleaf_c ⟨a1,n1,c1,a2,n2,c2,a3,n3,c3⟩ false _ (by simp only;exact decide_eq_false oM)) rfl ?_;rintro _ _ ⟨rfl,s0⟩)|refine yC ?_)
  refine aX (S:=Nat) (λ i=>[(18,.int .i64 (i:Int)),(15,.pointer (some ⟨bn,0,none⟩)),(6,.slice ta to.length tc),(5,.slice fa fr.length fc),(3,.int .i64 (d:Int)),(1,.pointer (some ⟨sb,0,none⟩)),(0,.pointer (some ⟨R.p,0,none⟩))]) (λ i w7=>i≤n3∧Grow w5 w7) (λ i=>n3-i) 0 ⟨rfl,rfl,rfl,rfl,rfl,rfl,rfl,trivial⟩ ⟨Nat.zero_le _,s0⟩ ?_;clear s0;rintro i w7 ⟨hi,g0⟩;have o2:=q0.grow g0;by_cases v0:i<n3
  ·obtain ⟨y,hy⟩:∃ y,nd.keys[i]? = some y:=⟨_,List.getElem?_eq_getElem oM⟩
   obtain ⟨ka,kc,g1,s1⟩:=k0 i y hy;obtain ⟨⟨ya,x5,s6⟩,yb,u5,r6⟩:=key_between v3 v4 f2 (List.mem_of_getElem? hy);rw [← v6] at x5 u5;have b1:fr=[]∨¬ fQ y fr:=(f4 ya x5).1.imp id λ q e=>q (eJ s6 e);have b2:to=[]∨fQ y to:=(f4 yb u5).2.imp id λ q=>klt_of_le r6 q;have f1:=x3.grow g0;repeat (first|(refine aI ?_;refine aC (j:=i) rfl rfl rfl v0 (Nat.mul_one _) ⟨_,_,f1⟩ rfl ?_)|(refine aQ ?_;refine aS rfl (f1.row.cell g1) rfl ?_)|(refine aB 210 ?_;refine aA rfl (rwithin_c _ _ _ ka fa ta kc fc tc y fr to _ (s1.grow g0) (j2.grow g0) (u1.grow g0) b1 b2) rfl ?_;rintro _ _ ⟨rfl,s0⟩)|refine yC ?_)
   exact aE (i+1) ⟨rfl,rfl,rfl,rfl,rfl,rfl,rfl,trivial⟩ ⟨v0,yG⟩ oM
  obtain rfl:i=n3:=by omega
  repeat refine aF ?_
  refine aX (S:=Nat) (λ j=>[(19,.int .i64 (j:Int)),(15,.pointer (some ⟨bn,0,none⟩)),(6,.slice ta to.length tc),(5,.slice fa fr.length fc),(3,.int .i64 (d:Int)),(1,.pointer (some ⟨sb,0,none⟩)),(0,.pointer (some ⟨R.p,0,none⟩))]) (λ j w8=>j≤n2∧∃ (pv2 r1:Value) (n0:Nat),SeenAt w8 sb B pv2 r1 (P++[n]++(ls.take j).flatMap (λ x:Sb=>x.page::x.ps)) (I++(ls.take j).flatMap (λ x:Sb=>x.its)) n0∧(n0=0∨n0=d+(h+1))∧(0<j→n0=d+(h+1))∧WkTo w5 w8 sb h0 iv pv2 r1) (λ j=>n2-j) 0 ⟨rfl,rfl,rfl,rfl,rfl,rfl,rfl,trivial⟩ ⟨Nat.zero_le _,h0,iv,u2,by simpa using y0.grow g0,n5,λ e=>by omega,WkTo.grow g0⟩ ?_;clear o2 g0 hi v0;rintro j w8 ⟨hj,pv2,r1,n0,b4,r8,u7,t8⟩;have c8:=t8.carry (λ k=>w.heap.size≤k);have y7:Blk w8 bn 79 [.slice a1 n1 c1,.slice a2 n2 c2,.slice a3 i c3]:=cJ q0 (t8.block bn q0.lt o0.1 o0.2.1 o0.2.2);by_cases v0:j<n2;rotate_left
  ·obtain rfl:j=n2:=by omega
   rw [List.take_of_length_le oM] at b4;have:=u7 oM;subst this;repeat refine aF ?_
   refine bA rfl ⟨_,rfl,rfl,pv2,r1,?_,t5.trans t8⟩;have e:P++n::ps=P++[n]++ls.flatMap (λ x:Sb=>x.page::x.ps):=by rw [v7];simp
   rw [e,v6];exact b4
  obtain ⟨x,hx⟩:∃ x,ls[j]? = some x:=⟨_,List.getElem?_eq_getElem oM⟩
  have j4:=List.mem_of_getElem? hx;obtain ⟨a6,g1,g2,g3⟩:=v8 x j4;have z6:nd.kids[j]? = some x.page:=by rw [v2,List.getElem?_map,hx];rfl
  have k4:∀ y∈x.its,y∈l:=λ y hy=>by rw [v6];exact List.mem_flatMap.2 ⟨x,j4,hy⟩
  have y2:∀ p∈x.page::x.ps,p∈ps:=λ p hp=>by rw [v7];exact List.mem_flatMap.2 ⟨x,j4,hp⟩
  have d3:∀ p∈x.page::x.ps,p∉P++[n]++(ls.take j).flatMap (λ x:Sb=>x.page::x.ps):=by
   intro p hp hm;rcases List.mem_append.1 hm with hm|hm
   ·rcases List.mem_append.1 hm with hm|hm
    ·exact j3 p (List.mem_cons_of_mem _ (y2 p hp)) hm
    ·simp only [List.mem_singleton] at hm;subst hm;exact y4 (y2 p hp)
   ·rw [v7,split_at hx,List.flatMap_append] at i3;have:=(List.nodup_append.1 i3).2.2 p hm p (by simp only [List.flatMap_cons,List.mem_append];exact .inl hp);exact this rfl
  have g7:=h7.walk hK hR y0 t8;have n7:=jM z6;have u3:=d5.go c8;have j0:=x3.go c8;have l5:=j2.go t8.carryQ;have m4:=u1.go t8.carryQ;have z8:=t8.size;have o8:=b4.blk.lt;refine dU 1 (λ e w9=>Sub [(19,.int .i64 (j:Int)),(15,.pointer (some ⟨bn,0,none⟩)),(6,.slice ta to.length tc),(5,.slice fa fr.length fc),(3,.int .i64 (d:Int)),(1,.pointer (some ⟨sb,0,none⟩)),(0,.pointer (some ⟨R.p,0,none⟩))] e∧w8=w9) ?_ ?_;rotate_left
  ·repeat refine aF ?_
   exact ⟨⟨rfl,rfl,rfl,rfl,rfl,rfl,rfl,trivial⟩,rfl⟩
  rintro e _ ⟨e0,rfl⟩;refine bD (e':=[(19,_),(15,_),(6,_),(5,_),(3,_),(1,_),(0,_)]) ?_ e0;clear e0;refine T.seq (T.block ?_);refine dU 3 (λ e w9=>∃ (qa ua:Option Addr) (qc uc:Nat) (q u:Bs),Sub [(21,.slice ua u.length uc),(20,.slice qa q.length qc),(19,.int .i64 (j:Int)),(15,.pointer (some ⟨bn,0,none⟩)),(6,.slice ta to.length tc),(5,.slice fa fr.length fc),(3,.int .i64 (d:Int)),(1,.pointer (some ⟨sb,0,none⟩)),(0,.pointer (some ⟨R.p,0,none⟩))] e∧w8=w9∧Sl (QF sb pv2 r1) w8 1 qa q.length qc (bB q)∧Sl (QF sb pv2 r1) w8 1 ua u.length uc (bB u)∧∀ y∈x.its,(q=[]∨¬ fQ y.1 q)∧(u=[]∨fQ y.1 u)) ?_ ?_;rotate_left
  ·have m3:j=0∨∃ jj k,j=jj+1∧nd.keys[jj]? = some k:=by
    cases j with
    | zero=>exact .inl rfl
    | succ jj=>exact .inr ⟨jj,_,rfl,List.getElem?_eq_getElem oM⟩
   have h1:j=i∨∃ k,j<i∧nd.keys[j]? = some k:=by
    by_cases e:j=i
    ·exact .inl e
    ·exact .inr ⟨_,oM,List.getElem?_eq_getElem oM⟩
   have hL:∀ jj k,j=jj+1→nd.keys[jj]? = some k→∀ y∈x.its,¬ fQ y.1 k:=λ jj k e hk y hy=>(toks_adj v3 v4 jj k hk).2 x (by rw [← e];exact hx) y hy;have hH:∀ k,nd.keys[j]? = some k→∀ y∈x.its,fQ y.1 k:=λ k hk y hy=>(toks_adj v3 v4 j k hk).1 x hx y hy;have bq:=λ y hy=>f4 y (k4 y hy);rcases m3 with m3|⟨jj,kl,m3,r3⟩
   ·rcases h1 with h1|⟨kh,h1,s3⟩
    ·omega
    ·obtain ⟨ha,q5,gh,sh⟩:=k0 j kh s3;repeat (first|(refine aI ?_;refine aC (j:=j) rfl rfl rfl h1 (Nat.mul_one _) ⟨_,_,j0⟩ rfl ?_)|(refine aQ ?_;refine aS rfl (j0.row.cell gh) rfl ?_)|refine yC ?_)
     exact ⟨fa,ha,fc,q5,fr,kh,⟨rfl,rfl,rfl,rfl,rfl,rfl,rfl,rfl,rfl,trivial⟩,rfl,l5,(sh.go c8).mono (λ k hk=>hk.2),λ y hy=>⟨(bq y hy).1,.inr (hH kh s3 y hy)⟩⟩
   ·obtain ⟨la,c6,gl,sl⟩:=k0 jj kl r3;have k6:jj<i:=by omega
    rcases h1 with h1|⟨kh,h1,s3⟩
    ·repeat (first|(refine aI ?_;refine aC (j:=jj) rfl rfl oM k6 (Nat.mul_one _) ⟨_,_,j0⟩ rfl ?_)|(refine aQ ?_;refine aS rfl (j0.row.cell gl) rfl ?_)|refine yC ?_)
     exact ⟨la,ta,c6,tc,kl,to,⟨rfl,rfl,rfl,rfl,rfl,rfl,rfl,rfl,rfl,trivial⟩,rfl,(sl.go c8).mono (λ k hk=>hk.2),m4,λ y hy=>⟨.inr (hL jj kl m3 r3 y hy),(bq y hy).2⟩⟩
    ·obtain ⟨ha,q5,gh,sh⟩:=k0 j kh s3;repeat (first|(refine aI ?_;first|refine aC (j:=j) rfl rfl rfl h1 (Nat.mul_one _) ⟨_,_,j0⟩ rfl ?_|refine aC (j:=jj) rfl rfl oM k6 (Nat.mul_one _) ⟨_,_,j0⟩ rfl ?_)|(refine aQ ?_;first|refine aS rfl (j0.row.cell gh) rfl ?_|refine aS rfl (j0.row.cell gl) rfl ?_)|refine yC ?_)
     exact ⟨la,ha,c6,q5,kl,kh,⟨rfl,rfl,rfl,rfl,rfl,rfl,rfl,rfl,rfl,trivial⟩,rfl,(sl.go c8).mono (λ k hk=>hk.2),(sh.go c8).mono (λ k hk=>hk.2),λ y hy=>⟨.inr (hL jj kl m3 r3 y hy),.inr (hH kh s3 y hy)⟩⟩
  rintro e _ ⟨qa,ua,qc,uc,q,u,e0,rfl,hq,a7,d8⟩;refine bD (e':=[(21,_),(20,_),(19,_),(15,_),(6,_),(5,_),(3,_),(1,_),(0,_)]) ?_ e0;clear e0
  have o3:(P++[n]++(ls.take j).flatMap (λ x:Sb=>x.page::x.ps)++x.page::x.ps).length≤100000:=by
   rw [v7,split_at hx] at s5;simp only [List.length_append,List.length_cons,List.flatMap_append,List.flatMap_cons,List.length_nil] at s5 ⊢;omega
  have p3:(I++(ls.take j).flatMap (λ x:Sb=>x.its)++x.its).length≤100000:=by
   rw [v6,split_at hx] at g4;simp only [List.length_append,List.flatMap_append,List.flatMap_cons] at g4 ⊢;omega
  repeat (first|(refine aI ?_;refine aC (j:=j) rfl rfl rfl v0 (Nat.mul_one _) ⟨_,_,u3⟩ rfl ?_)|(refine aQ ?_;refine aS rfl (u3.row.cell n7) rfl ?_)|refine yC ?_)
  refine aB 168 ?_;refine aA rfl (ih h rfl w8 sb B pv2 r1 _ _ n0 x.page (d+1) a6 x.its x.ps false qa ua qc uc q u g7 hK hR g1 g3 (.inr g2) oM oM oM oM d3 b4 oM hq a7 d8 o3 p3) rfl ?_;rintro _ w9 ⟨rfl,x6,y6,g6,t9⟩;repeat refine aF ?_
  refine aE (j+1) ⟨rfl,rfl,rfl,rfl,rfl,rfl,rfl,trivial⟩ ⟨v0,x6,y6,d+1+h,?_,.inr oM,λ _=>by omega,t8.trans t9⟩ oM;rw [dZ hx,List.flatMap_append,List.flatMap_append];simp only [List.flatMap_cons,List.flatMap_nil,List.append_nil,← List.append_assoc] at g6 ⊢;exact g6
theorem rwalk_c {K:Nat→Prop} {R:RL} {g:Pg}:∀ h,RwC K R g h
 | 0=>rwalk_of 0 (λ h' e=>by cases e)
 | h+1=>rwalk_of (h+1) (λ h' e=>by cases e;exact rwalk_c h)
theorem rbegin_c (p:Nat) (root:Option Nat) (hr:∀ n,root=some n→n<9223372036854775808) (w:World) :
  Calls Tryz.prog 104 #[.pointer (some ⟨p,0,none⟩),.int .i64 (dS root)] w (Ret λ v w'=>v=.int .i64 0∧w=w'):=by
 refine V.calls (args:=[_,_]) Tryz.func104 rfl Tryz.ntmps104 rfl rfl ?_
 have h1 : -1≤dS root:=by
  cases root with
  | none=>show (-1:Int)≤-1;omega
  | some n=>show (-1:Int)≤(n:Int);omega
 repeat (first|(refine iR 65 ?_;refine TL.eqNilP rfl rfl rfl ?_)|refine yA ?_)
 exact bA rfl ⟨_,rfl,rfl,rfl⟩
theorem rwhole_c {K:Nat→Prop} {w:World} {R:RL} {g:Pg} (h:RfAt K w R g) {a0:Option Nat} {lv:Nat} {l:bT} {ps:List Nat} (ht:TrAt g a0 lv l ps) (n0:lv≤16) (hl:l.length≤100000) :
  Calls Tryz.prog 116 #[.pointer (some ⟨R.p,0,none⟩),.int .i64 (dS a0)] w (Ret λ v w'=>∃ sb B pv iv,v=.tuple #[.pointer (some ⟨sb,0,none⟩),.int .i64 0]∧w.heap.size≤sb∧SeenAt w' sb B pv iv ps l lv∧Grow w w'):=by
 have hr:∀ n,a0=some n→n<9223372036854775808:=λ n e=>by
  subst e;have:=ht.lt h.ok;omega
 refine V.calls (args:=[_,_]) Tryz.func116 rfl Tryz.ntmps116 rfl rfl ?_;repeat (first|(refine aB 104 ?_;refine aA rfl (rbegin_c R.p a0 hr _) rfl ?_;rintro _ _ ⟨rfl,rfl⟩)|refine yC ?_|refine yI λ bk w' hg j0 k0 h0=>?_)
 have i0:=h.lts;have e0:SeenAt w' bk (bk+1) (.slice none 0 0) (.slice none 0 0) [] [] 0:=⟨j0,World.ownsRow_nil _ _ _ _,⟨[],World.ownsRow_nil _ _ _ _,trivial⟩,oM⟩
 cases a0 with
 | none =>
  obtain ⟨rfl,rfl,rfl⟩:=ht;have hm:dS none = -1:=rfl;rw [hm];repeat refine aF ?_
  exact fJ rfl rfl ⟨_,rfl,bk,bk+1,_,_,rfl,oM,e0,hg⟩
 | some n =>
  have hm:dS (some n)=(n:Int):=rfl;rw [hm];obtain ⟨hh,nd,f0,e1,e2,e3,e4,rfl⟩:=ht;have l0:=e3.pages;have m0:=dV (dL e2);have p0:=h.cnt;have g0:=(h.tight).grow hg;repeat refine aF ?_
  refine aB 168 ?_;refine aA rfl (rwalk_c hh w' bk (bk+1) _ _ [] [] 0 n 1 nd l f0 true none none 0 0 [] [] g0 (λ k hk=>by have:=hk.2;omega) oM e2 e3 (.inl rfl) e4 (Nat.le_refl _) oM (.inl rfl) (λ p _ hp=>by cases hp) e0 oM (Sl.nil_mk _ _ _) (Sl.nil_mk _ _ _) (λ x _=>⟨.inl rfl,.inl rfl⟩) (by simp only [List.nil_append,List.length_cons];omega) (by simpa using hl)) rfl ?_;rintro _ w2 ⟨rfl,pv,iv,hs,tt⟩;repeat refine aF ?_
  refine fJ rfl rfl ⟨_,rfl,bk,bk+1,pv,iv,rfl,oM,?_,?_⟩
  ·have e9:1+hh=lv:=by omega
   rw [e9] at hs;exact hs
  ·have o0:=tt.size;exact Grow.mk ⟨tt.os.trans hg.1.os,tt.tape.trans hg.1.tape,tt.output.trans hg.1.output,oM,λ k hk=>(tt.block k oM oM (by simp [Value.ownBlock]) (by simp [Value.ownBlock])).trans (hg.block k hk)⟩
def insN (x:Nat) (l:List Nat):List Nat:=l.take (l.takeWhile (λ y=>decide (y<x))).length++x::l.drop (l.takeWhile (λ y=>decide (y<x))).length
theorem insN_mem {x y:Nat} {l:List Nat}:y∈insN x l↔y=x∨y∈l:=by
 unfold insN;generalize (l.takeWhile (λ y=>decide (y<x))).length=k;rw [List.mem_append,List.mem_cons]
 have:y∈l↔y∈l.take k∨y∈l.drop k:=by
  conv=>lhs;rw [← List.take_append_drop k l]
  exact List.mem_append
 rw [this];constructor
 ·rintro (h|h|h)
  ·exact .inr (.inl h)
  ·exact .inl h
  ·exact .inr (.inr h)
 ·rintro (h|h|h)
  ·exact .inr (.inl h)
  ·exact .inl h
  ·exact .inr (.inr h)
theorem length_insN (x:Nat) (l:List Nat):(insN x l).length=l.length+1:=by
 unfold insN;generalize (l.takeWhile (λ y=>decide (y<x))).length=k;rw [List.length_append,List.length_cons,List.length_take,List.length_drop];omega
def srtN:List Nat→List Nat
 | []=>[]
 | x::l=>insN x (srtN l)
theorem srtN_mem {l:List Nat} {y:Nat}:y∈srtN l↔y∈l:=by
 induction l with
 | nil=>exact Iff.rfl
 | cons x l ih=>rw [srtN,insN_mem,ih,List.mem_cons]
theorem length_srtN (l:List Nat):(srtN l).length=l.length:=by
 induction l with
 | nil=>rfl
 | cons x l ih=>rw [srtN,length_insN,ih,List.length_cons]
theorem slAd_own {w:World} {base el sz n c:Nat} {a:Option Addr} {xs:List Value} (h:w.ownsRow base el sz (.slice a n c) n xs) (m:Nat):eL a m 0 sz=a:=by
 obtain ⟨_,⟨e,_⟩|⟨g,e0,a0,e,_⟩⟩:=h
 ·cases e;simp [eL]
 ·cases e;simp [eL,Addr.add_lit]
theorem rreach_c {K:Nat→Prop} {w:World} {R:RL} {g:Pg} (h:RfAt K w R g) {l0:Option Nat} {lv:Nat} {l:bT} {ps:List Nat} (ht:TrAt g l0 lv l ps) (j2:lv≤16) (hl:l.length≤100000) :
  Calls Tryz.prog 35 #[.pointer (some ⟨R.p,0,none⟩),.int .i64 (dS l0)] w (Ret λ v w'=>∃ a c,v=.tuple #[.slice a ps.length c,.int .i64 0]∧Sl (λ k=>w.heap.size≤k) w' 1 a ps.length c (bC (srtN ps.reverse))∧Grow w w'):=by
 have f3:=ht.pages;refine V.calls (args:=[_,_]) Tryz.func35 rfl Tryz.ntmps35 rfl rfl ?_;repeat refine aF ?_
 refine aB 116 ?_;refine aA rfl (rwhole_c h ht j2 hl) rfl ?_;rintro _ w1 ⟨sb,B,pv,iv,rfl,y2,hs,u1⟩;obtain ⟨pa,pc,rfl,g2⟩:=aM hs.pg;have o1:=hs.blk;have z1:=u1.size;repeat refine aF ?_
 refine aX (S:=Value×Nat) (λ s=>[(9,.int .i64 (s.2:Int)),(8,s.1),(6,.pointer (some ⟨sb,0,none⟩))]) (λ s w2=>s.2≤ps.length∧w2.ownsRow w1.heap.size 3 1 s.1 s.2 (bC (srtN (ps.take s.2).reverse))∧Grow w1 w2) (λ s=>ps.length-s.2) (.slice none 0 0,0) ⟨rfl,rfl,rfl,trivial⟩ ⟨Nat.zero_le _,World.ownsRow_nil _ _ _ _,Grow.refl _⟩ ?_;rintro ⟨v,i⟩ w2 ⟨hi,h0,u0⟩;simp only at hi h0;have z2:=u0.size;have k0:=o1.grow u0;have p0:=g2.grow u0;by_cases t0:i<ps.length;rotate_left
 ·obtain rfl:i=ps.length:=by omega
  rw [List.take_length] at h0;obtain ⟨a,c,rfl,y0⟩:=aM h0;repeat refine aF ?_
  exact fJ rfl rfl ⟨_,rfl,a,c,rfl,y0.mono (λ k hk=>by have:=hk.1;omega),u1.trans u0⟩
 obtain ⟨x,hx⟩:∃ x,ps[i]? = some x:=⟨_,List.getElem?_eq_getElem t0⟩
 have gx:=jM hx;have j3:(srtN (ps.take i).reverse).length=i:=by rw [length_srtN,List.length_reverse,List.length_take];omega
 have s2:srtN (ps.take (i+1)).reverse=insN x (srtN (ps.take i).reverse):=by rw [dZ hx,List.reverse_append];rfl
 generalize srtN (ps.take i).reverse=S at *;obtain ⟨a,c,rfl,y0⟩:=aM h0;have o0:Sl (λ k=>w1.heap.size≤k) w2 1 a i c (bC S):=y0.mono λ k hk=>hk.1;have m1:=y0.cap;refine dU 1 (λ e w3=>Sub [(9,.int .i64 (i:Int)),(8,.slice a i c),(6,.pointer (some ⟨sb,0,none⟩))] e∧w2=w3) ?_ ?_;rotate_left
 ·repeat refine aF ?_
  exact ⟨⟨rfl,rfl,rfl,trivial⟩,rfl⟩
 rintro e _ ⟨g0,rfl⟩;refine bD (e':=[(9,_),(8,_),(6,_)]) ?_ g0;clear g0;refine T.seq (T.block ?_);have q1:(S.takeWhile λ y=>decide (y<x)).length≤S.length:=dX _ _;refine dU 2 (λ e w3=>Sub [(10,.int .i64 (((S.takeWhile λ y=>decide (y<x)).length:Nat):Int)),(9,.int .i64 (i:Int)),(8,.slice a i c),(6,.pointer (some ⟨sb,0,none⟩))] e∧Grow w2 w3) ?_ ?_;rotate_left
 ·obtain ⟨t,n0⟩:∃ t,t=(S.takeWhile λ y=>decide (y<x)).length:=⟨_,rfl⟩
  rw [← n0] at q1 ⊢;repeat refine aF ?_
  refine aX (S:=Nat) (λ k=>[(10,.int .i64 (k:Int)),(9,.int .i64 (i:Int)),(8,.slice a i c),(6,.pointer (some ⟨sb,0,none⟩))]) (λ k w3=>k≤t∧Grow w2 w3) (λ k=>t-k) 0 ⟨rfl,rfl,rfl,rfl,trivial⟩ ⟨Nat.zero_le _,Grow.refl _⟩ ?_;rintro k w3 ⟨hk,i0⟩;have x0:=k0.grow i0;have a0:=p0.grow i0;have f0:=o0.grow i0;by_cases r1:k<i;rotate_left
  ·obtain rfl:k=i:=by omega
   obtain rfl:k=t:=by omega
   repeat refine aF ?_
   apply T.any 17 [is _,is _,is _,is _,is _,is _,is _,is _,is _,is _,is _,is _,is _,is _,is _,is _,is _];(· kernel_rfl);(· ((repeat' (first|exact aN|refine aK ?_ ?_));(iterate 17 (· (refine yQ λ wq _ _ e0=>?_;(repeat refine aF ?_);exact aD rfl yG rfl)))));(rintro _ _ _ s1 _ _;(refine yT ?_))
   repeat refine aF ?_
   exact ⟨⟨rfl,rfl,rfl,rfl,trivial⟩,yG⟩
  obtain ⟨y,hy⟩:∃ y,S[k]? = some y:=⟨_,List.getElem?_eq_getElem oM⟩
  have gy:=jM hy;by_cases o2:k<t
  ·have x1:y<x:=by
    have:=gB (λ y=>decide (y<x)) S k y oM hy;simpa using this
   repeat refine aF ?_
   apply T.any 17 [is _,is _,is _,is _,is _,is _,is _,is _,is _,is _,is _,is _,is _,is _,is _,is _,is _];(· kernel_rfl);(· ((repeat' (first|exact aN|refine aK ?_ ?_));(iterate 17 (· (refine yQ λ wq _ _ e0=>?_;(repeat (first|refine aF ?_|(refine aI ?_;first|refine aC (j:=k) rfl rfl rfl r1 (Nat.mul_one _) ⟨_,_,f0.grow (by assumption)⟩ rfl ?_|refine aC (j:=i) rfl rfl rfl t0 (Nat.mul_one _) ⟨_,_,a0.grow (by assumption)⟩ rfl ?_)|(refine aQ ?_;first|refine aS rfl ((f0.grow (by assumption)).row.cell gy) rfl ?_|refine aS rfl ((a0.grow (by assumption)).row.cell gx) rfl ?_)));exact aD rfl yG rfl)))));(rintro _ _ _ s1 _ _;(refine yT ?_))
   repeat refine aF ?_
   exact aE (k+1) ⟨rfl,rfl,rfl,rfl,trivial⟩ ⟨o2,yG⟩ oM
  ·obtain rfl:k=t:=by omega
   have x1:¬ y<x:=by
    have:=jI (λ y=>decide (y<x)) S y (by rw [← n0];exact hy);simpa using this
   repeat refine aF ?_
   apply T.any 17 [is _,is _,is _,is _,is _,is _,is _,is _,is _,is _,is _,is _,is _,is _,is _,is _,is _];(· kernel_rfl);(· ((repeat' (first|exact aN|refine aK ?_ ?_));(iterate 17 (· (refine yQ λ wq _ _ e0=>?_;(repeat (first|refine aF ?_|(refine aI ?_;first|refine aC (j:=k) rfl rfl rfl r1 (Nat.mul_one _) ⟨_,_,f0.grow (by assumption)⟩ rfl ?_|refine aC (j:=i) rfl rfl rfl t0 (Nat.mul_one _) ⟨_,_,a0.grow (by assumption)⟩ rfl ?_)|(refine aQ ?_;first|refine aS rfl ((f0.grow (by assumption)).row.cell gy) rfl ?_|refine aS rfl ((a0.grow (by assumption)).row.cell gx) rfl ?_)));exact aD rfl yG rfl)))));(rintro _ _ _ s1 _ _;(refine yT ?_))
   repeat refine aF ?_
   exact ⟨⟨rfl,rfl,rfl,rfl,trivial⟩,yG⟩
 rintro e w3 ⟨g0,i0⟩;refine bD (e':=[(10,_),(9,_),(8,_),(6,_)]) ?_ g0;clear g0;obtain ⟨t,n0⟩:∃ t,t=(S.takeWhile λ y=>decide (y<x)).length:=⟨_,rfl⟩
 have z0:insN x S=S.take t++x::S.drop t:=by rw [n0];rfl
 rw [← n0] at q1 ⊢;have j0:=aO h0 i0;have x0:=k0.grow i0;have a0:=p0.grow i0;have f0:=o0.grow i0;have z3:=i0.size;have j1:=u0.trans i0
 have y1:Sl (λ k=>w1.heap.size≤k) w3 1 (eL a c t 1) (i-t) (c-t) (bC (S.drop t)):=by
  have:=eW (l:=t) (h:=i) (mm:=c) f0 oM (Nat.le_refl _) m1 (Nat.le_refl _);rw [List.take_of_length_le (by rw [List.length_drop,length_ints'];omega),Nat.mul_one] at this;simpa [bC,List.map_drop] using this
 apply T.anyL 15 14 [is (.slice a i c),is (.int .i64 (t:Int)),is (.slice a t c),is (.pointer (some ⟨sb,0,none⟩)),is _,is _,is (.slice pa ps.length pc),is (.int .i64 (i:Int)),is _,is (.int .i64 (x:Int)),own w3.heap.size 3 1 1 (bC [x]),is (.slice a i c),is (.int .i64 (t:Int)),is (.slice (eL a c t 1) (i-t) (c-t)),own w3.heap.size 3 1 (1+(i-t)) (bC [x]++bC (S.drop t))]
 ·rfl
 ·rfl
 ·repeat' (first|exact aN|refine aK ?_ ?_)
  iterate 2
   ·refine yQ λ wq _ _ e0=>?_;repeat refine aF ?_
    exact aD rfl yG rfl
  ·refine yQ λ wq _ _ e0=>?_;refine cL ?_;refine dF (l:=0) (h:=t) (mm:=c) rfl (aP _) (bI rfl rfl) (aP _) (by intro h;cases h) oM oM oM oM oM rfl ?_;rw [slAd_own j0 c];repeat refine aF ?_
   exact aD rfl yG rfl
  iterate 7
   ·refine yQ λ wq _ _ e0=>?_;repeat (first|(refine aI ?_;refine aC (j:=i) rfl rfl rfl t0 (Nat.mul_one _) ⟨_,_,a0.grow e0⟩ rfl ?_)|(refine aQ ?_;refine aS rfl ((a0.grow e0).row.cell gx) rfl ?_)|refine yC ?_)
    exact aD rfl yG rfl
  ·refine yQ λ wq _ _ e0=>?_;have zq:=e0.size;refine TL.buildSlice rfl rfl rfl rfl rfl ?_;intro b' wa i3 r2 d3 d2 x2;repeat refine aF ?_
   exact aD rfl yG (own_lit r2 oM rfl dM)
  iterate 2
   ·refine yQ λ wq _ _ e0=>?_;repeat refine aF ?_
    exact aD rfl yG rfl
  ·refine yQ λ wq _ _ e0=>?_;refine cL ?_;refine dF (l:=t) (h:=i) (mm:=c) rfl (bI rfl rfl) (aP _) (aP _) (by intro h;rfl) oM oM oM oM oM rfl ?_;repeat refine aF ?_
   exact aD rfl yG rfl
  ·(((refine bW rfl rfl rfl ?_);( intro wq _ _ e0;(repeat (refine aJ rfl rfl ?_;intro vq m0;try (obtain rfl:=m0)));(refine aZ ?_))))
   have zq:=e0.size;have ho:wq.ownsRow w3.heap.size 3 1 vq 1 (bC [x]):=m0;refine TL.append rfl rfl ho (y1.grow e0) (gC _) (by unfold maxLen;omega) oM oM rfl ?_;intro v' wr q0 q2 _;repeat refine aF ?_
   exact one_loose rfl (aL q2 zq (λ k hk=>(aR ho hk).1) (Below.refl _ _)) q0
 intro w5 u2 h3 g1 _ _;((((repeat (refine aJ rfl rfl ?_;intro vq m0;try (obtain rfl:=m0)));(refine aZ ?_))))
 have h2:w5.ownsRow w3.heap.size 3 1 vq (1+(i-t)) (bC [x]++bC (S.drop t)):=m0;obtain ⟨qa,qc,rfl,f2⟩:=aM h2;have z5:=g1.size;obtain ⟨v',⟨a',c',e1,rfl⟩,v0,g3⟩:=own_cut (aO j0 g1) (show t≤i by omega);cases e1
 refine TL.append rfl rfl v0 f2 (λ u hu=>by
  rcases List.mem_append.1 hu with hu|hu
  ·exact gC _ u hu
  ·exact gC _ u hu) (by unfold maxLen;omega) oM oM rfl ?_
 intro v6 w6 s0 f1 _;have h1:Grow w1 w6:=grow_own (j1.trans g1) v0 f1;repeat refine aF ?_
 refine aE (v6,i+1) ⟨rfl,rfl,rfl,trivial⟩ ⟨t0,?_,h1⟩ (by simp only;omega);simp only;rw [s2,z0];have e2:bC (S.take t++x::S.drop t)=(bC S).take (t*1)++(bC [x]++bC (S.drop t)):=by simp [bC,List.map_take]
 rw [e2];rwa [show t+(1+(i-t))=i+1 by omega] at s0
theorem zeros_ws (n:Nat):(madeCells (Value.int IntKind.u64 0).cells (n*1)).toList=kM (List.replicate n 0):=by
 have h0:∀ x:Nat,(Value.int IntKind.u64 0).cells[x%(Value.int IntKind.u64 0).cells.size]! = .int .u64 0:=λ x=>by
  rw [show (Value.int IntKind.u64 0).cells = #[.int .u64 0] from rfl];simp [Nat.mod_one]
 simp only [kM,madeCells,Nat.mul_one,Array.toList_map,Array.toList_range,h0,List.map_replicate];rw [List.map_const',List.length_range];rfl
theorem keep_n {F:Nat→Prop} {w:World} {L:PL} {g:Pg} (h:PgAt w L g) {a:Option Addr} {n c:Nat} {qs:List Nat} (hs:Sl F w 1 a n c (bC qs)) (hF:∀ k,F k→k<w.heap.size) (hq:∀ q∈qs,bK g q=true) (hn:n≤1000000) :
  Calls Tryz.prog 23 #[.pointer (some ⟨L.p,0,none⟩),.slice a n c] w (Ret λ v w'=>∃ L':PL,L'.p=L.p∧L'.d=L.d∧L'.m=L.m∧L'.s=L.s∧w.heap.size≤L'.u∧v=.tuple #[.int .i64 ((iF g.words:Int)-(iF (lA g qs):Int)),.int .i64 0]∧PgAt w' L' (hX g qs)∧ButS (λ k=>k=L.p) w w'):=by
 have x1:=bR hs;subst x1;have h3:=hs.le;refine V.calls (args:=[_,_]) Tryz.func23 rfl Tryz.ntmps23 rfl rfl ?_;have hb:=h.blk;have hu:=h.used;have j3:=h.cnt;have g3:=h.ok.wl;unfold pgc at hb;have g2:=h.lts;repeat (first|(refine aB 85 ?_;refine aA rfl (valid_c h) rfl ?_;rintro _ _ ⟨rfl,rfl⟩)|refine yC ?_)
 refine jA (c:=g.words.length) (z:=.int .u64 0) rfl rfl oM (by unfold maxLen;omega) rfl ?_;intro b1 w1 k3 h0 h1;have m0:=blk_of_own h0;rw [zeros_ws] at m0;have z1:=h1.size;repeat (first|refine aF ?_|refine yI λ bk w' hg n0 u1 s1=>?_)
 have f0:Grow w w':=h1.trans hg;have t0:Blk w' b1 168 (kM (List.replicate g.words.length 0)):=m0.grow hg;have s2:Blk w' bk 150 [.pointer none,.pointer none,.int .i64 0,.slice (some ⟨b1,0,none⟩) g.words.length g.words.length]:=n0;have z0:=f0.size;have u2:b1<w1.heap.size:=m0.lt;have o0:b1≠bk:=by omega
 clear n0 h0 m0 hg;obtain ⟨w0,rfl⟩:=yE w';have s0:=keep_div h.ok hq;rw [List.length_replicate] at s0
 refine aX (S:=Nat) (λ i=>[(23,.int .i64 (i:Int)),(22,.int .i64 (qs.length:Int)),(21,.slice a qs.length c),(6,.pointer (some ⟨bk,0,none⟩)),(0,.pointer (some ⟨L.p,0,none⟩))])
  (λ i w2=>i≤qs.length∧Blk w2 b1 168 (kM ((qs.take i).foldl gX (List.replicate g.words.length 0)))∧But b1 w0 w2) (λ i=>qs.length-i) 0 ⟨rfl,rfl,rfl,rfl,rfl,trivial⟩ ⟨Nat.zero_le _,t0,But.refl _ _⟩ ?_
 rintro i w2 ⟨hi,i0,a0⟩;have z2:=a0.size;have l0:PgAt w2 L g:=(h.grow f0).keep (λ k hk=>a0.block k oM oM);have r2:Blk w2 bk 150 [.pointer none,.pointer none,.int .i64 0,.slice (some ⟨b1,0,none⟩) g.words.length g.words.length]:=cG a0 s2 (Ne.symm o0);have x0:Sl F w2 1 a qs.length c (bC qs):=hs.go ((Carry.grow f0).trans (Carry.but a0 (λ k hk _=>by have:=hF k hk;omega)));by_cases y0:i<qs.length
 ·obtain ⟨x,hx⟩:∃ q,qs[i]? = some q:=⟨_,List.getElem?_eq_getElem y0⟩
  have v0:=List.mem_of_getElem? hx;have u0:=hq x v0;have f3:=dV u0;have j1:w2.cell? (at' a i)=some (.int .i64 (x:Int)):=x0.row.cell (by simp [bC,hx]);have j0:=has_c l0 x oM;rw [u0] at j0;have r1:qs.take (i+1)=qs.take i++[x]:=by rw [List.take_add_one,hx];rfl
  have d2:((qs.take i).foldl gX (List.replicate g.words.length 0)).length=g.words.length:=by rw [lJ,List.length_replicate]
  have y2:∀ y∈(qs.take i).foldl gX (List.replicate g.words.length 0),y<18446744073709551616:=marks_64 (λ y hy=>by rw [(List.mem_replicate.1 hy).2];decide) (λ y hy=>by rw [List.length_replicate];exact s0 y (List.mem_of_mem_take hy));repeat (first|(refine aI ?_;refine aC (j:=i) rfl rfl rfl y0 (Nat.mul_one _) ⟨_,_,x0⟩ rfl ?_)|(refine aB 91 ?_;refine aA rfl (j0) rfl ?_;rintro _ _ ⟨rfl,rfl⟩)|refine yC ?_)
  refine aB 92 ?_;refine aA rfl (mark_c r2 i0 d2 y2 x (s0 x v0) oM) rfl ?_;rintro _ w3 ⟨e2,k0⟩;repeat refine aF ?_
  exact aE (i+1) ⟨rfl,rfl,rfl,rfl,rfl,trivial⟩ ⟨oM,by rw [r1,List.foldl_append];exact e2,⟨k0.os.trans a0.os,k0.tape.trans a0.tape,k0.output.trans a0.output,Nat.le_trans a0.size k0.size,λ k hk g1=>(k0.block k oM g1).trans (a0.block k hk g1)⟩⟩ oM
 ·obtain rfl:i=qs.length:=by omega
  rw [List.take_length] at i0;have j2:qs.foldl gX (List.replicate g.words.length 0)=lA g qs:=rfl;rw [j2] at i0;have p0:(lA g qs).length=g.words.length:=by unfold lA;rw [lJ,List.length_replicate]
  have e1:=keep_ok h.ok hq;have q0:∀ y∈lA g qs,y<18446744073709551616:=e1.w64;have m1:∀ w',Grow w2 w'→Sl (λ k=>k=L.u) w' 1 (some ⟨L.u,0,none⟩) g.words.length g.words.length (kM g.words):=λ w' gr=>aU (sz:=1) (m:=g.words.length) (l0.used.grow gr) (by rw [gG,Nat.mul_one]) (by unfold maxLen;omega);have h2:∀ w',Grow w2 w'→Sl (λ k=>k=b1) w' 1 (some ⟨b1,0,none⟩) g.words.length g.words.length (kM (lA g qs)):=λ w' gr=>aU (sz:=1) (m:=g.words.length) (i0.grow gr) (by rw [gG,Nat.mul_one,p0]) (by unfold maxLen;omega);have x2:=l0.blk;unfold pgc at x2;have o1:=onesW_le g.words;have o2:=onesW_le (lA g qs);rw [p0] at o2;repeat refine aF ?_
  apply T.any 11 [is (.pointer (some ⟨L.p,0,none⟩)),is (.pointer (some ⟨L.p,0,none⟩)),is (.pointer (some ⟨L.p,3,none⟩)),is (.slice (some ⟨L.u,0,none⟩) g.words.length g.words.length),is (.int .i64 (iF g.words:Int)),is (.pointer (some ⟨bk,0,none⟩)),is (.pointer (some ⟨bk,0,none⟩)),is (.pointer (some ⟨bk,3,none⟩)),is (.slice (some ⟨b1,0,none⟩) g.words.length g.words.length),is (.int .i64 (iF (lA g qs):Int)),is (.int .i64 ((iF g.words:Int)-(iF (lA g qs):Int)))]
  ·rfl
  ·repeat' (first|exact aN|refine aK ?_ ?_)
   iterate 4
    ·refine yQ λ wq _ _ g0=>?_;repeat refine aF ?_
     exact aD rfl yG rfl
   ·refine yQ λ wq _ _ g0=>?_;repeat (first|(refine aB 86 ?_;refine aA rfl (total_c _ _ _ _ _ _ (m1 _ g0) h.ok.w64 oM) rfl ?_;rintro _ _ ⟨rfl,rfl⟩)|refine yC ?_)
    exact aD rfl yG rfl
   iterate 4
    ·refine yQ λ wq _ _ g0=>?_;repeat refine aF ?_
     exact aD rfl yG rfl
   ·refine yQ λ wq _ _ g0=>?_;repeat (first|(refine aB 86 ?_;refine aA rfl (total_c _ _ _ _ _ _ (h2 _ g0) q0 oM) rfl ?_;rintro _ _ ⟨rfl,rfl⟩)|refine yC ?_)
    exact aD rfl yG rfl
   ·refine yQ λ wq _ _ g0=>?_;refine TL.subI rfl rfl oM oM rfl ?_;repeat refine aF ?_
    exact aD rfl yG rfl
  ·intro w6 d3 i3 e0 _ _;((refine yT ?_))
   repeat (first|refine aF ?_|refine yJ λ w' hu n0 u1=>?_)
   have z6:=e0.size;have hn:=h.ne;obtain ⟨f,f1,f2⟩:=l0.f;have q1:=hu.block L.d oM;have q2:=hu.block L.m oM;refine fJ rfl rfl ⟨_,rfl,⟨L.p,L.d,b1,L.m,L.s⟩,rfl,rfl,rfl,rfl,by simp only;omega,rfl,⟨?_,(i0.grow e0).upd hu (by simp only;omega),e1,h.cnt,⟨f,DkAt.keep (DkAt.grow e0 f1) q1 q2,λ m hm=>?_⟩,h.lt,λ m hm=>h.bl m (hq m ?_),by simp only;omega⟩,?_⟩
   ·show Blk w' L.p 150 (pgc L.p L.d b1 g.count (lA g qs).length);rw [p0];exact n0
   ·rw [jX h.ok hq,decide_eq_true_eq] at hm;exact f2 m (hq m hm)
   ·rw [jX h.ok hq,decide_eq_true_eq] at hm;exact hm
   ·refine ⟨hu.os.trans (e0.1.os.trans (a0.os.trans f0.1.os)),hu.tape.trans (e0.1.tape.trans (a0.tape.trans f0.1.tape)),hu.output.trans (e0.1.output.trans (a0.output.trans f0.1.output)),oM,λ k hk y1=>?_⟩;exact (hu.block k y1).trans ((e0.block k oM).trans ((a0.block k oM oM).trans (f0.block k hk)))
theorem keep_c {F:Nat→Prop} {w:World} {L:PL} {g:Pg} (h:PgAt w L g) {a:Option Addr} {n c:Nat} {qs:List Nat} (hs:Sl F w 1 a n c (bC qs)) (hF:∀ k,F k→k<w.heap.size) (hq:∀ q∈qs,bK g q=true) (hn:n≤1000000) :
  Calls Tryz.prog 23 #[.pointer (some ⟨L.p,0,none⟩),.slice a n c] w (Ret λ v w'=>∃ L':PL,L'.p=L.p∧L'.d=L.d∧L'.m=L.m∧L'.s=L.s∧w.heap.size≤L'.u∧(∃ k:Int,v=.tuple #[.int .i64 k,.int .i64 0])∧PgAt w' L' (hX g qs)∧ButS (λ k=>k=L.p) w w') :=
 Calls.mono (keep_n h hs hF hq hn) λ y w' hy=>hy.mono λ v w' ⟨L',h1,h2,h3,h4,h5,h6,h7⟩=>⟨L',h1,h2,h3,h4,h5,⟨_,h6⟩,h7⟩
theorem tready_bad {w:World} {L:PL} {g:Pg} (h:PgAt w L g) (r:Int) (hr : -1≤r) (e0:r≤9223372036854775807) (F F':Nat→Prop) (a a':Option Addr) (n c n' c':Nat) (k v:Bs) (hk:Sl F w 1 a n c (bB k)) (hv:Sl F' w 1 a' n' c' (bB v)) (a0:(dW k&&eR v)=false) :
  Calls Tryz.prog 77 #[.pointer (some ⟨L.p,0,none⟩),.int .i64 r,.slice a n c,.slice a' n' c'] w (Ret λ u w'=>u=.int .i64 2∧Grow w w'):=by
 refine V.calls (args:=[_,_,_,_]) Tryz.func77 rfl Tryz.ntmps77 rfl rfl ?_
 cases hko:dW k with
 | false =>
  repeat (first|(refine aB 93 ?_;refine aA rfl (ready_c h r hr e0) rfl ?_;rintro _ _ ⟨rfl,rfl⟩)|(refine aB 94 ?_;refine aA rfl (key_t hk hko) rfl ?_;rintro _ _ ⟨rfl,rfl⟩)|refine yC ?_)
  exact bA rfl ⟨_,rfl,rfl,yG⟩
 | true =>
  have f0:eR v=false:=by rw [hko] at a0;simpa using a0
  repeat (first|(refine aB 93 ?_;refine aA rfl (ready_c h r hr e0) rfl ?_;rintro _ _ ⟨rfl,rfl⟩)|(refine aB 94 ?_;refine aA rfl (key_t hk hko) rfl ?_;rintro _ _ ⟨rfl,rfl⟩)|(refine aB 148 ?_;refine aA rfl (value_t hv f0) rfl ?_;rintro _ _ ⟨rfl,rfl⟩)|refine yC ?_)
  exact bA rfl ⟨_,rfl,rfl,yG⟩
theorem rootI_in {g:Pg} (hc:g.count≤8192) {a0:Option Nat} (hr:∀ n,a0=some n→bK g n=true) : -1≤dS a0∧dS a0≤9223372036854775807:=by
 cases a0 with
 | none=>show (-1:Int)≤-1∧(-1:Int)≤_;omega
 | some n =>
  have:=dV (hr n rfl);show (-1:Int)≤(n:Int)∧(n:Int)≤_;omega
theorem put_bad {w:World} {L:PL} {g:Pg} (h:PgAt w L g) (a0:Option Nat) (hr:∀ n,a0=some n→bK g n=true) {F F':Nat→Prop} (a a':Option Addr) (m c m' c':Nat) (key v:Bs) (hk:Sl F w 1 a m c (bB key)) (hv:Sl F' w 1 a' m' c' (bB v)) (i0:(dW key&&eR v)=false) :
  Calls Tryz.prog 25 #[.pointer (some ⟨L.p,0,none⟩),.int .i64 (dS a0),.slice a m c,.slice a' m' c'] w (Ret λ u w'=>u=.tuple #[.int .i64 0,.int .i64 2]∧Grow w w'):=by
 have k0:=rootI_in h.cnt hr;refine V.calls (args:=[_,_,_,_]) Tryz.func25 rfl Tryz.ntmps25 rfl rfl ?_;repeat (first|refine aF ?_|refine yI λ bk w' hg g0 j0 h0=>?_)
 rename_i b4 w1 g1 k1 p1 m0 b8 w2 g2 k2 p2 l0;obtain ⟨b9,rfl⟩:=yE bk;refine aB 77 ?_;have f0:Grow w w':=g1.trans (g2.trans hg);refine aA rfl (tready_bad (h.grow f0) _ k0.1 k0.2 _ _ a a' m c m' c' key v (hk.grow f0) (hv.grow f0) i0) rfl ?_;rintro _ w4 ⟨rfl,e0⟩;have k4:=(k1.grow (g2.trans hg)).grow e0;have k8:=(k2.grow hg).grow e0;have k9:=g0.grow e0;have o0:=f0.trans e0;have q:b4=w.heap.size∧b8=b4+1∧b9=b8+1∧b9<w4.heap.size:=by have:=k9.lt;omega
 clear g0 hg f0 e0 k1 k2 g1 g2 j0 h0 p1 m0 p2 l0;repeat (first|refine aF ?_|refine yJ λ w' hu g0 j0=>?_)
 rename_i w5 n0 p0 z5;exact retCC rfl (kG (p0.upd hu oM)) rfl (kG g0) ⟨_,rfl,rfl,aH hu oM (aH n0 oM o0)⟩
end Go.Proofs.YtfpadnmdafiddaaGreatDoor
namespace Go.Proofs
open Go Go.RowKit Go.V Go.Maps Go.Sort Go.Shelf Go.WideShapes
set_option maxRecDepth 20000
set_option maxRecDepth 20000
end Go.Proofs
namespace Go.Proofs.YtfpadnmdafiddaaGreatDoor
open Go Go.RowKit Go.V
theorem TrAt.root_used {g:Pg} {a0:Option Nat} {lv:Nat} {l:bT} {ps:List Nat} (h:TrAt g a0 lv l ps):∀ n,a0=some n→bK g n=true:=by
 rintro n rfl;obtain ⟨h,nd,e0,e1,e2,e3,e4,e5⟩:=h;exact dL e2
structure Aft (w w':World) (L:PL) (g g':Pg) (lv:Nat) (root':Option Nat) (lv':Nat) (l':bT) (ps':List Nat):Prop where
 pg:PgW w' L g'
 ext:Ext g g'
 tr:TrAt g' root' lv' l' ps'
 sp:cC g≤cC g'+(2*lv+1)
 sp2:cC g'≤cC g
 but:ButS L.S w w'
theorem put_any {w:World} {L:PL} {g:Pg} (h:PgW w L g) {a0:Option Nat} {lv:Nat} {l:bT} {ps:List Nat} (ht:TrAt g a0 lv l ps) (n0:lv≤15) (l0:32≤cC g) (a a':Option Addr) (m c m' c':Nat) (key v:Bs) (hk:Sl (λ k=>¬ L.S k) w 1 a m c (bB key)) (hv:Sl (λ k=>¬ L.S k) w 1 a' m' c' (bB v)) (m0:fK key) (k0:fK v) :
  Calls Tryz.prog 25 #[.pointer (some ⟨L.p,0,none⟩),.int .i64 (dS a0),.slice a m c,.slice a' m' c'] w (Ret λ u w'=>∃ (x e:Int) (e0:Option Nat) (g':Pg) (f0:Nat) (l':bT) (g0:List Nat),u=.tuple #[.int .i64 x,.int .i64 e] ∧
   (((dW key&&eR v)=true∧e=0∧x=dS e0∧l'=gQ key v l)∨((dW key&&eR v)=false∧e=2∧e0=a0∧g'=g∧l'=l∧f0=lv))∧Aft w w' L g g' lv e0 f0 l' g0):=by
 cases hb:dW key&&eR v with
 | false =>
  refine Calls.mono (put_bad h.at_ a0 ht.root_used a a' m c m' c' key v hk hv hb) λ y w' hy=>hy.mono λ u w' ⟨hu,hg⟩=>⟨0,2,a0,g,lv,l,ps,hu,.inr ⟨rfl,rfl,rfl,rfl,rfl,rfl⟩,⟨h.grow hg,Ext.refl _,ht,oM,oM,ButS.grow hg⟩⟩
 | true =>
  obtain ⟨i0,h0⟩:=Bool.and_eq_true_iff.1 hb;obtain ⟨n,g',f0,g0,e1,e2,e3,e4,e5,e6,e7⟩:=put_tr h.at_.ok ht i0 h0 oM oM;refine Calls.mono (put_c h.at_ h.tab h.ne0 a0 a a' m c m' c' key v hk hv i0 h0 m0 k0 l0 n e1) λ y w' hy=>hy.mono λ u w' ⟨hu,hp,j0⟩=>⟨(n:Int),0,some n,g',f0,_,g0,hu,.inl ⟨rfl,rfl,rfl,rfl⟩,⟨h.put hp j0,e2,e4,e6,e7,j0⟩⟩
end Go.Proofs.YtfpadnmdafiddaaGreatDoor
namespace Go.V
open Go Go.RowKit
section
variable [Rn]
variable {P:Program} {n:Nat} {l:List Oper} {e:dI} {I:World→Prop} {vs:List Value}
end
end Go.V
namespace Go.Proofs.YtfpadnmdafiddaaGreatDoor
open Go Go.RowKit Go.V
structure TkMid (w v:World) (L:PL) (g0:Pg) (lv0:Nat) (g:Pg) (root:Option Nat) (lv:Nat) (l:bT) (ps:List Nat) (a1:Option Addr) (c1:Nat) (a2:Option Addr) (c2:Nat):Prop where
 pg:PgW v L g
 tr:TrAt g root lv l ps
 ext:Ext g0 g
 sp:cC g0≤cC g+(2*lv0+1)
 sp2:cC g≤cC g0
 was:Sl (λ k=>¬ L.S k) v 1 a1 (usedL g0).length c1 (bC (usedL g0))
 now:Sl (λ k=>¬ L.S k) v 1 a2 (usedL g).length c2 (bC (usedL g))
 gr:Grow w v
theorem TkMid.grow {w v v':World} {L:PL} {g0 g:Pg} {e0 lv:Nat} {a0:Option Nat} {l:bT} {ps:List Nat} {a1 a2:Option Addr} {c1 c2:Nat} (h:TkMid w v L g0 e0 g a0 lv l ps a1 c1 a2 c2) (hg:Grow v v'):TkMid w v' L g0 e0 g a0 lv l ps a1 c1 a2 c2 :=
 ⟨h.pg.grow hg,h.tr,h.ext,h.sp,h.sp2,h.was.grow hg,h.now.grow hg,h.gr.trans hg⟩
def ownS {S:Nat→Prop} (base elem sz m:Nat) (xs:List Value) (hS:∀ k,base≤k→¬ S k):AFact (ButS S) :=
 { G:=λ u _ _ w=>w.ownsRow base elem sz u m xs,st:=λ _ _ _ _ _ g h=>aO h g,firm:=true,fm:=λ _ _ _ _ _ _ sa h=>cB h λ k hk hv=>sa.block k (aR h hv).2 (hS k hk) }
end Go.Proofs.YtfpadnmdafiddaaGreatDoor
