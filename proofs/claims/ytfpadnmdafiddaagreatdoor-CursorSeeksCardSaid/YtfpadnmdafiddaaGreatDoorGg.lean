import Derived.Test.YtfpadnmdafiddaaGreatDoorG0
import Derived.Test.YtfpadnmdafiddaaGreatDoorGf
import Derived.Test.YtfpadnmdafiddaaGreatDoorGe
import Derived.Test.YtfpadnmdafiddaaGreatDoorGa
import Derived.Shelf.SlIterI.Sorted
import Derived.Shelf.SortM.Plain
import Derived.Shelf.SortM.SortNone
import Derived.Test.YtfpadnmdafiddaaGreatDoorGd
set_option linter.all false
set_option maxHeartbeats 16000000
set_option maxRecDepth 100000
namespace Go.Proofs.YtfpadnmdafiddaaGreatDoor
open Go Go.RowKit Go.V
theorem rwalk_c {K:Nat→Prop} {R:RL} {g:Pg}:∀ h,RwC K R g h
 | 0=>rwalk_of 0 (λ h' e=>by cases e)
 | h+1=>rwalk_of (h+1) (λ h' e=>by cases e;exact rwalk_c h)
theorem rbegin_c (p:Nat) (root:Option Nat) (hr:∀ n,root=some n→n<9223372036854775808) (w:World) :
  Calls Tryz.prog 104 #[.pointer (some ⟨p,0,none⟩),.int .i64 (dZ root)] w (Ret λ v w'=>v=.int .i64 0∧w=w'):=by
 refine V.calls (args:=[_,_]) Tryz.func104 rfl Tryz.ntmps104 rfl rfl ?_
 have h1 : -1≤dZ root:=by
  cases root with
  | none=>show (-1:Int)≤-1;omega
  | some n=>show (-1:Int)≤(n:Int);omega
 repeat (first|(refine kU 65 ?_;refine TL.eqNilP rfl rfl rfl ?_)|refine yA ?_)
 exact bA rfl ⟨_,rfl,rfl,rfl⟩
theorem rwhole_c {K:Nat→Prop} {w:World} {R:RL} {g:Pg} (h:RfAt K w R g) {root:Option Nat} {lv:Nat} {l:bT} {ps:List Nat} (ht:TrAt g root lv l ps) (hlv:lv≤16) (hl:l.length≤100000) :
  Calls Tryz.prog 116 #[.pointer (some ⟨R.p,0,none⟩),.int .i64 (dZ root)] w (Ret λ v w'=>∃ sb B pv iv,v=.tuple #[.pointer (some ⟨sb,0,none⟩),.int .i64 0]∧w.heap.size≤sb∧SeenAt w' sb B pv iv ps l lv∧Grow w w'):=by
 have hr:∀ n,root=some n→n<9223372036854775808:=λ n e=>by
  subst e;have:=ht.lt h.ok;omega
 refine V.calls (args:=[_,_]) Tryz.func116 rfl Tryz.ntmps116 rfl rfl ?_;repeat (first|(refine aB 104 ?_;refine aA rfl (rbegin_c R.p root hr _) rfl ?_;rintro _ _ ⟨rfl,rfl⟩)|refine yC ?_|refine yI λ bk w' hg hbk hsz hsz'=>?_)
 have hlts:=h.lts;have hnil:SeenAt w' bk (bk+1) (.slice none 0 0) (.slice none 0 0) [] [] 0:=⟨hbk,World.ownsRow_nil _ _ _ _,⟨[],World.ownsRow_nil _ _ _ _,trivial⟩,oM⟩
 cases root with
 | none =>
  obtain ⟨rfl,rfl,rfl⟩:=ht;have hm:dZ none = -1:=rfl;rw [hm];repeat refine aF ?_
  exact fM rfl rfl ⟨_,rfl,bk,bk+1,_,_,rfl,oM,hnil,hg⟩
 | some n =>
  have hm:dZ (some n)=(n:Int):=rfl;rw [hm];obtain ⟨hh,nd,ps',e1,e2,e3,e4,rfl⟩:=ht;have hps:=e3.pages;have hn0:=dW (dN e2);have hcn:=h.cnt;have ht2:=(h.tight).grow hg;repeat refine aF ?_
  refine aB 168 ?_;refine aA rfl (rwalk_c hh w' bk (bk+1) _ _ [] [] 0 n 1 nd l ps' true none none 0 0 [] [] ht2 (λ k hk=>by have:=hk.2;omega) oM e2 e3 (.inl rfl) e4 (Nat.le_refl _) oM (.inl rfl) (λ p _ hp=>by cases hp) hnil oM (Sl.nil_mk _ _ _) (Sl.nil_mk _ _ _) (λ x _=>⟨.inl rfl,.inl rfl⟩) (by simp only [List.nil_append,List.length_cons];omega) (by simpa using hl)) rfl ?_;rintro _ w2 ⟨rfl,pv,iv,hs,tt⟩;repeat refine aF ?_
  refine fM rfl rfl ⟨_,rfl,bk,bk+1,pv,iv,rfl,oM,?_,?_⟩
  ·have e9:1+hh=lv:=by omega
   rw [e9] at hs;exact hs
  ·have hg2:=tt.size;exact Grow.mk ⟨tt.os.trans hg.1.os,tt.tape.trans hg.1.tape,tt.output.trans hg.1.output,oM,λ k hk=>(tt.block k oM oM (by simp [Value.ownBlock]) (by simp [Value.ownBlock])).trans (hg.block k hk)⟩
def insN (x:Nat) (l:List Nat):List Nat:=l.take (l.takeWhile (λ y=>decide (y<x))).length++x::l.drop (l.takeWhile (λ y=>decide (y<x))).length
theorem insN_mem {x y:Nat} {l:List Nat}:y∈insN x l↔y=x∨y∈l:=by
 unfold insN;generalize (l.takeWhile (λ y=>decide (y<x))).length=k;rw [List.mem_append,List.mem_cons]
 have:y∈l↔y∈l.take k∨y∈l.drop k:=by
  conv=>lhs;rw [← List.take_append_drop k l]
  exact List.mem_append
 rw [this];constructor
 ·rintro (h|h|h)
  ·exact .inr (.inl h)
  ·exact .inl h
  ·exact .inr (.inr h)
 ·rintro (h|h|h)
  ·exact .inr (.inl h)
  ·exact .inl h
  ·exact .inr (.inr h)
theorem length_insN (x:Nat) (l:List Nat):(insN x l).length=l.length+1:=by
 unfold insN;generalize (l.takeWhile (λ y=>decide (y<x))).length=k;rw [List.length_append,List.length_cons,List.length_take,List.length_drop];omega
def srtN:List Nat→List Nat
 | []=>[]
 | x::l=>insN x (srtN l)
theorem srtN_mem {l:List Nat} {y:Nat}:y∈srtN l↔y∈l:=by
 induction l with
 | nil=>exact Iff.rfl
 | cons x l ih=>rw [srtN,insN_mem,ih,List.mem_cons]
theorem length_srtN (l:List Nat):(srtN l).length=l.length:=by
 induction l with
 | nil=>rfl
 | cons x l ih=>rw [srtN,length_insN,ih,List.length_cons]
theorem slAd_own {w:World} {base el sz n c:Nat} {a:Option Addr} {xs:List Value} (h:w.ownsRow base el sz (.slice a n c) n xs) (m:Nat):eP a m 0 sz=a:=by
 obtain ⟨_,⟨e,_⟩|⟨g,cap,cur,e,_⟩⟩:=h
 ·cases e;simp [eP]
 ·cases e;simp [eP,Addr.add_lit]
theorem rreach_c {K:Nat→Prop} {w:World} {R:RL} {g:Pg} (h:RfAt K w R g) {root:Option Nat} {lv:Nat} {l:bT} {ps:List Nat} (ht:TrAt g root lv l ps) (hlv:lv≤16) (hl:l.length≤100000) :
  Calls Tryz.prog 35 #[.pointer (some ⟨R.p,0,none⟩),.int .i64 (dZ root)] w (Ret λ v w'=>∃ a c,v=.tuple #[.slice a ps.length c,.int .i64 0]∧Sl (λ k=>w.heap.size≤k) w' 1 a ps.length c (bC (srtN ps.reverse))∧Grow w w'):=by
 have hpl:=ht.pages;refine V.calls (args:=[_,_]) Tryz.func35 rfl Tryz.ntmps35 rfl rfl ?_;repeat refine aF ?_
 refine aB 116 ?_;refine aA rfl (rwhole_c h ht hlv hl) rfl ?_;rintro _ w1 ⟨sb,B,pv,iv,rfl,hsb,hs,hg1⟩;obtain ⟨pa,pc,rfl,hps⟩:=aM hs.pg;have hblk:=hs.blk;have z1:=hg1.size;repeat refine aF ?_
 refine aX (S:=Value×Nat) (λ s=>[(9,.int .i64 (s.2:Int)),(8,s.1),(6,.pointer (some ⟨sb,0,none⟩))]) (λ s w2=>s.2≤ps.length∧w2.ownsRow w1.heap.size 3 1 s.1 s.2 (bC (srtN (ps.take s.2).reverse))∧Grow w1 w2) (λ s=>ps.length-s.2) (.slice none 0 0,0) ⟨rfl,rfl,rfl,trivial⟩ ⟨Nat.zero_le _,World.ownsRow_nil _ _ _ _,Grow.refl _⟩ ?_;rintro ⟨v,i⟩ w2 ⟨hi,hown,hg2⟩;simp only at hi hown;have z2:=hg2.size;have hblk2:=hblk.grow hg2;have hps2:=hps.grow hg2;by_cases hlt:i<ps.length;rotate_left
 ·obtain rfl:i=ps.length:=by omega
  rw [List.take_length] at hown;obtain ⟨a,c,rfl,hsl⟩:=aM hown;repeat refine aF ?_
  exact fM rfl rfl ⟨_,rfl,a,c,rfl,hsl.mono (λ k hk=>by have:=hk.1;omega),hg1.trans hg2⟩
 obtain ⟨x,hx⟩:∃ x,ps[i]? = some x:=⟨_,List.getElem?_eq_getElem hlt⟩
 have gx:=jR hx;have hSl:(srtN (ps.take i).reverse).length=i:=by rw [length_srtN,List.length_reverse,List.length_take];omega
 have hS':srtN (ps.take (i+1)).reverse=insN x (srtN (ps.take i).reverse):=by rw [eA hx,List.reverse_append];rfl
 generalize srtN (ps.take i).reverse=S at *;obtain ⟨a,c,rfl,hsl⟩:=aM hown;have hsl':Sl (λ k=>w1.heap.size≤k) w2 1 a i c (bC S):=hsl.mono λ k hk=>hk.1;have hcap:=hsl.cap;refine dV 1 (λ e w3=>Sub [(9,.int .i64 (i:Int)),(8,.slice a i c),(6,.pointer (some ⟨sb,0,none⟩))] e∧w2=w3) ?_ ?_;rotate_left
 ·repeat refine aF ?_
  exact ⟨⟨rfl,rfl,rfl,trivial⟩,rfl⟩
 rintro e _ ⟨hsub,rfl⟩;refine bD (e':=[(9,_),(8,_),(6,_)]) ?_ hsub;clear hsub;refine T.seq (T.block ?_);have htw:(S.takeWhile λ y=>decide (y<x)).length≤S.length:=dX _ _;refine dV 2 (λ e w3=>Sub [(10,.int .i64 (((S.takeWhile λ y=>decide (y<x)).length:Nat):Int)),(9,.int .i64 (i:Int)),(8,.slice a i c),(6,.pointer (some ⟨sb,0,none⟩))] e∧Grow w2 w3) ?_ ?_;rotate_left
 ·obtain ⟨t,htt⟩:∃ t,t=(S.takeWhile λ y=>decide (y<x)).length:=⟨_,rfl⟩
  rw [← htt] at htw ⊢;repeat refine aF ?_
  refine aX (S:=Nat) (λ k=>[(10,.int .i64 (k:Int)),(9,.int .i64 (i:Int)),(8,.slice a i c),(6,.pointer (some ⟨sb,0,none⟩))]) (λ k w3=>k≤t∧Grow w2 w3) (λ k=>t-k) 0 ⟨rfl,rfl,rfl,rfl,trivial⟩ ⟨Nat.zero_le _,Grow.refl _⟩ ?_;rintro k w3 ⟨hk,hg3⟩;have hblk3:=hblk2.grow hg3;have hps3:=hps2.grow hg3;have hsl3:=hsl'.grow hg3;by_cases hki:k<i;rotate_left
  ·obtain rfl:k=i:=by omega
   obtain rfl:k=t:=by omega
   repeat refine aF ?_
   apply T.any 17 [is _,is _,is _,is _,is _,is _,is _,is _,is _,is _,is _,is _,is _,is _,is _,is _,is _];(· kernel_rfl);(· ((repeat' (first|exact aN|refine aK ?_ ?_));(iterate 17 (· (refine yQ λ wq _ _ hgq=>?_;(repeat refine aF ?_);exact aD rfl yG rfl)))));(rintro _ _ _ hgr _ _;(refine yT ?_))
   repeat refine aF ?_
   exact ⟨⟨rfl,rfl,rfl,rfl,trivial⟩,yG⟩
  obtain ⟨y,hy⟩:∃ y,S[k]? = some y:=⟨_,List.getElem?_eq_getElem oM⟩
  have gy:=jR hy;by_cases hkt:k<t
  ·have hyx:y<x:=by
    have:=gC (λ y=>decide (y<x)) S k y oM hy;simpa using this
   repeat refine aF ?_
   apply T.any 17 [is _,is _,is _,is _,is _,is _,is _,is _,is _,is _,is _,is _,is _,is _,is _,is _,is _];(· kernel_rfl);(· ((repeat' (first|exact aN|refine aK ?_ ?_));(iterate 17 (· (refine yQ λ wq _ _ hgq=>?_;(repeat (first|refine aF ?_|(refine aH ?_;first|refine aC (j:=k) rfl rfl rfl hki (Nat.mul_one _) ⟨_,_,hsl3.grow (by assumption)⟩ rfl ?_|refine aC (j:=i) rfl rfl rfl hlt (Nat.mul_one _) ⟨_,_,hps3.grow (by assumption)⟩ rfl ?_)|(refine aO ?_;first|refine aQ rfl ((hsl3.grow (by assumption)).row.cell gy) rfl ?_|refine aQ rfl ((hps3.grow (by assumption)).row.cell gx) rfl ?_)));exact aD rfl yG rfl)))));(rintro _ _ _ hgr _ _;(refine yT ?_))
   repeat refine aF ?_
   exact aE (k+1) ⟨rfl,rfl,rfl,rfl,trivial⟩ ⟨hkt,yG⟩ oM
  ·obtain rfl:k=t:=by omega
   have hyx:¬ y<x:=by
    have:=jN (λ y=>decide (y<x)) S y (by rw [← htt];exact hy);simpa using this
   repeat refine aF ?_
   apply T.any 17 [is _,is _,is _,is _,is _,is _,is _,is _,is _,is _,is _,is _,is _,is _,is _,is _,is _];(· kernel_rfl);(· ((repeat' (first|exact aN|refine aK ?_ ?_));(iterate 17 (· (refine yQ λ wq _ _ hgq=>?_;(repeat (first|refine aF ?_|(refine aH ?_;first|refine aC (j:=k) rfl rfl rfl hki (Nat.mul_one _) ⟨_,_,hsl3.grow (by assumption)⟩ rfl ?_|refine aC (j:=i) rfl rfl rfl hlt (Nat.mul_one _) ⟨_,_,hps3.grow (by assumption)⟩ rfl ?_)|(refine aO ?_;first|refine aQ rfl ((hsl3.grow (by assumption)).row.cell gy) rfl ?_|refine aQ rfl ((hps3.grow (by assumption)).row.cell gx) rfl ?_)));exact aD rfl yG rfl)))));(rintro _ _ _ hgr _ _;(refine yT ?_))
   repeat refine aF ?_
   exact ⟨⟨rfl,rfl,rfl,rfl,trivial⟩,yG⟩
 rintro e w3 ⟨hsub,hg3⟩;refine bD (e':=[(10,_),(9,_),(8,_),(6,_)]) ?_ hsub;clear hsub;obtain ⟨t,htt⟩:∃ t,t=(S.takeWhile λ y=>decide (y<x)).length:=⟨_,rfl⟩
 have hins:insN x S=S.take t++x::S.drop t:=by rw [htt];rfl
 rw [← htt] at htw ⊢;have hown3:=aS hown hg3;have hblk3:=hblk2.grow hg3;have hps3:=hps2.grow hg3;have hsl3:=hsl'.grow hg3;have z3:=hg3.size;have hg13:=hg2.trans hg3
 have hsd:Sl (λ k=>w1.heap.size≤k) w3 1 (eP a c t 1) (i-t) (c-t) (bC (S.drop t)):=by
  have:=eY (l:=t) (h:=i) (mm:=c) hsl3 oM (Nat.le_refl _) hcap (Nat.le_refl _);rw [List.take_of_length_le (by rw [List.length_drop,length_ints'];omega),Nat.mul_one] at this;simpa [bC,List.map_drop] using this
 apply T.anyL 15 14 [is (.slice a i c),is (.int .i64 (t:Int)),is (.slice a t c),is (.pointer (some ⟨sb,0,none⟩)),is _,is _,is (.slice pa ps.length pc),is (.int .i64 (i:Int)),is _,is (.int .i64 (x:Int)),own w3.heap.size 3 1 1 (bC [x]),is (.slice a i c),is (.int .i64 (t:Int)),is (.slice (eP a c t 1) (i-t) (c-t)),own w3.heap.size 3 1 (1+(i-t)) (bC [x]++bC (S.drop t))]
 ·rfl
 ·rfl
 ·repeat' (first|exact aN|refine aK ?_ ?_)
  iterate 2
   ·refine yQ λ wq _ _ hgq=>?_;repeat refine aF ?_
    exact aD rfl yG rfl
  ·refine yQ λ wq _ _ hgq=>?_;refine cG ?_;refine dE (l:=0) (h:=t) (mm:=c) rfl (aP _) (bI rfl rfl) (aP _) (by intro h;cases h) oM oM oM oM oM rfl ?_;rw [slAd_own hown3 c];repeat refine aF ?_
   exact aD rfl yG rfl
  iterate 7
   ·refine yQ λ wq _ _ hgq=>?_;repeat (first|(refine aH ?_;refine aC (j:=i) rfl rfl rfl hlt (Nat.mul_one _) ⟨_,_,hps3.grow hgq⟩ rfl ?_)|(refine aO ?_;refine aQ rfl ((hps3.grow hgq).row.cell gx) rfl ?_)|refine yC ?_)
    exact aD rfl yG rfl
  ·refine yQ λ wq _ _ hgq=>?_;have zq:=hgq.size;refine TL.buildSlice rfl rfl rfl rfl rfl ?_;intro b' wa hga hba hsa hsb' hsc;repeat refine aF ?_
   exact aD rfl yG (own_lit hba oM rfl dM)
  iterate 2
   ·refine yQ λ wq _ _ hgq=>?_;repeat refine aF ?_
    exact aD rfl yG rfl
  ·refine yQ λ wq _ _ hgq=>?_;refine cG ?_;refine dE (l:=t) (h:=i) (mm:=c) rfl (bI rfl rfl) (aP _) (aP _) (by intro h;rfl) oM oM oM oM oM rfl ?_;repeat refine aF ?_
   exact aD rfl yG rfl
  ·(((refine bX rfl rfl rfl ?_);( intro wq _ _ hgq;(repeat (refine aJ rfl rfl ?_;intro vq hvq;try (obtain rfl:=hvq)));(refine aZ ?_))))
   have zq:=hgq.size;have ho:wq.ownsRow w3.heap.size 3 1 vq 1 (bC [x]):=hvq;refine TL.append rfl rfl ho (hsd.grow hgq) (gD _) (by unfold maxLen;omega) oM oM rfl ?_;intro v' wr hownr hgb _;repeat refine aF ?_
   exact one_loose rfl (aL hgb zq (λ k hk=>(aT ho hk).1) (Below.refl _ _)) hownr
 intro w5 lo5 hi5 hg5 _ _;((((repeat (refine aJ rfl rfl ?_;intro vq hvq;try (obtain rfl:=hvq)));(refine aZ ?_))))
 have ho5:w5.ownsRow w3.heap.size 3 1 vq (1+(i-t)) (bC [x]++bC (S.drop t)):=hvq;obtain ⟨qa,qc,rfl,hqs⟩:=aM ho5;have z5:=hg5.size;obtain ⟨v',⟨a',c',e1,rfl⟩,hcut,hob⟩:=own_cut (aS hown3 hg5) (show t≤i by omega);cases e1
 refine TL.append rfl rfl hcut hqs (λ u hu=>by
  rcases List.mem_append.1 hu with hu|hu
  ·exact gD _ u hu
  ·exact gD _ u hu) (by unfold maxLen;omega) oM oM rfl ?_
 intro v6 w6 hown6 hgb6 _;have hg16:Grow w1 w6:=grow_own (hg13.trans hg5) hcut hgb6;repeat refine aF ?_
 refine aE (v6,i+1) ⟨rfl,rfl,rfl,trivial⟩ ⟨hlt,?_,hg16⟩ (by simp only;omega);simp only;rw [hS',hins];have e2:bC (S.take t++x::S.drop t)=(bC S).take (t*1)++(bC [x]++bC (S.drop t)):=by simp [bC,List.map_take]
 rw [e2];rwa [show t+(1+(i-t))=i+1 by omega] at hown6
theorem zeros_ws (n:Nat):(madeCells (Value.int IntKind.u64 0).cells (n*1)).toList=kV (List.replicate n 0):=by
 have h0:∀ x:Nat,(Value.int IntKind.u64 0).cells[x%(Value.int IntKind.u64 0).cells.size]! = .int .u64 0:=λ x=>by
  rw [show (Value.int IntKind.u64 0).cells = #[.int .u64 0] from rfl];simp [Nat.mod_one]
 simp only [kV,madeCells,Nat.mul_one,Array.toList_map,Array.toList_range,h0,List.map_replicate];rw [List.map_const',List.length_range];rfl
theorem keep_n {F:Nat→Prop} {w:World} {L:PL} {g:Pg} (h:PgAt w L g) {a:Option Addr} {n c:Nat} {qs:List Nat} (hs:Sl F w 1 a n c (bC qs)) (hF:∀ k,F k→k<w.heap.size) (hq:∀ q∈qs,bL g q=true) (hn:n≤1000000) :
  Calls Tryz.prog 23 #[.pointer (some ⟨L.p,0,none⟩),.slice a n c] w (Ret λ v w'=>∃ L':PL,L'.p=L.p∧L'.d=L.d∧L'.m=L.m∧L'.s=L.s∧w.heap.size≤L'.u∧v=.tuple #[.int .i64 ((iF g.words:Int)-(iF (lH g qs):Int)),.int .i64 0]∧PgAt w' L' (jJ g qs)∧ButS (λ k=>k=L.p) w w'):=by
 have hql:=bR hs;subst hql;have hnl:=hs.le;refine V.calls (args:=[_,_]) Tryz.func23 rfl Tryz.ntmps23 rfl rfl ?_;have hb:=h.blk;have hu:=h.used;have hcn:=h.cnt;have hwl:=h.ok.wl;unfold pgc at hb;have hlts:=h.lts;repeat (first|(refine aB 85 ?_;refine aA rfl (valid_c h) rfl ?_;rintro _ _ ⟨rfl,rfl⟩)|refine yC ?_)
 refine jB (c:=g.words.length) (z:=.int .u64 0) rfl rfl oM (by unfold maxLen;omega) rfl ?_;intro b1 w1 hb1 hown hg1;have hbu:=blk_of_own hown;rw [zeros_ws] at hbu;have z1:=hg1.size;repeat (first|refine aF ?_|refine yI λ bk w' hg hbk hsz hsz'=>?_)
 have hG0:Grow w w':=hg1.trans hg;have hbu0:Blk w' b1 168 (kV (List.replicate g.words.length 0)):=hbu.grow hg;have hk0:Blk w' bk 150 [.pointer none,.pointer none,.int .i64 0,.slice (some ⟨b1,0,none⟩) g.words.length g.words.length]:=hbk;have z0:=hG0.size;have hg1z:b1<w1.heap.size:=hbu.lt;have hne1:b1≠bk:=by omega
 clear hbk hown hbu hg;obtain ⟨w0,rfl⟩:=yE w';have hdv:=keep_div h.ok hq;rw [List.length_replicate] at hdv
 refine aX (S:=Nat) (λ i=>[(23,.int .i64 (i:Int)),(22,.int .i64 (qs.length:Int)),(21,.slice a qs.length c),(6,.pointer (some ⟨bk,0,none⟩)),(0,.pointer (some ⟨L.p,0,none⟩))])
  (λ i w2=>i≤qs.length∧Blk w2 b1 168 (kV ((qs.take i).foldl gY (List.replicate g.words.length 0)))∧But b1 w0 w2) (λ i=>qs.length-i) 0 ⟨rfl,rfl,rfl,rfl,rfl,trivial⟩ ⟨Nat.zero_le _,hbu0,But.refl _ _⟩ ?_
 rintro i w2 ⟨hi,hm2,hbt⟩;have z2:=hbt.size;have hp2:PgAt w2 L g:=(h.grow hG0).keep (λ k hk=>hbt.block k oM oM);have hk2:Blk w2 bk 150 [.pointer none,.pointer none,.int .i64 0,.slice (some ⟨b1,0,none⟩) g.words.length g.words.length]:=cD hbt hk0 (Ne.symm hne1);have hs2:Sl F w2 1 a qs.length c (bC qs):=hs.go ((Carry.grow hG0).trans (Carry.but hbt (λ k hk _=>by have:=hF k hk;omega)));by_cases hlt:i<qs.length
 ·obtain ⟨x,hx⟩:∃ q,qs[i]? = some q:=⟨_,List.getElem?_eq_getElem hlt⟩
  have hxm:=List.mem_of_getElem? hx;have hxu:=hq x hxm;have hxl:=dW hxu;have hcell:w2.cell? (at' a i)=some (.int .i64 (x:Int)):=hs2.row.cell (by simp [bC,hx]);have hhas:=has_c hp2 x oM;rw [hxu] at hhas;have htk:qs.take (i+1)=qs.take i++[x]:=by rw [List.take_add_one,hx];rfl
  have hml:((qs.take i).foldl gY (List.replicate g.words.length 0)).length=g.words.length:=by rw [lO,List.length_replicate]
  have h64:∀ y∈(qs.take i).foldl gY (List.replicate g.words.length 0),y<18446744073709551616:=marks_64 (λ y hy=>by rw [(List.mem_replicate.1 hy).2];decide) (λ y hy=>by rw [List.length_replicate];exact hdv y (List.mem_of_mem_take hy));repeat (first|(refine aH ?_;refine aC (j:=i) rfl rfl rfl hlt (Nat.mul_one _) ⟨_,_,hs2⟩ rfl ?_)|(refine aB 91 ?_;refine aA rfl (hhas) rfl ?_;rintro _ _ ⟨rfl,rfl⟩)|refine yC ?_)
  refine aB 92 ?_;refine aA rfl (mark_c hk2 hm2 hml h64 x (hdv x hxm) oM) rfl ?_;rintro _ w3 ⟨hm3,hb3⟩;repeat refine aF ?_
  exact aE (i+1) ⟨rfl,rfl,rfl,rfl,rfl,trivial⟩ ⟨oM,by rw [htk,List.foldl_append];exact hm3,⟨hb3.os.trans hbt.os,hb3.tape.trans hbt.tape,hb3.output.trans hbt.output,Nat.le_trans hbt.size hb3.size,λ k hk hkb=>(hb3.block k oM hkb).trans (hbt.block k hk hkb)⟩⟩ oM
 ·obtain rfl:i=qs.length:=by omega
  rw [List.take_length] at hm2;have hkw:qs.foldl gY (List.replicate g.words.length 0)=lH g qs:=rfl;rw [hkw] at hm2;have hlk:(lH g qs).length=g.words.length:=by unfold lH;rw [lO,List.length_replicate]
  have hko:=keep_ok h.ok hq;have hk64:∀ y∈lH g qs,y<18446744073709551616:=hko.w64;have hux:∀ w',Grow w2 w'→Sl (λ k=>k=L.u) w' 1 (some ⟨L.u,0,none⟩) g.words.length g.words.length (kV g.words):=λ w' gr=>aV (sz:=1) (m:=g.words.length) (hp2.used.grow gr) (by rw [gH,Nat.mul_one]) (by unfold maxLen;omega);have hkx:∀ w',Grow w2 w'→Sl (λ k=>k=b1) w' 1 (some ⟨b1,0,none⟩) g.words.length g.words.length (kV (lH g qs)):=λ w' gr=>aV (sz:=1) (m:=g.words.length) (hm2.grow gr) (by rw [gH,Nat.mul_one,hlk]) (by unfold maxLen;omega);have hb2:=hp2.blk;unfold pgc at hb2;have o1:=onesW_le g.words;have o2:=onesW_le (lH g qs);rw [hlk] at o2;repeat refine aF ?_
  apply T.any 11 [is (.pointer (some ⟨L.p,0,none⟩)),is (.pointer (some ⟨L.p,0,none⟩)),is (.pointer (some ⟨L.p,3,none⟩)),is (.slice (some ⟨L.u,0,none⟩) g.words.length g.words.length),is (.int .i64 (iF g.words:Int)),is (.pointer (some ⟨bk,0,none⟩)),is (.pointer (some ⟨bk,0,none⟩)),is (.pointer (some ⟨bk,3,none⟩)),is (.slice (some ⟨b1,0,none⟩) g.words.length g.words.length),is (.int .i64 (iF (lH g qs):Int)),is (.int .i64 ((iF g.words:Int)-(iF (lH g qs):Int)))]
  ·rfl
  ·repeat' (first|exact aN|refine aK ?_ ?_)
   iterate 4
    ·refine yQ λ wq _ _ hgq=>?_;repeat refine aF ?_
     exact aD rfl yG rfl
   ·refine yQ λ wq _ _ hgq=>?_;repeat (first|(refine aB 86 ?_;refine aA rfl (total_c _ _ _ _ _ _ (hux _ hgq) h.ok.w64 oM) rfl ?_;rintro _ _ ⟨rfl,rfl⟩)|refine yC ?_)
    exact aD rfl yG rfl
   iterate 4
    ·refine yQ λ wq _ _ hgq=>?_;repeat refine aF ?_
     exact aD rfl yG rfl
   ·refine yQ λ wq _ _ hgq=>?_;repeat (first|(refine aB 86 ?_;refine aA rfl (total_c _ _ _ _ _ _ (hkx _ hgq) hk64 oM) rfl ?_;rintro _ _ ⟨rfl,rfl⟩)|refine yC ?_)
    exact aD rfl yG rfl
   ·refine yQ λ wq _ _ hgq=>?_;refine TL.subI rfl rfl oM oM rfl ?_;repeat refine aF ?_
    exact aD rfl yG rfl
  ·intro w6 lo6 hi6 hg6 _ _;((refine yT ?_))
   repeat (first|refine aF ?_|refine yJ λ w' hu hbk hsz=>?_)
   have z6:=hg6.size;have hn:=h.ne;obtain ⟨f,f1,f2⟩:=hp2.f;have q1:=hu.block L.d oM;have q2:=hu.block L.m oM;refine fM rfl rfl ⟨_,rfl,⟨L.p,L.d,b1,L.m,L.s⟩,rfl,rfl,rfl,rfl,by simp only;omega,rfl,⟨?_,(hm2.grow hg6).upd hu (by simp only;omega),hko,h.cnt,⟨f,DkAt.keep (DkAt.grow hg6 f1) q1 q2,λ m hm=>?_⟩,h.lt,λ m hm=>h.bl m (hq m ?_),by simp only;omega⟩,?_⟩
   ·show Blk w' L.p 150 (pgc L.p L.d b1 g.count (lH g qs).length);rw [hlk];exact hbk
   ·rw [kI h.ok hq,decide_eq_true_eq] at hm;exact f2 m (hq m hm)
   ·rw [kI h.ok hq,decide_eq_true_eq] at hm;exact hm
   ·refine ⟨hu.os.trans (hg6.1.os.trans (hbt.os.trans hG0.1.os)),hu.tape.trans (hg6.1.tape.trans (hbt.tape.trans hG0.1.tape)),hu.output.trans (hg6.1.output.trans (hbt.output.trans hG0.1.output)),oM,λ k hk hne=>?_⟩;exact (hu.block k hne).trans ((hg6.block k oM).trans ((hbt.block k oM oM).trans (hG0.block k hk)))
theorem keep_c {F:Nat→Prop} {w:World} {L:PL} {g:Pg} (h:PgAt w L g) {a:Option Addr} {n c:Nat} {qs:List Nat} (hs:Sl F w 1 a n c (bC qs)) (hF:∀ k,F k→k<w.heap.size) (hq:∀ q∈qs,bL g q=true) (hn:n≤1000000) :
  Calls Tryz.prog 23 #[.pointer (some ⟨L.p,0,none⟩),.slice a n c] w (Ret λ v w'=>∃ L':PL,L'.p=L.p∧L'.d=L.d∧L'.m=L.m∧L'.s=L.s∧w.heap.size≤L'.u∧(∃ k:Int,v=.tuple #[.int .i64 k,.int .i64 0])∧PgAt w' L' (jJ g qs)∧ButS (λ k=>k=L.p) w w') :=
 Calls.mono (keep_n h hs hF hq hn) λ y w' hy=>hy.mono λ v w' ⟨L',h1,h2,h3,h4,h5,h6,h7⟩=>⟨L',h1,h2,h3,h4,h5,⟨_,h6⟩,h7⟩
theorem tready_bad {w:World} {L:PL} {g:Pg} (h:PgAt w L g) (r:Int) (hr : -1≤r) (hr2:r≤9223372036854775807) (F F':Nat→Prop) (a a':Option Addr) (n c n' c':Nat) (k v:Bs) (hk:Sl F w 1 a n c (bB k)) (hv:Sl F' w 1 a' n' c' (bB v)) (hbad:(eF k&&fC v)=false) :
  Calls Tryz.prog 77 #[.pointer (some ⟨L.p,0,none⟩),.int .i64 r,.slice a n c,.slice a' n' c'] w (Ret λ u w'=>u=.int .i64 2∧Grow w w'):=by
 refine V.calls (args:=[_,_,_,_]) Tryz.func77 rfl Tryz.ntmps77 rfl rfl ?_
 cases hko:eF k with
 | false =>
  repeat (first|(refine aB 93 ?_;refine aA rfl (ready_c h r hr hr2) rfl ?_;rintro _ _ ⟨rfl,rfl⟩)|(refine aB 94 ?_;refine aA rfl (key_t hk hko) rfl ?_;rintro _ _ ⟨rfl,rfl⟩)|refine yC ?_)
  exact bA rfl ⟨_,rfl,rfl,yG⟩
 | true =>
  have hvo:fC v=false:=by rw [hko] at hbad;simpa using hbad
  repeat (first|(refine aB 93 ?_;refine aA rfl (ready_c h r hr hr2) rfl ?_;rintro _ _ ⟨rfl,rfl⟩)|(refine aB 94 ?_;refine aA rfl (key_t hk hko) rfl ?_;rintro _ _ ⟨rfl,rfl⟩)|(refine aB 148 ?_;refine aA rfl (value_t hv hvo) rfl ?_;rintro _ _ ⟨rfl,rfl⟩)|refine yC ?_)
  exact bA rfl ⟨_,rfl,rfl,yG⟩
theorem rootI_in {g:Pg} (hc:g.count≤8192) {root:Option Nat} (hr:∀ n,root=some n→bL g n=true) : -1≤dZ root∧dZ root≤9223372036854775807:=by
 cases root with
 | none=>show (-1:Int)≤-1∧(-1:Int)≤_;omega
 | some n =>
  have:=dW (hr n rfl);show (-1:Int)≤(n:Int)∧(n:Int)≤_;omega
theorem put_bad {w:World} {L:PL} {g:Pg} (h:PgAt w L g) (root:Option Nat) (hr:∀ n,root=some n→bL g n=true) {F F':Nat→Prop} (a a':Option Addr) (m c m' c':Nat) (key v:Bs) (hk:Sl F w 1 a m c (bB key)) (hv:Sl F' w 1 a' m' c' (bB v)) (hbad:(eF key&&fC v)=false) :
  Calls Tryz.prog 25 #[.pointer (some ⟨L.p,0,none⟩),.int .i64 (dZ root),.slice a m c,.slice a' m' c'] w (Ret λ u w'=>u=.tuple #[.int .i64 0,.int .i64 2]∧Grow w w'):=by
 have hrr:=rootI_in h.cnt hr;refine V.calls (args:=[_,_,_,_]) Tryz.func25 rfl Tryz.ntmps25 rfl rfl ?_;repeat (first|refine aF ?_|refine yI λ bk w' hg hbk hsz hsz'=>?_)
 rename_i b4 w1 g1 k1 p1 p1' b8 w2 g2 k2 p2 p2';obtain ⟨b9,rfl⟩:=yE bk;refine aB 77 ?_;have hg3:Grow w w':=g1.trans (g2.trans hg);refine aA rfl (tready_bad (h.grow hg3) _ hrr.1 hrr.2 _ _ a a' m c m' c' key v (hk.grow hg3) (hv.grow hg3) hbad) rfl ?_;rintro _ w4 ⟨rfl,hg4⟩;have k4:=(k1.grow (g2.trans hg)).grow hg4;have k8:=(k2.grow hg).grow hg4;have k9:=hbk.grow hg4;have hgw:=hg3.trans hg4;have q:b4=w.heap.size∧b8=b4+1∧b9=b8+1∧b9<w4.heap.size:=by have:=k9.lt;omega
 clear hbk hg hg3 hg4 k1 k2 g1 g2 hsz hsz' p1 p1' p2 p2';repeat (first|refine aF ?_|refine yJ λ w' hu hbk hsz=>?_)
 rename_i w5 hu5 hb5 z5;exact retCC rfl (kN (hb5.upd hu oM)) rfl (kN hbk) ⟨_,rfl,rfl,aI hu oM (aI hu5 oM hgw)⟩
end Go.Proofs.YtfpadnmdafiddaaGreatDoor
namespace Go.Proofs
open Go Go.RowKit Go.V Go.Maps Go.Sort Go.Shelf Go.WideShapes
set_option maxRecDepth 20000
set_option maxRecDepth 20000
end Go.Proofs
namespace Go.Proofs.YtfpadnmdafiddaaGreatDoor
open Go Go.RowKit Go.V
theorem TrAt.root_used {g:Pg} {root:Option Nat} {lv:Nat} {l:bT} {ps:List Nat} (h:TrAt g root lv l ps):∀ n,root=some n→bL g n=true:=by
 rintro n rfl;obtain ⟨h,nd,ps',e1,e2,e3,e4,e5⟩:=h;exact dN e2
end Go.Proofs.YtfpadnmdafiddaaGreatDoor
namespace Go.V
open Go Go.RowKit
section
variable [Rn]
variable {P:Program} {n:Nat} {l:List Oper} {e:dJ} {I:World→Prop} {vs:List Value}
end
end Go.V
namespace Go.Proofs.YtfpadnmdafiddaaGreatDoor
open Go Go.RowKit Go.V
structure TkMid (w v:World) (L:PL) (g0:Pg) (lv0:Nat) (g:Pg) (root:Option Nat) (lv:Nat) (l:bT) (ps:List Nat) (a1:Option Addr) (c1:Nat) (a2:Option Addr) (c2:Nat):Prop where
 pg:PgW v L g
 tr:TrAt g root lv l ps
 ext:Ext g0 g
 sp:cR g0≤cR g+(2*lv0+1)
 sp2:cR g≤cR g0
 was:Sl (λ k=>¬ L.S k) v 1 a1 (usedL g0).length c1 (bC (usedL g0))
 now:Sl (λ k=>¬ L.S k) v 1 a2 (usedL g).length c2 (bC (usedL g))
 gr:Grow w v
theorem TkMid.grow {w v v':World} {L:PL} {g0 g:Pg} {lv0 lv:Nat} {root:Option Nat} {l:bT} {ps:List Nat} {a1 a2:Option Addr} {c1 c2:Nat} (h:TkMid w v L g0 lv0 g root lv l ps a1 c1 a2 c2) (hg:Grow v v'):TkMid w v' L g0 lv0 g root lv l ps a1 c1 a2 c2 :=
 ⟨h.pg.grow hg,h.tr,h.ext,h.sp,h.sp2,h.was.grow hg,h.now.grow hg,h.gr.trans hg⟩
def ownS {S:Nat→Prop} (base elem sz m:Nat) (xs:List Value) (hS:∀ k,base≤k→¬ S k):AFact (ButS S) :=
 { G:=λ u _ _ w=>w.ownsRow base elem sz u m xs,st:=λ _ _ _ _ _ g h=>aS h g,firm:=true,fm:=λ _ _ _ _ _ _ sa h=>cL h λ k hk hv=>sa.block k (aT h hv).2 (hS k hk) }
def KCells (F:Nat→Prop) (w:World):List Value→List (Nd×Int)→Prop
 | [],[]=>True
 | v1::v2::v3::v4::cs,f::l=>(∃ x:NV,v1=x.v1∧v2=x.v2∧v3=x.v3∧v4=.int .i64 f.2∧NdAt F w x f.1)∧KCells F w cs l
 | _,_=>False
theorem KCells.go {F F':Nat→Prop} {w w':World} (g:Carry F w F' w'):∀ {cs:List Value} {l:List (Nd×Int)},KCells F w cs l→KCells F' w' cs l
 | [],[],_=>trivial
 | [],_::_,h=>h.elim
 | [_],[],h=>h.elim
 | [_,_],[],h=>h.elim
 | [_,_,_],[],h=>h.elim
 | _::_::_::_::_,[],h=>h.elim
 | [_],_::_,h=>h.elim
 | [_,_],_::_,h=>h.elim
 | [_,_,_],_::_,h=>h.elim
 | _::_::_::_::_,_::_,⟨⟨x,h1,h2,h3,h4,h5⟩,h6⟩=>⟨⟨x,h1,h2,h3,h4,h5.go g⟩,KCells.go g h6⟩
theorem KCells.snoc {F:Nat→Prop} {w:World} {x:NV} {f:Nd×Int} (hx:NdAt F w x f.1):∀ {cs:List Value} {l:List (Nd×Int)},KCells F w cs l→KCells F w (cs++[x.v1,x.v2,x.v3,.int .i64 f.2]) (l++[f])
 | [],[],_=>⟨⟨x,rfl,rfl,rfl,rfl,hx⟩,trivial⟩
 | [],_::_,h=>h.elim
 | [_],[],h=>h.elim
 | [_,_],[],h=>h.elim
 | [_,_,_],[],h=>h.elim
 | _::_::_::_::_,[],h=>h.elim
 | [_],_::_,h=>h.elim
 | [_,_],_::_,h=>h.elim
 | [_,_,_],_::_,h=>h.elim
 | _::_::_::_::_,_::_,⟨h5,h6⟩=>⟨h5,KCells.snoc hx h6⟩
theorem KCells.len {F:Nat→Prop} {w:World}:∀ {cs:List Value} {l:List (Nd×Int)},KCells F w cs l→cs.length=l.length*4
 | [],[],_=>rfl
 | [],_::_,h=>h.elim
 | [_],[],h=>h.elim
 | [_,_],[],h=>h.elim
 | [_,_,_],[],h=>h.elim
 | _::_::_::_::_,[],h=>h.elim
 | [_],_::_,h=>h.elim
 | [_,_],_::_,h=>h.elim
 | [_,_,_],_::_,h=>h.elim
 | _::_::_::_::_,_::_,⟨h5,h6⟩=>by have:=KCells.len h6;simp only [List.length_cons];omega
theorem KCells.one {F:Nat→Prop} {w:World}:∀ {cs:List Value} {l:List (Nd×Int)},KCells F w cs l→∀ u∈cs,u.oneCell'=true
 | [],[],_,u,hu=>by cases hu
 | [],_::_,h,_,_=>h.elim
 | [_],[],h,_,_=>h.elim
 | [_,_],[],h,_,_=>h.elim
 | [_,_,_],[],h,_,_=>h.elim
 | _::_::_::_::_,[],h,_,_=>h.elim
 | [_],_::_,h,_,_=>h.elim
 | [_,_],_::_,h,_,_=>h.elim
 | [_,_,_],_::_,h,_,_=>h.elim
 | _::_::_::_::_,_::_,⟨⟨x,h1,h2,h3,h4,h5⟩,h6⟩,u,hu=>by
  simp only [List.mem_cons] at hu;rcases hu with rfl|rfl|rfl|rfl|hu
  ·rw [h1];rfl
  ·rw [h2];rfl
  ·rw [h3];rfl
  ·rw [h4];rfl
  ·exact h6.one u hu
theorem KCells.last {F:Nat→Prop} {w:World}:∀ {l:List (Nd×Int)} {cs:List Value} {f:Nd×Int},KCells F w cs (l++[f])→∃ (c0:List Value) (x:NV),cs=c0++[x.v1,x.v2,x.v3,.int .i64 f.2]∧KCells F w c0 l∧NdAt F w x f.1
 | [],[],_,h=>h.elim
 | [],[_],_,h=>h.elim
 | [],[_,_],_,h=>h.elim
 | [],[_,_,_],_,h=>h.elim
 | [],v1::v2::v3::v4::cs,f,⟨⟨x,h1,h2,h3,h4,h5⟩,h6⟩=>by
  cases cs with
  | nil=>subst h1 h2 h3 h4;exact ⟨[],x,rfl,trivial,h5⟩
  | cons a b=>have:=KCells.len h6;simp at this
 | y::l,[],_,h=>h.elim
 | y::l,[_],_,h=>h.elim
 | y::l,[_,_],_,h=>h.elim
 | y::l,[_,_,_],_,h=>h.elim
 | y::l,v1::v2::v3::v4::cs,f,⟨h5,h6⟩=>by
  obtain ⟨c0,x,rfl,h1,h2⟩:=KCells.last h6;exact ⟨v1::v2::v3::v4::c0,x,rfl,⟨h5,h1⟩,h2⟩
theorem KCells.take {F:Nat→Prop} {w:World}:∀ {l:List (Nd×Int)} {cs:List Value} (k:Nat),KCells F w cs l→KCells F w (cs.take (k*4)) (l.take k)
 | [],[],k,_=>by simp [KCells]
 | [],[_],k,h=>h.elim
 | [],[_,_],k,h=>h.elim
 | [],[_,_,_],k,h=>h.elim
 | [],_::_::_::_::_,k,h=>h.elim
 | y::l,[],k,h=>h.elim
 | y::l,[_],k,h=>h.elim
 | y::l,[_,_],k,h=>h.elim
 | y::l,[_,_,_],k,h=>h.elim
 | y::l,v1::v2::v3::v4::cs,0,h=>by simp [KCells]
 | y::l,v1::v2::v3::v4::cs,k+1,⟨h5,h6⟩=>by
  rw [show (k+1)*4=k*4+1+1+1+1 by omega];exact ⟨h5,KCells.take k h6⟩
structure CC where
 wb:Nat
 root:Int
 fa:Option Addr
 fn:Nat
 fc:Nat
 ta:Option Addr
 tn:Nat
 tc:Nat
 back:Bool
 most:Int
 lo:Nat
structure Cu (w:World) (C:CC) (cb:Nat) (d:Int) (pv:Value) (fs:List (Nd×Int)):Prop where
 blk:Blk w cb 206 [.pointer (some ⟨cb,0,none⟩),.pointer (some ⟨C.wb,0,none⟩),.int .i64 C.root,.slice C.fa C.fn C.fc,.slice C.ta C.tn C.tc,.bool C.back,.int .i64 C.most,.int .i64 d,pv]
 row:∃ cs,w.ownsRow (cb+1) 254 4 pv fs.length cs∧KCells (λ k=>C.lo≤k∧k<cb) w cs fs
structure CuTo (cb:Nat) (pv pv':Value) (w w':World):Prop where
 but:ButS (λ k=>k=cb∨pv.ownBlock=some k) w w'
 own:∀ k,pv'.ownBlock=some k→pv.ownBlock=some k∨w.heap.size≤k
theorem CuTo.grow {cb:Nat} {pv:Value} {w w':World} (g:Grow w w'):CuTo cb pv pv w w':=⟨ButS.grow g,λ k h=>.inl h⟩
theorem CuTo.trans {cb:Nat} {pv pv1 pv2:Value} {w w1 w2:World} (a:CuTo cb pv pv1 w w1) (b:CuTo cb pv1 pv2 w1 w2):CuTo cb pv pv2 w w2:=by
 have z:=a.but.size;refine ⟨⟨b.but.os.trans a.but.os,b.but.tape.trans a.but.tape,b.but.output.trans a.but.output,Nat.le_trans a.but.size b.but.size,λ k hk hn=>?_⟩,λ k hk=>?_⟩
 ·refine (b.but.block k oM (λ e=>?_)).trans (a.but.block k hk hn);rcases e with e|e
  ·exact hn (.inl e)
  ·rcases a.own k e with e|e
   ·exact hn (.inr e)
   ·omega
 ·rcases b.own k hk with e|e
  ·exact a.own k e
  ·exact .inr oM
theorem CuTo.upd {cb:Nat} {pv pv' pv2:Value} {w w1 w2:World} (h:CuTo cb pv pv' w w1) (u:Upd cb w1 w2):CuTo cb pv pv' w w2:=⟨⟨u.os.trans h.but.os,u.tape.trans h.but.tape,u.output.trans h.but.output,by rw [u.size];exact h.but.size,λ k hk hn=>(u.block k (λ e=>hn (.inl e))).trans (h.but.block k hk hn)⟩,h.own⟩
theorem Cu.lt {w:World} {C:CC} {cb:Nat} {d:Int} {pv:Value} {fs:List (Nd×Int)} (h:Cu w C cb d pv fs):cb<w.heap.size:=h.blk.lt
theorem Cu.grow {w w':World} {C:CC} {cb:Nat} {d:Int} {pv:Value} {fs:List (Nd×Int)} (h:Cu w C cb d pv fs) (g:Grow w w'):Cu w' C cb d pv fs:=by
 obtain ⟨cs,h1,h2⟩:=h.row;exact ⟨h.blk.grow g,cs,aS h1 g,h2.go (Carry.grow g)⟩
theorem Cu.slice {w:World} {C:CC} {cb:Nat} {d:Int} {pv:Value} {fs:List (Nd×Int)} (h:Cu w C cb d pv fs):∃ a c,pv=.slice a fs.length c:=by
 obtain ⟨cs,h1,h2⟩:=h.row;obtain ⟨a,c,e,_⟩:=aM h1;exact ⟨a,c,e⟩
section
variable {w:World} {C:CC} {cb:Nat} {d:Int} {pv:Value} {fs:List (Nd×Int)}
theorem ccut_c (h:Cu w C cb d pv fs) (k:Nat) (hk:k≤fs.length) :
  Calls Tryz.prog 176 #[.pointer (some ⟨cb,8,none⟩),.int .i64 (k:Int)] w (Ret λ v w'=>∃ pv',Cu w' C cb d pv' (fs.take k)∧CuTo cb pv pv' w w'):=by
 have hb:=h.blk;obtain ⟨cs,hrow,hkc⟩:=h.row;obtain ⟨a,c,rfl,hsl⟩:=aM hrow;obtain ⟨pv',⟨a',c',e1,rfl⟩,hcut,hob⟩:=own_cut hrow hk;cases e1;have hcap:=hsl.cap;refine V.calls (args:=[_,_]) Tryz.func176 rfl Tryz.ntmps176 rfl rfl ?_;repeat refine aF ?_
 refine cG ?_;refine dE (l:=0) (h:=k) (mm:=c) rfl (aP _) (bI rfl rfl) (aP _) (by intro h;cases h) oM oM oM oM oM rfl ?_;rw [slAd_own hrow c];repeat (first|refine aF ?_|refine yJ λ w' hu hbk hsz=>?_)
 have hbk':Blk w' cb 206 [.pointer (some ⟨cb,0,none⟩),.pointer (some ⟨C.wb,0,none⟩),.int .i64 C.root,.slice C.fa C.fn C.fc,.slice C.ta C.tn C.tc,.bool C.back,.int .i64 C.most,.int .i64 d,.slice a k c]:=hbk;refine cE (vs:=[]) rfl rfl ⟨_,rfl,.slice a k c,⟨hbk',?_⟩,⟨⟨hu.os,hu.tape,hu.output,by rw [hu.size];exact Nat.le_refl _,λ j hj hn=>hu.block j (λ e=>hn (.inl e))⟩,λ j hj=>.inl (by rw [← hob];exact hj)⟩⟩;rw [List.length_take,Nat.min_eq_left hk];exact ⟨_,gA hcut hu oM,(hkc.take k).go (Carry.upd hu (λ j hj _=>by omega))⟩
theorem csize_c (x:NV) (at_:Value) (w:World) (h1:x.n1≤1000) (h2:x.n2≤1000) :
  Calls Tryz.prog 227 #[.agg #[x.v1,x.v2,x.v3,at_]] w (Ret λ v w'=>v=.int .i64 ((x.n2+x.n1:Nat):Int)∧Grow w w'):=by
 cases x with
 | mk a1 n1 c1 a2 n2 c2 a3 n3 c3 =>
 simp only at h1 h2;show Calls Tryz.prog 227 #[.agg #[.slice a1 n1 c1,.slice a2 n2 c2,.slice a3 n3 c3,at_]] w _;refine V.calls (args:=[_]) Tryz.func227 rfl Tryz.ntmps227 rfl rfl ?_;repeat (first|refine aF ?_|refine yI λ bk w' hg hbk hsz hsz'=>?_)
 exact bA rfl ⟨_,rfl,rfl,yG⟩
theorem cpush_c (h:Cu w C cb d pv fs) (x:NV) (nd:Nd) (at_:Int) (hx:NdAt (λ k=>C.lo≤k∧k<cb) w x nd) (hn:fs.length≤100) :
  Calls Tryz.prog 177 #[.pointer (some ⟨cb,8,none⟩),.agg #[x.v1,x.v2,x.v3,.int .i64 at_]] w (Ret λ v w'=>∃ pv',Cu w' C cb d pv' (fs++[(nd,at_)])∧CuTo cb pv pv' w w'):=by
 have hb:=h.blk;obtain ⟨cs,hrow,hkc⟩:=h.row;obtain ⟨a,c,rfl,hsl⟩:=aM hrow;have hcap:=hsl.cap;refine V.calls (args:=[_,_]) Tryz.func177 rfl Tryz.ntmps177 rfl rfl ?_;repeat (first|refine aF ?_|refine yI λ bk w' hg hbk hsz hsz'=>?_)
 obtain ⟨w1,rfl⟩:=yE w';have hS:∀ k,w1.heap.size≤k→¬ ((Value.slice a fs.length c).ownBlock=some k):=λ k hk e=>by have:=(aT hrow e).2;omega
 have hcl:=h.lt;have hrow1:=aS hrow hg;have hb1:=hb.grow hg;have hkc1:=hkc.go (Carry.grow hg);have hx1:=hx.go (Carry.grow hg)
 apply nC (ButS λ k=>(Value.slice a fs.length c).ownBlock=some k) 8 6 (λ wq=>Grow w1 wq)
  (λ wq=>ButS (λ k=>(Value.slice a fs.length c).ownBlock=some k) w1 wq)
  (λ wq=>ButS (λ k=>(Value.slice a fs.length c).ownBlock=some k) w1 wq)
  [gZ (.pointer (some ⟨cb,8,none⟩)),gZ (.pointer (some ⟨cb,8,none⟩)),gZ (.pointer (some ⟨cb,8,none⟩)),gZ (.slice a fs.length c),gZ (.agg #[x.v1,x.v2,x.v3,.int .i64 at_]),ownS w1.heap.size 254 4 1 [x.v1,x.v2,x.v3,.int .i64 at_] hS,
   ofA (λ v wz=>∃ a' c',v=.slice a' (fs.length+1) c'∧wz.ownsRow (cb+1) 254 4 v (fs.length+1) (cs++[x.v1,x.v2,x.v3,.int .i64 at_])∧KCells (λ k=>C.lo≤k∧k<cb) wz (cs++[x.v1,x.v2,x.v3,.int .i64 at_]) (fs++[(nd,at_)])∧∀ k,v.ownBlock=some k→(Value.slice a fs.length c).ownBlock=some k∨w.heap.size≤k) (λ v wz wz' g ⟨a',c',h1,h2,h3,h4⟩=>⟨a',c',h1,aS h2 g,h3.go (Carry.grow g),h4⟩),
   gZ (.pointer (some ⟨cb,8,none⟩))]
 ·kernel_rfl
 ·exact Grow.refl _
 ·exact λ _ h=>ButS.grow h
 ·exact λ _ h=>h
 ·exact λ _ h=>h.size
 ·exact λ _ _ h g=>h.trans g
 ·exact λ _ _ h g=>h.trans (ButS.grow g)
 ·exact λ _ _ h=>h.size
 ·repeat' (first|exact iN|refine gU ?_ ?_)
  iterate 5
   ·refine dA rfl rfl rfl rfl ?_;intro wq _ _ hiw;(refine yU ?_)
    have hbq:=bY hb1 hiw (λ e=>by have:=(aT hrow e).1;omega);have hbkq:=bY hbk hiw (λ e=>by have:=(aT hrow e).2;omega);repeat refine aF ?_
    exact bQ rfl (Grow.refl _) rfl
  ·refine dA rfl rfl rfl rfl ?_;intro wq _ _ hiw;(refine yU ?_)
   have hzq:=hiw.size;refine TL.buildSlice rfl rfl rfl rfl rfl ?_;intro b' wa hga hba hsa hsb hsc;repeat refine aF ?_
   exact bQ rfl hga (own_lit hba oM rfl dM)
  ·refine iM rfl rfl rfl rfl ?_;intro wq _ _ hiw;refine needA_cons rfl rfl ?_;intro vq1 hvq1
   refine needA_cons rfl rfl ?_;intro vq2 hvq2
   refine needA_nil ?_;obtain rfl:=Eq.symm hvq1;have ho2:wq.ownsRow w1.heap.size 254 4 vq2 1 [x.v1,x.v2,x.v3,.int .i64 at_]:=hvq2;obtain ⟨a2,c2,rfl,hs2⟩:=aM ho2;have hzq:=hiw.size;have hrowq:=aS hrow1 hiw;refine eG (bytes:=80) rfl rfl hrowq hs2 (by intro u hu;simp only [List.mem_cons,List.not_mem_nil,or_false] at hu;rcases hu with rfl|rfl|rfl|rfl<;>rfl) (by unfold maxLen;omega) oM oM rfl ?_;intro v' wb hownb hgb hcar;obtain ⟨a3,c3,rfl,hs3⟩:=aM hownb;have hzb:=hgb.size;have cK:Carry (λ k=>C.lo≤k∧k<cb) wq (λ k=>C.lo≤k∧k<cb) wb:=⟨hgb.size,λ k hk hl=>⟨hk,hgb.block k hl (λ e=>by have:=(aT hrow e.symm).1;omega)⟩⟩
   repeat refine aF ?_
   refine bQ rfl ⟨⟨hgb.os,hgb.tape,hgb.output,hgb.size,λ k hk hn=>hgb.block k hk (λ e=>hn e.symm)⟩,(ButS.grow hiw).trans ⟨hgb.os,hgb.tape,hgb.output,hgb.size,λ k hk hn=>hgb.block k hk (λ e=>hn e.symm)⟩⟩ ⟨a3,c3,rfl,hownb,KCells.snoc (f:=(nd,at_)) ((hx1.go (Carry.grow hiw)).go cK) ((hkc1.go (Carry.grow hiw)).go cK),λ k hk=>?_⟩;by_cases hkl:k<wq.heap.size
   ·by_cases hka:(Value.slice a fs.length c).ownBlock=some k
    ·exact .inl hka
    ·exact absurd hk (((hcar (λ _=>True)).blk k ⟨trivial,hka⟩ hkl).1.2)
   ·exact .inr oM
  ·refine dA rfl rfl rfl rfl ?_;intro wq _ _ hiw;(((repeat (refine needA_cons rfl rfl ?_;intro vq hvq;try (obtain rfl:=Eq.symm hvq)));(refine needA_nil ?_)))
   repeat refine aF ?_
   exact bQ rfl (Grow.refl _) rfl
 ·rintro w2 lo hi hiw _ _;iterate 6 (refine needA_cons rfl rfl ?_;intro vq hvq;try (obtain rfl:=Eq.symm hvq))
  refine needA_cons rfl rfl ?_;rintro v9 ⟨a9,c9,rfl,h91,h92,h93⟩;refine needA_cons rfl rfl ?_;intro v10 hv10;obtain rfl:=Eq.symm hv10
  refine needA_nil ?_;have hbq:=bY hb1 hiw (λ e=>by have:=(aT hrow e).1;omega);repeat (first|refine aF ?_|refine yJ λ w' hu hbk hsz=>?_)
  have hbk':Blk w' cb 206 [.pointer (some ⟨cb,0,none⟩),.pointer (some ⟨C.wb,0,none⟩),.int .i64 C.root,.slice C.fa C.fn C.fc,.slice C.ta C.tn C.tc,.bool C.back,.int .i64 C.most,.int .i64 d,.slice a9 (fs.length+1) c9]:=hbk;refine cE (vs:=[]) rfl rfl ⟨_,rfl,.slice a9 (fs.length+1) c9,⟨hbk',?_⟩,?_⟩
  ·rw [List.length_append];exact ⟨_,gA h91 hu oM,h92.go (Carry.upd hu (λ j hj _=>by omega))⟩
  ·refine CuTo.upd (pv2:=.slice none 0 0) ⟨?_,h93⟩ hu;have hb0:ButS (λ k=>(Value.slice a fs.length c).ownBlock=some k) w w2:=(ButS.grow hg).trans hiw;exact hb0.sub λ k hk=>.inr hk
theorem ctop_c {a:Option Addr} {c:Nat} (h:Cu w C cb d (.slice a fs.length c) fs) (hn:1≤fs.length) (hn2:fs.length≤1000) :
  Calls Tryz.prog 180 #[.pointer (some ⟨cb,8,none⟩)] w (Ret λ v w'=>v=.pointer (some (at' a ((fs.length-1)*4)))∧Grow w w'):=by
 have hb:=h.blk;obtain ⟨cs,hrow,hkc⟩:=h.row;obtain ⟨a',c',e1,hsl⟩:=aM hrow;cases e1;refine V.calls (args:=[_]) Tryz.func180 rfl Tryz.ntmps180 rfl rfl ?_;repeat refine aF ?_
 refine bD (e':=[(0,.pointer (some ⟨cb,8,none⟩))]) ?_ ⟨rfl,trivial⟩;apply T.any 10 [is _,is _,is _,is _,is _,is _,is _,is _,is _,is _];(· kernel_rfl);(· ((repeat' (first|exact aN|refine aK ?_ ?_));(iterate 10 (· (refine yQ λ wq _ _ hgq=>?_;(repeat (first|refine aF ?_|(refine aH ?_;refine aC (j:=fs.length-1) rfl rfl oM oM rfl ⟨_,_,hsl.grow yG⟩ rfl ?_)));exact aD rfl yG rfl)))));(rintro _ _ _ hgr _ _;(refine yT ?_))
 repeat refine aF ?_
 exact bA rfl ⟨_,rfl,rfl,yG⟩
theorem citem0_c (h:Cu w C cb d pv []) :
  Calls Tryz.prog 179 #[.pointer (some ⟨cb,8,none⟩)] w (Ret λ v w'=>v=.tuple #[.agg #[.slice none 0 0,.slice none 0 0],.bool false]∧Grow w w'):=by
 have hb:=h.blk;obtain ⟨a,c,rfl⟩:=h.slice;refine V.calls (args:=[_]) Tryz.func179 rfl Tryz.ntmps179 rfl rfl ?_;repeat (first|refine aF ?_|refine yI λ bk w' hg hbk hsz hsz'=>?_|refine yJ λ w' hu hbk hsz=>?_)
 exact fN rfl (aW hbk rfl) rfl ⟨_,rfl,rfl,yG⟩
theorem citem_c {l:List (Nd×Int)} {nd:Nd} {i:Nat} {it:Bs×Bs} (h:Cu w C cb d pv (l++[(nd,(i:Int))])) (hi:nd.items[i]? = some it) (hl:l.length≤100) (hni:nd.items.length≤100) :
  Calls Tryz.prog 179 #[.pointer (some ⟨cb,8,none⟩)] w (Ret λ v w'=>∃ kv vv,v=.tuple #[.agg #[kv,vv],.bool true]∧BsAt (λ k=>C.lo≤k∧k<cb) w' kv it.1∧BsAt (λ k=>C.lo≤k∧k<cb) w' vv it.2∧Grow w w'):=by
 have hb:=h.blk;obtain ⟨a,c,rfl⟩:=h.slice;obtain ⟨cs,hrow,hkc⟩:=h.row;obtain ⟨a',c',e1,hsl⟩:=aM hrow;cases e1;have hlen:(l++[(nd,(i:Int))]).length=l.length+1:=by simp
 have htop:=ctop_c h oM oM;rw [hlen] at hb hsl htop;obtain ⟨c0,x,rfl,hk0,hx'⟩:=hkc.last;have hx:NdAt (λ k=>C.lo≤k∧k<cb) w x nd:=hx';have hc0:=hk0.len;obtain ⟨ics,his,hic⟩:=hx.its.ex;obtain ⟨kv,vv,f0,f1,⟨ka,kn,kc,rfl,hbk0⟩,⟨va,vn,vc,rfl,hbv0⟩⟩:=hic.at' hi;refine V.calls (args:=[_]) Tryz.func179 rfl Tryz.ntmps179 rfl rfl ?_;repeat (first|refine aF ?_|refine yI λ bk w' hg hbk hsz hsz'=>?_)
 have hh:=h.grow hg;have htop2:=ctop_c hh oM oM;rw [hlen,Nat.add_sub_cancel] at htop2;refine aB 180 ?_;refine aA rfl htop2 rfl ?_;rintro _ w3 ⟨rfl,hg3⟩;have hgw:=hg.trans hg3;have q0:(c0++[x.v1,x.v2,x.v3,Value.int .i64 (i:Int)])[l.length*4]? = some x.v1:=by rw [← hc0,List.getElem?_append_right (Nat.le_refl _),Nat.sub_self];rfl
 have q3:(c0++[x.v1,x.v2,x.v3,Value.int .i64 (i:Int)])[l.length*4+3]? = some (.int .i64 (i:Int)):=by rw [← hc0,List.getElem?_append_right oM,show c0.length+3-c0.length=3 by omega];rfl
 have f0':ics[i*2]? = some (.slice ka kn kc):=by rw [Nat.mul_comm];exact f0
 have f1':ics[i*2+1]? = some (.slice va vn vc):=by rw [Nat.mul_comm];exact f1
 have hnx:=hx.its.len;have hil:=(List.getElem?_eq_some_iff.1 hi).1;have hsl3:=hsl.grow hgw;have his3:=his.grow hgw;have hk3:=hbk0.go (Carry.grow hgw);have hv3:=hbv0.go (Carry.grow hgw);have b2:=hbk.grow hg3;repeat refine aF ?_
 refine bD (e':=[(4,.pointer (some (at' a (l.length*4)))),(2,.pointer (some ⟨bk,0,none⟩)),(0,.pointer (some ⟨cb,8,none⟩))]) ?_ ⟨rfl,rfl,rfl,trivial⟩;apply T.any 11 [is _,is _,is _,is _,is (.slice x.a1 x.n1 x.c1),is _,is _,is _,is _,is (.pointer (some (at' x.a1 (i*2)))),is (.agg #[.slice ka kn kc,.slice va vn vc])]
 ·kernel_rfl
 ·repeat' (first|exact aN|refine aK ?_ ?_)
  iterate 9
   ·refine yQ λ wq _ _ hgq=>?_;repeat (first|(refine bK ?_;refine bJ (o:=l.length*4) rfl (hsl3.grow hgq) q0 rfl ?_)|(refine aO ?_;first|refine aQ rfl ((hsl3.grow hgq).row.cell q0) rfl ?_|refine aQ rfl ((hsl3.grow hgq).row.cell q3) rfl ?_)|refine yC ?_)
    exact aD rfl yG rfl
  ·refine yQ λ wq _ _ hgq=>?_;refine aH ?_;refine aC (j:=i) rfl rfl rfl oM rfl ⟨_,_,his3.grow hgq⟩ rfl ?_;repeat refine aF ?_
   exact aD rfl yG rfl
  ·refine yQ λ wq _ _ hgq=>?_;refine aO ?_;refine dR rfl (his3.grow hgq) (two_at f0' f1') rfl rfl ?_;repeat refine aF ?_
   exact aD rfl yG rfl
 rintro _ _ _ hgr _ _;((refine yT ?_))
 have b3:=b2.grow hgr;have hgw3:=hgw.trans hgr;have hk4:=hk3.go (Carry.grow hgr);have hv4:=hv3.go (Carry.grow hgr);repeat (first|refine aF ?_|refine yJ λ w' hu hbk hsz=>?_)
 have cU:Carry (λ k=>C.lo≤k∧k<cb) _ (λ k=>C.lo≤k∧k<cb) w':=Carry.upd hu (λ j hj _=>by have:=h.lt;omega);exact fN rfl (aW hbk rfl) rfl ⟨_,rfl,_,_,rfl,⟨_,_,_,rfl,hk4.go cU⟩,⟨_,_,_,rfl,hv4.go cU⟩,aI hu oM hgw3⟩
end
def kf (fr:List (Nd×Nat)):List (Nd×Int):=fr.reverse.map λ f=>(f.1,(f.2:Int))
theorem kf_cons (p:Nd) (i:Nat) (fr:List (Nd×Nat)):kf ((p,i)::fr)=kf fr++[(p,(i:Int))]:=by simp [kf]
theorem cC (fr:List (Nd×Nat)):(kf fr).length=fr.length:=by simp [kf]
def At (s:Pg) (H:Nat) (top:Nd) (fs:List (Nd×Int)):Option Nat→Prop
 | none=>fs=[]
 | some j=>∃ fr nd c pre post x,fs=kf fr++[(nd,((c:Nat):Int))]∧Pos s H top fr nd c pre post∧bN nd=true∧nd.items[c]? = some x∧pre.length=j
structure Tr (s:Pg) (H:Nat) (top:Nd) (al:bT) (ps0:List Nat) (n:Nat):Prop where
 vt:Vt s H top al ps0
 ok:PgOk s
 node:cB s n=some top
 big:1≤aR top
 le:H≤15
 n32:s.count<4294967296
def Wlk (w:World) (cb:Nat) (C:CC) (s:Pg) (ps:List Nat):Prop:=∃ p m M,Blk w C.wb 226 [.pointer (some ⟨p,0,none⟩),.map (some m)]∧MemAt (λ k=>C.lo≤k∧k<cb) w m M∧(C.lo≤C.wb∧C.wb<cb)∧(C.lo≤m∧m<cb)∧∀ k∈ps,∃ t,gO M k=some t∧cB s k=some t.node
theorem Cu.own {w:World} {C:CC} {cb:Nat} {d:Int} {pv:Value} {fs:List (Nd×Int)} (h:Cu w C cb d pv fs) {k:Nat} (e:pv.ownBlock=some k):cb<k∧k<w.heap.size:=by
 obtain ⟨cs,hrow,_⟩:=h.row;exact aT hrow e
theorem Cu.carry {w w':World} {C:CC} {cb:Nat} {d:Int} {pv pv':Value} {fs:List (Nd×Int)} (h:Cu w C cb d pv fs) (t:CuTo cb pv pv' w w'):Carry (λ k=>C.lo≤k∧k<cb) w (λ k=>C.lo≤k∧k<cb) w':=by
 obtain ⟨cs,hrow,_⟩:=h.row
 exact ⟨t.but.size,λ k hk hl=>⟨hk,t.but.block k hl (λ e=>by
  rcases e with e|e
  ·omega
  ·have:=(aT hrow e).1;omega)⟩⟩
theorem Cu.carry0 {w w':World} {C:CC} {cb:Nat} {d:Int} {pv pv':Value} {fs:List (Nd×Int)} (h:Cu w C cb d pv fs) (t:CuTo cb pv pv' w w'):Carry (λ k=>k<cb) w (λ k=>k<cb) w':=by
 obtain ⟨cs,hrow,_⟩:=h.row
 exact ⟨t.but.size,λ k hk hl=>⟨hk,t.but.block k hl (λ e=>by
  rcases e with e|e
  ·omega
  ·have:=(aT hrow e).1;omega)⟩⟩
theorem Wlk.go {w w':World} {cb:Nat} {C:CC} {s:Pg} {ps:List Nat} (h:Wlk w cb C s ps) (c:Carry (λ k=>C.lo≤k∧k<cb) w (λ k=>C.lo≤k∧k<cb) w'):Wlk w' cb C s ps:=by
 obtain ⟨p,m,M,h1,h2,h3,h4,h5⟩:=h;exact ⟨p,m,M,dS h1 (c.blk _ h3 h1.lt).2,h2.go c (c.blk _ h4 h2.lt).2,h3,h4,h5⟩
theorem Wlk.grow {w w':World} {cb:Nat} {C:CC} {s:Pg} {ps:List Nat} (h:Wlk w cb C s ps) (g:Grow w w'):Wlk w' cb C s ps:=h.go (Carry.grow g)
theorem Wlk.node {w:World} {cb:Nat} {C:CC} {s:Pg} {ps:List Nat} (h:Wlk w cb C s ps) {k:Nat} {nd:Nd} (hk:k∈ps) (hn:cB s k=some nd) (h32:k<4294967296) :
  Calls Tryz.prog 163 #[.pointer (some ⟨C.wb,0,none⟩),.int .i64 (k:Int)] w (Ret λ v w'=>∃ x:NV,v=x.val∧NdAt (λ k=>C.lo≤k∧k<cb) w' x nd∧Grow w w'):=by
 obtain ⟨p,m,M,h1,h2,h3,h4,h5⟩:=h;obtain ⟨t,ht,hnt⟩:=h5 k hk;rw [hn] at hnt;cases hnt;exact wnode_c h1 h2 h32 ht
section
variable {w:World} {C:CC} {cb:Nat} {d:Int} {pv:Value} {s:Pg} {H:Nat} {top:Nd} {al:bT} {ps0:List Nat} {n:Nat}
theorem cdescF_c (tr:Tr s H top al ps0 n) {fr:List (Nd×Nat)} (h:Cu w C cb d pv (kf fr)) (hw:Wlk w cb C s (n::ps0)) {k:Nat} {nd:Nd} {pre post:bT} (q:Pos s H top fr nd 0 pre post) (hk:cB s k=some nd) (hkp:k∈n::ps0) (h1:1≤aR nd) :
  Calls Tryz.prog 226 #[.pointer (some ⟨cb,0,none⟩),.int .i64 (k:Int),.int .i64 1] w (Ret λ v w'=>∃ pv' fs',Cu w' C cb d pv' fs'∧CuTo cb pv pv' w w'∧At s H top fs' (some pre.length)):=by
 refine V.calls (args:=[_,_,_]) Tryz.func226 rfl Tryz.ntmps226 rfl rfl ?_;repeat refine aF ?_
 refine aX (S:=List (Nd×Nat)×Nat×Nd×Value) (λ q=>[(2,.int .i64 1),(1,.int .i64 (q.2.1:Int)),(0,.pointer (some ⟨cb,0,none⟩))])
  (λ q w1=>Cu w1 C cb d q.2.2.2 (kf q.1)∧CuTo cb pv q.2.2.2 w w1∧Wlk w1 cb C s (n::ps0)∧Pos s H top q.1 q.2.2.1 0 pre post∧cB s q.2.1=some q.2.2.1∧q.2.1∈n::ps0∧1≤aR q.2.2.1) (λ q=>H+1-q.1.length) (fr,k,nd,pv) ⟨rfl,rfl,rfl,trivial⟩ ⟨h,CuTo.grow (Grow.refl _),hw,q,hk,hkp,h1⟩ ?_
 clear h hw q hk hkp h1;rintro ⟨fr,k,nd,pv1⟩ w1 ⟨h,hto,hw,q,hk,hkp,h1⟩;simp only at h hto q hk hkp h1;obtain ⟨_,_,hfl,_⟩:=q.all tr.vt;obtain ⟨hok,hsl,hsb,hkid⟩:=q.node tr.vt tr.ok tr.node;have hk32:k<4294967296:=by have:=dW (dN hk);have:=tr.n32;omega
 have hle:=tr.le;have hb:=h.blk;have hcl:=h.lt;have hpo:∀ j,pv1.ownBlock=some j→j<w1.heap.size:=λ j e=>(h.own e).2;have hn8:=fG hk;have hnode:=hw.node hkp hk hk32;repeat refine aF ?_
 refine aB 163 ?_;refine aA rfl hnode rfl ?_;rintro _ w2 ⟨x,rfl,hx,hg2⟩;repeat (first|refine aF ?_|refine yI λ bk w' hg hbk hsz hsz'=>?_|refine yJ λ w' hu hbk hsz=>?_)
 have k6:Blk w' bk 254 [.slice x.a1 x.n1 x.c1,.slice x.a2 x.n2 x.c2,.slice x.a3 x.n3 x.c3,.int .i64 0]:=hbk;obtain ⟨w3,rfl⟩:=yE w';have hgw:Grow w1 w3:=aI hu (by have:=hg2.size;omega) (hg2.trans hg);have hx3:NdAt (λ k=>C.lo≤k∧k<cb) w3 x nd:=(hx.go (Carry.grow hg)).go (Carry.upd hu (λ j hj _=>by have:=hg2.size;omega));have h3:=h.grow hgw;have hw3:=hw.grow hgw;have hto3:CuTo cb pv pv1 w w3:=hto.trans (CuTo.grow hgw);have z3:=hgw.size;have qbk:cb<bk∧bk<w3.heap.size∧w1.heap.size≤bk:=by have:=hg2.size;have:=k6.lt;omega
 have hb3:=h3.blk;clear hbk hu hg hg2 hx h hw hto hb hgw hsz hsz';apply T.any 4 [is _,is _,is _,is _];(· kernel_rfl);(· ((repeat' (first|exact aN|refine aK ?_ ?_));(iterate 4 (· (refine yQ λ wq _ _ hgq=>?_;(repeat refine aF ?_);exact aD rfl yG rfl)))));(rintro _ _ _ hgr _ _;(refine yT ?_))
 rename_i w4;refine aB 177 ?_;refine aA rfl (cpush_c (h3.grow hgr) x nd 0 (hx3.go (Carry.grow hgr)) (by rw [cC];omega)) rfl ?_;rintro _ w5 ⟨pv2,h5,hto5⟩;have c5:=(h3.grow hgr).carry hto5;have hw5:=(hw3.grow hgr).go c5;have hx5:=(hx3.go (Carry.grow hgr)).go c5
 have k65:=bY (k6.grow hgr) hto5.but (λ e=>by
  rcases e with e|e
  ·omega
  ·have:=hpo _ e;omega)
 have hto35:=(hto3.trans (CuTo.grow hgr)).trans hto5;have hn1:=hx5.its.len;have hn2:=bR hx5.kids;clear k6 hx3 h3 hw3 hto3 hb3 hgr c5 hto5;obtain ⟨w5',rfl⟩:=yE w5
 cases hl:bN nd with
 | true =>
  have h0:=hsl hl;obtain ⟨it,hit⟩:∃ it,nd.items[0]? = some it:=⟨_,List.getElem?_eq_getElem oM⟩
  repeat (first|refine aF ?_|(refine aB 80 ?_;refine aA rfl (fB hx5 hl _) rfl ?_;rintro _ _ ⟨rfl,hgc⟩))
  exact eB (vs:=[]) rfl rfl ⟨_,rfl,pv2,_,h5.grow hgc,hto35.trans (CuTo.grow hgc),fr,nd,0,pre,post,it,rfl,q,hl,hit,rfl⟩
 | false =>
  have h0:=hsb hl;obtain ⟨k',hk'⟩:∃ k,nd.kids[0]? = some k:=⟨_,List.getElem?_eq_getElem oM⟩
  obtain ⟨nd',hn',h4',hp',_⟩:=hkid 0 k' hk';repeat (first|refine aF ?_|(refine aB 80 ?_;refine aA rfl (fB hx5 hl _) rfl ?_;rintro _ _ ⟨rfl,hgc⟩))
  rename_i w6;have hx6:=hx5.go (Carry.grow hgc);have hsk:=hx6.kids;have hcx:w6.cell? (at' x.a2 0)=some (.int .i64 (k':Int)):=hsk.row.cell (by rw [show bC nd.kids=nd.kids.map λ (k:Nat)=>(.int .i64 (k:Int):Value) from rfl,List.getElem?_map,hk'];rfl);have k66:=k65.grow hgc;clear k65 hx5;repeat (first|(refine aH ?_;refine aC (j:=0) rfl rfl rfl oM rfl ⟨_,_,hsk⟩ rfl ?_)|refine yC ?_)
  refine aE ((nd,0)::fr,k',nd',pv2) ⟨rfl,rfl,rfl,trivial⟩ ⟨by rw [kf_cons];exact h5.grow hgc,hto35.trans (CuTo.grow hgc),hw5.grow hgc,q.downR tr.vt hk' hn',hn',List.mem_cons_of_mem _ hp',Nat.le_trans dM h4'⟩ (by simp only [List.length_cons];omega)
theorem cdescB_c (tr:Tr s H top al ps0 n) {fr:List (Nd×Nat)} (h:Cu w C cb d pv (kf fr)) (hw:Wlk w cb C s (n::ps0)) {k:Nat} {nd:Nd} {pre post:bT} (q:Pos s H top fr nd (aR nd) pre post) (hk:cB s k=some nd) (hkp:k∈n::ps0) (h1:1≤aR nd) :
  Calls Tryz.prog 226 #[.pointer (some ⟨cb,0,none⟩),.int .i64 (k:Int),.int .i64 (-1)] w (Ret λ v w'=>∃ pv' fs',Cu w' C cb d pv' fs'∧CuTo cb pv pv' w w'∧At s H top fs' (ixB pre.length)):=by
 refine V.calls (args:=[_,_,_]) Tryz.func226 rfl Tryz.ntmps226 rfl rfl ?_;repeat refine aF ?_
 refine aX (S:=List (Nd×Nat)×Nat×Nd×Value) (λ q=>[(2,.int .i64 (-1)),(1,.int .i64 (q.2.1:Int)),(0,.pointer (some ⟨cb,0,none⟩))])
  (λ q w1=>Cu w1 C cb d q.2.2.2 (kf q.1)∧CuTo cb pv q.2.2.2 w w1∧Wlk w1 cb C s (n::ps0)∧Pos s H top q.1 q.2.2.1 (aR q.2.2.1) pre post∧cB s q.2.1=some q.2.2.1∧q.2.1∈n::ps0∧1≤aR q.2.2.1) (λ q=>H+1-q.1.length) (fr,k,nd,pv) ⟨rfl,rfl,rfl,trivial⟩ ⟨h,CuTo.grow (Grow.refl _),hw,q,hk,hkp,h1⟩ ?_
 clear h hw q hk hkp h1;rintro ⟨fr,k,nd,pv1⟩ w1 ⟨h,hto,hw,q,hk,hkp,h1⟩;simp only at h hto q hk hkp h1;obtain ⟨_,_,hfl,_⟩:=q.all tr.vt;obtain ⟨hok,hsl,hsb,hkid⟩:=q.node tr.vt tr.ok tr.node;have hk32:k<4294967296:=by have:=dW (dN hk);have:=tr.n32;omega
 have hle:=tr.le;have hb:=h.blk;have hcl:=h.lt;have hpo:∀ j,pv1.ownBlock=some j→j<w1.heap.size:=λ j e=>(h.own e).2;have hn8:=fG hk;have hnode:=hw.node hkp hk hk32;repeat refine aF ?_
 refine aB 163 ?_;refine aA rfl hnode rfl ?_;rintro _ w2 ⟨x,rfl,hx,hg2⟩;have m1:=hx.its.len;have m2:=bR hx.kids;have hszx:x.n2+x.n1=aR nd:=by rw [m1,m2];unfold aR;omega
 have h81:aR nd≤8:=node_le hk;have h82:x.n1≤1000∧x.n2≤1000:=by omega
 repeat (first|(refine aB 227 ?_;refine aA rfl (csize_c x _ _ h82.1 h82.2) rfl ?_;rintro _ _ ⟨rfl,hgc⟩)|refine yC ?_|refine yI λ bk w' hg hbk hsz hsz'=>?_|refine yJ λ w' hu hbk hsz=>?_)
 have k6:Blk w' bk 254 [.slice x.a1 x.n1 x.c1,.slice x.a2 x.n2 x.c2,.slice x.a3 x.n3 x.c3,.int .i64 ((x.n2+x.n1-1:Nat):Int)]:=hbk;rename_i hu1 _ _ _;obtain ⟨w3,rfl⟩:=yE w';have hgw:Grow w1 w3:=aI hu (by have:=hg2.size;omega) ((aI hu1 (by have:=hg2.size;omega) (hg2.trans hg)).trans hgc);have hx3:NdAt (λ k=>C.lo≤k∧k<cb) w3 x nd:=(((hx.go (Carry.grow hg)).go (Carry.upd hu1 (λ j hj _=>by have:=hg2.size;omega))).go (Carry.grow hgc)).go (Carry.upd hu (λ j hj _=>by have:=hg2.size;omega));have h3:=h.grow hgw;have hw3:=hw.grow hgw;have hto3:CuTo cb pv pv1 w w3:=hto.trans (CuTo.grow hgw);have z3:=hgw.size;have qbk:cb<bk∧bk<w3.heap.size∧w1.heap.size≤bk:=by have:=hg2.size;have:=k6.lt;omega
 have hb3:=h3.blk;clear hbk hu hu1 hgc hg hg2 hx h hw hto hb hgw hsz hsz';apply T.any 4 [is _,is _,is _,is _];(· kernel_rfl);(· ((repeat' (first|exact aN|refine aK ?_ ?_));(iterate 4 (· (refine yQ λ wq _ _ hgq=>?_;(repeat refine aF ?_);exact aD rfl yG rfl)))));(rintro _ _ _ hgr _ _;(refine yT ?_))
 rename_i w4;refine aB 177 ?_;refine aA rfl (cpush_c (h3.grow hgr) x nd ((x.n2+x.n1-1:Nat):Int) (hx3.go (Carry.grow hgr)) (by rw [cC];omega)) rfl ?_;rintro _ w5 ⟨pv2,h5,hto5⟩;have c5:=(h3.grow hgr).carry hto5;have hw5:=(hw3.grow hgr).go c5;have hx5:=(hx3.go (Carry.grow hgr)).go c5
 have k65:=bY (k6.grow hgr) hto5.but (λ e=>by
  rcases e with e|e
  ·omega
  ·have:=hpo _ e;omega)
 have hto35:=(hto3.trans (CuTo.grow hgr)).trans hto5;have hn1:=hx5.its.len;have hn2:=bR hx5.kids;clear k6 hx3 h3 hw3 hto3 hb3 hgr c5 hto5;obtain ⟨w5',rfl⟩:=yE w5
 cases hl:bN nd with
 | true =>
  have h0:=hsl hl;obtain ⟨it,hit⟩:∃ it,nd.items[aR nd-1]? = some it:=⟨_,List.getElem?_eq_getElem oM⟩
  obtain ⟨pre',rfl,q'⟩:=Pos.back tr.vt (c:=aR nd-1) (by rwa [show aR nd-1+1=aR nd by omega]) hl hit;repeat (first|refine aF ?_|(refine aB 80 ?_;refine aA rfl (fB hx5 hl _) rfl ?_;rintro _ _ ⟨rfl,hgc⟩))
  exact eB (vs:=[]) rfl rfl ⟨_,rfl,pv2,_,h5.grow hgc,hto35.trans (CuTo.grow hgc),by rw [List.length_append];exact ⟨fr,nd,aR nd-1,pre',_,it,by rw [hszx],q',hl,hit,rfl⟩⟩
 | false =>
  have h0:=hsb hl;obtain ⟨k',hk'⟩:∃ k,nd.kids[aR nd-1]? = some k:=⟨_,List.getElem?_eq_getElem oM⟩
  obtain ⟨nd',hn',h4',hp',_⟩:=hkid (aR nd-1) k' hk';repeat (first|refine aF ?_|(refine aB 80 ?_;refine aA rfl (fB hx5 hl _) rfl ?_;rintro _ _ ⟨rfl,hgc⟩))
  rename_i w6;have hx6:=hx5.go (Carry.grow hgc);have hsk:=hx6.kids;have hcx:w6.cell? (at' x.a2 (aR nd-1))=some (.int .i64 (k':Int)):=hsk.row.cell (by rw [show bC nd.kids=nd.kids.map λ (k:Nat)=>(.int .i64 (k:Int):Value) from rfl,List.getElem?_map,hk'];rfl);have k66:=k65.grow hgc;clear k65 hx5;repeat (first|(refine aH ?_;refine aC (j:=aR nd-1) rfl rfl oM oM (Nat.mul_one _) ⟨_,_,hsk⟩ rfl ?_)|refine yC ?_)
  refine aE ((nd,aR nd-1)::fr,k',nd',pv2) ⟨rfl,rfl,rfl,trivial⟩ ⟨by rw [kf_cons,← hszx];exact h5.grow hgc,hto35.trans (CuTo.grow hgc),hw5.grow hgc,Pos.downL tr.vt (c:=aR nd-1) (by rwa [show aR nd-1+1=aR nd by omega]) hk' hn',hn',List.mem_cons_of_mem _ hp',Nat.le_trans dM h4'⟩ (by simp only [List.length_cons];omega)
end
end Go.Proofs.YtfpadnmdafiddaaGreatDoor
