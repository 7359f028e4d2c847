import Derived.Test.YtfpadnmdafiddaaGreatDoorMz
import Derived.Test.YtfpadnmdafiddaaGreatDoorMA
import Derived.Test.YtfpadnmdafiddaaGreatDoorMB
set_option linter.all false
set_option maxHeartbeats 16000000
set_option maxRecDepth 100000
namespace Go.Proofs.YtfpadnmdafiddaaGreatDoor
open Go Go.RowKit Go.V
theorem fF {α : Type} {l x:List α} {i:Nat} (h:i≤l.length):(dH l i x).length=l.length+x.length:=by
 simp only [dH,List.length_append,List.length_take,List.length_drop];omega
theorem eG {α : Type} {l:List α} {i j:Nat} (h:i≤j) (hj:j≤l.length):(cO l i j).length=l.length-(j-i):=by
 simp only [cO,List.length_append,List.length_take,List.length_drop];omega
def itsF {B:Nat} (F:Nat→Prop) (n:Nat) (l:dO):SFact B:={ G:=λ v _ _ w=>∃ a c,v=.slice a n c∧ItsAt F w a n c l,st:=λ v _ _ w w' g h=>by obtain ⟨a,c,h1,h2⟩:=h;exact ⟨a,c,h1,h2.go (Carry.grow g)⟩ }
def kysF {B:Nat} (F:Nat→Prop) (n:Nat) (l:List Bs):SFact B:={ G:=λ v _ _ w=>∃ a c,v=.slice a n c∧KysAt F w a n c l,st:=λ v _ _ w w' g h=>by obtain ⟨a,c,h1,h2⟩:=h;exact ⟨a,c,h1,h2.go (Carry.grow g)⟩ }
def kidF {B:Nat} (F:Nat→Prop) (n:Nat) (l:List Nat):SFact B:={ G:=λ v _ _ w=>∃ a c,v=.slice a n c∧Sl F w 1 a n c (cM l),st:=λ v _ _ w w' g h=>by obtain ⟨a,c,h1,h2⟩:=h;exact ⟨a,c,h1,h2.grow g⟩ }
section
variable {F:Nat→Prop} {w:World}
theorem its_of_own {w':World} {E:TypeId} {v:Value} {n:Nat} {cs:List Value} {l:dO} (hown:w'.ownsRow w.heap.size E 2 v n cs) (hF:∀ k,w.heap.size≤k→F k) (hc:ItCells F w' cs l):∃ a c,v=.slice a n c∧ItsAt F w' a n c l:=by
 obtain ⟨a,c,rfl,hs⟩:=bX hown
 exact ⟨a,c,rfl,⟨cs,hs.mono (λ k hk=>hF k hk.1),hc⟩⟩
theorem kys_of_own {w':World} {E:TypeId} {v:Value} {n:Nat} {cs:List Value} {l:List Bs} (hown:w'.ownsRow w.heap.size E 1 v n cs) (hF:∀ k,w.heap.size≤k→F k) (hc:KyCells F w' cs l):∃ a c,v=.slice a n c∧KysAt F w' a n c l:=by
 obtain ⟨a,c,rfl,hs⟩:=bX hown
 exact ⟨a,c,rfl,⟨cs,hs.mono (λ k hk=>hF k hk.1),hc⟩⟩
theorem insI_c (hF:∀ k,w.heap.size≤k→F k) (a b:Option Addr) (n c m d i:Nat) (l xs:dO) (h:ItsAt F w a n c l) (hx:ItsAt F w b m d xs) (hi:i≤n) (hn:n+m≤1000000) :
  Calls Tryz.prog 99 #[.slice a n c,.int .i64 (i:Int),.slice b m d] w (Ret λ v w'=>(∃ a' c',v=.slice a' (n+m) c'∧ItsAt F w' a' (n+m) c' (dH l i xs))∧Grow w w'):=by
 obtain ⟨cs,hs,hc⟩:=h.ex
 obtain ⟨ds,hs2,hd⟩:=hx.ex
 refine Calls.mono (insert_t F F a b n c m d i cs ds w hs hs2 hc.one hd.one hi hn) ?_
 rintro _ w' ⟨v,rfl,hown,hg⟩
 have h1:=hc.take i
 rw [Nat.mul_comm] at hown
 exact ⟨v,rfl,its_of_own hown hF (ItCells.go (Carry.grow hg) ((h1.1.append hd).append h1.2)),hg⟩
theorem cutI_c (hF:∀ k,w.heap.size≤k→F k) (a:Option Addr) (n c i j:Nat) (l:dO) (h:ItsAt F w a n c l) (hij:i≤j) (hj:j≤n) (hn:n≤1000000) :
  Calls Tryz.prog 81 #[.slice a n c,.int .i64 (i:Int),.int .i64 (j:Int)] w (Ret λ v w'=>(∃ a' c',v=.slice a' (n-(j-i)) c'∧ItsAt F w' a' (n-(j-i)) c' (cO l i j))∧Grow w w'):=by
 obtain ⟨cs,hs,hc⟩:=h.ex
 refine Calls.mono (cut_t F a n c i j cs w hs hc.one hij hj hn) ?_
 rintro _ w' ⟨v,rfl,hown,hg⟩
 rw [Nat.mul_comm i,Nat.mul_comm j] at hown
 exact ⟨v,rfl,its_of_own hown hF (ItCells.go (Carry.grow hg) ((hc.take i).1.append (hc.take j).2)),hg⟩
theorem insK_c (hF:∀ k,w.heap.size≤k→F k) (a b:Option Addr) (n c m d i:Nat) (l xs:List Bs) (h:KysAt F w a n c l) (hx:KysAt F w b m d xs) (hi:i≤n) (hn:n+m≤1000000) :
  Calls Tryz.prog 98 #[.slice a n c,.int .i64 (i:Int),.slice b m d] w (Ret λ v w'=>(∃ a' c',v=.slice a' (n+m) c'∧KysAt F w' a' (n+m) c' (dH l i xs))∧Grow w w'):=by
 obtain ⟨cs,hs,hc⟩:=h.ex
 obtain ⟨ds,hs2,hd⟩:=hx.ex
 refine Calls.mono (insert_k F F a b n c m d i cs ds w hs hs2 hc.one hd.one hi hn) ?_
 rintro _ w' ⟨v,rfl,hown,hg⟩
 have h1:=hc.take i
 rw [Nat.mul_one] at hown
 exact ⟨v,rfl,kys_of_own hown hF (KyCells.go (Carry.grow hg) ((h1.1.append hd).append h1.2)),hg⟩
theorem cutK_c (hF:∀ k,w.heap.size≤k→F k) (a:Option Addr) (n c i j:Nat) (l:List Bs) (h:KysAt F w a n c l) (hij:i≤j) (hj:j≤n) (hn:n≤1000000) :
  Calls Tryz.prog 194 #[.slice a n c,.int .i64 (i:Int),.int .i64 (j:Int)] w (Ret λ v w'=>(∃ a' c',v=.slice a' (n-(j-i)) c'∧KysAt F w' a' (n-(j-i)) c' (cO l i j))∧Grow w w'):=by
 obtain ⟨cs,hs,hc⟩:=h.ex
 refine Calls.mono (cut_k F a n c i j cs w hs hc.one hij hj hn) ?_
 rintro _ w' ⟨v,rfl,hown,hg⟩
 rw [Nat.mul_one,Nat.mul_one] at hown
 exact ⟨v,rfl,kys_of_own hown hF (KyCells.go (Carry.grow hg) ((hc.take i).1.append (hc.take j).2)),hg⟩
theorem ints_insL (l xs:List Nat) (i:Nat):(cM l).take i++cM xs++(cM l).drop i=cM (dH l i xs):=by simp [cM,dH,List.map_take,List.map_drop]
theorem ints_cutL (l:List Nat) (i j:Nat):(cM l).take i++(cM l).drop j=cM (cO l i j):=by simp [cM,cO,List.map_take,List.map_drop]
theorem insN_c (hF:∀ k,w.heap.size≤k→F k) (a b:Option Addr) (n c m d i:Nat) (l xs:List Nat) (h:Sl F w 1 a n c (cM l)) (hx:Sl F w 1 b m d (cM xs)) (hi:i≤n) (hn:n+m≤1000000) :
  Calls Tryz.prog 96 #[.slice a n c,.int .i64 (i:Int),.slice b m d] w (Ret λ v w'=>(∃ a' c',v=.slice a' (n+m) c'∧Sl F w' 1 a' (n+m) c' (cM (dH l i xs)))∧Grow w w'):=by
 refine Calls.mono (insert_i F F a b n c m d i _ _ w h hx (jZ l) (jZ xs) hi hn) ?_
 rintro _ w' ⟨v,rfl,hown,hg⟩
 rw [Nat.mul_one,ints_insL] at hown
 obtain ⟨a',c',rfl,hs⟩:=bX hown
 exact ⟨_,rfl,⟨a',c',rfl,hs.mono (λ k hk=>hF k hk.1)⟩,hg⟩
theorem cutN_c (hF:∀ k,w.heap.size≤k→F k) (a:Option Addr) (n c i j:Nat) (l:List Nat) (h:Sl F w 1 a n c (cM l)) (hij:i≤j) (hj:j≤n) (hn:n≤1000000) :
  Calls Tryz.prog 97 #[.slice a n c,.int .i64 (i:Int),.int .i64 (j:Int)] w (Ret λ v w'=>(∃ a' c',v=.slice a' (n-(j-i)) c'∧Sl F w' 1 a' (n-(j-i)) c' (cM (cO l i j)))∧Grow w w'):=by
 refine Calls.mono (cut_i F a n c i j _ w h (jZ l) hij hj hn) ?_
 rintro _ w' ⟨v,rfl,hown,hg⟩
 rw [Nat.mul_one,Nat.mul_one,ints_cutL] at hown
 obtain ⟨a',c',rfl,hs⟩:=bX hown
 exact ⟨_,rfl,⟨a',c',rfl,hs.mono (λ k hk=>hF k hk.1)⟩,hg⟩
end
end Go.Proofs.YtfpadnmdafiddaaGreatDoor
namespace Go.Proofs.YtfpadnmdafiddaaGreatDoor
open Go Go.RowKit Go.V
theorem fC {F:Nat→Prop} {x:NV} {nd:Nd} {w0:World} (h:NdAt F w0 x nd) {b:Bool} (hb:cK nd=b) (w:World) :
  Calls Tryz.prog 80 #[x.val] w (Ret λ v w'=>v=.bool b∧Grow w w'):=by
 have:=leaf_c x w
 rwa [show decide (x.n2=0)=b by
  rw [← hb,eI h.kids,Bool.eq_iff_iff,dK]
  simp] at this
def Gap (F:Nat→Prop) (S B:Nat) (k:Nat):Prop:=F k∧(k<S∨B≤k)
theorem nd_gap {F:Nat→Prop} {w w':World} {x:NV} {nd:Nd} {B:Nat} (h:NdAt F w x nd) (hg:Grow w w'):NdAt (Gap F w.heap.size B) w' x nd :=
 (h.go (Carry.mono (λ k hk hl=>⟨hk,.inl hl⟩))).go (Carry.grow hg)
theorem Gap.up {F:Nat→Prop} {S B b:Nat} {w w':World} (u:Upd b w w') (h1:S≤b) (h2:b<B):Carry (Gap F S B) w (Gap F S B) w' :=
 Carry.upd u (λ k hk _=>by have:=hk.2;omega)
theorem Gap.out {F:Nat→Prop} {S B:Nat} {w:World}:Carry (Gap F S B) w F w:=Carry.mono (λ k hk _=>hk.1)
theorem jS {F:Nat→Prop} {w:World}:ItsAt F w none 0 0 []:=⟨[],⟨by simp,Nat.le_refl _,Nat.zero_le _,λ _=>rfl,by simp [Row]⟩,trivial⟩
theorem jF {F:Nat→Prop} {w:World}:KysAt F w none 0 0 []:=⟨[],⟨by simp,Nat.le_refl _,Nat.zero_le _,λ _=>rfl,by simp [Row]⟩,trivial⟩
theorem jR {F:Nat→Prop} {w:World}:Sl F w 1 none 0 0 (cM []):=⟨by simp [cM],Nat.le_refl _,Nat.zero_le _,λ _=>rfl,by simp [Row,cM]⟩
theorem retCCT {P:Program} {e:dQ} {w:World} {s t s2 t2 u:Nat} {p p2:Addr} {v v2 x:Value} {R:Ending→World→Prop} (h:find e s=some (.pointer (some p))) (hl:(loadVar t p).run P w=.ok v w) (h':find e s2=some (.pointer (some p2))) (hl':(loadVar t2 p2).run P w=.ok v2 w) (h2:find e u=some x) (hR:R (.returned (.tuple #[v,v2,x])) w):retQ P [.cell s t,.cell s2 t2,.tmp u] R .ret e w :=
 jI (vs:=[v,v2,x]) ⟨v,[v2,x],rfl,⟨p,h,hl⟩,v2,[x],rfl,⟨p2,h',hl'⟩,x,[],rfl,h2,rfl⟩ rfl hR
theorem split_c (F:Nat→Prop) (w:World) (hF:∀ k,w.heap.size≤k→F k) (x:NV) (nd:Nd) (h:NdAt F w x nd) (h9:bJ nd≤1000) (hl:cK nd=true→5≤nd.items.length) (hk:cK nd=false→4≤nd.kids.length∧4≤nd.keys.length∧nd.keys.length≤1000) :
  Calls Tryz.prog 162 #[x.val] w (Ret λ v w'=>(∃ (y z:NV) (k:Value),v=.tuple #[y.val,z.val,k]∧NdAt F w' y (dM nd).1∧NdAt F w' z (dM nd).2.1∧BsAt F w' k (dM nd).2.2)∧Grow w w'):=by
 have hn1:=h.its.len
 have hn2:=eI h.kids
 have hn3:=h.kys.len
 have hsz:nd.items.length≤1000∧nd.kids.length≤1000:=by unfold bJ at h9;omega
 refine V.calls (args:=[_]) Tryz.func162 rfl Tryz.ntmps162 rfl rfl ?_
 repeat (first|(refine aD ?_;refine TL.pure rfl rfl ?_)|(refine aY ?_;refine bK rfl yB (by exact rfl) rfl ?_)|refine TL.nil ?_|refine aA ?_|refine aJ ?_|refine aC ?_|(refine cD ?_;(refine TL.box rfl rfl rfl ?_;intro bk w' hg hbk hsz hsz'))|(refine bF ?_;(refine TL.alloc rfl rfl ?_;intro bk w' hg hbk hsz hsz')))
 rename_i b1 w1 g1 k1 p1 p1' b2 w2 g2 k2 p2 p2'
 cases hlf:cK nd with
 | true =>
  have hl4:=hl hlf
  have hA:(dM nd).1=⟨cO nd.items 4 nd.items.length,[],[]⟩:=by simp [dM,hlf]
  have hB:(dM nd).2.1=⟨cO nd.items 0 4,[],[]⟩:=by simp [dM,hlf]
  have hkey:(dM nd).2.2=((cO nd.items 0 4).getD 0 ([],[])).1:=by simp [dM,hlf]
  rw [hA,hB,hkey]
  repeat (first|refine TL.nil ?_|refine aA ?_|refine aJ ?_|refine aM rfl ?_|(refine aL 80 ?_;refine aI rfl (fC h hlf _) rfl ?_;rintro _ _ ⟨rfl,hgc⟩))
  rename_i w3
  have e1:Blk w3 b1 79 x.cs:=(k1.grow (g2.trans hg)).grow hgc
  have e2:Blk w3 b2 79 nil3:=(k2.grow hg).grow hgc
  have e3:Blk w3 bk 79 nil3:=hbk.grow hgc
  have hg3:Grow w w3:=g1.trans (g2.trans (hg.trans hgc))
  have z3:=hg3.size
  have zc:=hgc.size
  have q1:w.heap.size≤b1∧b1<b2∧b2<bk∧bk<w3.heap.size:=by have:=g1.size;omega
  obtain ⟨G,hG⟩:∃ G,G=Gap F w.heap.size w3.heap.size:=⟨_,rfl⟩
  have hN:NdAt G w3 x nd:=by rw [hG];exact nd_gap h hg3
  have hGF:∀ wq:World,w3.heap.size≤wq.heap.size→∀ k,wq.heap.size≤k→G k:=λ wq hq k hk=>by rw [hG];exact ⟨hF k (by omega),.inr (by omega)⟩
  clear hbk hg hgc k1 k2 g1 g2 hsz' p1' p2' p1 p2
  apply T.any 10 [is (.pointer (some ⟨b1,0,none⟩)),is (.slice x.a1 x.n1 x.c1),is (.pointer (some ⟨b1,0,none⟩)),is (.slice x.a1 x.n1 x.c1),is (.int .i64 (x.n1:Int)),itsF G (x.n1-(x.n1-4)) (cO nd.items 4 x.n1),is (.pointer (some ⟨b1,0,none⟩)),is (.slice x.a1 x.n1 x.c1),itsF G (x.n1-(4-0)) (cO nd.items 0 4),is (.pointer (some ⟨b2,0,none⟩))]
  ·rfl
  ·repeat' (first|exact bW|refine bU ?_ ?_)
   iterate 5
    ·(refine aR rfl rfl rfl ?_);( intro wq _ _ hgq;(repeat (refine aG rfl rfl ?_;intro vq hvq;try (obtain rfl:=hvq)));(refine aN ?_))
     repeat (first|refine aK rfl yM rfl ?_|refine aF rfl rfl ?_|refine TL.nil ?_|refine aO rfl rfl ?_)
     exact aT rfl yG rfl
   ·(refine aR rfl rfl rfl ?_);( intro wq _ _ hgq;(repeat (refine aG rfl rfl ?_;intro vq hvq;try (obtain rfl:=hvq)));(refine aN ?_))
    refine aL 81 ?_
    refine aI rfl (cutI_c (F:=G) (hGF _ (by have:=hgq.size;omega)) x.a1 x.n1 x.c1 4 x.n1 nd.items (hN.its.go (Carry.grow yG)) (by omega) (by omega) (by omega)) rfl ?_
    rintro v wr ⟨⟨a',c',rfl,hi⟩,hgr⟩
    repeat (refine TL.nil ?_)
    exact aT rfl yG ⟨a',c',rfl,hi⟩
   iterate 2
    ·(refine aR rfl rfl rfl ?_);( intro wq _ _ hgq;(repeat (refine aG rfl rfl ?_;intro vq hvq;try (obtain rfl:=hvq)));(refine aN ?_))
     repeat (first|refine aK rfl yM rfl ?_|refine aF rfl rfl ?_|refine TL.nil ?_)
     exact aT rfl yG rfl
   ·(refine aR rfl rfl rfl ?_);( intro wq _ _ hgq;(repeat (refine aG rfl rfl ?_;intro vq hvq;try (obtain rfl:=hvq)));(refine aN ?_))
    refine aL 81 ?_
    refine aI rfl (cutI_c (F:=G) (hGF _ (by have:=hgq.size;omega)) x.a1 x.n1 x.c1 0 4 nd.items (hN.its.go (Carry.grow yG)) (by omega) (by omega) (by omega)) rfl ?_
    rintro v wr ⟨⟨a',c',rfl,hi⟩,hgr⟩
    repeat (refine TL.nil ?_)
    exact aT rfl yG ⟨a',c',rfl,hi⟩
   iterate 1
    ·(refine aR rfl rfl rfl ?_);( intro wq _ _ hgq;(repeat (refine aG rfl rfl ?_;intro vq hvq;try (obtain rfl:=hvq)));(refine aN ?_))
     repeat (first|refine aF rfl rfl ?_|refine TL.nil ?_)
     exact aT rfl yG rfl
  ·intro w2 lo2 hi2 hg2 _ _
   iterate 5 (refine aG rfl rfl ?_;intro vq hvq;try (obtain rfl:=hvq))
   refine aG rfl rfl ?_
   rintro v5 ⟨a52,c52,rfl,h52⟩
   iterate 2 (refine aG rfl rfl ?_;intro vq hvq;try (obtain rfl:=hvq))
   refine aG rfl rfl ?_
   rintro v8 ⟨a82,c82,rfl,h82⟩
   iterate 1 (refine aG rfl rfl ?_;intro vq hvq;try (obtain rfl:=hvq))
   refine aN ?_
   repeat (first|refine aF rfl rfl ?_|refine TL.nil ?_|refine aA ?_|refine aJ ?_|(refine aP ?_;(refine bQ rfl rfl yB (by exact rfl) (by exact rfl) (by exact rfl) ?_;intro w' hu hbk hsz)))
   rename_i w4 hu4 hb4 z4
   have z2:=hg2.size
   have hN5:NdAt G w' ⟨a52,x.n1-(x.n1-4),c52,none,0,0,none,0,0⟩ ⟨cO nd.items 4 nd.items.length,[],[]⟩:=by
    rw [hG] at h52 ⊢
    rw [← hn1]
    exact ⟨(h52.go (Gap.up hu4 (by omega) (by omega))).go (Gap.up hu (by omega) (by omega)),jR,jF⟩
   have hN8:NdAt G w' ⟨a82,x.n1-(4-0),c82,none,0,0,none,0,0⟩ ⟨cO nd.items 0 4,[],[]⟩:=by
    rw [hG] at h82 ⊢
    exact ⟨(h82.go (Gap.up hu4 (by omega) (by omega))).go (Gap.up hu (by omega) (by omega)),jR,jF⟩
   have hy2:Blk w' b2 79 [.slice a52 (x.n1-(x.n1-4)) c52,.slice none 0 0,.slice none 0 0]:=hb4.upd hu (by omega)
   have hz2:Blk w' bk 79 [.slice a82 (x.n1-(4-0)) c82,.slice none 0 0,.slice none 0 0]:=hbk
   have hgr2:Grow w w':=aX hu (by omega) (aX hu4 (by omega) (hg3.trans hg2))
   obtain ⟨y0,hy0⟩:∃ y,(cO nd.items 0 4)[0]? = some y:=⟨_,List.getElem?_eq_getElem (by rw [eG (by omega) (by omega)];omega)⟩
   obtain ⟨cs8,hs8,hc8⟩:=hN8.its.ex
   obtain ⟨kv,vv,f0,f1,hbk0,hbv0⟩:=hc8.at' hy0
   have hkk:BsAt G w' kv ((cO nd.items 0 4).getD 0 ([],[])).1:=by
    rw [List.getD_eq_getElem?_getD,hy0]
    exact hbk0
   clear hbk hb4 h52 h82
   apply T.det 9 [.agg #[.slice a52 (x.n1-(x.n1-4)) c52,.slice none 0 0,.slice none 0 0],.agg #[.slice a82 (x.n1-(4-0)) c82,.slice none 0 0,.slice none 0 0],.pointer (some ⟨bk,0,none⟩),.slice a82 (x.n1-(4-0)) c82,.pointer (some (at' a82 0)),.pointer (some (at' a82 0)),kv,undef,undef]
    (λ w1=>Blk w1 b2 79 [.slice a52 (x.n1-(x.n1-4)) c52,.slice none 0 0,.slice none 0 0]∧Blk w1 bk 79 [.slice a82 (x.n1-(4-0)) c82,.slice none 0 0,.slice none 0 0]∧Carry G w' G w1∧Grow w w1)
   ·rfl
   ·exact λ w1 h1=>⟨hy2.grow h1,hz2.grow h1,Carry.grow h1,hgr2.trans h1⟩
   ·repeat' (first|exact gX|refine fX ?_ ?_)
    iterate 4
     ·refine jT rfl rfl rfl ?_
      rintro wq ⟨i1,i2,i3,i4⟩
      repeat (first|(refine aY ?_;first|refine aK rfl yM rfl ?_|refine bK rfl yB (by exact rfl) rfl ?_)|refine aF rfl rfl ?_|refine TL.nil ?_)
      exact bD rfl ⟨i1,i2,i3,i4⟩
    ·refine jT rfl rfl rfl ?_
     rintro wq ⟨i1,i2,i3,i4⟩
     repeat (first|(refine bC ?_;refine aV (j:=0) rfl rfl rfl (by omega) rfl ⟨G,_,hs8.go i3⟩ rfl ?_)|refine TL.nil ?_)
     exact bD rfl ⟨i1,i2,i3,i4⟩
    ·refine jT rfl rfl rfl ?_
     rintro wq ⟨i1,i2,i3,i4⟩
     repeat (first|(refine dU ?_;refine dV (o:=0) rfl (hs8.go i3) f0 rfl ?_)|refine TL.nil ?_)
     exact bD rfl ⟨i1,i2,i3,i4⟩
    ·refine jT rfl rfl rfl ?_
     rintro wq ⟨i1,i2,i3,i4⟩
     have hcx:wq.cell? (at' a82 0)=some kv:=(hs8.go i3).row.cell f0
     have hone:=hkk.one
     repeat (first|refine aK rfl yM rfl ?_|refine TL.nil ?_)
     exact bD rfl ⟨i1,i2,i3,i4⟩
    ·refine jT rfl rfl rfl ?_
     rintro wq ⟨i1,i2,i3,i4⟩
     repeat (first|refine TL.nil ?_|(refine aP ?_;(refine bA rfl rfl yB (by exact rfl) (by exact rfl) (by exact rfl) ?_;intro w' hu hbk hsz)))
     refine iC ⟨hbk,i2.upd hu (by omega),?_,aX hu (by omega) i4⟩
     rw [hG] at i3 ⊢
     exact i3.trans (Gap.up hu (by omega) (by omega))
    ·refine jT rfl rfl rfl ?_
     rintro wq ⟨i1,i2,i3,i4⟩
     repeat (first|refine TL.nil ?_|(refine aP ?_;(refine bA rfl rfl yB (by exact rfl) (by exact rfl) (by exact rfl) ?_;intro w' hu hbk hsz)))
     refine iC ⟨i1.upd hu (by omega),hbk,?_,aX hu (by omega) i4⟩
     rw [hG] at i3 ⊢
     exact i3.trans (Gap.up hu (by omega) (by omega))
   ·rintro w9 ⟨i1,i2,i3,i4⟩
    repeat (first|(refine aD ?_;refine TL.pure rfl rfl ?_)|refine TL.nil ?_|refine aA ?_|refine bE ?_|refine bI ?_)
    refine retCCT rfl (bV i1 rfl) rfl (bV i2 rfl) rfl ⟨_,rfl,⟨⟨a52,x.n1-(x.n1-4),c52,none,0,0,none,0,0⟩,⟨a82,x.n1-(4-0),c82,none,0,0,none,0,0⟩,kv,rfl,(hN5.go i3).go ?_,(hN8.go i3).go ?_,(hkk.go i3).go ?_⟩,i4⟩<;>(rw [hG];exact Gap.out)
 | false =>
  obtain ⟨hk4,hy4,hy1⟩:=hk hlf
  have hA:(dM nd).1=⟨[],cO nd.kids 4 nd.kids.length,cO nd.keys 3 nd.keys.length⟩:=by simp [dM,hlf]
  have hB:(dM nd).2.1=⟨[],cO nd.kids 0 4,cO nd.keys 0 4⟩:=by simp [dM,hlf]
  have hkey:(dM nd).2.2=nd.keys.getD 3 []:=by simp [dM,hlf]
  rw [hA,hB,hkey]
  repeat (first|refine TL.nil ?_|refine aA ?_|refine aJ ?_|refine aE rfl ?_|refine aW ?_|(refine aL 80 ?_;refine aI rfl (fC h hlf _) rfl ?_;rintro _ _ ⟨rfl,hgc⟩))
  rename_i w3
  have e1:Blk w3 b1 79 x.cs:=(k1.grow (g2.trans hg)).grow hgc
  have e2:Blk w3 b2 79 nil3:=(k2.grow hg).grow hgc
  have e3:Blk w3 bk 79 nil3:=hbk.grow hgc
  have hg3:Grow w w3:=g1.trans (g2.trans (hg.trans hgc))
  have z3:=hg3.size
  have zc:=hgc.size
  have q1:w.heap.size≤b1∧b1<b2∧b2<bk∧bk<w3.heap.size:=by have:=g1.size;omega
  obtain ⟨G,hG⟩:∃ G,G=Gap F w.heap.size w3.heap.size:=⟨_,rfl⟩
  have hN:NdAt G w3 x nd:=by rw [hG];exact nd_gap h hg3
  have hGF:∀ wq:World,w3.heap.size≤wq.heap.size→∀ k,wq.heap.size≤k→G k:=λ wq hq k hk=>by rw [hG];exact ⟨hF k (by omega),.inr (by omega)⟩
  clear hbk hg hgc k1 k2 g1 g2 hsz' p1' p2' p1 p2
  apply T.any 10 [is (.pointer (some ⟨b1,1,none⟩)),is (.slice x.a2 x.n2 x.c2),is (.pointer (some ⟨b1,1,none⟩)),is (.slice x.a2 x.n2 x.c2),is (.int .i64 (x.n2:Int)),kidF G (x.n2-(x.n2-4)) (cO nd.kids 4 x.n2),is (.pointer (some ⟨b1,1,none⟩)),is (.slice x.a2 x.n2 x.c2),kidF G (x.n2-(4-0)) (cO nd.kids 0 4),is (.pointer (some ⟨b2,1,none⟩))]
  ·rfl
  ·repeat' (first|exact bW|refine bU ?_ ?_)
   iterate 5
    ·(refine aR rfl rfl rfl ?_);( intro wq _ _ hgq;(repeat (refine aG rfl rfl ?_;intro vq hvq;try (obtain rfl:=hvq)));(refine aN ?_))
     repeat (first|refine aK rfl yM rfl ?_|refine aF rfl rfl ?_|refine TL.nil ?_|refine aO rfl rfl ?_)
     exact aT rfl yG rfl
   ·(refine aR rfl rfl rfl ?_);( intro wq _ _ hgq;(repeat (refine aG rfl rfl ?_;intro vq hvq;try (obtain rfl:=hvq)));(refine aN ?_))
    refine aL 97 ?_
    refine aI rfl (cutN_c (F:=G) (hGF _ (by have:=hgq.size;omega)) x.a2 x.n2 x.c2 4 x.n2 nd.kids (hN.kids.grow yG) (by omega) (by omega) (by omega)) rfl ?_
    rintro v wr ⟨⟨a',c',rfl,hi⟩,hgr⟩
    repeat (refine TL.nil ?_)
    exact aT rfl yG ⟨a',c',rfl,hi⟩
   iterate 2
    ·(refine aR rfl rfl rfl ?_);( intro wq _ _ hgq;(repeat (refine aG rfl rfl ?_;intro vq hvq;try (obtain rfl:=hvq)));(refine aN ?_))
     repeat (first|refine aK rfl yM rfl ?_|refine aF rfl rfl ?_|refine TL.nil ?_)
     exact aT rfl yG rfl
   ·(refine aR rfl rfl rfl ?_);( intro wq _ _ hgq;(repeat (refine aG rfl rfl ?_;intro vq hvq;try (obtain rfl:=hvq)));(refine aN ?_))
    refine aL 97 ?_
    refine aI rfl (cutN_c (F:=G) (hGF _ (by have:=hgq.size;omega)) x.a2 x.n2 x.c2 0 4 nd.kids (hN.kids.grow yG) (by omega) (by omega) (by omega)) rfl ?_
    rintro v wr ⟨⟨a',c',rfl,hi⟩,hgr⟩
    repeat (refine TL.nil ?_)
    exact aT rfl yG ⟨a',c',rfl,hi⟩
   iterate 1
    ·(refine aR rfl rfl rfl ?_);( intro wq _ _ hgq;(repeat (refine aG rfl rfl ?_;intro vq hvq;try (obtain rfl:=hvq)));(refine aN ?_))
     repeat (first|refine aF rfl rfl ?_|refine TL.nil ?_)
     exact aT rfl yG rfl
  ·intro w4 lo4 hi4 hg4 _ _
   iterate 5 (refine aG rfl rfl ?_;intro vq hvq;try (obtain rfl:=hvq))
   refine aG rfl rfl ?_
   rintro v5 ⟨a54,c54,rfl,h54⟩
   iterate 2 (refine aG rfl rfl ?_;intro vq hvq;try (obtain rfl:=hvq))
   refine aG rfl rfl ?_
   rintro v8 ⟨a84,c84,rfl,h84⟩
   iterate 1 (refine aG rfl rfl ?_;intro vq hvq;try (obtain rfl:=hvq))
   refine aN ?_
   repeat (first|refine aF rfl rfl ?_|refine TL.nil ?_|refine aA ?_|refine aJ ?_|(refine aP ?_;(refine bQ rfl rfl yB (by exact rfl) (by exact rfl) (by exact rfl) ?_;intro w' hu hbk hsz)))
   rename_i w4 hu4 hb4 z4
   have z2:=hg4.size
   have u4:Carry G w3 G w':=by
    rw [hG]
    exact (Carry.grow hg4).trans ((Gap.up hu4 (by omega) (by omega)).trans (Gap.up hu (by omega) (by omega)))
   have u5:Carry G w3 G w3:=Carry.mono λ k hk _=>hk
   replace hN:=hN.go u4
   have h54:Sl G w' 1 a54 (x.n2-(x.n2-4)) c54 (cM (cO nd.kids 4 x.n2)):=by
    rw [hG] at h54 ⊢
    exact h54.go ((Gap.up hu4 (by omega) (by omega)).trans (Gap.up hu (by omega) (by omega)))
   have h84:Sl G w' 1 a84 (x.n2-(4-0)) c84 (cM (cO nd.kids 0 4)):=by
    rw [hG] at h84 ⊢
    exact h84.go ((Gap.up hu4 (by omega) (by omega)).trans (Gap.up hu (by omega) (by omega)))
   have hy2:Blk w' b2 79 [.slice none 0 0,.slice a54 (x.n2-(x.n2-4)) c54,.slice none 0 0]:=hb4.upd hu (by omega)
   have hz2:Blk w' bk 79 [.slice none 0 0,.slice a84 (x.n2-(4-0)) c84,.slice none 0 0]:=hbk
   have e1':Blk w' b1 79 x.cs:=((e1.grow hg4).upd hu4 (by omega)).upd hu (by omega)
   have hgr2:Grow w w':=aX hu (by omega) (aX hu4 (by omega) (hg3.trans hg4))
   have z6:w3.heap.size≤w'.heap.size:=by omega
   clear hbk hb4 hu4 hu e1 e2 e3 u4 u5 hsz
   obtain ⟨w6,rfl⟩:∃ y,y=w':=⟨w',rfl⟩
   clear hg4
   apply T.any 10 [is (.pointer (some ⟨b1,2,none⟩)),is (.slice x.a3 x.n3 x.c3),is (.pointer (some ⟨b1,2,none⟩)),is (.slice x.a3 x.n3 x.c3),is (.int .i64 (x.n3:Int)),kysF G (x.n3-(x.n3-3)) (cO nd.keys 3 x.n3),is (.pointer (some ⟨b1,2,none⟩)),is (.slice x.a3 x.n3 x.c3),kysF G (x.n3-(4-0)) (cO nd.keys 0 4),is (.pointer (some ⟨b2,2,none⟩))]
   ·rfl
   ·repeat' (first|exact bW|refine bU ?_ ?_)
    iterate 5
     ·(refine aR rfl rfl rfl ?_);( intro wq _ _ hgq;(repeat (refine aG rfl rfl ?_;intro vq hvq;try (obtain rfl:=hvq)));(refine aN ?_))
      repeat (first|refine aK rfl yM rfl ?_|refine aF rfl rfl ?_|refine TL.nil ?_|refine aO rfl rfl ?_)
      exact aT rfl yG rfl
    ·(refine aR rfl rfl rfl ?_);( intro wq _ _ hgq;(repeat (refine aG rfl rfl ?_;intro vq hvq;try (obtain rfl:=hvq)));(refine aN ?_))
     refine aL 194 ?_
     refine aI rfl (cutK_c (F:=G) (hGF _ (by have:=hgq.size;omega)) x.a3 x.n3 x.c3 3 x.n3 nd.keys (hN.kys.go (Carry.grow yG)) (by omega) (by omega) (by omega)) rfl ?_
     rintro v wr ⟨⟨a',c',rfl,hi⟩,hgr⟩
     repeat (refine TL.nil ?_)
     exact aT rfl yG ⟨a',c',rfl,hi⟩
    iterate 2
     ·(refine aR rfl rfl rfl ?_);( intro wq _ _ hgq;(repeat (refine aG rfl rfl ?_;intro vq hvq;try (obtain rfl:=hvq)));(refine aN ?_))
      repeat (first|refine aK rfl yM rfl ?_|refine aF rfl rfl ?_|refine TL.nil ?_)
      exact aT rfl yG rfl
    ·(refine aR rfl rfl rfl ?_);( intro wq _ _ hgq;(repeat (refine aG rfl rfl ?_;intro vq hvq;try (obtain rfl:=hvq)));(refine aN ?_))
     refine aL 194 ?_
     refine aI rfl (cutK_c (F:=G) (hGF _ (by have:=hgq.size;omega)) x.a3 x.n3 x.c3 0 4 nd.keys (hN.kys.go (Carry.grow yG)) (by omega) (by omega) (by omega)) rfl ?_
     rintro v wr ⟨⟨a',c',rfl,hi⟩,hgr⟩
     repeat (refine TL.nil ?_)
     exact aT rfl yG ⟨a',c',rfl,hi⟩
    iterate 1
     ·(refine aR rfl rfl rfl ?_);( intro wq _ _ hgq;(repeat (refine aG rfl rfl ?_;intro vq hvq;try (obtain rfl:=hvq)));(refine aN ?_))
      repeat (first|refine aF rfl rfl ?_|refine TL.nil ?_)
      exact aT rfl yG rfl
   ·intro w5 lo5 hi5 hg5 _ _
    iterate 5 (refine aG rfl rfl ?_;intro vq hvq;try (obtain rfl:=hvq))
    refine aG rfl rfl ?_
    rintro v5 ⟨a55,c55,rfl,h55⟩
    iterate 2 (refine aG rfl rfl ?_;intro vq hvq;try (obtain rfl:=hvq))
    refine aG rfl rfl ?_
    rintro v8 ⟨a85,c85,rfl,h85⟩
    iterate 1 (refine aG rfl rfl ?_;intro vq hvq;try (obtain rfl:=hvq))
    refine aN ?_
    repeat (first|refine aF rfl rfl ?_|refine TL.nil ?_|refine aA ?_|refine aJ ?_|(refine aP ?_;(refine bQ rfl rfl yB (by exact rfl) (by exact rfl) (by exact rfl) ?_;intro w' hu hbk hsz)))
    rename_i w4' hu4 hb4 z4'
    have z5:=hg5.size
    have u4:Carry G w6 G w':=by
     rw [hG]
     exact (Carry.grow hg5).trans ((Gap.up hu4 (by omega) (by omega)).trans (Gap.up hu (by omega) (by omega)))
    have h55:KysAt G w' a55 (x.n3-(x.n3-3)) c55 (cO nd.keys 3 x.n3):=by
     rw [hG] at h55 ⊢
     exact h55.go ((Gap.up hu4 (by omega) (by omega)).trans (Gap.up hu (by omega) (by omega)))
    have h85:KysAt G w' a85 (x.n3-(4-0)) c85 (cO nd.keys 0 4):=by
     rw [hG] at h85 ⊢
     exact h85.go ((Gap.up hu4 (by omega) (by omega)).trans (Gap.up hu (by omega) (by omega)))
    have hy3:Blk w' b2 79 [.slice none 0 0,.slice a54 (x.n2-(x.n2-4)) c54,.slice a55 (x.n3-(x.n3-3)) c55]:=hb4.upd hu (by omega)
    have hz3:Blk w' bk 79 [.slice none 0 0,.slice a84 (x.n2-(4-0)) c84,.slice a85 (x.n3-(4-0)) c85]:=hbk
    have hN5:NdAt G w' ⟨none,0,0,a54,x.n2-(x.n2-4),c54,a55,x.n3-(x.n3-3),c55⟩ ⟨[],cO nd.kids 4 nd.kids.length,cO nd.keys 3 nd.keys.length⟩:=by
     rw [← hn2,← hn3]
     exact ⟨jS,h54.go u4,h55⟩
    have hN8:NdAt G w' ⟨none,0,0,a84,x.n2-(4-0),c84,a85,x.n3-(4-0),c85⟩ ⟨[],cO nd.kids 0 4,cO nd.keys 0 4⟩:=⟨jS,h84.go u4,h85⟩
    have e1'':Blk w' b1 79 x.cs:=((e1'.grow hg5).upd hu4 (by omega)).upd hu (by omega)
    have hgr5:Grow w w':=aX hu (by omega) (aX hu4 (by omega) (hgr2.trans hg5))
    obtain ⟨y0,hy0⟩:∃ y,nd.keys[3]? = some y:=⟨_,List.getElem?_eq_getElem (by omega)⟩
    obtain ⟨cs8,hs8,hc8⟩:=(hN.kys.go u4).ex
    obtain ⟨kv,f0,hbk0⟩:=hc8.at' hy0
    have hkk:BsAt G w' kv (nd.keys.getD 3 []):=by
     rw [List.getD_eq_getElem?_getD,hy0]
     exact hbk0
    clear hbk hb4 e1' hy2 hz2
    apply T.det 8 [.agg #[.slice none 0 0,.slice a54 (x.n2-(x.n2-4)) c54,.slice a55 (x.n3-(x.n3-3)) c55],.agg #[.slice none 0 0,.slice a84 (x.n2-(4-0)) c84,.slice a85 (x.n3-(4-0)) c85],.pointer (some ⟨b1,2,none⟩),.slice x.a3 x.n3 x.c3,.pointer (some (at' x.a3 3)),kv,undef,undef]
     (λ w1=>Blk w1 b2 79 [.slice none 0 0,.slice a54 (x.n2-(x.n2-4)) c54,.slice a55 (x.n3-(x.n3-3)) c55]∧Blk w1 bk 79 [.slice none 0 0,.slice a84 (x.n2-(4-0)) c84,.slice a85 (x.n3-(4-0)) c85]∧Blk w1 b1 79 x.cs∧Carry G w' G w1∧Grow w w1)
    ·rfl
    ·exact λ w1 h1=>⟨hy3.grow h1,hz3.grow h1,e1''.grow h1,Carry.grow h1,hgr5.trans h1⟩
    ·repeat' (first|exact gX|refine fX ?_ ?_)
     iterate 4
      ·refine jT rfl rfl rfl ?_
       rintro wq ⟨i1,i2,i0,i3,i4⟩
       repeat (first|(refine aY ?_;first|refine aK rfl yM rfl ?_|refine bK rfl yB (by exact rfl) rfl ?_)|refine aF rfl rfl ?_|refine TL.nil ?_)
       exact bD rfl ⟨i1,i2,i0,i3,i4⟩
     ·refine jT rfl rfl rfl ?_
      rintro wq ⟨i1,i2,i0,i3,i4⟩
      repeat (first|(refine bC ?_;refine aV (j:=3) rfl rfl rfl (by omega) rfl ⟨G,_,hs8.go i3⟩ rfl ?_)|refine TL.nil ?_)
      exact bD rfl ⟨i1,i2,i0,i3,i4⟩
     ·refine jT rfl rfl rfl ?_
      rintro wq ⟨i1,i2,i0,i3,i4⟩
      have hcx:wq.cell? (at' x.a3 3)=some kv:=(hs8.go i3).row.cell f0
      have hone:=hkk.one
      repeat (first|refine aK rfl yM rfl ?_|refine TL.nil ?_)
      exact bD rfl ⟨i1,i2,i0,i3,i4⟩
     ·refine jT rfl rfl rfl ?_
      rintro wq ⟨i1,i2,i0,i3,i4⟩
      repeat (first|refine TL.nil ?_|(refine aP ?_;(refine bA rfl rfl yB (by exact rfl) (by exact rfl) (by exact rfl) ?_;intro w' hu hbk hsz)))
      refine iC ⟨hbk,i2.upd hu (by omega),i0.upd hu (by omega),?_,aX hu (by omega) i4⟩
      rw [hG] at i3 ⊢
      exact i3.trans (Gap.up hu (by omega) (by omega))
     ·refine jT rfl rfl rfl ?_
      rintro wq ⟨i1,i2,i0,i3,i4⟩
      repeat (first|refine TL.nil ?_|(refine aP ?_;(refine bA rfl rfl yB (by exact rfl) (by exact rfl) (by exact rfl) ?_;intro w' hu hbk hsz)))
      refine iC ⟨i1.upd hu (by omega),hbk,i0.upd hu (by omega),?_,aX hu (by omega) i4⟩
      rw [hG] at i3 ⊢
      exact i3.trans (Gap.up hu (by omega) (by omega))
    ·rintro w9 ⟨i1,i2,i0,i3,i4⟩
     repeat (first|(refine aD ?_;refine TL.pure rfl rfl ?_)|refine TL.nil ?_|refine aA ?_|refine bE ?_)
     refine retCCT rfl (bV i1 rfl) rfl (bV i2 rfl) rfl ⟨_,rfl,⟨⟨none,0,0,a54,x.n2-(x.n2-4),c54,a55,x.n3-(x.n3-3),c55⟩,⟨none,0,0,a84,x.n2-(4-0),c84,a85,x.n3-(4-0),c85⟩,kv,rfl,(hN5.go i3).go ?_,(hN8.go i3).go ?_,(hkk.go i3).go ?_⟩,i4⟩<;>(rw [hG];exact Gap.out)
end Go.Proofs.YtfpadnmdafiddaaGreatDoor
namespace Go.V
open Go Go.RowKit
theorem Carry.own {F:Nat→Prop} {w w':World} {v:Value} {B:Nat} (hgb:w.grownBy w' v.ownBlock) (hB:∀ k,v.ownBlock=some k→B≤k) (hF:∀ k,F k→k<B):Carry F w F w' :=
 ⟨hgb.size,λ k hk hl=>⟨hk,hgb.block k hl (λ e=>by have:=hB k e.symm;have:=hF k hk;omega)⟩⟩
end Go.V
namespace Go.Proofs.YtfpadnmdafiddaaGreatDoor
open Go Go.RowKit Go.V
theorem ButS.own {S:Nat→Prop} {w0 w w':World} {v:Value} {B:Nat} (h:ButS S w0 w) (hgb:w.grownBy w' v.ownBlock) (hB:∀ k,v.ownBlock=some k→B≤k) (h0:w0.heap.size≤B):ButS S w0 w' :=
 ⟨hgb.os.trans h.os,hgb.tape.trans h.tape,hgb.output.trans h.output,Nat.le_trans h.size hgb.size,λ k hk hs=>(hgb.block k (Nat.lt_of_lt_of_le hk h.size) (λ e=>by have:=hB k e.symm;omega)).trans (h.block k hk hs)⟩
theorem eW {w w':World} {b:Nat} {t:TypeId} {cs:List Value} (h:Blk w b t cs) (e:w'.heap[b]? = w.heap[b]?):Blk w' b t cs:=by unfold Blk at *;rw [e];exact h
theorem PgAt.keep {w w':World} {L:PL} {g:Pg} (h:PgAt w L g) (hk:∀ b,b=L.p∨b=L.d∨b=L.u∨b=L.m→w'.heap[b]? = w.heap[b]?):PgAt w' L g:=by
 obtain ⟨f,h1,h2⟩:=h.f
 exact ⟨eW h.blk (hk _ (.inl rfl)),eW h.used (hk _ (.inr (.inr (.inl rfl)))),h.ok,h.cnt,⟨f,h1.keep (hk _ (.inr (.inl rfl))) (hk _ (.inr (.inr (.inr rfl)))),h2⟩,h.lt,h.bl,h.ne⟩
theorem iI {s:Pg} {nd:Nd} {r:Nat×Pg} (h:gB s nd=some r):cE nd=true∧newP s (fN nd)=some r:=by
 unfold gB at h
 split at h
 ·exact ⟨by assumption,h⟩
 ·cases h
theorem mJ {s s2:Pg} {x:Nd} {r:List Nd} {ks:List Nat} (h:eN s (x::r)=some (ks,s2)):∃ p s1 l,gB s x=some (p,s1)∧eN s1 r=some (l,s2)∧ks=p::l:=by
 unfold eN at h
 split at h
 ·cases h
 ·rename_i p s1 e1
  split at h
  ·cases h
  ·rename_i l s2' e2
   simp only [Option.some.injEq,Prod.mk.injEq] at h
   obtain ⟨rfl,rfl⟩:=h
   exact ⟨p,s1,l,e1,e2,rfl⟩
theorem storeP_parts {s s':Pg} {n up:Nd} (h:storeP s n=some (up,s')):∃ nds ks,eN s nds=some (up.kids,s')∧up=⟨[],up.kids,ks⟩∧((bJ n≤8∧nds=[n]∧ks=[])∨(8<bJ n∧nds=[(dM n).1,(dM n).2.1]∧ks=[(dM n).2.2])):=by
 unfold storeP at h
 split at h
 ·rename_i h8
  split at h
  ·cases h
  ·rename_i p s1 e1
   split at h
   ·cases h
   ·rename_i q s2 e2
    simp only [Option.some.injEq,Prod.mk.injEq] at h
    obtain ⟨rfl,rfl⟩:=h
    exact ⟨_,_,by simp [eN,e1,e2],rfl,.inr ⟨h8,rfl,rfl⟩⟩
 ·rename_i h8
  split at h
  ·cases h
  ·rename_i p s1 e1
   simp only [Option.some.injEq,Prod.mk.injEq] at h
   obtain ⟨rfl,rfl⟩:=h
   exact ⟨_,_,by simp [eN,e1],rfl,.inl ⟨by omega,rfl,rfl⟩⟩
def NdsAt (F:Nat→Prop) (w:World):List Value→List Nd→Prop
 | [],[]=>True
 | v1::v2::v3::cs,nd::l=>(∃ x:NV,v1=x.v1∧v2=x.v2∧v3=x.v3∧NdAt F w x nd)∧NdsAt F w cs l
 | _,_=>False
theorem NdsAt.at' {F:Nat→Prop} {w:World}:∀ {l:List Nd} {cs:List Value} {i:Nat} {nd:Nd},NdsAt F w cs l→l[i]? = some nd→∃ x:NV,(∀ j u,[x.v1,x.v2,x.v3][j]? = some u→cs[i*3+j]? = some u)∧NdAt F w x nd
 | [],_,i,nd,_,hx=>by simp at hx
 | _::_,[],_,_,h,_=>h.elim
 | _::_,[_],_,_,h,_=>h.elim
 | _::_,[_,_],_,_,h,_=>h.elim
 | y::l,v1::v2::v3::cs,0,nd,⟨⟨x,h1,h2,h3,h4⟩,_⟩,hx=>by
  simp only [List.getElem?_cons_zero,Option.some.injEq] at hx
  subst hx
  refine ⟨x,λ j u hj=>?_,h4⟩
  subst h1 h2 h3
  match j,hj with
  | 0,hj=>simpa using hj
  | 1,hj=>simpa using hj
  | 2,hj=>simpa using hj
 | y::l,v1::v2::v3::cs,i+1,nd,⟨_,h⟩,hx=>by
  obtain ⟨x,h1,h2⟩:=NdsAt.at' h (by simpa using hx)
  refine ⟨x,λ j u hj=>?_,h2⟩
  rw [show (i+1)*3+j=(i*3+j)+1+1+1 by omega]
  simpa using h1 j u hj
theorem store_c {w:World} {L:PL} {g g':Pg} (h:PgAt w L g) (ht:TabAt w) (h0:¬ L.S 0) (F:Nat→Prop) (hFS:∀ k,F k→¬ L.S k) (hFw:∀ k,w.heap.size≤k→F k) (x:NV) (nd up:Nd) (hnd:NdAt F w x nd) (hb:NdB nd) (h9:bJ nd≤1000) (hsh:cK nd=false→nd.items=[]∧nd.keys.length+1=nd.kids.length) (hst:storeP g nd=some (up,g')) :
  Calls Tryz.prog 100 #[.pointer (some ⟨L.p,0,none⟩),x.val] w (Ret λ v w'=>(∃ y:NV,v=.tuple #[y.val,.int .i64 0]∧NdAt F w' y up)∧PgAt w' L g'∧ButS L.S w w'):=by
 obtain ⟨nds,ks,hw,hup,hor⟩:=storeP_parts hst
 have hn1:=hnd.its.len
 have hn2:=eI hnd.kids
 have hsz:nd.items.length≤1000∧nd.kids.length≤1000:=by unfold bJ at h9;omega
 have hSl:∀ k,w.heap.size≤k→¬ L.S k:=λ k hk=>by have:=h.lts;unfold PL.S;omega
 have hbs:∀ nd∈nds,NdB nd:=by
  obtain ⟨s1,s2,s3⟩:=splitN_by hb
  rcases hor with ⟨_,rfl,_⟩|⟨_,rfl,_⟩
  ·intro n hn;simp only [List.mem_singleton] at hn;subst hn;exact hb
  ·intro n hn;simp only [List.mem_cons,List.not_mem_nil,or_false] at hn;rcases hn with rfl|rfl
   ·exact s1
   ·exact s2
 refine V.calls (args:=[_,_]) Tryz.func100 rfl Tryz.ntmps100 rfl rfl ?_
 refine fQ 4 (λ e wC=>∃ (a:Option Addr) (c b4 b6:Nat) (cells:List Value) (a3:Option Addr) (n3 c3:Nat) (G:Nat→Prop),Sub [(7,.slice a nds.length c),(6,.pointer (some ⟨b6,0,none⟩)),(4,.pointer (some ⟨b4,0,none⟩)),(0,.pointer (some ⟨L.p,0,none⟩))] e ∧
  (∀ k,G k→F k∧k≠b6∧k≠b4)∧Sl G wC 3 a nds.length c cells∧NdsAt G wC cells nds∧Blk wC b6 79 [.slice none 0 0,.slice none 0 0,.slice a3 n3 c3]∧KysAt G wC a3 n3 c3 ks∧Blk wC b4 79 nil3∧Grow w wC∧w.heap.size≤b6∧w.heap.size≤b4∧b4≠b6) ?_ ?_
 rotate_left
 ·repeat (first|(refine aD ?_;refine TL.pure rfl rfl ?_)|(refine aY ?_;refine bK rfl yB (by exact rfl) rfl ?_)|refine TL.nil ?_|refine aC ?_|(refine cD ?_;(refine dP rfl rfl ?_;intro bk w' hg hbk hsz hsz'))|(refine bF ?_;(refine TL.alloc rfl rfl ?_;intro bk w' hg hbk hsz hsz'))|refine bB ?_|refine cQ ?_)
  rename_i b3 w1 g1 k1 p1 p1' b4 w2 g2 k2 p2 p2'
  obtain ⟨b6,rfl⟩:∃ y,y=bk:=⟨bk,rfl⟩
  have zg:=g1.size
  refine TL.buildSlice rfl rfl rfl rfl rfl ?_
  intro b' wa hga hba hsa hsb hsc
  have k4:Blk wa b4 79 nil3:=(k2.grow hg).grow hga
  have k6:Blk wa b6 79 nil3:=hbk.grow hga
  have k3:Blk wa b3 79 x.cs:=((k1.grow g2).grow hg).grow hga
  have hgw:Grow w wa:=g1.trans (g2.trans (hg.trans hga))
  have q:w.heap.size≤b4∧w.heap.size≤b6∧b4≠b6∧b'≠b4∧b'≠b6∧w.heap.size≤b'∧b4<wa.heap.size∧b6<wa.heap.size:=by omega
  have hx:NdAt (λ k=>F k∧k≠b6∧k≠b4) wa x nd:=(hnd.go (Carry.mono (λ k hk hl=>⟨hk,by omega,by omega⟩))).go (Carry.grow hgw)
  have hba':Blk wa b' 79 x.cs:=hba
  clear hbk hg hga k1 k2 g1 g2 hba hsz hsz' p1 p1' p2 p2' hsa hsb zg
  rcases hor with ⟨h8,rfl,rfl⟩|⟨h8,rfl,rfl⟩
  ·have h8':¬ 8<x.n1+x.n2:=by unfold bJ at h8;omega
   repeat (first|(refine aD ?_;refine TL.pure rfl rfl ?_)|(refine aY ?_;refine bK rfl yB (by exact rfl) rfl ?_)|refine TL.nil ?_|refine aA ?_|refine aJ ?_|refine aC ?_|(refine aH ?_;refine aQ rfl yD rfl ?_)|refine aE rfl ?_|refine aW ?_|refine bB ?_|refine cQ ?_|refine bY ?_|(refine aL 83 ?_;refine aI rfl (iJ x _ (by omega) (by omega)) rfl ?_;rintro _ _ ⟨rfl,hgc⟩))
   refine ⟨some ⟨b',0,none⟩,1,b4,b6,x.cs,none,0,0,(λ k=>F k∧k≠b6∧k≠b4),⟨rfl,rfl,rfl,rfl,trivial⟩,λ k hk=>hk,?_,⟨⟨x,rfl,rfl,rfl,hx.go (Carry.grow hgc)⟩,trivial⟩,k6.grow hgc,jF,k4.grow hgc,hgw.trans hgc,q.2.1,q.1,q.2.2.1⟩
   exact (bR (sz:=3) (m:=1) (hba'.grow hgc) rfl (by decide)).mono (λ k hk=>by subst hk;exact ⟨hFw _ q.2.2.2.2.2.1,q.2.2.2.2.1,q.2.2.2.1⟩)
  ·have h8':8<x.n1+x.n2:=by unfold bJ at h8;omega
   repeat (first|(refine aD ?_;refine TL.pure rfl rfl ?_)|(refine aY ?_;refine bK rfl yB (by exact rfl) rfl ?_)|refine TL.nil ?_|refine aA ?_|refine aJ ?_|refine aC ?_|(refine aH ?_;refine aZ rfl yD rfl ?_)|refine aM rfl ?_|refine bB ?_|refine cQ ?_|(refine aL 83 ?_;refine aI rfl (iJ x _ (by omega) (by omega)) rfl ?_;rintro _ _ ⟨rfl,hgc⟩))
   rename_i w4
   have z4:=hgc.size
   refine aL 162 ?_
   refine aI rfl (split_c (λ k=>F k∧k≠b6∧k≠b4) w4 (λ k hk=>⟨hFw k (by have:=hgw.size;omega),by omega,by omega⟩) x nd (hx.go (Carry.grow hgc)) h9 ?_ ?_) rfl ?_
   ·intro hl
    rw [dK] at hl
    unfold bJ at h8
    rw [hl] at h8
    simp at h8
    omega
   ·intro hl
    obtain ⟨i1,i2⟩:=hsh hl
    unfold bJ at h8
    rw [i1] at h8
    simp at h8
    omega
   rintro _ w5 ⟨⟨y,z,kv,rfl,hy,hz,hkv⟩,hg5⟩
   obtain ⟨ka,kc,rfl,hks⟩:=hkv.sl
   have z5:=hg5.size
   have hgw5:=(hgw.trans hgc).trans hg5
   have zw5:=hgw5.size
   have kk:Carry (λ k=>F k∧k≠b6∧k≠b4) w5 (λ k=>(F k∧k≠b6∧k≠b4)∧k<w5.heap.size) w5:=Carry.mono (λ k hk hl=>⟨hk,hl⟩)
   replace hy:=hy.go kk
   replace hz:=hz.go kk
   have hks:=hks.go kk
   have j4:=(k4.grow hgc).grow hg5
   have j6:=(k6.grow hgc).grow hg5
   clear hgc hg5 k4 k6 k3 hba' hx kk hkv
   obtain ⟨w5',rfl⟩:∃ y,y=w5:=⟨w5,rfl⟩
   repeat (first|(refine aB ?_;refine TL.pure rfl rfl ?_)|(refine aD ?_;refine TL.pure rfl rfl ?_)|(refine aY ?_;refine bK rfl yB (by exact rfl) rfl ?_)|refine TL.nil ?_|refine aA ?_|refine aJ ?_|refine aC ?_|(refine aP ?_;(refine bA rfl rfl yB (by exact rfl) (by exact rfl) (by exact rfl) ?_;intro w' hu hbk hsz))|(refine bF ?_;(refine TL.alloc rfl rfl ?_;intro bk w' hg hbk hsz hsz'))|refine TL.pure rfl rfl ?_)
   rename_i b8 w8 g8 k8 p8 p8' w9 k9 p9 w10 u8 b10 z10
   refine TL.buildSlice rfl rfl rfl rfl rfl ?_
   intro bp wb hgp hbp hsp hsq hsr
   have e8:b8=w5'.heap.size∧bk=w5'.heap.size+1:=by omega
   have uu:Carry (λ k=>(F k∧k≠b6∧k≠b4)∧k<w5'.heap.size) w5' (λ k=>(F k∧k≠b6∧k≠b4)∧k<w5'.heap.size) wb :=
    (Carry.grow (g8.trans hg)).trans ((Carry.upd u8 (λ k hk _=>by omega)).trans ((Carry.upd hu (λ k hk _=>by omega)).trans (Carry.grow hgp)))
   replace hy:=hy.go uu
   replace hz:=hz.go uu
   replace hks:=hks.go uu
   have hgwb:Grow w wb:=(aX hu (by omega) (aX u8 (by omega) (hgw5.trans (g8.trans hg)))).trans hgp
   have j4':Blk wb b4 79 nil3:=((((j4.grow (g8.trans hg)).upd u8 (by omega)).upd hu (by omega)).grow hgp)
   have j6':Blk wb b6 79 nil3:=((((j6.grow (g8.trans hg)).upd u8 (by omega)).upd hu (by omega)).grow hgp)
   have hbp':Blk wb bp 79 (y.cs++z.cs):=hbp
   have hpn:bp≠b4∧bp≠b6∧w.heap.size≤bp:=by have:=hu.size;have:=u8.size;omega
   clear hbp hsp hsq hsr hbk hu z10 b10 u8 p9 p8 p8' k9 k8 g8 hg hgp uu j4 j6
   repeat (first|(refine aB ?_;refine TL.pure rfl rfl ?_)|(refine aD ?_;refine TL.pure rfl rfl ?_)|refine TL.nil ?_|refine aA ?_|refine aC ?_)
   refine TL.buildSlice rfl rfl rfl rfl rfl ?_
   intro bq wq hgq hbq hsp hsq hsr
   have hbq':Blk wq bq 30 [.slice ka (dM nd).2.2.length kc]:=hbq
   have hgwq:=hgwb.trans hgq
   have l4:=j4'.lt
   have l6:=j6'.lt
   have lq:=hbp'.lt
   have j4:=j4'.grow hgq
   have j6:=j6'.grow hgq
   have jp:=hbp'.grow hgq
   repeat (first|refine aF rfl rfl ?_|refine TL.nil ?_|(refine aP ?_;(refine bQ rfl rfl yB (by exact rfl) (by exact rfl) (by exact rfl) ?_;intro w' hu hbk hsz))|refine bB ?_|refine bY ?_)
   have hcar:Carry (λ k=>(F k∧k≠b6∧k≠b4)∧k<w5'.heap.size) wb (λ k=>F k∧k≠b6∧k≠b4) w' :=
    (Carry.grow hgq).trans ((Carry.upd hu (λ k hk _=>hk.1.2.1)).trans (Carry.mono λ k hk _=>hk.1))
   have hqs:w.heap.size≤bq∧bq≠b4∧bq≠b6:=by have:=hgwb.size;omega
   refine ⟨some ⟨bp,0,none⟩,2,b4,b6,y.cs++z.cs,some ⟨bq,0,none⟩,1,1,(λ k=>F k∧k≠b6∧k≠b4),⟨rfl,rfl,rfl,rfl,trivial⟩,λ k hk=>hk,?_,⟨⟨y,rfl,rfl,rfl,hy.go hcar⟩,⟨z,rfl,rfl,rfl,hz.go hcar⟩,trivial⟩,hbk,⟨[.slice ka (dM nd).2.2.length kc],?_,⟨_,_,_,rfl,hks.go hcar⟩,trivial⟩,j4.upd hu (by omega),aX hu q.2.1 hgwq,q.2.1,q.1,q.2.2.1⟩
   ·exact (bR (sz:=3) (m:=2) (jp.upd hu hpn.2.1) rfl (by decide)).mono (λ k hk=>by subst hk;exact ⟨hFw _ hpn.2.2,hpn.2.1,hpn.1⟩)
   ·exact (bR (sz:=1) (m:=1) (hbq'.upd hu hqs.2.2) rfl (by decide)).mono (λ k hk=>by subst hk;exact ⟨hFw _ hqs.1,hqs.2.2,hqs.2.1⟩)
 rintro e wC ⟨a,c,b4,b6,cells,a3,n3,c3,G,hsub,hG,hs,hns,hb6,hk3,hb4,hgC,q6,q4,q46⟩
 refine dD (e':=[(7,_),(6,_),(4,_),(0,_)]) ?_ hsub
 clear hsub
 have zC:=hgC.size
 have hm2:nds.length≤2:=by rcases hor with ⟨_,rfl,_⟩|⟨_,rfl,_⟩<;>simp
 obtain ⟨m,hm⟩:∃ m,m=nds.length:=⟨_,rfl⟩
 rw [← hm] at hs hm2 ⊢
 have l4:=hb4.lt
 have l6:=hb6.lt
 repeat (first|(refine aB ?_;refine TL.pure rfl rfl ?_)|refine TL.nil ?_|refine aA ?_|refine aJ ?_|refine aC ?_|refine T.block ?_|refine aO rfl rfl ?_)
 refine cU (S:=Nat×Pg×List Nat×List Nat×Value) (λ s=>[(34,.int .i64 (s.1:Int)),(33,.int .i64 (m:Int)),(32,.slice a m c),(6,.pointer (some ⟨b6,0,none⟩)),(4,.pointer (some ⟨b4,0,none⟩)),(0,.pointer (some ⟨L.p,0,none⟩))])
  (λ s w1=>s.1≤m∧eN s.2.1 (nds.drop s.1)=some (s.2.2.2.1,g')∧s.2.2.1++s.2.2.2.1=up.kids∧PgAt w1 L s.2.1∧TabAt w1∧w1.ownsRow wC.heap.size 3 1 s.2.2.2.2 s.1 (cM s.2.2.1)∧Blk w1 b6 79 [.slice none 0 0,s.2.2.2.2,.slice a3 n3 c3] ∧
   Blk w1 b4 79 nil3∧Carry G wC (λ k=>G k∧k<wC.heap.size) w1∧ButS L.S w w1) (λ s=>m-s.1) (0,g,[],up.kids,.slice none 0 0) ⟨rfl,rfl,rfl,rfl,rfl,rfl,trivial⟩
  ⟨by simp only;omega,hw,rfl,h.grow hgC,ht.grow hgC,World.ownsRow_nil _ _ _ _,hb6,hb4,Carry.mono (λ k hk hl=>⟨hk,hl⟩),ButS.grow hgC⟩ ?_
 rintro ⟨i,gi,ki,ri,u⟩ w1 ⟨hi,hwi,hkr,hp1,ht1,hown,hb61,hb41,hc1,hbs1⟩
 simp only at hi hwi hkr hp1 hown hb61
 have z1:=hc1.size
 obtain ⟨ua,uc,rfl,hus⟩:=bX hown
 by_cases hlt:i<m
 rotate_left
 ·obtain rfl:i=m:=by omega
  rw [List.drop_eq_nil_of_le (by omega)] at hwi
  simp only [eN,Option.some.injEq,Prod.mk.injEq] at hwi
  obtain ⟨rfl,rfl⟩:=hwi
  rw [List.append_nil] at hkr
  subst hkr
  repeat (first|(refine aD ?_;refine TL.pure rfl rfl ?_)|(refine aY ?_;refine bK rfl yB (by exact rfl) rfl ?_)|refine TL.nil ?_|refine aA ?_|refine aJ ?_|refine aC ?_|(refine aH ?_;refine aQ rfl yD rfl ?_)|(refine aP ?_;(refine bA rfl rfl yB (by exact rfl) (by exact rfl) (by exact rfl) ?_;intro w' hu hbk hsz))|refine aE rfl ?_|refine bE ?_|refine cV ?_|refine bN ?_|refine bP ?_|refine bO ?_)
  refine jW rfl (bV hbk rfl) rfl ⟨_,rfl,⟨⟨none,0,0,ua,i,uc,a3,n3,c3⟩,rfl,?_⟩,hp1.upd hu ?_,hbs1.upd hu q4⟩
  ·rw [hup]
   have hk:=hk3.go hc1
   refine ⟨jS,?_,?_⟩
   ·refine (hus.mono ?_).go (Carry.upd (F:=λ k=>F k∧wC.heap.size≤k) hu (λ k hk _=>by omega)) |>.mono (λ k hk=>hk.1)
    exact λ k hk=>⟨hFw k (by omega),hk.1⟩
   ·exact (hk.go (Carry.upd hu (λ k hk _=>(hG k hk.1).2.2))).go (Carry.mono λ k hk _=>(hG k hk.1).1)
  ·have:=h.lts;omega
 ·obtain ⟨nd0,hnd0⟩:∃ y,nds[i]? = some y:=⟨_,List.getElem?_eq_getElem (by omega)⟩
  rw [List.drop_eq_getElem_cons (by omega),show nds[i]'(by omega)=nd0 from (List.getElem?_eq_some_iff.1 hnd0).2] at hwi
  obtain ⟨pg,s1,l1,hwp,hwr,rfl⟩:=mJ hwi
  obtain ⟨hok,hnw⟩:=iI hwp
  obtain ⟨x0,hx3,hx0⟩:=hns.at' hnd0
  have hs1:=hs.go hc1
  have hx1:=NdAt.go hx0 hc1
  repeat (first|refine aV rfl rfl rfl hlt rfl ⟨_,_,hs1⟩ rfl ?_|refine eL rfl hs1 hx3 rfl rfl ?_|(refine aB ?_;refine TL.pure rfl rfl ?_)|(refine aY ?_;refine bK rfl yB (by exact rfl) rfl ?_)|refine TL.nil ?_|refine aA ?_|refine aJ ?_|refine aC ?_|refine T.block ?_|(refine aH ?_;refine aZ rfl yD rfl ?_)|(refine aP ?_;(refine bA rfl rfl yB (by exact rfl) (by exact rfl) (by exact rfl) ?_;intro w' hu hbk hsz))|(refine bF ?_;(refine TL.alloc rfl rfl ?_;intro bk w' hg hbk hsz hsz'))|refine aM rfl ?_|refine aW ?_)
  have hgg:Grow w1 w':=aX hu (by omega) hg
  have n6:=hSl b6 q6
  have n4:=hSl b4 q4
  refine aL 84 ?_
  refine aI rfl (write_c (hp1.grow hgg) (ht1.grow hgg) _ x0 nd0 (hx1.go (Carry.grow hgg)) hok (λ b hb=>kY hok (hbs nd0 (List.mem_of_getElem? hnd0)) b hb) pg hnw) rfl ?_
  rintro _ w3 ⟨rfl,hp3,hb3⟩
  have z3:=hb3.size
  have zg:=hgg.size
  have hb63:=dG (hb61.grow hgg) hb3 n6
  have hb43:=dG (hb41.grow hgg) hb3 n4
  have hown3:w3.ownsRow wC.heap.size 3 1 _ i (cM ki):=eZ (cL hown hgg) (λ k hk hv=>hb3.block k (Nat.lt_of_lt_of_le (cJ hown hv).2 zg) (hSl k (by omega)))
  have hc3:∀ k,G k→k<wC.heap.size→w3.heap[k]? = wC.heap[k]?:=λ k hk hl=>(hb3.block k (by omega) (hFS k (hG k hk).1)).trans ((hgg.block k (by omega)).trans (hc1.blk k hk hl).2)
  have hbs3:=(hbs1.trans (ButS.grow hgg)).trans hb3
  have ht3:TabAt w3:=(ht1.grow hgg).buts hb3 h0
  clear hbk hu hg hsz hsz'
  repeat (first|(refine aB ?_;refine TL.pure rfl rfl ?_)|(refine aD ?_;refine TL.pure rfl rfl ?_)|refine aK rfl yM rfl ?_|refine aF rfl rfl ?_|refine TL.nil ?_|refine aA ?_|refine aJ ?_|refine aC ?_|(refine aH ?_;refine aQ rfl yD rfl ?_)|refine aE rfl ?_|refine aW ?_|refine TL.pure rfl rfl ?_)
  refine TL.buildSlice rfl rfl rfl rfl rfl ?_
  intro b' wa hga hba hsa hsb hsc
  have hsl:Sl (λ _=>True) wa 1 (some ⟨b',0,none⟩) 1 1 (cM [pg]):=(bR (sz:=1) (m:=1) hba hsc (by decide)).mono (λ _ _=>trivial)
  have hga':=hga.size
  refine TL.append rfl rfl (cL hown3 hga) hsl (jZ [pg]) (by unfold maxLen;omega) (by omega) (by omega) rfl ?_
  intro v' wb hownb hgb _
  have zb:=hgb.size
  have kpb:∀ k,k<wC.heap.size→wb.heap[k]? = w3.heap[k]?:=λ k hk=>(hgb.block k (by omega) (λ e=>by have:=(cJ hown e.symm).1;omega)).trans (hga.block k (by omega))
  have hb6b:=eW hb63 (kpb b6 l6)
  obtain ⟨va,vc,rfl,hvs⟩:=bX hownb
  repeat (first|(refine aB ?_;refine TL.pure rfl rfl ?_)|refine aF rfl rfl ?_|(refine bL ?_;refine bT rfl rfl (by omega) rfl ?_)|refine TL.nil ?_|refine aA ?_|refine aC ?_|refine aS ?_|(refine aP ?_;(refine bQ rfl rfl yB (by exact rfl) (by exact rfl) (by exact rfl) ?_;intro w' hu hbk hsz)))
  have kp:∀ k,k<wC.heap.size→k≠b6→w'.heap[k]? = w3.heap[k]?:=λ k hk hk6=>(hu.block k hk6).trans (kpb k hk)
  have hlts:=h.lts
  have ht00:=ht.1
  refine bG (i+1,s1,ki++[pg],l1,.slice va (i+1) vc) ⟨rfl,rfl,rfl,rfl,rfl,rfl,trivial⟩ ⟨by simp only;omega,hwr,by simpa using hkr,hp3.keep (λ b hb=>kp b (by omega) (by omega)),ht3.keep (kp 0 (by omega) (by omega)) (by omega),?_,hbk,eW hb43 (kp b4 l4 q46),⟨by omega,λ k hk hl=>⟨⟨hk,hl⟩,(kp k hl (hG k hk).2.1).trans (hc3 k hk hl)⟩⟩,?_⟩ (by simp only;omega)
  ·have:=own_upd hownb hu l6
   simpa [cM] using this
  ·exact ((hbs3.trans (ButS.grow hga)).own hgb (λ k hk=>(cJ hown hk).1) (by omega)).upd hu q6
end Go.Proofs.YtfpadnmdafiddaaGreatDoor
namespace Go.Proofs.YtfpadnmdafiddaaGreatDoor
open Go Go.RowKit Go.V
def FrCells (F:Nat→Prop) (w:World):List Value→List (Nd×Nat)→Prop
 | [],[]=>True
 | v1::v2::v3::v4::cs,f::l=>(∃ x:NV,v1=x.v1∧v2=x.v2∧v3=x.v3∧v4=.int .i64 (f.2:Int)∧NdAt F w x f.1)∧FrCells F w cs l
 | _,_=>False
theorem FrCells.go {F F':Nat→Prop} {w w':World} (g:Carry F w F' w'):∀ {cs:List Value} {l:List (Nd×Nat)},FrCells F w cs l→FrCells F' w' cs l
 | [],[],_=>trivial
 | [],_::_,h=>h.elim
 | [_],[],h=>h.elim
 | [_,_],[],h=>h.elim
 | [_,_,_],[],h=>h.elim
 | _::_::_::_::_,[],h=>h.elim
 | [_],_::_,h=>h.elim
 | [_,_],_::_,h=>h.elim
 | [_,_,_],_::_,h=>h.elim
 | _::_::_::_::_,_::_,⟨⟨x,h1,h2,h3,h4,h5⟩,h6⟩=>⟨⟨x,h1,h2,h3,h4,h5.go g⟩,FrCells.go g h6⟩
theorem FrCells.snoc {F:Nat→Prop} {w:World} {x:NV} {f:Nd×Nat} (hx:NdAt F w x f.1):∀ {cs:List Value} {l:List (Nd×Nat)},FrCells F w cs l→FrCells F w (cs++[x.v1,x.v2,x.v3,.int .i64 (f.2:Int)]) (l++[f])
 | [],[],_=>⟨⟨x,rfl,rfl,rfl,rfl,hx⟩,trivial⟩
 | [],_::_,h=>h.elim
 | [_],[],h=>h.elim
 | [_,_],[],h=>h.elim
 | [_,_,_],[],h=>h.elim
 | _::_::_::_::_,[],h=>h.elim
 | [_],_::_,h=>h.elim
 | [_,_],_::_,h=>h.elim
 | [_,_,_],_::_,h=>h.elim
 | _::_::_::_::_,_::_,⟨h5,h6⟩=>⟨h5,FrCells.snoc hx h6⟩
theorem FrCells.len {F:Nat→Prop} {w:World}:∀ {cs:List Value} {l:List (Nd×Nat)},FrCells F w cs l→cs.length=l.length*4
 | [],[],_=>rfl
 | [],_::_,h=>h.elim
 | [_],[],h=>h.elim
 | [_,_],[],h=>h.elim
 | [_,_,_],[],h=>h.elim
 | _::_::_::_::_,[],h=>h.elim
 | [_],_::_,h=>h.elim
 | [_,_],_::_,h=>h.elim
 | [_,_,_],_::_,h=>h.elim
 | _::_::_::_::_,_::_,⟨h5,h6⟩=>by have:=FrCells.len h6;simp only [List.length_cons];omega
theorem FrCells.at' {F:Nat→Prop} {w:World}:∀ {l:List (Nd×Nat)} {cs:List Value} {i:Nat} {f:Nd×Nat},FrCells F w cs l→l[i]? = some f→∃ x:NV,(cs.drop (i*4)).take 4=[x.v1,x.v2,x.v3,.int .i64 (f.2:Int)]∧NdAt F w x f.1
 | [],_,i,nd,_,hx=>by simp at hx
 | _::_,[],_,_,h,_=>h.elim
 | _::_,[_],_,_,h,_=>h.elim
 | _::_,[_,_],_,_,h,_=>h.elim
 | _::_,[_,_,_],_,_,h,_=>h.elim
 | y::l,v1::v2::v3::v4::cs,0,f,⟨⟨x,h1,h2,h3,h4,h5⟩,_⟩,hx=>by
  simp only [List.getElem?_cons_zero,Option.some.injEq] at hx
  subst hx
  subst h1 h2 h3 h4
  exact ⟨x,rfl,h5⟩
 | y::l,v1::v2::v3::v4::cs,i+1,f,⟨_,h⟩,hx=>by
  obtain ⟨x,h1,h2⟩:=FrCells.at' h (by simpa using hx)
  refine ⟨x,?_,h2⟩
  rw [show (i+1)*4=i*4+1+1+1+1 by omega]
  simpa using h1
theorem ret3 {P:Program} {e:dQ} {w:World} {s t u:Nat} {v x y:Value} {R:Ending→World→Prop} (h:find e s=some v) (h':find e t=some x) (h2:find e u=some y) (hR:R (.returned (.tuple #[v,x,y])) w):retQ P [.tmp s,.tmp t,.tmp u] R .ret e w :=
 jI (vs:=[v,x,y]) ⟨v,[x,y],rfl,h,x,[y],rfl,h',y,[],rfl,h2,rfl⟩ rfl hR
theorem iA {s:Pg} {key:Bs} {f n:Nat} {fr:List (Nd×Nat)} {th:Bool} (h:gZ s key f n=some (fr,th)):∃ f' nd,f=f'+1∧dR s n=some nd ∧
  ((cK nd=true∧fr=[(nd,gD nd.items key)]∧th=gF nd.items key)∨(cK nd=false∧∃ k r,nd.kids[iQ nd.keys key]? = some k∧gZ s key f' k=some (r,th)∧fr=(nd,iQ nd.keys key)::r)):=by
 cases f with
 | zero=>cases h
 | succ f =>
  unfold gZ at h
  split at h
  ·cases h
  ·rename_i nd hnd
   refine ⟨f,nd,rfl,hnd,?_⟩
   split at h
   ·rename_i hl
    simp only [Option.some.injEq,Prod.mk.injEq] at h
    exact .inl ⟨hl,h.1.symm,h.2.symm⟩
   ·rename_i hl
    split at h
    ·cases h
    ·rename_i k hk
     split at h
     ·cases h
     ·rename_i r th' hr
      simp only [Option.some.injEq,Prod.mk.injEq] at h
      obtain ⟨rfl,rfl⟩:=h
      exact .inr ⟨by simpa using hl,k,r,hk,hr,rfl⟩
theorem path_c {w:World} {L:PL} {g:Pg} (h:PgAt w L g) (K:Nat→Prop) (a:Option Addr) (m c n:Nat) (key:Bs) (fr:List (Nd×Nat)) (th:Bool) (hk:Sl K w 1 a m c (cX key)) (hp:gZ g key 16 n=some (fr,th)) :
  Calls Tryz.prog 78 #[.pointer (some ⟨L.p,0,none⟩),.int .i64 (n:Int),.slice a m c] w (Ret λ v w'=>(∃ (b:Option Addr) (d:Nat) (cs:List Value),v=.tuple #[.slice b fr.length d,.bool th,.int .i64 0]∧Sl (λ k=>w.heap.size≤k) w' 4 b fr.length d cs∧FrCells (λ k=>w.heap.size≤k) w' cs fr)∧Grow w w'):=by
 refine V.calls (args:=[_,_,_]) Tryz.func78 rfl Tryz.ntmps78 rfl rfl ?_
 repeat (first|(refine aB ?_;refine TL.pure rfl rfl ?_)|(refine aD ?_;refine TL.pure rfl rfl ?_)|refine TL.nil ?_|refine aA ?_|refine aJ ?_|refine aC ?_|refine T.block ?_)
 refine cU (S:=Nat×Nat×Value×List Value×List (Nd×Nat)×List (Nd×Nat)) (λ s=>[(10,.int .i64 (s.2.1:Int)),(9,s.2.2.1),(2,.slice a m c),(0,.pointer (some ⟨L.p,0,none⟩))])
  (λ s w1=>s.1≤16∧gZ g key (16-s.1) s.2.1=some (s.2.2.2.2.2,th)∧s.2.2.2.2.1++s.2.2.2.2.2=fr∧s.2.2.2.2.1.length=s.1∧w1.ownsRow w.heap.size 143 4 s.2.2.1 s.1 s.2.2.2.1∧FrCells (λ k=>w.heap.size≤k∧s.2.2.1.ownBlock≠some k) w1 s.2.2.2.1 s.2.2.2.2.1∧Grow w w1)
  (λ s=>16-s.1) (0,n,.slice none 0 0,[],[],fr) ⟨rfl,rfl,rfl,rfl,trivial⟩ ⟨by simp only;omega,hp,rfl,rfl,World.ownsRow_nil _ _ _ _,trivial,Grow.refl _⟩ ?_
 rintro ⟨i,n,u,cs,dn,rs⟩ w1 ⟨hi,hpi,hfr,hdl,hown,hfc,hg1⟩
 simp only at hi hpi hfr hdl hown hfc
 obtain ⟨f',nd,hf,hnp,hor⟩:=iA hpi
 have hi16:i<16:=by omega
 have hu:=eT hnp
 have hnl:=fH hu
 have hcn:=h.cnt
 have hok:=iN hnp
 have hrd:gG (g.body n)=some nd:=by unfold dR at hnp;rw [if_pos hu] at hnp;exact hnp
 obtain ⟨ua,uc,rfl,hus⟩:=bX hown
 have z1:=hg1.size
 repeat (first|(refine aB ?_;refine TL.pure rfl rfl ?_)|refine TL.nil ?_|refine aA ?_|refine aJ ?_|refine aC ?_|refine T.block ?_|(refine aH ?_;refine aZ rfl yD rfl ?_)|refine aO rfl rfl ?_|refine aM rfl ?_|refine aW ?_)
 refine aL 127 ?_
 refine aI rfl (node_c (h.grow hg1) n (by omega) hu) rfl ?_
 rintro _ w3 ⟨hv,hg3⟩
 rw [hrd] at hv
 obtain ⟨x,rfl,hnd⟩:=hv
 have hn1:=hnd.its.len
 have hn2:=eI hnd.kids
 have z3:=hg3.size
 have hfc3:=hfc.go (Carry.grow hg3)
 have hown3:=cL hown hg3
 have hnd':NdAt (λ k=>w.heap.size≤k∧(Value.slice ua i uc).ownBlock≠some k) w3 x nd:=hnd.go (Carry.mono λ k hk _=>⟨by omega,λ e=>by have:=(cJ hown e).2;omega⟩)
 have kk:Carry (λ k=>w.heap.size≤k∧(Value.slice ua i uc).ownBlock≠some k) w3 (λ k=>(w.heap.size≤k∧(Value.slice ua i uc).ownBlock≠some k)∧k<w3.heap.size) w3:=Carry.mono λ k hk hl=>⟨hk,hl⟩
 have hfc4:=hfc3.go kk
 have hnd4:=hnd'.go kk
 have hgw3:=hg1.trans hg3
 clear hfc3 hnd' hnd kk hfc
 obtain ⟨w3',rfl⟩:∃ y,y=w3:=⟨w3,rfl⟩
 rcases hor with ⟨hl,rfl,rfl⟩|⟨hl,k,r,hkid,hpr,rfl⟩
 ·repeat (first|(refine aB ?_;refine TL.pure rfl rfl ?_)|(refine aD ?_;refine TL.pure rfl rfl ?_)|(refine aY ?_;refine bK rfl yB (by exact rfl) rfl ?_)|refine TL.nil ?_|refine aA ?_|refine aJ ?_|refine aC ?_|(refine aH ?_;refine aQ rfl yD rfl ?_)|(refine aP ?_;(refine bA rfl rfl yB (by exact rfl) (by exact rfl) (by exact rfl) ?_;intro w' hu hbk hsz))|(refine bF ?_;(refine TL.alloc rfl rfl ?_;intro bk w' hg hbk hsz hsz'))|refine aM rfl ?_|refine aE rfl ?_|refine aW ?_|refine TL.pure rfl rfl ?_|(refine aL 80 ?_;refine aI rfl (fC hnd4 hl _) rfl ?_;rintro _ _ ⟨rfl,hgc⟩))
  rename_i w4
  have cc:Carry (λ k=>(w.heap.size≤k∧(Value.slice ua i uc).ownBlock≠some k)∧k<w3'.heap.size) w3' (λ k=>(w.heap.size≤k∧(Value.slice ua i uc).ownBlock≠some k)∧k<w3'.heap.size) w4:=(Carry.grow hg).trans ((Carry.upd hu (λ k hk _=>by omega)).trans (Carry.grow hgc))
  have hgw4:Grow w w4:=(aX hu (by omega) (hgw3.trans hg)).trans hgc
  have hown4:=cL (eZ (w':=w') (cL hown3 hg) (λ k hk hv=>hu.block k (by have:=(cJ hown3 hv).2;omega))) hgc
  refine aL 149 ?_
  refine aI rfl (find_c _ _ x nd a m c key _ (hnd4.go cc) (hk.grow hgw4) hok hl) rfl ?_
  rintro _ w5 ⟨rfl,hg5⟩
  have hbk5:Blk w5 bk 79 x.cs:=(Blk.grow hgc hbk).grow hg5
  repeat (first|(refine aB ?_;refine TL.pure rfl rfl ?_)|(refine aD ?_;refine TL.pure rfl rfl ?_)|(refine aY ?_;refine bK rfl yB (by exact rfl) rfl ?_)|refine TL.nil ?_|refine aA ?_|refine aJ ?_|refine aC ?_|refine TL.build rfl rfl rfl ?_|refine TL.pure rfl rfl ?_)
  refine TL.buildSlice rfl rfl rfl rfl rfl ?_
  intro b' wa hga hba hsa hsb hsc
  have hba':Blk wa b' 143 [x.v1,x.v2,x.v3,.int .i64 (gD nd.items key:Int)]:=hba
  have hsl:Sl (λ _=>True) wa 4 (some ⟨b',0,none⟩) 1 1 [x.v1,x.v2,x.v3,.int .i64 (gD nd.items key:Int)]:=(bR (sz:=4) (m:=1) hba' rfl (by decide)).mono (λ _ _=>trivial)
  have z4:=hgw4.size
  have z5:=hg5.size
  have za:=hga.size
  have hownA:=cL (cL hown4 hg5) hga
  refine iF (bytes:=80) rfl rfl hownA hsl (by intro u hu;simp only [List.mem_cons,List.not_mem_nil,or_false] at hu;rcases hu with rfl|rfl|rfl|rfl<;>rfl) (by unfold maxLen;omega) (by omega) (by omega) rfl ?_
  intro v' wb hownb hgb hcb
  have hgwb:Grow w wb:=Grow.mk (cH hgb (by omega) (λ k hk=>(cJ hownA hk).1) ((hgw4.trans hg5).trans hga).1)
  have cb:Carry (λ k=>(w.heap.size≤k∧(Value.slice ua i uc).ownBlock≠some k)∧k<w3'.heap.size) w3' (λ k=>w.heap.size≤k∧v'.ownBlock≠some k) wb :=
   (cc.trans (Carry.grow (hg5.trans hga))).trans ((Carry.mono (λ k hk _=>⟨⟨hk.1.1,hk.2⟩,hk.1.2⟩)).trans ((hcb (λ k=>w.heap.size≤k∧k<w3'.heap.size)).trans (Carry.mono λ k hk _=>⟨hk.1.1,hk.2⟩)))
  have hfcb:=FrCells.snoc (f:=(nd,gD nd.items key)) (hnd4.go cb) (hfc4.go cb)
  have hndb:=hnd4.go (cc.trans (Carry.grow hg5))
  obtain ⟨va,vc,rfl,hvs⟩:=bX hownb
  repeat (first|(refine aB ?_;refine TL.pure rfl rfl ?_)|(refine aD ?_;refine TL.pure rfl rfl ?_)|refine TL.nil ?_|refine aA ?_|refine bE ?_|refine bI ?_|refine cZ ?_|refine dY ?_)
  subst hfr
  have hll:(dn++[(nd,gD nd.items key)]).length=i+1:=by rw [List.length_append,hdl];rfl
  rw [hll]
  exact ret3 rfl rfl rfl ⟨_,rfl,⟨va,vc,_,rfl,hvs.mono (λ k hk=>hk.1),hfcb.go (Carry.mono λ k hk _=>hk.1)⟩,hgwb⟩
 ·have hkl:=(List.getElem?_eq_some_iff.1 hkid).1
  repeat (first|(refine aB ?_;refine TL.pure rfl rfl ?_)|(refine aD ?_;refine TL.pure rfl rfl ?_)|(refine aY ?_;refine bK rfl yB (by exact rfl) rfl ?_)|refine TL.nil ?_|refine aA ?_|refine aJ ?_|refine aC ?_|(refine aH ?_;refine aQ rfl yD rfl ?_)|(refine aP ?_;(refine bA rfl rfl yB (by exact rfl) (by exact rfl) (by exact rfl) ?_;intro w' hu hbk hsz))|(refine bF ?_;(refine TL.alloc rfl rfl ?_;intro bk w' hg hbk hsz hsz'))|refine aE rfl ?_|refine aW ?_|refine TL.pure rfl rfl ?_|(refine aL 80 ?_;refine aI rfl (fC hnd4 hl _) rfl ?_;rintro _ _ ⟨rfl,hgc⟩))
  rename_i w4
  have cc:Carry (λ k=>(w.heap.size≤k∧(Value.slice ua i uc).ownBlock≠some k)∧k<w3'.heap.size) w3' (λ k=>(w.heap.size≤k∧(Value.slice ua i uc).ownBlock≠some k)∧k<w3'.heap.size) w4:=(Carry.grow hg).trans ((Carry.upd hu (λ k hk _=>by omega)).trans (Carry.grow hgc))
  have hgw4:Grow w w4:=(aX hu (by omega) (hgw3.trans hg)).trans hgc
  have hown4:=cL (eZ (w':=w') (cL hown3 hg) (λ k hk hv=>hu.block k (by have:=(cJ hown3 hv).2;omega))) hgc
  refine aL 150 ?_
  refine aI rfl (kid_c _ _ x nd a m c key _ (hnd4.go cc) (hk.grow hgw4) hok hl) rfl ?_
  rintro _ w5 ⟨rfl,hg5⟩
  have hbk5:Blk w5 bk 79 x.cs:=(Blk.grow hgc hbk).grow hg5
  repeat (first|(refine aB ?_;refine TL.pure rfl rfl ?_)|(refine aD ?_;refine TL.pure rfl rfl ?_)|(refine aY ?_;refine bK rfl yB (by exact rfl) rfl ?_)|refine TL.nil ?_|refine aA ?_|refine aJ ?_|refine aC ?_|refine TL.build rfl rfl rfl ?_)
  refine TL.buildSlice rfl rfl rfl rfl rfl ?_
  intro b' wa hga hba hsa hsb hsc
  have hba':Blk wa b' 143 [x.v1,x.v2,x.v3,.int .i64 (iQ nd.keys key:Int)]:=hba
  have hsl:Sl (λ _=>True) wa 4 (some ⟨b',0,none⟩) 1 1 [x.v1,x.v2,x.v3,.int .i64 (iQ nd.keys key:Int)]:=(bR (sz:=4) (m:=1) hba' rfl (by decide)).mono (λ _ _=>trivial)
  have z4:=hgw4.size
  have z5:=hg5.size
  have za:=hga.size
  have hownA:=cL (cL hown4 hg5) hga
  refine iF (bytes:=80) rfl rfl hownA hsl (by intro u hu;simp only [List.mem_cons,List.not_mem_nil,or_false] at hu;rcases hu with rfl|rfl|rfl|rfl<;>rfl) (by unfold maxLen;omega) (by omega) (by omega) rfl ?_
  intro v' wb hownb hgb hcb
  have hgwb:Grow w wb:=Grow.mk (cH hgb (by omega) (λ k hk=>(cJ hownA hk).1) ((hgw4.trans hg5).trans hga).1)
  have cb:Carry (λ k=>(w.heap.size≤k∧(Value.slice ua i uc).ownBlock≠some k)∧k<w3'.heap.size) w3' (λ k=>w.heap.size≤k∧v'.ownBlock≠some k) wb :=
   (cc.trans (Carry.grow (hg5.trans hga))).trans ((Carry.mono (λ k hk _=>⟨⟨hk.1.1,hk.2⟩,hk.1.2⟩)).trans ((hcb (λ k=>w.heap.size≤k∧k<w3'.heap.size)).trans (Carry.mono λ k hk _=>⟨hk.1.1,hk.2⟩)))
  have hfcb:=FrCells.snoc (f:=(nd,iQ nd.keys key)) (hnd4.go cb) (hfc4.go cb)
  have hndb:=hnd4.go (cc.trans (Carry.grow hg5))
  obtain ⟨va,vc,rfl,hvs⟩:=bX hownb
  have hbkb:=eW (hbk5.grow hga) (hgb.block bk (by have:=(hbk5.grow hga).lt;omega) (λ e=>by have:=(cJ hown3 e.symm).2;omega))
  have hsk:=(hnd4.go cb).kids
  have hcx:wb.cell? (at' x.a2 (iQ nd.keys key))=some (.int .i64 (k:Int)):=hsk.row.cell (by rw [show cM nd.kids=nd.kids.map λ (k:Nat)=>(.int .i64 (k:Int):Value) from rfl,List.getElem?_map,hkid];rfl)
  repeat (first|(refine bC ?_;refine aV (j:=iQ nd.keys key) rfl rfl rfl (by omega) (Nat.mul_one _) ⟨_,_,hsk⟩ rfl ?_)|(refine aB ?_;refine TL.pure rfl rfl ?_)|(refine aD ?_;refine TL.pure rfl rfl ?_)|refine aK rfl yM rfl ?_|refine aF rfl rfl ?_|refine TL.nil ?_|refine aA ?_|refine aC ?_|refine aS ?_)
  refine bG (i+1,k,.slice va (i+1) vc,_,dn++[(nd,iQ nd.keys key)],r) ⟨rfl,rfl,rfl,rfl,trivial⟩ ⟨by simp only;omega,?_,by simpa using hfr,by simp [hdl],hownb,hfcb,hgwb⟩ (by simp only;omega)
  rw [show 16-(i+1)=f' by omega]
  exact hpr
end Go.Proofs.YtfpadnmdafiddaaGreatDoor
namespace Go.Proofs.YtfpadnmdafiddaaGreatDoor
open Go Go.RowKit Go.V
theorem retCC {P:Program} {e:dQ} {w:World} {s t s2 t2:Nat} {p p2:Addr} {v v2:Value} {R:Ending→World→Prop} (h:find e s=some (.pointer (some p))) (hl:(loadVar t p).run P w=.ok v w) (h':find e s2=some (.pointer (some p2))) (hl':(loadVar t2 p2).run P w=.ok v2 w) (hR:R (.returned (.tuple #[v,v2])) w):retQ P [.cell s t,.cell s2 t2] R .ret e w :=
 jI (vs:=[v,v2]) ⟨v,[v2],rfl,⟨p,h,hl⟩,v2,[],rfl,⟨p2,h',hl'⟩,rfl⟩ rfl hR
theorem eC {P:Program} {t bt:TypeId} {w:World} {b:Nat} {v:Value} [ht:One P t] (hb:Blk w b bt [v]):(loadVar t ⟨b,0,none⟩).run P w=.ok v w:=run_loadVar_one ht (hb.cell rfl)
def dF:Option Nat→Int
 | none=>-1
 | some n=>n
theorem putP_some {s s':Pg} {n r:Nat} {key v:Bs} (h:putP s (some n) key v=some (r,s')):∃ fr th up s1,gZ s key 16 n=some (fr,th)∧putUp (key,v) th fr s=some (up,s1)∧((up.kids=[r]∧s1=s')∨(up.kids.length≠1∧gB s1 up=some (r,s'))):=by
 unfold putP at h
 simp only at h
 split at h
 ·cases h
 ·rename_i fr th e1
  split at h
  ·cases h
  ·rename_i up s1 e2
   refine ⟨fr,th,up,s1,e1,e2,?_⟩
   split at h
   ·rename_i k hk
    simp only [Option.some.injEq,Prod.mk.injEq] at h
    exact .inl ⟨by rw [hk,h.1],h.2⟩
   ·rename_i hk
    refine .inr ⟨λ hl=>?_,h⟩
    match hkk:up.kids,hl with
    | [k],_=>exact hk k hkk
theorem putUp_cons {item:Bs×Bs} {th:Bool} {f:Nd×Nat} {r:List (Nd×Nat)} {s s2:Pg} {up2:Nd} (h:putUp item th (f::r) s=some (up2,s2)):∃ up s1,putUp item th r s=some (up,s1)∧storeP s1 (eM f.1 f.2 up item th)=some (up2,s2):=by
 unfold putUp at h
 split at h
 ·cases h
 ·rename_i up s1 e
  exact ⟨up,s1,e,h⟩
structure UpOk (up:Nd):Prop where
 items:up.items=[]
 len:up.kids=[]∨up.kids.length=up.keys.length+1
 two:up.kids.length≤2
 ks:up.keys.length≤2
 by':NdB up
theorem kL {s s2:Pg}:∀ {l:List Nd} {s:Pg} {ks:List Nat},eN s l=some (ks,s2)→ks.length=l.length
 | [],s,ks,h=>by simp only [eN,Option.some.injEq,Prod.mk.injEq] at h;rw [← h.1];rfl
 | x::l,s,ks,h=>by
  obtain ⟨p,s1,l1,h1,h2,rfl⟩:=mJ h
  simp [kL (s:=s) h2]
theorem storeP_up {s s':Pg} {n up:Nd} (h:storeP s n=some (up,s')) (hb:NdB n):UpOk up∧up.kids.length=up.keys.length+1:=by
 obtain ⟨nds,ks,h1,h2,h3⟩:=storeP_parts h
 have hl:=kL (s:=s) h1
 have hk:up.keys=ks:=by rw [h2]
 obtain ⟨_,_,b3⟩:=splitN_by hb
 have hi:up.items=[]:=by rw [h2]
 rcases h3 with ⟨_,rfl,rfl⟩|⟨_,rfl,rfl⟩
 ·refine ⟨⟨hi,.inr (by rw [hl,hk];rfl),by rw [hl];simp,by rw [hk];simp,⟨by rw [hi];simp,by rw [hk];simp⟩⟩,by rw [hl,hk];rfl⟩
 ·refine ⟨⟨hi,.inr (by rw [hl,hk];rfl),by rw [hl];simp,by rw [hk];simp,⟨by rw [hi];simp,by rw [hk];intro k hk;simp only [List.mem_singleton] at hk;subst hk;exact b3⟩⟩,by rw [hl,hk];rfl⟩
structure FrOk (g:Pg) (th:Bool) (f:Nd×Nat):Prop where
 ok:cE f.1=true
 by':NdB f.1
 leaf:cK f.1=true→f.2≤f.1.items.length∧(th=true→f.2<f.1.items.length)
 kid:cK f.1=false→f.2<f.1.kids.length
theorem findN_le (l:dO) (key:Bs):gD l key≤l.length:=gE _ l
theorem pathP_frames {s:Pg} (hs:PgB s) {key:Bs} {th:Bool}:∀ {f n:Nat} {fr:List (Nd×Nat)},gZ s key f n=some (fr,th)→∀ x∈fr,FrOk s th x
 | f,n,fr,h,x,hx=>by
  obtain ⟨f',nd,rfl,hn,hor⟩:=iA h
  rcases hor with ⟨hl,rfl,rfl⟩|⟨hl,k,r,hk,hr,rfl⟩
  ·simp only [List.mem_singleton] at hx
   subst hx
   refine ⟨iN hn,nodeP_by hs hn,λ _=>⟨findN_le _ _,λ ht=>?_⟩,λ h=>by rw [hl] at h;cases h⟩
   unfold gF at ht
   simp only
   cases e:nd.items[gD nd.items key]? with
   | none=>rw [e] at ht;cases ht
   | some y=>exact (List.getElem?_eq_some_iff.1 e).1
  ·rcases List.mem_cons.1 hx with rfl|hx
   ·exact ⟨iN hn,nodeP_by hs hn,λ h=>(by rw [hl] at h;cases h),λ _=>(List.getElem?_eq_some_iff.1 hk).1⟩
   ·exact pathP_frames hs hr x hx
theorem pathP_len {s:Pg} {key:Bs} {th:Bool}:∀ {f n:Nat} {fr:List (Nd×Nat)},gZ s key f n=some (fr,th)→fr.length≤f
 | f,n,fr,h=>by
  obtain ⟨f',nd,rfl,hn,hor⟩:=iA h
  rcases hor with ⟨hl,rfl,rfl⟩|⟨hl,k,r,hk,hr,rfl⟩
  ·simp
  ·have:=pathP_len hr
   simp only [List.length_cons];omega
theorem pathP_last {s:Pg} {key:Bs} {th:Bool}:∀ {f n:Nat} {fr:List (Nd×Nat)},gZ s key f n=some (fr,th)→∀ i x,fr[i]? = some x→cK x.1=false→i+1<fr.length
 | f,n,fr,h,i,x,hi,hx=>by
  obtain ⟨f',nd,rfl,hn,hor⟩:=iA h
  rcases hor with ⟨hl,rfl,rfl⟩|⟨hl,k,r,hk,hr,rfl⟩
  ·cases i with
   | zero=>simp only [List.getElem?_cons_zero,Option.some.injEq] at hi;subst hi;rw [hl] at hx;cases hx
   | succ i=>simp at hi
  ·cases i with
   | zero =>
    have:r≠[]:=by
     obtain ⟨_,_,_,_,hor2⟩:=iA hr
     rcases hor2 with ⟨_,rfl,_⟩|⟨_,_,_,_,_,rfl⟩<;>simp
    cases r with
    | nil=>exact absurd rfl this
    | cons a b=>simp
   | succ i =>
    have:=pathP_last hr i x (by simpa using hi) hx
    simp only [List.length_cons];omega
theorem putUp_suffix {item:Bs×Bs} {th:Bool} {s:Pg}:∀ {l:List (Nd×Nat)} {up:Nd} {s1:Pg},putUp item th l s=some (up,s1)→∀ k,∃ up' s',putUp item th (l.drop k) s=some (up',s')
 | [],up,s1,h,k=>by rw [List.drop_nil];exact ⟨up,s1,h⟩
 | f::r,up,s1,h,0=>⟨up,s1,h⟩
 | f::r,up,s1,h,k+1=>by
  obtain ⟨u,s2,h2,_⟩:=putUp_cons h
  exact putUp_suffix h2 k
theorem putNode_shape {g:Pg} {th:Bool} {f:Nd×Nat} {up:Nd} {item:Bs×Bs} (hf:FrOk g th f) (hu:UpOk up) (hb:cK f.1=false→up.kids.length=up.keys.length+1) :
  bJ (eM f.1 f.2 up item th)≤1000∧(cK (eM f.1 f.2 up item th)=false→(eM f.1 f.2 up item th).items=[]∧(eM f.1 f.2 up item th).keys.length+1=(eM f.1 f.2 up item th).kids.length):=by
 have hok:=hf.ok
 unfold cE at hok
 have h2:=hu.two
 unfold eM
 split at hok
 ·rename_i hl
  obtain ⟨h1,h8,_⟩:=dL hok
  have hkids:=dK.1 hl
  obtain ⟨hle,hlt⟩:=hf.leaf hl
  rw [if_pos hl]
  cases th with
  | true =>
   have:=hlt rfl
   refine ⟨?_,λ h=>?_⟩
   ·simp only [if_true,bJ,hkids,List.length_nil,Nat.add_zero]
    rw [fF (by rw [eG (by omega) (by omega)];omega),eG (by omega) (by omega)]
    simp;omega
   ·simp [cK,hkids] at h
  | false =>
   refine ⟨?_,λ h=>?_⟩
   ·simp only [Bool.false_eq_true,if_false,bJ,hkids,List.length_nil,Nat.add_zero]
    rw [fF hle]
    simp;omega
   ·simp [cK,hkids] at h
 ·rename_i hl
  have hl':cK f.1=false:=by simpa using hl
  obtain ⟨h1,h2',h8,h4,_,_⟩:=cT hok
  have hk:=hf.kid hl'
  have hub:=hb hl'
  rw [if_neg hl]
  have e1:(dH (cO f.1.kids f.2 (f.2+1)) f.2 up.kids).length=f.1.kids.length-(f.2+1-f.2)+up.kids.length:=by
   rw [fF (by rw [eG (by omega) (by omega)];omega),eG (by omega) (by omega)]
  have e2:(dH f.1.keys f.2 up.keys).length=f.1.keys.length+up.keys.length:=fF (by omega)
  refine ⟨?_,λ _=>⟨h1,?_⟩⟩
  ·simp only [bJ,e1,h1,List.length_nil];omega
  ·simp only [e1,e2];omega
theorem put_c {w:World} {L:PL} {g g':Pg} (h:PgAt w L g) (ht:TabAt w) (h0:¬ L.S 0) (root:Option Nat) (a a':Option Addr) (m c m' c':Nat) (key v:Bs) (hk:Sl (λ k=>¬ L.S k) w 1 a m c (cX key)) (hv:Sl (λ k=>¬ L.S k) w 1 a' m' c' (cX v)) (hko:dB key=true) (hvo:fR v=true) (hkb:kD key) (hvb:kD v) (hsp:32≤bZ g) (n':Nat) (hput:putP g root key v=some (n',g')) :
  Calls Tryz.prog 25 #[.pointer (some ⟨L.p,0,none⟩),.int .i64 (dF root),.slice a m c,.slice a' m' c'] w (Ret λ u w'=>u=.tuple #[.int .i64 (n':Int),.int .i64 0]∧PgAt w' L g'∧ButS L.S w w'):=by
 have hSl:∀ k,w.heap.size≤k→¬ L.S k:=λ k hk=>by have:=h.lts;unfold PL.S;omega
 have hrr : -1≤dF root∧dF root≤9223372036854775807:=by
  cases root with
  | none=>show (-1:Int)≤-1∧(-1:Int)≤_;omega
  | some n =>
   obtain ⟨fr,th,up,s1,hp,_⟩:=putP_some hput
   obtain ⟨_,_,_,hn,_⟩:=iA hp
   have:=fH (eT hn)
   have:=h.cnt
   show (-1:Int)≤(n:Int)∧(n:Int)≤_
   omega
 refine V.calls (args:=[_,_,_,_]) Tryz.func25 rfl Tryz.ntmps25 rfl rfl ?_
 repeat (first|(refine aB ?_;refine TL.pure rfl rfl ?_)|refine aK rfl yM rfl ?_|refine TL.nil ?_|refine aA ?_|refine aJ ?_|refine aC ?_|(refine cD ?_;(refine TL.box rfl rfl rfl ?_;intro bk w' hg hbk hsz hsz'))|(refine bF ?_;(refine TL.alloc rfl rfl ?_;intro bk w' hg hbk hsz hsz')))
 rename_i b4 w1 g1 k1 p1 p1' b8 w2 g2 k2 p2 p2'
 obtain ⟨b9,rfl⟩:∃ y,y=bk:=⟨bk,rfl⟩
 refine aL 77 ?_
 have hg3:Grow w w':=g1.trans (g2.trans hg)
 refine aI rfl (tready_c (h.grow hg3) _ hrr.1 hrr.2 _ _ a a' m c m' c' key v (hk.grow hg3) (hv.grow hg3) hko hvo hsp) rfl ?_
 rintro _ w4 ⟨rfl,hg4⟩
 have k4:=(k1.grow (g2.trans hg)).grow hg4
 have k8:=(k2.grow hg).grow hg4
 have k9:=hbk.grow hg4
 have hgw:=hg3.trans hg4
 have q:b4=w.heap.size∧b8=b4+1∧b9=b8+1∧b9<w4.heap.size:=by have:=k9.lt;omega
 clear hbk hg hg3 hg4 k1 k2 g1 g2 hsz hsz' p1 p1' p2 p2'
 cases root with
 | none =>
  obtain ⟨hok,hnw⟩:=iI (show gB g ⟨[(key,v)],[],[]⟩=some (n',g') from hput)
  repeat (first|(refine aB ?_;refine TL.pure rfl rfl ?_)|(refine aD ?_;refine TL.pure rfl rfl ?_)|(refine aY ?_;first|refine aK rfl yM rfl ?_|refine bK rfl yB (by exact rfl) rfl ?_)|refine TL.nil ?_|refine aA ?_|refine aJ ?_|refine aC ?_|(refine aH ?_;first|refine aQ rfl yD rfl ?_|refine TL.pure rfl rfl ?_)|(refine aP ?_;(refine bA rfl rfl yB (by exact rfl) (by exact rfl) (by exact rfl) ?_;intro w' hu hbk hsz))|(refine bF ?_;(refine TL.alloc rfl rfl ?_;intro bk w' hg hbk hsz hsz'))|refine TL.build rfl rfl rfl ?_|refine aM rfl ?_|refine aE rfl ?_|refine aW ?_)
  refine TL.buildSlice rfl rfl rfl rfl rfl ?_
  intro b' wa hga hba hsa hsb hsc
  have hba':Blk wa b' 58 [.slice a m c,.slice a' m' c']:=hba
  have hgw5:Grow w w':=aX hu (by omega) (hgw.trans hg)
  have hgwa:=hgw5.trans hga
  have zw:=hgw5.size
  have i4:=((k4.grow hg).upd hu (by omega)).grow hga
  have i8:=((k8.grow hg).upd hu (by omega)).grow hga
  have i9:=((k9.grow hg).upd hu (by omega)).grow hga
  clear hbk hba hga hu hg hgw5 k4 k8 k9
  repeat (refine TL.build rfl rfl rfl ?_)
  have hnd:NdAt (λ k=>¬ L.S k) wa ⟨some ⟨b',0,none⟩,1,1,none,0,0,none,0,0⟩ ⟨[(key,v)],[],[]⟩ :=
   ⟨⟨_,(bR (sz:=2) (m:=1) hba' rfl (by decide)).mono (λ k hk=>by subst hk;exact hSl _ (by omega)),⟨_,_,_,rfl,hk.grow hgwa⟩,⟨_,_,_,rfl,hv.grow hgwa⟩,trivial⟩,jR,jF⟩
  refine aL 84 ?_
  refine aI rfl (write_c (h.grow hgwa) (ht.grow hgwa) _ ⟨some ⟨b',0,none⟩,1,1,none,0,0,none,0,0⟩ _ hnd hok (kY hok ⟨by intro x hx;simp only [List.mem_singleton] at hx;subst hx;exact ⟨hkb,hvb⟩,by simp⟩) n' hnw) rfl ?_
  rintro _ w6 ⟨rfl,hp6,hb6⟩
  have j8:=dG i8 hb6 (hSl _ (by omega))
  have j9:=dG i9 hb6 (hSl _ (by omega))
  clear i4 i8 i9
  repeat (first|refine TL.nil ?_|refine aA ?_|(refine aP ?_;(refine bQ rfl rfl yB (by exact rfl) (by exact rfl) (by exact rfl) ?_;intro w' hu hbk hsz))|refine bE ?_|refine bI ?_|refine TL.pure rfl rfl ?_)
  rename_i w7 hu7 hb7 z7
  have hlts:=h.lts
  refine retCC rfl (eC (hb7.upd hu (by omega))) rfl (eC hbk) ⟨_,rfl,rfl,?_,(((ButS.grow hgwa).trans hb6).upd hu7 (by omega)).upd hu (by omega)⟩
  exact (hp6.upd hu7 (by omega)).upd hu (by omega)
 | some n =>
  obtain ⟨fr,th,up,s1,hp,hpu,hend⟩:=putP_some hput
  have hfok:=pathP_frames (λ n=>h.lt n) hp
  repeat (first|(refine aB ?_;refine TL.pure rfl rfl ?_)|(refine aD ?_;refine TL.pure rfl rfl ?_)|refine aK rfl yM rfl ?_|refine TL.nil ?_|refine aA ?_|refine aJ ?_|refine aC ?_|(refine aH ?_;first|refine aQ rfl yD rfl ?_|refine TL.pure rfl rfl ?_)|(refine aP ?_;(refine bA rfl rfl yB (by exact rfl) (by exact rfl) (by exact rfl) ?_;intro w' hu hbk hsz))|(refine bF ?_;(refine TL.alloc rfl rfl ?_;intro bk w' hg hbk hsz hsz'))|refine TL.build rfl rfl rfl ?_|refine aE rfl ?_|refine aW ?_)
  obtain ⟨b11,rfl⟩:∃ y,y=bk:=⟨bk,rfl⟩
  have hb11:Blk w' b11 58 [.slice a m c,.slice a' m' c']:=hbk
  have hgw5:Grow w w':=aX hu (by omega) (hgw.trans hg)
  have i4:=(k4.grow hg).upd hu (by omega)
  have i8:=(k8.grow hg).upd hu (by omega)
  have i9:=(k9.grow hg).upd hu (by omega)
  have q11:b11=w4.heap.size∧b11<w'.heap.size:=by have:=hb11.lt;omega
  clear hbk hg hu hsz hsz' k4 k8 k9 hgw
  obtain ⟨w5,rfl⟩:∃ y,y=w':=⟨w',rfl⟩
  refine aL 78 ?_
  refine aI rfl (path_c (h.grow hgw5) _ a m c n key fr th (hk.grow hgw5) hp) rfl ?_
  rintro _ w6 ⟨⟨fb,fd,fcs,rfl,hfs,hfc⟩,hg6⟩
  have hgw6:=hgw5.trans hg6
  have z6:=hg6.size
  have zw:=hgw5.size
  replace i4:=i4.grow hg6
  replace i8:=i8.grow hg6
  replace i9:=i9.grow hg6
  replace hb11:=hb11.grow hg6
  clear hgw5 hg6
  repeat (first|refine T.seqR ?_|(refine aB ?_;refine TL.pure rfl rfl ?_)|(refine aD ?_;refine TL.pure rfl rfl ?_)|refine aK rfl yM rfl ?_|refine TL.nil ?_|refine aA ?_|refine aJ ?_|refine aC ?_|(refine aH ?_;refine aQ rfl yD rfl ?_)|(refine aP ?_;(refine bQ rfl rfl yB (by exact rfl) (by exact rfl) (by exact rfl) ?_;intro w' hu hbk hsz))|(refine bF ?_;(refine TL.alloc rfl rfl ?_;intro bk w' hg hbk hsz hsz'))|refine aE rfl ?_|refine aW ?_|refine TL.pure rfl rfl ?_)
  rename_i b13 w13 g13 k13 p13 p13' b14 w14 g14 k14 p14 p14' ws1 us1 ks1 zs1 ws2 ks2 zs2
  obtain ⟨b15,rfl⟩:∃ y,y=bk:=⟨bk,rfl⟩
  have hflen:=pathP_len hp
  have hW0:Grow w w':=(aX hu (by omega) (aX us1 (by omega) (hgw6.trans (g13.trans g14)))).trans hg
  have j4:=(((i4.grow (g13.trans g14)).upd us1 (by omega)).upd hu (by omega)).grow hg
  have j8:=(((i8.grow (g13.trans g14)).upd us1 (by omega)).upd hu (by omega)).grow hg
  have j9:=(((i9.grow (g13.trans g14)).upd us1 (by omega)).upd hu (by omega)).grow hg
  have j11:=(((hb11.grow (g13.trans g14)).upd us1 (by omega)).upd hu (by omega)).grow hg
  have j13:Blk w' b13 4 [.bool th]:=(Blk.upd hu (by omega) ks1).grow hg
  have j14:Blk w' b14 37 [.int .i64 0]:=Blk.grow hg ks2
  have j15:Blk w' b15 79 nil3:=hbk
  have cW:Carry (λ k=>w5.heap.size≤k) w6 (λ k=>w5.heap.size≤k∧k<w6.heap.size) w' :=
   (Carry.mono (λ k hk hl=>⟨hk,hl⟩)).trans ((Carry.grow (g13.trans g14)).trans ((Carry.upd us1 (λ k hk _=>by omega)).trans ((Carry.upd hu (λ k hk _=>by omega)).trans (Carry.grow hg))))
  replace hfs:=hfs.go cW
  replace hfc:=hfc.go cW
  have qs:w6.heap.size=b13∧b14=b13+1∧b15=b14+1∧w'.heap.size=b15+1:=by omega
  clear cW hbk hu hg us1 ks1 ks2 k13 k14 g13 g14 hsz hsz' i4 i8 i9 hb11 p13 p13' p14 p14' zs1 zs2 hgw6
  refine aL 79 ?_
  refine aI rfl (back_c fb fr.length fd _) rfl ?_
  rintro _ w9 ⟨b1,rfl,hb1s,hb1,hg9⟩
  repeat (refine TL.nil ?_)
  refine mK (T2.range (ps:=[52,53]) (lb:=[_]) rfl (Nat.zero_le _) rfl ?_)
  intro rc W hli hsW hgW hlW hDW
  obtain ⟨D,hD⟩:∃ D,D=w9.heap.size:=⟨_,rfl⟩
  rw [← hD] at hlW hDW hsW ⊢
  have hb1l:=hb1.lt
  have z9:=hg9.size
  replace j4:=(j4.grow hg9).grow hgW
  replace j8:=(j8.grow hg9).grow hgW
  replace j9:=(j9.grow hg9).grow hgW
  replace j11:=(j11.grow hg9).grow hgW
  replace j13:=(j13.grow hg9).grow hgW
  replace j14:=(j14.grow hg9).grow hgW
  replace j15:=(j15.grow hg9).grow hgW
  replace hb1:=hb1.grow hgW
  obtain ⟨Gu,hGu⟩:∃ G:Nat→Prop,∀ k,G k↔¬ L.S k∧k≠b15∧k≠b14∧k≠D+1:=⟨_,λ k=>Iff.rfl⟩
  have hGn:∀ k,w.heap.size≤k→k≠b15→k≠b14→k≠D+1→Gu k:=λ k hk h1 h2 h3=>(hGu k).2 ⟨hSl k hk,h1,h2,h3⟩
  replace hfs:Sl Gu W 4 fb fr.length fd fcs:=(hfs.grow (hg9.trans hgW)).mono (λ k hk=>hGn k (by omega) (by omega) (by omega) (by omega))
  replace hfc:FrCells Gu W fcs fr:=hfc.go ((Carry.grow (hg9.trans hgW)).trans (Carry.mono λ k hk _=>hGn k (by omega) (by omega) (by omega) (by omega)))
  have hgrW:Grow w W:=hW0.trans (hg9.trans hgW)
  have hkW:Sl Gu W 1 a m c (cX key):=(hk.go (Carry.mono (λ k hk hl=>(hGu k).2 ⟨hk,by omega,by omega,by omega⟩))).grow hgrW
  have hvW:Sl Gu W 1 a' m' c' (cX v):=(hv.go (Carry.mono (λ k hk hl=>(hGu k).2 ⟨hk,by omega,by omega,by omega⟩))).grow hgrW
  have hlts:=h.lts
  have ht00:=ht.1
  have hpW:=h.grow hgrW
  have htW:=ht.grow hgrW
  clear hgW hg9 hW0
  refine Calls.mono (backs_c Gu (D+1) b1 fr.length fb fd fcs (λ k w1=>∃ up1 g1,∃ y:NV,putUp (key,v) th (fr.drop k) g=some (up1,g1)∧UpOk up1∧(k<fr.length→up1.kids.length=up1.keys.length+1)∧Blk w1 b15 79 y.cs∧Blk w1 b14 37 [.int .i64 0] ∧
   w1.heap[D+1]? = some (.loop (rc .ready none))∧Carry Gu W (λ k=>Gu k∧k<W.heap.size) w1∧NdAt Gu w1 y up1∧PgAt w1 L g1∧ButS L.S w w1) (λ _=>False) (by omega) ?_ ?_ W ?_) ?_
  ·rintro k w1 ⟨up1,g1,y,e1,e2,e3,e15,e14,el,ec,en,ep,eb⟩
   exact ⟨eW hb1 (ec.blk b1 (hGn _ (by omega) (by omega) (by omega) (by omega)) (by omega)).2,(hfs.go ec).mono (λ k hk=>hk.1)⟩
  ·rintro k w1 hkl ⟨up1,g1,y,e1,e2,e3,e15,e14,el,ec,en,ep,eb⟩
   obtain ⟨f,hf⟩:∃ f,fr[k]? = some f:=⟨_,List.getElem?_eq_getElem hkl⟩
   obtain ⟨x,hx4,hx⟩:=hfc.at' hf
   rw [hx4]
   have fo:=hfok f (List.mem_of_getElem? hf)
   have z1:=ec.size
   have hx1:NdAt Gu w1 x f.1:=(hx.go ec).go (Carry.mono λ k hk _=>hk.1)
   refine yld_of hli el rfl rfl λ I=>?_
   repeat (first|refine TL.nil ?_|refine aC ?_|(refine aP ?_;(refine bA rfl rfl yB (by exact rfl) (by exact rfl) (by exact rfl) ?_;intro w' hu hbk hsz))|(refine bF ?_;(refine TL.alloc rfl rfl ?_;intro bk w' hg hbk hsz hsz')))
   refine ⟨?_,λ w2 hu2 hl2=>?_⟩
   ·rw [hu.block (D+1) (by omega),hg.block (D+1) (by omega)];exact el
   obtain ⟨bf,rfl⟩:∃ z,z=bk:=⟨bk,rfl⟩
   have z2:=hu2.size
   have keepb:∀ k,k<w1.heap.size→k≠D+1→w2.heap[k]? = w1.heap[k]?:=λ k h1 h2=>(hu2.block k h2).trans ((hu.block k (by omega)).trans (hg.block k h1))
   have gk:∀ k,w.heap.size≤k→k≠b15→k≠b14→k≠D+1→k<W.heap.size→w2.heap[k]? = W.heap[k]?:=λ k h1 h2 h3 h4 h5=>(keepb k (by omega) h4).trans (ec.blk k (hGn k h1 h2 h3 h4) h5).2
   have gkU:∀ k,Gu k→k<W.heap.size→w2.heap[k]? = W.heap[k]?:=λ k hk hl=>(keepb k (by omega) ((hGu k).1 hk).2.2.2).trans (ec.blk k hk hl).2
   have gf:Blk w2 bf 143 [x.v1,x.v2,x.v3,.int .i64 (f.2:Int)]:=Blk.upd hu2 (by omega) hbk
   have f15:=eW e15 (keepb b15 (by omega) (by omega))
   have f14:=eW e14 (keepb b14 (by omega) (by omega))
   have f4:=eW j4 (gk b4 (by omega) (by omega) (by omega) (by omega) (by omega))
   have f11:=eW j11 (gk b11 (by omega) (by omega) (by omega) (by omega) (by omega))
   have f13:=eW j13 (gk b13 (by omega) (by omega) (by omega) (by omega) (by omega))
   have cc:Carry Gu w1 Gu w2:=⟨by omega,λ k hk hl=>⟨hk,keepb k hl ((hGu k).1 hk).2.2.2⟩⟩
   have hx2:=hx1.go cc
   have en2:=en.go cc
   have ep2:=ep.keep (λ b hb=>keepb b (by omega) (by omega))
   have eb2:ButS L.S w w2:=((eb.trans (ButS.grow hg)).upd hu (by omega)).upd hu2 (by omega)
   have hk2:Sl Gu w2 1 a m c (cX key):=((hkW.go ec).mono (λ k hk=>hk.1)).go cc
   have hv2:Sl Gu w2 1 a' m' c' (cX v):=((hvW.go ec).mono (λ k hk=>hk.1)).go cc
   have qf:w1.heap.size=bf∧w2.heap.size=bf+1:=by omega
   rw [List.drop_eq_getElem_cons hkl,show fr[k]'hkl=f from (List.getElem?_eq_some_iff.1 hf).2]
   clear hbk hg hu hu2 hsz hsz' cc e15 e14 el ec en ep eb hx hx1 hli j4 j8 j9 j11 j13 j14 j15 hb1 hfs hfc hkW hvW keepb
   refine T.block ?_
   refine fQ 2 (λ e w3=>∃ (bn:Nat) (z:NV),Sub [(18,.pointer (some ⟨bn,0,none⟩)),(15,.pointer (some ⟨b15,0,none⟩)),(14,.pointer (some ⟨b14,0,none⟩)),(4,.pointer (some ⟨b4,0,none⟩))] e∧w2.heap.size≤bn∧bn<w3.heap.size∧Blk w3 bn 79 z.cs∧NdAt Gu w3 z (eM f.1 f.2 up1 (key,v) th)∧Grow w2 w3) ?_ ?_
   rotate_left
   ·cases hlf:cK f.1 with
    | false =>
     repeat (first|(refine aD ?_;refine TL.pure rfl rfl ?_)|(refine aY ?_;first|refine bK rfl yB (by exact rfl) rfl ?_|refine lP rfl yB (by exact rfl) (by exact rfl) rfl ?_)|refine aF rfl rfl ?_|refine TL.nil ?_|refine aA ?_|refine aJ ?_|refine aC ?_|refine T.block ?_|(refine aP ?_;(refine bA rfl rfl yB (by exact rfl) (by exact rfl) (by exact rfl) ?_;intro w' hu hbk hsz))|(refine bF ?_;(refine TL.alloc rfl rfl ?_;intro bk w' hg hbk hsz hsz'))|refine aM rfl ?_|refine TL.pure rfl rfl ?_|refine bB ?_|refine cQ ?_|(refine aL 80 ?_;refine aI rfl (fC hx2 hlf _) rfl ?_;rintro _ _ ⟨rfl,hgc⟩))
     rename_i w3
     obtain ⟨bn,rfl⟩:∃ z,z=bk:=⟨bk,rfl⟩
     have gn:Blk w3 bn 79 x.cs:=Blk.grow hgc hbk
     have hg23:Grow w2 w3:=(aX hu (by omega) hg).trans hgc
     have zc:=hgc.size
     have z23:=hg23.size
     obtain ⟨Gq,hGq⟩:∃ G:Nat→Prop,∀ k,G k↔Gu k∧k≠bn:=⟨_,λ k=>Iff.rfl⟩
     have cq:Carry Gu w2 Gq w3:=(Carry.mono (λ k hk hl=>(hGq k).2 ⟨hk,by omega⟩)).trans (Carry.grow hg23)
     have hx3:=hx2.go cq
     have en3:=en2.go cq
     have i15:=f15.grow hg23
     have i13:=f13.grow hg23
     have i11:=f11.grow hg23
     have gf3:=gf.grow hg23
     have hk3:=hk2.go cq
     have hv3:=hv2.go cq
     have qn:w2.heap.size=bn∧bn<w3.heap.size:=by omega
     have hGF:∀ wq:World,w3.heap.size≤wq.heap.size→∀ k,wq.heap.size≤k→Gq k:=λ wq hq k hk=>(hGq k).2 ⟨hGn k (by omega) (by omega) (by omega) (by omega),by omega⟩
     have hok:=fo.ok
     unfold cE at hok
     have hn1x:=hx3.its.len
     have hn2x:=eI hx3.kids
     have hn3x:=hx3.kys.len
     have hn2y:=eI en3.kids
     have hn3y:=en3.kys.len
     have hup2:=e2.two
     have hupl:=e2.ks
     clear hbk hg hgc hu hsz hsz' cq gf f15 f13 f11 hx2 en2 hk2 hv2
     rw [if_neg (by rw [hlf];simp)] at hok
     obtain ⟨hoi,ho2,ho8,hol,_,_⟩:=cT hok
     have hkid:=fo.kid hlf
     apply T.any 13 [is (.pointer (some ⟨bn,1,none⟩)),is (.slice x.a2 x.n2 x.c2),is (.pointer (some ⟨bf,3,none⟩)),is (.int .i64 (f.2:Int)),is (.pointer (some ⟨bf,3,none⟩)),is (.int .i64 (f.2:Int)),is (.int .i64 ((f.2+1:Nat):Int)),
      kidF Gq (x.n2-(f.2+1-f.2)) (cO f.1.kids f.2 (f.2+1)),is (.pointer (some ⟨bf,3,none⟩)),is (.int .i64 (f.2:Int)),is (.pointer (some ⟨b15,1,none⟩)),is (.slice y.a2 y.n2 y.c2),kidF Gq (x.n2-(f.2+1-f.2)+y.n2) (dH (cO f.1.kids f.2 (f.2+1)) f.2 up1.kids)]
     ·rfl
     ·repeat' (first|exact bW|refine bU ?_ ?_)
      iterate 7
       ·(refine aR rfl rfl rfl ?_);( intro wq _ _ hgq;(repeat (refine aG rfl rfl ?_;intro vq hvq;try (obtain rfl:=hvq)));(refine aN ?_))
        repeat (first|refine aK rfl yM rfl ?_|refine aF rfl rfl ?_|(refine bL ?_;refine bT rfl rfl (by omega) rfl ?_)|refine TL.nil ?_)
        exact aT rfl yG rfl
      ·(refine aR rfl rfl rfl ?_);( intro wq _ _ hgq;(repeat (refine aG rfl rfl ?_;intro vq hvq;try (obtain rfl:=hvq)));(refine aN ?_))
       refine aL 97 ?_
       refine aI rfl (cutN_c (F:=Gq) (hGF _ (by have:=hgq.size;omega)) x.a2 x.n2 x.c2 f.2 (f.2+1) f.1.kids (hx3.kids.grow yG) (by omega) (by omega) (by omega)) rfl ?_
       rintro v' wr ⟨⟨a7,c7,rfl,hi⟩,hgr⟩
       repeat (refine TL.nil ?_)
       exact aT rfl yG ⟨a7,c7,rfl,hi⟩
      iterate 4
       ·(refine aR rfl rfl rfl ?_);( intro wq _ _ hgq;(repeat (refine aG rfl rfl ?_;intro vq hvq;try (obtain rfl:=hvq)));(refine aN ?_))
        repeat (first|refine aK rfl yM rfl ?_|refine aF rfl rfl ?_|refine TL.nil ?_)
        exact aT rfl yG rfl
      ·refine aR rfl rfl rfl ?_
       intro wq _ _ hgq
       refine aG rfl rfl ?_
       intro v9 q9
       obtain rfl:=q9
       refine aG rfl rfl ?_
       intro v11 q11'
       obtain rfl:=q11'
       refine aG rfl rfl ?_
       intro v7 q7
       refine aN ?_
       obtain ⟨a7,c7,rfl,h7⟩:=q7
       refine aL 96 ?_
       refine aI rfl (insN_c (F:=Gq) (hGF _ (by have:=hgq.size;omega)) a7 y.a2 _ c7 y.n2 y.c2 f.2 _ up1.kids h7 (en3.kids.grow hgq) (by omega) (by omega)) rfl ?_
       rintro v' wr ⟨⟨a7,c7,rfl,hi⟩,hgr⟩
       repeat (refine TL.nil ?_)
       exact aT rfl yG ⟨a7,c7,rfl,hi⟩
     ·intro wt lot hit hgt _ _
      iterate 12 (refine aG rfl rfl ?_;intro vq hvq;try (obtain rfl:=hvq))
      refine aG rfl rfl ?_
      rintro vt ⟨at7,ct7,rfl,ht7⟩
      refine aN ?_
      have zt:=hgt.size
      have jf:=gf3.grow hgt
      have j15:=i15.grow hgt
      have jn:=gn.grow hgt
      have hgt2:=hg23.trans hgt
      have hx4:=hx3.go (Carry.grow hgt)
      have en4:=en3.go (Carry.grow hgt)
      clear gf3 i15 gn hx3 en3 hgt
      repeat (first|refine aK rfl yM rfl ?_|refine aF rfl rfl ?_|refine TL.nil ?_|refine aA ?_|refine aC ?_|(refine aP ?_;(refine bQ rfl rfl yB (by exact rfl) (by exact rfl) (by exact rfl) ?_;intro w' hu hbk hsz)))
      have cu:Carry Gq wt Gq w':=Carry.upd hu (λ k hk _=>((hGq k).1 hk).2)
      refine aL 98 ?_
      refine aI rfl (insK_c (F:=Gq) (hGF _ (by omega)) x.a3 y.a3 x.n3 x.c3 y.n3 y.c3 f.2 f.1.keys up1.keys (hx4.kys.go cu) (en4.kys.go cu) (by omega) (by omega)) rfl ?_
      rintro _ wr ⟨⟨a8,c8,rfl,hi8⟩,hgr⟩
      have kn:=hbk.grow hgr
      have hgu:Grow w2 w':=aX hu (by omega) hgt2
      have cu2:Carry Gq wt Gq wr:=cu.trans (Carry.grow hgr)
      have hN1:=hx4.its.go cu2
      have hN2:=ht7.go cu2
      have hgu2:=hgu.trans hgr
      have zr:=hgr.size
      clear hbk hu cu cu2 hgr hx4 en4 hgu hgt2 jn
      repeat (first|refine aF rfl rfl ?_|refine TL.nil ?_|refine aS ?_|(refine aP ?_;(refine bQ rfl rfl yB (by exact rfl) (by exact rfl) (by exact rfl) ?_;intro w' hu hbk hsz))|refine bB ?_|refine bY ?_)
      have cu3:Carry Gq wr Gu w':=(Carry.upd hu (λ k hk _=>((hGq k).1 hk).2)).trans (Carry.mono λ k hk _=>((hGq k).1 hk).1)
      refine ⟨bn,⟨x.a1,x.n1,x.c1,at7,x.n2-(f.2+1-f.2)+y.n2,ct7,a8,x.n3+y.n3,c8⟩,⟨rfl,rfl,rfl,rfl,trivial⟩,by omega,by omega,hbk,?_,aX hu (by omega) hgu2⟩
      have hpn:eM f.1 f.2 up1 (key,v) th=⟨f.1.items,dH (cO f.1.kids f.2 (f.2+1)) f.2 up1.kids,dH f.1.keys f.2 up1.keys⟩:=by
       simp only [eM,hlf];rfl
      rw [hpn]
      exact ⟨hN1.go cu3,hN2.go cu3,hi8.go cu3⟩
    | true =>
     repeat (first|(refine aD ?_;refine TL.pure rfl rfl ?_)|(refine aY ?_;first|refine aK rfl yM rfl ?_|refine bK rfl yB (by exact rfl) rfl ?_|refine lP rfl yB (by exact rfl) (by exact rfl) rfl ?_)|refine aF rfl rfl ?_|refine TL.nil ?_|refine aA ?_|refine aJ ?_|refine aC ?_|refine T.block ?_|(refine aP ?_;(refine bA rfl rfl yB (by exact rfl) (by exact rfl) (by exact rfl) ?_;intro w' hu hbk hsz))|(refine bF ?_;(refine TL.alloc rfl rfl ?_;intro bk w' hg hbk hsz hsz'))|refine aE rfl ?_|refine TL.pure rfl rfl ?_|refine bB ?_|refine cQ ?_|(refine aL 80 ?_;refine aI rfl (fC hx2 hlf _) rfl ?_;rintro _ _ ⟨rfl,hgc⟩))
     rename_i w3
     obtain ⟨bn,rfl⟩:∃ z,z=bk:=⟨bk,rfl⟩
     have gn:Blk w3 bn 79 x.cs:=Blk.grow hgc hbk
     have hg23:Grow w2 w3:=(aX hu (by omega) hg).trans hgc
     have zc:=hgc.size
     have z23:=hg23.size
     obtain ⟨Gq,hGq⟩:∃ G:Nat→Prop,∀ k,G k↔Gu k∧k≠bn:=⟨_,λ k=>Iff.rfl⟩
     have cq:Carry Gu w2 Gq w3:=(Carry.mono (λ k hk hl=>(hGq k).2 ⟨hk,by omega⟩)).trans (Carry.grow hg23)
     have hx3:=hx2.go cq
     have en3:=en2.go cq
     have i15:=f15.grow hg23
     have i13:=f13.grow hg23
     have i11:=f11.grow hg23
     have gf3:=gf.grow hg23
     have hk3:=hk2.go cq
     have hv3:=hv2.go cq
     have qn:w2.heap.size=bn∧bn<w3.heap.size:=by omega
     have hGF:∀ wq:World,w3.heap.size≤wq.heap.size→∀ k,wq.heap.size≤k→Gq k:=λ wq hq k hk=>(hGq k).2 ⟨hGn k (by omega) (by omega) (by omega) (by omega),by omega⟩
     have hok:=fo.ok
     unfold cE at hok
     have hn1x:=hx3.its.len
     have hn2x:=eI hx3.kids
     have hn3x:=hx3.kys.len
     have hn2y:=eI en3.kids
     have hn3y:=en3.kys.len
     have hup2:=e2.two
     have hupl:=e2.ks
     clear hbk hg hgc hu hsz hsz' cq gf f15 f13 f11 hx2 en2 hk2 hv2
     rw [if_pos hlf] at hok
     obtain ⟨hoi,ho8,_⟩:=dL hok
     obtain ⟨hle,hlt⟩:=fo.leaf hlf
     cases th with
     | false =>
      repeat (first|(refine aY ?_;first|refine aK rfl yM rfl ?_|refine bK rfl yB (by exact rfl) rfl ?_)|refine aF rfl rfl ?_|refine aC ?_|refine aE rfl ?_)
      refine TL.buildSlice rfl rfl rfl rfl rfl ?_
      intro b' wa hga hba hsa hsb hsc
      have hba':Blk wa b' 58 [.slice a m c,.slice a' m' c']:=hba
      have hit:ItsAt Gq wa (some ⟨b',0,none⟩) 1 1 [(key,v)]:=⟨_,(bR (sz:=2) (m:=1) hba' rfl (by decide)).mono (λ k hk=>by subst hk;exact hGF w3 (Nat.le_refl _) _ (by omega)),⟨_,_,_,rfl,hk3.grow hga⟩,⟨_,_,_,rfl,hv3.grow hga⟩,trivial⟩
      have za:=hga.size
      have kn:=gn.grow hga
      have hx4:=hx3.go (Carry.grow hga)
      have hgu:=hg23.trans hga
      clear hba hba' hsa hsb hsc gn hga hg23 hx3
      repeat (refine aJ ?_)
      refine aL 99 ?_
      refine aI rfl (insI_c (F:=Gq) (hGF _ (by omega)) x.a1 (some ⟨b',0,none⟩) x.n1 x.c1 1 1 f.2 f.1.items [(key,v)] hx4.its hit (by omega) (by omega)) rfl ?_
      rintro _ wr ⟨⟨a8,c8,rfl,hi8⟩,hgr⟩
      have kn2:=kn.grow hgr
      have hx5:=hx4.go (Carry.grow hgr)
      have hgu2:=hgu.trans hgr
      have zr:=hgr.size
      clear kn hgr hx4 hgu
      repeat (first|refine aF rfl rfl ?_|refine TL.nil ?_|refine aS ?_|(refine aP ?_;(refine bQ rfl rfl yB (by exact rfl) (by exact rfl) (by exact rfl) ?_;intro w' hu hbk hsz))|refine bB ?_|refine bY ?_)
      have cu3:Carry Gq wr Gu w':=(Carry.upd hu (λ k hk _=>((hGq k).1 hk).2)).trans (Carry.mono λ k hk _=>((hGq k).1 hk).1)
      refine ⟨bn,⟨a8,x.n1+1,c8,x.a2,x.n2,x.c2,x.a3,x.n3,x.c3⟩,⟨rfl,rfl,rfl,rfl,trivial⟩,by omega,by omega,hbk,?_,aX hu (by omega) hgu2⟩
      have hpn:eM f.1 f.2 up1 (key,v) false=⟨dH f.1.items f.2 [(key,v)],f.1.kids,f.1.keys⟩:=by
       simp only [eM,hlf];rfl
      rw [hpn]
      exact ⟨hi8.go cu3,hx5.kids.go cu3,hx5.kys.go cu3⟩
     | true =>
      have hlt':=hlt rfl
      repeat (refine aM rfl ?_)
      apply T.any 13 [is (.pointer (some ⟨bn,0,none⟩)),is (.slice x.a1 x.n1 x.c1),is (.pointer (some ⟨bf,3,none⟩)),is (.int .i64 (f.2:Int)),is (.pointer (some ⟨bf,3,none⟩)),is (.int .i64 (f.2:Int)),is (.int .i64 ((f.2+1:Nat):Int)),
       itsF Gq (x.n1-(f.2+1-f.2)) (cO f.1.items f.2 (f.2+1)),is (.pointer (some ⟨bf,3,none⟩)),is (.int .i64 (f.2:Int)),is (.agg #[.slice a m c,.slice a' m' c']),itsF Gq 1 [(key,v)],itsF Gq (x.n1-(f.2+1-f.2)+1) (dH (cO f.1.items f.2 (f.2+1)) f.2 [(key,v)])]
      ·rfl
      ·repeat' (first|exact bW|refine bU ?_ ?_)
       iterate 7
        ·(refine aR rfl rfl rfl ?_);( intro wq _ _ hgq;(repeat (refine aG rfl rfl ?_;intro vq hvq;try (obtain rfl:=hvq)));(refine aN ?_))
         repeat (first|refine aK rfl yM rfl ?_|refine aF rfl rfl ?_|(refine bL ?_;refine bT rfl rfl (by omega) rfl ?_)|refine TL.nil ?_)
         exact aT rfl yG rfl
       ·(refine aR rfl rfl rfl ?_);( intro wq _ _ hgq;(repeat (refine aG rfl rfl ?_;intro vq hvq;try (obtain rfl:=hvq)));(refine aN ?_))
        refine aL 81 ?_
        refine aI rfl (cutI_c (F:=Gq) (hGF _ (by have:=hgq.size;omega)) x.a1 x.n1 x.c1 f.2 (f.2+1) f.1.items (hx3.its.go (Carry.grow yG)) (by omega) (by omega) (by omega)) rfl ?_
        rintro v' wr ⟨⟨a7,c7,rfl,hi⟩,hgr⟩
        repeat (refine TL.nil ?_)
        exact aT rfl yG ⟨a7,c7,rfl,hi⟩
       iterate 3
        ·(refine aR rfl rfl rfl ?_);( intro wq _ _ hgq;(repeat (refine aG rfl rfl ?_;intro vq hvq;try (obtain rfl:=hvq)));(refine aN ?_))
         repeat (first|(refine aY ?_;first|refine aK rfl yM rfl ?_|refine bK rfl yB (by exact rfl) rfl ?_)|refine aF rfl rfl ?_|refine TL.nil ?_)
         exact aT rfl yG rfl
       ·(refine aR rfl rfl rfl ?_);( intro wq _ _ hgq;(repeat (refine aG rfl rfl ?_;intro vq hvq;try (obtain rfl:=hvq)));(refine aN ?_))
        have zq:=hgq.size
        refine TL.buildSlice rfl rfl rfl rfl rfl ?_
        intro b' wa hga hba hsa hsb hsc
        have hba':Blk wa b' 58 [.slice a m c,.slice a' m' c']:=hba
        have hit:ItsAt Gq wa (some ⟨b',0,none⟩) 1 1 [(key,v)]:=⟨_,(bR (sz:=2) (m:=1) hba' rfl (by decide)).mono (λ k hk=>by subst hk;exact hGF w3 (Nat.le_refl _) _ (by omega)),⟨_,_,_,rfl,(hk3.grow hgq).grow hga⟩,⟨_,_,_,rfl,(hv3.grow hgq).grow hga⟩,trivial⟩
        repeat (refine TL.nil ?_)
        exact aT rfl yG ⟨_,_,rfl,hit⟩
       ·refine aR rfl rfl rfl ?_
        intro wq _ _ hgq
        refine aG rfl rfl ?_
        intro v9 q9
        obtain rfl:=q9
        refine aG rfl rfl ?_
        intro v11 q11'
        obtain ⟨a6,c6,rfl,h6⟩:=q11'
        refine aG rfl rfl ?_
        intro v7 q7
        refine aN ?_
        obtain ⟨a7,c7,rfl,h7⟩:=q7
        refine aL 99 ?_
        refine aI rfl (insI_c (F:=Gq) (hGF _ (by have:=hgq.size;omega)) a7 a6 _ c7 1 c6 f.2 _ [(key,v)] h7 h6 (by omega) (by omega)) rfl ?_
        rintro v' wr ⟨⟨a7,c7,rfl,hi⟩,hgr⟩
        repeat (refine TL.nil ?_)
        exact aT rfl yG ⟨a7,c7,rfl,hi⟩
      ·intro wt lot hit hgt _ _
       iterate 12 (refine aG rfl rfl ?_;intro vq hvq;try (obtain rfl:=hvq))
       refine aG rfl rfl ?_
       rintro vt ⟨at7,ct7,rfl,ht7⟩
       refine aN ?_
       have zt:=hgt.size
       have jn:=gn.grow hgt
       have hgt2:=hg23.trans hgt
       have hx4:=hx3.go (Carry.grow hgt)
       clear gf3 i15 gn hx3 en3 hgt hvq
       repeat (first|refine aF rfl rfl ?_|refine TL.nil ?_|refine aS ?_|(refine aP ?_;(refine bQ rfl rfl yB (by exact rfl) (by exact rfl) (by exact rfl) ?_;intro w' hu hbk hsz))|refine bB ?_|refine bY ?_)
       have cu3:Carry Gq wt Gu w':=(Carry.upd hu (λ k hk _=>((hGq k).1 hk).2)).trans (Carry.mono λ k hk _=>((hGq k).1 hk).1)
       refine ⟨bn,⟨at7,x.n1-(f.2+1-f.2)+1,ct7,x.a2,x.n2,x.c2,x.a3,x.n3,x.c3⟩,⟨rfl,rfl,rfl,rfl,trivial⟩,by omega,by omega,hbk,?_,aX hu (by omega) hgt2⟩
       have hpn:eM f.1 f.2 up1 (key,v) true=⟨dH (cO f.1.items f.2 (f.2+1)) f.2 [(key,v)],f.1.kids,f.1.keys⟩:=by
        simp only [eM,hlf];rfl
       rw [hpn]
       exact ⟨ht7.go cu3,hx4.kids.go cu3,hx4.kys.go cu3⟩
   rintro e w3 ⟨bn,z,hsub,qb1,qb2,hbn,hz,hg23⟩
   refine dD (e':=[(18,_),(15,_),(14,_),(4,_)]) ?_ hsub
   clear hsub
   obtain ⟨up2,g2,hpk⟩:=putUp_suffix hpu k
   rw [List.drop_eq_getElem_cons hkl,show fr[k]'hkl=f from (List.getElem?_eq_some_iff.1 hf).2] at hpk
   obtain ⟨up',g1',e1',hst⟩:=putUp_cons hpk
   rw [e1] at e1'
   simp only [Option.some.injEq,Prod.mk.injEq] at e1'
   obtain ⟨rfl,rfl⟩:=e1'
   obtain ⟨hs9,hsh⟩:=putNode_shape (item:=(key,v)) fo e2 (λ hl=>e3 (pathP_last hp k f hf hl))
   have hnb:=putNode_by (i:=f.2) (item:=(key,v)) (th:=th) fo.by' e2.by' hkb hvb
   have z3:=hg23.size
   have f15':=f15.grow hg23
   have f14':=f14.grow hg23
   have f4':=f4.grow hg23
   have hl3:w3.heap[D+1]? = some (.loop (rc .busy none)):=(hg23.block _ (by omega)).trans hl2
   clear f15 f14 f4 hl2
   repeat (first|(refine aY ?_;first|refine aK rfl yM rfl ?_|refine bK rfl yB (by exact rfl) rfl ?_)|refine aJ ?_|refine aC ?_)
   refine aL 100 ?_
   refine aI rfl (store_c (ep2.grow hg23) ((ht.buts eb2 h0).grow hg23) h0 Gu (λ k hk=>((hGu k).1 hk).1) (λ k hk=>hGn k (by omega) (by omega) (by omega) (by omega)) z _ up2 hz hnb hs9 hsh hst) rfl ?_
   rintro _ w8 ⟨⟨y2,rfl,hy2⟩,hp8,hb8⟩
   obtain ⟨hup2,hup2l⟩:=storeP_up hst hnb
   have z8:=hb8.size
   have f15:=dG f15' hb8 (hSl _ (by omega))
   have f14:=dG f14' hb8 (hSl _ (by omega))
   have hl8:w8.heap[D+1]? = some (.loop (rc .busy none)):=(hb8.block _ (by omega) (hSl _ (by omega))).trans hl3
   clear f15' f14' f4' hbn
   repeat (first|(refine aB ?_;refine TL.pure rfl rfl ?_)|refine aK rfl yM rfl ?_|refine TL.nil ?_|refine aA ?_|refine aJ ?_|refine aC ?_|refine aS ?_|(refine aH ?_;refine aQ rfl yD rfl ?_)|(refine aP ?_;first|(refine bQ rfl rfl yB (by exact rfl) (by exact rfl) (by exact rfl) ?_;intro w' hu hbk hsz)|(refine bA rfl rfl yB (by exact rfl) (by exact rfl) (by exact rfl) ?_;intro w' hu hbk hsz))|refine aE rfl ?_|refine aW ?_|refine TL.pure rfl rfl ?_)
   rename_i w9' hu9 hb9 z9'
   refine ⟨?_,λ wz huz hlz=>.inl ⟨rfl,up2,g2,y2,hpk,hup2,λ _=>hup2l,?_,hbk.upd huz (by omega),hlz,?_,?_,?_,?_⟩⟩
   ·rw [hu.block _ (by omega),hu9.block _ (by omega)];exact hl8
   ·exact (hb9.upd hu (by omega)).upd huz (by omega)
   ·refine ⟨by have:=hu9.size;have:=hu.size;have:=huz.size;omega,λ k hk hl=>⟨⟨hk,hl⟩,?_⟩⟩
    obtain ⟨c1,c2,c3,c4⟩:=(hGu k).1 hk
    rw [huz.block k c4,hu.block k c3,hu9.block k c2,hb8.block k (by omega) c1,hg23.block k (by omega)]
    exact gkU k hk hl
   ·exact ((hy2.go (Carry.upd hu9 (λ k hk _=>((hGu k).1 hk).2.1))).go (Carry.upd hu (λ k hk _=>((hGu k).1 hk).2.2.1))).go (Carry.upd (F:=Gu) huz (λ k hk _=>((hGu k).1 hk).2.2.2))
   ·exact ((hp8.upd hu9 (by omega)).upd hu (by omega)).upd huz (by omega)
   ·exact ((((eb2.trans (ButS.grow hg23)).trans hb8).upd hu9 (by omega)).upd hu (by omega)).upd huz (by omega)
  ·refine ⟨nd0,g,⟨none,0,0,none,0,0,none,0,0⟩,by rw [List.drop_length];rfl,⟨rfl,.inl rfl,by decide,by decide,⟨by simp [nd0],by simp [nd0]⟩⟩,λ hh=>by omega,j15,j14,hlW,Carry.mono (λ k hk hl=>⟨hk,hl⟩),⟨jS,jR,jF⟩,hpW,ButS.grow hgrW⟩
  ·rintro _ w1 ⟨u,rfl,⟨up1,g1,y,e1,e2,e3,e15,e14,el,ec,en,ep,eb⟩|hf⟩
   rotate_left
   ·exact hf.elim
   rw [List.drop_zero,hpu] at e1
   simp only [Option.some.injEq,Prod.mk.injEq] at e1
   obtain ⟨rfl,rfl⟩:=e1
   refine ⟨u,rfl,?_,.inl ⟨el,λ I w2 hu2=>?_⟩⟩
   ·rw [(ec.blk D (hGn _ (by omega) (by omega) (by omega) (by omega)) (by omega)).2];exact hDW
   ·have hul:=hu2.size
    have zec:=ec.size
    have gu:∀ k,w.heap.size≤k→k≠b15→k≠b14→k≠D+1→k<W.heap.size→w2.heap[k]? = W.heap[k]?:=λ k h1 h2 h3 h4 h5=>(hu2.block k h4).trans (ec.blk k (hGn k h1 h2 h3 h4) h5).2
    have f15:=e15.upd hu2 (by omega)
    have f8:=eW j8 (gu b8 (by omega) (by omega) (by omega) (by omega) (by omega))
    have f9:=eW j9 (gu b9 (by omega) (by omega) (by omega) (by omega) (by omega))
    have f4:=eW j4 (gu b4 (by omega) (by omega) (by omega) (by omega) (by omega))
    have fD:w2.heap[D]? = some (.deferred (some [])):=(gu D (by omega) (by omega) (by omega) (by omega) (by omega)).trans hDW
    have fn:=en.go (Carry.upd (F:=Gu) hu2 (λ k hk _=>((hGu k).1 hk).2.2.2))
    have fp:=ep.upd hu2 (by omega)
    have fb2:ButS L.S w w2:=eb.upd hu2 (by omega)
    have hn2:=eI fn.kids
    clear e15 e14 el ec en ep eb hu2 hbk hsz hli j4 j8 j9 j11 j13 j14 j15 hb1 hfs hfc hkW hvW
    rcases hend with ⟨hk1,rfl⟩|⟨hk1,hwp⟩
    ·have hy2:y.n2=1:=by rw [hn2,hk1];rfl
     have hsk:=fn.kids
     rw [hk1] at hsk
     have hcx:w2.cell? (at' y.a2 0)=some (.int .i64 (n':Int)):=hsk.row.cell rfl
     repeat (first|(refine bC ?_;refine aV (j:=0) rfl rfl rfl (by omega) rfl ⟨_,_,hsk⟩ rfl ?_)|refine aK rfl yM rfl ?_|refine aF rfl rfl ?_|refine TL.nil ?_|refine aA ?_|refine aJ ?_|refine aC ?_|(refine aH ?_;refine aZ rfl yD rfl ?_)|(refine aP ?_;(refine bQ rfl rfl yB (by exact rfl) (by exact rfl) (by exact rfl) ?_;intro w' hu hbk hsz))|refine aO rfl rfl ?_|refine aM rfl ?_|refine bE ?_|refine bI ?_)
     rename_i w7 hu7 hb7 z7
     refine ⟨?_,λ wz huz=>?_⟩
     ·rw [hu.block D (by omega),hu7.block D (by omega)];exact fD
     ·refine retCC rfl (eC ((hb7.upd hu (by omega)).upd huz (by omega))) rfl (eC (hbk.upd huz (by omega))) ⟨_,rfl,rfl,?_,((fb2.upd hu7 (by omega)).upd hu (by omega)).upd huz (by omega)⟩
      exact ((fp.upd hu7 (by omega)).upd hu (by omega)).upd huz (by omega)
    ·have hy2:y.n2≠1:=by rw [hn2];exact hk1
     obtain ⟨hok,hnw⟩:=iI hwp
     repeat (first|(refine aY ?_;first|refine aK rfl yM rfl ?_|refine bK rfl yB (by exact rfl) rfl ?_)|refine aF rfl rfl ?_|refine TL.nil ?_|refine aA ?_|refine aJ ?_|refine aC ?_|(refine aH ?_;refine aQ rfl yD rfl ?_)|refine aO rfl rfl ?_|refine aE rfl ?_|refine aW ?_)
     refine aL 84 ?_
     refine aI rfl (write_c fp (ht.buts fb2 h0) _ y up fn hok (kY hok e2.by') n' hnw) rfl ?_
     rintro _ w6' ⟨rfl,hp6,hb6⟩
     have f8':=dG f8 hb6 (hSl _ (by omega))
     have f9':=dG f9 hb6 (hSl _ (by omega))
     have fD':w6'.heap[D]? = some (.deferred (some [])):=(hb6.block D (by omega) (hSl _ (by omega))).trans fD
     have zz:=hb6.size
     clear f8 f9 f15 f4
     repeat (first|refine TL.nil ?_|refine aA ?_|(refine aP ?_;(refine bQ rfl rfl yB (by exact rfl) (by exact rfl) (by exact rfl) ?_;intro w' hu hbk hsz))|refine bE ?_|refine TL.pure rfl rfl ?_)
     rename_i w7 hu7 hb7 z7
     refine ⟨?_,λ wz huz=>?_⟩
     ·rw [hu.block D (by omega),hu7.block D (by omega)];exact fD'
     ·refine retCC rfl (eC ((hb7.upd hu (by omega)).upd huz (by omega))) rfl (eC (hbk.upd huz (by omega))) ⟨_,rfl,rfl,?_,(((fb2.trans hb6).upd hu7 (by omega)).upd hu (by omega)).upd huz (by omega)⟩
      exact ((hp6.upd hu7 (by omega)).upd hu (by omega)).upd huz (by omega)
end Go.Proofs.YtfpadnmdafiddaaGreatDoor
