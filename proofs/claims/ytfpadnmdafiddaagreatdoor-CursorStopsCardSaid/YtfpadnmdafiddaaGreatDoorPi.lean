import Derived.Test.YtfpadnmdafiddaaGreatDoorP0
import Derived.Test.YtfpadnmdafiddaaGreatDoorPh
import Derived.Lib.AppendZeros
import Derived.Test.YtfpadnmdafiddaaGreatDoorPf
set_option linter.all false
set_option maxHeartbeats 16000000
set_option maxRecDepth 100000
namespace Go.V
open Go Go.RowKit
section
variable [Rn]
variable {P:Program} {n:Nat} {e:dI} {w:World} {Q:dA} {ops:Array Oper} {rest:List Oper} {d:Nat} {ty:TypeId} {pos:String} {aft:Array Edge}
theorem TL.capR {t a0 size bytes:Nat} {x:Operand} {a:Option Addr} {m c:Nat} [ht:SliceTy P t a0 size bytes] (hx:val e x=some (.slice a m c)) (hd:Nat.blt d n=true)
  (k:TL P n ops rest ((d,.int .i64 (c:Int))::e) w Q):TL P n ops (⟨some d,.call ⟨.builtin .cap,#[x],#[t]⟩,ty,pos,aft,none⟩::rest) e w Q :=
 TL.run (λ a ha=>by simp [execOp,resolve,invoke,builtin,Builtin.cap_,underlying,ht.und,ha.eval hx,goInt]) hd k
theorem TL.sliceZ {t a0 size bytes:Nat} {x y:Operand} {b m c:Nat} {kd:IntKind} {z:Int} [ht:SliceTy P t a0 size bytes] (hx:val e x=some (.slice (some ⟨b,0,none⟩) m c)) (hy:val e y=some (.int kd z)) (hz:z=((0:Nat):Int)) (hc:0<c) (hd:Nat.blt d n=true)
  (k:TL P n ops rest ((d,.slice (some ⟨b,0,none⟩) 0 c)::e) w Q):TL P n ops (⟨some d,.slice t x none (some y) none,ty,pos,aft,none⟩::rest) e w Q:=by
 refine TL.run (λ r hr=>?_) hd k;have e0:¬ c=0:=by omega
 have hb:=cR (P:=P) (k:=kd) (z:=z) (j:=0) (y:=c) (code:=.sliceAcap) hz (Nat.zero_le _) w;simp [execOp,hr.eval hx,hr.eval hy,Instr.sliceAt,underlying,ht.und,Instr.slice,Instr.sliceBounds,hb,ht.size,e0,Addr.add_lit]
theorem TL.appendNil {t tn a0 size bytes c:Nat} {x y:Operand} {kq kn:IntKind} [ht:SliceTy P t a0 size bytes] [hn:IntTy P tn kn] (hx:val e x=some (.slice none 0 0)) (hy:val e y=some (.int kq (c:Int))) (h0:0<c) (hb:c*bytes≤140737488355328) (m0:c≤1000000) (hd:Nat.blt d n=true)
  (k:∀ b cap w',w.heap.size=b→Grow w w'→c≤cap→cap≤maxLen→w'.ownsRow w.heap.size a0 size (.slice (some ⟨b,0,none⟩) 0 cap) 0 []→TL P n ops rest ((d,.slice (some ⟨b,0,none⟩) c cap)::e) w' Q) :
  TL P n ops (⟨some d,.call ⟨.builtin .append,#[x,y],#[t,tn]⟩,ty,pos,aft,none⟩::rest) e w Q:=by
 obtain ⟨i,z,hi,k0,j0,hz,g0,l0⟩:=ht.info;have e0:=Lib.run_append_nil_zeros (P:=P) w t tn ty a0 i z kq kn ht.und hn.und hi hz c h0 oM oM (by rw [j0];omega);have i0:c≤grownCap w c 0 a0:=grownCap_ge w _ _ _;have f0:grownCap w c 0 a0≤maxLen:=grownCap_le_maxLen w c 0 a0 (by unfold maxLen;omega);refine TL.run (v:=.slice (some ⟨w.heap.size,0,none⟩) c (grownCap w c 0 a0)) (w':=w.drew.alloc (.cells (Builtin.zeroCells z.cells c++Builtin.zeroCells z.cells (grownCap w c 0 a0-c)) a0)) (λ r hr=>?_) hd (k _ _ _ rfl ?_ i0 f0 ?_);rotate_left
 ·exact Grow.mk ⟨rfl,rfl,rfl,sM,λ k hk=>Below.heap_alloc w.drew _ k hk⟩
 ·refine ⟨sM,.inr ⟨w.heap.size,_,_,rfl,Nat.le_refl _,heap_alloc_new w.drew _,Nat.zero_le _,f0,?_,sM⟩⟩;simp only [Array.size_append,size_zeroCells,g0,← Nat.add_mul];congr 1
  omega
 ·simp [execOp,resolve,invoke,builtin,hr.eval hx,hr.eval hy,e0]
end
def SlsAt (F:Nat→Prop) (w:World) (sz:Nat):List Value→List (List Value)→Prop
 | [],[]=>True
 | v::vs,p::ps=>(∃ a m c,v=.slice a m c∧Sl F w sz a m c p)∧SlsAt F w sz vs ps
 | _,_=>False
theorem SlsAt.grow {F:Nat→Prop} {w w':World} {sz:Nat} (g:Grow w w'):∀ {vs:List Value} {ps:List (List Value)},SlsAt F w sz vs ps→SlsAt F w' sz vs ps
 | [],[],_=>trivial
 | [],_::_,h=>h.elim
 | _::_,[],h=>h.elim
 | _::_,_::_,⟨⟨a,m,c,h1,h2⟩,h3⟩=>⟨⟨a,m,c,h1,h2.grow g⟩,SlsAt.grow g h3⟩
theorem SlsAt.at' {F:Nat→Prop} {w:World} {sz:Nat}:∀ {vs:List Value} {ps:List (List Value)} {i:Nat} {p:List Value},SlsAt F w sz vs ps→ps[i]? = some p→∃ a m c,vs[i]? = some (.slice a m c)∧Sl F w sz a m c p
 | [],[],i,p,_,hp=>by simp at hp
 | [],_::_,_,_,h,_=>h.elim
 | _::_,[],_,_,h,_=>h.elim
 | v::vs,q::ps,0,p,⟨⟨a,m,c,h1,h2⟩,h3⟩,hp=>by
  simp only [List.getElem?_cons_zero,Option.some.injEq] at hp;subst hp;exact ⟨a,m,c,by rw [h1];rfl,h2⟩
 | v::vs,q::ps,i+1,p,⟨_,h3⟩,hp=>by
  obtain ⟨a,m,c,q1,q2⟩:=SlsAt.at' h3 (by simpa using hp);exact ⟨a,m,c,by simpa using q1,q2⟩
theorem SlsAt.len {F:Nat→Prop} {w:World} {sz:Nat}:∀ {vs:List Value} {ps:List (List Value)},SlsAt F w sz vs ps→vs.length=ps.length
 | [],[],_=>rfl
 | [],_::_,h=>h.elim
 | _::_,[],h=>h.elim
 | _::_,_::_,⟨_,h3⟩=>by simp [SlsAt.len h3]
def kO (sz:Nat) (ps:List (List Value)) (i:Nat):Nat:=((ps.take i).map λ p=>p.length / sz).sum
theorem mZ {sz:Nat} {ps:List (List Value)} {i:Nat} {p:List Value} (h:ps[i]? = some p):kO sz ps (i+1)=kO sz ps i+p.length / sz:=by
 unfold kO;rw [List.take_add_one,h];simp
theorem upN_le {sz:Nat} {ps:List (List Value)} (i:Nat):kO sz ps i≤kO sz ps ps.length:=by
 have e:(ps.map λ p=>p.length / sz)=((ps.take i).map λ p=>p.length / sz)++((ps.drop i).map λ p=>p.length / sz):=by rw [← List.map_append,List.take_append_drop]
 unfold kO;rw [List.take_length,e,List.sum_append];omega
theorem flatV_take {ps:List (List Value)} {i:Nat} {p:List Value} (h:ps[i]? = some p):(ps.take (i+1)).flatten=(ps.take i).flatten++p:=by
 rw [List.take_add_one,h];simp
def slsF {B:Nat} (sz m:Nat) (ps:List (List Value)):SFact B:={ G:=λ v _ _ w=>∃ a c vs,v=.slice a m c∧Sl (λ _=>True) w 1 a m c vs∧SlsAt (λ _=>True) w sz vs ps,st:=λ v _ _ w w' g h=>by obtain ⟨a,c,vs,h1,h2,h3⟩:=h;exact ⟨a,c,vs,h1,h2.grow g,h3.grow g⟩ }
end Go.V
namespace Go.Proofs.YtfpadnmdafiddaaGreatDoor
open Go Go.RowKit Go.V
theorem grow_i (m:Nat) (hm:m≤1000000) (w:World) :
  Calls Tryz.prog 245 #[.slice none 0 0,.int .i64 (m:Int)] w (Ret λ v w'=>w'.ownsRow w.heap.size 3 1 v 0 []∧Grow w w'):=by
 refine V.calls (args:=[_,_]) Tryz.func245 rfl Tryz.ntmps245 rfl rfl ?_;by_cases h0:m=0
 ·subst h0;repeat (first|refine aF ?_|refine TL.capR rfl rfl ?_)
  exact bA rfl ⟨_,rfl,World.ownsRow_nil _ _ _ _,Grow.refl _⟩
 ·repeat (first|refine aF ?_|refine TL.capR rfl rfl ?_)
  refine TL.slice (F:=λ _=>True) (cs:=[]) (l:=0) (h:=0) (mm:=0) rfl ⟨sM,Nat.le_refl _,Nat.zero_le _,λ _=>rfl,by simp [Row]⟩ (aP _) (bI rfl rfl) (aP 0) (λ h=>by cases h) (Nat.le_refl _) (Nat.le_refl _) (Nat.le_refl _) (Nat.le_refl _) rfl ?_;intro a' _ e0;obtain rfl:=e0.2 rfl;repeat refine aF ?_
  refine TL.appendNil (c:=m) (bytes:=8) rfl rfl oM oM hm rfl ?_;intro b j0 w1 hb f0 i0 g0 a0;repeat refine aF ?_
  refine TL.sliceZ rfl rfl rfl oM rfl ?_;repeat refine aF ?_
  exact bA rfl ⟨_,rfl,a0,f0⟩
theorem concat_i (F:Nat→Prop) (a:Option Addr) (n c:Nat) (vs:List Value) (ps:List (List Value)) (w:World) (hs:Sl F w 1 a n c vs) (hp:SlsAt F w 1 vs ps) (h1:∀ p∈ps,∀ u∈p,u.oneCell'=true) (hn:kO 1 ps ps.length≤1000000) :
  Calls Tryz.prog 201 #[.slice a n c] w (Ret λ v w'=>w'.ownsRow w.heap.size 3 1 v (kO 1 ps ps.length) ps.flatten∧Grow w w'):=by
 have x0:=hs.len;have j1:=hp.len;have v0:=hs.le;refine V.calls (args:=[_]) Tryz.func201 rfl Tryz.ntmps201 rfl rfl ?_;repeat refine aF ?_
 refine aX (S:=Nat) (λ i=>[(11,.int .i64 (i:Int)),(10,.int .i64 (n:Int)),(9,.slice a n c),(3,.int .i64 ((kO 1 ps i:Nat):Int)),(0,.slice a n c)]) (λ i w1=>Grow w w1∧i≤n) (λ i=>n-i) 0 ⟨rfl,rfl,rfl,rfl,rfl,trivial⟩ ⟨Grow.refl _,oM⟩ ?_;rintro i w1 ⟨j0,hi⟩;have l0:=hs.grow j0;have y0:=upN_le (sz:=1) (ps:=ps) i;by_cases m0:i<n
 ·obtain ⟨p,p0⟩:∃ p,ps[i]? = some p:=⟨_,List.getElem?_eq_getElem oM⟩
  obtain ⟨ka,km,kc,g1,s1⟩:=hp.at' p0;have e1:w1.cell? (at' a i)=some (.slice ka km kc):=l0.row.cell g1;have h0:=upN_le (sz:=1) (ps:=ps) (i+1);have u0:=s1.len;have g0:=mZ (sz:=1) p0;have n0:p.length / 1=km:=by omega
  rw [n0] at g0;rw [g0] at h0;repeat (first|(refine aI ?_;refine aC rfl rfl rfl m0 (Nat.mul_one _) ⟨F,_,l0⟩ rfl ?_)|refine yC ?_)
  exact aE (i+1) ⟨rfl,rfl,rfl,by rw [g0];rfl,rfl,trivial⟩ ⟨j0,oM⟩ oM
 obtain rfl:i=n:=by omega
 have q0:i=ps.length:=by omega
 obtain ⟨L,t0⟩:∃ L,L=kO 1 ps i:=⟨_,rfl⟩
 have hL:L=kO 1 ps ps.length:=by rw [t0,q0]
 rw [← hL] at hn y0 ⊢;rw [← t0];repeat refine aF ?_
 refine aB 245 ?_;refine aA rfl (grow_i L hn _) rfl ?_;rintro v w2 ⟨a0,s0⟩;have e0:=eB a0 (show w.heap.size≤w1.heap.size from j0.size);have f0:=j0.trans s0;repeat refine aF ?_
 refine aX (S:=Value×Nat) (λ s=>[(27,.int .i64 (s.2:Int)),(26,.int .i64 (i:Int)),(25,.slice a i c),(6,s.1)]) (λ s w3=>s.2≤i∧w3.ownsRow w.heap.size 3 1 s.1 (kO 1 ps s.2) (ps.take s.2).flatten∧Grow w w3) (λ s=>i-s.2) (v,0) ⟨rfl,rfl,rfl,rfl,trivial⟩ ⟨oM,by simpa [kO] using e0,f0⟩ ?_;clear a0 e0 s0 f0 j0 l0;rintro ⟨v,j⟩ w3 ⟨hj,a0,f0⟩;simp only at hj a0;have f1:=f0.size;have o0:=hs.grow f0;by_cases m0:j<i
 ·obtain ⟨p,k0⟩:∃ p,ps[j]? = some p:=⟨_,List.getElem?_eq_getElem oM⟩
  obtain ⟨ka,km,kc,g1,s1⟩:=hp.at' k0;have e1:w3.cell? (at' a j)=some (.slice ka km kc):=o0.row.cell g1;have h0:=upN_le (sz:=1) (ps:=ps) (j+1);have u0:=s1.len;have g0:=mZ (sz:=1) k0;have n0:p.length / 1=km:=by omega
  rw [n0] at g0;rw [g0,← hL] at h0;repeat (first|(refine aI ?_;refine aC rfl rfl rfl m0 (Nat.mul_one _) ⟨F,_,o0⟩ rfl ?_)|refine yC ?_)
  refine TL.append rfl rfl a0 (s1.grow f0) (h1 p (List.mem_of_getElem? k0)) (by unfold maxLen;omega) oM oM rfl ?_;intro v' w4 i0 z0 _;repeat refine aF ?_
  refine aE (v',j+1) ⟨rfl,rfl,rfl,rfl,trivial⟩ ⟨by simp only;omega,?_,Grow.mk (aL z0 oM (λ k hk=>(aR a0 hk).1) f0.1)⟩ (by simp only;omega);simp only;rw [flatV_take k0,g0];exact i0
 obtain rfl:j=i:=by omega
 rw [q0,List.take_length,← hL] at a0;repeat refine aF ?_
 exact bA rfl ⟨_,rfl,a0,f0⟩
theorem join_i (F:Nat→Prop) (a:Option Addr) (n c:Nat) (vs:List Value) (ps:List (List Value)) (w:World) (hs:Sl F w 1 a n c vs) (hp:SlsAt F w 1 vs ps) (h1:∀ p∈ps,∀ u∈p,u.oneCell'=true) (hn:kO 1 ps ps.length≤1000000) :
  Calls Tryz.prog 160 #[.slice a n c] w (Ret λ v w'=>w'.ownsRow w.heap.size 3 1 v (kO 1 ps ps.length) ps.flatten∧Grow w w'):=by
 refine V.calls (args:=[_]) Tryz.func160 rfl Tryz.ntmps160 rfl rfl ?_;repeat refine dD ?_
 refine aB 201 ?_;refine aA rfl (concat_i F a n c vs ps _ hs hp h1 hn) rfl ?_;rintro v w2 ⟨a0,e0⟩;repeat refine dD ?_
 exact bA rfl ⟨_,rfl,a0,e0⟩
theorem insert_i (F G:Nat→Prop) (a b:Option Addr) (n c m d i:Nat) (cs xs:List Value) (w:World) (hs:Sl F w 1 a n c cs) (hx:Sl G w 1 b m d xs) (h1:∀ u∈cs,u.oneCell'=true) (h2:∀ u∈xs,u.oneCell'=true) (hi:i≤n) (hn:n+m≤1000000) :
  Calls Tryz.prog 96 #[.slice a n c,.int .i64 (i:Int),.slice b m d] w (Ret λ v w'=>w'.ownsRow w.heap.size 3 1 v (n+m) (cs.take (i*1)++xs++cs.drop (i*1))∧Grow w w'):=by
 have h0:=hs.cap;have p0:=hs.len;have x0:=hx.len;refine V.calls (args:=[_,_,_]) Tryz.func96 rfl Tryz.ntmps96 rfl rfl ?_;repeat refine dD ?_
 apply T.any 8 [is (.slice a n c),is (.int .i64 (i:Int)),slF F 1 i c (cs.take (i*1)),is (.slice b m d),is (.slice a n c),is (.int .i64 (i:Int)),slF F 1 (n-i) (c-i) (cs.drop (i*1)),slsF 1 3 [cs.take (i*1),xs,cs.drop (i*1)]]
 ·rfl
 ·repeat' (first|exact aN|refine aK ?_ ?_)
  iterate 2
   ·refine yQ λ wq _ _ e0=>?_;repeat refine dD ?_
    exact aD rfl yG rfl
  ·refine yQ λ wq _ _ e0=>?_;refine TL.slice (l:=0) (h:=i) (mm:=c) rfl (hs.grow e0) (aP _) (bI rfl rfl) (aP c) (λ h=>by cases h) (Nat.zero_le _) hi oM (Nat.le_refl _) rfl ?_;intro a' f0 _;repeat refine dD ?_
   refine aD rfl yG ⟨a',rfl,?_⟩;simpa using f0
  iterate 3
   ·refine yQ λ wq _ _ e0=>?_;repeat refine dD ?_
    exact aD rfl yG rfl
  ·refine yQ λ wq _ _ e0=>?_;refine TL.slice (l:=i) (h:=n) (mm:=c) rfl (hs.grow e0) (bI rfl rfl) (aP _) (aP c) (λ _=>rfl) hi (Nat.le_refl _) h0 (Nat.le_refl _) rfl ?_;intro a' f0 _;repeat refine dD ?_
   refine aD rfl yG ⟨a',rfl,?_⟩;rw [List.take_of_length_le (by rw [List.length_drop];omega)] at f0;exact f0
  ·refine bW rfl rfl rfl ?_;intro wq _ _ e0;refine aJ rfl rfl ?_;intro v1 q1;refine aJ rfl rfl ?_;intro v2 q2;obtain rfl:=q2;refine aJ rfl rfl ?_;intro v3 q3;refine aZ ?_;obtain ⟨a1,rfl,s1⟩:=q1;obtain ⟨a3,rfl,s3⟩:=q3;refine TL.buildSlice rfl rfl rfl rfl rfl ?_;intro b' wa g0 s0 v0 u0 m0;repeat refine dD ?_
   refine aD rfl yG ⟨_,_,_,rfl,(aU (sz:=1) (m:=3) s0 m0 dM).mono (λ _ _=>trivial),⟨_,_,_,rfl,(s1.grow g0).mono (λ _ _=>trivial)⟩,⟨_,_,_,rfl,((hx.grow e0).grow g0).mono (λ _ _=>trivial)⟩,⟨_,_,_,rfl,(s3.grow g0).mono (λ _ _=>trivial)⟩,trivial⟩
 ·intro w6 t0 y0 j0 _ _;iterate 8 (refine aJ rfl rfl ?_;intro vq i0;try (obtain rfl:=i0))
  refine aZ ?_;obtain ⟨a6,c6,k0,rfl,n0,o0⟩:=i0
  have l0:kO 1 [cs.take (i*1),xs,cs.drop (i*1)] 3=n+m:=by
   simp only [kO,List.take_succ_cons,List.take_zero,List.map_cons,List.map_nil,List.sum_cons,List.sum_nil,List.length_take,List.length_drop];omega
  refine aB 160 ?_
  refine aA rfl (join_i _ a6 3 c6 k0 [cs.take (i*1),xs,cs.drop (i*1)] _ n0 o0 (by
   intro p hp u hu;simp only [List.mem_cons,List.not_mem_nil,or_false] at hp;rcases hp with rfl|rfl|rfl
   ·exact h1 u (List.mem_of_mem_take hu)
   ·exact h2 u hu
   ·exact h1 u (List.mem_of_mem_drop hu)) (by show kO _ _ 3≤_;omega)) rfl ?_
  rintro v w7 ⟨a0,q0⟩;rw [show ([cs.take (i*1),xs,cs.drop (i*1)]:List (List Value)).length=3 from rfl,l0] at a0;rw [show ([cs.take (i*1),xs,cs.drop (i*1)]:List (List Value)).flatten=cs.take (i*1)++xs++cs.drop (i*1) by simp] at a0;repeat refine dD ?_
  exact bA rfl ⟨_,rfl,eB a0 j0.size,j0.trans q0⟩
theorem cut_i (F:Nat→Prop) (a:Option Addr) (n c i j:Nat) (cs:List Value) (w:World) (hs:Sl F w 1 a n c cs) (h1:∀ u∈cs,u.oneCell'=true) (x0:i≤j) (hj:j≤n) (hn:n≤1000000) :
  Calls Tryz.prog 97 #[.slice a n c,.int .i64 (i:Int),.int .i64 (j:Int)] w (Ret λ v w'=>w'.ownsRow w.heap.size 3 1 v (n-(j-i)) (cs.take (i*1)++cs.drop (j*1))∧Grow w w'):=by
 have g0:=hs.cap;have p0:=hs.len;refine V.calls (args:=[_,_,_]) Tryz.func97 rfl Tryz.ntmps97 rfl rfl ?_;repeat refine dD ?_
 apply T.any 7 [is (.slice a n c),is (.int .i64 (i:Int)),slF F 1 i c (cs.take (i*1)),is (.slice a n c),is (.int .i64 (j:Int)),slF F 1 (n-j) (c-j) (cs.drop (j*1)),slsF 1 2 [cs.take (i*1),cs.drop (j*1)]]
 ·rfl
 ·repeat' (first|exact aN|refine aK ?_ ?_)
  iterate 2
   ·refine yQ λ wq _ _ e0=>?_;repeat refine dD ?_
    exact aD rfl yG rfl
  ·refine yQ λ wq _ _ e0=>?_;refine TL.slice (l:=0) (h:=i) (mm:=c) rfl (hs.grow e0) (aP _) (bI rfl rfl) (aP c) (λ h=>by cases h) (Nat.zero_le _) oM oM (Nat.le_refl _) rfl ?_;intro a' f0 _;repeat refine dD ?_
   refine aD rfl yG ⟨a',rfl,?_⟩;simpa using f0
  iterate 2
   ·refine yQ λ wq _ _ e0=>?_;repeat refine dD ?_
    exact aD rfl yG rfl
  ·refine yQ λ wq _ _ e0=>?_;refine TL.slice (l:=j) (h:=n) (mm:=c) rfl (hs.grow e0) (bI rfl rfl) (aP _) (aP c) (λ _=>rfl) hj (Nat.le_refl _) g0 (Nat.le_refl _) rfl ?_;intro a' f0 _;repeat refine dD ?_
   refine aD rfl yG ⟨a',rfl,?_⟩;rw [List.take_of_length_le (by rw [List.length_drop];omega)] at f0;exact f0
  ·refine bW rfl rfl rfl ?_;intro wq _ _ e0;refine aJ rfl rfl ?_;intro v1 q1;refine aJ rfl rfl ?_;intro v3 q3;refine aZ ?_;obtain ⟨a1,rfl,s1⟩:=q1;obtain ⟨a3,rfl,s3⟩:=q3;refine TL.buildSlice rfl rfl rfl rfl rfl ?_;intro b' wa i0 s0 v0 u0 m0;repeat refine dD ?_
   refine aD rfl yG ⟨_,_,_,rfl,(aU (sz:=1) (m:=2) s0 m0 dM).mono (λ _ _=>trivial),⟨_,_,_,rfl,(s1.grow i0).mono (λ _ _=>trivial)⟩,⟨_,_,_,rfl,(s3.grow i0).mono (λ _ _=>trivial)⟩,trivial⟩
 ·intro w6 t0 y0 j0 _ _;iterate 7 (refine aJ rfl rfl ?_;intro vq h0;try (obtain rfl:=h0))
  refine aZ ?_;obtain ⟨a6,c6,k0,rfl,n0,o0⟩:=h0
  have l0:kO 1 [cs.take (i*1),cs.drop (j*1)] 2=n-(j-i):=by
   simp only [kO,List.take_succ_cons,List.take_zero,List.map_cons,List.map_nil,List.sum_cons,List.sum_nil,List.length_take,List.length_drop];omega
  refine aB 160 ?_
  refine aA rfl (join_i _ a6 2 c6 k0 [cs.take (i*1),cs.drop (j*1)] _ n0 o0 (by
   intro p hp u hu;simp only [List.mem_cons,List.not_mem_nil,or_false] at hp;rcases hp with rfl|rfl
   ·exact h1 u (List.mem_of_mem_take hu)
   ·exact h1 u (List.mem_of_mem_drop hu)) (by show kO _ _ 2≤_;omega)) rfl ?_
  rintro v w7 ⟨a0,q0⟩;rw [show ([cs.take (i*1),cs.drop (j*1)]:List (List Value)).length=2 from rfl,l0] at a0;rw [show ([cs.take (i*1),cs.drop (j*1)]:List (List Value)).flatten=cs.take (i*1)++cs.drop (j*1) by simp] at a0;repeat refine dD ?_
  exact bA rfl ⟨_,rfl,eB a0 j0.size,j0.trans q0⟩
theorem grow_k (m:Nat) (hm:m≤1000000) (w:World) :
  Calls Tryz.prog 246 #[.slice none 0 0,.int .i64 (m:Int)] w (Ret λ v w'=>w'.ownsRow w.heap.size 30 1 v 0 []∧Grow w w'):=by
 refine V.calls (args:=[_,_]) Tryz.func246 rfl Tryz.ntmps246 rfl rfl ?_;by_cases h0:m=0
 ·subst h0;repeat (first|refine aF ?_|refine TL.capR rfl rfl ?_)
  exact bA rfl ⟨_,rfl,World.ownsRow_nil _ _ _ _,Grow.refl _⟩
 ·repeat (first|refine aF ?_|refine TL.capR rfl rfl ?_)
  refine TL.slice (F:=λ _=>True) (cs:=[]) (l:=0) (h:=0) (mm:=0) rfl ⟨sM,Nat.le_refl _,Nat.zero_le _,λ _=>rfl,by simp [Row]⟩ (aP _) (bI rfl rfl) (aP 0) (λ h=>by cases h) (Nat.le_refl _) (Nat.le_refl _) (Nat.le_refl _) (Nat.le_refl _) rfl ?_;intro a' _ e0;obtain rfl:=e0.2 rfl;repeat refine aF ?_
  refine TL.appendNil (c:=m) (bytes:=24) rfl rfl oM oM hm rfl ?_;intro b j0 w1 hb f0 i0 g0 a0;repeat refine aF ?_
  refine TL.sliceZ rfl rfl rfl oM rfl ?_;repeat refine aF ?_
  exact bA rfl ⟨_,rfl,a0,f0⟩
theorem concat_k (F:Nat→Prop) (a:Option Addr) (n c:Nat) (vs:List Value) (ps:List (List Value)) (w:World) (hs:Sl F w 1 a n c vs) (hp:SlsAt F w 1 vs ps) (h1:∀ p∈ps,∀ u∈p,u.oneCell'=true) (hn:kO 1 ps ps.length≤1000000) :
  Calls Tryz.prog 202 #[.slice a n c] w (Ret λ v w'=>w'.ownsRow w.heap.size 30 1 v (kO 1 ps ps.length) ps.flatten∧Grow w w'):=by
 have x0:=hs.len;have j1:=hp.len;have v0:=hs.le;refine V.calls (args:=[_]) Tryz.func202 rfl Tryz.ntmps202 rfl rfl ?_;repeat refine aF ?_
 refine aX (S:=Nat) (λ i=>[(11,.int .i64 (i:Int)),(10,.int .i64 (n:Int)),(9,.slice a n c),(3,.int .i64 ((kO 1 ps i:Nat):Int)),(0,.slice a n c)]) (λ i w1=>Grow w w1∧i≤n) (λ i=>n-i) 0 ⟨rfl,rfl,rfl,rfl,rfl,trivial⟩ ⟨Grow.refl _,oM⟩ ?_;rintro i w1 ⟨j0,hi⟩;have l0:=hs.grow j0;have y0:=upN_le (sz:=1) (ps:=ps) i;by_cases m0:i<n
 ·obtain ⟨p,p0⟩:∃ p,ps[i]? = some p:=⟨_,List.getElem?_eq_getElem oM⟩
  obtain ⟨ka,km,kc,g1,s1⟩:=hp.at' p0;have e1:w1.cell? (at' a i)=some (.slice ka km kc):=l0.row.cell g1;have h0:=upN_le (sz:=1) (ps:=ps) (i+1);have u0:=s1.len;have g0:=mZ (sz:=1) p0;have n0:p.length / 1=km:=by omega
  rw [n0] at g0;rw [g0] at h0;repeat (first|(refine aI ?_;refine aC rfl rfl rfl m0 (Nat.mul_one _) ⟨F,_,l0⟩ rfl ?_)|refine yC ?_)
  exact aE (i+1) ⟨rfl,rfl,rfl,by rw [g0];rfl,rfl,trivial⟩ ⟨j0,oM⟩ oM
 obtain rfl:i=n:=by omega
 have q0:i=ps.length:=by omega
 obtain ⟨L,t0⟩:∃ L,L=kO 1 ps i:=⟨_,rfl⟩
 have hL:L=kO 1 ps ps.length:=by rw [t0,q0]
 rw [← hL] at hn y0 ⊢;rw [← t0];repeat refine aF ?_
 refine aB 246 ?_;refine aA rfl (grow_k L hn _) rfl ?_;rintro v w2 ⟨a0,s0⟩;have e0:=eB a0 (show w.heap.size≤w1.heap.size from j0.size);have f0:=j0.trans s0;repeat refine aF ?_
 refine aX (S:=Value×Nat) (λ s=>[(27,.int .i64 (s.2:Int)),(26,.int .i64 (i:Int)),(25,.slice a i c),(6,s.1)]) (λ s w3=>s.2≤i∧w3.ownsRow w.heap.size 30 1 s.1 (kO 1 ps s.2) (ps.take s.2).flatten∧Grow w w3) (λ s=>i-s.2) (v,0) ⟨rfl,rfl,rfl,rfl,trivial⟩ ⟨oM,by simpa [kO] using e0,f0⟩ ?_;clear a0 e0 s0 f0 j0 l0;rintro ⟨v,j⟩ w3 ⟨hj,a0,f0⟩;simp only at hj a0;have f1:=f0.size;have o0:=hs.grow f0;by_cases m0:j<i
 ·obtain ⟨p,k0⟩:∃ p,ps[j]? = some p:=⟨_,List.getElem?_eq_getElem oM⟩
  obtain ⟨ka,km,kc,g1,s1⟩:=hp.at' k0;have e1:w3.cell? (at' a j)=some (.slice ka km kc):=o0.row.cell g1;have h0:=upN_le (sz:=1) (ps:=ps) (j+1);have u0:=s1.len;have g0:=mZ (sz:=1) k0;have n0:p.length / 1=km:=by omega
  rw [n0] at g0;rw [g0,← hL] at h0;repeat (first|(refine aI ?_;refine aC rfl rfl rfl m0 (Nat.mul_one _) ⟨F,_,o0⟩ rfl ?_)|refine yC ?_)
  refine TL.append rfl rfl a0 (s1.grow f0) (h1 p (List.mem_of_getElem? k0)) (by unfold maxLen;omega) oM oM rfl ?_;intro v' w4 i0 z0 _;repeat refine aF ?_
  refine aE (v',j+1) ⟨rfl,rfl,rfl,rfl,trivial⟩ ⟨by simp only;omega,?_,Grow.mk (aL z0 oM (λ k hk=>(aR a0 hk).1) f0.1)⟩ (by simp only;omega);simp only;rw [flatV_take k0,g0];exact i0
 obtain rfl:j=i:=by omega
 rw [q0,List.take_length,← hL] at a0;repeat refine aF ?_
 exact bA rfl ⟨_,rfl,a0,f0⟩
theorem join_k (F:Nat→Prop) (a:Option Addr) (n c:Nat) (vs:List Value) (ps:List (List Value)) (w:World) (hs:Sl F w 1 a n c vs) (hp:SlsAt F w 1 vs ps) (h1:∀ p∈ps,∀ u∈p,u.oneCell'=true) (hn:kO 1 ps ps.length≤1000000) :
  Calls Tryz.prog 161 #[.slice a n c] w (Ret λ v w'=>w'.ownsRow w.heap.size 30 1 v (kO 1 ps ps.length) ps.flatten∧Grow w w'):=by
 refine V.calls (args:=[_]) Tryz.func161 rfl Tryz.ntmps161 rfl rfl ?_;repeat refine dD ?_
 refine aB 202 ?_;refine aA rfl (concat_k F a n c vs ps _ hs hp h1 hn) rfl ?_;rintro v w2 ⟨a0,e0⟩;repeat refine dD ?_
 exact bA rfl ⟨_,rfl,a0,e0⟩
theorem insert_k (F G:Nat→Prop) (a b:Option Addr) (n c m d i:Nat) (cs xs:List Value) (w:World) (hs:Sl F w 1 a n c cs) (hx:Sl G w 1 b m d xs) (h1:∀ u∈cs,u.oneCell'=true) (h2:∀ u∈xs,u.oneCell'=true) (hi:i≤n) (hn:n+m≤1000000) :
  Calls Tryz.prog 98 #[.slice a n c,.int .i64 (i:Int),.slice b m d] w (Ret λ v w'=>w'.ownsRow w.heap.size 30 1 v (n+m) (cs.take (i*1)++xs++cs.drop (i*1))∧Grow w w'):=by
 have h0:=hs.cap;have p0:=hs.len;have x0:=hx.len;refine V.calls (args:=[_,_,_]) Tryz.func98 rfl Tryz.ntmps98 rfl rfl ?_;repeat refine dD ?_
 apply T.any 8 [is (.slice a n c),is (.int .i64 (i:Int)),slF F 1 i c (cs.take (i*1)),is (.slice b m d),is (.slice a n c),is (.int .i64 (i:Int)),slF F 1 (n-i) (c-i) (cs.drop (i*1)),slsF 1 3 [cs.take (i*1),xs,cs.drop (i*1)]]
 ·rfl
 ·repeat' (first|exact aN|refine aK ?_ ?_)
  iterate 2
   ·refine yQ λ wq _ _ e0=>?_;repeat refine dD ?_
    exact aD rfl yG rfl
  ·refine yQ λ wq _ _ e0=>?_;refine TL.slice (l:=0) (h:=i) (mm:=c) rfl (hs.grow e0) (aP _) (bI rfl rfl) (aP c) (λ h=>by cases h) (Nat.zero_le _) hi oM (Nat.le_refl _) rfl ?_;intro a' f0 _;repeat refine dD ?_
   refine aD rfl yG ⟨a',rfl,?_⟩;simpa using f0
  iterate 3
   ·refine yQ λ wq _ _ e0=>?_;repeat refine dD ?_
    exact aD rfl yG rfl
  ·refine yQ λ wq _ _ e0=>?_;refine TL.slice (l:=i) (h:=n) (mm:=c) rfl (hs.grow e0) (bI rfl rfl) (aP _) (aP c) (λ _=>rfl) hi (Nat.le_refl _) h0 (Nat.le_refl _) rfl ?_;intro a' f0 _;repeat refine dD ?_
   refine aD rfl yG ⟨a',rfl,?_⟩;rw [List.take_of_length_le (by rw [List.length_drop];omega)] at f0;exact f0
  ·refine bW rfl rfl rfl ?_;intro wq _ _ e0;refine aJ rfl rfl ?_;intro v1 q1;refine aJ rfl rfl ?_;intro v2 q2;obtain rfl:=q2;refine aJ rfl rfl ?_;intro v3 q3;refine aZ ?_;obtain ⟨a1,rfl,s1⟩:=q1;obtain ⟨a3,rfl,s3⟩:=q3;refine TL.buildSlice rfl rfl rfl rfl rfl ?_;intro b' wa g0 s0 v0 u0 m0;repeat refine dD ?_
   refine aD rfl yG ⟨_,_,_,rfl,(aU (sz:=1) (m:=3) s0 m0 dM).mono (λ _ _=>trivial),⟨_,_,_,rfl,(s1.grow g0).mono (λ _ _=>trivial)⟩,⟨_,_,_,rfl,((hx.grow e0).grow g0).mono (λ _ _=>trivial)⟩,⟨_,_,_,rfl,(s3.grow g0).mono (λ _ _=>trivial)⟩,trivial⟩
 ·intro w6 t0 y0 j0 _ _;iterate 8 (refine aJ rfl rfl ?_;intro vq i0;try (obtain rfl:=i0))
  refine aZ ?_;obtain ⟨a6,c6,k0,rfl,n0,o0⟩:=i0
  have l0:kO 1 [cs.take (i*1),xs,cs.drop (i*1)] 3=n+m:=by
   simp only [kO,List.take_succ_cons,List.take_zero,List.map_cons,List.map_nil,List.sum_cons,List.sum_nil,List.length_take,List.length_drop];omega
  refine aB 161 ?_
  refine aA rfl (join_k _ a6 3 c6 k0 [cs.take (i*1),xs,cs.drop (i*1)] _ n0 o0 (by
   intro p hp u hu;simp only [List.mem_cons,List.not_mem_nil,or_false] at hp;rcases hp with rfl|rfl|rfl
   ·exact h1 u (List.mem_of_mem_take hu)
   ·exact h2 u hu
   ·exact h1 u (List.mem_of_mem_drop hu)) (by show kO _ _ 3≤_;omega)) rfl ?_
  rintro v w7 ⟨a0,q0⟩;rw [show ([cs.take (i*1),xs,cs.drop (i*1)]:List (List Value)).length=3 from rfl,l0] at a0;rw [show ([cs.take (i*1),xs,cs.drop (i*1)]:List (List Value)).flatten=cs.take (i*1)++xs++cs.drop (i*1) by simp] at a0;repeat refine dD ?_
  exact bA rfl ⟨_,rfl,eB a0 j0.size,j0.trans q0⟩
theorem cut_k (F:Nat→Prop) (a:Option Addr) (n c i j:Nat) (cs:List Value) (w:World) (hs:Sl F w 1 a n c cs) (h1:∀ u∈cs,u.oneCell'=true) (x0:i≤j) (hj:j≤n) (hn:n≤1000000) :
  Calls Tryz.prog 194 #[.slice a n c,.int .i64 (i:Int),.int .i64 (j:Int)] w (Ret λ v w'=>w'.ownsRow w.heap.size 30 1 v (n-(j-i)) (cs.take (i*1)++cs.drop (j*1))∧Grow w w'):=by
 have g0:=hs.cap;have p0:=hs.len;refine V.calls (args:=[_,_,_]) Tryz.func194 rfl Tryz.ntmps194 rfl rfl ?_;repeat refine dD ?_
 apply T.any 7 [is (.slice a n c),is (.int .i64 (i:Int)),slF F 1 i c (cs.take (i*1)),is (.slice a n c),is (.int .i64 (j:Int)),slF F 1 (n-j) (c-j) (cs.drop (j*1)),slsF 1 2 [cs.take (i*1),cs.drop (j*1)]]
 ·rfl
 ·repeat' (first|exact aN|refine aK ?_ ?_)
  iterate 2
   ·refine yQ λ wq _ _ e0=>?_;repeat refine dD ?_
    exact aD rfl yG rfl
  ·refine yQ λ wq _ _ e0=>?_;refine TL.slice (l:=0) (h:=i) (mm:=c) rfl (hs.grow e0) (aP _) (bI rfl rfl) (aP c) (λ h=>by cases h) (Nat.zero_le _) oM oM (Nat.le_refl _) rfl ?_;intro a' f0 _;repeat refine dD ?_
   refine aD rfl yG ⟨a',rfl,?_⟩;simpa using f0
  iterate 2
   ·refine yQ λ wq _ _ e0=>?_;repeat refine dD ?_
    exact aD rfl yG rfl
  ·refine yQ λ wq _ _ e0=>?_;refine TL.slice (l:=j) (h:=n) (mm:=c) rfl (hs.grow e0) (bI rfl rfl) (aP _) (aP c) (λ _=>rfl) hj (Nat.le_refl _) g0 (Nat.le_refl _) rfl ?_;intro a' f0 _;repeat refine dD ?_
   refine aD rfl yG ⟨a',rfl,?_⟩;rw [List.take_of_length_le (by rw [List.length_drop];omega)] at f0;exact f0
  ·refine bW rfl rfl rfl ?_;intro wq _ _ e0;refine aJ rfl rfl ?_;intro v1 q1;refine aJ rfl rfl ?_;intro v3 q3;refine aZ ?_;obtain ⟨a1,rfl,s1⟩:=q1;obtain ⟨a3,rfl,s3⟩:=q3;refine TL.buildSlice rfl rfl rfl rfl rfl ?_;intro b' wa i0 s0 v0 u0 m0;repeat refine dD ?_
   refine aD rfl yG ⟨_,_,_,rfl,(aU (sz:=1) (m:=2) s0 m0 dM).mono (λ _ _=>trivial),⟨_,_,_,rfl,(s1.grow i0).mono (λ _ _=>trivial)⟩,⟨_,_,_,rfl,(s3.grow i0).mono (λ _ _=>trivial)⟩,trivial⟩
 ·intro w6 t0 y0 j0 _ _;iterate 7 (refine aJ rfl rfl ?_;intro vq h0;try (obtain rfl:=h0))
  refine aZ ?_;obtain ⟨a6,c6,k0,rfl,n0,o0⟩:=h0
  have l0:kO 1 [cs.take (i*1),cs.drop (j*1)] 2=n-(j-i):=by
   simp only [kO,List.take_succ_cons,List.take_zero,List.map_cons,List.map_nil,List.sum_cons,List.sum_nil,List.length_take,List.length_drop];omega
  refine aB 161 ?_
  refine aA rfl (join_k _ a6 2 c6 k0 [cs.take (i*1),cs.drop (j*1)] _ n0 o0 (by
   intro p hp u hu;simp only [List.mem_cons,List.not_mem_nil,or_false] at hp;rcases hp with rfl|rfl
   ·exact h1 u (List.mem_of_mem_take hu)
   ·exact h1 u (List.mem_of_mem_drop hu)) (by show kO _ _ 2≤_;omega)) rfl ?_
  rintro v w7 ⟨a0,q0⟩;rw [show ([cs.take (i*1),cs.drop (j*1)]:List (List Value)).length=2 from rfl,l0] at a0;rw [show ([cs.take (i*1),cs.drop (j*1)]:List (List Value)).flatten=cs.take (i*1)++cs.drop (j*1) by simp] at a0;repeat refine dD ?_
  exact bA rfl ⟨_,rfl,eB a0 j0.size,j0.trans q0⟩
theorem grow_t (m:Nat) (hm:m≤1000000) (w:World) :
  Calls Tryz.prog 231 #[.slice none 0 0,.int .i64 (m:Int)] w (Ret λ v w'=>w'.ownsRow w.heap.size 58 2 v 0 []∧Grow w w'):=by
 refine V.calls (args:=[_,_]) Tryz.func231 rfl Tryz.ntmps231 rfl rfl ?_;by_cases h0:m=0
 ·subst h0;repeat (first|refine aF ?_|refine TL.capR rfl rfl ?_)
  exact bA rfl ⟨_,rfl,World.ownsRow_nil _ _ _ _,Grow.refl _⟩
 ·repeat (first|refine aF ?_|refine TL.capR rfl rfl ?_)
  refine TL.slice (F:=λ _=>True) (cs:=[]) (l:=0) (h:=0) (mm:=0) rfl ⟨sM,Nat.le_refl _,Nat.zero_le _,λ _=>rfl,by simp [Row]⟩ (aP _) (bI rfl rfl) (aP 0) (λ h=>by cases h) (Nat.le_refl _) (Nat.le_refl _) (Nat.le_refl _) (Nat.le_refl _) rfl ?_;intro a' _ e0;obtain rfl:=e0.2 rfl;repeat refine aF ?_
  refine TL.appendNil (c:=m) (bytes:=48) rfl rfl oM oM hm rfl ?_;intro b j0 w1 hb f0 i0 g0 a0;repeat refine aF ?_
  refine TL.sliceZ rfl rfl rfl oM rfl ?_;repeat refine aF ?_
  exact bA rfl ⟨_,rfl,a0,f0⟩
theorem concat_t (F:Nat→Prop) (a:Option Addr) (n c:Nat) (vs:List Value) (ps:List (List Value)) (w:World) (hs:Sl F w 1 a n c vs) (hp:SlsAt F w 2 vs ps) (h1:∀ p∈ps,∀ u∈p,u.oneCell'=true) (hn:kO 2 ps ps.length≤1000000) :
  Calls Tryz.prog 190 #[.slice a n c] w (Ret λ v w'=>w'.ownsRow w.heap.size 58 2 v (kO 2 ps ps.length) ps.flatten∧Grow w w'):=by
 have x0:=hs.len;have j1:=hp.len;have v0:=hs.le;refine V.calls (args:=[_]) Tryz.func190 rfl Tryz.ntmps190 rfl rfl ?_;repeat refine aF ?_
 refine aX (S:=Nat) (λ i=>[(11,.int .i64 (i:Int)),(10,.int .i64 (n:Int)),(9,.slice a n c),(3,.int .i64 ((kO 2 ps i:Nat):Int)),(0,.slice a n c)]) (λ i w1=>Grow w w1∧i≤n) (λ i=>n-i) 0 ⟨rfl,rfl,rfl,rfl,rfl,trivial⟩ ⟨Grow.refl _,oM⟩ ?_;rintro i w1 ⟨j0,hi⟩;have l0:=hs.grow j0;have y0:=upN_le (sz:=2) (ps:=ps) i;by_cases m0:i<n
 ·obtain ⟨p,p0⟩:∃ p,ps[i]? = some p:=⟨_,List.getElem?_eq_getElem oM⟩
  obtain ⟨ka,km,kc,g1,s1⟩:=hp.at' p0;have e1:w1.cell? (at' a i)=some (.slice ka km kc):=l0.row.cell g1;have h0:=upN_le (sz:=2) (ps:=ps) (i+1);have u0:=s1.len;have g0:=mZ (sz:=2) p0;have n0:p.length / 2=km:=by omega
  rw [n0] at g0;rw [g0] at h0;repeat (first|(refine aI ?_;refine aC rfl rfl rfl m0 (Nat.mul_one _) ⟨F,_,l0⟩ rfl ?_)|refine yC ?_)
  exact aE (i+1) ⟨rfl,rfl,rfl,by rw [g0];rfl,rfl,trivial⟩ ⟨j0,oM⟩ oM
 obtain rfl:i=n:=by omega
 have q0:i=ps.length:=by omega
 obtain ⟨L,t0⟩:∃ L,L=kO 2 ps i:=⟨_,rfl⟩
 have hL:L=kO 2 ps ps.length:=by rw [t0,q0]
 rw [← hL] at hn y0 ⊢;rw [← t0];repeat refine aF ?_
 refine aB 231 ?_;refine aA rfl (grow_t L hn _) rfl ?_;rintro v w2 ⟨a0,s0⟩;have e0:=eB a0 (show w.heap.size≤w1.heap.size from j0.size);have f0:=j0.trans s0;repeat refine aF ?_
 refine aX (S:=Value×Nat) (λ s=>[(27,.int .i64 (s.2:Int)),(26,.int .i64 (i:Int)),(25,.slice a i c),(6,s.1)]) (λ s w3=>s.2≤i∧w3.ownsRow w.heap.size 58 2 s.1 (kO 2 ps s.2) (ps.take s.2).flatten∧Grow w w3) (λ s=>i-s.2) (v,0) ⟨rfl,rfl,rfl,rfl,trivial⟩ ⟨oM,by simpa [kO] using e0,f0⟩ ?_;clear a0 e0 s0 f0 j0 l0;rintro ⟨v,j⟩ w3 ⟨hj,a0,f0⟩;simp only at hj a0;have f1:=f0.size;have o0:=hs.grow f0;by_cases m0:j<i
 ·obtain ⟨p,k0⟩:∃ p,ps[j]? = some p:=⟨_,List.getElem?_eq_getElem oM⟩
  obtain ⟨ka,km,kc,g1,s1⟩:=hp.at' k0;have e1:w3.cell? (at' a j)=some (.slice ka km kc):=o0.row.cell g1;have h0:=upN_le (sz:=2) (ps:=ps) (j+1);have u0:=s1.len;have g0:=mZ (sz:=2) k0;have n0:p.length / 2=km:=by omega
  rw [n0] at g0;rw [g0,← hL] at h0;repeat (first|(refine aI ?_;refine aC rfl rfl rfl m0 (Nat.mul_one _) ⟨F,_,o0⟩ rfl ?_)|refine yC ?_)
  refine TL.append rfl rfl a0 (s1.grow f0) (h1 p (List.mem_of_getElem? k0)) (by unfold maxLen;omega) oM oM rfl ?_;intro v' w4 i0 z0 _;repeat refine aF ?_
  refine aE (v',j+1) ⟨rfl,rfl,rfl,rfl,trivial⟩ ⟨by simp only;omega,?_,Grow.mk (aL z0 oM (λ k hk=>(aR a0 hk).1) f0.1)⟩ (by simp only;omega);simp only;rw [flatV_take k0,g0];exact i0
 obtain rfl:j=i:=by omega
 rw [q0,List.take_length,← hL] at a0;repeat refine aF ?_
 exact bA rfl ⟨_,rfl,a0,f0⟩
theorem join_t (F:Nat→Prop) (a:Option Addr) (n c:Nat) (vs:List Value) (ps:List (List Value)) (w:World) (hs:Sl F w 1 a n c vs) (hp:SlsAt F w 2 vs ps) (h1:∀ p∈ps,∀ u∈p,u.oneCell'=true) (hn:kO 2 ps ps.length≤1000000) :
  Calls Tryz.prog 152 #[.slice a n c] w (Ret λ v w'=>w'.ownsRow w.heap.size 58 2 v (kO 2 ps ps.length) ps.flatten∧Grow w w'):=by
 refine V.calls (args:=[_]) Tryz.func152 rfl Tryz.ntmps152 rfl rfl ?_;repeat refine dD ?_
 refine aB 190 ?_;refine aA rfl (concat_t F a n c vs ps _ hs hp h1 hn) rfl ?_;rintro v w2 ⟨a0,e0⟩;repeat refine dD ?_
 exact bA rfl ⟨_,rfl,a0,e0⟩
theorem insert_t (F G:Nat→Prop) (a b:Option Addr) (n c m d i:Nat) (cs xs:List Value) (w:World) (hs:Sl F w 2 a n c cs) (hx:Sl G w 2 b m d xs) (h1:∀ u∈cs,u.oneCell'=true) (h2:∀ u∈xs,u.oneCell'=true) (hi:i≤n) (hn:n+m≤1000000) :
  Calls Tryz.prog 99 #[.slice a n c,.int .i64 (i:Int),.slice b m d] w (Ret λ v w'=>w'.ownsRow w.heap.size 58 2 v (n+m) (cs.take (i*2)++xs++cs.drop (i*2))∧Grow w w'):=by
 have h0:=hs.cap;have p0:=hs.len;have x0:=hx.len;refine V.calls (args:=[_,_,_]) Tryz.func99 rfl Tryz.ntmps99 rfl rfl ?_;repeat refine dD ?_
 apply T.any 8 [is (.slice a n c),is (.int .i64 (i:Int)),slF F 2 i c (cs.take (i*2)),is (.slice b m d),is (.slice a n c),is (.int .i64 (i:Int)),slF F 2 (n-i) (c-i) (cs.drop (i*2)),slsF 2 3 [cs.take (i*2),xs,cs.drop (i*2)]]
 ·rfl
 ·repeat' (first|exact aN|refine aK ?_ ?_)
  iterate 2
   ·refine yQ λ wq _ _ e0=>?_;repeat refine dD ?_
    exact aD rfl yG rfl
  ·refine yQ λ wq _ _ e0=>?_;refine TL.slice (l:=0) (h:=i) (mm:=c) rfl (hs.grow e0) (aP _) (bI rfl rfl) (aP c) (λ h=>by cases h) (Nat.zero_le _) hi oM (Nat.le_refl _) rfl ?_;intro a' f0 _;repeat refine dD ?_
   refine aD rfl yG ⟨a',rfl,?_⟩;simpa using f0
  iterate 3
   ·refine yQ λ wq _ _ e0=>?_;repeat refine dD ?_
    exact aD rfl yG rfl
  ·refine yQ λ wq _ _ e0=>?_;refine TL.slice (l:=i) (h:=n) (mm:=c) rfl (hs.grow e0) (bI rfl rfl) (aP _) (aP c) (λ _=>rfl) hi (Nat.le_refl _) h0 (Nat.le_refl _) rfl ?_;intro a' f0 _;repeat refine dD ?_
   refine aD rfl yG ⟨a',rfl,?_⟩;rw [List.take_of_length_le (by rw [List.length_drop];omega)] at f0;exact f0
  ·refine bW rfl rfl rfl ?_;intro wq _ _ e0;refine aJ rfl rfl ?_;intro v1 q1;refine aJ rfl rfl ?_;intro v2 q2;obtain rfl:=q2;refine aJ rfl rfl ?_;intro v3 q3;refine aZ ?_;obtain ⟨a1,rfl,s1⟩:=q1;obtain ⟨a3,rfl,s3⟩:=q3;refine TL.buildSlice rfl rfl rfl rfl rfl ?_;intro b' wa g0 s0 v0 u0 m0;repeat refine dD ?_
   refine aD rfl yG ⟨_,_,_,rfl,(aU (sz:=1) (m:=3) s0 m0 dM).mono (λ _ _=>trivial),⟨_,_,_,rfl,(s1.grow g0).mono (λ _ _=>trivial)⟩,⟨_,_,_,rfl,((hx.grow e0).grow g0).mono (λ _ _=>trivial)⟩,⟨_,_,_,rfl,(s3.grow g0).mono (λ _ _=>trivial)⟩,trivial⟩
 ·intro w6 t0 y0 j0 _ _;iterate 8 (refine aJ rfl rfl ?_;intro vq i0;try (obtain rfl:=i0))
  refine aZ ?_;obtain ⟨a6,c6,k0,rfl,n0,o0⟩:=i0
  have l0:kO 2 [cs.take (i*2),xs,cs.drop (i*2)] 3=n+m:=by
   simp only [kO,List.take_succ_cons,List.take_zero,List.map_cons,List.map_nil,List.sum_cons,List.sum_nil,List.length_take,List.length_drop];omega
  refine aB 152 ?_
  refine aA rfl (join_t _ a6 3 c6 k0 [cs.take (i*2),xs,cs.drop (i*2)] _ n0 o0 (by
   intro p hp u hu;simp only [List.mem_cons,List.not_mem_nil,or_false] at hp;rcases hp with rfl|rfl|rfl
   ·exact h1 u (List.mem_of_mem_take hu)
   ·exact h2 u hu
   ·exact h1 u (List.mem_of_mem_drop hu)) (by show kO _ _ 3≤_;omega)) rfl ?_
  rintro v w7 ⟨a0,q0⟩;rw [show ([cs.take (i*2),xs,cs.drop (i*2)]:List (List Value)).length=3 from rfl,l0] at a0;rw [show ([cs.take (i*2),xs,cs.drop (i*2)]:List (List Value)).flatten=cs.take (i*2)++xs++cs.drop (i*2) by simp] at a0;repeat refine dD ?_
  exact bA rfl ⟨_,rfl,eB a0 j0.size,j0.trans q0⟩
theorem cut_t (F:Nat→Prop) (a:Option Addr) (n c i j:Nat) (cs:List Value) (w:World) (hs:Sl F w 2 a n c cs) (h1:∀ u∈cs,u.oneCell'=true) (x0:i≤j) (hj:j≤n) (hn:n≤1000000) :
  Calls Tryz.prog 81 #[.slice a n c,.int .i64 (i:Int),.int .i64 (j:Int)] w (Ret λ v w'=>w'.ownsRow w.heap.size 58 2 v (n-(j-i)) (cs.take (i*2)++cs.drop (j*2))∧Grow w w'):=by
 have g0:=hs.cap;have p0:=hs.len;refine V.calls (args:=[_,_,_]) Tryz.func81 rfl Tryz.ntmps81 rfl rfl ?_;repeat refine dD ?_
 apply T.any 7 [is (.slice a n c),is (.int .i64 (i:Int)),slF F 2 i c (cs.take (i*2)),is (.slice a n c),is (.int .i64 (j:Int)),slF F 2 (n-j) (c-j) (cs.drop (j*2)),slsF 2 2 [cs.take (i*2),cs.drop (j*2)]]
 ·rfl
 ·repeat' (first|exact aN|refine aK ?_ ?_)
  iterate 2
   ·refine yQ λ wq _ _ e0=>?_;repeat refine dD ?_
    exact aD rfl yG rfl
  ·refine yQ λ wq _ _ e0=>?_;refine TL.slice (l:=0) (h:=i) (mm:=c) rfl (hs.grow e0) (aP _) (bI rfl rfl) (aP c) (λ h=>by cases h) (Nat.zero_le _) oM oM (Nat.le_refl _) rfl ?_;intro a' f0 _;repeat refine dD ?_
   refine aD rfl yG ⟨a',rfl,?_⟩;simpa using f0
  iterate 2
   ·refine yQ λ wq _ _ e0=>?_;repeat refine dD ?_
    exact aD rfl yG rfl
  ·refine yQ λ wq _ _ e0=>?_;refine TL.slice (l:=j) (h:=n) (mm:=c) rfl (hs.grow e0) (bI rfl rfl) (aP _) (aP c) (λ _=>rfl) hj (Nat.le_refl _) g0 (Nat.le_refl _) rfl ?_;intro a' f0 _;repeat refine dD ?_
   refine aD rfl yG ⟨a',rfl,?_⟩;rw [List.take_of_length_le (by rw [List.length_drop];omega)] at f0;exact f0
  ·refine bW rfl rfl rfl ?_;intro wq _ _ e0;refine aJ rfl rfl ?_;intro v1 q1;refine aJ rfl rfl ?_;intro v3 q3;refine aZ ?_;obtain ⟨a1,rfl,s1⟩:=q1;obtain ⟨a3,rfl,s3⟩:=q3;refine TL.buildSlice rfl rfl rfl rfl rfl ?_;intro b' wa i0 s0 v0 u0 m0;repeat refine dD ?_
   refine aD rfl yG ⟨_,_,_,rfl,(aU (sz:=1) (m:=2) s0 m0 dM).mono (λ _ _=>trivial),⟨_,_,_,rfl,(s1.grow i0).mono (λ _ _=>trivial)⟩,⟨_,_,_,rfl,(s3.grow i0).mono (λ _ _=>trivial)⟩,trivial⟩
 ·intro w6 t0 y0 j0 _ _;iterate 7 (refine aJ rfl rfl ?_;intro vq h0;try (obtain rfl:=h0))
  refine aZ ?_;obtain ⟨a6,c6,k0,rfl,n0,o0⟩:=h0
  have l0:kO 2 [cs.take (i*2),cs.drop (j*2)] 2=n-(j-i):=by
   simp only [kO,List.take_succ_cons,List.take_zero,List.map_cons,List.map_nil,List.sum_cons,List.sum_nil,List.length_take,List.length_drop];omega
  refine aB 152 ?_
  refine aA rfl (join_t _ a6 2 c6 k0 [cs.take (i*2),cs.drop (j*2)] _ n0 o0 (by
   intro p hp u hu;simp only [List.mem_cons,List.not_mem_nil,or_false] at hp;rcases hp with rfl|rfl
   ·exact h1 u (List.mem_of_mem_take hu)
   ·exact h1 u (List.mem_of_mem_drop hu)) (by show kO _ _ 2≤_;omega)) rfl ?_
  rintro v w7 ⟨a0,q0⟩;rw [show ([cs.take (i*2),cs.drop (j*2)]:List (List Value)).length=2 from rfl,l0] at a0;rw [show ([cs.take (i*2),cs.drop (j*2)]:List (List Value)).flatten=cs.take (i*2)++cs.drop (j*2) by simp] at a0;repeat refine dD ?_
  exact bA rfl ⟨_,rfl,eB a0 j0.size,j0.trans q0⟩
end Go.Proofs.YtfpadnmdafiddaaGreatDoor
namespace Go.V
open Go Go.RowKit
theorem any_beq {l:List Nat} {x:Nat}:l.any (Nat.beq x)=true↔x∈l:=by
 rw [List.any_eq_true];exact ⟨λ ⟨y,hy,h⟩=>by rw [Nat.eq_of_beq_eq_true h];exact hy,λ h=>⟨x,h,Nat.beq_refl x⟩⟩
section
variable [Rn]
variable {P:Program} {n:Nat} {l:List Oper} {e:dI} {w0:World} {Q:dA}
end
def mB (l:List Oper) (i:Nat):Option Nat:=(l[i]?).bind (·.dst)
def iY (l:List Oper) (vs:List Value):List Nat→dI→dI
 | [],e=>e
 | j::js,e=>iY l vs js (match mB l j with|some d=>(d,vs.getD j undef)::e|none=>e)
def detQ (d:Option Nat) (v:Value) (I:World→Prop):dA:=λ x e' w'=>match x with
 | .normal=>(∀ t,d=some t→find e' t=some v)∧I w'
 | _=>False
theorem aG {d:Nat} {v:Value} {I:World→Prop} {e':dI} {w':World} (h:find e' d=some v) (hI:I w'):detQ (some d) v I .normal e' w':=⟨λ t ht=>(by cases ht;exact h),hI⟩
theorem gS {v:Value} {I:World→Prop} {e':dI} {w':World} (hI:I w'):detQ none v I .normal e' w':=⟨λ t ht=>(by cases ht),hI⟩
def Det [Rn] (P:Program) (n:Nat) (l:List Oper) (e:dI) (I:World→Prop) (vs:List Value) (i:Nat):Prop :=
 match l[i]? with
 | none=>True
 | some o=>∀ w,I w→TL P n l.toArray [o] (iY l vs (lC (bH o)) e) w (detQ o.dst (vs.getD i undef) I)
def AllDet [Rn] (P:Program) (n:Nat) (l:List Oper) (e:dI) (I:World→Prop) (vs:List Value):Nat→Nat→Prop
 | _,0=>True
 | i,k+1=>Det P n l e I vs i∧AllDet P n l e I vs (i+1) k
def headDet (l:List Oper) (e:dI) (n:Nat):Nat→Nat→Bool
 | _,0=>true
 | i,k+1=>(match l[i]? with
   | some o=>(match o.dst with|some d=>Nat.blt d n&&(find e d).isNone&&(mY 0 i).all (λ j=>match mB l j with|some d'=>!(Nat.beq d' d)|none=>true)|none=>true)&&(bH o).all (λ j=>Nat.blt j i)
   | none=>false)&&headDet l e n (i+1) k
def sinkDet (l:List Oper) (N:Nat):Bool:=match l[N]? with
 | some o=>(mY 0 N).all λ i=>(bH o).any (Nat.beq i)
 | none=>true
structure DHead (l:List Oper) (e:dI) (n i:Nat):Prop where
 ex:∃ o,l[i]? = some o∧(∀ d,o.dst=some d→d<n∧find e d=none∧∀ j,j<i→mB l j≠some d)∧∀ j∈bH o,j<i
theorem headDet_at {l:List Oper} {e:dI} {n:Nat}:∀ {k i:Nat},headDet l e n i k=true→∀ j,i≤j→j<i+k→DHead l e n j
 | 0,i,_,j,h1,h2=>by omega
 | k+1,i,h,j,h1,h2=>by
  simp only [headDet,Bool.and_eq_true] at h;obtain ⟨h,hr⟩:=h;by_cases hj:j=i
  ·subst hj
   cases ho:l[j]? with
   | none=>simp [ho] at h
   | some o =>
    simp only [ho,Bool.and_eq_true,List.all_eq_true] at h;obtain ⟨h5,h6⟩:=h;refine ⟨o,ho,λ d hd=>?_,λ x hx=>Nat.le_of_ble_eq_true (h6 x hx)⟩;simp only [hd,Bool.and_eq_true,List.all_eq_true] at h5;obtain ⟨⟨h3,h4⟩,h5⟩:=h5;refine ⟨Nat.le_of_ble_eq_true h3,by simpa using h4,λ x hx a0=>?_⟩;have:=h5 x (fC.2 ⟨Nat.zero_le _,oM⟩);rw [a0] at this;simp [Nat.beq_refl] at this
  ·exact headDet_at hr j oM oM
section
variable [Rn]
variable {P:Program} {n:Nat} {l:List Oper} {e:dI} {I:World→Prop} {vs:List Value} {N:Nat} {Q:dA}
theorem allDet_at:∀ {k i:Nat},AllDet P n l e I vs i k→∀ j,i≤j→j<i+k→Det P n l e I vs j
 | 0,_,_,j,h1,h2=>by omega
 | k+1,i,h,j,h1,h2=>by
  by_cases hj:j=i
  ·subst hj;exact h.1
  ·exact allDet_at h.2 j oM oM
theorem iZ {i:Nat}:AllDet P n l e I vs i 0:=trivial
theorem iB {i k:Nat} (h:Det P n l e I vs i) (hs:AllDet P n l e I vs (i+1) k):AllDet P n l e I vs i (k+1):=⟨h,hs⟩
theorem mC {i:Nat} {d:Option Nat} {op:Op} {ty:TypeId} {pos:String} {aft:Array Edge} {v:Value} {e':dI} (ho:l[i]? = some ⟨d,op,ty,pos,aft,none⟩) (hv:vs.getD i undef=v) (he:iY l vs (lC (bH ⟨d,op,ty,pos,aft,none⟩)) e=e')
  (h:∀ w,I w→TL P n #[] [⟨d,op,ty,pos,aft,none⟩] e' w (detQ d v I)):Det P n l e I vs i:=by
 unfold Det;rw [ho];simp only;intro w hw;subst he;rw [hv];exact TL.lone (h w hw)
theorem kL:∀ {js:List Nat} {e0:dI} {t:Nat} {v:Value},find (iY l vs js e0) t=some v→(∃ j∈js,mB l j=some t∧v=vs.getD j undef)∨find e0 t=some v
 | [],e0,t,v,h=>.inr h
 | j::js,e0,t,v,h=>by
  unfold iY at h;rcases kL h with ⟨x,hx,h1⟩|h1
  ·exact .inl ⟨x,by simp [hx],h1⟩
  ·cases hd:mB l j with
   | none=>rw [hd] at h1;exact .inr h1
   | some d =>
    rw [hd] at h1;simp only [fT] at h1;by_cases ht:d=t
    ·rw [if_pos ht] at h1;exact .inl ⟨j,sM,by rw [hd,ht],(Option.some.inj h1).symm⟩
    ·rw [if_neg ht] at h1;exact .inr h1
structure MidD (n:Nat) (l:List Oper) (e:dI) (I:World→Prop) (vs:List Value) (N:Nat) (listed:Array Bool) (a:Act) (w:World):Prop where
 size:listed.size=l.length
 inv:I w
 defers:a.defers=Rn.ds
 tmps:a.tmps.size=n
 get:∀ t v,find e t=some v→a.tmps.getD t undef=v
 did:∀ i,i<N→listed.getD i false=true→∀ d,mB l i=some d→a.tmps.getD d undef=vs.getD i undef
 rest:∀ i,N≤i→listed.getD i false=false
 closed:∀ j o,l[j]? = some o→listed.getD j false=true→∀ x∈bH o,listed.getD x false=true
theorem eE {a0:Array Bool} {i x:Nat} (hx:x≠i):(a0.setIfInBounds i true).getD x false=a0.getD x false:=by
 rw [Array.getD_eq_getD_getElem?,Array.getElem?_setIfInBounds_ne (λ h=>hx h.symm),← Array.getD_eq_getD_getElem?]
theorem det_runs (hN:N≤l.length) (hh:∀ i,i<N→DHead l e n i) (x0:N<l.length→∀ i,i<N→∃ j o,i<j∧j≤N∧l[j]? = some o∧i∈bH o)
  (ht:∀ j,N≤j→j<l.length→∃ o,l[j]? = some o∧(∀ x∈bH o,x<j)∧(j=N∨j-1∈bH o)) (z2:∀ i,i<N→Det P n l e I vs i)
  (u0:∀ w,I w→TL P n l.toArray (l.drop N) (iY l vs (mY 0 N) e) w Q) :
  ∀ (m:Nat) (a0:Array Bool) (a:Act) (w:World) (f:Nat),MidD n l e I vs N a0 a w →
   ((List.range N).filter λ i=>!(a0.getD i false)).length=m→f=m+(l.length-N)→wpAnyIn (FR Rn.ro) 0 P .any l.toArray (iG n Q) f a0 a w:=by
 intro m
 induction m with
 | zero =>
  intro a0 a w f f0 hm hf
  have o1:∀ i,i<N→a0.getD i false=true:=by
   intro i hi;have:=List.eq_nil_of_length_eq_zero hm;have h2:=List.eq_nil_iff_forall_not_mem.1 this i;simp only [List.mem_filter,List.mem_range,not_and,Bool.not_eq_true',Bool.not_eq_false] at h2;exact h2 hi
  refine nB ht f N a0 a w oM (Nat.le_refl _) f0.size o1 (λ x hx s0=>?_) ?_
  ·have:=f0.rest x hx;rw [Array.getD_eq_getD_getElem?] at this ⊢
   cases hy:a0[x]? with
   | none=>rw [Array.getElem?_eq_none_iff] at hy;have:=f0.size;omega
   | some b=>simpa [hy] using this
  ·refine (u0 w f0.inv).out ⟨f0.defers,f0.tmps,λ t v hv=>?_⟩;rcases kL hv with ⟨j,hj,h1,rfl⟩|h3
   ·have y1:=(fC.1 hj).2;exact f0.did j oM (o1 j oM) t h1
   ·exact f0.get t v h3
 | succ m ih =>
  intro a0 a w f f0 hm hf
  have k0:∃ i,i<N∧a0.getD i false=false:=by
   have u1:((List.range N).filter λ i=>!(a0.getD i false))≠[]:=by intro h0;rw [h0] at hm;simp at hm
   obtain ⟨i,hi⟩:=List.exists_mem_of_ne_nil _ u1;simp only [List.mem_filter,List.mem_range,Bool.not_eq_true'] at hi;exact ⟨i,hi.1,hi.2⟩
  obtain ⟨f',rfl⟩:∃ f',f=f'+1:=⟨f-1,oM⟩
  have m0:∀ j,j∈Region.ready .any l.toArray a0→j<N∧a0.getD j false=false:=by
   intro j hj;obtain ⟨h3,o,h4,h5⟩:=cT.1 hj;have j2:j<l.length:=(List.getElem?_eq_some_iff.1 h4).1
   have y2:a0.getD j false=false:=by
    rw [Array.getD_eq_getD_getElem?] at h3 ⊢
    cases hx:a0[j]? with
    | none=>simp
    | some b=>simpa [hx] using h3
   refine ⟨?_,y2⟩;rcases Nat.lt_or_ge j N with h|h
   ·exact h
   ·exfalso;obtain ⟨o2,h6,_,h7⟩:=ht j h j2;rw [h4] at h6;cases h6;obtain ⟨i,hi,z1⟩:=k0;by_cases y1:j=N
    ·subst y1
     have key:∀ k i,j-i≤k→i<j→a0.getD i false=false→False:=by
      intro k
      induction k with
      | zero=>intro i h1 h2;omega
      | succ k ihk =>
       intro i h1 h2 hl;obtain ⟨x,o3,q1,s0,r1,f2⟩:=x0 j2 i h2;by_cases u2:x=j
       ·subst u2;rw [h4] at r1;cases r1;have:=h5 i f2;rw [hl] at this;cases this
       ·refine ihk x oM oM ?_
        cases hv:a0.getD x false with
        | false=>rfl
        | true =>
         have:=f0.closed x o3 r1 hv i f2;rw [hl] at this;cases this
     exact key _ i (Nat.le_refl _) hi z1
    ·have h8:=h5 (j-1) (h7.resolve_left y1);rw [f0.rest (j-1) oM] at h8;cases h8
  have v0:Region.ready .any l.toArray a0≠[]:=by
   have key:∀ k i,i≤k→i<N→a0.getD i false=false→∃ j,j∈Region.ready .any l.toArray a0:=by
    intro k
    induction k with
    | zero =>
     intro i hi n0 hl;obtain ⟨o,ho,_,g0⟩:=(hh i n0).ex;refine ⟨i,cT.2 ⟨?_,o,ho,λ x hx=>?_⟩⟩
     ·rw [Array.getD_eq_getD_getElem?] at hl ⊢
      cases hx:a0[i]? with
      | none=>rw [Array.getElem?_eq_none_iff] at hx;have:=f0.size;omega
      | some b=>simpa [hx] using hl
     ·have:=g0 x hx;omega
    | succ k ihk =>
     intro i hi n0 hl;obtain ⟨o,ho,_,g0⟩:=(hh i n0).ex;by_cases hx:∃ x∈bH o,a0.getD x false=false
     ·obtain ⟨x,q1,s0⟩:=hx;have:=g0 x q1;exact ihk x oM oM s0
     ·refine ⟨i,cT.2 ⟨?_,o,ho,λ x q1=>?_⟩⟩
      ·rw [Array.getD_eq_getD_getElem?] at hl ⊢
       cases hx:a0[i]? with
       | none=>rw [Array.getElem?_eq_none_iff] at hx;have:=f0.size;omega
       | some b=>simpa [hx] using hl
      ·cases hv:a0.getD x false with
       | true=>rfl
       | false=>exact absurd ⟨x,q1,hv⟩ hx
   obtain ⟨i,hi,z1⟩:=k0;obtain ⟨j,hj⟩:=key i i (Nat.le_refl _) hi z1;intro h0;rw [h0] at hj;cases hj
  refine ⟨λ h0=>absurd h0 v0,λ i r2=>?_⟩;obtain ⟨n0,x2⟩:=m0 i r2;obtain ⟨_,o,ho,s2⟩:=cT.1 r2;obtain ⟨o',g2,hd,g0⟩:=(hh i n0).ex;rw [ho] at g2;cases g2;have m1:mB l i=o.dst:=by simp [mB,ho]
  have o0:=z2 i n0;unfold Det at o0;simp only [ho] at o0
  have d2:Fits n (iY l vs (lC (bH o)) e) a:=⟨f0.defers,f0.tmps,λ t v hv=>by
   rcases kL hv with ⟨j,hj,h1,rfl⟩|h3
   ·have q2:=fE.1 hj;exact f0.did j (by have:=g0 j q2;omega) (s2 j q2) t h1
   ·exact f0.get t v h3⟩
  have i0:=(o0 w f0.inv).out d2;unfold wpOpIn;rw [show l.toArray[i]? = some o by simpa using ho];simp only
  have l0:∀ a' w',iG n (detQ o.dst (vs.getD i undef) I) .normal a' w'→(∃ v,a'.tmps=(a.put o.dst v).tmps)→wpAnyIn (FR Rn.ro) 0 P .any l.toArray (iG n Q) f' (a0.setIfInBounds i true) a' w':=by
   rintro a' w' ⟨e',e2,hv,f3⟩ ⟨u,hu⟩
   have j0:∀ t,o.dst≠some t→a'.tmps.getD t undef=a.tmps.getD t undef:=λ t w2=>by
    rw [hu]
    cases e1:o.dst with
    | none=>rfl
    | some d =>
     rw [jN (by rw [f0.tmps];exact (hd d e1).1),if_neg (λ h=>w2 (by rw [e1,h]))]
   refine ih (a0.setIfInBounds i true) a' w' f' ⟨by simp [f0.size],f3,e2.defers,e2.size,λ t v hv=>?_,λ j hj g1 d t0=>?_,λ j hj=>?_,λ j oj z0 g1 x hx=>?_⟩ ?_ oM
   ·rw [j0 t (λ h=>by rw [(hd t h).2.1] at hv;cases hv)];exact f0.get t v hv
   ·by_cases j1:j=i
    ·subst j1;rw [m1] at t0;exact e2.get d _ (hv d t0)
    ·rw [eE j1] at g1
     have u1:o.dst≠some d:=by
      intro e1;rcases Nat.lt_or_ge j i with h|h
      ·exact (hd d e1).2.2 j h t0
      ·obtain ⟨oj,z0,d3,_⟩:=(hh j hj).ex;have:mB l j=oj.dst:=by simp [mB,z0]
       rw [this] at t0;exact (d3 d t0).2.2 i oM (by rw [m1];exact e1)
     rw [j0 d u1];exact f0.did j hj g1 d t0
   ·rw [eE oM];exact f0.rest j hj
   ·by_cases q0:x=i
    ·subst q0;have s1:x<a0.size:=by rw [f0.size];exact (List.getElem?_eq_some_iff.1 ho).1
     simp [Array.getD_eq_getD_getElem?,s1]
    ·rw [eE q0];by_cases j1:j=i
     ·subst j1;rw [ho] at z0;cases z0;exact s2 x hx
     ·rw [eE j1] at g1;exact f0.closed j oj z0 g1 x hx
   ·have p0:∀ (L:List Nat),L.Nodup→i∈L→(L.filter λ j=>!((a0.setIfInBounds i true).getD j false)).length+1=(L.filter λ j=>!(a0.getD j false)).length:=by
     intro L
     induction L with
     | nil=>intro _ h;cases h
     | cons x xs ihx =>
      intro w1 x1;rw [List.nodup_cons] at w1;have s1:i<a0.size:=by rw [f0.size];exact (List.getElem?_eq_some_iff.1 ho).1
      by_cases q0:x=i
      ·subst q0
       have y0:(xs.filter λ j=>!((a0.setIfInBounds x true).getD j false))=xs.filter λ j=>!(a0.getD j false):=by
        apply List.filter_congr;intro y hy;rw [eE (λ (h:y=x)=>w1.1 (by rw [← h];exact hy))]
       have h1:(a0.setIfInBounds x true).getD x false=true:=by simp [Array.getD_eq_getD_getElem?,s1]
       rw [List.filter_cons_of_neg (by simp [h1]),y0,List.filter_cons_of_pos (by simp [x2])];simp
      ·have f1:i∈xs:=by
        rcases List.mem_cons.1 x1 with h|h
        ·exact absurd h.symm q0
        ·exact h
       have:=ihx w1.2 f1;have s0:(a0.setIfInBounds i true).getD x false=a0.getD x false:=eE q0
       cases hc:a0.getD x false with
       | true=>rw [List.filter_cons_of_neg (by simp [s0,hc]),List.filter_cons_of_neg (by simp [hc])];exact this
       | false=>rw [List.filter_cons_of_pos (by simp [s0,hc]),List.filter_cons_of_pos (by simp [hc])];simp only [List.length_cons];omega
    have:=p0 (List.range N) List.nodup_range (List.mem_range.2 n0);omega
  unfold wpListIn at i0;split
  ·rename_i hw;rw [if_pos hw] at i0
   exact (Oper.wpIn_mono (λ a' w' hh=>l0 a' w' hh.1 hh.2) (wp_swap (wp_frame i0) (λ x a w hx hq=>by
     refine (lift_no hq λ e0 w0 hq=>?_).elim
     cases x<;>first|exact absurd rfl hx|exact hq)))
  ·rename_i hw;rw [if_neg hw] at i0;exact ⟨i0.1,l0 _ _ i0.2 ⟨undef,by cases o.dst<;>rfl⟩⟩
theorem T.det {g0:Nat} {w0:World} (N:Nat) (vs:List Value) (I:World→Prop) [hm:Mixed P] (hc:(headDet l e n 0 N&&mV l N N (l.length-N)&&Nat.ble N l.length&&(Nat.ble l.length N || sinkOk l N))=true) (h0:∀ w,Grow w0 w→I w)
  (i0:AllDet P n l e I vs 0 N) (a0:∀ w,I w→TL P n l.toArray (l.drop N) (iY l vs (mY 0 N) e) w Q):T P n (.region g0 l.toArray true) e w0 Q:=by
 simp only [Bool.and_eq_true] at hc;obtain ⟨⟨⟨k0,j0⟩,f0⟩,e0⟩:=hc;refine T.mk λ a ha=>wpIn_region_any hm.h ?_
 refine det_runs (N:=N) (Nat.le_of_ble_eq_true f0) (λ i hi=>headDet_at k0 i (Nat.zero_le _) oM) (λ l0 i hi=>?_) (λ j h1 h2=>lM j0 j h1 oM) (λ i hi=>allDet_at i0 i (Nat.zero_le _) oM) a0
  N (Array.replicate l.toArray.size false) a _ _ ⟨sM,h0 _ (Grow.drew _),ha.defers,ha.size,ha.get,λ i _ h=>?_,λ i _=>?_,λ j o _ h x _=>?_⟩ ?_ ?_
 ·simp only [Bool.or_eq_true] at e0;rcases e0 with h|h
  ·have:=Nat.le_of_ble_eq_true h;omega
  ·exact sinkOk_at h i hi
 ·exfalso;rw [Array.getD_eq_getD_getElem?] at h;rcases Nat.lt_or_ge i l.length with hi|hi
  ·simp [hi] at h
  ·simp [hi] at h
 ·rw [Array.getD_eq_getD_getElem?];rcases Nat.lt_or_ge i l.length with hi|hi
  ·simp [hi]
  ·simp [hi]
 ·exfalso;rw [Array.getD_eq_getD_getElem?] at h;rcases Nat.lt_or_ge j l.length with hi|hi
  ·simp [hi] at h
  ·simp [hi] at h
 ·have:((List.range N).filter λ i=>!((Array.replicate l.toArray.size false).getD i false))=List.range N:=by
   rw [List.filter_eq_self];intro i hi;rw [Array.getD_eq_getD_getElem?];rcases Nat.lt_or_ge i l.length with hi|hi
   ·simp [hi]
   ·simp [hi]
  rw [this];simp
 ·have:=Nat.le_of_ble_eq_true f0;simp;omega
end
end Go.V
namespace Go.Proofs.YtfpadnmdafiddaaGreatDoor
def fK (b:Bs):Prop:=∀ x∈b,x<256
def NdB (n:Nd):Prop:=(∀ x∈n.items,fK x.1∧fK x.2)∧∀ k∈n.keys,fK k
def PgB (s:Pg):Prop:=∀ n,fK (s.body n)
theorem mD {a b:Bs} (ha:fK a) (hb:fK b):fK (a++b):=λ x hx=>(List.mem_append.1 hx).elim (ha x) (hb x)
theorem nD {r p t:Bs} (hr:fK r) (h:jV r=some (p,t)):fK p∧fK t:=by
 unfold jV at h;split at h
 ·split at h
  ·simp only [Option.some.injEq,Prod.mk.injEq] at h;obtain ⟨rfl,rfl⟩:=h;exact ⟨λ x hx=>hr x (List.mem_of_mem_drop (List.mem_of_mem_take hx)),λ x hx=>hr x (List.mem_of_mem_drop (List.mem_of_mem_drop hx))⟩
  ·cases h
 ·cases h
theorem rdItems_by:∀ {c:Nat} {r t:Bs} {l:bT},fK r→iT c r=some (l,t)→(∀ x∈l,fK x.1∧fK x.2)∧fK t
 | 0,r,t,l,hr,h=>by
  simp only [iT,Option.some.injEq,Prod.mk.injEq] at h;obtain ⟨rfl,rfl⟩:=h;exact ⟨sM,hr⟩
 | c+1,r,t,l,hr,h=>by
  unfold iT at h;split at h
  ·cases h
  rename_i k r1 e1;split at h
  ·cases h
  rename_i v r2 e2;split at h
  ·cases h
  rename_i l' r3 e3;simp only [Option.some.injEq,Prod.mk.injEq] at h;obtain ⟨rfl,rfl⟩:=h;obtain ⟨b1,b2⟩:=nD hr e1;obtain ⟨b3,b4⟩:=nD b2 e2;obtain ⟨b5,b6⟩:=rdItems_by b4 e3;refine ⟨λ x hx=>?_,b6⟩;rcases List.mem_cons.1 hx with rfl|hx
  ·exact ⟨b1,b3⟩
  ·exact b5 x hx
theorem rdKids_by:∀ {c:Nat} {r t:Bs} {l:List Nat},fK r→kQ c r=some (l,t)→fK t
 | 0,r,t,l,hr,h=>by
  simp only [kQ,Option.some.injEq,Prod.mk.injEq] at h;obtain ⟨rfl,rfl⟩:=h;exact hr
 | c+1,r,t,l,hr,h=>by
  unfold kQ at h;split at h
  ·cases h
  rename_i k r1 e1;split at h
  ·cases h
  rename_i l' r3 e3;simp only [Option.some.injEq,Prod.mk.injEq] at h;obtain ⟨rfl,rfl⟩:=h;refine rdKids_by (r:=r1) ?_ e3;unfold rdWord at e1;split at e1
  ·simp only [Option.some.injEq,Prod.mk.injEq] at e1;obtain ⟨rfl,rfl⟩:=e1;exact λ x hx=>hr x (List.mem_of_mem_drop hx)
  ·cases e1
theorem rdKeys_by:∀ {c:Nat} {r t:Bs} {l:List Bs},fK r→kS c r=some (l,t)→(∀ x∈l,fK x)∧fK t
 | 0,r,t,l,hr,h=>by
  simp only [kS,Option.some.injEq,Prod.mk.injEq] at h;obtain ⟨rfl,rfl⟩:=h;exact ⟨sM,hr⟩
 | c+1,r,t,l,hr,h=>by
  unfold kS at h;split at h
  ·cases h
  rename_i k r1 e1;split at h
  ·cases h
  rename_i l' r3 e3;simp only [Option.some.injEq,Prod.mk.injEq] at h;obtain ⟨rfl,rfl⟩:=h;obtain ⟨b1,b2⟩:=nD hr e1;obtain ⟨b5,b6⟩:=rdKeys_by b2 e3;refine ⟨λ x hx=>?_,b6⟩;rcases List.mem_cons.1 hx with rfl|hx
  ·exact b1
  ·exact b5 x hx
theorem finN_eq {m n:Nd} {r:Bs} (h:finN m r=some n):m=n:=by
 unfold finN at h;split at h
 ·simpa using h
 ·cases h
theorem readN_by {b:Bs} {n:Nd} (hb:fK b) (h:fX b=some n):NdB n:=by
 unfold fX at h;split at h;rotate_left
 ·cases h
 rename_i kd c r;have hr:fK r:=λ x hx=>hb x (by simp [hx]);split at h
 ·cases h
 ·split at h
  ·split at h
   ·cases h
   ·rename_i l r1 e1;have:=finN_eq h;subst this;exact ⟨(rdItems_by hr e1).1,sM⟩
  ·split at h
   ·split at h
    ·cases h
    ·rename_i l r1 e1;split at h
     ·cases h
     ·rename_i ks r2 e2;have:=finN_eq h;subst this;exact ⟨sM,(rdKeys_by (rdKids_by hr e1) e2).1⟩
   ·cases h
theorem nodeP_by {s:Pg} {n:Nat} {nd:Nd} (hs:PgB s) (h:cD s n=some nd):NdB nd:=by
 unfold cD at h;split at h
 ·exact readN_by (hs n) h
 ·cases h
theorem encL_by:∀ n:Fin 40,∀ x∈encL n.val,x<256:=by decide +kernel
theorem blkB_by {p:Bs} (h:p.length<40) (hp:fK p):fK (bS p):=mD (λ x hx=>encL_by ⟨p.length,h⟩ x hx) hp
theorem lO {n:Nd} (hk:bF n=true) (h:NdB n):fK (dC n):=by
 unfold bF at hk;unfold dC;split at hk
 ·rename_i hl;obtain ⟨h1,h2,h3⟩:=dG hk;rw [if_pos hl];refine mD (λ x hx=>?_) (λ x hx=>?_)
  ·simp only [List.mem_cons,List.not_mem_nil,or_false] at hx;omega
  ·obtain ⟨y,hy,a0⟩:=List.mem_flatMap.1 hx;have g1:=eK (mN h3 hy).1;have g2:=iD (mN h3 hy).2;exact mD (blkB_by oM (h.1 y hy).1) (blkB_by oM (h.1 y hy).2) x a0
 ·rename_i hl;obtain ⟨h1,h2,h3,h4,h5,h6⟩:=cO hk;rw [if_neg hl];refine mD (mD (λ x hx=>?_) (λ x hx=>?_)) (λ x hx=>?_)
  ·simp only [List.mem_cons,List.not_mem_nil,or_false] at hx;omega
  ·obtain ⟨y,hy,a0⟩:=List.mem_flatMap.1 hx;simp only [bP,List.mem_cons,List.not_mem_nil,or_false] at a0;omega
  ·obtain ⟨y,hy,a0⟩:=List.mem_flatMap.1 hx;have g1:=eK (key_ok' h6 hy);exact blkB_by oM (h.2 y hy) x a0
theorem mem_insL {α : Type} {l x:List α} {i:Nat} {a : α} (h:a∈hY l i x):a∈l∨a∈x:=by
 simp only [hY,List.mem_append] at h;rcases h with (h|h)|h
 ·exact .inl (List.mem_of_mem_take h)
 ·exact .inr h
 ·exact .inl (List.mem_of_mem_drop h)
theorem nH {α : Type} {l:List α} {i j:Nat} {a : α} (h:a∈dT l i j):a∈l:=by
 simp only [dT,List.mem_append] at h;rcases h with h|h
 ·exact List.mem_of_mem_take h
 ·exact List.mem_of_mem_drop h
theorem putNode_by {n up:Nd} {i:Nat} {item:Bs×Bs} {th:Bool} (hn:NdB n) (hu:NdB up) (h1:fK item.1) (h2:fK item.2):NdB (cP n i up item th):=by
 unfold cP;split
 ·split
  ·refine ⟨λ x hx=>?_,hn.2⟩;rcases mem_insL hx with hx|hx
   ·exact hn.1 x (nH hx)
   ·simp only [List.mem_singleton] at hx;subst hx;exact ⟨h1,h2⟩
  ·refine ⟨λ x hx=>?_,hn.2⟩;rcases mem_insL hx with hx|hx
   ·exact hn.1 x hx
   ·simp only [List.mem_singleton] at hx;subst hx;exact ⟨h1,h2⟩
 ·refine ⟨hn.1,λ x hx=>?_⟩;rcases mem_insL hx with hx|hx
  ·exact hn.2 x hx
  ·exact hu.2 x hx
theorem getD_by {l:List Bs} (h:∀ k∈l,fK k) (i:Nat):fK (l.getD i []):=by
 rw [List.getD_eq_getElem?_getD]
 cases e:l[i]? with
 | none=>intro x hx;cases hx
 | some y=>exact h y (List.mem_of_getElem? e)
theorem getI_by {l:bT} (h:∀ x∈l,fK x.1∧fK x.2) (i:Nat):fK (l.getD i ([],[])).1∧fK (l.getD i ([],[])).2:=by
 rw [List.getD_eq_getElem?_getD]
 cases e:l[i]? with
 | none=>refine ⟨λ x hx=>?_,λ x hx=>?_⟩<;>cases hx
 | some y=>exact h y (List.mem_of_getElem? e)
theorem splitN_by {n:Nd} (hn:NdB n):NdB (bV n).1∧NdB (bV n).2.1∧fK (bV n).2.2:=by
 unfold bV;split
 ·exact ⟨⟨λ x hx=>hn.1 x (nH hx),sM⟩,⟨λ x hx=>hn.1 x (nH hx),sM⟩,(getI_by (λ x hx=>hn.1 x (nH hx)) 0).1⟩
 ·exact ⟨⟨sM,λ x hx=>hn.2 x (nH hx)⟩,⟨sM,λ x hx=>hn.2 x (nH hx)⟩,getD_by hn.2 3⟩
end Go.Proofs.YtfpadnmdafiddaaGreatDoor
namespace Go.Proofs.YtfpadnmdafiddaaGreatDoor
open Go Go.RowKit Go.V
theorem mL {α : Type} {l x:List α} {i:Nat} (h:i≤l.length):(hY l i x).length=l.length+x.length:=by
 simp only [hY,List.length_append,List.length_take,List.length_drop];omega
theorem kK {α : Type} {l:List α} {i j:Nat} (h:i≤j) (hj:j≤l.length):(dT l i j).length=l.length-(j-i):=by
 simp only [dT,List.length_append,List.length_take,List.length_drop];omega
def itsF {B:Nat} (F:Nat→Prop) (n:Nat) (l:bT):SFact B:={ G:=λ v _ _ w=>∃ a c,v=.slice a n c∧ItsAt F w a n c l,st:=λ v _ _ w w' g h=>by obtain ⟨a,c,h1,h2⟩:=h;exact ⟨a,c,h1,h2.go (Carry.grow g)⟩ }
def kysF {B:Nat} (F:Nat→Prop) (n:Nat) (l:List Bs):SFact B:={ G:=λ v _ _ w=>∃ a c,v=.slice a n c∧KysAt F w a n c l,st:=λ v _ _ w w' g h=>by obtain ⟨a,c,h1,h2⟩:=h;exact ⟨a,c,h1,h2.go (Carry.grow g)⟩ }
def kidF {B:Nat} (F:Nat→Prop) (n:Nat) (l:List Nat):SFact B:={ G:=λ v _ _ w=>∃ a c,v=.slice a n c∧Sl F w 1 a n c (bC l),st:=λ v _ _ w w' g h=>by obtain ⟨a,c,h1,h2⟩:=h;exact ⟨a,c,h1,h2.grow g⟩ }
section
variable {F:Nat→Prop} {w:World}
theorem its_of_own {w':World} {E:TypeId} {v:Value} {n:Nat} {cs:List Value} {l:bT} (a0:w'.ownsRow w.heap.size E 2 v n cs) (hF:∀ k,w.heap.size≤k→F k) (hc:ItCells F w' cs l):∃ a c,v=.slice a n c∧ItsAt F w' a n c l:=by
 obtain ⟨a,c,rfl,hs⟩:=aM a0;exact ⟨a,c,rfl,⟨cs,hs.mono (λ k hk=>hF k hk.1),hc⟩⟩
theorem kys_of_own {w':World} {E:TypeId} {v:Value} {n:Nat} {cs:List Value} {l:List Bs} (a0:w'.ownsRow w.heap.size E 1 v n cs) (hF:∀ k,w.heap.size≤k→F k) (hc:KyCells F w' cs l):∃ a c,v=.slice a n c∧KysAt F w' a n c l:=by
 obtain ⟨a,c,rfl,hs⟩:=aM a0;exact ⟨a,c,rfl,⟨cs,hs.mono (λ k hk=>hF k hk.1),hc⟩⟩
theorem insI_c (hF:∀ k,w.heap.size≤k→F k) (a b:Option Addr) (n c m d i:Nat) (l xs:bT) (h:ItsAt F w a n c l) (hx:ItsAt F w b m d xs) (hi:i≤n) (hn:n+m≤1000000) :
  Calls Tryz.prog 99 #[.slice a n c,.int .i64 (i:Int),.slice b m d] w (Ret λ v w'=>(∃ a' c',v=.slice a' (n+m) c'∧ItsAt F w' a' (n+m) c' (hY l i xs))∧Grow w w'):=by
 obtain ⟨cs,hs,hc⟩:=h.ex;obtain ⟨ds,e0,hd⟩:=hx.ex;refine Calls.mono (insert_t F F a b n c m d i cs ds w hs e0 hc.one hd.one hi hn) ?_;rintro _ w' ⟨v,rfl,a0,hg⟩;have h1:=hc.take i;rw [Nat.mul_comm] at a0;exact ⟨v,rfl,its_of_own a0 hF (ItCells.go (Carry.grow hg) ((h1.1.append hd).append h1.2)),hg⟩
theorem cutI_c (hF:∀ k,w.heap.size≤k→F k) (a:Option Addr) (n c i j:Nat) (l:bT) (h:ItsAt F w a n c l) (e0:i≤j) (hj:j≤n) (hn:n≤1000000) :
  Calls Tryz.prog 81 #[.slice a n c,.int .i64 (i:Int),.int .i64 (j:Int)] w (Ret λ v w'=>(∃ a' c',v=.slice a' (n-(j-i)) c'∧ItsAt F w' a' (n-(j-i)) c' (dT l i j))∧Grow w w'):=by
 obtain ⟨cs,hs,hc⟩:=h.ex;refine Calls.mono (cut_t F a n c i j cs w hs hc.one e0 hj hn) ?_;rintro _ w' ⟨v,rfl,a0,hg⟩;rw [Nat.mul_comm i,Nat.mul_comm j] at a0;exact ⟨v,rfl,its_of_own a0 hF (ItCells.go (Carry.grow hg) ((hc.take i).1.append (hc.take j).2)),hg⟩
theorem insK_c (hF:∀ k,w.heap.size≤k→F k) (a b:Option Addr) (n c m d i:Nat) (l xs:List Bs) (h:KysAt F w a n c l) (hx:KysAt F w b m d xs) (hi:i≤n) (hn:n+m≤1000000) :
  Calls Tryz.prog 98 #[.slice a n c,.int .i64 (i:Int),.slice b m d] w (Ret λ v w'=>(∃ a' c',v=.slice a' (n+m) c'∧KysAt F w' a' (n+m) c' (hY l i xs))∧Grow w w'):=by
 obtain ⟨cs,hs,hc⟩:=h.ex;obtain ⟨ds,e0,hd⟩:=hx.ex;refine Calls.mono (insert_k F F a b n c m d i cs ds w hs e0 hc.one hd.one hi hn) ?_;rintro _ w' ⟨v,rfl,a0,hg⟩;have h1:=hc.take i;rw [Nat.mul_one] at a0;exact ⟨v,rfl,kys_of_own a0 hF (KyCells.go (Carry.grow hg) ((h1.1.append hd).append h1.2)),hg⟩
theorem cutK_c (hF:∀ k,w.heap.size≤k→F k) (a:Option Addr) (n c i j:Nat) (l:List Bs) (h:KysAt F w a n c l) (e0:i≤j) (hj:j≤n) (hn:n≤1000000) :
  Calls Tryz.prog 194 #[.slice a n c,.int .i64 (i:Int),.int .i64 (j:Int)] w (Ret λ v w'=>(∃ a' c',v=.slice a' (n-(j-i)) c'∧KysAt F w' a' (n-(j-i)) c' (dT l i j))∧Grow w w'):=by
 obtain ⟨cs,hs,hc⟩:=h.ex;refine Calls.mono (cut_k F a n c i j cs w hs hc.one e0 hj hn) ?_;rintro _ w' ⟨v,rfl,a0,hg⟩;rw [Nat.mul_one,Nat.mul_one] at a0;exact ⟨v,rfl,kys_of_own a0 hF (KyCells.go (Carry.grow hg) ((hc.take i).1.append (hc.take j).2)),hg⟩
theorem ints_insL (l xs:List Nat) (i:Nat):(bC l).take i++bC xs++(bC l).drop i=bC (hY l i xs):=by simp [bC,hY,List.map_take,List.map_drop]
theorem ints_cutL (l:List Nat) (i j:Nat):(bC l).take i++(bC l).drop j=bC (dT l i j):=by simp [bC,dT,List.map_take,List.map_drop]
theorem insN_c (hF:∀ k,w.heap.size≤k→F k) (a b:Option Addr) (n c m d i:Nat) (l xs:List Nat) (h:Sl F w 1 a n c (bC l)) (hx:Sl F w 1 b m d (bC xs)) (hi:i≤n) (hn:n+m≤1000000) :
  Calls Tryz.prog 96 #[.slice a n c,.int .i64 (i:Int),.slice b m d] w (Ret λ v w'=>(∃ a' c',v=.slice a' (n+m) c'∧Sl F w' 1 a' (n+m) c' (bC (hY l i xs)))∧Grow w w'):=by
 refine Calls.mono (insert_i F F a b n c m d i _ _ w h hx (gC l) (gC xs) hi hn) ?_;rintro _ w' ⟨v,rfl,a0,hg⟩;rw [Nat.mul_one,ints_insL] at a0;obtain ⟨a',c',rfl,hs⟩:=aM a0;exact ⟨_,rfl,⟨a',c',rfl,hs.mono (λ k hk=>hF k hk.1)⟩,hg⟩
theorem cutN_c (hF:∀ k,w.heap.size≤k→F k) (a:Option Addr) (n c i j:Nat) (l:List Nat) (h:Sl F w 1 a n c (bC l)) (e0:i≤j) (hj:j≤n) (hn:n≤1000000) :
  Calls Tryz.prog 97 #[.slice a n c,.int .i64 (i:Int),.int .i64 (j:Int)] w (Ret λ v w'=>(∃ a' c',v=.slice a' (n-(j-i)) c'∧Sl F w' 1 a' (n-(j-i)) c' (bC (dT l i j)))∧Grow w w'):=by
 refine Calls.mono (cut_i F a n c i j _ w h (gC l) e0 hj hn) ?_;rintro _ w' ⟨v,rfl,a0,hg⟩;rw [Nat.mul_one,Nat.mul_one,ints_cutL] at a0;obtain ⟨a',c',rfl,hs⟩:=aM a0;exact ⟨_,rfl,⟨a',c',rfl,hs.mono (λ k hk=>hF k hk.1)⟩,hg⟩
end
theorem eX {F:Nat→Prop} {x:NV} {nd:Nd} {w0:World} (h:NdAt F w0 x nd) {b:Bool} (hb:bN nd=b) (w:World) :
  Calls Tryz.prog 80 #[x.val] w (Ret λ v w'=>v=.bool b∧Grow w w'):=by
 have:=leaf_c x w
 rwa [show decide (x.n2=0)=b by
  rw [← hb,bR h.kids,Bool.eq_iff_iff,bL]
  simp] at this
def Gap (F:Nat→Prop) (S B:Nat) (k:Nat):Prop:=F k∧(k<S∨B≤k)
theorem nd_gap {F:Nat→Prop} {w w':World} {x:NV} {nd:Nd} {B:Nat} (h:NdAt F w x nd) (hg:Grow w w'):NdAt (Gap F w.heap.size B) w' x nd :=
 (h.go (Carry.mono (λ k hk hl=>⟨hk,.inl hl⟩))).go (Carry.grow hg)
theorem Gap.up {F:Nat→Prop} {S B b:Nat} {w w':World} (u:Upd b w w') (h1:S≤b) (h2:b<B):Carry (Gap F S B) w (Gap F S B) w' :=
 Carry.upd u (λ k hk _=>by have:=hk.2;omega)
theorem Gap.out {F:Nat→Prop} {S B:Nat} {w:World}:Carry (Gap F S B) w F w:=Carry.mono (λ k hk _=>hk.1)
theorem jZ {F:Nat→Prop} {w:World}:ItsAt F w none 0 0 []:=⟨[],⟨sM,Nat.le_refl _,Nat.zero_le _,λ _=>rfl,by simp [Row]⟩,trivial⟩
theorem jG {F:Nat→Prop} {w:World}:KysAt F w none 0 0 []:=⟨[],⟨sM,Nat.le_refl _,Nat.zero_le _,λ _=>rfl,by simp [Row]⟩,trivial⟩
theorem iX {F:Nat→Prop} {w:World}:Sl F w 1 none 0 0 (bC []):=⟨by simp [bC],Nat.le_refl _,Nat.zero_le _,λ _=>rfl,by simp [Row,bC]⟩
theorem retCCT {P:Program} {e:dI} {w:World} {s t s2 t2 u:Nat} {p p2:Addr} {v v2 x:Value} {R:Ending→World→Prop} (h:find e s=some (.pointer (some p))) (hl:(loadVar t p).run P w=.ok v w) (h':find e s2=some (.pointer (some p2))) (a0:(loadVar t2 p2).run P w=.ok v2 w) (h2:find e u=some x) (hR:R (.returned (.tuple #[v,v2,x])) w):retQ P [.cell s t,.cell s2 t2,.tmp u] R .ret e w :=
 eF (vs:=[v,v2,x]) ⟨v,[v2,x],rfl,⟨p,h,hl⟩,v2,[x],rfl,⟨p2,h',a0⟩,x,[],rfl,h2,rfl⟩ rfl hR
theorem split_c (F:Nat→Prop) (w:World) (hF:∀ k,w.heap.size≤k→F k) (x:NV) (nd:Nd) (h:NdAt F w x nd) (h9:aT nd≤1000) (hl:bN nd=true→5≤nd.items.length) (hk:bN nd=false→4≤nd.kids.length∧4≤nd.keys.length∧nd.keys.length≤1000) :
  Calls Tryz.prog 162 #[x.val] w (Ret λ v w'=>(∃ (y z:NV) (k:Value),v=.tuple #[y.val,z.val,k]∧NdAt F w' y (bV nd).1∧NdAt F w' z (bV nd).2.1∧BsAt F w' k (bV nd).2.2)∧Grow w w'):=by
 have y3:=h.its.len;have x3:=bR h.kids;have u3:=h.kys.len;have k0:nd.items.length≤1000∧nd.kids.length≤1000:=by unfold aT at h9;omega
 refine V.calls (args:=[_]) Tryz.func162 rfl Tryz.ntmps162 rfl rfl ?_;repeat (first|refine dD ?_|refine yI λ bk w' hg e0 k0 x1=>?_)
 rename_i b1 w1 g1 k1 p1 p3 b2 w2 g2 k2 p2 o3
 cases hlf:bN nd with
 | true =>
  have l4:=hl hlf;have hA:(bV nd).1=⟨dT nd.items 4 nd.items.length,[],[]⟩:=by simp [bV,hlf]
  have hB:(bV nd).2.1=⟨dT nd.items 0 4,[],[]⟩:=by simp [bV,hlf]
  have n0:(bV nd).2.2=((dT nd.items 0 4).getD 0 ([],[])).1:=by simp [bV,hlf]
  rw [hA,hB,n0];repeat (first|refine dD ?_|(refine aB 80 ?_;refine aA rfl (eX h hlf _) rfl ?_;rintro _ _ ⟨rfl,j0⟩))
  rename_i w3;have e1:Blk w3 b1 79 x.cs:=(k1.grow (g2.trans hg)).grow j0;have e2:Blk w3 b2 79 nil3:=(k2.grow hg).grow j0;have e3:Blk w3 bk 79 nil3:=e0.grow j0;have p0:Grow w w3:=g1.trans (g2.trans (hg.trans j0));have z3:=p0.size;have zc:=j0.size;have q1:w.heap.size≤b1∧b1<b2∧b2<bk∧bk<w3.heap.size:=by have:=g1.size;omega
  obtain ⟨G,hG⟩:∃ G,G=Gap F w.heap.size w3.heap.size:=⟨_,rfl⟩
  have hN:NdAt G w3 x nd:=by rw [hG];exact nd_gap h p0
  have s0:∀ wq:World,w3.heap.size≤wq.heap.size→∀ k,wq.heap.size≤k→G k:=λ wq hq k hk=>by rw [hG];exact ⟨hF k oM,.inr oM⟩
  clear e0 hg j0 k1 k2 g1 g2 x1 p3 o3 p1 p2;apply T.any 10 [is (.pointer (some ⟨b1,0,none⟩)),is (.slice x.a1 x.n1 x.c1),is (.pointer (some ⟨b1,0,none⟩)),is (.slice x.a1 x.n1 x.c1),is (.int .i64 (x.n1:Int)),itsF G (x.n1-(x.n1-4)) (dT nd.items 4 x.n1),is (.pointer (some ⟨b1,0,none⟩)),is (.slice x.a1 x.n1 x.c1),itsF G (x.n1-(4-0)) (dT nd.items 0 4),is (.pointer (some ⟨b2,0,none⟩))]
  ·rfl
  ·repeat' (first|exact aN|refine aK ?_ ?_)
   iterate 5
    ·refine yQ λ wq _ _ g0=>?_;repeat refine dD ?_
     exact aD rfl yG rfl
   ·refine yQ λ wq _ _ g0=>?_;refine aB 81 ?_;refine aA rfl (cutI_c (F:=G) (s0 _ (by have:=g0.size;omega)) x.a1 x.n1 x.c1 4 x.n1 nd.items (hN.its.go (Carry.grow yG)) oM oM oM) rfl ?_;rintro v wr ⟨⟨a',c',rfl,hi⟩,z1⟩;repeat refine dD ?_
    exact aD rfl yG ⟨a',c',rfl,hi⟩
   iterate 2
    ·refine yQ λ wq _ _ g0=>?_;repeat refine dD ?_
     exact aD rfl yG rfl
   ·(((refine bW rfl rfl rfl ?_);( intro wq _ _ g0;(repeat (refine aJ rfl rfl ?_;intro vq a0;try (obtain rfl:=a0)));(refine aZ ?_))))
    refine aB 81 ?_;refine aA rfl (cutI_c (F:=G) (s0 _ (by have:=g0.size;omega)) x.a1 x.n1 x.c1 0 4 nd.items (hN.its.go (Carry.grow yG)) oM oM oM) rfl ?_;rintro v wr ⟨⟨a',c',rfl,hi⟩,z1⟩;repeat refine dD ?_
    exact aD rfl yG ⟨a',c',rfl,hi⟩
   iterate 1
    ·(((refine bW rfl rfl rfl ?_);( intro wq _ _ g0;(repeat (refine aJ rfl rfl ?_;intro vq a0;try (obtain rfl:=a0)));(refine aZ ?_))))
     repeat refine dD ?_
     exact aD rfl yG rfl
  ·intro w2 h4 p4 q3 _ _;iterate 5 (refine aJ rfl rfl ?_;intro vq a0;try (obtain rfl:=a0))
   refine aJ rfl rfl ?_;rintro v5 ⟨h2,f2,rfl,k3⟩;iterate 2 (refine aJ rfl rfl ?_;intro vq a0;try (obtain rfl:=a0))
   refine aJ rfl rfl ?_;rintro v8 ⟨l0,m1,rfl,j3⟩;iterate 1 (refine aJ rfl rfl ?_;intro vq a0;try (obtain rfl:=a0))
   refine aZ ?_;repeat (first|refine dD ?_|refine yJ λ w' hu e0 k0=>?_)
   rename_i w4 h0 m0 z4;have z2:=q3.size
   have h3:NdAt G w' ⟨h2,x.n1-(x.n1-4),f2,none,0,0,none,0,0⟩ ⟨dT nd.items 4 nd.items.length,[],[]⟩:=by
    rw [hG] at k3 ⊢;rw [← y3];exact ⟨(k3.go (Gap.up h0 oM oM)).go (Gap.up hu oM oM),iX,jG⟩
   have o2:NdAt G w' ⟨l0,x.n1-(4-0),m1,none,0,0,none,0,0⟩ ⟨dT nd.items 0 4,[],[]⟩:=by
    rw [hG] at j3 ⊢;exact ⟨(j3.go (Gap.up h0 oM oM)).go (Gap.up hu oM oM),iX,jG⟩
   have y2:Blk w' b2 79 [.slice h2 (x.n1-(x.n1-4)) f2,.slice none 0 0,.slice none 0 0]:=m0.upd hu oM;have x2:Blk w' bk 79 [.slice l0 (x.n1-(4-0)) m1,.slice none 0 0,.slice none 0 0]:=e0;have o0:Grow w w':=aH hu oM (aH h0 oM (p0.trans q3));obtain ⟨y0,u1⟩:∃ y,(dT nd.items 0 4)[0]? = some y:=⟨_,List.getElem?_eq_getElem (by rw [kK oM oM];omega)⟩
   obtain ⟨c4,z0,g3⟩:=o2.its.ex;obtain ⟨kv,vv,f0,f1,q0,b4⟩:=g3.at' u1
   have y1:BsAt G w' kv ((dT nd.items 0 4).getD 0 ([],[])).1:=by
    rw [List.getD_eq_getElem?_getD,u1];exact q0
   clear e0 m0 k3 j3
   apply T.det 9 [.agg #[.slice h2 (x.n1-(x.n1-4)) f2,.slice none 0 0,.slice none 0 0],.agg #[.slice l0 (x.n1-(4-0)) m1,.slice none 0 0,.slice none 0 0],.pointer (some ⟨bk,0,none⟩),.slice l0 (x.n1-(4-0)) m1,.pointer (some (at' l0 0)),.pointer (some (at' l0 0)),kv,undef,undef]
    (λ w1=>Blk w1 b2 79 [.slice h2 (x.n1-(x.n1-4)) f2,.slice none 0 0,.slice none 0 0]∧Blk w1 bk 79 [.slice l0 (x.n1-(4-0)) m1,.slice none 0 0,.slice none 0 0]∧Carry G w' G w1∧Grow w w1)
   ·rfl
   ·exact λ w1 h1=>⟨y2.grow h1,x2.grow h1,Carry.grow h1,o0.trans h1⟩
   ·repeat' (first|exact iZ|refine iB ?_ ?_)
    iterate 4
     ·refine mC rfl rfl rfl ?_;rintro wq ⟨i1,i2,i3,i4⟩;repeat refine dD ?_
      exact aG rfl ⟨i1,i2,i3,i4⟩
    ·refine mC rfl rfl rfl ?_;rintro wq ⟨i1,i2,i3,i4⟩;repeat (first|(refine aI ?_;refine aC (j:=0) rfl rfl rfl oM rfl ⟨G,_,z0.go i3⟩ rfl ?_)|refine yA ?_)
     exact aG rfl ⟨i1,i2,i3,i4⟩
    ·refine mC rfl rfl rfl ?_;rintro wq ⟨i1,i2,i3,i4⟩;repeat (first|(refine bM ?_;refine bJ (o:=0) rfl (z0.go i3) f0 rfl ?_)|refine yA ?_)
     exact aG rfl ⟨i1,i2,i3,i4⟩
    ·refine mC rfl rfl rfl ?_;rintro wq ⟨i1,i2,i3,i4⟩;have a4:wq.cell? (at' l0 0)=some kv:=(z0.go i3).row.cell f0;have d3:=y1.one;repeat refine dD ?_
     exact aG rfl ⟨i1,i2,i3,i4⟩
    ·refine mC rfl rfl rfl ?_;rintro wq ⟨i1,i2,i3,i4⟩;repeat (first|refine dD ?_|refine yJ λ w' hu e0 k0=>?_)
     refine gS ⟨e0,i2.upd hu oM,?_,aH hu oM i4⟩;rw [hG] at i3 ⊢;exact i3.trans (Gap.up hu oM oM)
    ·refine mC rfl rfl rfl ?_;rintro wq ⟨i1,i2,i3,i4⟩;repeat (first|refine dD ?_|refine yJ λ w' hu e0 k0=>?_)
     refine gS ⟨i1.upd hu oM,e0,?_,aH hu oM i4⟩;rw [hG] at i3 ⊢;exact i3.trans (Gap.up hu oM oM)
   ·rintro w9 ⟨i1,i2,i3,i4⟩;repeat refine dD ?_
    refine retCCT rfl (aW i1 rfl) rfl (aW i2 rfl) rfl ⟨_,rfl,⟨⟨h2,x.n1-(x.n1-4),f2,none,0,0,none,0,0⟩,⟨l0,x.n1-(4-0),m1,none,0,0,none,0,0⟩,kv,rfl,(h3.go i3).go ?_,(o2.go i3).go ?_,(y1.go i3).go ?_⟩,i4⟩<;>(rw [hG];exact Gap.out)
 | false =>
  obtain ⟨m4,j4,k4⟩:=hk hlf;have hA:(bV nd).1=⟨[],dT nd.kids 4 nd.kids.length,dT nd.keys 3 nd.keys.length⟩:=by simp [bV,hlf]
  have hB:(bV nd).2.1=⟨[],dT nd.kids 0 4,dT nd.keys 0 4⟩:=by simp [bV,hlf]
  have n0:(bV nd).2.2=nd.keys.getD 3 []:=by simp [bV,hlf]
  rw [hA,hB,n0];repeat (first|refine dD ?_|(refine aB 80 ?_;refine aA rfl (eX h hlf _) rfl ?_;rintro _ _ ⟨rfl,j0⟩))
  rename_i w3;have e1:Blk w3 b1 79 x.cs:=(k1.grow (g2.trans hg)).grow j0;have e2:Blk w3 b2 79 nil3:=(k2.grow hg).grow j0;have e3:Blk w3 bk 79 nil3:=e0.grow j0;have p0:Grow w w3:=g1.trans (g2.trans (hg.trans j0));have z3:=p0.size;have zc:=j0.size;have q1:w.heap.size≤b1∧b1<b2∧b2<bk∧bk<w3.heap.size:=by have:=g1.size;omega
  obtain ⟨G,hG⟩:∃ G,G=Gap F w.heap.size w3.heap.size:=⟨_,rfl⟩
  have hN:NdAt G w3 x nd:=by rw [hG];exact nd_gap h p0
  have s0:∀ wq:World,w3.heap.size≤wq.heap.size→∀ k,wq.heap.size≤k→G k:=λ wq hq k hk=>by rw [hG];exact ⟨hF k oM,.inr oM⟩
  clear e0 hg j0 k1 k2 g1 g2 x1 p3 o3 p1 p2;apply T.any 10 [is (.pointer (some ⟨b1,1,none⟩)),is (.slice x.a2 x.n2 x.c2),is (.pointer (some ⟨b1,1,none⟩)),is (.slice x.a2 x.n2 x.c2),is (.int .i64 (x.n2:Int)),kidF G (x.n2-(x.n2-4)) (dT nd.kids 4 x.n2),is (.pointer (some ⟨b1,1,none⟩)),is (.slice x.a2 x.n2 x.c2),kidF G (x.n2-(4-0)) (dT nd.kids 0 4),is (.pointer (some ⟨b2,1,none⟩))]
  ·rfl
  ·repeat' (first|exact aN|refine aK ?_ ?_)
   iterate 5
    ·refine yQ λ wq _ _ g0=>?_;repeat refine dD ?_
     exact aD rfl yG rfl
   ·refine yQ λ wq _ _ g0=>?_;refine aB 97 ?_;refine aA rfl (cutN_c (F:=G) (s0 _ (by have:=g0.size;omega)) x.a2 x.n2 x.c2 4 x.n2 nd.kids (hN.kids.grow yG) oM oM oM) rfl ?_;rintro v wr ⟨⟨a',c',rfl,hi⟩,z1⟩;repeat refine dD ?_
    exact aD rfl yG ⟨a',c',rfl,hi⟩
   iterate 2
    ·refine yQ λ wq _ _ g0=>?_;repeat refine dD ?_
     exact aD rfl yG rfl
   ·(((refine bW rfl rfl rfl ?_);( intro wq _ _ g0;(repeat (refine aJ rfl rfl ?_;intro vq a0;try (obtain rfl:=a0)));(refine aZ ?_))))
    refine aB 97 ?_;refine aA rfl (cutN_c (F:=G) (s0 _ (by have:=g0.size;omega)) x.a2 x.n2 x.c2 0 4 nd.kids (hN.kids.grow yG) oM oM oM) rfl ?_;rintro v wr ⟨⟨a',c',rfl,hi⟩,z1⟩;repeat refine dD ?_
    exact aD rfl yG ⟨a',c',rfl,hi⟩
   iterate 1
    ·(((refine bW rfl rfl rfl ?_);( intro wq _ _ g0;(repeat (refine aJ rfl rfl ?_;intro vq a0;try (obtain rfl:=a0)));(refine aZ ?_))))
     repeat refine dD ?_
     exact aD rfl yG rfl
  ·intro w4 g4 o4 d2 _ _;iterate 5 (refine aJ rfl rfl ?_;intro vq a0;try (obtain rfl:=a0))
   refine aJ rfl rfl ?_;rintro v5 ⟨x0,u0,rfl,u2⟩;iterate 2 (refine aJ rfl rfl ?_;intro vq a0;try (obtain rfl:=a0))
   refine aJ rfl rfl ?_;rintro v8 ⟨v0,t0,rfl,r2⟩;iterate 1 (refine aJ rfl rfl ?_;intro vq a0;try (obtain rfl:=a0))
   refine aZ ?_;repeat (first|refine dD ?_|refine yJ λ w' hu e0 k0=>?_)
   rename_i w4 h0 m0 z4;have z2:=d2.size
   have u4:Carry G w3 G w':=by
    rw [hG];exact (Carry.grow d2).trans ((Gap.up h0 oM oM).trans (Gap.up hu oM oM))
   have u5:Carry G w3 G w3:=Carry.mono λ k hk _=>hk;replace hN:=hN.go u4
   have u2:Sl G w' 1 x0 (x.n2-(x.n2-4)) u0 (bC (dT nd.kids 4 x.n2)):=by
    rw [hG] at u2 ⊢;exact u2.go ((Gap.up h0 oM oM).trans (Gap.up hu oM oM))
   have r2:Sl G w' 1 v0 (x.n2-(4-0)) t0 (bC (dT nd.kids 0 4)):=by
    rw [hG] at r2 ⊢;exact r2.go ((Gap.up h0 oM oM).trans (Gap.up hu oM oM))
   have y2:Blk w' b2 79 [.slice none 0 0,.slice x0 (x.n2-(x.n2-4)) u0,.slice none 0 0]:=m0.upd hu oM;have x2:Blk w' bk 79 [.slice none 0 0,.slice v0 (x.n2-(4-0)) t0,.slice none 0 0]:=e0;have r3:Blk w' b1 79 x.cs:=((e1.grow d2).upd h0 oM).upd hu oM;have o0:Grow w w':=aH hu oM (aH h0 oM (p0.trans d2));have z6:w3.heap.size≤w'.heap.size:=by omega
   clear e0 m0 h0 hu e1 e2 e3 u4 u5 k0;obtain ⟨w6,rfl⟩:=yE w';clear d2;apply T.any 10 [is (.pointer (some ⟨b1,2,none⟩)),is (.slice x.a3 x.n3 x.c3),is (.pointer (some ⟨b1,2,none⟩)),is (.slice x.a3 x.n3 x.c3),is (.int .i64 (x.n3:Int)),kysF G (x.n3-(x.n3-3)) (dT nd.keys 3 x.n3),is (.pointer (some ⟨b1,2,none⟩)),is (.slice x.a3 x.n3 x.c3),kysF G (x.n3-(4-0)) (dT nd.keys 0 4),is (.pointer (some ⟨b2,2,none⟩))]
   ·rfl
   ·repeat' (first|exact aN|refine aK ?_ ?_)
    iterate 5
     ·refine yQ λ wq _ _ g0=>?_;repeat refine dD ?_
      exact aD rfl yG rfl
    ·refine yQ λ wq _ _ g0=>?_;refine aB 194 ?_;refine aA rfl (cutK_c (F:=G) (s0 _ (by have:=g0.size;omega)) x.a3 x.n3 x.c3 3 x.n3 nd.keys (hN.kys.go (Carry.grow yG)) oM oM oM) rfl ?_;rintro v wr ⟨⟨a',c',rfl,hi⟩,z1⟩;repeat refine dD ?_
     exact aD rfl yG ⟨a',c',rfl,hi⟩
    iterate 2
     ·refine yQ λ wq _ _ g0=>?_;repeat refine dD ?_
      exact aD rfl yG rfl
    ·(((refine bW rfl rfl rfl ?_);( intro wq _ _ g0;(repeat (refine aJ rfl rfl ?_;intro vq a0;try (obtain rfl:=a0)));(refine aZ ?_))))
     refine aB 194 ?_;refine aA rfl (cutK_c (F:=G) (s0 _ (by have:=g0.size;omega)) x.a3 x.n3 x.c3 0 4 nd.keys (hN.kys.go (Carry.grow yG)) oM oM oM) rfl ?_;rintro v wr ⟨⟨a',c',rfl,hi⟩,z1⟩;repeat refine dD ?_
     exact aD rfl yG ⟨a',c',rfl,hi⟩
    iterate 1
     ·(((refine bW rfl rfl rfl ?_);( intro wq _ _ g0;(repeat (refine aJ rfl rfl ?_;intro vq a0;try (obtain rfl:=a0)));(refine aZ ?_))))
      repeat refine dD ?_
      exact aD rfl yG rfl
   ·intro w5 f4 n4 j2 _ _;iterate 5 (refine aJ rfl rfl ?_;intro vq a0;try (obtain rfl:=a0))
    refine aJ rfl rfl ?_;rintro v5 ⟨s1,o1,rfl,s2⟩;iterate 2 (refine aJ rfl rfl ?_;intro vq a0;try (obtain rfl:=a0))
    refine aJ rfl rfl ?_;rintro v8 ⟨r1,j1,rfl,q2⟩;iterate 1 (refine aJ rfl rfl ?_;intro vq a0;try (obtain rfl:=a0))
    refine aZ ?_;repeat (first|refine dD ?_|refine yJ λ w' hu e0 k0=>?_)
    rename_i e4 h0 m0 d4;have z5:=j2.size
    have u4:Carry G w6 G w':=by
     rw [hG];exact (Carry.grow j2).trans ((Gap.up h0 oM oM).trans (Gap.up hu oM oM))
    have s2:KysAt G w' s1 (x.n3-(x.n3-3)) o1 (dT nd.keys 3 x.n3):=by
     rw [hG] at s2 ⊢;exact s2.go ((Gap.up h0 oM oM).trans (Gap.up hu oM oM))
    have q2:KysAt G w' r1 (x.n3-(4-0)) j1 (dT nd.keys 0 4):=by
     rw [hG] at q2 ⊢;exact q2.go ((Gap.up h0 oM oM).trans (Gap.up hu oM oM))
    have t3:Blk w' b2 79 [.slice none 0 0,.slice x0 (x.n2-(x.n2-4)) u0,.slice s1 (x.n3-(x.n3-3)) o1]:=m0.upd hu oM;have s3:Blk w' bk 79 [.slice none 0 0,.slice v0 (x.n2-(4-0)) t0,.slice r1 (x.n3-(4-0)) j1]:=e0
    have h3:NdAt G w' ⟨none,0,0,x0,x.n2-(x.n2-4),u0,s1,x.n3-(x.n3-3),o1⟩ ⟨[],dT nd.kids 4 nd.kids.length,dT nd.keys 3 nd.keys.length⟩:=by
     rw [← x3,← u3];exact ⟨jZ,u2.go u4,s2⟩
    have o2:NdAt G w' ⟨none,0,0,v0,x.n2-(4-0),t0,r1,x.n3-(4-0),j1⟩ ⟨[],dT nd.kids 0 4,dT nd.keys 0 4⟩:=⟨jZ,r2.go u4,q2⟩
    have m3:Blk w' b1 79 x.cs:=((r3.grow j2).upd h0 oM).upd hu oM;have f3:Grow w w':=aH hu oM (aH h0 oM (o0.trans j2));obtain ⟨y0,u1⟩:∃ y,nd.keys[3]? = some y:=⟨_,List.getElem?_eq_getElem oM⟩
    obtain ⟨c4,z0,g3⟩:=(hN.kys.go u4).ex;obtain ⟨kv,f0,q0⟩:=g3.at' u1
    have y1:BsAt G w' kv (nd.keys.getD 3 []):=by
     rw [List.getD_eq_getElem?_getD,u1];exact q0
    clear e0 m0 r3 y2 x2
    apply T.det 8 [.agg #[.slice none 0 0,.slice x0 (x.n2-(x.n2-4)) u0,.slice s1 (x.n3-(x.n3-3)) o1],.agg #[.slice none 0 0,.slice v0 (x.n2-(4-0)) t0,.slice r1 (x.n3-(4-0)) j1],.pointer (some ⟨b1,2,none⟩),.slice x.a3 x.n3 x.c3,.pointer (some (at' x.a3 3)),kv,undef,undef]
     (λ w1=>Blk w1 b2 79 [.slice none 0 0,.slice x0 (x.n2-(x.n2-4)) u0,.slice s1 (x.n3-(x.n3-3)) o1]∧Blk w1 bk 79 [.slice none 0 0,.slice v0 (x.n2-(4-0)) t0,.slice r1 (x.n3-(4-0)) j1]∧Blk w1 b1 79 x.cs∧Carry G w' G w1∧Grow w w1)
    ·rfl
    ·exact λ w1 h1=>⟨t3.grow h1,s3.grow h1,m3.grow h1,Carry.grow h1,f3.trans h1⟩
    ·repeat' (first|exact iZ|refine iB ?_ ?_)
     iterate 4
      ·refine mC rfl rfl rfl ?_;rintro wq ⟨i1,i2,i0,i3,i4⟩;repeat refine dD ?_
       exact aG rfl ⟨i1,i2,i0,i3,i4⟩
     ·refine mC rfl rfl rfl ?_;rintro wq ⟨i1,i2,i0,i3,i4⟩;repeat (first|(refine aI ?_;refine aC (j:=3) rfl rfl rfl oM rfl ⟨G,_,z0.go i3⟩ rfl ?_)|refine yA ?_)
      exact aG rfl ⟨i1,i2,i0,i3,i4⟩
     ·refine mC rfl rfl rfl ?_;rintro wq ⟨i1,i2,i0,i3,i4⟩;have a4:wq.cell? (at' x.a3 3)=some kv:=(z0.go i3).row.cell f0;have d3:=y1.one;repeat refine dD ?_
      exact aG rfl ⟨i1,i2,i0,i3,i4⟩
     ·refine mC rfl rfl rfl ?_;rintro wq ⟨i1,i2,i0,i3,i4⟩;repeat (first|refine dD ?_|refine yJ λ w' hu e0 k0=>?_)
      refine gS ⟨e0,i2.upd hu oM,i0.upd hu oM,?_,aH hu oM i4⟩;rw [hG] at i3 ⊢;exact i3.trans (Gap.up hu oM oM)
     ·refine mC rfl rfl rfl ?_;rintro wq ⟨i1,i2,i0,i3,i4⟩;repeat (first|refine dD ?_|refine yJ λ w' hu e0 k0=>?_)
      refine gS ⟨i1.upd hu oM,e0,i0.upd hu oM,?_,aH hu oM i4⟩;rw [hG] at i3 ⊢;exact i3.trans (Gap.up hu oM oM)
    ·rintro w9 ⟨i1,i2,i0,i3,i4⟩;repeat refine dD ?_
     refine retCCT rfl (aW i1 rfl) rfl (aW i2 rfl) rfl ⟨_,rfl,⟨⟨none,0,0,x0,x.n2-(x.n2-4),u0,s1,x.n3-(x.n3-3),o1⟩,⟨none,0,0,v0,x.n2-(4-0),t0,r1,x.n3-(4-0),j1⟩,kv,rfl,(h3.go i3).go ?_,(o2.go i3).go ?_,(y1.go i3).go ?_⟩,i4⟩<;>(rw [hG];exact Gap.out)
end Go.Proofs.YtfpadnmdafiddaaGreatDoor
