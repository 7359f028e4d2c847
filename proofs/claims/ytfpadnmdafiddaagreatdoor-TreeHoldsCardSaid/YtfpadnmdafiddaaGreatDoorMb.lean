import Derived.Test.YtfpadnmdafiddaaGreatDoorMa
import Derived.Test.YtfpadnmdafiddaaGreatDoorRows
import Derived.ProofKit
import Derived.OpenShut
import Derived.ShutString
import Derived.ChangeOld
import Derived.Below
import Derived.Lib.SmallJoins
set_option linter.all false
set_option maxHeartbeats 16000000
set_option maxRecDepth 100000
namespace Go.Proofs.YtfpadnmdafiddaaGreatDoor
open Go Go.RowKit Go.V Go.ChangeShapes Go.WideShapes Go.ChangeAt
theorem godebug_own:ownKnob Tryz.prog.godebug=none:=by kernel_rfl
theorem laid_out:laidOutB Tryz.prog=true:=by kernel_rfl
section
variable {H:Type} {enc:TypeId×Value→H} {P:Program} {W W':World}
theorem kept_all (hl:laidOutB P=true) (hb:Below W.heap.size W W'):∀ (ts:List TypeId) (vs:List Value) (ds:List (DataW H)) (ps:List MemPlace),
  (ts.all λ t=>P.readableRec t&&decide (t<P.types.size))=true→DataW.TrodAll enc P W 0 (λ _=>true) true ts vs ds ps→DataW.TrodAll enc P W' 0 (λ b=>decide (b<W.heap.size)) true ts vs ds ps
 | [],[],[],_,_,h=>h
 | t::ts,v::vs,d::ds,_,hr,⟨p,q,h1,h2,h3⟩=>by
  simp only [List.all_cons,Bool.and_eq_true,decide_eq_true_eq] at hr
  refine ⟨p,q,Below.trod hl hr.1.1 hr.1.2 h1 hb ?_,kept_all hl hb ts vs ds q (by simpa using hr.2) h2,h3⟩
  obtain ⟨m,hm⟩:=h1
  exact DataW.trod_lt m _ _ _ hm
 | [],[],_::_,_,_,h=>h.elim
 | [],_::_,_,_,_,h=>by cases ‹List (DataW H)›<;>exact h.elim
 | _::_,[],_,_,_,h=>by cases ‹List (DataW H)›<;>exact h.elim
 | _::_,_::_,[],_,_,h=>h.elim
theorem sl_in {t e:TypeId} {k:IntKind} {fuel:Nat} {c:Value} {x:DataW H×List MemPlace} (ht:P.underlying t=some (.slice e)) (he:P.underlying e=some (.int k)) (hc:P.cellsOf e=1)
  (h:DataW.trod enc P W 0 (λ _=>true) true fuel t [c]=some x) :
  ∃ (a:Option Addr) (n m:Nat) (zs:List Int),c=.slice a n m∧Sl (λ k=>k<W.heap.size) W 1 a n m (zs.map (Value.int k))∧∀ z∈zs,(Lit.int k z).wf=true:=by
 rcases open_ints ht he hc h with ⟨hcs,_⟩|⟨p,n,m,zs,hcs,_,hl,hm,hz,_,hcell,hwz⟩
 ·simp only [List.cons.injEq,and_true] at hcs
  subst hcs
  exact ⟨none,0,0,[],rfl,Sl.nil_mk _ _ _,by simp⟩
 ·simp only [List.cons.injEq,and_true] at hcs
  subst hcs
  have hz':zs.length=m:=by simpa using hz
  refine ⟨some p,n,m,zs.take n,rfl,⟨by simp;omega,hl,hm,(λ h=>by cases h),λ hn=>?_⟩,λ z hz=>hwz z (List.mem_of_mem_take hz)⟩
  have hpos:0<zs.length:=by
   rcases Nat.eq_zero_or_pos zs.length with h0|h0
   ·exact absurd (by rw [List.eq_nil_of_length_eq_zero h0];simp) hn
   ·exact h0
  have h0:=hcell 0 hpos
  rw [show p.add 0=p from rfl] at h0
  have hs:p.spot=none:=World.cell?_spot h0
  obtain ⟨b,o,s⟩:=p
  simp only at hs
  subst hs
  refine ⟨rfl,World.block_lt_of_cell? W _ h0,World.block_lt_of_cell? W _ h0,λ j v hj=>?_⟩
  have hjl:j<zs.length:=by
   have:=(List.getElem?_eq_some_iff.1 hj).1
   simp at this;omega
  have:=hcell j hjl
  rw [Addr.add_lit] at this
  rw [this]
  simp only [List.getElem?_map,List.getElem?_take] at hj
  split at hj
  ·simp [hjl] at hj
   simp [hj,hjl]
  ·simp at hj
end
end Go.Proofs.YtfpadnmdafiddaaGreatDoor
