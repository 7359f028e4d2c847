import Derived.Test.YtoldjgmcoekchaaGreatDoorWd
set_option linter.all false
set_option maxHeartbeats 16000000
set_option maxRecDepth 100000
namespace Go.E
open Go Go.RowKit Go.V
variable [Gl] [LoopTab]
theorem Stp.ofGrow {fl fd:Nat} {ρ : Plc} {g:Hp} {nx:Nat} {w w':World} (hr:Rel ρ g nx w) (hg:Grow w w'):Stp fl fd ρ g nx w ρ g nx w':=by
 have hold:∀ k,k<w.heap.size→w'.heap[k]? = w.heap[k]?:=λ k hk=>hg.1.block k hk
 refine ⟨λ _ _ h=>h,Nat.le_refl _,⟨λ b p hp=>?_,λ b B hB=>?_,hr.inj,hr.gl⟩,λ _ _ h=>.inl h,λ _ _=>.inl rfl,λ b p h1 h2=>.inl ⟨h1,h2⟩,hg.1.os,hg.1.tape,hg.1.output,hg.2,λ k hk _=>hold k hk,λ k ⟨r,hk⟩=>⟨r,(hold k (Array.getElem?_eq_some_iff.1 hk).1).trans hk⟩⟩
 ·have:=hr.dom b p hp;have:=hg.2;omega
 ·obtain ⟨p,hp,hb⟩:=hr.blk b B hB
  refine ⟨p,hp,?_⟩
  rw [hold _ (hr.dom b p hp).2]
  exact hb
theorem enters_of {P:Program} {f:FuncId} {fi:FI} (hf:FnOk P f fi) (xs:Array Value) (w:World):(callFunc f xs).run P w=.ok (.enter f xs) w:=by
 obtain ⟨fn,e1,e2,e3,e4,e5⟩:=hf.ent.ex
 have e5':¬ fn.name = "runtime.NumGoroutine":=by simpa using e5
 simp [callFunc,e1,e2,e5']
noncomputable def nK {R:Type} (n:Nat) (k:Nat→R):R:=Nat.rec (motive:=λ _=>R) (k 0) (λ x _=>k (Nat.succ x)) n
omit [Gl] [LoopTab] in
theorem nK_eq {R:Type} (n:Nat) (k:Nat→R):nK n k=k n:=by cases n<;>rfl
end Go.E
