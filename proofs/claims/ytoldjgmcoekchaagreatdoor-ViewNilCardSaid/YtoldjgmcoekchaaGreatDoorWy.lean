import Derived.Test.YtoldjgmcoekchaaGreatDoorWt
import Derived.Test.YtoldjgmcoekchaaGreatDoorWu
import Derived.Test.YtoldjgmcoekchaaGreatDoorWv
import Derived.Test.YtoldjgmcoekchaaGreatDoorWw
import Derived.Test.YtoldjgmcoekchaaGreatDoorWx
set_option linter.all false
set_option maxHeartbeats 16000000
set_option maxRecDepth 100000
namespace Go.Proofs.YtoldjgmcoekchaaGreatDoor
open Go Go.RowKit Go.V Go.E
set_option maxRecDepth 1000000
set_option maxHeartbeats 0
attribute [local instance] glW
noncomputable def addC (t:Tr Con) (n:Nat) (c:Con):Tr Con:=Tr.put t 64 t n (some c) id
theorem addC_all {p:Nat→Con→Prop} {t:Tr Con} {n:Nat} {c:Con} (h:∀ f c,t.get f=some c→p f c) (hc:p n c):∀ f c',(addC t n c).get f=some c'→p f c':=by
 intro f c' hf
 rcases Tr.get_put (bad:=t) 64 t n (some c) id with e|⟨t',ht',e⟩
 ·unfold addC at hf;rw [e] at hf;exact h f c' hf
 ·unfold addC at hf
  rw [e] at hf
  have hf:t'.get f=some c':=hf
  rw [ht'] at hf
  split at hf
  ·rename_i e;subst e;cases hf;exact hc
  ·exact h f c' hf
theorem glW_0:∀ G k,Gl.tab G=some k→k=0:=λ G k h=>by
 have h:(bif Nat.beq G 1 then some 0 else none)=some k:=h
 cases hg:Nat.beq G 1 with
 | true=>rw [hg] at h;exact (Option.some.inj h).symm
 | false=>rw [hg] at h;cases h
theorem con2a [LoopTab]:ConOk Tryz.prog 161 (conTab tabA) :=
 conTab_ok (Γ:=ctx1j) (d:=200) (by kernel_rfl) ctx1j_ok (fi:=fiOf Tryz.f161) (by kernel_rfl) (by kernel_rfl) (fn161) glW_0 (λ e h=>by
  rcases List.mem_cons.1 h with rfl|h
  ·exact tabA0_run
  rcases List.mem_cons.1 h with rfl|h
  ·exact tabA1_run
  rcases List.mem_cons.1 h with rfl|h
  ·exact tabA2_run
  cases h)
theorem con2b [LoopTab]:ConOk Tryz.prog 172 (conTab tabB) :=
 conTab_ok (Γ:=ctx1j) (d:=200) (by kernel_rfl) ctx1j_ok (fi:=fiOf Tryz.f172) (by kernel_rfl) (by kernel_rfl) (fn172) glW_0 (λ e h=>by
  rcases List.mem_cons.1 h with rfl|h
  ·exact tabB0_run
  rcases List.mem_cons.1 h with rfl|h
  ·exact tabB1_run
  cases h)
noncomputable def conT2:Tr Con:=(addC (addC conTj 161 (conTab tabA)) 172 (conTab tabB))
theorem conT2_ok (i:LoopTab):∀ f c,conT2.get f=some c→ConOk Tryz.prog f c:=(addC_all (addC_all (conTj_ok i) con2a) con2b)
theorem conT2_p:∀ f c,conT2.get f=some c→S.ConP c:=(addC_all (addC_all conTj_p (conTab_p _)) (conTab_p _))
noncomputable def ctx2:Ctx:=⟨tyT,fnT,conT2,wmT,dfT⟩
theorem ctx2_ok:CtxOk Tryz.prog ctx2:=⟨tyT_ok,fnT_ok,conT2_ok,dfT_ok⟩
end Go.Proofs.YtoldjgmcoekchaaGreatDoor
