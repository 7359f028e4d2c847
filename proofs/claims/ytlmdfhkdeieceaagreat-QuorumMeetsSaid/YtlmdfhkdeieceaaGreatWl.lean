import Derived.Test.YtlmdfhkdeieceaaGreatWg
import Derived.Test.YtlmdfhkdeieceaaGreatWk
set_option linter.all false
set_option maxHeartbeats 16000000
set_option maxRecDepth 100000
namespace Go.Proofs.YtlmdfhkdeieceaaGreat
open Go Go.E
set_option maxRecDepth 100000
theorem con76 [LoopTab] [Gl]:ConOk Tryz.prog 76 conCompare:=conCompare_ok Tryz.func76 rfl rfl (by kernel_rfl) ((by kernel_rfl:Extern.find _=Extern.allRows.lookup "internal/bytealg.Compare").trans compare_row)
noncomputable def conT:Tr Con:=(.nd .lf none (.nd (.nd .lf none (.nd .lf none (.nd (.nd (.nd .lf (some conCompare) .lf) none .lf) none .lf))) none .lf))
noncomputable def ctx1:Ctx:=⟨tyT,fnT,conT,wmT,.lf⟩
theorem conT_ok [Gl] (i:LoopTab):∀ f c,conT.get f=some c→ConOk Tryz.prog f c:=λ f c h=>Tr.all_get (p:=ConOk Tryz.prog) (t:=conT) ⟨trivial,trivial,⟨trivial,⟨trivial,trivial,⟨trivial,trivial,⟨trivial,⟨trivial,⟨con76,trivial,trivial⟩,trivial⟩,trivial⟩⟩⟩,trivial⟩⟩ f c h
theorem conT_p [Gl]:∀ f c,conT.get f=some c→S.ConP c:=λ f c h=>Tr.all_get (p:=λ _ c=>S.ConP c) (t:=conT) ⟨trivial,trivial,⟨trivial,⟨trivial,trivial,⟨trivial,trivial,⟨trivial,⟨trivial,⟨S.compare_conP,trivial,trivial⟩,trivial⟩,trivial⟩⟩⟩,trivial⟩⟩ f c h
theorem ctx1_ok [Gl]:CtxOk Tryz.prog ctx1:=⟨tyT_ok,fnT_ok,conT_ok,λ g c h=>(by cases h)⟩
end Go.Proofs.YtlmdfhkdeieceaaGreat
