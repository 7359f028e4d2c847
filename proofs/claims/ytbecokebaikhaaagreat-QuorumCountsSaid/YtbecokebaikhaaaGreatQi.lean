import Derived.Test.YtbecokebaikhaaaGreatQd
import Derived.Test.YtbecokebaikhaaaGreatQh
set_option linter.unusedSimpArgs false
set_option linter.unusedVariables false
set_option linter.unusedSectionVars false
namespace Go.Proofs.YtbecokebaikhaaaGreat
open Go Go.E
set_option maxRecDepth 100000
theorem con141 [LoopTab] [Gl] : ConOk Tryz.prog 141 conCompare := conCompare_ok Tryz.func141 rfl rfl (by kernel_rfl) ((by kernel_rfl : Extern.find _ = Extern.allRows.lookup "internal/bytealg.Compare").trans compare_row)
noncomputable def conT : Tr Con := (.nd (.nd .lf none (.nd .lf none (.nd .lf none (.nd (.nd (.nd (.nd .lf (some conCompare) .lf) none .lf) none .lf) none .lf)))) none .lf)
noncomputable def ctx1 : Ctx := ⟨tyT, fnT, conT, wmT⟩
theorem conT_ok [Gl] (i : LoopTab) : ∀ f c, conT.get f = some c → ConOk Tryz.prog f c := fun f c h => Tr.all_get (p := ConOk Tryz.prog) (t := conT) ⟨trivial, ⟨trivial, trivial, ⟨trivial, trivial, ⟨trivial, trivial, ⟨trivial, ⟨trivial, ⟨trivial, ⟨con141, trivial, trivial⟩, trivial⟩, trivial⟩, trivial⟩⟩⟩⟩, trivial⟩ f c h
theorem conT_p [Gl] : ∀ f c, conT.get f = some c → S.ConP c := fun f c h => Tr.all_get (p := fun _ c => S.ConP c) (t := conT) ⟨trivial, ⟨trivial, trivial, ⟨trivial, trivial, ⟨trivial, trivial, ⟨trivial, ⟨trivial, ⟨trivial, ⟨S.compare_conP, trivial, trivial⟩, trivial⟩, trivial⟩, trivial⟩⟩⟩⟩, trivial⟩ f c h
theorem ctx1_ok [Gl] : CtxOk Tryz.prog ctx1 := ⟨tyT_ok, fnT_ok, conT_ok⟩
end Go.Proofs.YtbecokebaikhaaaGreat
