/-
  The contracts of this seat's translation. Written by a program of mine (congen.py).
-/
import Derived.Test.YtbecokebaikhaaaGreatEx
import Derived.Test.YtbecokebaikhaaaGreatSv
namespace Go.Proofs.YtbecokebaikhaaaGreat
open Go Go.E
set_option maxRecDepth 100000
theorem con141 : ConOk Tryz.prog 141 conCompare := conCompare_ok Tryz.func141 rfl rfl (by kernel_rfl) ((by kernel_rfl : Extern.find _ = Extern.allRows.lookup "internal/bytealg.Compare").trans compare_row)
noncomputable def conT : Tr Con := (.nd (.nd .lf none (.nd .lf none (.nd .lf none (.nd (.nd (.nd (.nd .lf (some conCompare) .lf) none .lf) none .lf) none .lf)))) none .lf)
noncomputable def ctx1 : Ctx := ⟨tyT, fnT, conT⟩
theorem conT_ok : ∀ f c, conT.get f = some c → ConOk Tryz.prog f c := fun f c h => Tr.all_get (p := ConOk Tryz.prog) (t := conT) ⟨trivial, ⟨trivial, trivial, ⟨trivial, trivial, ⟨trivial, trivial, ⟨trivial, ⟨trivial, ⟨trivial, ⟨con141, trivial, trivial⟩, trivial⟩, trivial⟩, trivial⟩⟩⟩⟩, trivial⟩ f c h
theorem conT_p : ∀ f c, conT.get f = some c → S.ConP c := fun f c h => Tr.all_get (p := fun _ c => S.ConP c) (t := conT) ⟨trivial, ⟨trivial, trivial, ⟨trivial, trivial, ⟨trivial, trivial, ⟨trivial, ⟨trivial, ⟨trivial, ⟨S.compare_conP, trivial, trivial⟩, trivial⟩, trivial⟩, trivial⟩⟩⟩⟩, trivial⟩ f c h
theorem ctx1_ok : CtxOk Tryz.prog ctx1 := ⟨tyT_ok, fnT_ok, conT_ok⟩
end Go.Proofs.YtbecokebaikhaaaGreat
