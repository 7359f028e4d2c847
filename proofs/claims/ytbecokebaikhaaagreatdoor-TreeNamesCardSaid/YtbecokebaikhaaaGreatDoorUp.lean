import Derived.Test.YtbecokebaikhaaaGreatDoorUd
import Derived.Test.YtbecokebaikhaaaGreatDoorUo
set_option linter.unusedSimpArgs false
set_option linter.unusedVariables false
set_option linter.unusedSectionVars false
namespace Go.Proofs.YtbecokebaikhaaaGreatDoor
open Go Go.E
set_option maxRecDepth 100000
theorem con212w [LoopTab] [Gl] : ConOk Tryz.prog 212 conPiece := conPiece_ok
theorem con217w [LoopTab] [Gl] : ConOk Tryz.prog 217 conRPiece := conRPiece_ok
noncomputable def conTw : Tr Con := (.nd (.nd .lf none (.nd (.nd .lf none (.nd .lf none (.nd (.nd .lf none (.nd .lf (some conRPiece) .lf)) none .lf))) none .lf)) none (.nd (.nd .lf none (.nd (.nd .lf none (.nd (.nd .lf none (.nd .lf (some conPiece) .lf)) none .lf)) none .lf)) none .lf))
noncomputable def ctx1w : Ctx := ⟨tyT, fnT, conTw, wmT⟩
theorem conTw_ok [Gl] (i : LoopTab) : ∀ f c, conTw.get f = some c → ConOk Tryz.prog f c := fun f c h => Tr.all_get (p := ConOk Tryz.prog) (t := conTw) ⟨trivial, ⟨trivial, trivial, ⟨trivial, ⟨trivial, trivial, ⟨trivial, trivial, ⟨trivial, ⟨trivial, trivial, ⟨con217w, trivial, trivial⟩⟩, trivial⟩⟩⟩, trivial⟩⟩, ⟨trivial, ⟨trivial, trivial, ⟨trivial, ⟨trivial, trivial, ⟨trivial, ⟨trivial, trivial, ⟨con212w, trivial, trivial⟩⟩, trivial⟩⟩, trivial⟩⟩, trivial⟩⟩ f c h
theorem conTw_p [Gl] : ∀ f c, conTw.get f = some c → S.ConP c := fun f c h => Tr.all_get (p := fun _ c => S.ConP c) (t := conTw) ⟨trivial, ⟨trivial, trivial, ⟨trivial, ⟨trivial, trivial, ⟨trivial, trivial, ⟨trivial, ⟨trivial, trivial, ⟨conRPiece_p, trivial, trivial⟩⟩, trivial⟩⟩⟩, trivial⟩⟩, ⟨trivial, ⟨trivial, trivial, ⟨trivial, ⟨trivial, trivial, ⟨trivial, ⟨trivial, trivial, ⟨conPiece_p, trivial, trivial⟩⟩, trivial⟩⟩, trivial⟩⟩, trivial⟩⟩ f c h
theorem ctx1w_ok [Gl] : CtxOk Tryz.prog ctx1w := ⟨tyT_ok, fnT_ok, conTw_ok⟩
end Go.Proofs.YtbecokebaikhaaaGreatDoor
