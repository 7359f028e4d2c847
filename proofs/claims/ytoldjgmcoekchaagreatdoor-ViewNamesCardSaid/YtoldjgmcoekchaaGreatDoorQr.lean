import Derived.Test.YtoldjgmcoekchaaGreatDoorQe
import Derived.Test.YtoldjgmcoekchaaGreatDoorQp
import Derived.Test.YtoldjgmcoekchaaGreatDoorQq
import Derived.Test.YtoldjgmcoekchaaGreatDoorQo
set_option linter.unusedSimpArgs false
set_option linter.unusedVariables false
set_option linter.unusedSectionVars false
set_option maxHeartbeats 16000000
set_option maxRecDepth 100000
namespace Go.Proofs.YtoldjgmcoekchaaGreatDoor
open Go Go.E
set_option maxRecDepth 100000
attribute [local instance] glW
theorem con120j [LoopTab]:ConOk Tryz.prog 120 conRPiece:=conRPiece_ok
theorem con241j [LoopTab]:ConOk Tryz.prog 241 (conNum gPlus4 byO):=conPlus4_ok
theorem con247j [LoopTab]:ConOk Tryz.prog 247 (conNum (two2 nB λ a b=>Nat.mod (Nat.mul a b) p25519) byO):=conMul_ok
theorem con248j [LoopTab]:ConOk Tryz.prog 248 (conNum (two2 nB λ a b=>Nat.mod (Nat.add a (Nat.sub p25519 (Nat.mod b p25519))) p25519) byO):=conSub_ok
theorem con250j [LoopTab]:ConOk Tryz.prog 250 (conNum (two2 nB λ a b=>Nat.mod (Nat.add a b) p25519) byO):=conAdd_ok
theorem con268j [LoopTab]:ConOk Tryz.prog 268 conPiece:=conPiece_ok
theorem con273j [LoopTab]:ConOk Tryz.prog 273 conCompare:=conCompare_ok Tryz.func273 rfl rfl (by kernel_rfl) ((by kernel_rfl:Extern.find _=Extern.allRows.lookup "internal/bytealg.Compare").trans compare_row)
theorem con312j [LoopTab]:ConOk Tryz.prog 312 (conNum (one1 nB λ a=>Nat.mod a p25519) wdO):=conOpen_ok
theorem con318j [LoopTab]:ConOk Tryz.prog 318 (conNum (one1 tenOf λ a=>Nat.mod a p25519) byO):=conClose_ok
theorem con319j [LoopTab]:ConOk Tryz.prog 319 (conNum (two2 tenOf λ a b=>Nat.mod (Nat.mul a b) p25519) wdO):=conTimes_ok
theorem con332j [LoopTab]:ConOk Tryz.prog 332 (conNum (two2 nB λ a e=>pmJ 256 a e) byO):=conPow_ok
theorem con369j [LoopTab]:ConOk Tryz.prog 369 (conNum (two2 tenOf λ a b=>Nat.mod (Nat.add a (Nat.sub p25519 (Nat.mod b p25519))) p25519) wdO):=conMinus_ok
theorem con372j [LoopTab]:ConOk Tryz.prog 372 (conNum (two2 tenOf λ a b=>Nat.mod (Nat.add a b) p25519) wdO):=conPlus_ok
theorem con407j [LoopTab]:ConOk Tryz.prog 407 conSb:=conSb_ok Tryz.func407 rfl rfl (by kernel_rfl) ((by kernel_rfl:Extern.find _=Extern.allRows.lookup "math/bits.Sub64").trans sub_row)
noncomputable def conTj:Tr Con:=(.nd (.nd (.nd (.nd (.nd (.nd (.nd .lf none (.nd (.nd .lf (some (conNum (two2 tenOf λ a b=>Nat.mod (Nat.mul a b) p25519) wdO)) .lf) none .lf)) none .lf) none .lf) none (.nd .lf none (.nd (.nd (.nd .lf none (.nd .lf (some conSb) .lf)) none .lf) none (.nd .lf none (.nd .lf (some (conNum (two2 nB λ a b=>Nat.mod (Nat.mul a b) p25519) byO)) .lf))))) none .lf) none (.nd (.nd (.nd .lf none (.nd (.nd (.nd (.nd .lf (some conCompare) .lf) none .lf) none .lf) none (.nd .lf none (.nd (.nd .lf (some (conNum (two2 tenOf λ a b=>Nat.mod (Nat.add a (Nat.sub p25519 (Nat.mod b p25519))) p25519) wdO)) .lf) (some (conNum gPlus4 byO)) .lf)))) none .lf) none .lf)) none (.nd (.nd (.nd .lf none (.nd .lf none (.nd .lf none (.nd (.nd (.nd .lf (some (conNum (one1 nB λ a=>Nat.mod a p25519) wdO)) .lf) none .lf) (some conRPiece) (.nd .lf (some (conNum (two2 nB λ a b=>Nat.mod (Nat.add a (Nat.sub p25519 (Nat.mod b p25519))) p25519) byO)) .lf))))) none (.nd (.nd .lf none (.nd .lf none (.nd .lf none (.nd (.nd .lf (some (conNum (two2 tenOf λ a b=>Nat.mod (Nat.add a b) p25519) wdO)) .lf) none .lf)))) none (.nd (.nd (.nd (.nd (.nd .lf (some conPiece) .lf) none .lf) none (.nd (.nd .lf (some (conNum (two2 nB λ a e=>pmJ 256 a e) byO)) .lf) none .lf)) none .lf) none .lf))) none (.nd (.nd .lf none (.nd .lf none (.nd .lf none (.nd .lf none (.nd .lf (some (conNum (two2 nB λ a b=>Nat.mod (Nat.add a b) p25519) byO)) .lf))))) none (.nd .lf none (.nd .lf none (.nd .lf none (.nd (.nd (.nd .lf (some (conNum (one1 tenOf λ a=>Nat.mod a p25519) byO)) .lf) none .lf) none .lf)))))))
noncomputable def dfT:Tr (List A→H→Bool):=(.nd .lf none (.nd .lf none (.nd (.nd .lf none (.nd (.nd .lf (some dfE) .lf) none .lf)) none .lf)))
theorem dfT_ok:∀ g c,dfT.get g=some c→DfOk Tryz.prog g c:=λ g c h=>Tr.all_get (p:=DfOk Tryz.prog) (t:=dfT) ⟨trivial,trivial,⟨trivial,trivial,⟨trivial,⟨trivial,trivial,⟨trivial,⟨dfE_ok,trivial,trivial⟩,trivial⟩⟩,trivial⟩⟩⟩ g c h
noncomputable def ctx1j:Ctx:=⟨tyT,fnT,conTj,wmT,dfT⟩
theorem conTj_ok (i:LoopTab):∀ f c,conTj.get f=some c→ConOk Tryz.prog f c:=λ f c h=>Tr.all_get (p:=ConOk Tryz.prog) (t:=conTj) ⟨trivial,⟨trivial,⟨trivial,⟨trivial,⟨trivial,⟨trivial,⟨trivial,trivial,⟨trivial,⟨con319j,trivial,trivial⟩,trivial⟩⟩,trivial⟩,trivial⟩,⟨trivial,trivial,⟨trivial,⟨trivial,⟨trivial,trivial,⟨con407j,trivial,trivial⟩⟩,trivial⟩,⟨trivial,trivial,⟨con247j,trivial,trivial⟩⟩⟩⟩⟩,trivial⟩,⟨trivial,⟨trivial,⟨trivial,trivial,⟨trivial,⟨trivial,⟨trivial,⟨con273j,trivial,trivial⟩,trivial⟩,trivial⟩,⟨trivial,trivial,⟨con241j,⟨con369j,trivial,trivial⟩,trivial⟩⟩⟩⟩,trivial⟩,trivial⟩⟩,⟨trivial,⟨trivial,⟨trivial,trivial,⟨trivial,trivial,⟨trivial,trivial,⟨con120j,⟨trivial,⟨con312j,trivial,trivial⟩,trivial⟩,⟨con248j,trivial,trivial⟩⟩⟩⟩⟩,⟨trivial,⟨trivial,trivial,⟨trivial,trivial,⟨trivial,trivial,⟨trivial,⟨con372j,trivial,trivial⟩,trivial⟩⟩⟩⟩,⟨trivial,⟨trivial,⟨trivial,⟨trivial,⟨con268j,trivial,trivial⟩,trivial⟩,⟨trivial,⟨con332j,trivial,trivial⟩,trivial⟩⟩,trivial⟩,trivial⟩⟩⟩,⟨trivial,⟨trivial,trivial,⟨trivial,trivial,⟨trivial,trivial,⟨trivial,trivial,⟨con250j,trivial,trivial⟩⟩⟩⟩⟩,⟨trivial,trivial,⟨trivial,trivial,⟨trivial,trivial,⟨trivial,⟨trivial,⟨con318j,trivial,trivial⟩,trivial⟩,trivial⟩⟩⟩⟩⟩⟩⟩ f c h
theorem conTj_p:∀ f c,conTj.get f=some c→S.ConP c:=λ f c h=>Tr.all_get (p:=λ _ c=>S.ConP c) (t:=conTj) ⟨trivial,⟨trivial,⟨trivial,⟨trivial,⟨trivial,⟨trivial,⟨trivial,trivial,⟨trivial,⟨conNum_p _ _,trivial,trivial⟩,trivial⟩⟩,trivial⟩,trivial⟩,⟨trivial,trivial,⟨trivial,⟨trivial,⟨trivial,trivial,⟨conSb_p,trivial,trivial⟩⟩,trivial⟩,⟨trivial,trivial,⟨conNum_p _ _,trivial,trivial⟩⟩⟩⟩⟩,trivial⟩,⟨trivial,⟨trivial,⟨trivial,trivial,⟨trivial,⟨trivial,⟨trivial,⟨S.compare_conP,trivial,trivial⟩,trivial⟩,trivial⟩,⟨trivial,trivial,⟨conNum_p _ _,⟨conNum_p _ _,trivial,trivial⟩,trivial⟩⟩⟩⟩,trivial⟩,trivial⟩⟩,⟨trivial,⟨trivial,⟨trivial,trivial,⟨trivial,trivial,⟨trivial,trivial,⟨conRPiece_p,⟨trivial,⟨conNum_p _ _,trivial,trivial⟩,trivial⟩,⟨conNum_p _ _,trivial,trivial⟩⟩⟩⟩⟩,⟨trivial,⟨trivial,trivial,⟨trivial,trivial,⟨trivial,trivial,⟨trivial,⟨conNum_p _ _,trivial,trivial⟩,trivial⟩⟩⟩⟩,⟨trivial,⟨trivial,⟨trivial,⟨trivial,⟨conPiece_p,trivial,trivial⟩,trivial⟩,⟨trivial,⟨conNum_p _ _,trivial,trivial⟩,trivial⟩⟩,trivial⟩,trivial⟩⟩⟩,⟨trivial,⟨trivial,trivial,⟨trivial,trivial,⟨trivial,trivial,⟨trivial,trivial,⟨conNum_p _ _,trivial,trivial⟩⟩⟩⟩⟩,⟨trivial,trivial,⟨trivial,trivial,⟨trivial,trivial,⟨trivial,⟨trivial,⟨conNum_p _ _,trivial,trivial⟩,trivial⟩,trivial⟩⟩⟩⟩⟩⟩⟩ f c h
theorem ctx1j_ok:CtxOk Tryz.prog ctx1j:=⟨tyT_ok,fnT_ok,conTj_ok,dfT_ok⟩
end Go.Proofs.YtoldjgmcoekchaaGreatDoor
