import Derived.Test.YtoldjgmcoekchaaGreatDoorQE
import Derived.Test.YtoldjgmcoekchaaGreatDoorQF
import Derived.Test.YtoldjgmcoekchaaGreatDoorQG
import Derived.Test.YtoldjgmcoekchaaGreatDoorTie
import Derived.Test.YtoldjgmcoekchaaGreatDoorCards
import Derived.LaidLaws
import Derived.LaidHandle
import Derived.LaidMore
import Derived.ChangeVars
import Derived.JoinedOf
import Derived.SevenTiedAt
import Derived.Stop.Joined
set_option linter.unusedSimpArgs false
set_option linter.unusedVariables false
set_option linter.unusedSectionVars false
set_option maxHeartbeats 16000000
set_option maxRecDepth 100000
namespace Go.Proofs.YtoldjgmcoekchaaGreatDoor.lawViewNames
open Go Go.RowKit Go.V Go.E Go.ChangeShapes Go.WideShapes Go.ChangeAt
set_option maxRecDepth 1000000
set_option maxHeartbeats 0
attribute [local instance] glW
theorem gN:(Tryz.prog).globalNamed "math/bits.deBruijn64tab" = some 1:=by kernel_rfl
theorem calls (W:World) (h:laidMet Tryz.prog Rows.viewNamesRow.laid W):Calls Tryz.prog 3 #[] W (Ret λ x w'=>x=.bool true∧Grow W w'):=by
 letI:=tabOf ctx4
 obtain ⟨t,hr⟩:=rel_laid (name:="math/bits.deBruijn64tab") (zs:=tabZ) rfl gN (by kernel_rfl) h
 exact (top_gen (P:=Tryz.prog) (by kernel_rfl) ctx4_ok (fi:=fiOf Tryz.f3) (by kernel_rfl) (by kernel_rfl) [] [] 200 isT (h00 t) 1 _ W hr .nil (viewNames_run t)).mono λ e w' ⟨x,h1,⟨ρ',v,_,h2,h3⟩,hg⟩=>⟨x,h1,isT_ok h2 h3,hg⟩
theorem door_met (os:Os) (args:Array Value):laidMetH Tryz.prog Rows.viewNamesRow.laid ((World.doorLaid Tryz.prog 14 os).forCall (λ _ _=>0) ⟨#[],args,[]⟩).memory :=
 laidMetH_of_parts3 (fuel:=8) (laidMet_of_run' 8 (by kernel_rfl) (by kernel_rfl)) (by kernel_rfl) (by kernel_rfl)
theorem lifted (os:Os) (started:os.Started) (H:Type) (enc:TypeId×Value→H) :
  ReturnsInHanded {} Tryz.checked os 3 .any (λ w args=>(Rows.viewNamesSpec.pre enc Tryz.prog Tryz.f3 [] false w args∧laidMetH Tryz.prog Rows.viewNamesRow.laid w)∧sizedMet enc Tryz.prog Tryz.f3 (OpenSpec.ofChange Rows.viewNamesSpec) false w args)
   (Rows.viewNamesSpec.post enc Tryz.prog Tryz.f3 false true false false):=by
 refine returnsInHanded_of_change_and (C:=Tryz.checked) (X:=λ w _=>laidMetH Tryz.prog Rows.viewNamesRow.laid w) (λ _ _ _ hh h=>h.of_heap hh) godebug_own started (by kernel_rfl) Tryz.func3
  (ChangeSpec.witness_shaped (enc:=enc) (C:=Tryz.checked) (os:=os) (X:=λ w _=>laidMetH Tryz.prog Rows.viewNamesRow.laid w) false (World.doorLaid Tryz.prog 14 os) #[] 8 rfl (World.shaped_of_RefB (by kernel_rfl) (by kernel_rfl)) (by kernel_rfl) (by kernel_rfl) (by kernel_rfl) (door_met os _)) ?_
 intro W base args ds gs before hval0 hW _ _ hL _
 have hW':=hW
 obtain ⟨p,q,hA0,hV,rfl,hfz,hnd⟩:=hW
 have hA:DataW.TrodAll enc Tryz.prog W 0 (λ _=>true) true Tryz.f3.params.toList args.toList ds p:=hA0
 have hAll:=hA
 rw [Tryz.params3] at hA
 obtain ⟨hargs,rfl,rfl⟩:=trodAll_nil hA
 obtain rfl:args = #[]:=by cases args;simp_all
 obtain ⟨rfl,rfl⟩:=trodVars_none hV
 clear hA0 hval0
 rw [MakeChecks.laidMetH_plain _ _ _ (by kernel_rfl)] at hL
 refine (calls W hL).mono λ e W' ⟨v,he,hv,hg⟩=>?_
 subst he;subst hv
 exact ⟨_,rfl,_,_,_,[],_,[],hW',trodAll_mk1 (shut_bool Tryz.underlying4 _),kept_all laid_out hg.1 _ _ _ _ (by kernel_rfl) hAll,rfl,hg.1.frame _,λ h=>by cases h⟩
theorem row:Rows.ViewNamesSaid :=
 OpenClaim.holds_of_wide 3 Tryz.f3 rfl rfl rfl rfl rfl rfl rfl ⟨rfl,rfl,rfl,rfl,rfl⟩ rfl rfl rfl rfl rfl nm_viewNames Tryz.func3 jf_viewNames
  (of_decide_eq_true (by kernel_rfl)) (by unfold Func.isWrapper;first|(rw [if_pos (by decide +kernel)];kernel_rfl)|(rw [if_neg (by decide +kernel)];exact ⟨rfl,rfl⟩))
  (λ os started H enc _=>lifted os started H enc)
theorem proved:Rows.ViewNamesCardSaid :=
 Claim7.holds_tied_plain_at .later [] [.data] true (true,"416ae3b346d7dd83d882899f497c55ab1bc8c83335c125088f6e2f61312f0893") true
  row (λ _ h=>by cases h) (by kernel_rfl) (λ _ h=>by cases h) viewNames_row_tie rfl ⟨rfl,rfl⟩ (by kernel_rfl) rfl
  (λ f fn hf hfn=>by
   obtain rfl:f=3:=Option.some.inj (nm_viewNames.symm.trans hf) |>.symm
   obtain rfl:fn=Tryz.f3:=(Option.some.inj (Tryz.func3.symm.trans hfn)).symm
   exact ⟨by kernel_rfl,λ j t ht=>by
    rw [Tryz.params3] at ht
    simp at ht⟩)
  go_viewNames
end Go.Proofs.YtoldjgmcoekchaaGreatDoor.lawViewNames
