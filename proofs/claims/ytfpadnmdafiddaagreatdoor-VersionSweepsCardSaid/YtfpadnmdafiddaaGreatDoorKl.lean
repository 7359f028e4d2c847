import Derived.Test.YtfpadnmdafiddaaGreatDoorKg
import Derived.Test.YtfpadnmdafiddaaGreatDoorKk
import Derived.Test.YtfpadnmdafiddaaGreatDoorTie
import Derived.Test.YtfpadnmdafiddaaGreatDoorCards
import Derived.LaidHandle
import Derived.LaidMore
import Derived.ChangeVars
import Derived.JoinedOf
import Derived.SevenTiedAt
import Derived.Stop.Joined
set_option linter.all false
namespace Go.Proofs.YtfpadnmdafiddaaGreatDoor.lawVersionSweeps
open Go Go.RowKit Go.V Go.ChangeShapes Go.WideShapes Go.ChangeAt
set_option maxRecDepth 1000000
theorem gN:(Tryz.prog).globalNamed "math/bits.deBruijn64tab" = some 0:=by kernel_rfl
theorem cells_sl {H:Type} {enc:TypeId×Value→H} {P:Program} {w:World} {r:Reach} {b0:Nat} {t e:TypeId} {v:Value} {d:DataW H} {ps:List MemPlace} (ht:P.underlying t=some (.slice e)) (hval:Value.okWide P w r b0 t v) (hd:DataW.Trod enc P w 0 (λ _=>true) true t v d ps) :
  ∃ fuel,DataW.trod enc P w 0 (λ _=>true) true fuel t [v]=some (d,ps):=by
 obtain ⟨fuel,hf⟩:=hd
 refine ⟨fuel,?_⟩
 have:v.cells.toList=[v]:=by
  simp only [Value.okWide,ht,Cell.okWide] at hval
  cases v<;>simp_all [Cell.ok,Value.cells]
 rwa [this] at hf
theorem door_met (os:Os) (args:Array Value):laidMetH Tryz.prog Rows.versionSweepsRow.laid ((World.doorLaid Tryz.prog 14 os).forCall (λ _ _=>0) ⟨#[],args,[]⟩).memory :=
 laidMetH_of_parts3 (fuel:=8) (laidMet_of_run' 8 (by kernel_rfl) (by kernel_rfl)) (by kernel_rfl) (by kernel_rfl)
theorem lifted (os:Os) (started:os.Started) (H:Type) (enc:TypeId×Value→H) :
  ReturnsInHanded {} Tryz.checked os 12 .any (λ w args=>(Rows.versionSweepsSpec.pre enc Tryz.prog Tryz.f12 [] false w args∧laidMetH Tryz.prog Rows.versionSweepsRow.laid w)∧sizedMet enc Tryz.prog Tryz.f12 (OpenSpec.ofChange Rows.versionSweepsSpec) false w args)
   (Rows.versionSweepsSpec.post enc Tryz.prog Tryz.f12 false true false false):=by
 refine returnsInHanded_of_change_and (C:=Tryz.checked) (X:=λ w _=>laidMetH Tryz.prog Rows.versionSweepsRow.laid w) (λ _ _ _ hh h=>h.of_heap hh) godebug_own started (by kernel_rfl) Tryz.func12
  (ChangeSpec.witness_shaped (enc:=enc) (C:=Tryz.checked) (os:=os) (X:=λ w _=>laidMetH Tryz.prog Rows.versionSweepsRow.laid w) false (World.doorLaid Tryz.prog 14 os) #[.slice none 0 0] 8 rfl (World.shaped_of_RefB (by kernel_rfl) (by kernel_rfl)) (by kernel_rfl) (by kernel_rfl) (by kernel_rfl) (door_met os _)) ?_
 intro W base args ds gs before hval0 hW _ _ hL _
 have hval:∀ (j:Nat) t v,Tryz.f12.params[j]? = some t→args[j]? = some v→Value.okWide Tryz.prog W .any base t v:=hval0
 have hW':=hW
 obtain ⟨p,q,hA0,hV,rfl,hfz,hnd⟩:=hW
 have hA:DataW.TrodAll enc Tryz.prog W 0 (λ _=>true) true Tryz.f12.params.toList args.toList ds p:=hA0
 have hAll:=hA
 rw [Tryz.params12] at hA hval
 obtain ⟨v0,vs0,d0,ds0,p0,q0,hargs,rfl,rfl,h0,r0⟩:=trodAll_cons hA
 obtain ⟨rfl,rfl,rfl⟩:=trodAll_nil r0
 obtain rfl:args = #[v0]:=by cases args;simp_all
 obtain ⟨rfl,rfl⟩:=trodVars_none hV
 obtain ⟨fu,hy0⟩:=cells_sl Tryz.underlying117 (hval 0 117 v0 rfl rfl) h0
 obtain ⟨a,n,c,css,rfl,hcl,hs,hcs⟩:=sls_in (sz:=4) Tryz.underlying117 (by kernel_rfl) (by omega) hy0
 obtain ⟨l,hact,hll,hl⟩:=acts4_in hcs
 clear hA0 hval0
 rw [MakeChecks.laidMetH_plain _ _ _ (by kernel_rfl)] at hL
 have htab:TabAt W:=tab_laid (name:="math/bits.deBruijn64tab") rfl gN (by kernel_rfl) hL
 refine (sweeps_c htab hs hact (by omega) (λ x hx=>(hl x hx).2) (λ x hx=>(hl x hx).1)).mono λ e W' ⟨v,he,hv,hg⟩=>?_
 subst he;subst hv
 exact ⟨_,rfl,_,_,_,[],_,[],hW',trodAll_mk1 (shut_bool Tryz.underlying4 _),kept_all laid_out hg.1 _ _ _ _ (by kernel_rfl) hAll,rfl,hg.1.frame _,λ h=>by cases h⟩
end Go.Proofs.YtfpadnmdafiddaaGreatDoor.lawVersionSweeps
