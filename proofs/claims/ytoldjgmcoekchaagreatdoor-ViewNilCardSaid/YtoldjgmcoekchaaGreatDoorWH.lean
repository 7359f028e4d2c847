import Derived.Test.YtoldjgmcoekchaaGreatDoorWE
import Derived.Test.YtoldjgmcoekchaaGreatDoorWF
import Derived.Test.YtoldjgmcoekchaaGreatDoorWG
import Derived.Test.YtoldjgmcoekchaaGreatDoorTie
import Derived.Test.YtoldjgmcoekchaaGreatDoorCards
import Derived.LaidLaws
import Derived.LaidHandle
import Derived.LaidMore
import Derived.ChangeVars
import Derived.JoinedOf
import Derived.SevenTiedAt
import Derived.Stop.Joined
set_option linter.all false
set_option maxHeartbeats 16000000
set_option maxRecDepth 100000
namespace Go.Proofs.YtoldjgmcoekchaaGreatDoor.lawViewNil
open Go Go.RowKit Go.V Go.E Go.ChangeShapes Go.WideShapes Go.ChangeAt
set_option maxRecDepth 1000000
attribute [local instance] glW
theorem gN:(Tryz.prog).globalNamed "math/bits.deBruijn64tab" = some 1:=by kernel_rfl
theorem door_met (os:Os) (args:Array Value):laidMetH Tryz.prog Rows.viewNilRow.laid ((World.doorLaid Tryz.prog 14 os).forCall (λ _ _=>0) ⟨#[],args,[]⟩).memory :=
 laidMetH_of_parts3 (fuel:=8) (laidMet_of_run' 8 (by kernel_rfl) (by kernel_rfl)) (by kernel_rfl) (by kernel_rfl)
theorem lifted (os:Os) (started:os.Started) (H:Type) (enc:TypeId×Value→H) :
  ReturnsInHanded {} Tryz.checked os 4 .any (λ w args=>(Rows.viewNilSpec.pre enc Tryz.prog Tryz.f4 [] false w args∧laidMetH Tryz.prog Rows.viewNilRow.laid w)∧sizedMet enc Tryz.prog Tryz.f4 (OpenSpec.ofChange Rows.viewNilSpec) false w args)
   (Rows.viewNilSpec.post enc Tryz.prog Tryz.f4 false true false false):=by
 refine returnsInHanded_of_change_and (C:=Tryz.checked) (X:=λ w _=>laidMetH Tryz.prog Rows.viewNilRow.laid w) (λ _ _ _ hh h=>h.of_heap hh) godebug_own started (by kernel_rfl) Tryz.func4
  (ChangeSpec.witness_shaped (enc:=enc) (C:=Tryz.checked) (os:=os) (X:=λ w _=>laidMetH Tryz.prog Rows.viewNilRow.laid w) false (World.doorLaid Tryz.prog 14 os) #[.slice none 0 0,.int .i64 0,.slice none 0 0,.agg #[.slice none 0 0,.slice none 0 0,.bool false,.int .i64 0]] 8 rfl (World.shaped_of_RefB (by kernel_rfl) (by kernel_rfl)) (by kernel_rfl) (by kernel_rfl) (by kernel_rfl) (door_met os _)) ?_
 intro W base args ds gs before hval0 hW _ _ hL _
 have hval:∀ (j:Nat) t v,Tryz.f4.params[j]? = some t→args[j]? = some v→Value.okWide Tryz.prog W .any base t v:=hval0
 have hW':=hW
 obtain ⟨p,q,hA0,hV,rfl,hfz,hnd⟩:=hW
 have hA:DataW.TrodAll enc Tryz.prog W 0 (λ _=>true) true Tryz.f4.params.toList args.toList ds p:=hA0
 have hAll:=hA
 rw [Tryz.params4] at hA hval
 obtain ⟨v0,vs0,d0,ds0,p0,q0,hargs,rfl,rfl,h0,r0⟩:=trodAll_cons hA
 obtain ⟨v1,vs1,d1,ds1,p1,q1,rfl,rfl,rfl,_,r1⟩:=trodAll_cons r0
 obtain ⟨v2,vs2,d2,ds2,p2,q2,rfl,rfl,rfl,_,r2⟩:=trodAll_cons r1
 obtain ⟨v3,vs3,d3,ds3,p3,q3,rfl,rfl,rfl,_,r3⟩:=trodAll_cons r2
 obtain ⟨rfl,rfl,rfl⟩:=trodAll_nil r3
 obtain rfl:args = #[v0,v1,v2,v3]:=by cases args;simp_all
 obtain ⟨k,rfl⟩:∃ k,v1=.int .i64 k:=int_val Tryz.underlying3 (hval 1 3 v1 rfl rfl)
 obtain ⟨ka,kn,kc,rfl⟩:=cell_sl (W:=W) Tryz.underlying32 (cell_of Tryz.underlying32 (hval 2 32 v2 rfl rfl))
 obtain ⟨a1,n1,c1,a2,n2,c2,x,y,rfl⟩:=open_span (b:=4) (i:=3) Tryz.underlying60 (by kernel_rfl) (by kernel_rfl) Tryz.underlying32 (hval 3 60 v3 rfl rfl)
 obtain ⟨a,n,c,rfl⟩:=cell_sl (W:=W) Tryz.underlying31 (cell_of Tryz.underlying31 (hval 0 31 v0 rfl rfl))
 obtain ⟨fuel0,hy0⟩:=h0
 obtain ⟨a,n,c,zs,e0,hs,hz⟩:=sl_dig Tryz.underlying31 Tryz.underlying27 Tryz.underlying5 (by kernel_rfl) (by kernel_rfl) (c:=.slice a n c) hy0
 cases e0
 obtain ⟨rfl,rfl⟩:=trodVars_none hV
 clear hA0 hval0
 rw [MakeChecks.laidMetH_plain _ _ _ (by kernel_rfl)] at hL
 have hlv:∀ w,Grow W w→Calls Tryz.prog 10 #[] w (Ret λ x w'=>x=.bool true∧Grow w w'):=by
  intro w hg
  letI:=tabOf ctx1j
  obtain ⟨t,hr⟩:=rel_laid (name:="math/bits.deBruijn64tab") (zs:=tabZ) rfl gN (by kernel_rfl) hL
  exact lives23_c (j:=tabOf ctx1j) (@Stp.ofGrow glW (tabOf ctx1j) 0 0 _ _ _ _ _ hr hg).rel rfl
 refine (nil_c _ a n c zs k ka kn kc a1 n1 c1 a2 n2 c2 x y W hs hz hL hlv).mono λ e W' ⟨v,he,hv,hg⟩=>?_
 subst he;subst hv
 exact ⟨_,rfl,_,_,_,[],_,[],hW',trodAll_mk1 (shut_bool Tryz.underlying4 _),kept_all laid_out hg.1 _ _ _ _ (by kernel_rfl) hAll,rfl,hg.1.frame _,λ h=>by cases h⟩
theorem row:Rows.ViewNilSaid :=
 OpenClaim.holds_of_wide 4 Tryz.f4 rfl rfl rfl rfl rfl rfl rfl ⟨rfl,rfl,rfl,rfl,rfl⟩ rfl rfl rfl rfl rfl nm_viewNil Tryz.func4 jf_viewNil
  (of_decide_eq_true (by kernel_rfl)) (by unfold Func.isWrapper;first|(rw [if_pos (by decide +kernel)];kernel_rfl)|(rw [if_neg (by decide +kernel)];exact ⟨rfl,rfl⟩))
  (λ os started H enc _=>lifted os started H enc)
theorem proved:Rows.ViewNilCardSaid :=
 Claim7.holds_tied_plain_at .later [] [.data] true (true,"416ae3b346d7dd83d882899f497c55ab1bc8c83335c125088f6e2f61312f0893") true
  row (λ _ h=>by cases h) (by kernel_rfl) (λ _ h=>by cases h) viewNil_row_tie rfl ⟨rfl,rfl⟩ (by kernel_rfl) rfl
  (λ f fn hf hfn=>by
   obtain rfl:f=4:=Option.some.inj (nm_viewNil.symm.trans hf) |>.symm
   obtain rfl:fn=Tryz.f4:=(Option.some.inj (Tryz.func4.symm.trans hfn)).symm
   exact ⟨by kernel_rfl,λ j t ht=>by
    rw [Tryz.params4] at ht
    rcases j with _|_|_|_|j
    ·(obtain rfl:=Option.some.inj (show some _=some t from ht));kernel_rfl
    ·(obtain rfl:=Option.some.inj (show some _=some t from ht));kernel_rfl
    ·(obtain rfl:=Option.some.inj (show some _=some t from ht));kernel_rfl
    ·(obtain rfl:=Option.some.inj (show some _=some t from ht));kernel_rfl
    ·simp at ht⟩)
  go_viewNil
end Go.Proofs.YtoldjgmcoekchaaGreatDoor.lawViewNil
