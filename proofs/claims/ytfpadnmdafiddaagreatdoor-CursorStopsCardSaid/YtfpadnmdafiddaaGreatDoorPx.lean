import Derived.Test.YtfpadnmdafiddaaGreatDoorP0
import Derived.Test.YtfpadnmdafiddaaGreatDoorPl
import Derived.Test.YtfpadnmdafiddaaGreatDoorPw
import Derived.Test.YtfpadnmdafiddaaGreatDoorTie
import Derived.Test.YtfpadnmdafiddaaGreatDoorCards
import Derived.LaidHandle
import Derived.LaidMore
import Derived.ChangeVars
import Derived.JoinedOf
import Derived.SevenTiedAt
import Derived.Stop.Joined
set_option linter.all false
namespace Go.Proofs.YtfpadnmdafiddaaGreatDoor.lawCursorStops
open Go Go.RowKit Go.V Go.ChangeShapes Go.WideShapes Go.ChangeAt
set_option maxRecDepth 1000000
theorem gN:(Tryz.prog).globalNamed "math/bits.deBruijn64tab" = some 0:=by kernel_rfl
theorem door_met (os:Os) (args:Array Value):laidMetH Tryz.prog Rows.cursorStopsRow.laid ((World.doorLaid Tryz.prog 14 os).forCall (λ _ _=>0) ⟨#[],args,[]⟩).memory :=
 laidMetH_of_parts3 (fuel:=8) (laidMet_of_run' 8 kR kR) kR kR
theorem lifted (os:Os) (a0:os.Started) (H:Type) (enc:TypeId×Value→H) :
  ReturnsInHanded {} Tryz.checked os 8 .any (λ w args=>(Rows.cursorStopsSpec.pre enc Tryz.prog Tryz.f8 [] false w args∧laidMetH Tryz.prog Rows.cursorStopsRow.laid w)∧sizedMet enc Tryz.prog Tryz.f8 (OpenSpec.ofChange Rows.cursorStopsSpec) false w args)
   (Rows.cursorStopsSpec.post enc Tryz.prog Tryz.f8 false true false false):=by
 refine returnsInHanded_of_change_and (C:=Tryz.checked) (X:=λ w _=>laidMetH Tryz.prog Rows.cursorStopsRow.laid w) (λ _ _ _ hh h=>h.of_heap hh) godebug_own a0 kR Tryz.func8
  (ChangeSpec.witness_shaped (enc:=enc) (C:=Tryz.checked) (os:=os) (X:=λ w _=>laidMetH Tryz.prog Rows.cursorStopsRow.laid w) false (World.doorLaid Tryz.prog 14 os) #[.slice none 0 0,.agg #[.slice none 0 0,.slice none 0 0,.bool false,.int .i64 0],.int .i64 0] 8 rfl (World.shaped_of_RefB kR kR) kR kR kR (door_met os _)) ?_
 intro W base args ds gs k0 f0 hW _ _ hL _;have e0:∀ (j:Nat) t v,Tryz.f8.params[j]? = some t→args[j]? = some v→Value.okWide Tryz.prog W .any base t v:=f0;have s0:=hW;obtain ⟨p,q,m0,hV,rfl,e1,z0⟩:=hW;have hA:DataW.TrodAll enc Tryz.prog W 0 (λ _=>true) true Tryz.f8.params.toList args.toList ds p:=m0;have j0:=hA;rw [Tryz.params8] at hA e0;obtain ⟨v0,x0,d0,m1,p0,q0,l0,rfl,rfl,h0,r0⟩:=trodAll_cons hA;obtain ⟨v1,u0,d1,j1,p1,q1,rfl,rfl,rfl,h1,r1⟩:=trodAll_cons r0;obtain ⟨v2,t0,d2,g1,p2,q2,rfl,rfl,rfl,h2,r2⟩:=trodAll_cons r1;obtain ⟨rfl,rfl,rfl⟩:=trodAll_nil r2;obtain rfl:args = #[v0,v1,v2]:=by cases args;simp_all
 obtain ⟨rfl,rfl⟩:=trodVars_none hV;obtain ⟨a,n,c,l,rfl,hl,o0⟩:=items_in (e0 0 54 v0 rfl rfl) h0;obtain ⟨fa,fc,fr,ta,tc,to,back,g0,rfl,hf,ht,f1,y0,n0⟩:=span_in (e0 1 92 v1 rfl rfl) h1;obtain ⟨z,rfl,_,hz⟩:=open_int Tryz.underlying3 (e0 2 3 v2 rfl rfl) h2;clear m0 f0;rw [MakeChecks.laidMetH_plain _ _ _ kR] at hL;have i0:TabAt W:=tab_laid (name:="math/bits.deBruijn64tab") rfl gN kR hL;refine (stops_c i0 hl o0 fa ta fr.length fc to.length tc fr to back g0 z hf ht n0.2).mono λ e W' ⟨v,he,hv,hg⟩=>?_;subst he;subst hv
 exact ⟨_,rfl,_,_,_,[],_,[],s0,trodAll_mk1 (shut_bool Tryz.underlying4 _),kept_all laid_out hg.1 _ _ _ _ kR j0,rfl,hg.1.frame _,λ h=>by cases h⟩
end Go.Proofs.YtfpadnmdafiddaaGreatDoor.lawCursorStops
