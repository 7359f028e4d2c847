import Derived.Test.YtfpadnmdafiddaaGreatDoorG0
import Derived.Test.YtfpadnmdafiddaaGreatDoorGe
import Derived.Test.YtfpadnmdafiddaaGreatDoorGl
import Derived.Test.YtfpadnmdafiddaaGreatDoorTie
import Derived.Test.YtfpadnmdafiddaaGreatDoorCards
import Derived.LaidHandle
import Derived.LaidMore
import Derived.ChangeVars
import Derived.JoinedOf
import Derived.SevenTiedAt
import Derived.Stop.Joined
set_option linter.all false
namespace Go.Proofs.YtfpadnmdafiddaaGreatDoor.lawCursorSeeks
open Go Go.RowKit Go.V Go.ChangeShapes Go.WideShapes Go.ChangeAt
set_option maxRecDepth 1000000
theorem gN:(Tryz.prog).globalNamed "math/bits.deBruijn64tab" = some 0:=by kernel_rfl
theorem door_met (os:Os) (args:Array Value):laidMetH Tryz.prog Rows.cursorSeeksRow.laid ((World.doorLaid Tryz.prog 14 os).forCall (λ _ _=>0) ⟨#[],args,[]⟩).memory :=
 laidMetH_of_parts3 (fuel:=8) (laidMet_of_run' 8 kR kR) kR kR
theorem lifted (os:Os) (started:os.Started) (H:Type) (enc:TypeId×Value→H) :
  ReturnsInHanded {} Tryz.checked os 10 .any (λ w args=>(Rows.cursorSeeksSpec.pre enc Tryz.prog Tryz.f10 [] false w args∧laidMetH Tryz.prog Rows.cursorSeeksRow.laid w)∧sizedMet enc Tryz.prog Tryz.f10 (OpenSpec.ofChange Rows.cursorSeeksSpec) false w args)
   (Rows.cursorSeeksSpec.post enc Tryz.prog Tryz.f10 false true false false):=by
 refine returnsInHanded_of_change_and (C:=Tryz.checked) (X:=λ w _=>laidMetH Tryz.prog Rows.cursorSeeksRow.laid w) (λ _ _ _ hh h=>h.of_heap hh) godebug_own started kR Tryz.func10
  (ChangeSpec.witness_shaped (enc:=enc) (C:=Tryz.checked) (os:=os) (X:=λ w _=>laidMetH Tryz.prog Rows.cursorSeeksRow.laid w) false (World.doorLaid Tryz.prog 14 os) #[.slice none 0 0,.agg #[.slice none 0 0,.slice none 0 0,.bool false,.int .i64 0],.slice none 0 0,.slice none 0 0] 8 rfl (World.shaped_of_RefB kR kR) kR kR kR (door_met os _)) ?_
 intro W base args ds gs before hval0 hW _ _ hL _;have hval:∀ (j:Nat) t v,Tryz.f10.params[j]? = some t→args[j]? = some v→Value.okWide Tryz.prog W .any base t v:=hval0;have hW':=hW;obtain ⟨p,q,hA0,hV,rfl,hfz,hnd⟩:=hW;have hA:DataW.TrodAll enc Tryz.prog W 0 (λ _=>true) true Tryz.f10.params.toList args.toList ds p:=hA0;have hAll:=hA;rw [Tryz.params10] at hA hval;obtain ⟨v0,vs0,d0,ds0,p0,q0,hargs,rfl,rfl,h0,r0⟩:=trodAll_cons hA;obtain ⟨v1,vs1,d1,ds1,p1,q1,rfl,rfl,rfl,h1,r1⟩:=trodAll_cons r0;obtain ⟨v2,vs2,d2,ds2,p2,q2,rfl,rfl,rfl,h2,r2⟩:=trodAll_cons r1;obtain ⟨v3,vs3,d3,ds3,p3,q3,rfl,rfl,rfl,h3,r3⟩:=trodAll_cons r2;obtain ⟨rfl,rfl,rfl⟩:=trodAll_nil r3;obtain rfl:args = #[v0,v1,v2,v3]:=by cases args;simp_all
 obtain ⟨rfl,rfl⟩:=trodVars_none hV;obtain ⟨a,n,c,l,rfl,hl,hlb⟩:=items_in (hval 0 54 v0 rfl rfl) h0;obtain ⟨fa,fc,fr,ta,tc,to,back,most,rfl,hf,ht,hfb,htb,hmm⟩:=span_in (hval 1 92 v1 rfl rfl) h1;obtain ⟨ka,kc,kb,rfl,hk,hkb⟩:=key_in (hval 2 30 v2 rfl rfl) h2;obtain ⟨la,lc,lb,rfl,hk2,hkb2⟩:=key_in (hval 3 30 v3 rfl rfl) h3;clear hA0 hval0;rw [MakeChecks.laidMetH_plain _ _ _ kR] at hL;have htab:TabAt W:=tab_laid (name:="math/bits.deBruijn64tab") rfl gN kR hL;refine (seeks_c htab hl hlb fa ta fr.length fc to.length tc fr to back most ⟨ka,kc,kb⟩ ⟨la,lc,lb⟩ hf ht hk hk2 hkb hkb2).mono λ e W' ⟨v,he,hv,hg⟩=>?_;subst he;subst hv
 exact ⟨_,rfl,_,_,_,[],_,[],hW',trodAll_mk1 (shut_bool Tryz.underlying4 _),kept_all laid_out hg.1 _ _ _ _ kR hAll,rfl,hg.1.frame _,λ h=>by cases h⟩
end Go.Proofs.YtfpadnmdafiddaaGreatDoor.lawCursorSeeks
