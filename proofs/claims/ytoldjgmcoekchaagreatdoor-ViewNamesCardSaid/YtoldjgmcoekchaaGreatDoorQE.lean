import Derived.Test.YtoldjgmcoekchaaGreatDoorQz
import Derived.Test.YtoldjgmcoekchaaGreatDoorQA
import Derived.Test.YtoldjgmcoekchaaGreatDoorQB
import Derived.Test.YtoldjgmcoekchaaGreatDoorQC
import Derived.Test.YtoldjgmcoekchaaGreatDoorQD
import Derived.Test.YtoldjgmcoekchaaGreatDoorQr
import Derived.Lib.LaidTab
set_option linter.unusedSimpArgs false
set_option linter.unusedVariables false
set_option linter.unusedSectionVars false
set_option maxHeartbeats 16000000
set_option maxRecDepth 100000
namespace Go.Proofs.YtoldjgmcoekchaaGreatDoor
open Go Go.RowKit Go.V Go.E
set_option maxRecDepth 1000000
set_option maxHeartbeats 0
attribute [local instance] glW
theorem con3k [LoopTab]:ConOk Tryz.prog 108 (conTab tabE) :=
 conTab_ok (Γ:=ctx2) (d:=200) (by kernel_rfl) ctx2_ok (fi:=fiOf Tryz.f108) (by kernel_rfl) (by kernel_rfl) (fn108) glW_0 (λ e h=>by
  rcases List.mem_cons.1 h with rfl|h
  ·exact tabE0_run
  cases h)
theorem con3s [LoopTab]:ConOk Tryz.prog 109 (conBr tabS) :=
 conBr_ok (Γ:=ctx2) (d:=200) (by kernel_rfl) ctx2_ok (fi:=fiOf Tryz.f109) (by kernel_rfl) (by kernel_rfl) (fn109) glW_0 (λ e h=>by
  rcases List.mem_cons.1 h with rfl|h
  ·exact tabS0_run
  rcases List.mem_cons.1 h with rfl|h
  ·exact tabS1_run
  cases h)
theorem con3g [LoopTab]:ConOk Tryz.prog 111 (conBr tabG) :=
 conBr_ok (Γ:=ctx2) (d:=200) (by kernel_rfl) ctx2_ok (fi:=fiOf Tryz.f111) (by kernel_rfl) (by kernel_rfl) (fn111) glW_0 (λ e h=>by
  rcases List.mem_cons.1 h with rfl|h
  ·exact tabG0_run
  rcases List.mem_cons.1 h with rfl|h
  ·exact tabG1_run
  cases h)
noncomputable def conT3:Tr Con:=(addC (addC (addC conT2 108 (conTab tabE)) 109 (conBr tabS)) 111 (conBr tabG))
theorem conT3_ok (i:LoopTab):∀ f c,conT3.get f=some c→ConOk Tryz.prog f c:=(addC_all (addC_all (addC_all (conT2_ok i) con3k) con3s) con3g)
theorem conT3_p:∀ f c,conT3.get f=some c→S.ConP c:=(addC_all (addC_all (addC_all conT2_p (conTab_p _)) (conBr_p _)) (conBr_p _))
noncomputable def ctx3:Ctx:=⟨tyT,fnT,conT3,wmT,dfT⟩
theorem ctx3_ok:CtxOk Tryz.prog ctx3:=⟨tyT_ok,fnT_ok,conT3_ok,dfT_ok⟩
end Go.Proofs.YtoldjgmcoekchaaGreatDoor
namespace Go.Proofs.YtoldjgmcoekchaaGreatDoor
open Go Go.RowKit Go.V Go.E
set_option maxRecDepth 100000
def tabZ:List Int:=[0,1,56,2,57,49,28,3,61,58,42,50,38,29,17,4,62,47,59,36,45,43,51,22,53,39,33,30,24,18,12,5,63,55,48,27,60,41,37,16,46,35,44,21,52,32,23,11,54,26,40,15,34,20,31,10,25,14,19,9,13,8,7,6]
def tabN:Nat:=315684040783403026461198565492879320519372303033823910828724750665742568755751545437592878574175936176031276695822391845783248645128493468529036736594176
noncomputable def h00 (t:TypeId):H:=.nd .lf (some (.cells t (.by 64 tabN))) .lf
theorem tab_bytes:(tabZ.map λ z=>Value.int .u8 z)=bcells 64 tabN:=by kernel_rfl
theorem rel_laid [LoopTab] {W:World} {name:String} {zs:List Int} (hz:zs=tabZ) (hg:(Tryz.prog).globalNamed name=some 1) (hty:((Tryz.prog).globals[1]?).map (·.type)=some 33) (h:laidMet Tryz.prog [(name,Lib.tabData .u8 zs)] W) :
  ∃ t,@Rel glW _ (λ b=>if b=0 then some ⟨1,0,64⟩ else none) (h00 t).get 1 W:=by
 letI:=glW
 have hT:=Lib.tabIs_of_head hg hty Tryz.underlying33 Tryz.underlying5 (by kernel_rfl) (by kernel_rfl) h
 obtain ⟨arr,t,fr,hb,ha⟩:∃ arr t fr,W.heap[1]? = some (.cells arr t fr)∧arr=(zs.map λ z=>Value.int .u8 z).toArray:=by
  unfold Lib.TabIs World.var? at hT
  rw [hg] at hT
  simp only [Option.bind_some] at hT
  split at hT
  ·rename_i cs t fr hb
   exact ⟨cs,t,fr,hb,Option.some.inj hT⟩
  ·cases hT
 have hfr:fr=(0,0):=by
  obtain ⟨ps,⟨g,t',cs,fuel,p,q,hg',_,hv,_,_,rfl⟩,_,hc⟩:=h
  obtain rfl:=Option.some.inj (hg.symm.trans hg')
  obtain ⟨⟨c,u,hcu⟩,_⟩:=hc 1 0 (by
   have hcs:cs.size=64:=by
    have hT:W.var? Tryz.prog name=_:=hT
    rw [hv] at hT
    rw [Option.some.inj hT,hz];rfl
   rw [hcs]
   refine List.mem_append_left _ (List.mem_append_left _ ?_)
   simp [MemPlace.row])
  rw [hb] at hcu
  cases hcu
  rfl
 subst hfr
 have hlist:arr.toList=bcells 64 tabN:=by rw [ha,hz];exact tab_bytes
 have hsize:arr.size=64:=by rw [ha,hz];rfl
 have hget:∀ b,(h00 t).get b=if b=0 then some (.cells t (.by 64 tabN)) else none:=λ b=>by
  unfold h00
  rw [Tr.get_nd]
  split
  ·rfl
  ·split<;>rfl
 refine ⟨t,λ b p hp=>?_,λ b B hB=>?_,λ b b' p p' h1 h2 _ _ _=>?_,λ g k hk=>?_⟩
 ·split at hp
  ·cases hp;rename_i h0;exact ⟨by omega,(Array.getElem?_eq_some_iff.1 hb).1⟩
  ·cases hp
 ·rw [hget] at hB
  split at hB
  ·rename_i h0
   subst h0
   cases hB
   refine ⟨_,rfl,arr,(0,0),bcells 64 tabN,hb,hsize,.bys 64 tabN (by decide +kernel),λ i v hi=>?_,.inl rfl⟩
   rw [Nat.zero_add,← Array.getElem?_toList,hlist];exact hi
  ·cases hB
 ·rw [hget] at h1 h2
  have a1:b=0:=Classical.byContradiction λ h=>h1 (if_neg h)
  have a2:b'=0:=Classical.byContradiction λ h=>h2 (if_neg h)
  omega
 ·have:(bif Nat.beq g 1 then some 0 else none)=some k:=hk
  cases hg0:Nat.beq g 1 with
  | true =>
   rw [hg0] at this
   cases this
   cases Nat.eq_of_beq_eq_true hg0
   exact ⟨_,rfl,rfl,rfl⟩
  | false=>rw [hg0] at this;cases this
end Go.Proofs.YtoldjgmcoekchaaGreatDoor
namespace Go.Proofs.YtoldjgmcoekchaaGreatDoor
open Go Go.RowKit Go.V Go.E
set_option maxRecDepth 1000000
set_option maxHeartbeats 0
attribute [local instance] glW
theorem lives23_run (t:TypeId):callN false ctx3 true 200 1 1 (.fn 10) [] (h00 t) 1 (λ v _ _=>isT v)=true :=
 S.run_ok conT3_p (fs:=[10,5,6,7,9,8,12,13,26,21,27,16,29,28,30,31,32,33,34,11,39,40,41,42,43,44,45,47,46,50,56,58,57,17,67,59,60,61,62,63,64,65,66,68,69,72,73,71,70,74,75,76,35,36,37,38,88,89,90,91,81,92,93,96,105,106,107,108,109,110,112,111,113,114,115,116,117,118,121,119,120,122,77,78,79,80,82,83,84,85,86,87,129,131,130,132,133,134,135,136,137,138,139,140,141,142,143,144,145,98,99,150,158,159,169,176,179,178,177,181,180,182,123,124,125,126,127,128,190,186,185,191,192,193,194,195,196,197,198,199,200,201,202,203,204,205,206,207,208,209,210,211,212,52,53,156,213,214,215,216,217,218,152,153,222,189,264,265,269,267,266,268,272,270,271,187,188,274,275,276,277,278,279,280,281,97,101,100,103,102,231,230,282,283,284,286,285,287,289,288,290,291,292,436,437,227,273,339,338,341,340,345,346,347,348,349,350,352,353,354,355,151,154,157,155,306,307,297,298,299,300,301,302,303,304,305,356,357,358,359,360,361,362,363,438,384,385,386,387,388,389,390,391,392,393,395,228,229,364,365,366,367,368,396,397,398,399,400,401,402,403,404,439,408,409,410,411,412,413,405,414,415,416,417,418,419]) (by kernel_rfl)
theorem rel_small (j i:LoopTab) {ρ : Plc} {h:H} {nx:Nat} {w:World} {t:TypeId} (hr:@Rel _ j ρ h.get nx w) (h0:h.get 0=some (.cells t (.by 64 tabN))):@Rel _ i (λ b=>if b=0 then ρ 0 else none) (h00 t).get 1 w:=by
 have hget:∀ b,(h00 t).get b=if b=0 then some (.cells t (.by 64 tabN)) else none:=λ b=>by
  unfold h00
  rw [Tr.get_nd]
  split
  ·rfl
  ·split<;>rfl
 obtain ⟨p,hp,arr,fr,cs,h1,h2,h3,h4,h5⟩:=@Rel.blk _ j _ _ _ _ hr 0 _ h0
 refine ⟨λ b q hq=>?_,λ b B hB=>?_,λ b b' q q' k1 k2 _ _ _=>?_,λ g k hk=>?_⟩
 ·split at hq
  ·rename_i e;subst e;exact ⟨by omega,(@Rel.dom _ j _ _ _ _ hr 0 q hq).2⟩
  ·cases hq
 ·rw [hget] at hB
  split at hB
  ·rename_i e
   subst e
   cases hB
   refine ⟨p,hp,arr,fr,cs,h1,h2,?_,h4,h5⟩
   cases h3 with
   | bys _ _ hlt=>exact .bys _ _ hlt
  ·cases hB
 ·rw [hget] at k1 k2
  have a1:b=0:=Classical.byContradiction λ h=>k1 (if_neg h)
  have a2:b'=0:=Classical.byContradiction λ h=>k2 (if_neg h)
  omega
 ·obtain ⟨q,k1,k2,k3⟩:=@Rel.gl _ j _ _ _ _ hr g k hk
  have hk0:(bif Nat.beq g 1 then some 0 else none)=some k:=hk
  cases hg0:Nat.beq g 1 with
  | true =>
   rw [hg0] at hk0
   cases hk0
   exact ⟨q,k1,k2,k3⟩
  | false=>rw [hg0] at hk0;cases hk0
theorem lives23_c [j:LoopTab] {ρ : Plc} {h:H} {nx:Nat} {w:World} {t:TypeId} (hr:Rel ρ h.get nx w) (h0:h.get 0=some (.cells t (.by 64 tabN))):Calls Tryz.prog 10 #[] w (Ret λ x w'=>x=.bool true∧Grow w w') :=
 (top_gen (P:=Tryz.prog) (by kernel_rfl) ctx3_ok (fi:=fiOf Tryz.f10) (by kernel_rfl) (by kernel_rfl) [] [] 200 isT (h00 t) 1 _ w (rel_small j (tabOf ctx3) hr h0) .nil (lives23_run t)).mono λ e w' ⟨x,h1,⟨ρ',v,_,h2,h3⟩,hg⟩=>⟨x,h1,isT_ok h2 h3,hg⟩
noncomputable def conLives:Con:=⟨λ bad vs h _ _ nx k=>match vs,h.get 0 with
 | [],some (.cells _ (.by 64 s))=>bif Nat.beq s tabN then k (.at (.bool true)) h nx else bad
 | _,_=>bad⟩
theorem conLives_ok [LoopTab]:ConOk Tryz.prog 10 conLives:=by
 intro R bad fl fd hfl vs h nx k
 unfold conLives
 dsimp only
 split
 ·rename_i t s h0
  cases hs:Nat.beq s tabN with
  | false=>exact .inl rfl
  | true =>
   cases Nat.eq_of_beq_eq_true hs
   refine .inr ⟨_,h,nx,λ ρ w xs c hc hvs hr=>?_,rfl⟩
   cases hc
   cases hvs
   show Res _ _ ((callFunc _ _).run _ w)
   rw [enters_of (fn10)]
   exact Calls.mono (lives23_c hr h0) λ en w' ⟨x,h1,h2,hg⟩=>⟨x,h1,ρ,by subst h2;exact .at _ _ (.bool _),Stp.ofGrow hr hg⟩
 ·exact .inl rfl
theorem conLives_p:S.ConP conLives:=by
 intro vs h fl fd nx
 unfold conLives
 dsimp only
 split
 ·rename_i t s h0
  cases Nat.beq s tabN with
  | true=>exact S.Par.pure (α:=S.Out3) _
  | false=>exact S.Par.bad
 ·exact S.Par.bad
noncomputable def conT4:Tr Con:=(addC conT3 10 conLives)
theorem conT4_ok (i:LoopTab):∀ f c,conT4.get f=some c→ConOk Tryz.prog f c:=(addC_all (conT3_ok i) conLives_ok)
theorem conT4_p:∀ f c,conT4.get f=some c→S.ConP c:=(addC_all conT3_p conLives_p)
noncomputable def ctx4:Ctx:=⟨tyT,fnT,conT4,wmT,dfT⟩
theorem ctx4_ok:CtxOk Tryz.prog ctx4:=⟨tyT_ok,fnT_ok,conT4_ok,dfT_ok⟩
end Go.Proofs.YtoldjgmcoekchaaGreatDoor
namespace Go.Proofs.YtoldjgmcoekchaaGreatDoor
open Go Go.RowKit Go.V Go.E
set_option maxRecDepth 1000000
set_option maxHeartbeats 0
attribute [local instance] glW
theorem viewNames_run (t:TypeId):callN false ctx4 true 200 1 1 (.fn 3) [] (h00 t) 1 (λ v _ _=>isT v)=true :=
 S.run_ok conT4_p (fs:=[3,5,6,7,9,8,10,11,12,13,14,15,27,16,29,28,30,31,32,33,34,35,36,37,38,39,40,41,42,43,44,45,47,46,56,58,57,17,67,59,60,61,62,63,64,65,66,68,69,72,73,71,70,74,75,76,77,78,79,80,81,82,83,84,85,86,87,88,89,90,91,92,93,105,106,107,108,109,110,112,111,113,114,115,116,117,118,121,119,120,122,123,124,125,126,127,128,129,131,130,132,133,134,135,136,137,138,139,140,141,142,143,144,145,158,159,169,176,179,178,177,181,180,182,185,186,187,188,189,190,191,192,193,194,195,196,197,198,199,200,201,202,203,204,205,206,207,208,209,210,211,212,52,53,156,213,214,215,216,217,218,264,265,269,267,266,268,272,270,271,273,274,275,276,277,278,279,280,281,97,98,99,101,100,103,102,231,230,282,283,284,286,285,287,289,288,290,291,153,292,436,437,339,338,341,340,345,346,347,348,349,350,352,353,354,355,151,152,154,157,155,306,307,297,298,299,300,301,302,303,304,305,356,357,358,359,360,361,362,363,438,384,385,386,387,388,389,390,391,392,393,395,227,228,229,364,365,366,367,368,396,397,398,399,400,401,402,403,404,439,408,409,410,411,412,413,405,414,415,416,417,418,419]) (by kernel_rfl)
end Go.Proofs.YtoldjgmcoekchaaGreatDoor
