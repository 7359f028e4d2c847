import Derived.Test.YtoldjgmcoekchaaGreatDoorWz
import Derived.Test.YtoldjgmcoekchaaGreatDoorWA
import Derived.Test.YtoldjgmcoekchaaGreatDoorWB
import Derived.Test.YtoldjgmcoekchaaGreatDoorWC
import Derived.Test.YtoldjgmcoekchaaGreatDoorWD
import Derived.Test.YtoldjgmcoekchaaGreatDoorWr
import Derived.Lib.LaidTab
import Derived.Test.YtoldjgmcoekchaaGreatDoorWf
import Derived.ProofKit
import Derived.OpenShut
import Derived.ChangeOld
import Derived.Deep.Slices
import Derived.Test.YtoldjgmcoekchaaGreatDoorWg
set_option linter.all false
set_option maxHeartbeats 16000000
set_option maxRecDepth 100000
namespace Go.Proofs.YtoldjgmcoekchaaGreatDoor
open Go Go.RowKit Go.V Go.E
set_option maxRecDepth 1000000
set_option maxHeartbeats 0
attribute [local instance] glW
theorem con3k [LoopTab]:ConOk Tryz.prog 108 (conTab tabE) :=
 conTab_ok (Γ:=ctx2) (d:=200) (by kernel_rfl) ctx2_ok (fi:=fiOf Tryz.f108) (by kernel_rfl) (by kernel_rfl) (fn108) glW_0 (λ e h=>by
  rcases List.mem_cons.1 h with rfl|h
  ·exact tabE0_run
  cases h)
theorem con3s [LoopTab]:ConOk Tryz.prog 109 (conBr tabS) :=
 conBr_ok (Γ:=ctx2) (d:=200) (by kernel_rfl) ctx2_ok (fi:=fiOf Tryz.f109) (by kernel_rfl) (by kernel_rfl) (fn109) glW_0 (λ e h=>by
  rcases List.mem_cons.1 h with rfl|h
  ·exact tabS0_run
  rcases List.mem_cons.1 h with rfl|h
  ·exact tabS1_run
  cases h)
theorem con3g [LoopTab]:ConOk Tryz.prog 111 (conBr tabG) :=
 conBr_ok (Γ:=ctx2) (d:=200) (by kernel_rfl) ctx2_ok (fi:=fiOf Tryz.f111) (by kernel_rfl) (by kernel_rfl) (fn111) glW_0 (λ e h=>by
  rcases List.mem_cons.1 h with rfl|h
  ·exact tabG0_run
  rcases List.mem_cons.1 h with rfl|h
  ·exact tabG1_run
  cases h)
noncomputable def conT3:Tr Con:=(addC (addC (addC conT2 108 (conTab tabE)) 109 (conBr tabS)) 111 (conBr tabG))
theorem conT3_ok (i:LoopTab):∀ f c,conT3.get f=some c→ConOk Tryz.prog f c:=(addC_all (addC_all (addC_all (conT2_ok i) con3k) con3s) con3g)
theorem conT3_p:∀ f c,conT3.get f=some c→S.ConP c:=(addC_all (addC_all (addC_all conT2_p (conTab_p _)) (conBr_p _)) (conBr_p _))
noncomputable def ctx3:Ctx:=⟨tyT,fnT,conT3,wmT,dfT⟩
theorem ctx3_ok:CtxOk Tryz.prog ctx3:=⟨tyT_ok,fnT_ok,conT3_ok,dfT_ok⟩
end Go.Proofs.YtoldjgmcoekchaaGreatDoor
namespace Go.Proofs.YtoldjgmcoekchaaGreatDoor
open Go Go.RowKit Go.V Go.E
set_option maxRecDepth 100000
def tabZ:List Int:=[0,1,56,2,57,49,28,3,61,58,42,50,38,29,17,4,62,47,59,36,45,43,51,22,53,39,33,30,24,18,12,5,63,55,48,27,60,41,37,16,46,35,44,21,52,32,23,11,54,26,40,15,34,20,31,10,25,14,19,9,13,8,7,6]
def tabN:Nat:=315684040783403026461198565492879320519372303033823910828724750665742568755751545437592878574175936176031276695822391845783248645128493468529036736594176
noncomputable def h00 (t:TypeId):H:=.nd .lf (some (.cells t (.by 64 tabN))) .lf
theorem tab_bytes:(tabZ.map λ z=>Value.int .u8 z)=bcells 64 tabN:=by kernel_rfl
theorem rel_laid [LoopTab] {W:World} {name:String} {zs:List Int} (hz:zs=tabZ) (hg:(Tryz.prog).globalNamed name=some 1) (hty:((Tryz.prog).globals[1]?).map (·.type)=some 33) (h:laidMet Tryz.prog [(name,Lib.tabData .u8 zs)] W) :
  ∃ t,@Rel glW _ (λ b=>if b=0 then some ⟨1,0,64⟩ else none) (h00 t).get 1 W:=by
 letI:=glW
 have hT:=Lib.tabIs_of_head hg hty Tryz.underlying33 Tryz.underlying5 (by kernel_rfl) (by kernel_rfl) h
 obtain ⟨arr,t,fr,hb,ha⟩:∃ arr t fr,W.heap[1]? = some (.cells arr t fr)∧arr=(zs.map λ z=>Value.int .u8 z).toArray:=by
  unfold Lib.TabIs World.var? at hT
  rw [hg] at hT
  simp only [Option.bind_some] at hT
  split at hT
  ·rename_i cs t fr hb
   exact ⟨cs,t,fr,hb,Option.some.inj hT⟩
  ·cases hT
 have hfr:fr=(0,0):=by
  obtain ⟨ps,⟨g,t',cs,fuel,p,q,hg',_,hv,_,_,rfl⟩,_,hc⟩:=h
  obtain rfl:=Option.some.inj (hg.symm.trans hg')
  obtain ⟨⟨c,u,hcu⟩,_⟩:=hc 1 0 (by
   have hcs:cs.size=64:=by
    have hT:W.var? Tryz.prog name=_:=hT
    rw [hv] at hT
    rw [Option.some.inj hT,hz];rfl
   rw [hcs]
   refine List.mem_append_left _ (List.mem_append_left _ ?_)
   simp [MemPlace.row])
  rw [hb] at hcu
  cases hcu
  rfl
 subst hfr
 have hlist:arr.toList=bcells 64 tabN:=by rw [ha,hz];exact tab_bytes
 have hsize:arr.size=64:=by rw [ha,hz];rfl
 have hget:∀ b,(h00 t).get b=if b=0 then some (.cells t (.by 64 tabN)) else none:=λ b=>by
  unfold h00
  rw [Tr.get_nd]
  split
  ·rfl
  ·split<;>rfl
 refine ⟨t,λ b p hp=>?_,λ b B hB=>?_,λ b b' p p' h1 h2 _ _ _=>?_,λ g k hk=>?_⟩
 ·split at hp
  ·cases hp;rename_i h0;exact ⟨by omega,(Array.getElem?_eq_some_iff.1 hb).1⟩
  ·cases hp
 ·rw [hget] at hB
  split at hB
  ·rename_i h0
   subst h0
   cases hB
   refine ⟨_,rfl,arr,(0,0),bcells 64 tabN,hb,hsize,.bys 64 tabN (by decide +kernel),λ i v hi=>?_,.inl rfl⟩
   rw [Nat.zero_add,← Array.getElem?_toList,hlist];exact hi
  ·cases hB
 ·rw [hget] at h1 h2
  have a1:b=0:=Classical.byContradiction λ h=>h1 (if_neg h)
  have a2:b'=0:=Classical.byContradiction λ h=>h2 (if_neg h)
  omega
 ·have:(bif Nat.beq g 1 then some 0 else none)=some k:=hk
  cases hg0:Nat.beq g 1 with
  | true =>
   rw [hg0] at this
   cases this
   cases Nat.eq_of_beq_eq_true hg0
   exact ⟨_,rfl,rfl,rfl⟩
  | false=>rw [hg0] at this;cases this
end Go.Proofs.YtoldjgmcoekchaaGreatDoor
namespace Go.Proofs.YtoldjgmcoekchaaGreatDoor
open Go Go.RowKit Go.V Go.E
set_option maxRecDepth 1000000
set_option maxHeartbeats 0
attribute [local instance] glW
theorem lives23_run (t:TypeId):callN false ctx3 true 200 1 1 (.fn 10) [] (h00 t) 1 (λ v _ _=>isT v)=true :=
 S.run_ok conT3_p (fs:=[10,5,6,7,9,8,12,13,26,21,27,16,29,28,30,31,32,33,34,11,39,40,41,42,43,44,45,47,46,50,56,58,57,17,67,59,60,61,62,63,64,65,66,68,69,72,73,71,70,74,75,76,35,36,37,38,88,89,90,91,81,92,93,96,105,106,107,108,109,110,112,111,113,114,115,116,117,118,121,119,120,122,77,78,79,80,82,83,84,85,86,87,129,131,130,132,133,134,135,136,137,138,139,140,141,142,143,144,145,98,99,150,158,159,169,176,179,178,177,181,180,182,123,124,125,126,127,128,190,186,185,191,192,193,194,195,196,197,198,199,200,201,202,203,204,205,206,207,208,209,210,211,212,52,53,156,213,214,215,216,217,218,152,153,222,189,264,265,269,267,266,268,272,270,271,187,188,274,275,276,277,278,279,280,281,97,101,100,103,102,231,230,282,283,284,286,285,287,289,288,290,291,292,436,437,227,273,339,338,341,340,345,346,347,348,349,350,352,353,354,355,151,154,157,155,306,307,297,298,299,300,301,302,303,304,305,356,357,358,359,360,361,362,363,438,384,385,386,387,388,389,390,391,392,393,395,228,229,364,365,366,367,368,396,397,398,399,400,401,402,403,404,439,408,409,410,411,412,413,405,414,415,416,417,418,419]) (by kernel_rfl)
theorem rel_small (j i:LoopTab) {ρ : Plc} {h:H} {nx:Nat} {w:World} {t:TypeId} (hr:@Rel _ j ρ h.get nx w) (h0:h.get 0=some (.cells t (.by 64 tabN))):@Rel _ i (λ b=>if b=0 then ρ 0 else none) (h00 t).get 1 w:=by
 have hget:∀ b,(h00 t).get b=if b=0 then some (.cells t (.by 64 tabN)) else none:=λ b=>by
  unfold h00
  rw [Tr.get_nd]
  split
  ·rfl
  ·split<;>rfl
 obtain ⟨p,hp,arr,fr,cs,h1,h2,h3,h4,h5⟩:=@Rel.blk _ j _ _ _ _ hr 0 _ h0
 refine ⟨λ b q hq=>?_,λ b B hB=>?_,λ b b' q q' k1 k2 _ _ _=>?_,λ g k hk=>?_⟩
 ·split at hq
  ·rename_i e;subst e;exact ⟨by omega,(@Rel.dom _ j _ _ _ _ hr 0 q hq).2⟩
  ·cases hq
 ·rw [hget] at hB
  split at hB
  ·rename_i e
   subst e
   cases hB
   refine ⟨p,hp,arr,fr,cs,h1,h2,?_,h4,h5⟩
   cases h3 with
   | bys _ _ hlt=>exact .bys _ _ hlt
  ·cases hB
 ·rw [hget] at k1 k2
  have a1:b=0:=Classical.byContradiction λ h=>k1 (if_neg h)
  have a2:b'=0:=Classical.byContradiction λ h=>k2 (if_neg h)
  omega
 ·obtain ⟨q,k1,k2,k3⟩:=@Rel.gl _ j _ _ _ _ hr g k hk
  have hk0:(bif Nat.beq g 1 then some 0 else none)=some k:=hk
  cases hg0:Nat.beq g 1 with
  | true =>
   rw [hg0] at hk0
   cases hk0
   exact ⟨q,k1,k2,k3⟩
  | false=>rw [hg0] at hk0;cases hk0
theorem lives23_c [j:LoopTab] {ρ : Plc} {h:H} {nx:Nat} {w:World} {t:TypeId} (hr:Rel ρ h.get nx w) (h0:h.get 0=some (.cells t (.by 64 tabN))):Calls Tryz.prog 10 #[] w (Ret λ x w'=>x=.bool true∧Grow w w') :=
 (top_gen (P:=Tryz.prog) (by kernel_rfl) ctx3_ok (fi:=fiOf Tryz.f10) (by kernel_rfl) (by kernel_rfl) [] [] 200 isT (h00 t) 1 _ w (rel_small j (tabOf ctx3) hr h0) .nil (lives23_run t)).mono λ e w' ⟨x,h1,⟨ρ',v,_,h2,h3⟩,hg⟩=>⟨x,h1,isT_ok h2 h3,hg⟩
end Go.Proofs.YtoldjgmcoekchaaGreatDoor
namespace Go.Proofs.YtoldjgmcoekchaaGreatDoor
open Go Go.RowKit Go.V Go.ChangeShapes Go.WideShapes Go.ChangeAt
section
variable {H:Type} {enc:TypeId×Value→H} {P:Program} {W:World}
theorem sl_dig {t e u:TypeId} {fuel:Nat} {c:Value} {x:DataW H×List MemPlace} (ht:P.underlying t=some (.slice e)) (he:P.underlying e=some (.array 32 u)) (hu:P.underlying u=some (.int .u8)) (hc:P.cellsOf e=32) (hc1:P.cellsOf u=1)
  (h:DataW.trod enc P W 0 (λ _=>true) true fuel t [c]=some x) :
  ∃ (a:Option Addr) (n m:Nat) (zs:List Value),c=.slice a n m∧Sl (λ k=>k<W.heap.size) W 32 a n m zs∧∀ v∈zs,v.oneCell'=true:=by
 rcases Go.Deep.open_slice ht h with ⟨hcs,_⟩|⟨a,n,cap,m,f2,D,Pl,hcs,_,hl,hm,hmm,_,hx⟩
 ·simp only [List.cons.injEq,and_true] at hcs
  subst hcs
  exact ⟨none,0,0,[],rfl,Sl.nil_mk _ _ _,by simp⟩
 ·simp only [List.cons.injEq,and_true] at hcs
  subst hcs
  simp only [if_true] at hmm
  subst hmm
  rw [hc] at hx
  have key:∀ j,j<n*32→∃ v,W.cell? (a.add j)=some v∧v.oneCell'=true:=by
   intro j hj
   have hi:j / 32<m:=by omega
   obtain ⟨cs',h1,h2⟩:=hx (j / 32) hi
   obtain ⟨_,h3,h4⟩:=World.cells?_some h1
   have h5:=h4 (j%32) (Nat.mod_lt _ (by decide))
   rw [Go.Deep.add_add,show j / 32*32+j%32=j by omega] at h5
   have hlt:j%32<cs'.length:=by rw [h3];exact Nat.mod_lt _ (by decide)
   rw [List.getElem?_eq_getElem hlt] at h5
   refine ⟨_,h5,?_⟩
   obtain ⟨xs,q,_,_,h6,h7,h8⟩:=DataW.trod_array he h2
   have h9:=h8 (j%32) (Nat.mod_lt _ (by decide))
   rw [hc1,Nat.mul_one,List.getElem?_eq_getElem (by rw [h7];exact Nat.mod_lt _ (by decide))] at h9
   obtain ⟨z,h10,_⟩:=DataW.trod_int hu h9
   have:cs'[j%32]'hlt=.int .u8 z:=by
    have h11:((cs'.drop (j%32)).take 1)[0]? = some (.int .u8 z):=by rw [h10];rfl
    rw [List.getElem?_take,if_pos (by omega),List.getElem?_drop,Nat.add_zero,List.getElem?_eq_getElem hlt] at h11
    exact Option.some.inj h11
   rw [this];rfl
  refine ⟨some a,n,m,(List.range (n*32)).map (λ j=>(W.cell? (a.add j)).getD undef),rfl,⟨by simp,hl,hm,(λ h=>by cases h),λ hn=>?_⟩,λ v hv=>?_⟩
  ·have h0:0<n*32:=by
    rcases Nat.eq_zero_or_pos (n*32) with h|h
    ·rw [h] at hn;exact absurd rfl hn
    ·exact h
   obtain ⟨v0,k0,_⟩:=key 0 h0
   have hs:a.spot=none:=by have:=World.cell?_spot k0;rwa [show a.add 0=a from rfl] at this
   obtain ⟨b,o,s⟩:=a
   simp only at hs
   subst hs
   have hb:=World.block_lt_of_cell? W _ k0
   refine ⟨rfl,hb,hb,λ j v hj=>?_⟩
   have hjl:j<n*32:=by have:=(List.getElem?_eq_some_iff.1 hj).1;simpa using this
   rw [List.getElem?_map,List.getElem?_range hjl] at hj
   obtain ⟨v',k1,_⟩:=key j hjl
   have hj:(W.cell? (Addr.add ⟨b,o,none⟩ j)).getD undef=v:=Option.some.inj hj
   rw [k1] at hj
   rw [Addr.add_lit] at k1
   rw [k1,← hj];rfl
  ·obtain ⟨j,hj,rfl⟩:=List.mem_map.1 hv
   obtain ⟨v',k1,k2⟩:=key j (List.mem_range.1 hj)
   rw [k1];exact k2
theorem cell_sl {r:Reach} {base:Nat} {t e:TypeId} {v:Value} (ht:P.underlying t=some (.slice e)) (hv:Cell.okWide P W r base t v):∃ a n c,v=.slice a n c:=by
 unfold Cell.okWide at hv
 rw [ht] at hv
 have hv:Cell.ok P W r base t v:=by
  split at hv<;>first|exact hv|(rename_i h;cases h;done)|(rename_i h _;cases h;done)|(rename_i h _ _;cases h;done)
 cases v with
 | slice a n c=>exact ⟨a,n,c,rfl⟩
 | _=>exact absurd hv (by simp [Cell.ok,ht])
theorem cell_of {r:Reach} {base:Nat} {t e:TypeId} {v:Value} (ht:P.underlying t=some (.slice e)) (hv:Value.okWide P W r base t v):Cell.okWide P W r base t v:=by
 unfold Value.okWide at hv
 rw [ht] at hv
 exact hv
theorem int_val {r:Reach} {base:Nat} {t:TypeId} {v:Value} (ht:P.underlying t=some (.int .i64)) (hv:Value.okWide P W r base t v):∃ k,v=.int .i64 k:=by
 unfold Value.okWide at hv
 rw [ht] at hv
 have hv:Cell.okWide P W r base t v:=hv
 unfold Cell.okWide at hv
 rw [ht] at hv
 have hv:Cell.ok P W r base t v:=by
  split at hv<;>first|exact hv|(rename_i h;cases h;done)|(rename_i h _;cases h;done)|(rename_i h _ _;cases h;done)
 cases v with
 | int k z =>
  simp only [Cell.ok,ht] at hv
  first|exact ⟨z,by rw [hv.1]⟩|(obtain ⟨rfl,_⟩:=hv;exact ⟨z,rfl⟩)|(cases hv.1;exact ⟨z,rfl⟩)
 | _=>exact absurd hv (by simp [Cell.ok,ht])
theorem open_span {r:Reach} {base:Nat} {t s b i e:TypeId} {fs:Array Field} {v:Value} (ht:P.underlying t=some (.struct fs)) (hc:P.cellsOf t=4) (hts:P.cellTypes P.depth t=some [s,s,b,i]) (hs:P.underlying s=some (.slice e)) (hv:Value.okWide P W r base t v) :
  ∃ a n c a' n' c' x y,v=.agg #[.slice a n c,.slice a' n' c',x,y]:=by
 unfold Value.okWide at hv
 rw [ht] at hv
 obtain ⟨cs,rfl,hn,ts,h1,_,h2⟩:=hv
 rw [hts] at h1
 cases h1
 rw [hc] at hn
 obtain ⟨l⟩:=cs
 match l,hn with
 | [x0,x1,x2,x3],_ =>
  obtain ⟨u0,k0,k1⟩:=h2 0 x0 rfl
  obtain ⟨u1,k2,k3⟩:=h2 1 x1 rfl
  cases k0
  cases k2
  obtain ⟨a,n,c,rfl⟩:=cell_sl hs k1
  obtain ⟨a',n',c',rfl⟩:=cell_sl hs k3
  exact ⟨a,n,c,a',n',c',x2,x3,rfl⟩
end
end Go.Proofs.YtoldjgmcoekchaaGreatDoor
namespace Go.Proofs.YtoldjgmcoekchaaGreatDoor
open Go Go.RowKit Go.V
set_option maxRecDepth 100000
def ptrB (P:Program) (t:TypeId):Bool:=match P.underlying t with|some (.pointer el)=>(match P.info? el with|some i=>!(Nat.beq i.size 0)|none=>false)|_=>false
class PtrTy (P:Program) (t:TypeId):Prop where
 h:ptrB P t=true
theorem PtrTy.und {P:Program} {t:TypeId} (h:PtrTy P t):∃ el i,P.underlying t=some (.pointer el)∧P.info? el=some i∧i.size≠0:=by
 have h:=h.h
 unfold ptrB at h
 split at h
 ·rename_i el he
  split at h
  ·rename_i i hi
   refine ⟨el,i,he,hi,?_⟩
   intro h0
   rw [h0] at h
   cases h
  ·cases h
 ·cases h
theorem run_equalIn_nn {P:Program} (dp:Nat) {t:TypeId} (h:PtrTy P t) (w:World):(Op.equalIn (dp+1) t (.pointer none) (.pointer none)).run P w=.ok true w:=by
 obtain ⟨el,i,hu,hi,hs⟩:=h.und
 simp [Op.equalIn,underlying,hu,sizeOf,typeInfo,hi,hs]
theorem TL.neNN {P:Program} {n:Nat} {e:Env} {w:World} {Q:Post} {ops:Array Oper} {rest:List Oper} {d:Nat} {ty:TypeId} {pos:String} {aft:Array Edge} {t t2:TypeId} {x y:Operand} [ht:PtrTy P t] (hx:val e x=some (.pointer none)) (hy:val e y=some (.pointer none)) (hd:Nat.blt d n=true)
  (k:TL P n ops rest ((d,.bool false)::e) w Q):TL P n ops (⟨some d,.binOp .neq t x y t2,ty,pos,aft,none⟩::rest) e w Q :=
 TL.run (λ r hr=>by
  have hg:eqGuard .neq t x y (.pointer none) (.pointer none)=Pure.pure ():=rfl
  simp only [execOp,hr.eval hx,hr.eval hy,hg]
  simp only [binOp]
  simp [Op.equal,Op.maxDepth,run_equalIn_nn 9999 ht]) hd k
instance:PtrTy Tryz.prog 37:=⟨by kernel_rfl⟩
theorem valid_nil (w:World):Calls Tryz.prog 39 #[.pointer none] w (Ret λ x w'=>x=.bool false∧Grow w w'):=by
 refine V.calls (args:=[_]) Tryz.func39 rfl Tryz.ntmps39 rfl rfl ?_
 repeat (first|refine TL.guard_skip rfl rfl rfl ?_|(refine TL.isMove ?_;refine TL.pure rfl rfl ?_)|(refine TL.isAsg ?_;refine TL.pure rfl rfl ?_)|refine TL.nil ?_|refine thenQ_normal ?_|refine T.seq ?_|refine T.region ?_|refine T.ret ?_|refine TL.pure rfl rfl ?_|(refine TL.neNN rfl rfl rfl ?_))
 exact ret1 rfl ⟨_,rfl,rfl,yG⟩
theorem get_nil (k:Value) (w:World):Calls Tryz.prog 13 #[.pointer none,k] w (Ret λ x w'=>x=.tuple #[.slice none 0 0,.int .i64 1]∧Grow w w'):=by
 refine V.calls (args:=[_,_]) Tryz.func13 rfl Tryz.ntmps13 rfl rfl ?_
 repeat (first|(refine TL.isMove ?_;refine TL.pure rfl rfl ?_)|(refine TL.isAsg ?_;refine TL.pure rfl rfl ?_)|refine TL.nil ?_|refine thenQ_normal ?_|refine T.seq ?_|refine T.region ?_|refine T.cond_true rfl ?_|refine T.ret ?_|refine thenQ_ret ?_|refine TL.pure rfl rfl ?_|(refine TL.call rfl (valid_nil _) rfl ?_;rintro _ _ ⟨rfl,hg1⟩))
 exact ret2 rfl rfl ⟨_,rfl,rfl,yG⟩
theorem range_nil (s:Value) (w:World):Calls Tryz.prog 18 #[.pointer none,s] w (Ret λ x w'=>x=.tuple #[.slice none 0 0,.int .i64 1]∧Grow w w'):=by
 refine V.calls (args:=[_,_]) Tryz.func18 rfl Tryz.ntmps18 rfl rfl ?_
 repeat (first|(refine TL.isMove ?_;refine TL.pure rfl rfl ?_)|(refine TL.isAsg ?_;refine TL.pure rfl rfl ?_)|refine TL.nil ?_|refine thenQ_normal ?_|refine T.seq ?_|refine T.region ?_|(refine TL.isBox ?_;(refine TL.box rfl rfl rfl ?_;intro bk w' hg hbk hsz hsz'))|refine T.cond_true rfl ?_|refine T.ret ?_|refine thenQ_ret ?_|refine TL.pure rfl rfl ?_|(refine TL.call rfl (valid_nil _) rfl ?_;rintro _ _ ⟨rfl,hg1⟩))
 exact ret2 rfl rfl ⟨_,rfl,rfl,yG⟩
theorem count_nil (s:Value) (w:World):Calls Tryz.prog 19 #[.pointer none,s] w (Ret λ x w'=>x=.tuple #[.int .i64 0,.int .i64 1]∧Grow w w'):=by
 refine V.calls (args:=[_,_]) Tryz.func19 rfl Tryz.ntmps19 rfl rfl ?_
 repeat (first|(refine TL.isMove ?_;refine TL.pure rfl rfl ?_)|(refine TL.isAsg ?_;refine TL.pure rfl rfl ?_)|refine TL.nil ?_|refine thenQ_normal ?_|refine T.seq ?_|refine T.region ?_|(refine TL.isBox ?_;(refine TL.box rfl rfl rfl ?_;intro bk w' hg hbk hsz hsz'))|refine T.cond_true rfl ?_|refine T.ret ?_|refine thenQ_ret ?_|refine TL.pure rfl rfl ?_|(refine TL.call rfl (valid_nil _) rfl ?_;rintro _ _ ⟨rfl,hg1⟩))
 exact ret2 rfl rfl ⟨_,rfl,rfl,yG⟩
theorem state_nil (w:World):Calls Tryz.prog 20 #[.pointer none] w (Ret λ x w'=>x=.tuple #[.agg #[.slice none 0 0,.slice none 0 0,.slice none 0 0],.int .i64 1]∧Grow w w'):=by
 refine V.calls (args:=[_]) Tryz.func20 rfl Tryz.ntmps20 rfl rfl ?_
 repeat (first|(refine TL.isMove ?_;refine TL.pure rfl rfl ?_)|(refine TL.isAsg ?_;refine TL.pure rfl rfl ?_)|refine TL.nil ?_|refine thenQ_normal ?_|refine T.seq ?_|refine T.region ?_|(refine TL.isStore ?_;(refine TL.storeWh rfl rfl yB (by exact rfl) (by exact rfl) (by exact rfl) ?_;intro w' hu hbk hsz))|(refine TL.isAlloc ?_;(refine TL.alloc rfl rfl ?_;intro bk w' hg hbk hsz hsz'))|refine TL.build rfl rfl rfl ?_|refine T.cond_true rfl ?_|refine T.ret ?_|refine thenQ_ret ?_|refine TL.pure rfl rfl ?_|(refine TL.call rfl (valid_nil _) rfl ?_;rintro _ _ ⟨rfl,hg1⟩))
 exact retCT rfl (load_whole (by assumption) rfl) rfl ⟨_,rfl,rfl,yG⟩
theorem stable_nil (w:World):Calls Tryz.prog 21 #[.pointer none] w (Ret λ x w'=>x=.tuple #[.agg #[.slice none 0 0,.slice none 0 0,.slice none 0 0],.int .i64 1]∧Grow w w'):=by
 refine V.calls (args:=[_]) Tryz.func21 rfl Tryz.ntmps21 rfl rfl ?_
 repeat (first|(refine TL.isMove ?_;refine TL.pure rfl rfl ?_)|(refine TL.isAsg ?_;refine TL.pure rfl rfl ?_)|refine TL.nil ?_|refine thenQ_normal ?_|refine T.seq ?_|refine T.region ?_|(refine TL.isStore ?_;(refine TL.storeWh rfl rfl yB (by exact rfl) (by exact rfl) (by exact rfl) ?_;intro w' hu hbk hsz))|(refine TL.isAlloc ?_;(refine TL.alloc rfl rfl ?_;intro bk w' hg hbk hsz hsz'))|refine TL.build rfl rfl rfl ?_|refine T.cond_true rfl ?_|refine T.ret ?_|refine thenQ_ret ?_|refine TL.pure rfl rfl ?_|(refine TL.call rfl (valid_nil _) rfl ?_;rintro _ _ ⟨rfl,hg1⟩))
 exact retCT rfl (load_whole (by assumption) rfl) rfl ⟨_,rfl,rfl,yG⟩
theorem order_nil (w:World):Calls Tryz.prog 14 #[.pointer none] w (Ret λ x w'=>x=.tuple #[.slice none 0 0,.int .i64 0]∧Grow w w'):=by
 refine V.calls (args:=[_]) Tryz.func14 rfl Tryz.ntmps14 rfl rfl ?_
 repeat (first|(refine TL.isMove ?_;refine TL.pure rfl rfl ?_)|(refine TL.isAsg ?_;refine TL.pure rfl rfl ?_)|refine TL.nil ?_|refine thenQ_normal ?_|refine T.seq ?_|refine T.region ?_|refine T.cond_true rfl ?_|refine T.ret ?_|refine thenQ_ret ?_|refine TL.pure rfl rfl ?_|(refine TL.call rfl (valid_nil _) rfl ?_;rintro _ _ ⟨rfl,hg1⟩))
 exact ret2 rfl rfl ⟨_,rfl,rfl,yG⟩
theorem sweep_nil (w:World):Calls Tryz.prog 22 #[.pointer none] w (Ret λ x w'=>x=.tuple #[.int .i64 0,.int .i64 1]∧Grow w w'):=by
 refine V.calls (args:=[_]) Tryz.func22 rfl Tryz.ntmps22 rfl rfl ?_
 repeat (first|(refine TL.isMove ?_;refine TL.pure rfl rfl ?_)|(refine TL.isAsg ?_;refine TL.pure rfl rfl ?_)|refine TL.nil ?_|refine thenQ_normal ?_|refine T.seq ?_|refine T.region ?_|refine T.cond_true rfl ?_|refine T.ret ?_|refine thenQ_ret ?_|refine TL.pure rfl rfl ?_|(refine TL.call rfl (valid_nil _) rfl ?_;rintro _ _ ⟨rfl,hg1⟩))
 exact ret2 rfl rfl ⟨_,rfl,rfl,yG⟩
theorem live_nil (w:World):Calls Tryz.prog 23 #[.pointer none] w (Ret λ x w'=>x=.tuple #[.slice none 0 0,.int .i64 1]∧Grow w w'):=by
 refine V.calls (args:=[_]) Tryz.func23 rfl Tryz.ntmps23 rfl rfl ?_
 repeat (first|(refine TL.isMove ?_;refine TL.pure rfl rfl ?_)|(refine TL.isAsg ?_;refine TL.pure rfl rfl ?_)|refine TL.nil ?_|refine thenQ_normal ?_|refine T.seq ?_|refine T.region ?_|refine T.cond_true rfl ?_|refine T.ret ?_|refine thenQ_ret ?_|refine TL.pure rfl rfl ?_|(refine TL.call rfl (valid_nil _) rfl ?_;rintro _ _ ⟨rfl,hg1⟩))
 exact ret2 rfl rfl ⟨_,rfl,rfl,yG⟩
theorem roots_nil (w:World):Calls Tryz.prog 26 #[.pointer none] w (Ret λ x w'=>x=.int .i64 0∧Grow w w'):=by
 refine V.calls (args:=[_]) Tryz.func26 rfl Tryz.ntmps26 rfl rfl ?_
 repeat (first|(refine TL.isMove ?_;refine TL.pure rfl rfl ?_)|(refine TL.isAsg ?_;refine TL.pure rfl rfl ?_)|refine TL.nil ?_|refine thenQ_normal ?_|refine T.seq ?_|refine T.region ?_|refine T.cond_true rfl ?_|refine T.ret ?_|refine thenQ_ret ?_|refine TL.pure rfl rfl ?_|(refine TL.call rfl (valid_nil _) rfl ?_;rintro _ _ ⟨rfl,hg1⟩))
 exact ret1 rfl ⟨_,rfl,rfl,yG⟩
theorem follow_nil (d:Value) (l:Value) (n:Value) (w:World):Calls Tryz.prog 12 #[.pointer none,d,l,n] w (Ret λ x w'=>x=.tuple #[.agg #[.int .i64 0,.slice none 0 0,.slice none 0 0],.int .i64 1]∧Grow w w'):=by
 refine V.calls (args:=[_,_,_,_]) Tryz.func12 rfl Tryz.ntmps12 rfl rfl ?_
 repeat (first|refine TL.load1 rfl yM rfl ?_|refine TL.nil ?_|refine thenQ_normal ?_|refine T.seq ?_|refine T.region ?_|(refine TL.isStore ?_;first|(refine TL.store1 rfl rfl yB (by exact rfl) (by exact rfl) (by exact rfl) ?_;intro w' hu hbk hsz)|(refine TL.storeWh rfl rfl yB (by exact rfl) (by exact rfl) (by exact rfl) ?_;intro w' hu hbk hsz))|(refine TL.isBox ?_;(refine TL.box rfl rfl rfl ?_;intro bk w' hg hbk hsz hsz'))|(refine TL.isAlloc ?_;(refine TL.alloc rfl rfl ?_;intro bk w' hg hbk hsz hsz'))|refine TL.build rfl rfl rfl ?_|refine T.cond_true rfl ?_|refine T.ret ?_|refine thenQ_ret ?_|refine TL.pure rfl rfl ?_|(refine TL.call rfl (valid_nil _) rfl ?_;rintro _ _ ⟨rfl,hg1⟩))
 exact retQ_ret (vs:=[_,_]) ⟨_,[_],rfl,⟨_,rfl,load_whole (Blk.upd hu (by omega) (by assumption)) rfl⟩,_,[],rfl,⟨_,rfl,run_loadVar_one inferInstance (Blk.cell hbk rfl)⟩,rfl⟩ rfl ⟨_,rfl,rfl,yG⟩
end Go.Proofs.YtoldjgmcoekchaaGreatDoor
namespace Go.Proofs.YtoldjgmcoekchaaGreatDoor
open Go Go.RowKit Go.V Go.E
set_option maxRecDepth 1000000
attribute [local instance] glW
abbrev pl00:Plc:=λ b=>if b=0 then some ⟨1,0,64⟩ else none
theorem dagNew_run (t:TypeId):callN false ctx1j true 100 1 1 (.fn 16) [] (h00 t) 1 (λ _ _ _=>true)=true:=by kernel_rfl
theorem planNil_run (t:TypeId):callN false ctx1j true 100 1 1 (.fn 24) [.agg (.nd 1 (.rp 1 (.int .i64 0)) (.rp 2 .nilSlice)),.agg (.nd 1 (.rp 1 (.int .i64 0)) (.rp 2 .nilSlice))] (h00 t) 1 (λ v _ _=>isT v)=true:=by kernel_rfl
theorem stateNil_run (t:TypeId):callN false ctx1j true 100 1 1 (.fn 25) [.agg (.rp 3 .nilSlice),.agg (.rp 3 .nilSlice)] (h00 t) 1 (λ v _ _=>isT v)=true:=by kernel_rfl
theorem dagNew_c {t:TypeId} {w:World} (hr:@Rel glW (tabOf ctx1j) pl00 (h00 t).get 1 w):Calls Tryz.prog 16 #[] w (Ret λ x w'=>Grow w w') :=
 (top_gen (P:=Tryz.prog) (by kernel_rfl) ctx1j_ok (fi:=fiOf Tryz.f16) (by kernel_rfl) (by kernel_rfl) [] [] 100 (λ _=>true) (h00 t) 1 _ w hr .nil (dagNew_run t)).mono λ e w' ⟨x,h1,_,hg⟩=>⟨x,h1,hg⟩
abbrev plan0:Value:=.agg #[.int .i64 0,.slice none 0 0,.slice none 0 0]
abbrev state0:Value:=.agg #[.slice none 0 0,.slice none 0 0,.slice none 0 0]
theorem plan0_vr (ρ : Plc):VR ρ (.agg (.nd 1 (.rp 1 (.int .i64 0)) (.rp 2 .nilSlice))) plan0 :=
 .agg _ [.int .i64 0,.slice none 0 0,.slice none 0 0] (.nds 1 _ _ [.int .i64 0] [.slice none 0 0,.slice none 0 0] (.rps 1 _ _ rfl λ v hv=>by cases List.mem_singleton.1 hv;exact .int .i64 0 (by decide)) (.rps 2 _ _ rfl λ v hv=>by
  rcases List.mem_cons.1 hv with rfl|hv
  ·exact .nilSlice
  ·cases List.mem_singleton.1 hv;exact .nilSlice) rfl)
theorem state0_vr (ρ : Plc):VR ρ (.agg (.rp 3 .nilSlice)) state0 :=
 .agg _ [.slice none 0 0,.slice none 0 0,.slice none 0 0] (.rps 3 _ _ rfl λ v hv=>by
  have:v=.slice none 0 0:=by simpa using hv
  subst this;exact .nilSlice)
theorem planNil_c {t:TypeId} {w:World} (hr:@Rel glW (tabOf ctx1j) pl00 (h00 t).get 1 w):Calls Tryz.prog 24 #[plan0,plan0] w (Ret λ x w'=>x=.bool true∧Grow w w') :=
 (top_gen (P:=Tryz.prog) (by kernel_rfl) ctx1j_ok (fi:=fiOf Tryz.f24) (by kernel_rfl) (by kernel_rfl) _ [plan0,plan0] 100 isT (h00 t) 1 _ w hr (.cons _ _ _ _ (plan0_vr _) (.cons _ _ _ _ (plan0_vr _) .nil)) (planNil_run t)).mono λ e w' ⟨x,h1,⟨ρ',v,_,h2,h3⟩,hg⟩=>⟨x,h1,isT_ok h2 h3,hg⟩
theorem stateNil_c {t:TypeId} {w:World} (hr:@Rel glW (tabOf ctx1j) pl00 (h00 t).get 1 w):Calls Tryz.prog 25 #[state0,state0] w (Ret λ x w'=>x=.bool true∧Grow w w') :=
 (top_gen (P:=Tryz.prog) (by kernel_rfl) ctx1j_ok (fi:=fiOf Tryz.f25) (by kernel_rfl) (by kernel_rfl) _ [state0,state0] 100 isT (h00 t) 1 _ w hr (.cons _ _ _ _ (state0_vr _) (.cons _ _ _ _ (state0_vr _) .nil)) (stateNil_run t)).mono λ e w' ⟨x,h1,⟨ρ',v,_,h2,h3⟩,hg⟩=>⟨x,h1,isT_ok h2 h3,hg⟩
theorem names_c (F:Nat→Prop) (a:Option Addr) (n c:Nat) (zs:List Value) (w:World) (hs:Sl F w 32 a n c zs) (h1:∀ v∈zs,v.oneCell'=true) (hn:n≤16):Calls Tryz.prog 17 #[.slice a n c] w (Ret λ x w'=>Grow w w'):=by
 refine V.calls (args:=[_]) Tryz.func17 rfl Tryz.ntmps17 rfl rfl ?_
 repeat (first|(refine TL.isMove ?_;refine TL.pure rfl rfl ?_)|(refine TL.isAsg ?_;refine TL.pure rfl rfl ?_)|refine TL.nil ?_|refine thenQ_normal ?_|refine T.seq ?_|refine T.region ?_|(refine TL.isBuildS ?_;(refine TL.buildSlice0 rfl ?_;intro bk w' hg hbk hsz hsz')))
 refine TL.append_empty rfl rfl (own_empty hbk (Nat.le_of_eq hsz)) (hs.grow hg) h1 (by omega) (by omega) rfl ?_
 intro v' w2 hown hg2
 repeat (first|(refine TL.isAsg ?_;refine TL.pure rfl rfl ?_)|refine TL.nil ?_|refine thenQ_normal ?_|refine T.ret ?_)
 exact ret1 rfl ⟨_,rfl,yG⟩
theorem nil_c (F:Nat→Prop) (a:Option Addr) (n c:Nat) (zs:List Value) (k:Int) (ka:Option Addr) (kn kc:Nat) (a1:Option Addr) (n1 c1:Nat) (a2:Option Addr) (n2 c2:Nat) (x y:Value) (W:World) (hs:Sl F W 32 a n c zs) (h1:∀ v∈zs,v.oneCell'=true)
  (hL:laidMet Tryz.prog Rows.viewNilRow.laid W) (hlv:∀ w,Grow W w→Calls Tryz.prog 10 #[] w (Ret λ x w'=>x=.bool true∧Grow w w')) :
  Calls Tryz.prog 4 #[.slice a n c,.int .i64 k,.slice ka kn kc,.agg #[.slice a1 n1 c1,.slice a2 n2 c2,x,y]] W (Ret λ x w'=>x=.bool true∧Grow W w'):=by
 letI:=tabOf ctx1j
 obtain ⟨t,hr⟩:=rel_laid (name:="math/bits.deBruijn64tab") (zs:=tabZ) rfl (by kernel_rfl) (by kernel_rfl) hL
 have R:∀ w,Grow W w→@Rel glW (tabOf ctx1j) pl00 (h00 t).get 1 w:=λ w hg=>(@Stp.ofGrow glW (tabOf ctx1j) 0 0 _ _ _ _ _ hr hg).rel
 refine V.calls (args:=[_,_,_,_]) Tryz.func4 rfl Tryz.ntmps4 rfl rfl ?_
 by_cases b0:16<n
 ·repeat (first|(refine TL.isGuard ?_;first|refine TL.guard_skip rfl rfl rfl ?_|refine TL.guard_no rfl rfl yD rfl ?_)|(refine TL.isMove ?_;refine TL.pure rfl rfl ?_)|(refine TL.isAsg ?_;refine TL.pure rfl rfl ?_)|refine TL.nil ?_|refine thenQ_normal ?_|refine T.seq ?_|refine T.region ?_|(refine TL.isBin ?_;refine TL.pure rfl rfl ?_)|(refine TL.isBox ?_;(refine TL.box rfl rfl rfl ?_;intro bk w' hg hbk hsz hsz'))|refine TL.len_slice rfl rfl ?_|refine T.cond_true rfl ?_|refine T.cond_false rfl ?_|refine T.ret ?_|refine T.skip ?_|refine thenQ_ret ?_|refine TL.pure rfl rfl ?_|(refine TL.call rfl (hlv _ yG) rfl ?_;rintro _ _ ⟨rfl,hg1⟩))
  exact ret1 rfl ⟨_,rfl,rfl,yG⟩
 by_cases b1:300<kn
 ·repeat (first|(refine TL.isGuard ?_;first|refine TL.guard_skip rfl rfl rfl ?_|refine TL.guard_run rfl rfl rfl ?_|refine TL.guard_yes rfl rfl yD rfl ?_|refine TL.guard_no rfl rfl yD rfl ?_)|(refine TL.isMove ?_;refine TL.pure rfl rfl ?_)|(refine TL.isAsg ?_;refine TL.pure rfl rfl ?_)|refine TL.nil ?_|refine thenQ_normal ?_|refine T.seq ?_|refine T.region ?_|(refine TL.isBin ?_;refine TL.pure rfl rfl ?_)|(refine TL.isBox ?_;(refine TL.box rfl rfl rfl ?_;intro bk w' hg hbk hsz hsz'))|refine TL.len_slice rfl rfl ?_|refine T.cond_true rfl ?_|refine T.cond_false rfl ?_|refine T.ret ?_|refine T.skip ?_|refine thenQ_ret ?_|refine TL.pure rfl rfl ?_|(refine TL.call rfl (hlv _ yG) rfl ?_;rintro _ _ ⟨rfl,hg1⟩))
  exact ret1 rfl ⟨_,rfl,rfl,yG⟩
 by_cases b2:300<n1
 ·repeat (first|(refine TL.isGuard ?_;first|refine TL.guard_skip rfl rfl rfl ?_|refine TL.guard_run rfl rfl rfl ?_|refine TL.guard_yes rfl rfl yD rfl ?_|refine TL.guard_no rfl rfl yD rfl ?_)|(refine TL.isMove ?_;refine TL.pure rfl rfl ?_)|(refine TL.isAsg ?_;refine TL.pure rfl rfl ?_)|refine TL.load1 rfl yM rfl ?_|refine TL.fieldAddr rfl rfl ?_|refine TL.nil ?_|refine thenQ_normal ?_|refine T.seq ?_|refine T.region ?_|(refine TL.isBin ?_;refine TL.pure rfl rfl ?_)|(refine TL.isBox ?_;(refine TL.box rfl rfl rfl ?_;intro bk w' hg hbk hsz hsz'))|refine TL.len_slice rfl rfl ?_|refine T.cond_true rfl ?_|refine T.cond_false rfl ?_|refine T.ret ?_|refine T.skip ?_|refine thenQ_ret ?_|refine TL.pure rfl rfl ?_|(refine TL.call rfl (hlv _ yG) rfl ?_;rintro _ _ ⟨rfl,hg1⟩))
  exact ret1 rfl ⟨_,rfl,rfl,yG⟩
 by_cases b3:300<n2
 ·repeat (first|(refine TL.isGuard ?_;first|refine TL.guard_run rfl rfl rfl ?_|refine TL.guard_yes rfl rfl yD rfl ?_)|(refine TL.isMove ?_;refine TL.pure rfl rfl ?_)|(refine TL.isAsg ?_;refine TL.pure rfl rfl ?_)|refine TL.load1 rfl yM rfl ?_|refine TL.fieldAddr rfl rfl ?_|refine TL.nil ?_|refine thenQ_normal ?_|refine T.seq ?_|refine T.region ?_|(refine TL.isBin ?_;refine TL.pure rfl rfl ?_)|(refine TL.isBox ?_;(refine TL.box rfl rfl rfl ?_;intro bk w' hg hbk hsz hsz'))|refine TL.len_slice rfl rfl ?_|refine T.cond_false rfl ?_|refine T.cond_yes rfl yD ?_|refine T.ret ?_|refine T.skip ?_|refine thenQ_ret ?_|refine TL.pure rfl rfl ?_|(refine TL.call rfl (hlv _ yG) rfl ?_;rintro _ _ ⟨rfl,hg1⟩))
  exact ret1 rfl ⟨_,rfl,rfl,yG⟩
 repeat (first|(refine TL.isGuard ?_;first|refine TL.guard_run rfl rfl rfl ?_|refine TL.guard_yes rfl rfl yD rfl ?_)|(refine TL.isMove ?_;refine TL.pure rfl rfl ?_)|(refine TL.isAsg ?_;refine TL.pure rfl rfl ?_)|(refine TL.isLoad ?_;first|refine TL.load1 rfl yM rfl ?_|refine TL.loadW rfl yB (by exact rfl) rfl ?_)|refine TL.fieldAddr rfl rfl ?_|refine TL.nil ?_|refine thenQ_normal ?_|refine T.seq ?_|refine T.region ?_|(refine TL.isBin ?_;refine TL.pure rfl rfl ?_)|(refine TL.isStore ?_;(refine TL.storeWh rfl rfl yB (by exact rfl) (by exact rfl) (by exact rfl) ?_;intro w' hu hbk hsz))|(refine TL.isBox ?_;(refine TL.box rfl rfl rfl ?_;intro bk w' hg hbk hsz hsz'))|(refine TL.isAlloc ?_;(refine TL.alloc rfl rfl ?_;intro bk w' hg hbk hsz hsz'))|refine TL.len_slice rfl rfl ?_|refine T.cond_false rfl ?_|refine T.cond_no rfl yD ?_|refine T.skip ?_|refine TL.pure rfl rfl ?_|(refine TL.call rfl (hlv _ yG) rfl ?_;rintro _ _ ⟨rfl,hg1⟩)|(refine TL.call rfl (dagNew_c (R _ yG)) rfl ?_;rintro d0 _ hg2)|(refine TL.call rfl (names_c F a n c zs _ (hs.grow yG) h1 (by omega)) rfl ?_;rintro l0 _ hg3)|(refine TL.call rfl (follow_nil _ _ _ _) rfl ?_;rintro _ _ ⟨rfl,hg4⟩)|(refine TL.call rfl (get_nil _ _) rfl ?_;rintro _ _ ⟨rfl,hg4⟩)|(refine TL.call rfl (range_nil _ _) rfl ?_;rintro _ _ ⟨rfl,hg4⟩)|(refine TL.call rfl (count_nil _ _) rfl ?_;rintro _ _ ⟨rfl,hg4⟩)|(refine TL.call rfl (state_nil _) rfl ?_;rintro _ _ ⟨rfl,hg4⟩)|(refine TL.call rfl (stable_nil _) rfl ?_;rintro _ _ ⟨rfl,hg4⟩)|(refine TL.call rfl (order_nil _) rfl ?_;rintro _ _ ⟨rfl,hg4⟩)|(refine TL.call rfl (sweep_nil _) rfl ?_;rintro _ _ ⟨rfl,hg4⟩)|(refine TL.call rfl (live_nil _) rfl ?_;rintro _ _ ⟨rfl,hg4⟩))
 apply T.any 67 [is _,is _,is _,is _,is _,is _,is _,is _,is _,is _,is _,is _,is _,is _,is _,is _,is _,is _,is _,is _,is _,is _,is _,is _,is _,is _,is _,is _,is _,is _,is _,is _,is _,is _,is _,is _,is _,is _,is _,is _,is _,is _,is _,is _,is _,is _,is _,is _,is _,is _,is _,is _,is _,is _,is _,is _,is _,is _,is _,is _,is _,is _,is _,is _,is _,is _,is _];(· kernel_rfl);(· ((repeat' (first|exact allDo_end|refine allDo_cons ?_ ?_));(iterate 67 (· ((first|refine does_mk0 rfl rfl rfl ?_|refine does_mk rfl rfl rfl rfl ?_);( intro wq _ _ hgq;(repeat (refine need_cons rfl rfl ?_;intro vq hvq;try (obtain rfl:=hvq)));(refine need_nil ?_));(repeat (first|refine TL.guard_run rfl rfl rfl ?_|(refine TL.isMove ?_;refine TL.pure rfl rfl ?_)|(refine TL.isLoad ?_;first|refine TL.load1 rfl yM rfl ?_|refine TL.loadW rfl yB (by exact rfl) rfl ?_)|refine TL.fieldAddr rfl rfl ?_|(refine TL.isAdd ?_;refine TL.addI rfl rfl (by omega) (by omega) rfl ?_)|refine TL.nil ?_|(refine TL.isBin ?_;refine TL.pure rfl rfl ?_)|refine TL.build rfl rfl rfl ?_|refine TL.len_slice rfl rfl ?_|refine TL.pure rfl rfl ?_|(refine TL.call rfl (roots_nil _) rfl ?_;rintro _ _ ⟨rfl,hg4⟩)|(refine TL.call rfl (planNil_c (R _ yG)) rfl ?_;rintro _ _ ⟨rfl,hg5⟩)|(refine TL.call rfl (stateNil_c (R _ yG)) rfl ?_;rintro _ _ ⟨rfl,hg5⟩)));exact one_end rfl yG rfl)))));(rintro _ _ _ hgr _ _;(repeat (refine need_cons rfl rfl ?_;intro vq hvq;try (obtain rfl:=hvq)));(refine need_nil ?_))
 change TL _ _ _ (⟨some 8,.assign (.tmp 168),_,_,_,none⟩::[]) _ _ _
 repeat (first|(refine TL.isAsg ?_;refine TL.pure rfl rfl ?_)|refine TL.nil ?_|refine thenQ_normal ?_|refine T.ret ?_)
 exact ret1 rfl ⟨_,rfl,rfl,yG⟩
end Go.Proofs.YtoldjgmcoekchaaGreatDoor
