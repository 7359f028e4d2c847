import Derived.Test.YtoldjgmcoekchaaGreatDoorQj
import Derived.Test.YtoldjgmcoekchaaGreatDoorQo
import Derived.Test.YtoldjgmcoekchaaGreatDoorQm
import Derived.Test.YtoldjgmcoekchaaGreatDoorQr
import Derived.Lib.LaidTab
import Derived.Test.YtoldjgmcoekchaaGreatDoorQf
import Derived.Test.YtoldjgmcoekchaaGreatDoorRows
import Derived.ProofKit
import Derived.OpenShut
import Derived.ShutString
import Derived.ChangeOld
import Derived.Below
import Derived.Lib.SmallJoins
import Derived.Test.YtoldjgmcoekchaaGreatDoorTie
import Derived.JoinedOf
import Derived.SevenTiedAt
import Derived.Test.YtoldjgmcoekchaaGreatDoorCards
import Derived.LaidLaws
import Derived.LaidHandle
import Derived.LaidMore
import Derived.ChangeVars
import Derived.Stop.Joined
set_option linter.unusedSimpArgs false
set_option linter.unusedVariables false
set_option linter.unusedSectionVars false
set_option maxHeartbeats 16000000
set_option maxRecDepth 100000
namespace Go.E
open Go Go.RowKit Go.V
variable [Gl]
end Go.E
namespace Go.E
open Go Go.RowKit Go.V
variable [Gl]
def h1row (t:TypeId) (n s:Nat):H:=.nd (.nd .lf (some (.cells t (.by n s))) .lf) none .lf
theorem h1row_get (t:TypeId) (n s b:Nat):(h1row t n s).get b=if b=1 then some (.cells t (.by n s)) else none:=by
 unfold h1row
 rw [Tr.get_nd]
 by_cases h0:b=0
 ·subst h0;simp
 ·rw [if_neg h0]
  by_cases h1:b%2=1
  ·rw [if_pos h1,Tr.get_nd]
   by_cases h2:b / 2=0
   ·rw [if_pos h2,if_pos (by omega)]
   ·have hb1:¬ b=1:=λ e=>by subst e;simp at h2
    rw [if_neg h2,show (if b=1 then some (Bk.cells t (.by n s)) else none)=none from if_neg hb1]
    split<;>rfl
  ·rw [if_neg h1,if_neg (by omega)];rfl
def plRow (ρ : Plc) (p:Pl) (o:Nat):Plc:=λ j=>if j=0 then ρ 0 else if j=1 then some ⟨p.blk,p.sh+o,p.size⟩ else none
theorem rel_row [LoopTab] {ρ : Plc} {w:World} {b o n s:Nat} {t:TypeId} {r:Rope} {p:Pl} (hd0:∀ q,ρ 0=some q→q.blk<w.heap.size) (hd:p.blk<w.heap.size)
  (hc:∃ arr fr cs,w.heap[p.blk]? = some (.cells arr t fr)∧arr.size=p.size∧RR ρ r cs∧(∀ (i:Nat) (v:Value),cs[i]? = some v→arr[p.sh+i]? = some v)∧FrOk fr arr.size) (hgl:GlOk ρ)
  (hG0:∀ G k,Gl.tab G=some k→k=0) (hq:∀ ρ cs,RR ρ r cs→(cs.drop o).take n=bcells n s∧s<256^n):Rel (plRow ρ p o) (h1row t n s).get 2 w:=by
 obtain ⟨arr,fr,cs,h1,h2,h3,h4,h5⟩:=hc
 obtain ⟨e1,hs⟩:=hq ρ cs h3
 refine ⟨λ j q hj=>?_,λ j B hB=>?_,λ j j' q q' hj hj' _ _ _=>?_,λ G k hk=>?_⟩
 ·unfold plRow at hj
  split at hj
  ·rename_i h0;subst h0;exact ⟨by omega,hd0 q hj⟩
  ·split at hj
   ·rename_i h0;cases hj;exact ⟨by omega,hd⟩
   ·cases hj
 ·rw [h1row_get] at hB
  split at hB
  ·rename_i h0
   subst h0
   cases hB
   refine ⟨_,rfl,arr,fr,bcells n s,h1,h2,.bys n s hs,λ i v hi=>?_,h5⟩
   rw [← e1,List.getElem?_take] at hi
   split at hi
   ·rw [List.getElem?_drop] at hi
    have:=h4 _ _ hi
    rwa [← Nat.add_assoc] at this
   ·cases hi
  ·cases hB
 ·rw [h1row_get] at hj hj'
  have a1:j=1:=Classical.byContradiction λ h=>hj (if_neg h)
  have a2:j'=1:=Classical.byContradiction λ h=>hj' (if_neg h)
  omega
 ·obtain ⟨q,k1,k2,k3⟩:=hgl G k hk
  cases hG0 G k hk
  exact ⟨q,k1,k2,k3⟩
end Go.E
namespace Go.E
open Go Go.RowKit Go.V
def A.same:A→A→Bool
 | .bool a,.bool b=>bif a then b else not b
 | .int k a,.int k' b=>two (kEq k k') (Nat.beq a b)
 | .str n s,.str m t=>two (Nat.beq n m) (Nat.beq s t)
 | .ptr b o,.ptr c p=>two (Nat.beq b c) (Nat.beq o p)
 | .slice b o n c,.slice b' o' n' c'=>two (two (Nat.beq b b') (Nat.beq o o')) (two (Nat.beq n n') (Nat.beq c c'))
 | .slu b o n c,.slu b' o' n' c'=>two (two (Nat.beq b b') (Nat.beq o o')) (two (Nat.beq n n') (Nat.beq c c'))
 | .map b,.map c=>Nat.beq b c
 | .nil,.nil=>true
 | .nilSlice,.nilSlice=>true
 | .nilMap,.nilMap=>true
 | .nilFunc,.nilFunc=>true
 | .nilIface,.nilIface=>true
 | _,_=>false
def Rope.same:Rope→Rope→Bool
 | .by n s,.by m t=>two (Nat.beq n m) (Nat.beq s t)
 | .rp n a,.rp m b=>two (Nat.beq n m) (a.same b)
 | .nd n l r,.nd m l' r'=>two (Nat.beq n m) (two (l.same l') (r.same r'))
 | _,_=>false
def V.same0:V→V→Bool
 | .at a,.at b=>a.same b
 | .agg r,.agg s=>r.same s
 | _,_=>false
def sameL:List V→List V→Bool
 | [],[]=>true
 | x::xs,y::ys=>two (x.same0 y) (sameL xs ys)
 | _,_=>false
def V.same:V→V→Bool
 | .tup xs,.tup ys=>sameL xs ys
 | x,y=>x.same0 y
def sameBs (h:H):Nat→List (Option (TypeId×Rope))→Bool
 | _,[]=>true
 | i,none::l=>sameBs h (Nat.succ i) l
 | i,some (t,r)::l=>(match h.get i with|some (.cells t' r')=>two (Nat.beq t' t) (r'.same r)|_=>false)&&sameBs h (Nat.succ i) l
structure RowM where
 pre:Option Nat
 u:Bool
 n:Nat
 c:Nat
 s:Nat
 v:V
 bs:List (Option (TypeId×Rope))
def RowM.chk (e:RowM) (v:V) (h:H) (nx:Nat):Bool:=two (v.same e.v) (two (sameBs h 2 e.bs) (Nat.beq nx (Nat.add 2 e.bs.length)))
end Go.E
namespace Go.S
open Go Go.E
variable [Gl]
end Go.S
namespace Go.E
open Go Go.RowKit Go.V
def byB:V→Option (Nat×Nat)
 | .agg r=>r.bytes
 | _=>none
abbrev byV (p:Nat×Nat):V:=.agg (.by p.1 p.2)
def sameBL:List V→List (Nat×Nat)→Bool
 | [],[]=>true
 | v::vs,p::ps=>(match byB v with|some q=>two (two (Nat.beq q.1 p.1) (Nat.beq q.2 p.2)) (sameBL vs ps)|none=>false)
 | _,_=>false
structure TabM where
 ar:List (Nat×Nat)
 r:Nat×Nat
def lookTab (vs:List V):List TabM→Option (Nat×Nat)
 | []=>none
 | e::l=>bif sameBL vs e.ar then some e.r else lookTab vs l
noncomputable def conTab (tab:List TabM):Con:=⟨λ bad vs h _ _ nx k=>match lookTab vs tab with
 | some p=>k (byV p) h nx
 | none=>bad⟩
def isBy (p:Nat×Nat) (v:V):Bool:=match byB v with|some q=>two (Nat.beq q.1 p.1) (Nat.beq q.2 p.2)|none=>false
section
variable [Gl]
def TabRun (Γ : Ctx) (d f:Nat) (e:TabM):Prop:=callN false Γ true d 1 1 (.fn f) (e.ar.map byV) .lf 1 (λ v _ _=>isBy e.r v)=true
theorem byB_ok [LoopTab] {v:V} {p:Nat×Nat} (h:byB v=some p) {ρ : Plc} {y:Value} (hv:VR ρ v y):y=.agg (bcells p.1 p.2).toArray∧p.2<256^p.1:=by
 unfold byB at h
 split at h
 ·rename_i r
  cases hv with
  | agg _ cs hr =>
   obtain ⟨e,hlt⟩:=rope_bytes hr (n:=p.1) (s:=p.2) (by rw [h])
   rw [e];exact ⟨rfl,hlt⟩
 ·cases h
theorem byV_vr {p:Nat×Nat} (h:p.2<256^p.1) (ρ : Plc):VR ρ (byV p) (.agg (bcells p.1 p.2).toArray):=.agg _ _ (.bys _ _ h)
theorem sameBL_ok [LoopTab]:∀ {vs:List V} {ps:List (Nat×Nat)},sameBL vs ps=true→∀ {ρ : Plc} {xs:List Value},VRs ρ vs xs→∀ ρ',VRs ρ' (ps.map byV) xs
 | [],[],_,ρ,xs,h,ρ'=>by cases h;exact .nil
 | v::vs,p::ps,e,ρ,xs,h,ρ'=>by
  unfold sameBL at e
  split at e
  ·rename_i q hq
   obtain ⟨e1,e2⟩:=two_tt e
   obtain ⟨e3,e4⟩:=two_tt e1
   have e3:=Nat.eq_of_beq_eq_true e3
   have e4:=Nat.eq_of_beq_eq_true e4
   obtain ⟨q1,q2⟩:=q
   obtain ⟨p1,p2⟩:=p
   subst e3 e4
   cases h with
   | cons _ x _ xs hv hs =>
    obtain ⟨rfl,hlt⟩:=byB_ok hq hv
    exact .cons _ _ _ _ (byV_vr hlt ρ') (sameBL_ok e2 hs ρ')
  ·cases e
 | [],_::_,e,_,_,_,_=>by cases e
 | _::_,[],e,_,_,_,_=>by cases e
theorem lookTab_ok:∀ {tab:List TabM} {vs:List V} {p:Nat×Nat},lookTab vs tab=some p→∃ e∈tab,sameBL vs e.ar=true∧p=e.r
 | [],vs,p,h=>by cases h
 | e::l,vs,p,h=>by
  unfold lookTab at h
  cases hs:sameBL vs e.ar with
  | true=>rw [hs] at h;cases h;exact ⟨e,List.mem_cons_self,hs,rfl⟩
  | false =>
   rw [hs] at h
   obtain ⟨e',h1,h2⟩:=lookTab_ok h
   exact ⟨e',List.mem_cons_of_mem _ h1,h2⟩
theorem rel_lone [LoopTab] (i:LoopTab) {ρ : Plc} {w:World} (hd:∀ q,ρ 0=some q→q.blk<w.heap.size) (hgl:GlOk ρ) (hG0:∀ G k,Gl.tab G=some k→k=0):@Rel _ i (λ b=>if b=0 then ρ 0 else none) (Tr.lf:H).get 1 w:=by
 refine ⟨λ b q hq=>?_,λ b B hB=>?_,λ b b' q q' k1 k2 _ _ _=>?_,λ g k hk=>?_⟩
 ·split at hq
  ·rename_i e;subst e;exact ⟨by omega,hd q hq⟩
  ·cases hq
 ·cases hB
 ·exact absurd rfl k1
 ·obtain ⟨q,k1,k2,k3⟩:=hgl g k hk
  cases hG0 g k hk
  exact ⟨q,k1,k2,k3⟩
theorem conTab_ok [LoopTab] {P:Program} {Γ : Ctx} (hm:P.follows .mixedOrders=true) (hΓ : CtxOk P Γ) {f:Nat} {fi:FI} (hfi : Γ.fn.get f=some fi) (hnc:(Γ.con.get f).isNone=true) (hfn:FnOk P f fi) (hG0:∀ G k,Gl.tab G=some k→k=0) {d:Nat} {tab:List TabM} (he:∀ e∈tab,TabRun Γ d f e):ConOk P f (conTab tab):=by
 intro R bad fl fd hfl vs h nx k
 show Out bad (match lookTab vs tab with|some p=>k (byV p) h nx|none=>bad) _
 cases hv:lookTab vs tab with
 | none=>exact .inl rfl
 | some p =>
  dsimp only
  obtain ⟨e,hmem,hs,rfl⟩:=lookTab_ok hv
  refine .inr ⟨_,h,nx,λ ρ w xs c hc hvs hr=>?_,rfl⟩
  cases hc
  show Res P _ ((callFunc f xs.toArray).run P w)
  rw [enters_of hfn]
  refine Calls.mono (top_gen hm hΓ hfi hnc (e.ar.map byV) xs d (isBy e.r) .lf 1 _ w (rel_lone (tabOf Γ) (λ q hq=>(hr.dom 0 q hq).2) hr.gl hG0) (sameBL_ok hs hvs _) (he e hmem)) λ en w' ⟨x,h1,⟨ρ',v,_,h2,h3⟩,hg⟩=>⟨x,h1,ρ,?_,Stp.ofGrow hr hg⟩
  unfold isBy at h2
  split at h2
  ·rename_i q hq
   obtain ⟨e3,e4⟩:=two_tt h2
   obtain ⟨e5,e6⟩:=byB_ok hq h3
   rw [e5,Nat.eq_of_beq_eq_true e3,Nat.eq_of_beq_eq_true e4]
   rw [Nat.eq_of_beq_eq_true e3,Nat.eq_of_beq_eq_true e4] at e6
   exact byV_vr e6 ρ
  ·cases h2
theorem conTab_p (tab:List TabM):S.ConP (conTab tab):=by
 intro vs h fl fd nx
 show S.Par λ k:S.Out3→Bool=>match lookTab vs tab with|some p=>k (byV p,h,nx)|none=>false
 cases lookTab vs tab with
 | none=>exact S.Par.bad
 | some p=>exact S.Par.pure (α:=S.Out3) _
end
end Go.E
namespace Go.E
open Go Go.RowKit Go.V
inductive BrR where
 | by (n s:Nat)
 | bl (b:Bool)
def BrR.v:BrR→V
 | .by n s=>byV (n,s)
 | .bl b=>.at (.bool b)
def BrR.is:BrR→V→Bool
 | .by n s,v=>isBy (n,s) v
 | .bl b,.at (.bool c)=>bif b then c else not c
 | _,_=>false
structure BrM where
 pre:List (Nat×Nat)
 n:Nat
 s:Nat
 post:List (Nat×Nat)
 r:BrR
def splitB:List V→Option (List (Nat×Nat)×A×List (Nat×Nat))
 | [.agg r,.at a]=>match r.bytes with
  | some p=>some ([p],a,[])
  | none=>none
 | [.agg r,.at a,.agg q]=>match r.bytes,q.bytes with
  | some p,some p2=>some ([p],a,[p2])
  | _,_=>none
 | _=>none
def samePL:List (Nat×Nat)→List (Nat×Nat)→Bool
 | [],[]=>true
 | p::ps,q::qs=>two (two (Nat.beq p.1 q.1) (Nat.beq p.2 q.2)) (samePL ps qs)
 | _,_=>false
theorem samePL_eq:∀ {ps qs:List (Nat×Nat)},samePL ps qs=true→ps=qs
 | [],[],_=>rfl
 | p::ps,q::qs,h=>by
  obtain ⟨h1,h2⟩:=two_tt (show two (two (Nat.beq p.1 q.1) (Nat.beq p.2 q.2)) (samePL ps qs)=true from h)
  obtain ⟨h3,h4⟩:=two_tt h1
  obtain ⟨p1,p2⟩:=p
  obtain ⟨q1,q2⟩:=q
  cases Nat.eq_of_beq_eq_true h3
  cases Nat.eq_of_beq_eq_true h4
  rw [samePL_eq h2]
 | [],_::_,h=>by cases h
 | _::_,[],h=>by cases h
def lookBr (pre:List (Nat×Nat)) (n s:Nat) (post:List (Nat×Nat)):List BrM→Option BrM
 | []=>none
 | e::l=>bif two (two (Nat.beq e.n n) (Nat.beq e.s s)) (two (samePL e.pre pre) (samePL e.post post)) then some e else lookBr pre n s post l
theorem lookBr_ok {pre:List (Nat×Nat)} {n s:Nat} {post:List (Nat×Nat)}:∀ {tab:List BrM} {e:BrM},lookBr pre n s post tab=some e→e∈tab∧e.n=n∧e.s=s∧e.pre=pre∧e.post=post
 | [],e,h=>by cases h
 | x::l,e,h=>by
  unfold lookBr at h
  cases ht:two (two (Nat.beq x.n n) (Nat.beq x.s s)) (two (samePL x.pre pre) (samePL x.post post)) with
  | true =>
   rw [ht] at h
   cases h
   obtain ⟨h1,h2⟩:=two_tt ht
   obtain ⟨h3,h4⟩:=two_tt h1
   obtain ⟨h5,h6⟩:=two_tt h2
   exact ⟨List.mem_cons_self,Nat.eq_of_beq_eq_true h3,Nat.eq_of_beq_eq_true h4,samePL_eq h5,samePL_eq h6⟩
  | false =>
   rw [ht] at h
   obtain ⟨h1,h2⟩:=lookBr_ok h
   exact ⟨List.mem_cons_of_mem _ h1,h2⟩
noncomputable def conBr (tab:List BrM):Con:=⟨λ bad vs h _ _ nx k=>match splitB vs with
 | some (pre,.slu b o n z,post)=>cellsK bad h b λ _ r=>r.sub bad true o n λ q=>match q.bytes with
  | some (m,s)=>okK bad (two (Nat.beq m n) (Nat.beq z 1)) (match lookBr pre n s post tab with
   | some e=>k e.r.v h nx
   | none=>bad)
  | none=>bad
 | _=>bad⟩
section
variable [Gl]
abbrev BrM.args (e:BrM):List V:=e.pre.map byV++.at (.slu 1 0 e.n 1)::e.post.map byV
def BrRun (Γ : Ctx) (d f:Nat) (e:BrM):Prop:=∀ t,callN false Γ true d 2 2 (.fn f) e.args (h1row t e.n e.s) 2 (λ v _ _=>e.r.is v)=true
theorem splitB_ok [LoopTab] {vs:List V} {pre post:List (Nat×Nat)} {a:A} (h:splitB vs=some (pre,a,post)) {ρ : Plc} {xs:List Value} (hv:VRs ρ vs xs) :
  ∃ x,AR ρ a x∧∀ ρ' a',AR ρ' a' x→VRs ρ' (pre.map byV++.at a'::post.map byV) xs:=by
 unfold splitB at h
 split at h
 ·rename_i r a0
  split at h
  ·rename_i p hp
   cases h
   cases hv with
   | cons _ y _ xs hy hxs =>
    obtain ⟨x,rfl,hx⟩:=hxs.one
    obtain ⟨rfl,hlt⟩:=byB_ok (v:=.agg r) hp hy
    exact ⟨x,hx.atom,λ ρ' a' h'=>.cons _ _ _ _ (byV_vr hlt ρ') (.cons _ _ _ _ (.at _ _ h') .nil)⟩
  ·cases h
 ·rename_i r a0 q
  split at h
  ·rename_i p p2 hp hp2
   cases h
   cases hv with
   | cons _ y _ xs hy hxs =>
    cases hxs with
    | cons _ x _ xs hx hxs =>
     obtain ⟨z,rfl,hz⟩:=hxs.one
     obtain ⟨rfl,hlt⟩:=byB_ok (v:=.agg r) hp hy
     obtain ⟨rfl,hlt2⟩:=byB_ok (v:=.agg q) hp2 hz
     exact ⟨x,hx.atom,λ ρ' a' h'=>.cons _ _ _ _ (byV_vr hlt ρ') (.cons _ _ _ _ (.at _ _ h') (.cons _ _ _ _ (byV_vr hlt2 ρ') .nil))⟩
  ·cases h
 ·cases h
theorem BrR.is_ok [LoopTab] {r:BrR} {v:V} (h:r.is v=true) {ρ : Plc} {y:Value} (hv:VR ρ v y) (ρ':Plc):VR ρ' r.v y:=by
 cases r with
 | «by» n s =>
  have h:isBy (n,s) v=true:=by cases v<;>exact h
  unfold isBy at h
  split at h
  ·rename_i q hq
   obtain ⟨e3,e4⟩:=two_tt h
   obtain ⟨e5,e6⟩:=byB_ok hq hv
   rw [e5,Nat.eq_of_beq_eq_true e3,Nat.eq_of_beq_eq_true e4]
   rw [Nat.eq_of_beq_eq_true e3,Nat.eq_of_beq_eq_true e4] at e6
   exact byV_vr e6 ρ'
  ·cases h
 | bl b =>
  unfold BrR.is at h
  split at h
  ·rename_i heq;cases heq
  ·rename_i b' c heq
   cases heq
   have hv:=hv.atom
   cases hv
   have:c=b:=by revert h;cases b<;>cases c<;>simp
   subst this
   exact .at _ _ (.bool _)
  ·cases h
theorem conBr_ok [LoopTab] {P:Program} {Γ : Ctx} (hm:P.follows .mixedOrders=true) (hΓ : CtxOk P Γ) {f:Nat} {fi:FI} (hfi : Γ.fn.get f=some fi) (hnc:(Γ.con.get f).isNone=true) (hfn:FnOk P f fi) (hG0:∀ G k,Gl.tab G=some k→k=0) {d:Nat} {tab:List BrM} (he:∀ e∈tab,BrRun Γ d f e):ConOk P f (conBr tab):=by
 intro R bad fl fd hfl vs h nx k
 unfold conBr
 dsimp only
 split
 ·rename_i pre b o n z post hsp
  refine (cellsK_ok h b _).elim (λ e=>.inl e) λ ⟨t,r,hb,e0⟩=>?_
  rw [e0]
  clear e0
  refine (sub_ok bad true r o n _).out λ q hq=>?_
  split
  ·rename_i m s hs
   refine out_if λ hmn=>?_
   obtain ⟨h1,h2⟩:=two_tt hmn
   cases Nat.eq_of_beq_eq_true h1
   cases Nat.eq_of_beq_eq_true h2
   cases hv:lookBr pre n s post tab with
   | none=>exact .inl rfl
   | some e =>
    dsimp only
    obtain ⟨hmem,rfl,rfl,rfl,rfl⟩:=lookBr_ok hv
    refine .inr ⟨_,h,nx,λ ρ w xs c hc hvs hr=>?_,rfl⟩
    cases hc
    show Res P _ ((callFunc f xs.toArray).run P w)
    rw [enters_of hfn]
    obtain ⟨x,hx,hargs⟩:=splitB_ok hsp hvs
    obtain ⟨p,hp,_⟩:=hr.blk b _ hb
    have hrel:=@rel_row _ (tabOf Γ) ρ w b o e.n e.s t r p (λ q h=>(hr.dom 0 q h).2) (hr.dom b p hp).2 (hr.cells hb hp) hr.gl hG0 (λ ρ cs hc=>rope_bytes (hq ρ cs hc).2 hs)
    have harg:AR (plRow ρ p o) (.slu 1 0 e.n 1) x:=by
     cases hx with
     | slu _ _ _ _ c o' q hq1 hn hc ho hs' =>
      rw [hp] at hq1;cases hq1
      exact AR.slu (ρ:=plRow ρ p o) 1 0 e.n 1 c o' ⟨p.blk,p.sh+o,p.size⟩ rfl hn hc (ho.imp (λ h=>by show o'=p.sh+o+0;omega) id) hs'
    exact Calls.mono (top_gen hm hΓ hfi hnc e.args xs d e.r.is (h1row t e.n e.s) 2 _ w hrel (hargs _ _ harg) (he e hmem t)) λ en w' ⟨y,h1,⟨ρ',v,_,h2,h3⟩,hg⟩=>⟨y,h1,ρ,BrR.is_ok h2 h3 ρ,Stp.ofGrow hr hg⟩
  ·exact .inl rfl
 ·exact .inl rfl
theorem conBr_p (tab:List BrM):S.ConP (conBr tab):=by
 intro vs h fl fd nx
 unfold conBr
 dsimp only
 split
 ·rename_i pre b o n z post _
  unfold cellsK
  split
  ·rename_i t r _
   refine (S.sub_par r o n).bind (G:=λ q (k:S.Out3→Bool)=>match q.bytes with
    | some (m,s)=>okK false (two (Nat.beq m n) (Nat.beq z 1)) (match lookBr pre n s post tab with
     | some e=>k (e.r.v,h,nx)
     | none=>false)
    | none=>false) λ q=>?_
   split
   ·rename_i m s _
    refine S.Par.ite (F:=λ k:S.Out3→Bool=>match lookBr pre n s post tab with|some e=>k (e.r.v,h,nx)|none=>false) (G:=λ _=>false) _ ?_ S.Par.bad
    cases lookBr pre n s post tab with
    | none=>exact S.Par.bad
    | some e=>exact S.Par.pure (α:=S.Out3) _
   ·exact S.Par.bad
  ·exact S.Par.bad
 ·exact S.Par.bad
end
end Go.E
namespace Go.Proofs.YtoldjgmcoekchaaGreatDoor
open Go Go.RowKit Go.V Go.E
set_option maxRecDepth 1000000
set_option maxHeartbeats 0
def tabA0:TabM:=⟨[(32,38748270507491543869280182973643753799655646515636239770492563660028217171792),(64,5363123171977038839829609999282338450991746328236957351089424577488705612027766496857081901453434450043297225933018786575009370859816484882143460383380762)],(64,1937825257543927532264925087466088577402578980747654226191323914857664762084373577848893092099945312857035733279975061532021921953145267333712185551778341)⟩
def tabA1:TabM:=⟨[(32,4479775879350561939966078028930567281492091398554453986147508692999595520602),(64,5363123171977038839829609999282338450991746328236957351089424577488705612027766496857081901453434450043297225933018786575009370859816484882143460383380762)],(64,6518429193235037808560679792206505626900593283559185448723496424081933746385037251615327792247818851132821026406827138546197202453145899682672543916046004)⟩
def tabA2:TabM:=⟨[(32,976169395446259091440016847961552191946733131891289220544191058555282024221),(64,5363123171977038839829609999282338450991746328236957351089424577488705612027766496857081901453434450043297225933018786575009370859816484882143460383380762)],(64,5667086049052120162957542475337740451422309130714724388530468863927625297225231222769678399650032913657914940287685718562369045226263246389308172565746524)⟩
def tabA:List TabM:=[tabA0,tabA1,tabA2]
def tabB0:TabM:=⟨[(32,4540017809173691301317484631494779559640605690309060652293077955089178206602),(64,5363123171977038839829609999282338450991746328236957351089424577488705612027766496857081901453434450043297225933018786575009370859816484882143460383380762),(32,2087824879079178041139741508965079170624552628873333364100373066048322850219),(64,1937825257543927532264925087466088577402578980747654226191323914857664762084374058053863858287760991389269730620407047256253132298465040840302424190848456)],(64,6518429193235037808560679792206505626900593283559185448723496424081933746385037251615327792247818851132821026406827138546197202453145899682672543916046004)⟩
def tabB1:TabM:=⟨[(32,1514654659244940462968692340560866599417269504295366258416998157441732892598),(64,5363123171977038839829609999282338450991746328236957351089424577488705612027766496857081901453434450043297225933018786575009370859816484882143460383380762),(32,1150928838838226525386462460314558803318340153606596075851145585590167536840),(64,1937825257543927532264925087466088577402578980747654226191323914857664762084374058053863858287760991389269730620407047256253132298465040840302424190848456)],(64,5667086049052120162957542475337740451422309130714724388530468863927625297225231222769678399650032913657914940287685718562369045226263246389308172565746524)⟩
def tabB:List TabM:=[tabB0,tabB1]
def tabE0:TabM:=⟨[(32,34828089340911511904745960334644409783991362575212200902493101439880121024513)],(32,74631430173126758377643533528994909432102186869568591192963700361386182208352)⟩
def tabE:List TabM:=[tabE0]
def tabS0:BrM:=⟨[(32,34828089340911511904745960334644409783991362575212200902493101439880121024513)],78,32090739264441919735800352226458623888715999290541077976419340620244707814896656291699149401592124183020083150863858642742042527056303023708735630423298674079454682693184839534127700995170,[],.by 64 525698147298844833249036326828125374485888535936389028007073975036061230264515073998286618617877754741718284604379474628458213274576967482661689614484473⟩
def tabS1:BrM:=⟨[(32,34828089340911511904745960334644409783991362575212200902493101439880121024513)],78,32362681916764104493991835296118166752912657161047604890346204195102463421598746189047267591208729645577192578156294662581397750496007928148487561501173757579923677711789846752008657136738,[],.by 64 175385027467006900000366637349488613859451975538452591689352236446560333916021323000748240873769888558312936388329009700976884248464799457281902674097798⟩
def tabS:List BrM:=[tabS0,tabS1]
def tabG0:BrM:=⟨[(32,74631430173126758377643533528994909432102186869568591192963700361386182208352)],78,32090739264441919735800352226458623888715999290541077976419340620244707814896656291699149401592124183020083150863858642742042527056303023708735630423298674079454682693184839534127700995170,[(64,525698147298844833249036326828125374485888535936389028007073975036061230264515073998286618617877754741718284604379474628458213274576967482661689614484473)],.bl true⟩
def tabG1:BrM:=⟨[(32,74631430173126758377643533528994909432102186869568591192963700361386182208352)],78,32362681916764104493991835296118166752912657161047604890346204195102463421598746189047267591208729645577192578156294662581397750496007928148487561501173757579923677711789846752008657136738,[(64,175385027467006900000366637349488613859451975538452591689352236446560333916021323000748240873769888558312936388329009700976884248464799457281902674097798)],.bl true⟩
def tabG:List BrM:=[tabG0,tabG1]
end Go.Proofs.YtoldjgmcoekchaaGreatDoor
namespace Go.Proofs.YtoldjgmcoekchaaGreatDoor
open Go Go.RowKit Go.V Go.E
set_option maxRecDepth 1000000
set_option maxHeartbeats 0
attribute [local instance] glW
theorem tabA0_run:callN false ctx1j true 200 1 1 (.fn 161) (tabA0.ar.map byV) .lf 1 (λ v _ _=>isBy tabA0.r v)=true :=
 S.run_ok conTj_p (fs:=[161,235,234,237,232,313,312,314,315,316,317,308,236,309,310,238,319,369,372,318,311,321,320,373]) (by kernel_rfl)
end Go.Proofs.YtoldjgmcoekchaaGreatDoor
namespace Go.Proofs.YtoldjgmcoekchaaGreatDoor
open Go Go.RowKit Go.V Go.E
set_option maxRecDepth 1000000
set_option maxHeartbeats 0
attribute [local instance] glW
theorem tabA1_run:callN false ctx1j true 200 1 1 (.fn 161) (tabA1.ar.map byV) .lf 1 (λ v _ _=>isBy tabA1.r v)=true :=
 S.run_ok conTj_p (fs:=[161,235,234,237,232,313,312,314,315,316,317,308,236,309,310,238,319,369,372,318,311,321,320,373]) (by kernel_rfl)
end Go.Proofs.YtoldjgmcoekchaaGreatDoor
namespace Go.Proofs.YtoldjgmcoekchaaGreatDoor
open Go Go.RowKit Go.V Go.E
set_option maxRecDepth 1000000
set_option maxHeartbeats 0
attribute [local instance] glW
theorem tabA2_run:callN false ctx1j true 200 1 1 (.fn 161) (tabA2.ar.map byV) .lf 1 (λ v _ _=>isBy tabA2.r v)=true :=
 S.run_ok conTj_p (fs:=[161,235,234,237,232,313,312,314,315,316,317,308,236,309,310,238,319,369,372,318,311,321,320,373]) (by kernel_rfl)
end Go.Proofs.YtoldjgmcoekchaaGreatDoor
namespace Go.Proofs.YtoldjgmcoekchaaGreatDoor
open Go Go.RowKit Go.V Go.E
set_option maxRecDepth 1000000
set_option maxHeartbeats 0
attribute [local instance] glW
theorem tabB0_run:callN false ctx1j true 200 1 1 (.fn 172) (tabB0.ar.map byV) .lf 1 (λ v _ _=>isBy tabB0.r v)=true :=
 S.run_ok conTj_p (fs:=[172,255,256,251,250,257,258,259,260,261,246,247,249,248,336,253,327,331,333,332,328,330,376,379]) (by kernel_rfl)
end Go.Proofs.YtoldjgmcoekchaaGreatDoor
namespace Go.Proofs.YtoldjgmcoekchaaGreatDoor
open Go Go.RowKit Go.V Go.E
set_option maxRecDepth 1000000
set_option maxHeartbeats 0
attribute [local instance] glW
theorem tabB1_run:callN false ctx1j true 200 1 1 (.fn 172) (tabB1.ar.map byV) .lf 1 (λ v _ _=>isBy tabB1.r v)=true :=
 S.run_ok conTj_p (fs:=[172,255,256,251,250,257,258,259,260,261,246,247,249,248,336,253,327,331,333,332,328,330,376,379]) (by kernel_rfl)
end Go.Proofs.YtoldjgmcoekchaaGreatDoor
namespace Go.Proofs.YtoldjgmcoekchaaGreatDoor
open Go Go.RowKit Go.V Go.E
set_option maxRecDepth 1000000
set_option maxHeartbeats 0
attribute [local instance] glW
noncomputable def addC (t:Tr Con) (n:Nat) (c:Con):Tr Con:=Tr.put t 64 t n (some c) id
theorem addC_all {p:Nat→Con→Prop} {t:Tr Con} {n:Nat} {c:Con} (h:∀ f c,t.get f=some c→p f c) (hc:p n c):∀ f c',(addC t n c).get f=some c'→p f c':=by
 intro f c' hf
 rcases Tr.get_put (bad:=t) 64 t n (some c) id with e|⟨t',ht',e⟩
 ·unfold addC at hf;rw [e] at hf;exact h f c' hf
 ·unfold addC at hf
  rw [e] at hf
  have hf:t'.get f=some c':=hf
  rw [ht'] at hf
  split at hf
  ·rename_i e;subst e;cases hf;exact hc
  ·exact h f c' hf
theorem glW_0:∀ G k,Gl.tab G=some k→k=0:=λ G k h=>by
 have h:(bif Nat.beq G 1 then some 0 else none)=some k:=h
 cases hg:Nat.beq G 1 with
 | true=>rw [hg] at h;exact (Option.some.inj h).symm
 | false=>rw [hg] at h;cases h
theorem con2a [LoopTab]:ConOk Tryz.prog 161 (conTab tabA) :=
 conTab_ok (Γ:=ctx1j) (d:=200) (by kernel_rfl) ctx1j_ok (fi:=fiOf Tryz.f161) (by kernel_rfl) (by kernel_rfl) (fn161) glW_0 (λ e h=>by
  rcases List.mem_cons.1 h with rfl|h
  ·exact tabA0_run
  rcases List.mem_cons.1 h with rfl|h
  ·exact tabA1_run
  rcases List.mem_cons.1 h with rfl|h
  ·exact tabA2_run
  cases h)
theorem con2b [LoopTab]:ConOk Tryz.prog 172 (conTab tabB) :=
 conTab_ok (Γ:=ctx1j) (d:=200) (by kernel_rfl) ctx1j_ok (fi:=fiOf Tryz.f172) (by kernel_rfl) (by kernel_rfl) (fn172) glW_0 (λ e h=>by
  rcases List.mem_cons.1 h with rfl|h
  ·exact tabB0_run
  rcases List.mem_cons.1 h with rfl|h
  ·exact tabB1_run
  cases h)
noncomputable def conT2:Tr Con:=(addC (addC conTj 161 (conTab tabA)) 172 (conTab tabB))
theorem conT2_ok (i:LoopTab):∀ f c,conT2.get f=some c→ConOk Tryz.prog f c:=(addC_all (addC_all (conTj_ok i) con2a) con2b)
theorem conT2_p:∀ f c,conT2.get f=some c→S.ConP c:=(addC_all (addC_all conTj_p (conTab_p _)) (conTab_p _))
noncomputable def ctx2:Ctx:=⟨tyT,fnT,conT2,wmT,dfT⟩
theorem ctx2_ok:CtxOk Tryz.prog ctx2:=⟨tyT_ok,fnT_ok,conT2_ok,dfT_ok⟩
end Go.Proofs.YtoldjgmcoekchaaGreatDoor
namespace Go.Proofs.YtoldjgmcoekchaaGreatDoor
open Go Go.RowKit Go.V Go.E
set_option maxRecDepth 1000000
set_option maxHeartbeats 0
attribute [local instance] glW
theorem tabE0_run:callN false ctx2 true 200 1 1 (.fn 108) (tabE0.ar.map byV) .lf 1 (λ v _ _=>isBy tabE0.r v)=true :=
 S.run_ok conT2_p (fs:=[108,162,163,161,160,164,237,238,236,239,232,233,165,321,320,312,319,318,309,322,308,310,311,121,73,71,70,373,369,374,119,120]) (by kernel_rfl)
end Go.Proofs.YtoldjgmcoekchaaGreatDoor
namespace Go.Proofs.YtoldjgmcoekchaaGreatDoor
open Go Go.RowKit Go.V Go.E
set_option maxRecDepth 1000000
set_option maxHeartbeats 0
attribute [local instance] glW
theorem tabS0_run:∀ t,callN false ctx2 true 200 2 2 (.fn 109) tabS0.args (h1row t tabS0.n tabS0.s) 2 (λ v _ _=>tabS0.r.is v)=true :=
 λ t=>S.run_ok conT2_p (fs:=[109,164,165,166,163,161,160,108,168,167,121,73,71,70,240,237,238,236,239,232,233,162,242,241,119,120,321,320,312,319,318,309,322,308,310,311,373,369,374]) (by kernel_rfl)
end Go.Proofs.YtoldjgmcoekchaaGreatDoor
namespace Go.Proofs.YtoldjgmcoekchaaGreatDoor
open Go Go.RowKit Go.V Go.E
set_option maxRecDepth 1000000
set_option maxHeartbeats 0
attribute [local instance] glW
theorem tabS1_run:∀ t,callN false ctx2 true 200 2 2 (.fn 109) tabS1.args (h1row t tabS1.n tabS1.s) 2 (λ v _ _=>tabS1.r.is v)=true :=
 λ t=>S.run_ok conT2_p (fs:=[109,164,165,166,163,161,160,108,168,167,121,73,71,70,240,237,238,236,239,232,233,162,242,241,119,120,321,320,312,319,318,309,322,308,310,311,373,369,374]) (by kernel_rfl)
end Go.Proofs.YtoldjgmcoekchaaGreatDoor
namespace Go.Proofs.YtoldjgmcoekchaaGreatDoor
open Go Go.RowKit Go.V Go.E
set_option maxRecDepth 1000000
set_option maxHeartbeats 0
attribute [local instance] glW
theorem tabG0_run:∀ t,callN false ctx2 true 200 2 2 (.fn 111) tabG0.args (h1row t tabG0.n tabG0.s) 2 (λ v _ _=>tabG0.r.is v)=true :=
 λ t=>S.run_ok conT2_p (fs:=[111,170,171,173,174,175,172,243,245,244,246,247,249,248,251,250,253,252,254,262,263,255,256,325,326,327,331,333,332,334,335,269,178,177,337,375,328,330,267,266,268,381,382,383,376,379,341,340,407]) (by kernel_rfl)
end Go.Proofs.YtoldjgmcoekchaaGreatDoor
namespace Go.Proofs.YtoldjgmcoekchaaGreatDoor
open Go Go.RowKit Go.V Go.E
set_option maxRecDepth 1000000
set_option maxHeartbeats 0
attribute [local instance] glW
theorem tabG1_run:∀ t,callN false ctx2 true 200 2 2 (.fn 111) tabG1.args (h1row t tabG1.n tabG1.s) 2 (λ v _ _=>tabG1.r.is v)=true :=
 λ t=>S.run_ok conT2_p (fs:=[111,170,171,173,174,175,172,243,245,244,246,247,249,248,251,250,253,252,254,262,263,255,256,325,326,327,331,333,332,334,335,269,178,177,337,375,328,330,267,266,268,381,382,383,376,379,341,340,407]) (by kernel_rfl)
end Go.Proofs.YtoldjgmcoekchaaGreatDoor
namespace Go.Proofs.YtoldjgmcoekchaaGreatDoor
open Go Go.RowKit Go.V Go.E
set_option maxRecDepth 1000000
set_option maxHeartbeats 0
attribute [local instance] glW
theorem con3k [LoopTab]:ConOk Tryz.prog 108 (conTab tabE) :=
 conTab_ok (Γ:=ctx2) (d:=200) (by kernel_rfl) ctx2_ok (fi:=fiOf Tryz.f108) (by kernel_rfl) (by kernel_rfl) (fn108) glW_0 (λ e h=>by
  rcases List.mem_cons.1 h with rfl|h
  ·exact tabE0_run
  cases h)
theorem con3s [LoopTab]:ConOk Tryz.prog 109 (conBr tabS) :=
 conBr_ok (Γ:=ctx2) (d:=200) (by kernel_rfl) ctx2_ok (fi:=fiOf Tryz.f109) (by kernel_rfl) (by kernel_rfl) (fn109) glW_0 (λ e h=>by
  rcases List.mem_cons.1 h with rfl|h
  ·exact tabS0_run
  rcases List.mem_cons.1 h with rfl|h
  ·exact tabS1_run
  cases h)
theorem con3g [LoopTab]:ConOk Tryz.prog 111 (conBr tabG) :=
 conBr_ok (Γ:=ctx2) (d:=200) (by kernel_rfl) ctx2_ok (fi:=fiOf Tryz.f111) (by kernel_rfl) (by kernel_rfl) (fn111) glW_0 (λ e h=>by
  rcases List.mem_cons.1 h with rfl|h
  ·exact tabG0_run
  rcases List.mem_cons.1 h with rfl|h
  ·exact tabG1_run
  cases h)
noncomputable def conT3:Tr Con:=(addC (addC (addC conT2 108 (conTab tabE)) 109 (conBr tabS)) 111 (conBr tabG))
theorem conT3_ok (i:LoopTab):∀ f c,conT3.get f=some c→ConOk Tryz.prog f c:=(addC_all (addC_all (addC_all (conT2_ok i) con3k) con3s) con3g)
theorem conT3_p:∀ f c,conT3.get f=some c→S.ConP c:=(addC_all (addC_all (addC_all conT2_p (conTab_p _)) (conBr_p _)) (conBr_p _))
noncomputable def ctx3:Ctx:=⟨tyT,fnT,conT3,wmT,dfT⟩
theorem ctx3_ok:CtxOk Tryz.prog ctx3:=⟨tyT_ok,fnT_ok,conT3_ok,dfT_ok⟩
end Go.Proofs.YtoldjgmcoekchaaGreatDoor
namespace Go.Proofs.YtoldjgmcoekchaaGreatDoor
open Go Go.RowKit Go.V Go.E
set_option maxRecDepth 100000
def tabZ:List Int:=[0,1,56,2,57,49,28,3,61,58,42,50,38,29,17,4,62,47,59,36,45,43,51,22,53,39,33,30,24,18,12,5,63,55,48,27,60,41,37,16,46,35,44,21,52,32,23,11,54,26,40,15,34,20,31,10,25,14,19,9,13,8,7,6]
def tabN:Nat:=315684040783403026461198565492879320519372303033823910828724750665742568755751545437592878574175936176031276695822391845783248645128493468529036736594176
noncomputable def h00 (t:TypeId):H:=.nd .lf (some (.cells t (.by 64 tabN))) .lf
theorem tab_bytes:(tabZ.map λ z=>Value.int .u8 z)=bcells 64 tabN:=by kernel_rfl
theorem rel_laid [LoopTab] {W:World} {name:String} {zs:List Int} (hz:zs=tabZ) (hg:(Tryz.prog).globalNamed name=some 1) (hty:((Tryz.prog).globals[1]?).map (·.type)=some 33) (h:laidMet Tryz.prog [(name,Lib.tabData .u8 zs)] W) :
  ∃ t,@Rel glW _ (λ b=>if b=0 then some ⟨1,0,64⟩ else none) (h00 t).get 1 W:=by
 letI:=glW
 have hT:=Lib.tabIs_of_head hg hty Tryz.underlying33 Tryz.underlying5 (by kernel_rfl) (by kernel_rfl) h
 obtain ⟨arr,t,fr,hb,ha⟩:∃ arr t fr,W.heap[1]? = some (.cells arr t fr)∧arr=(zs.map λ z=>Value.int .u8 z).toArray:=by
  unfold Lib.TabIs World.var? at hT
  rw [hg] at hT
  simp only [Option.bind_some] at hT
  split at hT
  ·rename_i cs t fr hb
   exact ⟨cs,t,fr,hb,Option.some.inj hT⟩
  ·cases hT
 have hfr:fr=(0,0):=by
  obtain ⟨ps,⟨g,t',cs,fuel,p,q,hg',_,hv,_,_,rfl⟩,_,hc⟩:=h
  obtain rfl:=Option.some.inj (hg.symm.trans hg')
  obtain ⟨⟨c,u,hcu⟩,_⟩:=hc 1 0 (by
   have hcs:cs.size=64:=by
    have hT:W.var? Tryz.prog name=_:=hT
    rw [hv] at hT
    rw [Option.some.inj hT,hz];rfl
   rw [hcs]
   refine List.mem_append_left _ (List.mem_append_left _ ?_)
   simp [MemPlace.row])
  rw [hb] at hcu
  cases hcu
  rfl
 subst hfr
 have hlist:arr.toList=bcells 64 tabN:=by rw [ha,hz];exact tab_bytes
 have hsize:arr.size=64:=by rw [ha,hz];rfl
 have hget:∀ b,(h00 t).get b=if b=0 then some (.cells t (.by 64 tabN)) else none:=λ b=>by
  unfold h00
  rw [Tr.get_nd]
  split
  ·rfl
  ·split<;>rfl
 refine ⟨t,λ b p hp=>?_,λ b B hB=>?_,λ b b' p p' h1 h2 _ _ _=>?_,λ g k hk=>?_⟩
 ·split at hp
  ·cases hp;rename_i h0;exact ⟨by omega,(Array.getElem?_eq_some_iff.1 hb).1⟩
  ·cases hp
 ·rw [hget] at hB
  split at hB
  ·rename_i h0
   subst h0
   cases hB
   refine ⟨_,rfl,arr,(0,0),bcells 64 tabN,hb,hsize,.bys 64 tabN (by decide +kernel),λ i v hi=>?_,.inl rfl⟩
   rw [Nat.zero_add,← Array.getElem?_toList,hlist];exact hi
  ·cases hB
 ·rw [hget] at h1 h2
  have a1:b=0:=Classical.byContradiction λ h=>h1 (if_neg h)
  have a2:b'=0:=Classical.byContradiction λ h=>h2 (if_neg h)
  omega
 ·have:(bif Nat.beq g 1 then some 0 else none)=some k:=hk
  cases hg0:Nat.beq g 1 with
  | true =>
   rw [hg0] at this
   cases this
   cases Nat.eq_of_beq_eq_true hg0
   exact ⟨_,rfl,rfl,rfl⟩
  | false=>rw [hg0] at this;cases this
end Go.Proofs.YtoldjgmcoekchaaGreatDoor
namespace Go.Proofs.YtoldjgmcoekchaaGreatDoor
open Go Go.RowKit Go.V Go.E
set_option maxRecDepth 1000000
set_option maxHeartbeats 0
attribute [local instance] glW
theorem lives23_run (t:TypeId):callN false ctx3 true 200 1 1 (.fn 10) [] (h00 t) 1 (λ v _ _=>isT v)=true :=
 S.run_ok conT3_p (fs:=[10,5,6,7,9,8,12,13,26,21,27,16,29,28,30,31,32,33,34,11,39,40,41,42,43,44,45,47,46,50,56,58,57,17,67,59,60,61,62,63,64,65,66,68,69,72,73,71,70,74,75,76,35,36,37,38,88,89,90,91,81,92,93,96,105,106,107,108,109,110,112,111,113,114,115,116,117,118,121,119,120,122,77,78,79,80,82,83,84,85,86,87,129,131,130,132,133,134,135,136,137,138,139,140,141,142,143,144,145,98,99,150,158,159,169,176,179,178,177,181,180,182,123,124,125,126,127,128,190,186,185,191,192,193,194,195,196,197,198,199,200,201,202,203,204,205,206,207,208,209,210,211,212,52,53,156,213,214,215,216,217,218,152,153,222,189,264,265,269,267,266,268,272,270,271,187,188,274,275,276,277,278,279,280,281,97,101,100,103,102,231,230,282,283,284,286,285,287,289,288,290,291,292,436,437,227,273,339,338,341,340,345,346,347,348,349,350,352,353,354,355,151,154,157,155,306,307,297,298,299,300,301,302,303,304,305,356,357,358,359,360,361,362,363,438,384,385,386,387,388,389,390,391,392,393,395,228,229,364,365,366,367,368,396,397,398,399,400,401,402,403,404,439,408,409,410,411,412,413,405,414,415,416,417,418,419]) (by kernel_rfl)
theorem rel_small (j i:LoopTab) {ρ : Plc} {h:H} {nx:Nat} {w:World} {t:TypeId} (hr:@Rel _ j ρ h.get nx w) (h0:h.get 0=some (.cells t (.by 64 tabN))):@Rel _ i (λ b=>if b=0 then ρ 0 else none) (h00 t).get 1 w:=by
 have hget:∀ b,(h00 t).get b=if b=0 then some (.cells t (.by 64 tabN)) else none:=λ b=>by
  unfold h00
  rw [Tr.get_nd]
  split
  ·rfl
  ·split<;>rfl
 obtain ⟨p,hp,arr,fr,cs,h1,h2,h3,h4,h5⟩:=@Rel.blk _ j _ _ _ _ hr 0 _ h0
 refine ⟨λ b q hq=>?_,λ b B hB=>?_,λ b b' q q' k1 k2 _ _ _=>?_,λ g k hk=>?_⟩
 ·split at hq
  ·rename_i e;subst e;exact ⟨by omega,(@Rel.dom _ j _ _ _ _ hr 0 q hq).2⟩
  ·cases hq
 ·rw [hget] at hB
  split at hB
  ·rename_i e
   subst e
   cases hB
   refine ⟨p,hp,arr,fr,cs,h1,h2,?_,h4,h5⟩
   cases h3 with
   | bys _ _ hlt=>exact .bys _ _ hlt
  ·cases hB
 ·rw [hget] at k1 k2
  have a1:b=0:=Classical.byContradiction λ h=>k1 (if_neg h)
  have a2:b'=0:=Classical.byContradiction λ h=>k2 (if_neg h)
  omega
 ·obtain ⟨q,k1,k2,k3⟩:=@Rel.gl _ j _ _ _ _ hr g k hk
  have hk0:(bif Nat.beq g 1 then some 0 else none)=some k:=hk
  cases hg0:Nat.beq g 1 with
  | true =>
   rw [hg0] at hk0
   cases hk0
   exact ⟨q,k1,k2,k3⟩
  | false=>rw [hg0] at hk0;cases hk0
theorem lives23_c [j:LoopTab] {ρ : Plc} {h:H} {nx:Nat} {w:World} {t:TypeId} (hr:Rel ρ h.get nx w) (h0:h.get 0=some (.cells t (.by 64 tabN))):Calls Tryz.prog 10 #[] w (Ret λ x w'=>x=.bool true∧Grow w w') :=
 (top_gen (P:=Tryz.prog) (by kernel_rfl) ctx3_ok (fi:=fiOf Tryz.f10) (by kernel_rfl) (by kernel_rfl) [] [] 200 isT (h00 t) 1 _ w (rel_small j (tabOf ctx3) hr h0) .nil (lives23_run t)).mono λ e w' ⟨x,h1,⟨ρ',v,_,h2,h3⟩,hg⟩=>⟨x,h1,isT_ok h2 h3,hg⟩
noncomputable def conLives:Con:=⟨λ bad vs h _ _ nx k=>match vs,h.get 0 with
 | [],some (.cells _ (.by 64 s))=>bif Nat.beq s tabN then k (.at (.bool true)) h nx else bad
 | _,_=>bad⟩
theorem conLives_ok [LoopTab]:ConOk Tryz.prog 10 conLives:=by
 intro R bad fl fd hfl vs h nx k
 unfold conLives
 dsimp only
 split
 ·rename_i t s h0
  cases hs:Nat.beq s tabN with
  | false=>exact .inl rfl
  | true =>
   cases Nat.eq_of_beq_eq_true hs
   refine .inr ⟨_,h,nx,λ ρ w xs c hc hvs hr=>?_,rfl⟩
   cases hc
   cases hvs
   show Res _ _ ((callFunc _ _).run _ w)
   rw [enters_of (fn10)]
   exact Calls.mono (lives23_c hr h0) λ en w' ⟨x,h1,h2,hg⟩=>⟨x,h1,ρ,by subst h2;exact .at _ _ (.bool _),Stp.ofGrow hr hg⟩
 ·exact .inl rfl
theorem conLives_p:S.ConP conLives:=by
 intro vs h fl fd nx
 unfold conLives
 dsimp only
 split
 ·rename_i t s h0
  cases Nat.beq s tabN with
  | true=>exact S.Par.pure (α:=S.Out3) _
  | false=>exact S.Par.bad
 ·exact S.Par.bad
noncomputable def conT4:Tr Con:=(addC conT3 10 conLives)
theorem conT4_ok (i:LoopTab):∀ f c,conT4.get f=some c→ConOk Tryz.prog f c:=(addC_all (conT3_ok i) conLives_ok)
theorem conT4_p:∀ f c,conT4.get f=some c→S.ConP c:=(addC_all conT3_p conLives_p)
noncomputable def ctx4:Ctx:=⟨tyT,fnT,conT4,wmT,dfT⟩
theorem ctx4_ok:CtxOk Tryz.prog ctx4:=⟨tyT_ok,fnT_ok,conT4_ok,dfT_ok⟩
end Go.Proofs.YtoldjgmcoekchaaGreatDoor
namespace Go.Proofs.YtoldjgmcoekchaaGreatDoor
open Go Go.RowKit Go.V Go.E
set_option maxRecDepth 1000000
set_option maxHeartbeats 0
attribute [local instance] glW
theorem viewNames_run (t:TypeId):callN false ctx4 true 200 1 1 (.fn 3) [] (h00 t) 1 (λ v _ _=>isT v)=true :=
 S.run_ok conT4_p (fs:=[3,5,6,7,9,8,10,11,12,13,14,15,27,16,29,28,30,31,32,33,34,35,36,37,38,39,40,41,42,43,44,45,47,46,56,58,57,17,67,59,60,61,62,63,64,65,66,68,69,72,73,71,70,74,75,76,77,78,79,80,81,82,83,84,85,86,87,88,89,90,91,92,93,105,106,107,108,109,110,112,111,113,114,115,116,117,118,121,119,120,122,123,124,125,126,127,128,129,131,130,132,133,134,135,136,137,138,139,140,141,142,143,144,145,158,159,169,176,179,178,177,181,180,182,185,186,187,188,189,190,191,192,193,194,195,196,197,198,199,200,201,202,203,204,205,206,207,208,209,210,211,212,52,53,156,213,214,215,216,217,218,264,265,269,267,266,268,272,270,271,273,274,275,276,277,278,279,280,281,97,98,99,101,100,103,102,231,230,282,283,284,286,285,287,289,288,290,291,153,292,436,437,339,338,341,340,345,346,347,348,349,350,352,353,354,355,151,152,154,157,155,306,307,297,298,299,300,301,302,303,304,305,356,357,358,359,360,361,362,363,438,384,385,386,387,388,389,390,391,392,393,395,227,228,229,364,365,366,367,368,396,397,398,399,400,401,402,403,404,439,408,409,410,411,412,413,405,414,415,416,417,418,419]) (by kernel_rfl)
end Go.Proofs.YtoldjgmcoekchaaGreatDoor
namespace Go.Proofs.YtoldjgmcoekchaaGreatDoor
open Go Go.RowKit Go.V Go.ChangeShapes Go.WideShapes Go.ChangeAt
theorem godebug_own:ownKnob Tryz.prog.godebug=none:=by kernel_rfl
theorem laid_out:laidOutB Tryz.prog=true:=by kernel_rfl
section
variable {H:Type} {enc:TypeId×Value→H} {P:Program} {W W':World}
theorem kept_all (hl:laidOutB P=true) (hb:Below W.heap.size W W'):∀ (ts:List TypeId) (vs:List Value) (ds:List (DataW H)) (ps:List MemPlace),
  (ts.all λ t=>P.readableRec t&&decide (t<P.types.size))=true→DataW.TrodAll enc P W 0 (λ _=>true) true ts vs ds ps→DataW.TrodAll enc P W' 0 (λ b=>decide (b<W.heap.size)) true ts vs ds ps
 | [],[],[],_,_,h=>h
 | t::ts,v::vs,d::ds,_,hr,⟨p,q,h1,h2,h3⟩=>by
  simp only [List.all_cons,Bool.and_eq_true,decide_eq_true_eq] at hr
  refine ⟨p,q,Below.trod hl hr.1.1 hr.1.2 h1 hb ?_,kept_all hl hb ts vs ds q (by simpa using hr.2) h2,h3⟩
  obtain ⟨m,hm⟩:=h1
  exact DataW.trod_lt m _ _ _ hm
 | [],[],_::_,_,_,h=>h.elim
 | [],_::_,_,_,_,h=>by cases ‹List (DataW H)›<;>exact h.elim
 | _::_,[],_,_,_,h=>by cases ‹List (DataW H)›<;>exact h.elim
 | _::_,_::_,[],_,_,h=>h.elim
end
end Go.Proofs.YtoldjgmcoekchaaGreatDoor
namespace Go.Proofs.YtoldjgmcoekchaaGreatDoor
open Go
set_option maxRecDepth 1000000
set_option maxHeartbeats 0
theorem nm_viewNames:((Tryz.pinned).checked.prog).funcNamed "headwater/headwaterlaw23.ViewNames" = some 3:=by kernel_rfl
theorem cl_viewNames:((Tryz.pinned).checked.prog).closure 3=[3,5,27,56,105,158,159,106,118,182,58,57,107,108,162,164,165,121,73,71,119,120,183,184,70,163,237,238,321,320,312,370,371,373,319,318,236,239,309,369,322,374,311,233,310,161,235,234,232,308,313,314,315,372,316,317,160,68,117,69,109,166,240,241,324,323,168,167,242,7,30,31,72,6,16,29,17,67,28,59,60,110,169,189,273,112,176,93,264,339,307,186,338,265,111,170,243,245,244,325,326,375,171,246,327,328,376,330,379,331,247,329,377,341,406,378,249,248,251,250,253,333,332,380,252,334,335,254,173,174,262,269,178,267,266,340,268,342,344,343,177,263,337,381,382,407,383,175,255,256,172,257,258,336,259,260,261,61,113,114,179,62,63,115,64,45,65,66,116,181,272,180,270,345,271,231,306,346,384,385,408,386,365,366,387,409,410,418,388,389,390,391,9,8,32,74,33,75,122,76,34,11,35,77,85,86,78,123,79,124,185,80,36,81,82,83,125,187,126,188,84,127,37,87,128,38,10,12,39,40,41,88,129,190,131,130,132,42,43,47,89,133,134,191,207,135,192,193,194,274,347,392,411,348,195,275,349,350,276,351,352,393,412,196,197,198,199,277,200,201,202,278,203,279,353,354,394,395,413,419,204,280,355,205,206,136,137,208,90,138,209,210,139,211,281,46,91,92,142,216,292,217,218,143,144,145,140,212,52,53,97,151,98,99,152,227,153,101,154,228,100,103,157,102,155,229,156,230,297,303,298,364,299,300,367,368,405,301,302,304,305,213,141,214,282,283,356,357,396,414,397,284,358,286,359,398,415,285,287,360,399,416,289,361,400,417,288,290,362,401,215,291,363,402,403,404,44,13,26,21,50,96,150,222,14,15]:=by kernel_rfl
theorem ip_viewNames:(Rows.viewNamesRow.inPlace==((Tryz.pinned).checked.prog).inPlace 3)=true:=by
 unfold Program.inPlace;rw [cl_viewNames];kernel_rfl
theorem uf_viewNames:(Rows.viewNamesRow.unfollowed==((Tryz.pinned).checked.prog).unfollowed 3)=true:=by
 unfold Program.unfollowed;rw [cl_viewNames];kernel_rfl
theorem rc_viewNames:(Rows.viewNamesRow.recurses==((Tryz.pinned).checked.prog).recurses 3)=true:=by
 unfold Program.recurses Program.unfollowed;rw [cl_viewNames];kernel_rfl
theorem vn_viewNames:(Rows.viewNamesRow.named==((Tryz.pinned).checked.prog).varsNamed 3)=true:=by
 unfold Program.varsNamed;rw [cl_viewNames];kernel_rfl
theorem go_viewNames:false=Rows.viewNamesRow.goesBy ((Tryz.pinned).checked.prog):=by
 show false=((((Tryz.pinned).checked.prog).funcNamed "headwater/headwaterlaw23.ViewNames").any ((Tryz.pinned).checked.prog).goes || false)
 rw [nm_viewNames]
 show false=(((Tryz.pinned).checked.prog).goes 3 || false)
 unfold Program.goes Program.unfollowed
 rw [cl_viewNames]
 kernel_rfl
theorem lo_viewNames:laidOutB ((Tryz.pinned).checked.prog)=true:=laid_out
theorem mr_viewNames:mapsRowed ((Tryz.pinned).checked.prog)=true:=by kernel_rfl
theorem jf_viewNames:joinedFacts ((Tryz.pinned).checked.prog) 3 Tryz.f3 Rows.viewNamesSpec Rows.viewNamesRow=true:=by
 unfold joinedFacts
 rw [lo_viewNames,mr_viewNames,ip_viewNames,uf_viewNames,rc_viewNames,vn_viewNames]
 kernel_rfl
end Go.Proofs.YtoldjgmcoekchaaGreatDoor
namespace Go.Proofs.YtoldjgmcoekchaaGreatDoor.lawViewNames
open Go Go.RowKit Go.V Go.E Go.ChangeShapes Go.WideShapes Go.ChangeAt
set_option maxRecDepth 1000000
set_option maxHeartbeats 0
attribute [local instance] glW
theorem gN:(Tryz.prog).globalNamed "math/bits.deBruijn64tab" = some 1:=by kernel_rfl
theorem calls (W:World) (h:laidMet Tryz.prog Rows.viewNamesRow.laid W):Calls Tryz.prog 3 #[] W (Ret λ x w'=>x=.bool true∧Grow W w'):=by
 letI:=tabOf ctx4
 obtain ⟨t,hr⟩:=rel_laid (name:="math/bits.deBruijn64tab") (zs:=tabZ) rfl gN (by kernel_rfl) h
 exact (top_gen (P:=Tryz.prog) (by kernel_rfl) ctx4_ok (fi:=fiOf Tryz.f3) (by kernel_rfl) (by kernel_rfl) [] [] 200 isT (h00 t) 1 _ W hr .nil (viewNames_run t)).mono λ e w' ⟨x,h1,⟨ρ',v,_,h2,h3⟩,hg⟩=>⟨x,h1,isT_ok h2 h3,hg⟩
theorem door_met (os:Os) (args:Array Value):laidMetH Tryz.prog Rows.viewNamesRow.laid ((World.doorLaid Tryz.prog 14 os).forCall (λ _ _=>0) ⟨#[],args,[]⟩).memory :=
 laidMetH_of_parts3 (fuel:=8) (laidMet_of_run' 8 (by kernel_rfl) (by kernel_rfl)) (by kernel_rfl) (by kernel_rfl)
theorem lifted (os:Os) (started:os.Started) (H:Type) (enc:TypeId×Value→H) :
  ReturnsInHanded {} Tryz.checked os 3 .any (λ w args=>(Rows.viewNamesSpec.pre enc Tryz.prog Tryz.f3 [] false w args∧laidMetH Tryz.prog Rows.viewNamesRow.laid w)∧sizedMet enc Tryz.prog Tryz.f3 (OpenSpec.ofChange Rows.viewNamesSpec) false w args)
   (Rows.viewNamesSpec.post enc Tryz.prog Tryz.f3 false true false false):=by
 refine returnsInHanded_of_change_and (C:=Tryz.checked) (X:=λ w _=>laidMetH Tryz.prog Rows.viewNamesRow.laid w) (λ _ _ _ hh h=>h.of_heap hh) godebug_own started (by kernel_rfl) Tryz.func3
  (ChangeSpec.witness_shaped (enc:=enc) (C:=Tryz.checked) (os:=os) (X:=λ w _=>laidMetH Tryz.prog Rows.viewNamesRow.laid w) false (World.doorLaid Tryz.prog 14 os) #[] 8 rfl (World.shaped_of_RefB (by kernel_rfl) (by kernel_rfl)) (by kernel_rfl) (by kernel_rfl) (by kernel_rfl) (door_met os _)) ?_
 intro W base args ds gs before hval0 hW _ _ hL _
 have hW':=hW
 obtain ⟨p,q,hA0,hV,rfl,hfz,hnd⟩:=hW
 have hA:DataW.TrodAll enc Tryz.prog W 0 (λ _=>true) true Tryz.f3.params.toList args.toList ds p:=hA0
 have hAll:=hA
 rw [Tryz.params3] at hA
 obtain ⟨hargs,rfl,rfl⟩:=trodAll_nil hA
 obtain rfl:args = #[]:=by cases args;simp_all
 obtain ⟨rfl,rfl⟩:=trodVars_none hV
 clear hA0 hval0
 rw [MakeChecks.laidMetH_plain _ _ _ (by kernel_rfl)] at hL
 refine (calls W hL).mono λ e W' ⟨v,he,hv,hg⟩=>?_
 subst he;subst hv
 exact ⟨_,rfl,_,_,_,[],_,[],hW',trodAll_mk1 (shut_bool Tryz.underlying4 _),kept_all laid_out hg.1 _ _ _ _ (by kernel_rfl) hAll,rfl,hg.1.frame _,λ h=>by cases h⟩
theorem row:Rows.ViewNamesSaid :=
 OpenClaim.holds_of_wide 3 Tryz.f3 rfl rfl rfl rfl rfl rfl rfl ⟨rfl,rfl,rfl,rfl,rfl⟩ rfl rfl rfl rfl rfl nm_viewNames Tryz.func3 jf_viewNames
  (of_decide_eq_true (by kernel_rfl)) (by unfold Func.isWrapper;first|(rw [if_pos (by decide +kernel)];kernel_rfl)|(rw [if_neg (by decide +kernel)];exact ⟨rfl,rfl⟩))
  (λ os started H enc _=>lifted os started H enc)
theorem proved:Rows.ViewNamesCardSaid :=
 Claim7.holds_tied_plain_at .later [] [.data] true (true,"416ae3b346d7dd83d882899f497c55ab1bc8c83335c125088f6e2f61312f0893") true
  row (λ _ h=>by cases h) (by kernel_rfl) (λ _ h=>by cases h) viewNames_row_tie rfl ⟨rfl,rfl⟩ (by kernel_rfl) rfl
  (λ f fn hf hfn=>by
   obtain rfl:f=3:=Option.some.inj (nm_viewNames.symm.trans hf) |>.symm
   obtain rfl:fn=Tryz.f3:=(Option.some.inj (Tryz.func3.symm.trans hfn)).symm
   exact ⟨by kernel_rfl,λ j t ht=>by
    rw [Tryz.params3] at ht
    simp at ht⟩)
  go_viewNames
end Go.Proofs.YtoldjgmcoekchaaGreatDoor.lawViewNames
