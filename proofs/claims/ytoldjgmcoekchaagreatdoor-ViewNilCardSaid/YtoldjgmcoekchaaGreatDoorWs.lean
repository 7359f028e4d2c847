import Derived.Test.YtoldjgmcoekchaaGreatDoorWj
import Derived.Test.YtoldjgmcoekchaaGreatDoorWo
import Derived.Test.YtoldjgmcoekchaaGreatDoorWm
set_option linter.all false
set_option maxHeartbeats 16000000
set_option maxRecDepth 100000
namespace Go.E
open Go Go.RowKit Go.V
variable [Gl]
end Go.E
namespace Go.E
open Go Go.RowKit Go.V
variable [Gl]
def h1row (t:TypeId) (n s:Nat):H:=.nd (.nd .lf (some (.cells t (.by n s))) .lf) none .lf
theorem h1row_get (t:TypeId) (n s b:Nat):(h1row t n s).get b=if b=1 then some (.cells t (.by n s)) else none:=by
 unfold h1row
 rw [Tr.get_nd]
 by_cases h0:b=0
 ·subst h0;simp
 ·rw [if_neg h0]
  by_cases h1:b%2=1
  ·rw [if_pos h1,Tr.get_nd]
   by_cases h2:b / 2=0
   ·rw [if_pos h2,if_pos (by omega)]
   ·have hb1:¬ b=1:=λ e=>by subst e;simp at h2
    rw [if_neg h2,show (if b=1 then some (Bk.cells t (.by n s)) else none)=none from if_neg hb1]
    split<;>rfl
  ·rw [if_neg h1,if_neg (by omega)];rfl
def plRow (ρ : Plc) (p:Pl) (o:Nat):Plc:=λ j=>if j=0 then ρ 0 else if j=1 then some ⟨p.blk,p.sh+o,p.size⟩ else none
theorem rel_row [LoopTab] {ρ : Plc} {w:World} {b o n s:Nat} {t:TypeId} {r:Rope} {p:Pl} (hd0:∀ q,ρ 0=some q→q.blk<w.heap.size) (hd:p.blk<w.heap.size)
  (hc:∃ arr fr cs,w.heap[p.blk]? = some (.cells arr t fr)∧arr.size=p.size∧RR ρ r cs∧(∀ (i:Nat) (v:Value),cs[i]? = some v→arr[p.sh+i]? = some v)∧FrOk fr arr.size) (hgl:GlOk ρ)
  (hG0:∀ G k,Gl.tab G=some k→k=0) (hq:∀ ρ cs,RR ρ r cs→(cs.drop o).take n=bcells n s∧s<256^n):Rel (plRow ρ p o) (h1row t n s).get 2 w:=by
 obtain ⟨arr,fr,cs,h1,h2,h3,h4,h5⟩:=hc
 obtain ⟨e1,hs⟩:=hq ρ cs h3
 refine ⟨λ j q hj=>?_,λ j B hB=>?_,λ j j' q q' hj hj' _ _ _=>?_,λ G k hk=>?_⟩
 ·unfold plRow at hj
  split at hj
  ·rename_i h0;subst h0;exact ⟨by omega,hd0 q hj⟩
  ·split at hj
   ·rename_i h0;cases hj;exact ⟨by omega,hd⟩
   ·cases hj
 ·rw [h1row_get] at hB
  split at hB
  ·rename_i h0
   subst h0
   cases hB
   refine ⟨_,rfl,arr,fr,bcells n s,h1,h2,.bys n s hs,λ i v hi=>?_,h5⟩
   rw [← e1,List.getElem?_take] at hi
   split at hi
   ·rw [List.getElem?_drop] at hi
    have:=h4 _ _ hi
    rwa [← Nat.add_assoc] at this
   ·cases hi
  ·cases hB
 ·rw [h1row_get] at hj hj'
  have a1:j=1:=Classical.byContradiction λ h=>hj (if_neg h)
  have a2:j'=1:=Classical.byContradiction λ h=>hj' (if_neg h)
  omega
 ·obtain ⟨q,k1,k2,k3⟩:=hgl G k hk
  cases hG0 G k hk
  exact ⟨q,k1,k2,k3⟩
end Go.E
namespace Go.E
open Go Go.RowKit Go.V
def A.same:A→A→Bool
 | .bool a,.bool b=>bif a then b else not b
 | .int k a,.int k' b=>two (kEq k k') (Nat.beq a b)
 | .str n s,.str m t=>two (Nat.beq n m) (Nat.beq s t)
 | .ptr b o,.ptr c p=>two (Nat.beq b c) (Nat.beq o p)
 | .slice b o n c,.slice b' o' n' c'=>two (two (Nat.beq b b') (Nat.beq o o')) (two (Nat.beq n n') (Nat.beq c c'))
 | .slu b o n c,.slu b' o' n' c'=>two (two (Nat.beq b b') (Nat.beq o o')) (two (Nat.beq n n') (Nat.beq c c'))
 | .map b,.map c=>Nat.beq b c
 | .nil,.nil=>true
 | .nilSlice,.nilSlice=>true
 | .nilMap,.nilMap=>true
 | .nilFunc,.nilFunc=>true
 | .nilIface,.nilIface=>true
 | _,_=>false
def Rope.same:Rope→Rope→Bool
 | .by n s,.by m t=>two (Nat.beq n m) (Nat.beq s t)
 | .rp n a,.rp m b=>two (Nat.beq n m) (a.same b)
 | .nd n l r,.nd m l' r'=>two (Nat.beq n m) (two (l.same l') (r.same r'))
 | _,_=>false
def V.same0:V→V→Bool
 | .at a,.at b=>a.same b
 | .agg r,.agg s=>r.same s
 | _,_=>false
def sameL:List V→List V→Bool
 | [],[]=>true
 | x::xs,y::ys=>two (x.same0 y) (sameL xs ys)
 | _,_=>false
def V.same:V→V→Bool
 | .tup xs,.tup ys=>sameL xs ys
 | x,y=>x.same0 y
def sameBs (h:H):Nat→List (Option (TypeId×Rope))→Bool
 | _,[]=>true
 | i,none::l=>sameBs h (Nat.succ i) l
 | i,some (t,r)::l=>(match h.get i with|some (.cells t' r')=>two (Nat.beq t' t) (r'.same r)|_=>false)&&sameBs h (Nat.succ i) l
structure RowM where
 pre:Option Nat
 u:Bool
 n:Nat
 c:Nat
 s:Nat
 v:V
 bs:List (Option (TypeId×Rope))
def RowM.chk (e:RowM) (v:V) (h:H) (nx:Nat):Bool:=two (v.same e.v) (two (sameBs h 2 e.bs) (Nat.beq nx (Nat.add 2 e.bs.length)))
end Go.E
namespace Go.S
open Go Go.E
variable [Gl]
end Go.S
namespace Go.E
open Go Go.RowKit Go.V
def byB:V→Option (Nat×Nat)
 | .agg r=>r.bytes
 | _=>none
abbrev byV (p:Nat×Nat):V:=.agg (.by p.1 p.2)
def sameBL:List V→List (Nat×Nat)→Bool
 | [],[]=>true
 | v::vs,p::ps=>(match byB v with|some q=>two (two (Nat.beq q.1 p.1) (Nat.beq q.2 p.2)) (sameBL vs ps)|none=>false)
 | _,_=>false
structure TabM where
 ar:List (Nat×Nat)
 r:Nat×Nat
def lookTab (vs:List V):List TabM→Option (Nat×Nat)
 | []=>none
 | e::l=>bif sameBL vs e.ar then some e.r else lookTab vs l
noncomputable def conTab (tab:List TabM):Con:=⟨λ bad vs h _ _ nx k=>match lookTab vs tab with
 | some p=>k (byV p) h nx
 | none=>bad⟩
def isBy (p:Nat×Nat) (v:V):Bool:=match byB v with|some q=>two (Nat.beq q.1 p.1) (Nat.beq q.2 p.2)|none=>false
section
variable [Gl]
def TabRun (Γ : Ctx) (d f:Nat) (e:TabM):Prop:=callN false Γ true d 1 1 (.fn f) (e.ar.map byV) .lf 1 (λ v _ _=>isBy e.r v)=true
theorem byB_ok [LoopTab] {v:V} {p:Nat×Nat} (h:byB v=some p) {ρ : Plc} {y:Value} (hv:VR ρ v y):y=.agg (bcells p.1 p.2).toArray∧p.2<256^p.1:=by
 unfold byB at h
 split at h
 ·rename_i r
  cases hv with
  | agg _ cs hr =>
   obtain ⟨e,hlt⟩:=rope_bytes hr (n:=p.1) (s:=p.2) (by rw [h])
   rw [e];exact ⟨rfl,hlt⟩
 ·cases h
theorem byV_vr {p:Nat×Nat} (h:p.2<256^p.1) (ρ : Plc):VR ρ (byV p) (.agg (bcells p.1 p.2).toArray):=.agg _ _ (.bys _ _ h)
theorem sameBL_ok [LoopTab]:∀ {vs:List V} {ps:List (Nat×Nat)},sameBL vs ps=true→∀ {ρ : Plc} {xs:List Value},VRs ρ vs xs→∀ ρ',VRs ρ' (ps.map byV) xs
 | [],[],_,ρ,xs,h,ρ'=>by cases h;exact .nil
 | v::vs,p::ps,e,ρ,xs,h,ρ'=>by
  unfold sameBL at e
  split at e
  ·rename_i q hq
   obtain ⟨e1,e2⟩:=two_tt e
   obtain ⟨e3,e4⟩:=two_tt e1
   have e3:=Nat.eq_of_beq_eq_true e3
   have e4:=Nat.eq_of_beq_eq_true e4
   obtain ⟨q1,q2⟩:=q
   obtain ⟨p1,p2⟩:=p
   subst e3 e4
   cases h with
   | cons _ x _ xs hv hs =>
    obtain ⟨rfl,hlt⟩:=byB_ok hq hv
    exact .cons _ _ _ _ (byV_vr hlt ρ') (sameBL_ok e2 hs ρ')
  ·cases e
 | [],_::_,e,_,_,_,_=>by cases e
 | _::_,[],e,_,_,_,_=>by cases e
theorem lookTab_ok:∀ {tab:List TabM} {vs:List V} {p:Nat×Nat},lookTab vs tab=some p→∃ e∈tab,sameBL vs e.ar=true∧p=e.r
 | [],vs,p,h=>by cases h
 | e::l,vs,p,h=>by
  unfold lookTab at h
  cases hs:sameBL vs e.ar with
  | true=>rw [hs] at h;cases h;exact ⟨e,List.mem_cons_self,hs,rfl⟩
  | false =>
   rw [hs] at h
   obtain ⟨e',h1,h2⟩:=lookTab_ok h
   exact ⟨e',List.mem_cons_of_mem _ h1,h2⟩
theorem rel_lone [LoopTab] (i:LoopTab) {ρ : Plc} {w:World} (hd:∀ q,ρ 0=some q→q.blk<w.heap.size) (hgl:GlOk ρ) (hG0:∀ G k,Gl.tab G=some k→k=0):@Rel _ i (λ b=>if b=0 then ρ 0 else none) (Tr.lf:H).get 1 w:=by
 refine ⟨λ b q hq=>?_,λ b B hB=>?_,λ b b' q q' k1 k2 _ _ _=>?_,λ g k hk=>?_⟩
 ·split at hq
  ·rename_i e;subst e;exact ⟨by omega,hd q hq⟩
  ·cases hq
 ·cases hB
 ·exact absurd rfl k1
 ·obtain ⟨q,k1,k2,k3⟩:=hgl g k hk
  cases hG0 g k hk
  exact ⟨q,k1,k2,k3⟩
theorem conTab_ok [LoopTab] {P:Program} {Γ : Ctx} (hm:P.follows .mixedOrders=true) (hΓ : CtxOk P Γ) {f:Nat} {fi:FI} (hfi : Γ.fn.get f=some fi) (hnc:(Γ.con.get f).isNone=true) (hfn:FnOk P f fi) (hG0:∀ G k,Gl.tab G=some k→k=0) {d:Nat} {tab:List TabM} (he:∀ e∈tab,TabRun Γ d f e):ConOk P f (conTab tab):=by
 intro R bad fl fd hfl vs h nx k
 show Out bad (match lookTab vs tab with|some p=>k (byV p) h nx|none=>bad) _
 cases hv:lookTab vs tab with
 | none=>exact .inl rfl
 | some p =>
  dsimp only
  obtain ⟨e,hmem,hs,rfl⟩:=lookTab_ok hv
  refine .inr ⟨_,h,nx,λ ρ w xs c hc hvs hr=>?_,rfl⟩
  cases hc
  show Res P _ ((callFunc f xs.toArray).run P w)
  rw [enters_of hfn]
  refine Calls.mono (top_gen hm hΓ hfi hnc (e.ar.map byV) xs d (isBy e.r) .lf 1 _ w (rel_lone (tabOf Γ) (λ q hq=>(hr.dom 0 q hq).2) hr.gl hG0) (sameBL_ok hs hvs _) (he e hmem)) λ en w' ⟨x,h1,⟨ρ',v,_,h2,h3⟩,hg⟩=>⟨x,h1,ρ,?_,Stp.ofGrow hr hg⟩
  unfold isBy at h2
  split at h2
  ·rename_i q hq
   obtain ⟨e3,e4⟩:=two_tt h2
   obtain ⟨e5,e6⟩:=byB_ok hq h3
   rw [e5,Nat.eq_of_beq_eq_true e3,Nat.eq_of_beq_eq_true e4]
   rw [Nat.eq_of_beq_eq_true e3,Nat.eq_of_beq_eq_true e4] at e6
   exact byV_vr e6 ρ
  ·cases h2
theorem conTab_p (tab:List TabM):S.ConP (conTab tab):=by
 intro vs h fl fd nx
 show S.Par λ k:S.Out3→Bool=>match lookTab vs tab with|some p=>k (byV p,h,nx)|none=>false
 cases lookTab vs tab with
 | none=>exact S.Par.bad
 | some p=>exact S.Par.pure (α:=S.Out3) _
end
end Go.E
namespace Go.E
open Go Go.RowKit Go.V
inductive BrR where
 | by (n s:Nat)
 | bl (b:Bool)
def BrR.v:BrR→V
 | .by n s=>byV (n,s)
 | .bl b=>.at (.bool b)
def BrR.is:BrR→V→Bool
 | .by n s,v=>isBy (n,s) v
 | .bl b,.at (.bool c)=>bif b then c else not c
 | _,_=>false
structure BrM where
 pre:List (Nat×Nat)
 n:Nat
 s:Nat
 post:List (Nat×Nat)
 r:BrR
def splitB:List V→Option (List (Nat×Nat)×A×List (Nat×Nat))
 | [.agg r,.at a]=>match r.bytes with
  | some p=>some ([p],a,[])
  | none=>none
 | [.agg r,.at a,.agg q]=>match r.bytes,q.bytes with
  | some p,some p2=>some ([p],a,[p2])
  | _,_=>none
 | _=>none
def samePL:List (Nat×Nat)→List (Nat×Nat)→Bool
 | [],[]=>true
 | p::ps,q::qs=>two (two (Nat.beq p.1 q.1) (Nat.beq p.2 q.2)) (samePL ps qs)
 | _,_=>false
theorem samePL_eq:∀ {ps qs:List (Nat×Nat)},samePL ps qs=true→ps=qs
 | [],[],_=>rfl
 | p::ps,q::qs,h=>by
  obtain ⟨h1,h2⟩:=two_tt (show two (two (Nat.beq p.1 q.1) (Nat.beq p.2 q.2)) (samePL ps qs)=true from h)
  obtain ⟨h3,h4⟩:=two_tt h1
  obtain ⟨p1,p2⟩:=p
  obtain ⟨q1,q2⟩:=q
  cases Nat.eq_of_beq_eq_true h3
  cases Nat.eq_of_beq_eq_true h4
  rw [samePL_eq h2]
 | [],_::_,h=>by cases h
 | _::_,[],h=>by cases h
def lookBr (pre:List (Nat×Nat)) (n s:Nat) (post:List (Nat×Nat)):List BrM→Option BrM
 | []=>none
 | e::l=>bif two (two (Nat.beq e.n n) (Nat.beq e.s s)) (two (samePL e.pre pre) (samePL e.post post)) then some e else lookBr pre n s post l
theorem lookBr_ok {pre:List (Nat×Nat)} {n s:Nat} {post:List (Nat×Nat)}:∀ {tab:List BrM} {e:BrM},lookBr pre n s post tab=some e→e∈tab∧e.n=n∧e.s=s∧e.pre=pre∧e.post=post
 | [],e,h=>by cases h
 | x::l,e,h=>by
  unfold lookBr at h
  cases ht:two (two (Nat.beq x.n n) (Nat.beq x.s s)) (two (samePL x.pre pre) (samePL x.post post)) with
  | true =>
   rw [ht] at h
   cases h
   obtain ⟨h1,h2⟩:=two_tt ht
   obtain ⟨h3,h4⟩:=two_tt h1
   obtain ⟨h5,h6⟩:=two_tt h2
   exact ⟨List.mem_cons_self,Nat.eq_of_beq_eq_true h3,Nat.eq_of_beq_eq_true h4,samePL_eq h5,samePL_eq h6⟩
  | false =>
   rw [ht] at h
   obtain ⟨h1,h2⟩:=lookBr_ok h
   exact ⟨List.mem_cons_of_mem _ h1,h2⟩
noncomputable def conBr (tab:List BrM):Con:=⟨λ bad vs h _ _ nx k=>match splitB vs with
 | some (pre,.slu b o n z,post)=>cellsK bad h b λ _ r=>r.sub bad true o n λ q=>match q.bytes with
  | some (m,s)=>okK bad (two (Nat.beq m n) (Nat.beq z 1)) (match lookBr pre n s post tab with
   | some e=>k e.r.v h nx
   | none=>bad)
  | none=>bad
 | _=>bad⟩
section
variable [Gl]
abbrev BrM.args (e:BrM):List V:=e.pre.map byV++.at (.slu 1 0 e.n 1)::e.post.map byV
def BrRun (Γ : Ctx) (d f:Nat) (e:BrM):Prop:=∀ t,callN false Γ true d 2 2 (.fn f) e.args (h1row t e.n e.s) 2 (λ v _ _=>e.r.is v)=true
theorem splitB_ok [LoopTab] {vs:List V} {pre post:List (Nat×Nat)} {a:A} (h:splitB vs=some (pre,a,post)) {ρ : Plc} {xs:List Value} (hv:VRs ρ vs xs) :
  ∃ x,AR ρ a x∧∀ ρ' a',AR ρ' a' x→VRs ρ' (pre.map byV++.at a'::post.map byV) xs:=by
 unfold splitB at h
 split at h
 ·rename_i r a0
  split at h
  ·rename_i p hp
   cases h
   cases hv with
   | cons _ y _ xs hy hxs =>
    obtain ⟨x,rfl,hx⟩:=hxs.one
    obtain ⟨rfl,hlt⟩:=byB_ok (v:=.agg r) hp hy
    exact ⟨x,hx.atom,λ ρ' a' h'=>.cons _ _ _ _ (byV_vr hlt ρ') (.cons _ _ _ _ (.at _ _ h') .nil)⟩
  ·cases h
 ·rename_i r a0 q
  split at h
  ·rename_i p p2 hp hp2
   cases h
   cases hv with
   | cons _ y _ xs hy hxs =>
    cases hxs with
    | cons _ x _ xs hx hxs =>
     obtain ⟨z,rfl,hz⟩:=hxs.one
     obtain ⟨rfl,hlt⟩:=byB_ok (v:=.agg r) hp hy
     obtain ⟨rfl,hlt2⟩:=byB_ok (v:=.agg q) hp2 hz
     exact ⟨x,hx.atom,λ ρ' a' h'=>.cons _ _ _ _ (byV_vr hlt ρ') (.cons _ _ _ _ (.at _ _ h') (.cons _ _ _ _ (byV_vr hlt2 ρ') .nil))⟩
  ·cases h
 ·cases h
theorem BrR.is_ok [LoopTab] {r:BrR} {v:V} (h:r.is v=true) {ρ : Plc} {y:Value} (hv:VR ρ v y) (ρ':Plc):VR ρ' r.v y:=by
 cases r with
 | «by» n s =>
  have h:isBy (n,s) v=true:=by cases v<;>exact h
  unfold isBy at h
  split at h
  ·rename_i q hq
   obtain ⟨e3,e4⟩:=two_tt h
   obtain ⟨e5,e6⟩:=byB_ok hq hv
   rw [e5,Nat.eq_of_beq_eq_true e3,Nat.eq_of_beq_eq_true e4]
   rw [Nat.eq_of_beq_eq_true e3,Nat.eq_of_beq_eq_true e4] at e6
   exact byV_vr e6 ρ'
  ·cases h
 | bl b =>
  unfold BrR.is at h
  split at h
  ·rename_i heq;cases heq
  ·rename_i b' c heq
   cases heq
   have hv:=hv.atom
   cases hv
   have:c=b:=by revert h;cases b<;>cases c<;>simp
   subst this
   exact .at _ _ (.bool _)
  ·cases h
theorem conBr_ok [LoopTab] {P:Program} {Γ : Ctx} (hm:P.follows .mixedOrders=true) (hΓ : CtxOk P Γ) {f:Nat} {fi:FI} (hfi : Γ.fn.get f=some fi) (hnc:(Γ.con.get f).isNone=true) (hfn:FnOk P f fi) (hG0:∀ G k,Gl.tab G=some k→k=0) {d:Nat} {tab:List BrM} (he:∀ e∈tab,BrRun Γ d f e):ConOk P f (conBr tab):=by
 intro R bad fl fd hfl vs h nx k
 unfold conBr
 dsimp only
 split
 ·rename_i pre b o n z post hsp
  refine (cellsK_ok h b _).elim (λ e=>.inl e) λ ⟨t,r,hb,e0⟩=>?_
  rw [e0]
  clear e0
  refine (sub_ok bad true r o n _).out λ q hq=>?_
  split
  ·rename_i m s hs
   refine out_if λ hmn=>?_
   obtain ⟨h1,h2⟩:=two_tt hmn
   cases Nat.eq_of_beq_eq_true h1
   cases Nat.eq_of_beq_eq_true h2
   cases hv:lookBr pre n s post tab with
   | none=>exact .inl rfl
   | some e =>
    dsimp only
    obtain ⟨hmem,rfl,rfl,rfl,rfl⟩:=lookBr_ok hv
    refine .inr ⟨_,h,nx,λ ρ w xs c hc hvs hr=>?_,rfl⟩
    cases hc
    show Res P _ ((callFunc f xs.toArray).run P w)
    rw [enters_of hfn]
    obtain ⟨x,hx,hargs⟩:=splitB_ok hsp hvs
    obtain ⟨p,hp,_⟩:=hr.blk b _ hb
    have hrel:=@rel_row _ (tabOf Γ) ρ w b o e.n e.s t r p (λ q h=>(hr.dom 0 q h).2) (hr.dom b p hp).2 (hr.cells hb hp) hr.gl hG0 (λ ρ cs hc=>rope_bytes (hq ρ cs hc).2 hs)
    have harg:AR (plRow ρ p o) (.slu 1 0 e.n 1) x:=by
     cases hx with
     | slu _ _ _ _ c o' q hq1 hn hc ho hs' =>
      rw [hp] at hq1;cases hq1
      exact AR.slu (ρ:=plRow ρ p o) 1 0 e.n 1 c o' ⟨p.blk,p.sh+o,p.size⟩ rfl hn hc (ho.imp (λ h=>by show o'=p.sh+o+0;omega) id) hs'
    exact Calls.mono (top_gen hm hΓ hfi hnc e.args xs d e.r.is (h1row t e.n e.s) 2 _ w hrel (hargs _ _ harg) (he e hmem t)) λ en w' ⟨y,h1,⟨ρ',v,_,h2,h3⟩,hg⟩=>⟨y,h1,ρ,BrR.is_ok h2 h3 ρ,Stp.ofGrow hr hg⟩
  ·exact .inl rfl
 ·exact .inl rfl
theorem conBr_p (tab:List BrM):S.ConP (conBr tab):=by
 intro vs h fl fd nx
 unfold conBr
 dsimp only
 split
 ·rename_i pre b o n z post _
  unfold cellsK
  split
  ·rename_i t r _
   refine (S.sub_par r o n).bind (G:=λ q (k:S.Out3→Bool)=>match q.bytes with
    | some (m,s)=>okK false (two (Nat.beq m n) (Nat.beq z 1)) (match lookBr pre n s post tab with
     | some e=>k (e.r.v,h,nx)
     | none=>false)
    | none=>false) λ q=>?_
   split
   ·rename_i m s _
    refine S.Par.ite (F:=λ k:S.Out3→Bool=>match lookBr pre n s post tab with|some e=>k (e.r.v,h,nx)|none=>false) (G:=λ _=>false) _ ?_ S.Par.bad
    cases lookBr pre n s post tab with
    | none=>exact S.Par.bad
    | some e=>exact S.Par.pure (α:=S.Out3) _
   ·exact S.Par.bad
  ·exact S.Par.bad
 ·exact S.Par.bad
end
end Go.E
namespace Go.Proofs.YtoldjgmcoekchaaGreatDoor
open Go Go.RowKit Go.V Go.E
set_option maxRecDepth 1000000
set_option maxHeartbeats 0
def tabA0:TabM:=⟨[(32,38748270507491543869280182973643753799655646515636239770492563660028217171792),(64,5363123171977038839829609999282338450991746328236957351089424577488705612027766496857081901453434450043297225933018786575009370859816484882143460383380762)],(64,1937825257543927532264925087466088577402578980747654226191323914857664762084373577848893092099945312857035733279975061532021921953145267333712185551778341)⟩
def tabA1:TabM:=⟨[(32,4479775879350561939966078028930567281492091398554453986147508692999595520602),(64,5363123171977038839829609999282338450991746328236957351089424577488705612027766496857081901453434450043297225933018786575009370859816484882143460383380762)],(64,6518429193235037808560679792206505626900593283559185448723496424081933746385037251615327792247818851132821026406827138546197202453145899682672543916046004)⟩
def tabA2:TabM:=⟨[(32,976169395446259091440016847961552191946733131891289220544191058555282024221),(64,5363123171977038839829609999282338450991746328236957351089424577488705612027766496857081901453434450043297225933018786575009370859816484882143460383380762)],(64,5667086049052120162957542475337740451422309130714724388530468863927625297225231222769678399650032913657914940287685718562369045226263246389308172565746524)⟩
def tabA:List TabM:=[tabA0,tabA1,tabA2]
def tabB0:TabM:=⟨[(32,4540017809173691301317484631494779559640605690309060652293077955089178206602),(64,5363123171977038839829609999282338450991746328236957351089424577488705612027766496857081901453434450043297225933018786575009370859816484882143460383380762),(32,2087824879079178041139741508965079170624552628873333364100373066048322850219),(64,1937825257543927532264925087466088577402578980747654226191323914857664762084374058053863858287760991389269730620407047256253132298465040840302424190848456)],(64,6518429193235037808560679792206505626900593283559185448723496424081933746385037251615327792247818851132821026406827138546197202453145899682672543916046004)⟩
def tabB1:TabM:=⟨[(32,1514654659244940462968692340560866599417269504295366258416998157441732892598),(64,5363123171977038839829609999282338450991746328236957351089424577488705612027766496857081901453434450043297225933018786575009370859816484882143460383380762),(32,1150928838838226525386462460314558803318340153606596075851145585590167536840),(64,1937825257543927532264925087466088577402578980747654226191323914857664762084374058053863858287760991389269730620407047256253132298465040840302424190848456)],(64,5667086049052120162957542475337740451422309130714724388530468863927625297225231222769678399650032913657914940287685718562369045226263246389308172565746524)⟩
def tabB:List TabM:=[tabB0,tabB1]
def tabE0:TabM:=⟨[(32,34828089340911511904745960334644409783991362575212200902493101439880121024513)],(32,74631430173126758377643533528994909432102186869568591192963700361386182208352)⟩
def tabE:List TabM:=[tabE0]
def tabS0:BrM:=⟨[(32,34828089340911511904745960334644409783991362575212200902493101439880121024513)],78,32090739264441919735800352226458623888715999290541077976419340620244707814896656291699149401592124183020083150863858642742042527056303023708735630423298674079454682693184839534127700995170,[],.by 64 525698147298844833249036326828125374485888535936389028007073975036061230264515073998286618617877754741718284604379474628458213274576967482661689614484473⟩
def tabS1:BrM:=⟨[(32,34828089340911511904745960334644409783991362575212200902493101439880121024513)],78,32362681916764104493991835296118166752912657161047604890346204195102463421598746189047267591208729645577192578156294662581397750496007928148487561501173757579923677711789846752008657136738,[],.by 64 175385027467006900000366637349488613859451975538452591689352236446560333916021323000748240873769888558312936388329009700976884248464799457281902674097798⟩
def tabS:List BrM:=[tabS0,tabS1]
def tabG0:BrM:=⟨[(32,74631430173126758377643533528994909432102186869568591192963700361386182208352)],78,32090739264441919735800352226458623888715999290541077976419340620244707814896656291699149401592124183020083150863858642742042527056303023708735630423298674079454682693184839534127700995170,[(64,525698147298844833249036326828125374485888535936389028007073975036061230264515073998286618617877754741718284604379474628458213274576967482661689614484473)],.bl true⟩
def tabG1:BrM:=⟨[(32,74631430173126758377643533528994909432102186869568591192963700361386182208352)],78,32362681916764104493991835296118166752912657161047604890346204195102463421598746189047267591208729645577192578156294662581397750496007928148487561501173757579923677711789846752008657136738,[(64,175385027467006900000366637349488613859451975538452591689352236446560333916021323000748240873769888558312936388329009700976884248464799457281902674097798)],.bl true⟩
def tabG:List BrM:=[tabG0,tabG1]
end Go.Proofs.YtoldjgmcoekchaaGreatDoor
