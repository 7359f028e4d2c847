import Derived.Test.YtlmdfhkdeieceaaGreatWc
import Derived.Laws.IdiomRangeMap
import Derived.OrdersIn
import Derived.TacticsIn
import Derived.LoopNIn
import Derived.RangeFuncIn
import Derived.RangeFuncLeaves
import Derived.RangeFuncRecord
import Derived.RangeFuncNested
set_option linter.all false
set_option maxHeartbeats 16000000
set_option maxRecDepth 100000
namespace Go.E
open Go Go.RowKit Go.V
variable [LoopTab] [Gl]
section
variable {R:Type} {bad:R} {P:Program} {fl fd:Nat} {env:En} {h:H} {nx:Nat}
def notIntD:TypeDesc→Bool
  | .slice _=>true
  | .string=>true
  | _=>false
theorem notInt_ok {t:TypeId} {ti:TI} (hT:TyOk P t ti) (h:notInt ti.k=true):∃ u,P.underlying t=some u∧notIntD u=true:=by
  obtain ⟨u,hu,hd⟩:=hT.u
  refine ⟨u,hu,?_⟩
  cases hk:ti.k<;>rw [hk] at h hd<;>first|(cases h;done)|skip
  all_goals (cases u<;>first|rfl|cases hd)
theorem run_append_room' {t t2 ty e : TypeId} {te : TI} {u2 : TypeDesc} (hu : P.underlying t = some (.slice e)) (hte : TyOk P e te) (hu2 : P.underlying t2 = some u2) (hn2 : notIntD u2 = true) {base : Option Addr} {l c n : Nat} {x : Value} {qs : List Value} {w : World}
    (hlen:(Builtin.lenOf x).run P w=.ok n w) (hq:(Builtin.firstCells te.size n x).run P w=.ok qs.toArray w) (hroom:l+n≤c) :
    (∀ w',(∀ a,base=some a→(storeCells (a.add (l*te.size)) qs).run P w=.ok () w')→(base=none→w'=w)→(Builtin.append_ #[t,t2] ty #[.slice base l c,x]).run P w=.ok (.slice base (l+n) c) w'):=by
  intro w' h1 h2
  have e1:(underlying t2).run P w=.ok u2 w:=by simp [underlying,hu2]
  have e2:(match u2 with|.int _=>true|_=>false)=false:=by cases u2<;>first|rfl|cases hn2
  cases base with
  | none =>
    have:=h2 rfl
    subst this
    cases u2<;>first|(cases hn2;done)|simp [Builtin.append_,underlying,hu,hu2,hte.run_size,hlen,hq,hroom]
  | some a =>
    have:=h1 a rfl
    cases u2<;>first|(cases hn2;done)|simp [Builtin.append_,underlying,hu,hu2,hte.run_size,hlen,hq,hroom,this]
theorem run_append_grow' {t t2 ty e : TypeId} {te : TI} {u2 : TypeDesc} (hu : P.underlying t = some (.slice e)) (hte : TyOk P e te) (hu2 : P.underlying t2 = some u2) (hn2 : notIntD u2 = true) {base : Option Addr} {l c n : Nat} {x : Value} {olds qs : List Value} {w : World}
    (hlen:(Builtin.lenOf x).run P w=.ok n w) (hq:(Builtin.firstCells te.size n x).run P w.drew=.ok qs.toArray w.drew) (ho:(Builtin.firstCells te.size l (.slice base l c)).run P w.drew=.ok olds.toArray w.drew) (hg:c<l+n) (hfit:fitsB te (l+n)=true) :
    ∃ zs:Array Value,zs.size=(grownCap w (l+n) c e-(l+n))*te.size∧(Builtin.append_ #[t,t2] ty #[.slice base l c,x]).run P w =
      .ok (.slice (some ⟨w.heap.size,0,none⟩) (l+n) (grownCap w (l+n) c e)) (w.drew.alloc (.cells (olds.toArray++qs.toArray++zs) e)):=by
  obtain ⟨f0,f1⟩:=two_t hfit
  obtain ⟨f1,f2⟩:=two_t f1
  have f1:l+n≤1000000000000:=Nat.le_of_ble_eq_true f1
  have f2:(l+n)*te.bytes≤140737488355328:=Nat.le_of_ble_eq_true f2
  obtain ⟨i,z,hi,hs,hb,hz,hza,hzs,hzr⟩:=hte.i
  have hfits:=growslice_fits (need:=l+n) (old:=c) (bytes:=te.bytes) hg f2
  have hn:¬ (l+n≤c):=by omega
  have h63':¬ (9223372036854775807<((l:Int)+(n:Int))):=by omega
  have h48':¬ (281474976710656<Builtin.nextslicecap (l+n) c*te.bytes):=by omega
  refine ⟨Builtin.zeroCells z.cells (grownCap w (l+n) c e-(l+n)),by rw [size_zeroCells,hzs],?_⟩
  rw [← hs] at hq ho
  cases u2<;>first|(cases hn2;done)|(simp [Builtin.append_,underlying,hu,hu2,sizeOf,typeInfo,zeroValue,hi,hz,hb,hlen,hn,h63',h48',Question.forced,hq,ho,newRow,grownCap];congr 2;apply Array.ext';simp)
theorem stp_del {ρ : Plc} {g g':Hp} {nx:Nat} {w:World} (hr:Rel ρ g nx w) {b:Nat} (hfd:fd≤b) (hg:∀ j,g' j=if j=b then none else g j):Stp fl fd ρ g nx w ρ g' nx w:=by
  have live:∀ c B,g' c=some B→g c=some B:=λ c B hc=>by
    rw [hg] at hc
    split at hc
    . cases hc
    . exact hc
  refine ⟨λ _ _ h=>h,Nat.le_refl _,hr.less live,λ _ _ h=>.inl h,λ c hc=>?_,λ c q h1 h2=>.inl ⟨?_,h2⟩,rfl,rfl,rfl,Nat.le_refl _,λ _ _ _=>rfl,λ _ h=>h⟩
  . by_cases x:c=b
    . right;right;rw [hg,if_pos x];exact ⟨x▸hfd,rfl⟩
    . left;rw [hg,if_neg x]
  . cases hc:g' c with
    | none=>exact absurd hc h1
    | some B=>rw [live c B hc];simp
theorem _root_.Go.V.Upd.lp {ρ : Plc} {g:Hp} {nx:Nat} {w w':World} {b:Nat} {p:Pl} {t:TypeId} {r0:Rope} (hu:Upd p.blk w w') (hr:Rel ρ g nx w) (hb:g b=some (.cells t r0)) (hp : ρ b=some p):∀ k,IsLoop w k→IsLoop w' k:=λ k ⟨lr,hlr⟩=>by
  by_cases e:k=p.blk
  . subst e
    obtain ⟨q,hq,hbk⟩:=hr.blk b _ hb
    rw [hp] at hq
    cases hq
    obtain ⟨arr0,fr0,cs0,h9,_⟩:=hbk
    rw [hlr] at h9
    cases h9
  . exact ⟨lr,(hu.block k e).trans hlr⟩
theorem stp_move {ρ : Plc} {g g' : Hp} {nx : Nat} {w w' : World} (hr : Rel ρ g nx w) {b o' : Nat} {p : Pl} {arr : Array Value} {t : TypeId} {fr : Nat × Nat} {r r0 : Rope} {cs : List Value}
    (hb:g b=some (.cells t r0)) (hp : ρ b=some p) (hfd:fd≤b) (hrr:RR ρ r cs) (hc:∀ (i:Nat) (v:Value),cs[i]? = some v→arr[o'+i]? = some v) (hfr:FrOk t fr arr.size)
    (hs:arr.size=p.size) (hw:w'.heap[p.blk]? = some (.cells arr t fr)) (hu:Upd p.blk w w') (hg:∀ j,g' j=if j=nx then some (.cells t r) else if j=b then none else g j) :
    Stp fl fd ρ g nx w (λ j=>if j=nx then some ⟨p.blk,o',p.size⟩ else ρ j) g' (nx+1) w':=by
  have hbn:b<nx:=(hr.dom b p hp).1
  have hle : ρ.le (λ j=>if j=nx then some ⟨p.blk,o',p.size⟩ else ρ j):=λ c q hq=>by
    have:=(hr.dom c q hq).1
    show (if c=nx then _ else ρ c)=_
    rw [if_neg (by omega)];exact hq
  have live:∀ c,c≠nx→g' c≠none→g c≠none∧c≠b:=λ c hcn hc=>by
    rw [hg,if_neg hcn] at hc
    split at hc
    . exact absurd rfl hc
    . rename_i x;exact ⟨hc,x⟩
  have hbg:g b≠none:=by rw [hb];simp
  refine ⟨hle,by omega,⟨λ c q hq=>?_,λ c B hB=>?_,λ c c' q q' h1 h2 h3 h4 he=>?_,hr.gl.mono hle⟩,λ c q hq=>?_,λ c hc=>?_,λ c q h1 h2=>?_,hu.os,hu.tape,hu.output,Nat.le_of_eq hu.size.symm,λ k hk hkb=>?_,(hu.lp hr hb hp)⟩
  . have hq:(if c=nx then some ⟨p.blk,o',p.size⟩ else ρ c)=some q:=hq
    split at hq
    . cases hq;rw [hu.size];exact ⟨by omega,(hr.dom b p hp).2⟩
    . have:=hr.dom c q hq;rw [hu.size];exact ⟨by omega,this.2⟩
  . rw [hg] at hB
    split at hB
    . rename_i x
      cases hB
      exact ⟨⟨p.blk,o',p.size⟩,by show (if c=nx then _ else ρ c)=_;rw [if_pos x],arr,fr,cs,hw,hs,hrr.mono hle,hc,hfr⟩
    . split at hB
      . cases hB
      . rename_i x y
        obtain ⟨q,hq,hbk⟩:=hr.blk c B hB
        refine ⟨q,hle _ _ hq,?_⟩
        rw [hu.block]
        . exact hbk.mono hle
        . intro e
          exact y (hr.inj c b q p (by rw [hB];simp) hbg hq hp e)
  . have h3:(if c=nx then some ⟨p.blk,o',p.size⟩ else ρ c)=some q:=h3
    have h4:(if c'=nx then some ⟨p.blk,o',p.size⟩ else ρ c')=some q':=h4
    by_cases x:c=nx<;>by_cases y:c'=nx
    . rw [x,y]
    . exfalso
      rw [if_pos x] at h3
      rw [if_neg y] at h4
      cases h3
      obtain ⟨l1,l2⟩:=live c' y h2
      exact l2 (hr.inj c' b q' p l1 hbg h4 hp he.symm)
    . exfalso
      rw [if_neg x] at h3
      rw [if_pos y] at h4
      cases h4
      obtain ⟨l1,l2⟩:=live c x h1
      exact l2 (hr.inj c b q p l1 hbg h3 hp he)
    . rw [if_neg x] at h3
      rw [if_neg y] at h4
      exact hr.inj c c' q q' (live c x h1).1 (live c' y h2).1 h3 h4 he
  . have hq:(if c=nx then some ⟨p.blk,o',p.size⟩ else ρ c)=some q:=hq
    split at hq
    . right;omega
    . left;exact hq
  . by_cases x:c=b
    . right;right;rw [hg,if_neg (by omega),if_pos x];exact ⟨x▸hfd,rfl⟩
    . left;rw [hg,if_neg (by omega),if_neg x]
  . have h2:(if c=nx then some ⟨p.blk,o',p.size⟩ else ρ c)=some q:=h2
    by_cases x:c=nx
    . rw [if_pos x] at h2
      cases h2
      exact .inr ⟨by omega,.inr ⟨b,p,hfd,hbg,hp,rfl⟩⟩
    . rw [if_neg x] at h2
      exact .inl ⟨(live c x h1).1,h2⟩
  . exact hu.block k (λ e=>hkb b p (.inr ⟨hfd,by rw [hg,if_neg (by omega),if_pos rfl]⟩) hbg hp e.symm)
theorem delK_ok (b:Nat) (k:H→R):Ok1 bad (delK bad h b k) k λ h'=>∀ j,h'.get j=if j=b then none else h.get j:=Tr.get_put 64 h b none k
theorem drew_heap (w:World):w.drew.heap=w.heap:=rfl
theorem zero_mul' {n z:Nat} (h:n=0):n*z=0:=by subst h;simp
def Src (P:Program) (ρ : Plc) (w:World) (z n:Nat) (q:Rope) (x:Value):Prop :=
  (Builtin.lenOf x).run P w=.ok n w∧∃ qs,RR ρ q qs∧qs.length=n*z∧∀ w',w'.heap=w.heap→(Builtin.firstCells z n x).run P w'=.ok (List.toArray qs) w'
def SrcX (P : Program) (ρ : Plc) (w : World) (t t2 e : TypeId) (te : TI) (n : Nat) (q : Rope) (x : Value) : Prop := ∃ qs, RR ρ q qs ∧ qs.length = n * te.size ∧
    (∀ ty base l c w',l+n≤c→(∀ a,base=some a→(storeCells (a.add (l*te.size)) qs).run P w=.ok () w')→(base=none→w'=w)→(Builtin.append_ #[t,t2] ty #[.slice base l c,x]).run P w=.ok (.slice base (l+n) c) w') ∧
    (∀ ty base l c (olds:List Value),(Builtin.firstCells te.size l (.slice base l c)).run P w.drew=.ok olds.toArray w.drew→c<l+n→fitsB te (l+n)=true→∃ zs:Array Value,zs.size=(grownCap w (l+n) c e-(l+n))*te.size∧(Builtin.append_ #[t,t2] ty #[.slice base l c,x]).run P w =
      .ok (.slice (some ⟨w.heap.size,0,none⟩) (l+n) (grownCap w (l+n) c e)) (w.drew.alloc (.cells (olds.toArray++qs.toArray++zs) e)))
theorem src_x {ρ : Plc} {w:World} {t t2 e:TypeId} {te:TI} {u2:TypeDesc} {n:Nat} {q:Rope} {x:Value} (hu:P.underlying t=some (.slice e)) (hte:TyOk P e te) (hu2:P.underlying t2=some u2) (hn2:notIntD u2=true) (h:Src P ρ w te.size n q x):SrcX P ρ w t t2 e te n q x:=by
  obtain ⟨hlen,qs,hq1,hq2,hq3⟩:=h
  exact ⟨qs,hq1,hq2,λ ty base l c w' hr h1 h2=>run_append_room' hu hte hu2 hn2 hlen (hq3 w rfl) hr w' h1 h2,λ ty base l c olds ho hg hfit=>run_append_grow' hu hte hu2 hn2 hlen (hq3 w.drew rfl) ho hg hfit⟩
def AppOk (P:Program) (fl fd:Nat) (t t2 e:TypeId) (te:TI) (h:H) (nx:Nat) (s:A) (n:Nat) (q:Rope) (v:V) (h':H) (nx':Nat):Prop :=
  ∀ ρ w s' x ty,AR ρ s s'→Rel ρ h.get nx w→SrcX P ρ w t t2 e te n q x→∃ y ρ' w',(Builtin.append_ #[t,t2] ty #[s',x]).run P w=.ok y w'∧VR ρ' v y∧Stp fl fd ρ h.get nx w ρ' h'.get nx' w'
theorem grown_ok {t t2 e : TypeId} {te : TI} {n l c : Nat} {q r : Rope} {h' : H} {ρ : Plc} {w : World} {base : Option Addr} {x : Value} {olds : List Value} {ty : TypeId}
    (hr:Rel ρ h.get nx w) (hsrc:SrcX P ρ w t t2 e te n q x) (hlo:olds.length=l*te.size) (ho:(Builtin.firstCells te.size l (.slice base l c)).run P w.drew=.ok olds.toArray w.drew) (hg:c<l+n) (hfit:fitsB te (l+n)=true)
    (hrr:∀ qs,RR ρ q qs→qs.length=n*te.size→RR ρ r (olds++qs)) (hget:∀ j,h'.get j=if j=nx then some (.cells e r) else h.get j) :
    ∃ y ρ' w',(Builtin.append_ #[t,t2] ty #[.slice base l c,x]).run P w=.ok y w'∧VR ρ' (.at (.slu nx 0 (l+n) te.size)) y∧Stp fl fd ρ h.get nx w ρ' h'.get (nx+1) w':=by
  obtain ⟨qs,hq1,hq2,_,hgrow⟩:=hsrc
  obtain ⟨zs,hzs,hrun⟩:=hgrow ty base l c olds ho hg hfit
  obtain ⟨f0,f1⟩:=two_t hfit
  obtain ⟨f1,f2⟩:=two_t f1
  have f1:l+n≤1000000000000:=Nat.le_of_ble_eq_true f1
  have hge:=grownCap_ge w (l+n) c e
  have hle:=grownCap_le_maxLen w (l+n) c e (Nat.le_trans f1 (by decide))
  have hsz:(olds.toArray++qs.toArray++zs).size=grownCap w (l+n) c e*te.size:=by
    simp only [Array.size_append,List.size_toArray,hlo,hq2,hzs,← Nat.add_mul]
    congr 1;omega
  refine ⟨_,_,_,hrun,.at _ _ (.slu _ _ _ _ (grownCap w (l+n) c e) 0 ⟨w.heap.size,0,(olds.toArray++qs.toArray++zs).size⟩ ?_ hge hle (.inl rfl) (by show 0+grownCap w (l+n) c e*te.size≤(olds.toArray++qs.toArray++zs).size;rw [hsz];omega)),
    stp_new hr (cs:=olds++qs) (hrr qs hq1 hq2) (λ i v hv=>?_) (.inl rfl) rfl rfl rfl rfl hget⟩
  . show (if nx=nx then _ else _)=_
    rw [if_pos rfl]
  . have hi:=(List.getElem?_eq_some_iff.1 hv).1
    rw [Array.getElem?_append_left (by simp;simp at hi;exact hi)]
    simpa using hv
theorem appK_ok (m : Bool) {t t2 e : TypeId} {te : TI} (hf : fd ≤ fl) (s : A) (n : Nat) (q : Rope) (k : V → H → Nat → R) :
    Out bad (appK bad m fl fd h nx e te s n q k) λ e'=>∃ v h' nx',AppOk P fl fd t t2 e te h nx s n q v h' nx'∧e'=k v h' nx':=by
  unfold appK
  split
  ·
    cases hn:Nat.beq n 0 with
    | true =>
      have hn:=Nat.eq_of_beq_eq_true hn
      subst hn
      refine .inr ⟨_,_,_,λ ρ w s' x ty hs hr ⟨qs,hq1,hq2,hrm,_⟩=>?_,rfl⟩
      cases hs
      have:qs=[]:=List.eq_nil_of_length_eq_zero (by simpa using hq2)
      subst this
      exact ⟨_,ρ,w,hrm _ _ _ _ w (Nat.le_refl _) (λ a h=>by cases h) (λ _=>rfl),.at _ _ .nilSlice,Stp.refl hr⟩
    | false =>
      rw [cond_false]
      refine out_if λ hfit=>?_
      rcases newK_ok (bad:=bad) (h:=h) (nx:=nx) m (.cells e q) (λ h nx'=>k (.at (.slu nx 0 n te.size)) h nx') with e1|⟨h',nx',⟨rfl,hget⟩,e1⟩
      . exact .inl e1
      . rw [e1]
        refine .inr ⟨_,_,_,λ ρ w s' x ty hs hr hsrc=>?_,rfl⟩
        cases hs
        have hn:=Nat.ne_of_beq_eq_false hn
        have:=grown_ok (fl:=fl) (fd:=fd) (l:=0) (c:=0) (olds:=[]) (r:=q) (ty:=ty) hr hsrc (by simp) (run_firstCells_none _ _ _ _ _) (by omega) (by rw [Nat.zero_add];exact hfit) (λ qs h1 h2=>by simpa using h1) hget
        rwa [Nat.zero_add] at this
  ·
    rename_i b o l c
    cases hn:Nat.beq n 0 with
    | true =>
      have hn:=Nat.eq_of_beq_eq_true hn
      subst hn
      refine .inr ⟨_,_,_,λ ρ w s' x ty hs hr ⟨qs,hq1,hq2,hrm,_⟩=>?_,rfl⟩
      have:qs=[]:=List.eq_nil_of_length_eq_zero (by simpa using hq2)
      subst this
      cases hs with
      | slice _ _ _ _ o' p hp hl hc ho =>
        exact ⟨_,ρ,w,hrm _ _ _ _ w hl (λ a h=>rfl) (λ h=>by cases h),.at _ _ (.slice _ _ _ _ _ p hp hl hc ho),Stp.refl hr⟩
    | false =>
      have hn:=Nat.ne_of_beq_eq_false hn
      rw [cond_false,natK_eq]
      cases hroom:Nat.ble (Nat.add l n) c with
      | true =>
        have hroom:l+n≤c:=Nat.le_of_ble_eq_true hroom
        rw [cond_true]
        rcases cellsK_ok (bad:=bad) h b (λ bt r=>okK bad (Nat.ble fl b) (r.upd bad m (Nat.add o (Nat.mul l te.size)) (Nat.mul n te.size) q λ r=>setK bad h b (.cells bt r) λ h=>k (.at (.slice b o (Nat.add l n) c)) h nx)) with e1|⟨bt,r,hb,e1⟩
        . exact .inl e1
        . rw [e1]
          refine out_if λ hfl=>?_
          have hfl:=Nat.le_of_ble_eq_true hfl
          refine (upd_ok bad m r _ _ q _).out λ r' hr'=>(setK_ok b _ _).out λ h' hget=>.inr ⟨_,_,_,λ ρ w s' x ty hs hr ⟨qs,hq1,hq2,hrm,_⟩=>?_,rfl⟩
          cases hs with
          | slice _ _ _ _ o' p hp hl hc ho =>
            have ho:o'=p.sh+o:=ho.resolve_right (by omega)
            subst ho
            obtain ⟨w',s1,s2⟩:=mem_over (P:=P) (fl:=fl) (fd:=fd) hr hb hp hfl hq1.one (λ cs hcs=>by
              have:=hr' ρ cs qs hcs hq1 hq2
              exact ⟨by rw [hq2];exact this.1,this.2⟩) hget
            refine ⟨_,ρ,w',hrm _ _ _ _ w' hroom (λ a h=>?_) (λ h=>by cases h),.at _ _ (.slice _ _ _ _ _ p hp hroom hc (.inl rfl)),s2⟩
            cases h
            rw [Addr.add_lit]
            rw [show p.sh+o+l*te.size=p.sh+Nat.add o (Nat.mul l te.size) from Nat.add_assoc ..]
            exact s1
      | false =>
        have hroom:¬ l+n≤c:=ble_f hroom
        rw [cond_false]
        refine out_if λ hfit=>?_
        cases hl0:Nat.beq l 0 with
        | true =>
          have hl0:=Nat.eq_of_beq_eq_true hl0
          subst hl0
          rw [cond_true]
          rcases newK_ok (bad:=bad) (h:=h) (nx:=nx) m (.cells e q) (λ h nx'=>k (.at (.slu nx 0 (Nat.add 0 n) te.size)) h nx') with e1|⟨h',nx',⟨rfl,hget⟩,e1⟩
          . exact .inl e1
          . rw [e1]
            refine .inr ⟨_,_,_,λ ρ w s' x ty hs hr hsrc=>?_,rfl⟩
            cases hs with
            | slice _ _ _ _ o' p hp hl hc ho =>
              exact grown_ok (olds:=[]) (r:=q) hr hsrc (by simp) (run_firstCells_some _ _ _ _ _ _ [] (by simp) (λ j v hj=>by simp at hj)) (by omega) hfit (λ qs h1 h2=>by simpa using h1) hget
        | false =>
          rw [cond_false]
          rcases cellsK_ok (bad:=bad) h b (λ _ r=>r.sub bad m o (Nat.mul l te.size) λ x=>natK m (Nat.mul l te.size) λ p=>jn m p x q λ r=>newK bad m h nx (.cells e r) λ h nx'=>k (.at (.slu nx 0 (Nat.add l n) te.size)) h nx') with e1|⟨bt,r,hb,e1⟩
          . exact .inl e1
          . rw [e1]
            refine (sub_ok bad m r _ _ _).out λ x1 hx1=>?_
            rw [natK_eq]
            obtain ⟨r',hj,hjr⟩:=jn_ok m (Nat.mul l te.size) x1 q (λ r=>newK bad m h nx (.cells e r) λ h nx'=>k (.at (.slu nx 0 (Nat.add l n) te.size)) h nx')
            rw [hj]
            rcases newK_ok (bad:=bad) (h:=h) (nx:=nx) m (.cells e r') (λ h nx'=>k (.at (.slu nx 0 (Nat.add l n) te.size)) h nx') with e2|⟨h',nx',⟨rfl,hget⟩,e2⟩
            . exact .inl e2
            . rw [e2]
              refine .inr ⟨_,_,_,λ ρ w s' x ty hs hr hsrc=>?_,rfl⟩
              cases hs with
              | slice _ _ _ _ o' p hp hl hc ho =>
                have hl0:=Nat.ne_of_beq_eq_false hl0
                have ho:o'=p.sh+o:=ho.resolve_right (by omega)
                subst ho
                obtain ⟨arr,fr,cs,c1,c2,c3,c4,c5⟩:=hr.cells hb hp
                obtain ⟨d1,d2⟩:=hx1 ρ cs c3
                have d1:o+l*te.size≤cs.length:=d1
                have hlo:((cs.drop o).take (l*te.size)).length=l*te.size:=by rw [List.length_take,List.length_drop];omega
                refine grown_ok (olds:=(cs.drop o).take (l*te.size)) (r:=r') hr hsrc hlo (run_firstCells_some _ _ _ _ _ _ _ hlo (λ j v hj=>?_)) (by omega) hfit (λ qs h1 h2=>hjr ρ _ _ d2 h1 hlo) hget
                rw [List.getElem?_take] at hj
                split at hj
                . rw [List.getElem?_drop] at hj
                  exact cell_at (w:=w.drew) c1 (by rw [Nat.add_assoc];exact c4 _ _ hj)
                . cases hj
  ·
    rename_i b o l z'
    cases hn:Nat.beq n 0 with
    | true =>
      have hn:=Nat.eq_of_beq_eq_true hn
      subst hn
      refine .inr ⟨_,_,_,λ ρ w s' x ty hs hr ⟨qs,hq1,hq2,hrm,_⟩=>?_,rfl⟩
      have:qs=[]:=List.eq_nil_of_length_eq_zero (by simpa using hq2)
      subst this
      cases hs with
      | slu _ _ _ _ c o' p hp hl hc ho hs =>
        exact ⟨_,ρ,w,hrm _ _ _ _ w hl (λ a h=>rfl) (λ h=>by cases h),.at _ _ (.slu _ _ _ _ c _ p hp hl hc ho hs),Stp.refl hr⟩
    | false =>
      have hn:=Nat.ne_of_beq_eq_false hn
      rw [cond_false]
      refine out_if λ hc=>?_
      obtain ⟨hz,hfd⟩:=two_t hc
      have hz:=Nat.eq_of_beq_eq_true hz
      have hfd:=Nat.le_of_ble_eq_true hfd
      subst hz
      rw [natK_eq]
      refine out_if λ hfit=>?_
      rcases cellsK_ok (bad:=bad) h b (λ bt r=>okK bad (Nat.beq bt e) (r.sub bad m o (Nat.mul l te.size) λ x=>natK m (Nat.mul l te.size) λ p=>jn m p x q λ r=>delK bad h b λ h=>newK bad m h nx (.cells e r) λ h nx'=>k (.at (.slu nx 0 (Nat.add l n) te.size)) h nx')) with e1|⟨bt,r,hb,e1⟩
      . exact .inl e1
      . rw [e1]
        refine out_if λ hbt=>?_
        have hbt:=Nat.eq_of_beq_eq_true hbt
        subst hbt
        refine (sub_ok bad m r _ _ _).out λ x1 hx1=>?_
        rw [natK_eq]
        obtain ⟨r',hj,hjr⟩:=jn_ok m (Nat.mul l te.size) x1 q (λ r=>delK bad h b λ h=>newK bad m h nx (.cells bt r) λ h nx'=>k (.at (.slu nx 0 (Nat.add l n) te.size)) h nx')
        rw [hj]
        refine (delK_ok b _).out λ h1 hg1=>?_
        rcases newK_ok (bad:=bad) (h:=h1) (nx:=nx) m (.cells bt r') (λ h nx'=>k (.at (.slu nx 0 (Nat.add l n) te.size)) h nx') with e2|⟨h',nx',⟨rfl,hget⟩,e2⟩
        . exact .inl e2
        . rw [e2]
          refine .inr ⟨_,_,_,λ ρ w s' x ty hs hr hsrc=>?_,rfl⟩
          cases hs with
          | slu _ _ _ _ c o' p hp hl hc ho hs =>
            obtain ⟨arr,fr,cs,c1,c2,c3,c4,c5⟩:=hr.cells hb hp
            obtain ⟨d1,d2⟩:=hx1 ρ cs c3
            have d1:o+l*te.size≤cs.length:=d1
            have hlo:((cs.drop o).take (l*te.size)).length=l*te.size:=by rw [List.length_take,List.length_drop];omega
            have hol:∀ (j:Nat) (v:Value),((cs.drop o).take (l*te.size))[j]? = some v→arr[o'+j]? = some v:=λ j v hj=>by
              rcases ho with ho|ho
              . rw [List.getElem?_take] at hj
                split at hj
                . rw [List.getElem?_drop] at hj
                  subst ho
                  rw [Nat.add_assoc];exact c4 _ _ hj
                . cases hj
              . have hl0:l=0:=by omega
                rw [hl0] at hj
                simp at hj
            rcases Nat.lt_or_ge c (l+n) with hg|hg
            ·
              have s1:Stp fl fd ρ h.get nx w ρ h1.get nx w:=stp_del hr hfd hg1
              obtain ⟨y,ρ',w',r1,r2,r3⟩:=grown_ok (fl:=fl) (fd:=fd) (ty:=ty) (base:=some ⟨p.blk,o',none⟩) (c:=c) (olds:=(cs.drop o).take (l*te.size)) (r:=r') s1.rel hsrc hlo (run_firstCells_some _ _ _ _ _ _ _ hlo (λ j v hj=>cell_at (w:=w.drew) c1 (hol j v hj))) hg hfit (λ qs h1 h2=>hjr ρ _ _ d2 h1 hlo) hget
              exact ⟨y,ρ',w',r1,r2,s1.trans r3 hf⟩
            ·
              obtain ⟨qs,hq1,hq2,hrm,_⟩:=hsrc
              have hsz:arr.size=p.size:=c2
              have hmul:(l+n)*te.size≤c*te.size:=Nat.mul_le_mul_right _ hg
              have hfits:o'+l*te.size+0+qs.length≤arr.size:=by rw [hq2,hsz];rw [Nat.add_mul] at hmul;omega
              obtain ⟨w',arr',e3,e4,e5,e6,e7⟩:=run_storeCells_any (P:=P) qs (o'+l*te.size) 0 arr w c1 c5.no hfits hq1.one
              refine ⟨_,_,w',hrm _ _ _ _ w' hg (λ a h=>?_) (λ h=>by cases h),.at _ _ (.slu nx 0 (l+n) te.size c o' ⟨p.blk,o',p.size⟩ ?_ hg hc (.inl rfl) hs),
                stp_move (fl:=fl) hr (o':=o') (arr:=arr') (cs:=(cs.drop o).take (l*te.size)++qs) hb hp hfd (hjr ρ _ _ d2 hq1 hlo) (λ i v hv=>?_) (by rw [e6];exact c5) (e6.trans hsz) e5 e4 (λ j=>by rw [hget,hg1])⟩
              . cases h
                rw [Addr.add_lit]
                exact e3
              . show (if nx=nx then _ else _)=_
                rw [if_pos rfl]
              . rw [e7]
                rcases Nat.lt_or_ge i (l*te.size) with hi|hi
                . rw [if_neg (by omega)]
                  rw [List.getElem?_append_left (by omega)] at hv
                  exact hol i v hv
                . rw [List.getElem?_append_right (by omega),hlo] at hv
                  have:=(List.getElem?_eq_some_iff.1 hv).1
                  rw [if_pos (by omega),show o'+i-(o'+l*te.size+0)=i-l*te.size by omega]
                  exact hv
  . exact .inl rfl
end
end Go.E
namespace Go.E
open Go Go.RowKit Go.V
variable [LoopTab] [Gl]
theorem rope_bytes {ρ : Plc} {r:Rope} {cs:List Value} (hr:RR ρ r cs):∀ {n s:Nat},r.bytes=some (n,s)→cs=bcells n s∧s<256^n:=by
  induction hr with
  | bys n s h=>intro n' s' hb;simp only [Rope.bytes,Option.some.injEq,Prod.mk.injEq] at hb;obtain ⟨rfl,rfl⟩:=hb;exact ⟨rfl,h⟩
  | rps n a cs hl h =>
    intro n' s' hb
    have hb2:∃ s,a=.int .u8 s∧(bif Nat.beq n 1 then some (1,s) else none)=some (n',s'):=by
      cases a with
      | int kd s=>cases kd<;>first|exact ⟨s,rfl,hb⟩|cases hb
      | _=>cases hb
    clear hb
    obtain ⟨s,rfl,hb⟩:=hb2
    cases h1:Nat.beq n 1 with
    | false=>rw [h1] at hb;cases hb
    | true =>
      rw [h1,cond_true] at hb
      cases hb
      have h1:=Nat.eq_of_beq_eq_true h1
      subst h1
      match cs,hl with
      | [v],_ =>
        have:=h v (by simp)
        cases this with
        | int _ _ hn =>
          have hn:s'<256:=hn
          refine ⟨?_,by simpa using hn⟩
          have e2:byteAt s' 0=s':=by simp [byteAt,Nat.mod_eq_of_lt hn]
          rw [u8_wrap hn]
          show _=[Value.int .u8 ((byteAt s' 0:Nat):Int)]
          rw [e2]
  | nds n l r xs ys _ _ hn ih1 ih2 =>
    intro n' s' hb
    simp only [Rope.bytes] at hb
    split at hb
    . rename_i n1 s1 m1 t1 h1 h2
      cases hb
      obtain ⟨e1,l1⟩:=ih1 h1
      obtain ⟨e2,l2⟩:=ih2 h2
      subst e1 e2
      rw [sh8_eq]
      exact ⟨(bcells_app l1).symm,app_lt l1 l2⟩
    . cases hb
  | ops n x h=>intro n' s' hb;cases hb
  | wds n x cs hw h=>intro n' s' hb;cases hb
def SN.den:SN→Nat
  | .n s=>s
  | .e x=>Gl.den x
theorem rope_sy {ρ : Plc} {r:Rope} {cs:List Value} (hr:RR ρ r cs) {n:Nat} {z:SN} (h:r.sy=some (n,z)):cs=bcells n z.den∧z.den<256^n:=by
  unfold Rope.sy at h
  split at h
  . rename_i m x
    cases hw:x.isW with
    | true=>rw [hw] at h;cases h
    | false =>
      rw [hw] at h
      cases h
      cases hr with
      | ops _ _ h=>exact ⟨rfl,h⟩
      | wds _ _ _ h2 _=>rw [hw] at h2;cases h2
  . split at h
    . rename_i n' s' hb
      cases h
      exact rope_bytes hr hb
    . cases h
theorem SN.den_ex (x:SN):Gl.den x.ex=x.den:=by cases x<;>first|exact Gl.den_c _|rfl
theorem snEq_ok {x y:SN} {b:Bool} (h:snEq x y=some b):b=Nat.beq x.den y.den:=by
  unfold snEq at h
  split at h
  . cases h;rfl
  . cases h1:x.ex.eq y.ex with
    | true =>
      rw [h1,cond_true] at h
      cases h
      have:=Ex.eq_eq h1
      rw [← SN.den_ex x,← SN.den_ex y,this]
      exact (Nat.beq_refl _).symm
    | false =>
      rw [h1,cond_false] at h
      rw [← SN.den_ex x,← SN.den_ex y]
      exact Gl.cmp_ok _ _ _ h
section
variable {R:Type} {bad:R} {P:Program}
theorem leafT_ok (d : Nat) {ρ : Plc} {t : TypeId} {tk : TK} {u : TypeDesc} (hu : P.underlying t = some u) (hd : descK tk u = true) (hz : ∀ e, tk = .pt e → ∃ te, TyOk P e te ∧ 0 < te.size) {a b : A} {r : Bool} (h : leafT tk a b = some r) {x y : Value} (hx : AR ρ a x) (hy : AR ρ b y) (w : World) :
    (Op.equalIn (d+1) t x y).run P w=.ok r w:=by
  unfold leafT at h
  split at h
  . rename_i kt k a k' b
    cases hk:kEq k k' with
    | false=>rw [hk] at h;cases h
    | true =>
      rw [hk,cond_true] at h
      cases h
      have hk:=kn_inj hk
      subst hk
      cases u<;>simp only [descK] at hd<;>first|(cases hd;done)|skip
      cases hx with
      | int _ _ h1=>cases hy with
        | int _ _ h2 =>
          rw [Op.equalIn]
          have e:(k.wrap (a:Int)==k.wrap (b:Int))=Nat.beq a b:=by
            rw [beq_dec,Bool.eq_iff_iff]
            simp only [beq_iff_eq,decide_eq_true_eq]
            exact ⟨wrap_inj h1 h2,λ h=>by rw [h]⟩
          simp [underlying,hu,e]
  . rename_i n s m p
    cases h
    cases u<;>simp only [descK] at hd<;>first|(cases hd;done)|skip
    cases hx with
    | str x _ _ h1 h2=>cases hy with
      | str y _ _ h3 h4 =>
        rw [Op.equalIn]
        have e:(x==y)=two (Nat.beq n m) (Nat.beq s p):=by
          have h5:=packB_eq (a:=x.data.toList) (b:=y.data.toList)
          rw [h2,h4] at h5
          have l1:x.data.toList.length=n:=by rw [← h1];simp
          have l2:y.data.toList.length=m:=by rw [← h3];simp
          rw [l1,l2] at h5
          have e0:(x==y)=(x.data==y.data):=by cases x;cases y;rfl
          rw [← h5,e0,Bool.eq_iff_iff]
          simp only [beq_iff_eq]
          exact ⟨λ h=>by rw [h],λ h=>Array.ext' h⟩
        simp [underlying,hu,e]
  . exact eqT_at d hu hd hz h hx hy w
  . exact eqT_at d hu hd hz h hx hy w
  . cases h
def EqOk (P:Program) (d:Nat) (t:TypeId) (x y:V) (b:Bool):Prop:=∀ ρ u v,VR ρ x u→VR ρ y v→∀ w,(Op.equalIn d t u v).run P w=.ok b w
theorem part2 {t : TypeId} {ti : TI} (hT : TyOk P t ti) (m : Bool) {r s : Rope} {o : Nat} {k : V → V → R} {Q : V → V → Prop}
    (h:∀ v w,(∀ ρ xs ys,RR ρ r xs→RR ρ s ys→∃ u u',VR ρ v u∧VR ρ w u'∧∀ W,(part t xs.toArray o).run P W=.ok u W∧(part t ys.toArray o).run P W=.ok u' W)→Q v w) (e:R) {j:Bool→R} {S:Bool→Prop}
    (he:∀ v w,Q v w→Ok1 bad (k v w) j S):Ok1 bad (partK bad m ti r o λ v=>partK bad m ti s o λ w=>k v w) j S:=by
  refine (partK_ok m hT r o _).bind λ v hv=>(partK_ok m hT s o _).bind λ w hw=>he v w (h v w λ ρ xs ys hx hy=>?_)
  rcases hv ρ xs hx with ⟨h1,h2,h3⟩|⟨h1,u,h2,h3⟩
  . rcases hw ρ ys hy with ⟨_,h5,h6⟩|⟨h4,_⟩
    . exact ⟨_,_,h3,h6,λ W=>⟨run_part hT W (.inl ⟨h1,rfl⟩),run_part hT W (.inl ⟨h1,rfl⟩)⟩⟩
    . rw [h1] at h4;cases h4
  . rcases hw ρ ys hy with ⟨h4,_⟩|⟨_,u',h5,h6⟩
    . rw [h1] at h4;cases h4
    . exact ⟨_,_,h3,h6,λ W=>⟨run_part hT W (.inr ⟨h1,h2⟩),run_part hT W (.inr ⟨h1,h5⟩)⟩⟩
theorem eqFs_ok {Γ : Ctx} (hΓ : ∀ t ti, Γ.ty.get t = some ti → TyOk P t ti) (m : Bool) (d : Nat) {rc : TypeId → V → V → (Bool → R) → R} (hrc : ∀ t x y k, Ok1 bad (rc t x y k) k (EqOk P d t x y)) (r s : Rope) : ∀ (Fl : List Field) (fs : List (Nat × Nat)) (k : Bool → R), Fl.map (fun f => (f.offset, f.type)) = fs → (∀ f ∈ Fl, f.name ≠ "_") →
    Ok1 bad (eqFsK bad Γ m rc r s fs k) k λ b=>∀ ρ xs ys,RR ρ r xs→RR ρ s ys→∀ w,(do
      for f in Fl do
        if f.name≠"_" then
          if !(← Op.equalIn d f.type (← part f.type xs.toArray f.offset) (← part f.type ys.toArray f.offset)) then return false
      pure true:Sem Bool).run P w=.ok b w
  | [],fs,k,hf,hn=>by
    subst hf
    exact .inr ⟨_,λ ρ xs ys _ _ w=>by simp,rfl⟩
  | F::Fl,fs,k,hf,hn=>by
    subst hf
    show Ok1 bad (tyK bad Γ F.type λ ti=>partK bad m ti r F.offset λ v=>partK bad m ti s F.offset λ w=>rc F.type v w λ b=>bif b then eqFsK bad Γ m rc r s (Fl.map λ f=>(f.offset,f.type)) k else k false) k _
    refine (tyK_ok hΓ F.type _).bind λ ti hti=>part2 hti m (λ v w h=>h) bad λ v w hvw=>(hrc F.type v w _).bind λ b hb=>?_
    have hname:F.name≠"_":=hn F (by simp)
    cases b with
    | false =>
      refine .inr ⟨_,λ ρ xs ys hx hy w=>?_,rfl⟩
      obtain ⟨u,u',h1,h2,h3⟩:=hvw ρ xs ys hx hy
      have h4:=hb ρ u u' h1 h2
      simp [hname,(h3 _).1,(h3 _).2,h4]
    | true =>
      refine (eqFs_ok hΓ m d hrc r s Fl _ k rfl λ f hf=>hn f (by simp [hf])).mono λ b hB ρ xs ys hx hy w=>?_
      obtain ⟨u,u',h1,h2,h3⟩:=hvw ρ xs ys hx hy
      have h4:=hb ρ u u' h1 h2
      have h5:=hB ρ xs ys hx hy w
      simp only [ne_eq] at h5
      simp [hname,(h3 _).1,(h3 _).2,h4]
      simpa using h5
theorem eqAr_ok {e : TypeId} {te : TI} (hte : TyOk P e te) (m : Bool) (d : Nat) {rc : TypeId → V → V → (Bool → R) → R} (hrc : ∀ t x y k, Ok1 bad (rc t x y k) k (EqOk P d t x y)) (r s : Rope) : ∀ (n i : Nat) (k : Bool → R),
    Ok1 bad (eqArK bad m rc r s e te n i k) k λ b=>∀ ρ xs ys,RR ρ r xs→RR ρ s ys→∀ w,(do
      for j in List.range' i n do
        if !(← Op.equalIn d e (← part e xs.toArray (j*te.size)) (← part e ys.toArray (j*te.size))) then return false
      pure true:Sem Bool).run P w=.ok b w
  | 0,i,k=>.inr ⟨_,λ ρ xs ys _ _ w=>by simp,rfl⟩
  | n+1,i,k=>by
    show Ok1 bad (partK bad m te r (Nat.mul i te.size) λ v=>partK bad m te s (Nat.mul i te.size) λ w=>rc e v w λ b=>bif b then eqArK bad m rc r s e te n (Nat.succ i) k else k false) k _
    refine part2 hte m (λ v w h=>h) bad λ v w hvw=>(hrc e v w _).bind λ b hb=>?_
    cases b with
    | false =>
      refine .inr ⟨_,λ ρ xs ys hx hy w=>?_,rfl⟩
      obtain ⟨u,u',h1,h2,h3⟩:=hvw ρ xs ys hx hy
      have h4:=hb ρ u u' h1 h2
      have h5:=λ W=>(h3 W).1
      have h6:=λ W=>(h3 W).2
      rw [show Nat.mul i te.size=i*te.size from rfl] at h5 h6
      simp [List.range'_succ,h5,h6,h4]
    | true =>
      refine (eqAr_ok hte m d hrc r s n (Nat.succ i) k).mono λ b hB ρ xs ys hx hy w=>?_
      obtain ⟨u,u',h1,h2,h3⟩:=hvw ρ xs ys hx hy
      have h4:=hb ρ u u' h1 h2
      have h5:=λ W=>(h3 W).1
      have h6:=λ W=>(h3 W).2
      rw [show Nat.mul i te.size=i*te.size from rfl] at h5 h6
      have h7:=hB ρ xs ys hx hy w
      simp [List.range'_succ,h5,h6,h4]
      simpa using h7
theorem byte_inj:∀ {c p q:Nat},p<256^c→q<256^c→(∀ i,i<c→byteAt p i=byteAt q i)→p=q
  | 0,p,q,hp,hq,h=>by simp at hp hq;omega
  | c+1,p,q,hp,hq,h=>by
    rw [Nat.pow_succ] at hp hq
    have h0:=h 0 (by omega)
    have h1:p / 256=q / 256:=byte_inj (c:=c) (by omega) (by omega) λ i hi=>by
      have:=h (i+1) (by omega)
      unfold byteAt at this ⊢
      rwa [Nat.pow_succ,Nat.mul_comm,← Nat.div_div_eq_div_mul,← Nat.div_div_eq_div_mul] at this
    unfold byteAt at h0
    simp at h0
    omega
theorem bytesEq_ok {e : TypeId} {te : TI} (hte : TyOk P e te) {kd : IntKind} (hk : te.k = .int kd) (d : Nat) {n : Nat} {r s : Rope} {b : Bool} (h : bytesEq n r s = some b) {ρ : Plc} {xs ys : List Value} (hx : RR ρ r xs) (hy : RR ρ s ys) (w : World) : (do
      for j in List.range' 0 n do
        if !(← Op.equalIn (d+1) e (← part e xs.toArray (j*te.size)) (← part e ys.toArray (j*te.size))) then return false
      pure true:Sem Bool).run P w=.ok b w:=by
  classical
  unfold bytesEq at h
  split at h
  . rename_i a p c q h1 h2
    obtain ⟨rfl,l1⟩:=rope_sy hx h1
    obtain ⟨rfl,l2⟩:=rope_sy hy h2
    cases hc:two (Nat.beq a n) (Nat.beq c n) with
    | false=>rw [hc] at h;cases h
    | true =>
      rw [hc,cond_true] at h
      cases snEq_ok h
      clear h
      generalize p.den=p at *
      generalize q.den=q at *
      have ha:a=n∧c=n:=by
        cases h3:Nat.beq a n with
        | false=>rw [h3] at hc;cases hc
        | true=>rw [h3] at hc;exact ⟨Nat.eq_of_beq_eq_true h3,Nat.eq_of_beq_eq_true hc⟩
      obtain ⟨rfl,rfl⟩:=ha
      have hagg:te.agg=false:=by rw [← hte.agg,hk];rfl
      have hs1:=hte.one hagg
      obtain ⟨u,hu,hd⟩:=hte.u
      rw [hk] at hd
      have hall:Nat.beq p q=((List.range' 0 c).all λ i=>decide (byteAt p i=byteAt q i)):=by
        rw [Bool.eq_iff_iff]
        simp only [List.all_eq_true,List.mem_range',decide_eq_true_eq]
        constructor
        . intro h i _;rw [Nat.eq_of_beq_eq_true h]
        . intro h
          have:p=q:=byte_inj l1 l2 λ i hi=>h i (by simpa using hi)
          rw [this];exact Nat.beq_refl q
      rw [hall]
      have hlr:∀ i∈List.range' 0 c 1,i<c:=λ i hi=>by simpa using (List.mem_range'_1.1 hi).2
      generalize List.range' 0 c 1=l at hlr ⊢
      induction l with
      | nil=>simp
      | cons i l ih =>
        have hi:i<c:=hlr i (by simp)
        have px:(part e (bcells c p).toArray (i*te.size)).run P w=.ok (.int .u8 (byteAt p i:Nat)) w:=by
          refine run_part hte w (.inr ⟨hagg,?_⟩)
          rw [hs1,Nat.mul_one];exact bcells_get hi
        have py:(part e (bcells c q).toArray (i*te.size)).run P w=.ok (.int .u8 (byteAt q i:Nat)) w:=by
          refine run_part hte w (.inr ⟨hagg,?_⟩)
          rw [hs1,Nat.mul_one];exact bcells_get hi
        have pe:(Op.equalIn (d+1) e (.int .u8 (byteAt p i:Nat)) (.int .u8 (byteAt q i:Nat))).run P w=.ok (decide (byteAt p i=byteAt q i)) w:=by
          cases u<;>simp only [descK] at hd<;>first|(cases hd;done)|skip
          rw [Op.equalIn]
          have e:(((byteAt p i:Nat):Int)==((byteAt q i:Nat):Int))=decide (byteAt p i=byteAt q i):=by
            rw [Bool.eq_iff_iff];simp only [beq_iff_eq,decide_eq_true_eq];omega
          simp [underlying,hu,e]
        have ih:=ih λ j hj=>hlr j (by simp [hj])
        simp only [List.forIn_cons,Sem.run_bind,px,py,pe,Result.andThen_ok,List.all_cons] at ih ⊢
        cases hb:(decide (byteAt p i=byteAt q i))
        . simp
        . simpa using ih
  . cases h
theorem eqV_ok {Γ : Ctx} (hΓ : ∀ t ti,Γ.ty.get t=some ti→TyOk P t ti) (m:Bool):∀ (f d:Nat),f<d→∀ t x y (k:Bool→R),Ok1 bad (eqV bad Γ m f t x y k) k (EqOk P d t x y)
  | 0,d,hf,t,x,y,k=>.inl rfl
  | f+1,d,hf,t,x,y,k=>by
    obtain ⟨d,rfl⟩:∃ d',d=d'+1:=⟨d-1,by omega⟩
    have ih:=eqV_ok hΓ m f d (by omega)
    unfold eqV
    refine (tyK_ok hΓ t _).bind λ ti hti=>?_
    obtain ⟨u,hu,hd⟩:=hti.u
    split
    . rename_i a
      refine (atK_ok y _).bind λ b hb=>?_
      subst hb
      have body:(∀ e,ti.k=.pt e→∃ te,TyOk P e te∧0<te.size)→Ok1 bad (match leafT ti.k a b with|some r=>k r|none=>bad) k (EqOk P (d+1) t (.at a) (.at b)):=by
        intro hz
        split
        . rename_i r hr
          exact .inr ⟨_,λ ρ u v hu' hv' w=>leafT_ok d hu hd hz hr hu'.atom hv'.atom w,rfl⟩
        . exact .inl rfl
      unfold sizedK
      split
      . rename_i e he
        refine (tyK_ok hΓ e _).bind λ te hte=>?_
        cases hs:Nat.blt 0 te.size with
        | false=>exact .inl rfl
        | true=>exact body λ e' he'=>⟨te,by rw [he] at he';cases he';exact hte,blt_t hs⟩
      . rename_i hne
        exact body λ e he=>absurd he (hne e)
    . rename_i r
      split
      . rename_i s
        split
        . rename_i fs hfs
          cases hfl:ti.flat with
          | false=>exact .inl rfl
          | true =>
            rw [okK,cond_true]
            rw [hfs] at hd
            obtain ⟨⟨_,hst⟩,hnm⟩:=hti.flat hfl
            cases u<;>simp only [descK] at hd<;>first|(cases hd;done)|skip
            rename_i F
            refine (eqFs_ok hΓ m d ih r s F.toList fs k (by simpa using hd) (hnm F hu)).mono λ b hb ρ u v hu' hv' w=>?_
            cases hu' with
            | agg _ xs hx=>cases hv' with
              | agg _ ys hy =>
                have h1:=hb ρ xs ys hx hy w
                rw [Op.equalIn]
                have hr:(underlying t).run P w=.ok (.struct F) w:=by simp [underlying,hu]
                rw [Sem.run_bind,hr]
                simp only [ne_eq] at h1
                simp [hst]
                simpa using h1
        . rename_i n e hne
          refine (tyK_ok hΓ e _).bind λ te hte=>?_
          rw [hne] at hd
          cases u<;>simp only [descK,Bool.and_eq_true] at hd<;>first|(cases hd;done)|skip
          rename_i n' e'
          obtain ⟨hd1,hd2⟩:=hd
          have hd1:=Nat.eq_of_beq_eq_true hd1
          have hd2:=Nat.eq_of_beq_eq_true hd2
          subst hd1 hd2
          have fin : ∀ b ρ u v, VR ρ (.agg r) u → VR ρ (.agg s) v → (∀ xs ys, RR ρ r xs → RR ρ s ys → ∀ w, (do
              for j in List.range' 0 n do
                if !(← Op.equalIn d e (← part e xs.toArray (j*te.size)) (← part e ys.toArray (j*te.size))) then return false
              pure true:Sem Bool).run P w=.ok b w)→∀ w,(Op.equalIn (d+1) t u v).run P w=.ok b w:=by
            intro b ρ u v hu' hv' hb w
            cases hu' with
            | agg _ xs hx=>cases hv' with
              | agg _ ys hy =>
                have h1:=hb xs ys hx hy w
                rw [Op.equalIn]
                have hr:(underlying t).run P w=.ok (.array n e) w:=by simp [underlying,hu]
                rw [Sem.run_bind,hr]
                simp [hte.run_size,Std.Legacy.Range.forIn_eq_forIn_range',Std.Legacy.Range.size]
                simpa using h1
          split
          . rename_i b hb
            cases hi:isIntK te.k with
            | false=>rw [hi] at hb;cases hb
            | true =>
              rw [hi,cond_true] at hb
              cases hte':te.k with
              | int kd =>
                cases d with
                | zero=>omega
                | succ d=>exact .inr ⟨b,λ ρ u v hu' hv'=>fin b ρ u v hu' hv' λ xs ys hx hy w=>bytesEq_ok hte hte' d hb hx hy w,rfl⟩
              | _=>rw [hte'] at hi;cases hi
          . exact (eqAr_ok hte m d ih r s n 0 k).mono λ b hb ρ u v hu' hv'=>fin b ρ u v hu' hv' λ xs ys hx hy w=>hb ρ xs ys hx hy w
        . exact .inl rfl
      . exact .inl rfl
    . exact .inl rfl
theorem guard_agg {op:BinOp} {t:TypeId} (hg:P.eqGuardType P.depth t=false) (x y:Operand) (a b:Array Value) (w:World):(eqGuard op t x y (.agg a) (.agg b)).run P w=.ok () w:=by
  unfold eqGuard
  split<;>simp [hg]
theorem binV_ok {Γ : Ctx} (hΓ : ∀ t ti,Γ.ty.get t=some ti→TyOk P t ti) (m:Bool) (op:BinOp) (t:TypeId) (x y:V) (k:V→R):Ok1 bad (binV bad Γ m op t x y k) k λ r=>BinOk P op t x y r:=by
  unfold binV
  split
  . refine (atK_ok y _).bind λ b hb=>?_
    subst hb
    exact binA_ok hΓ m op t _ _ k
  . rename_i r
    split
    . rename_i s
      refine (tyK_ok hΓ t _).bind λ ti hti=>?_
      cases hfl:ti.flat with
      | false=>exact .inl rfl
      | true =>
        rw [okK,cond_true]
        have hg:=(hti.flat hfl).1.1
        split
        . refine (eqV_ok hΓ m 100 10000 (by decide) t (.agg r) (.agg s) _).bind λ b hb=>?_
          rw [boolK_eq]
          refine .inr ⟨_,λ ρ u v hu hv p q w=>⟨.bool b,?_,.at _ _ (.bool _)⟩,rfl⟩
          have h1:=hb ρ u v hu hv w
          cases hu with
          | agg _ xs hx=>cases hv with
            | agg _ ys hy =>
              have h1:(Op.equal t (.agg xs.toArray) (.agg ys.toArray)).run P w=.ok b w:=h1
              simp only [Sem.run_bind,guard_agg hg,Result.andThen_ok,binOp,h1,Sem.run_pure]
        . refine (eqV_ok hΓ m 100 10000 (by decide) t (.agg r) (.agg s) _).bind λ b hb=>?_
          rw [boolK_eq]
          refine .inr ⟨_,λ ρ u v hu hv p q w=>⟨.bool (!b),?_,.at _ _ (.bool _)⟩,rfl⟩
          have h1:=hb ρ u v hu hv w
          cases hu with
          | agg _ xs hx=>cases hv with
            | agg _ ys hy =>
              have h1:(Op.equal t (.agg xs.toArray) (.agg ys.toArray)).run P w=.ok b w:=h1
              simp only [Sem.run_bind,guard_agg hg,Result.andThen_ok,binOp,h1,Sem.run_pure]
        . exact .inl rfl
    . exact .inl rfl
  . exact .inl rfl
end
end Go.E
namespace Go.E
open Go Go.RowKit Go.V
variable [LoopTab] [Gl]
section
variable {R:Type} {bad:R} {P:Program} {fl fd:Nat} {env:En} {h:H} {nx:Nat} {o:Op} {k:V→H→Nat→R}
theorem out_new (m : Bool) (t : TypeId) (r : Rope) (val : V)
    (hrun:∀ ρ n a w,EnvOk ρ n env a→Rel ρ h.get nx w→∀ d ty pos aft g,∃ arr x cs,(execOp a.eval ⟨d,o,ty,pos,aft,g⟩).run P w=.ok (.value x) { w with heap:=w.heap.push (.cells arr t (0,0)) } ∧
      RR ρ r cs∧(∀ (i:Nat) (v:Value),cs[i]? = some v→arr[i]? = some v)∧∀ ρ':Plc,ρ' nx=some ⟨w.heap.size,0,arr.size⟩→VR ρ' val x) :
    Out bad (newK bad m h nx (.cells t r) λ h nx'=>k val h nx') (OutO P fl fd env h nx o k):=by
  rcases newK_ok (bad:=bad) (h:=h) (nx:=nx) m (.cells t r) (λ h nx'=>k val h nx') with e|⟨h',nx',⟨rfl,hget⟩,e⟩
  . exact .inl e
  . rw [e]
    refine .inr ⟨val,h',nx+1,λ ρ n a w he hr d ty pos aft g=>?_,rfl⟩
    obtain ⟨arr,x,cs,h1,h2,h3,h4⟩:=hrun ρ n a w he hr d ty pos aft g
    rw [h1]
    refine ⟨_,h4 _ ?_,stp_new hr h2 h3 (.inl rfl) rfl rfl rfl rfl hget⟩
    show (if nx=nx then _ else _)=_
    rw [if_pos rfl]
theorem VR.cells {ρ : Plc} {v:V} {x:Value} (h:VR ρ v x):True:=trivial
theorem move_ok (x:Operand) {o:Op} (ho:o=.move x∨o=.assign x) (m:Bool):Out bad (eO bad m env x λ v=>k v h nx) (OutO P fl fd env h nx o k) :=
  (eO_ok m env x _).out λ v hv=>PureOk.out λ ρ n a he w d ty pos aft g=>⟨a.eval x,by rcases ho with rfl|rfl<;>simp [execOp],hv ρ n a he⟩
theorem pick_ok (m:Bool) (c x y:Operand):Out bad (eA bad m env c λ c=>match c with|.bool b'=>bif b' then eO bad m env x λ v=>k v h nx else eO bad m env y λ v=>k v h nx|_=>bad) (OutO P fl fd env h nx (.pick c x y) k):=by
  refine (eA_ok m env c _).out λ b hb=>?_
  split
  . rename_i b'
    cases b' with
    | true =>
      exact (eO_ok m env x _).out λ v hv=>PureOk.out λ ρ n a he w d ty pos aft g=>by
        have:=hb ρ n a he
        generalize hc:a.eval c=z at this
        cases this
        exact ⟨a.eval x,by simp [execOp,hc,asBool],hv ρ n a he⟩
    | false =>
      exact (eO_ok m env y _).out λ v hv=>PureOk.out λ ρ n a he w d ty pos aft g=>by
        have:=hb ρ n a he
        generalize hc:a.eval c=z at this
        cases this
        exact ⟨a.eval y,by simp [execOp,hc,asBool],hv ρ n a he⟩
  . exact .inl rfl
theorem alloc_ok {Γ : Ctx} (hΓ : ∀ t ti,Γ.ty.get t=some ti→TyOk P t ti) (m:Bool) (t:TypeId):Out bad (tyK bad Γ t λ ti=>newK bad m h nx (.cells t ti.zero) λ h nx'=>k (.at (.ptr nx 0)) h nx') (OutO P fl fd env h nx (.alloc t) k):=by
  refine (tyK_ok hΓ t _).out λ ti hti=>out_new m t _ _ λ ρ n a w he hr d ty pos aft g=>?_
  obtain ⟨z,h1,h2,h3,h4⟩:=hti.run_zero w
  refine ⟨z.cells,.pointer (some ⟨w.heap.size,0,none⟩),z.cells.toList,by simp [execOp,Instr.alloc,newVar,newRow,h1],h4 ρ,λ i v hv=>by simpa using hv,λ ρ' hp=>.at _ _ ?_⟩
  exact .ptr nx 0 _ hp
theorem box_ok (m:Bool) (t:TypeId) (x:Operand):Out bad (eO bad m env x λ v=>ropeK bad v λ r=>newK bad m h nx (.cells t r) λ h nx'=>k (.at (.ptr nx 0)) h nx') (OutO P fl fd env h nx (.box t x) k):=by
  refine (eO_ok m env x _).out λ v hv=>(ropeK_ok v _).out λ r hr=>out_new m t _ _ λ ρ n a w he hrel d ty pos aft g=>?_
  refine ⟨(a.eval x).cells,.pointer (some ⟨w.heap.size,0,none⟩),(a.eval x).cells.toList,by simp [execOp,Instr.box,newVar,newRow],hr ρ _ (hv ρ n a he),λ i v hv=>by simpa using hv,λ ρ' hp=>.at _ _ ?_⟩
  exact .ptr nx 0 _ hp
theorem load_ok {Γ : Ctx} (hΓ : ∀ t ti,Γ.ty.get t=some ti→TyOk P t ti) (m:Bool) (t:TypeId) (x:Operand):Out bad (eA bad m env x λ a=>ptrK bad a λ b o=>loadK bad Γ m h t b o λ v=>k v h nx) (OutO P fl fd env h nx (.load t x) k):=by
  refine (eA_ok m env x _).out λ a ha=>(ptrK_ok a _).out λ b o hab=>(loadK_ok (nx:=nx) hΓ m t b o _).out λ v hv=>?_
  subst hab
  refine .inr ⟨v,h,nx,λ ρ n act w he hr d ty pos aft g=>?_,rfl⟩
  have hx:=ha ρ n act he
  generalize hc:act.eval x=z at hx
  cases hx with
  | ptr _ _ p hp =>
    obtain ⟨y,h1,h2⟩:=hv ρ w p hr hp
    have:(execOp act.eval ⟨d,.load t x,ty,pos,aft,g⟩).run P w=.ok (.value y) w:=by simp [execOp,Instr.loadAt,hc,Instr.sureAddr,h1]
    rw [this]
    exact ⟨ρ,h2,Stp.refl hr⟩
theorem store_ok {Γ : Ctx} (hΓ : ∀ t ti,Γ.ty.get t=some ti→TyOk P t ti) (m:Bool) (t:TypeId) (x y:Operand):Out bad (eA bad m env x λ a=>ptrK bad a λ b o=>eO bad m env y λ v=>storeK bad Γ m fl h t b o v λ h=>k .undef h nx) (OutO P fl fd env h nx (.store t x y) k):=by
  refine (eA_ok m env x _).out λ a ha=>(ptrK_ok a _).out λ b o hab=>(eO_ok m env y _).out λ v hv=>(storeK_ok (nx:=nx) (fl:=fl) (fd:=fd) hΓ m t b o v _).out λ h' hh=>?_
  subst hab
  refine .inr ⟨_,h',nx,λ ρ n act w he hr d ty pos aft g=>?_,rfl⟩
  have hx:=ha ρ n act he
  generalize hc:act.eval x=z at hx
  cases hx with
  | ptr _ _ p hp =>
    obtain ⟨w',h1,h2⟩:=hh ρ w p _ hr hp (hv ρ n act he)
    have:(execOp act.eval ⟨d,.store t x y,ty,pos,aft,g⟩).run P w=.ok .skip w':=by simp [execOp,Instr.storeAt,hc,Instr.sureAddr,h1]
    rw [this]
    exact ⟨ρ,.undef,h2⟩
theorem nilCheck_ok (m:Bool) (x:Operand):Out bad (eA bad m env x λ a=>ptrK bad a λ _ _=>k (.at a) h nx) (OutO P fl fd env h nx (.nilCheck x) k):=by
  refine (eA_ok m env x _).out λ a ha=>(ptrK_ok a _).out λ b o hab=>PureOk.out λ ρ n act he w d ty pos aft g=>?_
  subst hab
  have hx:=ha ρ n act he
  generalize hc:act.eval x=z at hx
  cases hx with
  | ptr _ _ p hp=>exact ⟨_,by simp [execOp,hc],.at _ _ (.ptr _ _ p hp)⟩
theorem bin_ok {Γ : Ctx} (hΓ : ∀ t ti,Γ.ty.get t=some ti→TyOk P t ti) (m:Bool) (op:BinOp) (t:TypeId) (x y:Operand) (t2:TypeId):Out bad (eO bad m env x λ x=>eO bad m env y λ y=>binV bad Γ m op t x y λ v=>k v h nx) (OutO P fl fd env h nx (.binOp op t x y t2) k):=by
  refine (eO_ok m env x _).out λ u hu=>(eO_ok m env y _).out λ v hv=>(binV_ok hΓ m op t u v _).out λ r hr=>PureOk.out λ ρ n a he w d ty pos aft g=>?_
  obtain ⟨z,h1,h2⟩:=hr ρ _ _ (hu ρ n a he) (hv ρ n a he) x y w
  refine ⟨z,?_,h2⟩
  simp only [execOp,Sem.run_bind] at h1 ⊢
  rw [h1];rfl
theorem un_ok (m:Bool) (op:UnOp) (t:TypeId) (x:Operand):Out bad (eA bad m env x λ x=>unA bad m op x λ v=>k v h nx) (OutO P fl fd env h nx (.unOp op t x) k):=by
  refine (eA_ok m env x _).out λ a ha=>(unA_ok (P:=P) m op a _).out λ r hr=>PureOk.out λ ρ n act he w d ty pos aft g=>?_
  obtain ⟨z,h1,h2⟩:=hr ρ _ (ha ρ n act he) w
  exact ⟨z,by simp [execOp,h1],h2⟩
theorem fieldAddr_ok {Γ : Ctx} (hΓ : ∀ t ti, Γ.ty.get t = some ti → TyOk P t ti) (m : Bool) (s : TypeId) (x : Operand) (f : Nat) :
    Out bad (fieldOf bad Γ s f λ o t=>tyK bad Γ t λ ti=>okK bad (Nat.blt 0 ti.size) <| eA bad m env x λ a=>ptrK bad a λ b p=>natK m (Nat.add p o) λ p=>k (.at (.ptr b p)) h nx) (OutO P fl fd env h nx (.fieldAddr s x f) k):=by
  refine (fieldOf_ok hΓ s f _).out λ off t hft=>(tyK_ok hΓ t _).out λ ti hti=>out_if λ hsz=>(eA_ok m env x _).out λ a ha=>(ptrK_ok a _).out λ b p hab=>?_
  obtain ⟨F,fdd,hu,hf,rfl,rfl⟩:=hft
  subst hab
  rw [natK_eq]
  refine PureOk.out λ ρ n act he w d ty pos aft g=>?_
  have hx:=ha ρ n act he
  generalize hc:act.eval x=z at hx
  cases hx with
  | ptr _ _ q hq =>
    have hne:¬ ti.size=0:=by have:=blt_t hsz;omega
    refine ⟨.pointer (some ⟨q.blk,q.sh+(p+fdd.offset),none⟩),?_,.at _ _ (.ptr _ _ q hq)⟩
    simp [execOp,Instr.fieldAt,hc,underlying,hu,hf,Instr.sureAddr,fieldPlace,hti.run_size,hne,Addr.add_lit,Nat.add_assoc]
theorem field_ok {Γ : Ctx} (hΓ : ∀ t ti, Γ.ty.get t = some ti → TyOk P t ti) (m : Bool) (s : TypeId) (x : Operand) (f : Nat) :
    Out bad (fieldOf bad Γ s f λ o t=>tyK bad Γ t λ ti=>eO bad m env x λ v=>match v with|.agg r=>partK bad m ti r o λ v=>k v h nx|_=>bad) (OutO P fl fd env h nx (.field s x f) k):=by
  refine (fieldOf_ok hΓ s f _).out λ off t hft=>(tyK_ok hΓ t _).out λ ti hti=>(eO_ok m env x _).out λ v hv=>?_
  obtain ⟨F,fdd,hu,hf,rfl,rfl⟩:=hft
  split
  . rename_i r
    refine (partK_ok m hti r _ _).out λ y hy=>PureOk.out λ ρ n act he w d ty pos aft g=>?_
    have hx:=hv ρ n act he
    generalize hc:act.eval x=z at hx
    cases hx with
    | agg _ cs hr =>
      rcases hy ρ cs hr with ⟨h1,h2,h3⟩|⟨h1,z,h2,h3⟩
      . refine ⟨_,?_,h3⟩
        have:=run_part (P:=P) hti w (.inl ⟨h1,rfl⟩) (cs:=cs) (o:=fdd.offset)
        simp [execOp,Instr.field,hc,underlying,hu,hf,asAgg,this]
      . refine ⟨z,?_,h3⟩
        have:=run_part (P:=P) hti w (.inr ⟨h1,h2⟩)
        simp [execOp,Instr.field,hc,underlying,hu,hf,asAgg,this]
  . exact .inl rfl
theorem indexAddr_ok {Γ : Ctx} (hΓ : ∀ t ti,Γ.ty.get t=some ti→TyOk P t ti) (m:Bool) (t:TypeId) (x i:Operand):Out bad (eA bad m env x λ x=>eA bad m env i λ i=>indexK bad Γ m t x i λ v=>k v h nx) (OutO P fl fd env h nx (.indexAddr t x i) k):=by
  refine (eA_ok m env x _).out λ u hu=>(eA_ok m env i _).out λ v hv=>(indexK_ok hΓ m t u v _).out λ r hr=>PureOk.out λ ρ n a he w d ty pos aft g=>?_
  obtain ⟨z,h1,h2⟩:=hr ρ _ _ (hu ρ n a he) (hv ρ n a he) w
  exact ⟨z,by simp [execOp,h1],h2⟩
theorem index_ok {Γ : Ctx} (hΓ : ∀ t ti,Γ.ty.get t=some ti→TyOk P t ti) (m:Bool) (t:TypeId) (x i:Operand):Out bad (eO bad m env x λ x=>eA bad m env i λ i=>indexV bad Γ m t x i λ v=>k v h nx) (OutO P fl fd env h nx (.index t x i) k):=by
  refine (eO_ok m env x _).out λ u hu=>(eA_ok m env i _).out λ v hv=>(indexV_ok hΓ m t u v _).out λ r hr=>PureOk.out λ ρ n a he w d ty pos aft g=>?_
  obtain ⟨z,h1,h2⟩:=hr ρ _ _ (hu ρ n a he) (hv ρ n a he) w
  exact ⟨z,by simp [execOp,h1],h2⟩
theorem extract_ok (m:Bool) (x:Operand) (i:Nat):Out bad (eO bad m env x λ v=>match v with|.tup vs=>(match vs[i]? with|some v=>k v h nx|none=>bad)|_=>bad) (OutO P fl fd env h nx (.extract x i) k):=by
  refine (eO_ok m env x _).out λ v hv=>?_
  split
  . split
    . rename_i vs v hi
      refine PureOk.out λ ρ n act he w d ty pos aft g=>?_
      have hx:=hv ρ n act he
      generalize hc:act.eval x=z at hx
      cases hx with
      | tup _ xs hl hall =>
        have hlt:i<xs.length:=by rw [← hl];exact (List.getElem?_eq_some_iff.1 hi).1
        refine ⟨xs[i],?_,hall i _ _ hi (List.getElem?_eq_getElem hlt)⟩
        simp [execOp,hc,Instr.extract,List.getElem?_eq_getElem hlt]
    . exact .inl rfl
  . exact .inl rfl
theorem sl2arr_ok {Γ : Ctx} (hΓ : ∀ t ti, Γ.ty.get t = some ti → TyOk P t ti) (m : Bool) (t : TypeId) (x : Operand) :
    Out bad (tyK bad Γ t λ ti=>eA bad m env x λ a=>match ti.k with
    | .ar n _=>lenA bad a λ l=>okK bad (Nat.ble n l) (match a with|.slice b o _ _=>okK bad (Nat.blt 0 n) (k (.at (.ptr b o)) h nx)|.slu b o _ _=>okK bad (Nat.blt 0 n) (k (.at (.ptr b o)) h nx)|_=>bad)
    | _=>bad) (OutO P fl fd env h nx (.sliceToArrayPointer t x) k):=by
  refine (tyK_ok hΓ t _).out λ ti hti=>(eA_ok m env x _).out λ a ha=>?_
  split
  . rename_i n e hk
    unfold lenA
    split
    . refine out_if λ h1=>out_if λ h2=>PureOk.out λ ρ n' act he w d ty pos aft g=>?_
      have h1:=Nat.le_of_ble_eq_true h1
      have h2:=blt_t h2
      have hx:=ha ρ n' act he
      generalize hc:act.eval x=z at hx
      cases hx with
      | slice _ _ _ _ o' p hp hn hcm ho =>
        have ho:o'=p.sh+_:=ho.resolve_right (by omega)
        subst ho
        refine ⟨_,?_,.at _ _ (.ptr _ _ p hp)⟩
        simp [execOp,hc,Instr.arrayAt,underlying,hti.ar hk,Nat.not_lt.2 h1]
    . refine out_if λ h1=>out_if λ h2=>PureOk.out λ ρ n' act he w d ty pos aft g=>?_
      have h1:=Nat.le_of_ble_eq_true h1
      have h2:=blt_t h2
      have hx:=ha ρ n' act he
      generalize hc:act.eval x=z at hx
      cases hx with
      | slu _ _ _ _ c o' p hp hn hcm ho hs =>
        have ho:o'=p.sh+_:=ho.resolve_right (by omega)
        subst ho
        refine ⟨_,?_,.at _ _ (.ptr _ _ p hp)⟩
        simp [execOp,hc,Instr.arrayAt,underlying,hti.ar hk,Nat.not_lt.2 h1]
    . exact out_if λ _=>.inl rfl
    . exact out_if λ _=>.inl rfl
    . exact .inl rfl
  . exact .inl rfl
end
end Go.E
namespace Go.E
open Go Go.RowKit Go.V
variable [LoopTab] [Gl]
section
variable {R:Type} {bad:R} {P:Program} {fl fd:Nat} {env:En} {h:H} {nx:Nat} {o:Op} {k:V→H→Nat→R}
theorem run_places {F:Array Field} (hF:∀ f∈F.toList,(P.info? f.type).isSome=true) (w:World):(F.mapM λ f=>do pure (f.offset,← sizeOf f.type):Sem (Array (Nat×Nat))).run P w=.ok (F.toList.map λ f=>(f.offset,((P.info? f.type).map (·.size)).getD 0)).toArray w:=by
  rw [Array.mapM_eq_foldlM]
  have key : ∀ (l : List Field) (acc : Array (Nat × Nat)), (∀ f ∈ l, (P.info? f.type).isSome = true) →
      (l.foldlM (λ bs f=>bs.push <$> (do pure (f.offset,← sizeOf f.type):Sem (Nat×Nat))) acc).run P w=.ok (acc++(l.map (λ f=>(f.offset,((P.info? f.type).map (·.size)).getD 0))).toArray) w:=by
    intro l
    induction l with
    | nil=>intro acc _;simp
    | cons f l ih =>
      intro acc hl
      obtain ⟨i,hi⟩:=Option.isSome_iff_exists.1 (hl f (by simp))
      simp only [List.foldlM_cons,Sem.run_bind,Sem.run_map,sizeOf,typeInfo,run_program,Result.andThen_ok,hi,Sem.run_pure]
      have:=ih (acc.push (f.offset,i.size)) (λ g hg=>hl g (by simp [hg]))
      simp only [sizeOf,typeInfo] at this
      rw [this]
      simp [hi]
  rw [← Array.foldlM_toList]
  rw [key F.toList #[] hF]
  simp
theorem zero_cells {z:Value} {n s:Nat} (hz:z.cells.size=s):(Array.range (n*s)).map (λ i=>z.cells[i%z.cells.size]!)=(List.replicate n z.cells.toList).flatten.toArray:=by
  rw [← flat_zero (Z:=z.cells.toList) (s:=s) (by simpa using hz)]
  apply Array.ext'
  simp only [Array.toList_map,Array.toList_range,hz]
  exact List.map_congr_left λ a _=>by rw [Array.getElem!_toList]
theorem zero_flat {ρ : Plc} {te:TI} {z:Value} (h:RR ρ te.zero z.cells.toList) (hz:z.cells.size=te.size) (n:Nat):RR ρ (zerosR n te) (List.replicate n z.cells.toList).flatten:=zerosR_ok h (by simpa using hz) n
theorem build_ok {Γ : Ctx} (hΓ : ∀ t ti,Γ.ty.get t=some ti→TyOk P t ti) (m:Bool) (t:TypeId) (ps:Array (Nat×Operand)):Out bad (buildK bad Γ m env t ps.toList λ v=>k v h nx) (OutO P fl fd env h nx (.build t ps) k):=by
  unfold buildK
  refine (tyK_ok hΓ t _).out λ ti hti=>?_
  have hmap:∀ (a:Act),(ps.map λ (i,x)=>(i,a.eval x)).toList=ps.toList.map λ x=>(x.1,a.eval x.2):=λ a=>by simp
  split
  . rename_i fs hk
    obtain ⟨F,hu,hfs⟩:=hti.st hk
    refine (fillK_ok (env:=env) hΓ m _ (λ i=>((F.toList.map λ f=>(f.offset,((P.info? f.type).map (·.size)).getD 0)).toArray)[i]?) (λ i j=>?_) ps.toList ti.zero _).out λ r hr=>PureOk.out λ ρ n a he w d ty pos aft g=>?_
    . split
      . rename_i off ft hi
        refine .inr ⟨off,ft,λ ti' hti'=>?_,rfl⟩
        rw [← hfs] at hi
        simp only [List.getElem?_map] at hi
        cases hf:F.toList[i]? with
        | none=>rw [hf] at hi;cases hi
        | some fdd =>
          rw [hf] at hi
          cases hi
          obtain ⟨inf,z,hi1,hi2,_⟩:=hti'.i
          simp only [List.getElem?_toArray,List.getElem?_map,hf,Option.map_some,hi1,Option.getD_some,hi2]
      . exact .inl rfl
    . obtain ⟨z,hz1,hz2,hz3,hz4⟩:=hti.run_zero w
      obtain ⟨cs',h1,h2⟩:=hr ρ n a he _ (hz4 ρ)
      refine ⟨.agg cs'.toArray,?_,.agg _ _ h2⟩
      have hpl:=run_places (hti.fs F hu) w
      simp only [execOp,Instr.build,Sem.run_bind,hz1,Result.andThen_ok,underlying,run_program,hu,Sem.run_pure,hpl,hmap]
      simp only [Array.toArray_toList] at h1
      rw [h1]
      rfl
  . rename_i len e hk
    refine (tyK_ok hΓ e _).out λ te hte=>?_
    refine (fillK_ok (env:=env) hΓ m _ (λ i=>some (i*te.size,te.size)) (λ i j=>.inr ⟨i*te.size,e,λ ti' hti'=>?_,rfl⟩) ps.toList ti.zero _).out λ r hr=>PureOk.out λ ρ n a he w d ty pos aft g=>?_
    . obtain ⟨i1,z1,a1,a2,_⟩:=hti'.i
      obtain ⟨i2,z2,b1,b2,_⟩:=hte.i
      rw [a1] at b1
      cases b1
      rw [← a2,b2]
    . obtain ⟨z,hz1,hz2,hz3,hz4⟩:=hti.run_zero w
      obtain ⟨cs',h1,h2⟩:=hr ρ n a he _ (hz4 ρ)
      refine ⟨.agg cs'.toArray,?_,.agg _ _ h2⟩
      simp only [execOp,Instr.build,Sem.run_bind,hz1,Result.andThen_ok,underlying,run_program,hti.ar hk,Sem.run_pure,hte.run_size,hmap]
      simp only [Array.toArray_toList] at h1
      rw [h1]
      rfl
  . exact .inl rfl
theorem buildSlice_ok {Γ : Ctx} (hΓ : ∀ t ti, Γ.ty.get t = some ti → TyOk P t ti) (m : Bool) (t : TypeId) (len : Nat) (ps : Array (Nat × Operand)) :
    Out bad (tyK bad Γ t λ ti=>match ti.k with
    | .sl e=>tyK bad Γ e λ te=>okK bad (Nat.ble (Nat.mul len te.size) 16777216) (fillK bad Γ m env (λ i k=>k (Nat.mul i te.size) e) ps.toList (zerosR len te) λ r=>okK bad (Nat.ble len 1000000000000) (newK bad m h nx (.cells e r) λ h nx'=>k (.at (.slice nx 0 len len)) h nx'))
    | _=>bad) (OutO P fl fd env h nx (.buildSlice t len ps) k):=by
  refine (tyK_ok hΓ t _).out λ ti hti=>?_
  have hmap:∀ (a:Act),(ps.map λ (i,x)=>(i,a.eval x)).toList=ps.toList.map λ x=>(x.1,a.eval x.2):=λ a=>by simp
  split
  . rename_i e hk
    refine (tyK_ok hΓ e _).out λ te hte=>out_if λ hlim=>?_
    have hlim:len*te.size≤16777216:=Nat.le_of_ble_eq_true hlim
    refine (fillK_ok (env:=env) hΓ m _ (λ i=>some (i*te.size,te.size)) (λ i j=>.inr ⟨i*te.size,e,λ ti' hti'=>?_,rfl⟩) ps.toList _ _).out λ r hr=>out_if λ hl2=>out_new m e r _ λ ρ n a w he hrel d ty pos aft g=>?_
    . obtain ⟨i1,z1,a1,a2,_⟩:=hti'.i
      obtain ⟨i2,z2,b1,b2,_⟩:=hte.i
      rw [a1] at b1
      cases b1
      rw [← a2,b2]
    . have hl2:=Nat.le_of_ble_eq_true hl2
      obtain ⟨z,hz1,hz2,hz3,hz4⟩:=hte.run_zero w
      obtain ⟨cs',h1,h2⟩:=hr ρ n a he _ (zero_flat (hz4 ρ) hz3 len)
      refine ⟨cs'.toArray,.slice (some ⟨w.heap.size,0,none⟩) len len,cs',?_,h2,λ i v hv=>by simpa using hv,λ ρ' hp=>.at _ _ ?_⟩
      . have hne:¬ (2^24<len*te.size):=by omega
        rw [← zero_cells hz3] at h1
        simp only [execOp,Instr.buildSlice,Sem.run_bind,underlying,run_program,hti.sl hk,Result.andThen_ok,Sem.run_pure,hte.run_size,gt_iff_lt,if_neg hne,hmap]
        by_cases h0:len*te.size=0
        . have e0:∀ f:Nat→Value,(Array.range (len*te.size)).map f = #[]:=λ f=>by rw [h0];apply Array.ext';simp
          rw [e0] at h1
          simp only [h0,if_true,Sem.run_pure,Result.andThen_ok]
          have e1:∀ f:Nat→Value,(Array.range 0).map f = #[]:=λ f=>by apply Array.ext';simp
          simp only [pure_bind,e1,h1]
          simp [newRow]
        . simp only [h0,if_false,Sem.run_bind,hz1,Result.andThen_ok,Sem.run_pure]
          rw [h1]
          simp [newRow]
      . exact .slice nx 0 len len _ ⟨w.heap.size,0,_⟩ hp (Nat.le_refl _) (Nat.le_trans hl2 (by decide)) (.inl rfl)
  . exact .inl rfl
theorem makeSlice_ok {Γ : Ctx} (hΓ : ∀ t ti, Γ.ty.get t = some ti → TyOk P t ti) (m : Bool) (t : TypeId) (lo co : Operand) :
    Out bad (tyK bad Γ t λ ti=>match ti.k with
    | .sl e => tyK bad Γ e fun te => eA bad m env lo fun l => idxK bad l fun l => eA bad m env co fun c => idxK bad c fun c =>
        okK bad (two (two (Nat.ble l c) (Nat.ble c 1000000000000)) (Nat.ble (Nat.mul te.bytes c) 281474976710656)) (newK bad m h nx (.cells e (zerosR c te)) λ h nx'=>k (.at (.slice nx 0 l c)) h nx')
    | _=>bad) (OutO P fl fd env h nx (.makeSlice t lo co) k):=by
  refine (tyK_ok hΓ t _).out λ ti hti=>?_
  split
  . rename_i e hk
    refine (tyK_ok hΓ e _).out λ te hte=>(eA_ok m env lo _).out λ l' hl'=>(idxK_ok l' _).out λ l hl=>(eA_ok m env co _).out λ c' hc'=>(idxK_ok c' _).out λ c hc=>out_if λ hcond=>?_
    obtain ⟨c1,c2⟩:=two_t hcond
    obtain ⟨c0,c1⟩:=two_t c1
    have c0:=Nat.le_of_ble_eq_true c0
    have c1:=Nat.le_of_ble_eq_true c1
    have c2:te.bytes*c≤281474976710656:=Nat.le_of_ble_eq_true c2
    refine out_new m e _ _ λ ρ n a w he hrel d ty pos aft g=>?_
    obtain ⟨kl,e1⟩:=hl ρ _ (hl' ρ n a he)
    obtain ⟨kc,e2⟩:=hc ρ _ (hc' ρ n a he)
    obtain ⟨z,hz1,hz2,hz3,hz4⟩:=hte.run_zero w
    obtain ⟨inf,hi1,hi2,hi3⟩:=hte.run_info w
    refine ⟨(List.replicate c z.cells.toList).flatten.toArray,.slice (some ⟨w.heap.size,0,none⟩) l c,_,?_,zero_flat (hz4 ρ) hz3 c,λ i v hv=>by simpa using hv,λ ρ' hp=>.at _ _ ?_⟩
    . have w1:IntKind.i64.wrap (l:Int)=(l:Int):=wrap_lo (k:=.i64) (show l<9223372036854775808 by omega)
      have w2:IntKind.i64.wrap (c:Int)=(c:Int):=wrap_lo (k:=.i64) (show c<9223372036854775808 by omega)
      have b1:¬ ((c:Int)<0):=by omega
      have b2:¬ (281474976710656<(te.bytes:Int)*(c:Int)):=by
        have:=Int.ofNat_le.2 c2
        rw [Int.natCast_mul] at this
        omega
      have b3:¬ ((l:Int)<0):=by omega
      have b4:¬ ((l:Int) > (c:Int)):=by omega
      have hz3':=zero_cells (n:=c) hz3
      have hz4':∀ zs:Array Value,(c*te.size=0∨zs=z.cells)→(Array.range (c*te.size)).map (λ i=>zs[i%zs.size]!)=(List.replicate c z.cells.toList).flatten.toArray:=by
        intro zs hzs
        rcases hzs with h0|h0
        . rw [← hz3',h0]
          apply Array.ext';simp
        . rw [h0,hz3']
      simp only [execOp,Instr.makeSlice,Sem.run_bind,underlying,run_program,hti.sl hk,Result.andThen_ok,Sem.run_pure,e1,e2,asInt,hi1,hi3,w1,w2]
      by_cases h0:c*te.size=0
      . have e0 : (List.replicate c z.cells.toList).flatten.toArray = #[] := by
          rw [← hz3',h0];apply Array.ext';simp
        rw [e0]
        have n1:¬ (c<l):=by omega
        have b2':=Int.not_lt.1 b2
        simp [asIntOf,hi1,hi3,w1,w2,b1,b2',b3,b4,n1,askRoom,hte.run_size,newRow,h0]
        rw [if_neg b2,show Array.map (λ _=>(default:Value)) (Array.range 0) = #[] from by apply Array.ext';simp]
      . have n1:¬ (c<l):=by omega
        have b2':=Int.not_lt.1 b2
        simp [asIntOf,hi1,hi3,w1,w2,b1,b2',b3,b4,n1,askRoom,hte.run_size,newRow,h0,hz1]
        rw [if_neg b2,hz3']
    . exact .slice nx 0 l c _ ⟨w.heap.size,0,_⟩ hp c0 (Nat.le_trans c1 (by decide)) (.inl rfl)
  . exact .inl rfl
end
end Go.E
namespace Go.E
open Go Go.RowKit Go.V
variable [LoopTab] [Gl]
section
variable {R:Type} {bad:R} {P:Program} {fl fd:Nat} {env:En} {h:H} {nx:Nat} {o:Op} {k:V→H→Nat→R}
def ChkOk (P:Program) (d:Nat) (t:TypeId) (x:V):Prop:=∀ ρ u,VR ρ x u→∀ b w,(Instr.checkKey b d t u).run P w=.ok () w
theorem und_run {t:TypeId} {u:TypeDesc} (hu:P.underlying t=some u) (w:World):(underlying t).run P w=.ok u w:=by simp [underlying,hu]
theorem part1 {t : TypeId} {ti : TI} (hT : TyOk P t ti) (m : Bool) {r : Rope} {o : Nat} {k : V → R} {S : R → Prop}
    (h:∀ v,(∀ ρ xs,RR ρ r xs→∃ u,VR ρ v u∧∀ W,(part t xs.toArray o).run P W=.ok u W)→Out bad (k v) S):Out bad (partK bad m ti r o k) S:=by
  refine (partK_ok m hT r o _).out λ v hv=>h v λ ρ xs hx=>?_
  rcases hv ρ xs hx with ⟨h1,h2,h3⟩|⟨h1,u,h2,h3⟩
  . exact ⟨_,h3,λ W=>run_part hT W (.inl ⟨h1,rfl⟩)⟩
  . exact ⟨_,h3,λ W=>run_part hT W (.inr ⟨h1,h2⟩)⟩
theorem chkFs_ok {Γ : Ctx} (hΓ : ∀ t ti, Γ.ty.get t = some ti → TyOk P t ti) (m : Bool) (d : Nat) {rc : TypeId → V → R → R} (hrc : ∀ t x (k : R), Out bad (rc t x k) fun e => ChkOk P d t x ∧ e = k) (r : Rope) : ∀ (Fl : List Field) (fs : List (Nat × Nat)) (k : R), Fl.map (fun f => (f.offset, f.type)) = fs → (∀ f ∈ Fl, f.name ≠ "_") →
    Out bad (chkFs bad Γ m rc r fs k) λ e=>(∀ ρ xs,RR ρ r xs→∀ b w,(do
      for f in Fl do
        if f.name≠"_" then Instr.checkKey b d f.type (← part f.type xs.toArray f.offset):Sem Unit).run P w=.ok () w)∧e=k
  | [],fs,k,hf,hn=>by
    subst hf
    exact .inr ⟨λ ρ xs _ b w=>by simp,rfl⟩
  | F::Fl,fs,k,hf,hn=>by
    subst hf
    show Out bad (tyK bad Γ F.type λ ti=>partK bad m ti r F.offset λ v=>rc F.type v (chkFs bad Γ m rc r (Fl.map λ f=>(f.offset,f.type)) k)) _
    refine (tyK_ok hΓ F.type _).out λ ti hti=>part1 hti m λ v hv=>?_
    rcases hrc F.type v (chkFs bad Γ m rc r (Fl.map λ f=>(f.offset,f.type)) k) with e|⟨hb,e⟩
    . exact .inl e
    . rw [e]
      rcases chkFs_ok hΓ m d hrc r Fl _ k rfl λ f hf=>hn f (by simp [hf]) with e|⟨hB,e⟩
      . exact .inl e
      . rw [e]
        refine .inr ⟨λ ρ xs hx b w=>?_,rfl⟩
        obtain ⟨u,h1,h3⟩:=hv ρ xs hx
        have h4:=hb ρ u h1 b
        have h5:=hB ρ xs hx b w
        have hname:F.name≠"_":=hn F (by simp)
        simp only [ne_eq] at h5
        simp [hname,h3,h4]
        simpa using h5
theorem chkAr_ok {e : TypeId} {te : TI} (hte : TyOk P e te) (m : Bool) (d : Nat) {rc : TypeId → V → R → R} (hrc : ∀ t x (k : R), Out bad (rc t x k) fun e => ChkOk P d t x ∧ e = k) (r : Rope) : ∀ (n i : Nat) (k : R),
    Out bad (chkAr bad m rc r e te n i k) λ e'=>(∀ ρ xs,RR ρ r xs→∀ b w,(do
      for j in List.range' i n do Instr.checkKey b d e (← part e xs.toArray (j*(← sizeOf e))):Sem Unit).run P w=.ok () w)∧e'=k
  | 0,i,k=>.inr ⟨λ ρ xs _ b w=>by simp,rfl⟩
  | n+1,i,k=>by
    show Out bad (partK bad m te r (Nat.mul i te.size) λ v=>rc e v (chkAr bad m rc r e te n (Nat.succ i) k)) _
    refine part1 hte m λ v hv=>?_
    rcases hrc e v (chkAr bad m rc r e te n (Nat.succ i) k) with e1|⟨hb,e1⟩
    . exact .inl e1
    . rw [e1]
      rcases chkAr_ok hte m d hrc r n (Nat.succ i) k with e2|⟨hB,e2⟩
      . exact .inl e2
      . rw [e2]
        refine .inr ⟨λ ρ xs hx b w=>?_,rfl⟩
        obtain ⟨u,h1,h3⟩:=hv ρ xs hx
        rw [show Nat.mul i te.size=i*te.size from rfl] at h3
        have h4:=hb ρ u h1 b
        have h5:=hB ρ xs hx b w
        simp [List.range'_succ,hte.run_size,h3,h4]
        simpa using h5
theorem chkV_ok {Γ : Ctx} (hΓ : ∀ t ti,Γ.ty.get t=some ti→TyOk P t ti) (m:Bool):∀ (f d:Nat),f<d→∀ t x (k:R),Out bad (chkV bad Γ m f t x k) λ e=>ChkOk P d t x∧e=k
  | 0,d,hf,t,x,k=>.inl rfl
  | f+1,d,hf,t,x,k=>by
    obtain ⟨d,rfl⟩:∃ d',d=d'+1:=⟨d-1,by omega⟩
    have ih:=chkV_ok hΓ m f d (by omega)
    unfold chkV
    refine (tyK_ok hΓ t _).out λ ti hti=>?_
    obtain ⟨u,hu,hd⟩:=hti.u
    split
    . rename_i a
      refine out_if λ ha=>.inr ⟨λ ρ x hx b w=>?_,rfl⟩
      rw [Instr.checkKey]
      unfold atomK at ha
      split at ha<;>first|(cases ha;done)|skip
      all_goals
        rename_i hk
        rw [hk] at hd
        cases u<;>simp only [descK] at hd<;>first|(cases hd;done)|skip
        rw [Sem.run_bind,und_run hu]
        rfl
    . rename_i r
      split
      . rename_i fs hfs
        refine out_if λ hfl=>?_
        rw [hfs] at hd
        obtain ⟨_,hnm⟩:=hti.flat hfl
        cases u<;>simp only [descK] at hd<;>first|(cases hd;done)|skip
        rename_i F
        rcases chkFs_ok hΓ m d ih r F.toList fs k (by simpa using hd) (hnm F hu) with e|⟨hb,e⟩
        . exact .inl e
        . rw [e]
          refine .inr ⟨λ ρ x hx b w=>?_,rfl⟩
          cases hx with
          | agg _ xs hx =>
            have h1:=hb ρ xs hx b w
            rw [Instr.checkKey]
            have hr:(underlying t).run P w=.ok (.struct F) w:=by simp [underlying,hu]
            rw [Sem.run_bind,hr]
            simp only [ne_eq] at h1
            simpa using h1
      . rename_i n e hne
        refine (tyK_ok hΓ e _).out λ te hte=>?_
        rw [hne] at hd
        cases u<;>simp only [descK,Bool.and_eq_true] at hd<;>first|(cases hd;done)|skip
        rename_i n' e'
        obtain ⟨hd1,hd2⟩:=hd
        have hd1:=Nat.eq_of_beq_eq_true hd1
        have hd2:=Nat.eq_of_beq_eq_true hd2
        subst hd1 hd2
        have fin : ∀ ρ u, VR ρ (.agg r) u → (∀ xs, RR ρ r xs → ∀ b w, (do
            for j in List.range' 0 n do Instr.checkKey b d e (← part e xs.toArray (j*(← sizeOf e))):Sem Unit).run P w=.ok () w)→∀ b w,(Instr.checkKey b (d+1) t u).run P w=.ok () w:=by
          intro ρ u hu' hb b w
          cases hu' with
          | agg _ xs hx =>
            have h1:=hb xs hx b w
            rw [Instr.checkKey]
            have hr:(underlying t).run P w=.ok (.array n e) w:=by simp [underlying,hu]
            rw [Sem.run_bind,hr]
            simp [Std.Legacy.Range.forIn_eq_forIn_range',Std.Legacy.Range.size]
            simpa using h1
        cases hi:isIntK te.k with
        | false =>
          rw [cond_false]
          rcases chkAr_ok hte m d ih r n 0 k with e1|⟨hb,e1⟩
          . exact .inl e1
          . rw [e1];exact .inr ⟨λ ρ u hu'=>fin ρ u hu' λ xs hx b w=>hb ρ xs hx b w,rfl⟩
        | true =>
          rw [cond_true]
          refine out_if λ hl=>.inr ⟨λ ρ u hu'=>fin ρ u hu' λ xs hx b w=>?_,rfl⟩
          have hl:=Nat.eq_of_beq_eq_true hl
          have hlen:=hx.len
          rw [hl] at hlen
          cases hte':te.k with
          | int kd =>
            have hagg:te.agg=false:=by rw [← hte.agg,hte'];rfl
            have hs1:=hte.one hagg
            obtain ⟨u',hu2,hd2⟩:=hte.u
            rw [hte'] at hd2
            cases d with
            | zero=>omega
            | succ d =>
              have hlr:∀ i∈List.range' 0 n 1,i<n:=λ i hi=>by simpa using (List.mem_range'_1.1 hi).2
              generalize List.range' 0 n 1=l at hlr ⊢
              induction l with
              | nil=>simp
              | cons i l ihl =>
                have hi:i<xs.length:=by rw [← hlen];exact hlr i (by simp)
                have px:(part e xs.toArray (i*te.size)).run P w=.ok xs[i] w:=by
                  refine run_part hte w (.inr ⟨hagg,?_⟩)
                  rw [hs1,Nat.mul_one];exact List.getElem?_eq_getElem hi
                have pe:(Instr.checkKey b (d+1) e xs[i]).run P w=.ok () w:=by
                  cases u'<;>simp only [descK] at hd2<;>first|(cases hd2;done)|skip
                  rw [Instr.checkKey]
                  rw [Sem.run_bind,und_run hu2]
                  rfl
                have ihl:=ihl λ j hj=>hlr j (by simp [hj])
                simp only [List.forIn_cons,Sem.run_bind,hte.run_size,px,pe,Result.andThen_ok] at ihl ⊢
                simpa using ihl
          | _=>rw [hte'] at hi;cases hi
      . exact .inl rfl
    . exact .inl rfl
theorem run_sameNow {kind:TypeDesc} {t:TypeId} (hu:P.underlying t=some kind) {x y:Value} {b:Bool} (h:Instr.sameNow kind x y=some b) (w:World):(Op.equal t x y).run P w=.ok b w:=by
  unfold Instr.sameNow at h
  split at h
  . rename_i kt k a k' c
    split at h
    . rename_i hk
      subst hk
      cases h
      show (Op.equalIn (9999+1) t _ _).run P w=_
      rw [Op.equalIn]
      simp [underlying,hu]
    . cases h
  . cases h
    show (Op.equalIn (9999+1) t _ _).run P w=_
    rw [Op.equalIn]
    simp [underlying,hu]
  . cases h
    show (Op.equalIn (9999+1) t _ _).run P w=_
    rw [Op.equalIn]
    simp [underlying,hu]
  . cases h
theorem run_findNow {kind:TypeDesc} {t:TypeId} (hu:P.underlying t=some kind) (x:Value) (w:World):∀ (L:List MapEntry) (i:Nat) (r:Option (Nat×Value)),Instr.findNow kind x L i=some r→(Instr.findAsking t x L i).run P w=.ok r w
  | [],i,r,h=>by cases h;rfl
  | e::L,i,r,h=>by
    unfold Instr.findNow at h
    split at h
    . rename_i hs
      cases h
      simp [Instr.findAsking,run_sameNow hu hs w]
    . rename_i hs
      simp [Instr.findAsking,run_sameNow hu hs w,run_findNow hu x w L (i+1) r h]
    . cases h
theorem run_findKey {t:TypeId} {x:Value} {L:List MapEntry} {r:Option (Nat×Value)} {kind:TypeDesc} (hu:P.underlying t=some kind) {w:World} (h:(Instr.findAsking t x L 0).run P w=.ok r w):(Instr.findKey t x L).run P w=.ok r w:=by
  have hr:(underlying t).run P w=.ok kind w:=by simp [underlying,hu]
  unfold Instr.findKey
  rw [Sem.run_bind,hr]
  show Sem.run P (match Instr.findNow kind x L 0 with|some r=>pure r|none=>Instr.findAsking t x L) w=_
  cases hf:Instr.findNow kind x L 0 with
  | none=>exact h
  | some r' =>
    have:=run_findNow hu x w L 0 r' hf
    rw [h] at this
    cases this
    rfl
def Found (P:Program) (t:TypeId) (key:V) (es:List (V×V×Nat)) (j:Nat) (q v:V) (n:Nat):Prop :=
  es[j]? = some (q,v,n)∧∀ ρ u L,VR ρ key u→ML ρ es L→∃ e,L[j]? = some e∧VR ρ q e.key∧VR ρ v e.val∧e.born=n∧∀ w i,(Instr.findAsking t u L i).run P w=.ok (some (i+j,e.val)) w
def NotFound (P:Program) (t:TypeId) (key:V) (es:List (V×V×Nat)):Prop:=∀ ρ u L,VR ρ key u→ML ρ es L→∀ w i,(Instr.findAsking t u L i).run P w=.ok none w
theorem findK_ok {Γ : Ctx} (hΓ : ∀ t ti, Γ.ty.get t = some ti → TyOk P t ti) (m : Bool) (t : TypeId) (key : V) : ∀ (es : List (V × V × Nat)) (i : Nat) (yes : Nat → V → V → Nat → R) (no : R),
    Out bad (findK bad Γ m t key es i yes no) λ e=>(∃ j q v n,Found P t key es j q v n∧e=yes (i+j) q v n)∨(NotFound P t key es∧e=no)
  | [],i,yes,no=>.inr (.inr ⟨λ ρ u L hu hL w i=>by cases hL;rfl,rfl⟩)
  | (q,v,n)::es,i,yes,no=>by
    unfold findK
    refine (eqV_ok hΓ m 100 10000 (by decide) t key q _).out λ b hb=>?_
    cases b with
    | true =>
      rw [cond_true]
      refine .inr (.inl ⟨0,q,v,n,⟨rfl,λ ρ u L hu hL=>?_⟩,rfl⟩)
      cases hL with
      | cons _ _ _ kk x _ L hq hv hL =>
        refine ⟨_,rfl,hq,hv,rfl,λ w i=>?_⟩
        have h1:(Op.equal t u kk).run P w=.ok true w:=hb ρ u kk hu hq w
        simp [Instr.findAsking,h1]
    | false =>
      rw [cond_false]
      have ih:=findK_ok hΓ m t key es (Nat.succ i) yes no
      rcases ih with e|⟨j,q',v',n',⟨h1,h2⟩,e⟩|⟨h1,e⟩
      . exact .inl e
      . rw [e]
        refine .inr (.inl ⟨j+1,q',v',n',⟨by simpa using h1,λ ρ u L hu hL=>?_⟩,by rw [show Nat.succ i+j=i+(j+1) by omega]⟩)
        cases hL with
        | cons _ _ _ kk x _ L hq hv hL =>
          obtain ⟨e,h3,h4,h5,h6,h7⟩:=h2 ρ u L hu hL
          refine ⟨e,by simpa using h3,h4,h5,h6,λ w i=>?_⟩
          have h8:(Op.equal t u kk).run P w=.ok false w:=hb ρ u kk hu hq w
          simp [Instr.findAsking,h8,h7]
          omega
      . rw [e]
        refine .inr (.inr ⟨λ ρ u L hu hL w i=>?_,rfl⟩)
        cases hL with
        | cons _ _ _ kk x _ L hq hv hL =>
          have h8:(Op.equal t u kk).run P w=.ok false w:=hb ρ u kk hu hq w
          simp [Instr.findAsking,h8,h1 ρ u L hu hL]
end
end Go.E
namespace Go.E
open Go Go.RowKit Go.V
variable [LoopTab] [Gl]
section
variable {R:Type} {bad:R} {P:Program} {fl fd:Nat} {env:En} {h:H} {nx:Nat} {o:Op} {k:V→H→Nat→R}
theorem sameA_ok {ρ : Plc} {a b:A} {x y:Value} (hs:sameA a b=true) (hx:AR ρ a x) (hy:AR ρ b y) (n:Nat):Instr.sameBits n x y=true:=by
  have two_both:∀ {p q:Bool},two p q=true→p=true∧q=true:=by intro p q h;cases p<;>simp_all [two]
  unfold sameA at hs
  split at hs
  . rename_i p q
    cases hx;cases hy
    cases n<;>cases p<;>cases q<;>simp_all [Instr.sameBits]
  . rename_i kd p kd' q
    obtain ⟨h1,h2⟩:=two_both hs
    have h1:=kn_inj h1
    have h2:=Nat.eq_of_beq_eq_true h2
    subst h1 h2
    cases hx;cases hy
    cases n<;>simp [Instr.sameBits]
  . rename_i n1 s m t
    obtain ⟨h1,h2⟩:=two_both hs
    have h1:=Nat.eq_of_beq_eq_true h1
    have h2:=Nat.eq_of_beq_eq_true h2
    subst h1 h2
    cases hx with
    | str x _ _ e1 e2=>cases hy with
      | str y _ _ e3 e4 =>
        have:x.data.toList=y.data.toList:=packB_inj (by simp;exact e1.trans e3.symm) (by rw [e2,e4])
        have:x=y:=by cases x;cases y;congr 1;exact Array.ext' this
        subst this
        have e0:(x==x)=true:=by
          have:(x==x)=(x.data==x.data):=by cases x;rfl
          rw [this];simp
        cases n<;>simpa [Instr.sameBits] using e0
  . cases hx;cases hy
    cases n<;>simp [Instr.sameBits]
  . rename_i b1 o1 c1 p1
    obtain ⟨h1,h2⟩:=two_both hs
    have h1:=Nat.eq_of_beq_eq_true h1
    have h2:=Nat.eq_of_beq_eq_true h2
    subst h1 h2
    cases hx with
    | ptr _ _ p e1=>cases hy with
      | ptr _ _ q e2 =>
        rw [e1] at e2
        cases e2
        cases n<;>simp [Instr.sameBits]
  . cases hs
theorem zip_all {f:Value→Value→Bool}:∀ {xs ys:List Value},xs.length=ys.length→(∀ (i:Nat) x y,xs[i]? = some x→ys[i]? = some y→f x y=true)→((xs.zip ys).all λ (x,y)=>f x y)=true
  | [],ys,_,_=>by simp
  | x::xs,[],hl,_=>by simp at hl
  | x::xs,y::ys,hl,h=>by
    simp only [List.zip_cons_cons,List.all_cons,Bool.and_eq_true]
    exact ⟨h 0 x y rfl rfl,zip_all (by simpa using hl) λ i x y h1 h2=>h (i+1) x y (by simpa using h1) (by simpa using h2)⟩
theorem sameR_at:∀ {c o:Nat} {r s:Rope},sameR c o r s=true→∀ i,o≤i→i<o+c→∃ a b,r.get i=some a∧s.get i=some b∧sameA a b=true
  | 0,o,r,s,_,i,h1,h2=>by omega
  | c+1,o,r,s,h,i,h1,h2=>by
    unfold sameR at h
    split at h
    . rename_i a b ha hb
      cases hs:sameA a b with
      | false=>rw [hs] at h;cases h
      | true =>
        rw [hs,cond_true] at h
        by_cases he:i=o
        . subst he;exact ⟨a,b,ha,hb,hs⟩
        . exact sameR_at h i (by show o+1≤i;omega) (by show i<o+1+c;omega)
    . cases h
theorem sameK_ok {ρ : Plc} {q key:V} {x y:Value} (hs:sameK q key=true) (hx:VR ρ q x) (hy:VR ρ key y):Instr.sameBits 10000 x y=true:=by
  have two_both:∀ {p q:Bool},two p q=true→p=true∧q=true:=by intro p q h;cases p<;>simp_all [two]
  unfold sameK at hs
  split at hs
  . exact sameA_ok hs hx.atom hy.atom _
  . rename_i r s
    cases hx with
    | agg _ xs hx=>cases hy with
      | agg _ ys hy =>
        have fin:xs.length=ys.length→(∀ (i:Nat) x y,xs[i]? = some x→ys[i]? = some y→Instr.sameBits 9999 x y=true)→Instr.sameBits (9999+1) (.agg xs.toArray) (.agg ys.toArray)=true:=by
          intro hl h
          rw [Instr.sameBits]
          simp only [Bool.and_eq_true]
          exact ⟨by simpa using hl,zip_all hl h⟩
        split at hs
        . rename_i n p m q h1 h2
          obtain ⟨e1,e2⟩:=two_both hs
          have e1:=Nat.eq_of_beq_eq_true e1
          have e2:=Nat.eq_of_beq_eq_true e2
          subst e1 e2
          obtain ⟨rfl,_⟩:=rope_bytes hx h1
          obtain ⟨rfl,_⟩:=rope_bytes hy h2
          refine fin rfl λ i x y h3 h4=>?_
          rw [h3] at h4
          cases h4
          have hi:i<n:=by
            rcases Nat.lt_or_ge i n with h|h
            . exact h
            . rw [List.getElem?_eq_none (by rw [length_bcells];exact h)] at h3;cases h3
          rw [bcells_get hi] at h3
          cases h3
          simp [Instr.sameBits]
        . obtain ⟨e1,e2⟩:=two_both hs
          have e1:=Nat.eq_of_beq_eq_true e1
          rw [hx.len,hy.len] at e1
          refine fin e1 λ i x y h3 h4=>?_
          have hi:i<xs.length:=by
            rcases Nat.lt_or_ge i xs.length with h|h
            . exact h
            . rw [List.getElem?_eq_none h] at h3;cases h3
          obtain ⟨a,b,h5,h6,h7⟩:=sameR_at e2 i (Nat.zero_le _) (by rw [hx.len];omega)
          obtain ⟨x',h8,h9⟩:=hx.get h5
          obtain ⟨y',h10,h11⟩:=hy.get h6
          rw [h3] at h8
          rw [h4] at h10
          cases h8;cases h10
          exact sameA_ok h7 h9 h11 _
  . cases hs
theorem zeroVK_ok {t:TypeId} {te:TI} (hT:TyOk P t te) (k:V→R):Ok1 bad (zeroVK bad te k) k λ z=>∀ ρ w,∃ x,(zeroValue t).run P w=.ok x w∧VR ρ z x:=by
  unfold zeroVK
  cases ha:te.agg with
  | true =>
    rw [cond_true]
    refine .inr ⟨_,λ ρ w=>?_,rfl⟩
    obtain ⟨z,h1,h2,h3,h4⟩:=hT.run_zero w
    refine ⟨z,h1,?_⟩
    rw [ha] at h2
    cases z with
    | agg cs=>exact .agg _ cs.toList (h4 ρ)
    | _=>cases h2
  | false =>
    rw [cond_false]
    split
    . rename_i a hg
      refine .inr ⟨_,λ ρ w=>?_,rfl⟩
      obtain ⟨z,h1,h2,h3,h4⟩:=hT.run_zero w
      refine ⟨z,h1,.at _ _ ?_⟩
      rw [ha] at h2
      obtain ⟨x,h5,h6⟩:=(h4 ρ).get hg
      have:z.cells = #[z]:=by cases z<;>first|rfl|cases h2
      rw [this] at h5
      cases h5
      exact h6
    . exact .inl rfl
theorem TyOk.mp {t a b:TypeId} {ti:TI} (h:TyOk P t ti) (hk:ti.k=.mp a b):P.underlying t=some (.map a b):=by
  obtain ⟨u,hu,hd⟩:=h.u
  rw [hk] at hd
  cases u<;>simp only [descK,Bool.and_eq_true] at hd<;>first|(cases hd;done)|skip
  obtain ⟨h1,h2⟩:=hd
  have h1:=Nat.eq_of_beq_eq_true h1
  have h2:=Nat.eq_of_beq_eq_true h2
  subst h1 h2
  exact hu
theorem mtyK_ok {Γ : Ctx} (hΓ : ∀ t ti,Γ.ty.get t=some ti→TyOk P t ti) (t:TypeId) {k:TypeId→TI→R} {S:R→Prop} (hk:∀ a b tb,P.underlying t=some (.map a b)→(∃ ka,P.underlying a=some ka)→TyOk P b tb→Out bad (k a tb) S):Out bad (mtyK bad Γ t k) S:=by
  unfold mtyK
  refine (tyK_ok hΓ t _).out λ ti hti=>?_
  split
  . rename_i a b hab
    exact (tyK_ok hΓ a _).out λ ta hta=>(tyK_ok hΓ b _).out λ tb htb=>hk a b tb (hti.mp hab) (hta.u.imp λ _ h=>h.1) htb
  . exact .inl rfl
theorem mapK_ok {b:Nat} {k:List (V×V×Nat)→Nat→R}:mapK bad h b k=bad∨∃ es c,h.get b=some (.map es c)∧mapK bad h b k=k es c:=by
  unfold mapK
  split
  . rename_i es c hh;exact .inr ⟨es,c,hh,rfl⟩
  . exact .inl rfl
theorem Rel.map {ρ : Plc} {g:Hp} {w:World} {nx b:Nat} {es:List (V×V×Nat)} {c:Nat} {p:Pl} (hr:Rel ρ g nx w) (hb:g b=some (.map es c)) (hp : ρ b=some p):∃ L:List MapEntry,w.heap[p.blk]? = some (.map L.toArray c)∧ML ρ es L:=by
  obtain ⟨q,hq,hh⟩:=hr.blk b _ hb
  rw [hp] at hq
  cases hq
  exact hh
theorem run_getObj {w:World} {r:Nat} {L:Array MapEntry} {c:Nat} (hh:w.heap[r]? = some (.map L c)):(getObj r).run P w=.ok (.map L c) w:=by
  unfold getObj
  simp only [Sem.run]
  rw [hh]
theorem run_setObj {w:World} {r:Nat} {L:Array MapEntry} {c:Nat} (o:Obj) (hh:w.heap[r]? = some (.map L c)):∃ w',(setObj r o).run P w=.ok () w'∧Upd r w w'∧w'.heap[r]? = some o:=by
  refine ⟨{ w with heap:=w.heap.setIfInBounds r o },?_,⟨rfl,rfl,rfl,by simp,λ k hk=>?_⟩,?_⟩
  . unfold setObj
    simp only [Sem.run]
    rw [hh]
  . simp [Array.getElem?_setIfInBounds,hk.symm]
  . have hlt:=(Array.getElem?_eq_some_iff.1 hh).1
    simp [Array.getElem?_setIfInBounds,hlt]
theorem stp_map {ρ : Plc} {g g' : Hp} {nx : Nat} {w w' : World} (hr : Rel ρ g nx w) {b : Nat} {p : Pl} {es es' : List (V × V × Nat)} {c c' : Nat} {L' : List MapEntry} (hb : g b = some (.map es c)) (hp : ρ b = some p) (hfl : fl ≤ b) (hL : ML ρ es' L')
    (hw:w'.heap[p.blk]? = some (.map L'.toArray c')) (hu:Upd p.blk w w') (hg:∀ j,g' j=if j=b then some (.map es' c') else g j):Stp fl fd ρ g nx w ρ g' nx w' :=
  stp_setB (B1:=.map es' c') hr hb hp hfl (show ∃ L:List MapEntry,some (Obj.map L'.toArray c')=some (.map L.toArray c')∧ML ρ es' L from ⟨L',rfl,hL⟩) (λ ⟨r,hr'⟩=>by
    obtain ⟨q,hq,L0,h9,_⟩:=hr.blk b _ hb
    rw [hp] at hq
    cases hq
    rw [hr'] at h9
    cases h9) hw hu hg
theorem ML.set {ρ : Plc} {es:List (V×V×Nat)} {L:List MapEntry} (h:ML ρ es L):∀ {j:Nat} {q v:V} {n:Nat} {kk x:Value},VR ρ q kk→VR ρ v x→ML ρ (es.set j (q,v,n)) (L.set j ⟨kk,x,n⟩):=by
  induction h with
  | nil=>intro j q v n kk x _ _;exact .nil
  | cons q v n kk x es L hq hv hL ih =>
    intro j q' v' n' kk' x' h1 h2
    cases j with
    | zero=>exact .cons _ _ _ _ _ _ _ h1 h2 hL
    | succ j=>exact .cons _ _ _ _ _ _ _ hq hv (ih h1 h2)
theorem ML.push {ρ : Plc} {es:List (V×V×Nat)} {L:List MapEntry} (h:ML ρ es L) {q v:V} {n:Nat} {kk x:Value} (h1:VR ρ q kk) (h2:VR ρ v x):ML ρ (es++[(q,v,n)]) (L++[⟨kk,x,n⟩]):=by
  induction h with
  | nil=>exact .cons _ _ _ _ _ _ _ h1 h2 .nil
  | cons q v n kk x es L hq hv hL ih=>exact .cons _ _ _ _ _ _ _ hq hv ih
theorem ML.emp {ρ : Plc} {es:List (V×V×Nat)} {L:List MapEntry} (h:ML ρ es L):es.length=L.length:=by
  induction h with
  | nil=>rfl
  | cons _ _ _ _ _ _ _ _ _ _ ih=>simp [ih]
theorem makeMap_ok {Γ : Ctx} (hΓ : ∀ t ti, Γ.ty.get t = some ti → TyOk P t ti) (m : Bool) (t : TypeId) (r : Option Operand) :
    Out bad (tyK bad Γ t λ ti=>match ti.k with
      | .mp _ _=>(match r with
        | none=>newK bad m h nx (.map [] 0) λ h nx'=>k (.at (.map nx)) h nx'
        | some x=>eA bad m env x λ a=>idxK bad a λ _=>newK bad m h nx (.map [] 0) λ h nx'=>k (.at (.map nx)) h nx')
      | _=>bad) (OutO P fl fd env h nx (.makeMap t r) k):=by
  refine (tyK_ok hΓ t _).out λ ti hti=>?_
  split
  . rename_i a b hab
    have hu:=hti.mp hab
    have fin : (∀ ρ n act, EnvOk ρ n env act → ∀ w, (Instr.makeMap t (r.map act.eval)).run P w = .ok (.map (some w.heap.size)) { w with heap := w.heap.push (.map #[] 0) }) →
        Out bad (newK bad m h nx (.map [] 0) λ h nx'=>k (.at (.map nx)) h nx') (OutO P fl fd env h nx (.makeMap t r) k):=by
      intro hrun
      rcases newK_ok (bad:=bad) (h:=h) (nx:=nx) m (.map [] 0) (λ h nx'=>k (.at (.map nx)) h nx') with e|⟨h',nx',⟨rfl,hg⟩,e⟩
      . exact .inl e
      . rw [e]
        refine .inr ⟨_,h',nx+1,λ ρ n act w he hr d ty pos aft g=>?_,rfl⟩
        have h1:=hrun ρ n act he w
        have h2:(execOp act.eval ⟨d,.makeMap t r,ty,pos,aft,g⟩).run P w=.ok (.value (.map (some w.heap.size))) { w with heap:=w.heap.push (.map #[] 0) }:=by
          simp [execOp,h1]
        rw [h2]
        have hst:=stp_newB (fl:=fl) (fd:=fd) (w':={ w with heap:=w.heap.push (.map #[] 0) }) hr (ob:=.map #[] 0) (sz:=0) (B0:=.map [] 0) (λ ρ' _=>show ∃ L:List MapEntry,some (Obj.map #[] 0)=some (.map L.toArray 0)∧ML ρ' [] L from ⟨[],rfl,.nil⟩) rfl rfl rfl rfl hg
        exact ⟨_,.at _ _ (.map nx ⟨w.heap.size,0,0⟩ (by simp)),hst⟩
    cases r with
    | none =>
      refine fin λ ρ n act he w=>?_
      simp [Instr.makeMap]
    | some x =>
      refine (eA_ok m env x _).out λ a ha=>(idxK_ok a _).out λ i hi=>fin λ ρ n act he w=>?_
      obtain ⟨kd,hx⟩:=hi ρ _ (ha ρ n act he)
      simp [Instr.makeMap,und_run hu,hx,asInt,asIntOf]
  . exact .inl rfl
theorem lookK_ok {Γ : Ctx} (hΓ : ∀ t ti, Γ.ty.get t = some ti → TyOk P t ti) (m : Bool) (t : TypeId) (a : A) (key : V) (ok : Bool) {h : H} {k : V → R} :
    Ok1 bad (lookK bad Γ m h t a key ok k) k λ v=>∀ ρ nx w xv iv,AR ρ a xv→VR ρ key iv→Rel ρ h.get nx w→∃ y,(Instr.lookup t xv iv ok).run P w=.ok y w∧VR ρ v y:=by
  unfold lookK
  show Out bad _ λ e=>∃ v,(∀ ρ nx w xv iv,AR ρ a xv→VR ρ key iv→Rel ρ h.get nx w→∃ y,(Instr.lookup t xv iv ok).run P w=.ok y w∧VR ρ v y)∧e=k v
  refine mtyK_ok hΓ t λ ta tb tbi hu ⟨ka,hka⟩ htb=>?_
  have out : ∀ (v : V) (b : Bool), (∀ ρ nx w xv iv, AR ρ a xv → VR ρ key iv → Rel ρ h.get nx w → ∃ y, (Instr.lookup t xv iv ok).run P w = .ok (if ok then .tuple #[y, .bool b] else y) w ∧ VR ρ v y) →
      Out bad ((bif ok then k (.tup [v,.at (.bool b)]) else k v)) λ e=>∃ v,(∀ ρ nx w xv iv,AR ρ a xv→VR ρ key iv→Rel ρ h.get nx w→∃ y,(Instr.lookup t xv iv ok).run P w=.ok y w∧VR ρ v y)∧e=k v:=by
    intro v b hrun
    cases ok with
    | false=>exact .inr ⟨v,λ ρ nx w xv iv hx hi hr=>hrun ρ nx w xv iv hx hi hr,rfl⟩
    | true =>
      refine .inr ⟨.tup [v,.at (.bool b)],λ ρ nx w xv iv hx hi hr=>?_,rfl⟩
      obtain ⟨y,h1,h2⟩:=hrun ρ nx w xv iv hx hi hr
      refine ⟨_,h1,VR.tup [v,.at (.bool b)] [y,.bool b] rfl λ j v' x' hj hx=>?_⟩
      match j with
      | 0=>cases hj;cases hx;exact h2
      | 1=>cases hj;cases hx;exact .at _ _ (.bool _)
      | j+2=>cases hj
  split
  . rcases chkV_ok (bad:=bad) hΓ m 100 10000 (by decide) ta key _ with e|⟨hck,e⟩
    . exact .inl e
    . rw [e]
      refine (zeroVK_ok htb _).out λ z hz=>out z false λ ρ nx w xv iv hx hi hr=>?_
      obtain ⟨y,h1,h2⟩:=hz ρ w
      refine ⟨y,?_,h2⟩
      have h3:xv=.map none:=by cases hx;rfl
      have h4:=hck ρ _ hi
      have h5:(Instr.findKey ta iv []).run P w=.ok none w:=run_findKey hka rfl
      cases ok<;>simp [Instr.lookup,und_run hu,h3,h4,h5,h1]
  . rename_i r
    rcases mapK_ok (bad:=bad) (h:=h) (b:=r) with e|⟨es,c,hh,e⟩
    . exact .inl e
    . rw [e]
      rcases chkV_ok (bad:=bad) hΓ m 100 10000 (by decide) ta key _ with e|⟨hck,e⟩
      . exact .inl e
      . rw [e]
        rcases findK_ok (bad:=bad) hΓ m ta key es 0 _ _ with e|⟨j,q,v,s,hf,e⟩|⟨hf,e⟩
        . exact .inl e
        . rw [e]
          refine out v true λ ρ nx w xv iv h3 hi hr=>?_
          cases h3 with
          | map _ p hp =>
            obtain ⟨L,h5,h6⟩:=hr.map hh hp
            obtain ⟨en,g1,g2,g3,g4,g5⟩:=hf.2 ρ _ L hi h6
            refine ⟨en.val,?_,g3⟩
            have h4:=hck ρ _ hi
            have h7:=run_getObj (P:=P) h5
            have h8:(Instr.findKey ta iv L).run P w=.ok (some (0+j,en.val)) w:=run_findKey hka (g5 w 0)
            cases ok<;>simp [Instr.lookup,und_run hu,h4,h7,h8]
        . rw [e]
          refine (zeroVK_ok htb _).out λ z hz=>out z false λ ρ nx w xv iv h3 hi hr=>?_
          obtain ⟨y,h1,h2⟩:=hz ρ w
          refine ⟨y,?_,h2⟩
          cases h3 with
          | map _ p hp =>
            obtain ⟨L,h5,h6⟩:=hr.map hh hp
            have g5:=hf ρ _ L hi h6
            have h4:=hck ρ _ hi
            have h7:=run_getObj (P:=P) h5
            have h8:(Instr.findKey ta iv L).run P w=.ok none w:=run_findKey hka (g5 w 0)
            cases ok<;>simp [Instr.lookup,und_run hu,h4,h7,h8,h1]
  . exact .inl rfl
theorem lookup_ok {Γ : Ctx} (hΓ : ∀ t ti, Γ.ty.get t = some ti → TyOk P t ti) (m : Bool) (t : TypeId) (x i : Operand) (ok : Bool) :
    Out bad (eA bad m env x λ a=>eO bad m env i λ key=>lookK bad Γ m h t a key ok λ v=>k v h nx) (OutO P fl fd env h nx (.lookup t x i ok) k):=by
  refine (eA_ok m env x _).out λ a ha=>(eO_ok m env i _).out λ key hkey=>(lookK_ok hΓ m t a key ok).out λ v hv=>.inr ⟨v,h,nx,λ ρ n act w he hr d ty pos aft g=>?_,rfl⟩
  obtain ⟨y,h1,h2⟩:=hv ρ nx w _ _ (ha ρ n act he) (hkey ρ n act he) hr
  have h3:(execOp act.eval ⟨d,.lookup t x i ok,ty,pos,aft,g⟩).run P w=.ok (.value y) w:=by simp [execOp,h1]
  rw [h3]
  exact ⟨ρ,h2,Stp.refl hr⟩
theorem keyStays {ρ : Plc} {q key:V} {x y:Value} (hs:sameK q key=true) (hx:VR ρ q x) (hy:VR ρ key y) (w:World):(Instr.keyThatStays x y).run P w=.ok y w:=by
  unfold Instr.keyThatStays
  rw [if_pos (sameK_ok hs hx hy)]
  rfl
theorem list_modify {L:List MapEntry} {j:Nat} {e:MapEntry} (hj:L[j]? = some e) (f:MapEntry→MapEntry):L.modify j f=L.set j (f e):=by
  apply List.ext_getElem?
  intro i
  obtain ⟨hlt,hje⟩:=List.getElem?_eq_some_iff.1 hj
  simp only [List.getElem?_modify,List.getElem?_set]
  by_cases h:j=i
  . subst h;simp [hlt,hje]
  . simp [h]
theorem mapSet_ok {Γ : Ctx} (hΓ : ∀ t ti, Γ.ty.get t = some ti → TyOk P t ti) (m : Bool) (t : TypeId) (x i y : Operand) (hop : o = .mapUpdate t x i y ∨ o = .insert t x i y) :
    Out bad (eA bad m env x λ a=>eO bad m env i λ key=>eO bad m env y λ v=>mapSetK bad Γ m fl h t a key v λ h=>k .undef h nx) (OutO P fl fd env h nx o k):=by
  refine (eA_ok m env x _).out λ a ha=>(eO_ok m env i _).out λ key hkey=>(eO_ok m env y _).out λ v hv=>?_
  have hex:∀ (act:Act) (d:Option Tmp) ty pos aft g w w',(Instr.mapUpdate t (act.eval x) (act.eval i) (act.eval y)).run P w=.ok () w'→(execOp act.eval ⟨d,o,ty,pos,aft,g⟩).run P w=.ok .skip w':=by
    intro act d ty pos aft g w w' h1
    rcases hop with rfl|rfl<;>simp [execOp,h1]
  unfold mapSetK
  refine mtyK_ok hΓ t λ ta tb tbi hu ⟨ka,hka⟩ htb=>?_
  split
  . rename_i r
    refine out_if λ hfl=>?_
    have hfl:fl≤r:=Nat.le_of_ble_eq_true hfl
    rcases mapK_ok (bad:=bad) (h:=h) (b:=r) with e|⟨es,c,hh,e⟩
    . exact .inl e
    . rw [e]
      rcases chkV_ok (bad:=bad) hΓ m 100 10000 (by decide) ta key _ with e|⟨hck,e⟩
      . exact .inl e
      . rw [e]
        rcases findK_ok (bad:=bad) hΓ m ta key es 0 _ _ with e|⟨j,q,v0,s,hf,e⟩|⟨hf,e⟩
        . exact .inl e
        . rw [e]
          refine out_if λ hs=>?_
          rcases setK_ok (bad:=bad) (h:=h) r (.map (es.set (0+j) (key,v,s)) c) (λ h=>k .undef h nx) with e|⟨h',hg,e⟩
          . exact .inl e
          . rw [e]
            refine .inr ⟨_,h',nx,λ ρ n act w he hr d ty pos aft g=>?_,rfl⟩
            have h3:=ha ρ n act he
            have hx':=hex act d ty pos aft g w
            generalize act.eval x=xv at h3 hx'
            cases h3 with
            | map _ p hp =>
              obtain ⟨L,h5,h6⟩:=hr.map hh hp
              obtain ⟨en,g1,g2,g3,g4,g5⟩:=hf.2 ρ _ L (hkey ρ n act he) h6
              have h4:=hck ρ _ (hkey ρ n act he)
              have h7:=run_getObj (P:=P) h5
              have h8:(Instr.findKey ta (act.eval i) L).run P w=.ok (some (0+j,en.val)) w:=run_findKey hka (g5 w 0)
              have h9:=keyStays (P:=P) hs g2 (hkey ρ n act he) w
              rw [Nat.zero_add] at h8 hg
              obtain ⟨w',e1,e2,e3⟩:=run_setObj (P:=P) (.map (L.set j ⟨act.eval i,act.eval y,en.born⟩).toArray c) h5
              have e4:=list_modify g1 λ e=>{ e with key:=act.eval i,val:=act.eval y }
              have hrun:(Instr.mapUpdate t (.map (some p.blk)) (act.eval i) (act.eval y)).run P w=.ok () w':=by
                simp [Instr.mapUpdate,und_run hu,h7,h4,h8,g1,h9,e4,e1]
              rw [hx' w' hrun]
              have hML:ML ρ (es.set j (key,v,s)) (L.set j ⟨act.eval i,act.eval y,en.born⟩):=by
                rw [← g4];exact h6.set (hkey ρ n act he) (hv ρ n act he)
              exact ⟨ρ,.undef,stp_map hr hh hp hfl hML e3 e2 hg⟩
        . rw [e,natK_eq]
          rcases setK_ok (bad:=bad) (h:=h) r (.map (es++[(key,v,c)]) (Nat.succ c)) (λ h=>k .undef h nx) with e|⟨h',hg,e⟩
          . exact .inl e
          . rw [e]
            refine .inr ⟨_,h',nx,λ ρ n act w he hr d ty pos aft g=>?_,rfl⟩
            have h3:=ha ρ n act he
            have hx':=hex act d ty pos aft g w
            generalize act.eval x=xv at h3 hx'
            cases h3 with
            | map _ p hp =>
              obtain ⟨L,h5,h6⟩:=hr.map hh hp
              have g5:=hf ρ _ L (hkey ρ n act he) h6
              have h4:=hck ρ _ (hkey ρ n act he)
              have h7:=run_getObj (P:=P) h5
              have h8:(Instr.findKey ta (act.eval i) L).run P w=.ok none w:=run_findKey hka (g5 w 0)
              obtain ⟨w',e1,e2,e3⟩:=run_setObj (P:=P) (.map (L++[({ key:=act.eval i,val:=act.eval y,born:=c }:MapEntry)]).toArray (c+1)) h5
              have hrun:(Instr.mapUpdate t (.map (some p.blk)) (act.eval i) (act.eval y)).run P w=.ok () w':=by
                simp [Instr.mapUpdate,und_run hu,h7,h4,h8,e1]
              rw [hx' w' hrun]
              exact ⟨ρ,.undef,stp_map hr hh hp hfl (h6.push (hkey ρ n act he) (hv ρ n act he)) e3 e2 hg⟩
  . exact .inl rfl
theorem mapEntry_ok {Γ : Ctx} (hΓ : ∀ t ti, Γ.ty.get t = some ti → TyOk P t ti) (m : Bool) (t : TypeId) (x i : Operand) :
    Out bad (eA bad m env x λ a=>eO bad m env i λ key=>mapEntryK bad Γ m fl h t a key λ v h=>k v h nx) (OutO P fl fd env h nx (.mapEntry t x i) k):=by
  refine (eA_ok m env x _).out λ a ha=>(eO_ok m env i _).out λ key hkey=>?_
  unfold mapEntryK
  refine mtyK_ok hΓ t λ ta tb tbi hu ⟨ka,hka⟩ htb=>?_
  have two_both:∀ {p q:Bool},two p q=true→p=true∧q=true:=by intro p q h;cases p<;>simp_all [two]
  have pair:∀ {ρ : Plc} {v:V} {y:Value} {s:Nat},VR ρ v y→Nat.blt s 9223372036854775808=true→VR ρ (.tup [v,.at (.int .i64 s)]) (.tuple #[y,goInt (s:Int)]):=by
    intro ρ v y s h1 h2
    have h2:s<9223372036854775808:=Nat.le_of_ble_eq_true h2
    refine VR.tup [v,.at (.int .i64 s)] [y,goInt (s:Int)] rfl λ j v' x' hj hx=>?_
    match j with
    | 0=>cases hj;cases hx;exact h1
    | 1 =>
      cases hj;cases hx
      refine .at _ _ ?_
      have:=AR.int (ρ:=ρ) .i64 s (by simp only [md];omega)
      rwa [wrap_lo (k:=.i64) (by simp only [tp];omega)] at this
    | j+2=>cases hj
  split
  . rename_i r
    refine out_if λ hfl=>?_
    have hfl:fl≤r:=Nat.le_of_ble_eq_true hfl
    rcases mapK_ok (bad:=bad) (h:=h) (b:=r) with e|⟨es,c,hh,e⟩
    . exact .inl e
    . rw [e]
      rcases chkV_ok (bad:=bad) hΓ m 100 10000 (by decide) ta key _ with e|⟨hck,e⟩
      . exact .inl e
      . rw [e]
        rcases findK_ok (bad:=bad) hΓ m ta key es 0 _ _ with e|⟨j,q,v0,s,hf,e⟩|⟨hf,e⟩
        . exact .inl e
        . rw [e]
          refine out_if λ hs=>?_
          obtain ⟨hs,hs2⟩:=two_both hs
          rcases setK_ok (bad:=bad) (h:=h) r (.map (es.set (0+j) (key,v0,s)) c) (λ h=>k (.tup [v0,.at (.int .i64 s)]) h nx) with e|⟨h',hg,e⟩
          . exact .inl e
          . rw [e]
            refine .inr ⟨_,h',nx,λ ρ n act w he hr d ty pos aft g=>?_,rfl⟩
            have h3:=ha ρ n act he
            generalize hx:act.eval x=xv at h3
            cases h3 with
            | map _ p hp =>
              obtain ⟨L,h5,h6⟩:=hr.map hh hp
              obtain ⟨en,g1,g2,g3,g4,g5⟩:=hf.2 ρ _ L (hkey ρ n act he) h6
              have h4:=hck ρ _ (hkey ρ n act he)
              have h7:=run_getObj (P:=P) h5
              have h8:(Instr.findKey ta (act.eval i) L).run P w=.ok (some (0+j,en.val)) w:=run_findKey hka (g5 w 0)
              have h9:=keyStays (P:=P) hs g2 (hkey ρ n act he) w
              rw [Nat.zero_add] at h8 hg
              obtain ⟨w',e1,e2,e3⟩:=run_setObj (P:=P) (.map (L.set j ⟨act.eval i,en.val,en.born⟩).toArray c) h5
              have e4:=list_modify g1 λ e=>{ e with key:=act.eval i }
              have hrun:(execOp act.eval ⟨d,.mapEntry t x i,ty,pos,aft,g⟩).run P w=.ok (.value (.tuple #[en.val,goInt (en.born:Int)])) w':=by
                simp [execOp,Instr.mapEntry,und_run hu,hx,h7,h4,h8,g1,h9,e4,e1]
              rw [hrun]
              have hML:ML ρ (es.set j (key,v0,s)) (L.set j ⟨act.eval i,en.val,en.born⟩):=by
                rw [← g4];exact h6.set (hkey ρ n act he) g3
              refine ⟨ρ,?_,stp_map hr hh hp hfl hML e3 e2 hg⟩
              rw [g4];exact pair g3 hs2
        . rw [e]
          refine (zeroVK_ok htb _).out λ z hz=>out_if λ hs2=>?_
          rw [natK_eq]
          rcases setK_ok (bad:=bad) (h:=h) r (.map (es++[(key,z,c)]) (Nat.succ c)) (λ h=>k (.tup [z,.at (.int .i64 c)]) h nx) with e|⟨h',hg,e⟩
          . exact .inl e
          . rw [e]
            refine .inr ⟨_,h',nx,λ ρ n act w he hr d ty pos aft g=>?_,rfl⟩
            have h3:=ha ρ n act he
            generalize hx:act.eval x=xv at h3
            cases h3 with
            | map _ p hp =>
              obtain ⟨L,h5,h6⟩:=hr.map hh hp
              have g5:=hf ρ _ L (hkey ρ n act he) h6
              have h4:=hck ρ _ (hkey ρ n act he)
              have h7:=run_getObj (P:=P) h5
              have h8:(Instr.findKey ta (act.eval i) L).run P w=.ok none w:=run_findKey hka (g5 w 0)
              obtain ⟨zz,z1,z2⟩:=hz ρ w
              obtain ⟨w',e1,e2,e3⟩:=run_setObj (P:=P) (.map (L++[({ key:=act.eval i,val:=zz,born:=c }:MapEntry)]).toArray (c+1)) h5
              have hrun:(execOp act.eval ⟨d,.mapEntry t x i,ty,pos,aft,g⟩).run P w=.ok (.value (.tuple #[zz,goInt (c:Int)])) w':=by
                simp [execOp,Instr.mapEntry,und_run hu,hx,h7,h4,h8,z1,e1]
              rw [hrun]
              exact ⟨ρ,pair z2 hs2,stp_map hr hh hp hfl (h6.push (hkey ρ n act he) z2) e3 e2 hg⟩
  . exact .inl rfl
theorem stampK_ok {n:Nat}:∀ {es:List (V×V×Nat)} {j:Nat} {k:Nat→V→R},stampK bad n es j k=bad∨∃ i q v,es[i]? = some (q,v,n)∧(∀ i',i'<i→∀ q v s,es[i']? = some (q,v,s)→s≠n)∧stampK bad n es j k=k (j+i) q
  | [],j,k=>.inl rfl
  | (q,v,s)::es,j,k=>by
    unfold stampK
    cases hs:Nat.beq s n with
    | true =>
      have:=Nat.eq_of_beq_eq_true hs
      subst this
      exact .inr ⟨0,q,v,rfl,λ i' h=>by omega,rfl⟩
    | false =>
      rw [cond_false]
      rcases stampK_ok (n:=n) (es:=es) (j:=Nat.succ j) (k:=k) with e|⟨i,q',v',h1,h2,e⟩
      . exact .inl e
      . refine .inr ⟨i+1,q',v',by simpa using h1,λ i' hi q0 v0 s0 h=>?_,by rw [e];congr 1;omega⟩
        cases i' with
        | zero=>cases h;exact Nat.ne_of_beq_eq_false hs
        | succ i'=>exact h2 i' (by omega) q0 v0 s0 (by simpa using h)
theorem ML.at {ρ : Plc} {es:List (V×V×Nat)} {L:List MapEntry} (h:ML ρ es L):∀ {i:Nat} {q v:V} {n:Nat},es[i]? = some (q,v,n)→∃ e,L[i]? = some e∧VR ρ q e.key∧VR ρ v e.val∧e.born=n:=by
  induction h with
  | nil=>intro i q v n h;cases h
  | cons q v n kk x es L hq hv hL ih =>
    intro i q' v' n' h
    cases i with
    | zero=>cases h;exact ⟨_,rfl,hq,hv,rfl⟩
    | succ i=>simpa using ih (by simpa using h)
theorem findIdx_at {p:MapEntry→Bool}:∀ {L:List MapEntry} {i:Nat} {e:MapEntry},L[i]? = some e→p e=true→(∀ i',i'<i→∀ e',L[i']? = some e'→p e'=false)→L.findIdx? p=some i
  | [],i,e,h,_,_=>by cases h
  | x::L,0,e,h,hp,_=>by cases h;simp [List.findIdx?_cons,hp]
  | x::L,i+1,e,h,hp,hn=>by
    have h0:=hn 0 (by omega) x rfl
    have ih:=findIdx_at (L:=L) (i:=i) (by simpa using h) hp λ i' hi e' he=>hn (i'+1) (by omega) e' (by simpa using he)
    simp [List.findIdx?_cons,h0,ih]
theorem entryStore_ok (m : Bool) (t : TypeId) (x i y : Operand) :
    Out bad (eA bad m env x λ a=>eA bad m env i λ n=>eO bad m env y λ v=>entryStoreK bad fl h a n v λ h=>k .undef h nx) (OutO P fl fd env h nx (.entryStore t x i y) k):=by
  refine (eA_ok m env x _).out λ a ha=>(eA_ok m env i _).out λ st hst=>(eO_ok m env y _).out λ v hv=>?_
  unfold entryStoreK
  refine (idxK_ok st _).out λ s hs=>?_
  split
  . rename_i r
    refine out_if λ hfl=>?_
    have hfl:fl≤r:=Nat.le_of_ble_eq_true hfl
    rcases mapK_ok (bad:=bad) (h:=h) (b:=r) with e|⟨es,c,hh,e⟩
    . exact .inl e
    . rw [e]
      rcases stampK_ok (bad:=bad) (n:=s) (es:=es) (j:=0) with e|⟨j,q,v0,hj,hjn,e⟩
      . exact .inl e
      . rw [e]
        rcases setK_ok (bad:=bad) (h:=h) r (.map (es.set (0+j) (q,v,s)) c) (λ h=>k .undef h nx) with e|⟨h',hg,e⟩
        . exact .inl e
        . rw [e]
          refine .inr ⟨_,h',nx,λ ρ n act w he hr d ty pos aft g=>?_,rfl⟩
          have h3:=ha ρ n act he
          obtain ⟨kd,h4⟩:=hs ρ _ (hst ρ n act he)
          generalize hx:act.eval x=xv at h3
          cases h3 with
          | map _ p hp =>
            obtain ⟨L,h5,h6⟩:=hr.map hh hp
            obtain ⟨en,g1,g2,g3,g4⟩:=h6.at hj
            have h7:=run_getObj (P:=P) h5
            rw [Nat.zero_add] at hg
            have h8:L.toArray.findIdx? (λ e=>(e.born:Int)==(s:Int))=some j:=by
              rw [List.findIdx?_toArray]
              refine findIdx_at g1 (by simp [g4]) λ i' hi e' he'=>?_
              have hlt:i'<es.length:=by rw [h6.emp];exact (List.getElem?_eq_some_iff.1 he').1
              obtain ⟨e2,k1,_,_,k2⟩:=h6.at (List.getElem?_eq_getElem hlt)
              rw [he'] at k1
              cases k1
              have:=hjn i' hi _ _ _ (List.getElem?_eq_getElem hlt)
              simp
              omega
            obtain ⟨w',e1,e2,e3⟩:=run_setObj (P:=P) (.map (L.set j ⟨en.key,act.eval y,en.born⟩).toArray c) h5
            have e4:=list_modify g1 λ e=>{ e with val:=act.eval y }
            have hrun:(execOp act.eval ⟨d,.entryStore t x i y,ty,pos,aft,g⟩).run P w=.ok .skip w':=by
              simp [execOp,Instr.entryStore,hx,h7,h4,asInt,asIntOf,h8,e4,e1]
            rw [hrun]
            have hML:ML ρ (es.set j (q,v,s)) (L.set j ⟨en.key,act.eval y,en.born⟩):=by
              rw [← g4];exact h6.set g2 (hv ρ n act he)
            exact ⟨ρ,.undef,stp_map hr hh hp hfl hML e3 e2 hg⟩
  . exact .inl rfl
end
end Go.E
namespace Go.E
open Go Go.RowKit Go.V
variable [LoopTab] [Gl]
theorem atoms_ok {ρ : Plc} {r:Rope} {cs:List Value} (hr:RR ρ r cs):∀ (n i:Nat) (l:List A),r.atoms n i=some l→l.length=n∧∀ (j:Nat) (a:A) (v:Value),l[j]? = some a→cs[i+j]? = some v→AR ρ a v
  | 0,i,l,h=>by cases h;exact ⟨rfl,λ j a v h=>by simp at h⟩
  | n+1,i,l,h=>by
    unfold Rope.atoms at h
    split at h
    . rename_i a ha
      split at h
      . rename_i l' hl
        cases h
        obtain ⟨h1,h2⟩:=atoms_ok hr n (Nat.succ i) l' hl
        refine ⟨by simp [h1],λ j b v hj hv=>?_⟩
        cases j with
        | zero =>
          simp only [List.getElem?_cons_zero,Option.some.injEq] at hj
          subst hj
          obtain ⟨u,h3,h4⟩:=hr.get ha
          rw [Nat.add_zero,h3] at hv
          cases hv
          exact h4
        | succ j =>
          simp only [List.getElem?_cons_succ] at hj
          exact h2 j b v hj (by rw [show Nat.succ i+j=i+(j+1) by omega];exact hv)
      . cases h
    . cases h
section
variable {R:Type} {bad:R} {P:Program} {fl fd:Nat} {env:En} {h:H} {nx:Nat} {k:V→H→Nat→R}
theorem ropeL_ok (m:Bool):∀ (l:List A) (k:Rope→R),Ok1 bad (ropeL m l k) k λ r=>∀ ρ xs,l.length=xs.length→(∀ (i:Nat) (a:A) (v:Value),l[i]? = some a→xs[i]? = some v→AR ρ a v)→RR ρ r xs
  | [], k => .inr ⟨_, fun ρ xs hl _ => by
      have:xs=[]:=List.eq_nil_of_length_eq_zero hl.symm
      subst this
      have:=RR.bys (ρ:=ρ) 0 0 (by decide)
      simpa [bcells] using this,rfl⟩
  | a::l,k=>by
    unfold ropeL
    refine (ropeL_ok m l _).bind λ x hx=>?_
    obtain ⟨r,hk,hr⟩:=jn_ok m 1 (ofA a) x k
    rw [hk]
    refine .inr ⟨r,λ ρ xs hl hall=>?_,rfl⟩
    cases xs with
    | nil=>cases hl
    | cons v xs=>exact hr ρ [v] xs (ofA_ok (hall 0 a v rfl rfl)) (hx ρ xs (by simpa using hl) λ i b u h1 h2=>hall (i+1) b u (by simpa using h1) (by simpa using h2)) rfl
theorem ifV_ok (m g:Bool) (cs:List A) (k:V→R):Ok1 bad (ifV bad m g cs k) k λ v=>∀ t ρ x,AR ρ (.iface t g cs) x→∃ y,x=.iface t y∧VR ρ v y:=by
  unfold ifV
  cases g with
  | true =>
    rw [cond_true]
    rcases ropeL_ok (bad:=bad) m cs (λ r=>k (.agg r)) with e|⟨r,hr,e⟩
    . exact .inl e
    . refine .inr ⟨.agg r,λ t ρ x hx=>?_,e⟩
      cases hx with
      | ifaceA _ _ xs h1 h3=>exact ⟨_,rfl,.agg r xs (hr ρ xs h1 h3)⟩
  | false =>
    rw [cond_false]
    split
    . rename_i a
      refine .inr ⟨.at a,λ t ρ x hx=>?_,rfl⟩
      cases hx with
      | ifaceV _ _ v h=>exact ⟨v,rfl,.at _ _ h⟩
    . exact .inl rfl
theorem mtK_ok (s:String):∀ (l:List (String×FuncId)) (k:FuncId→R),Ok1 bad (mtK bad s l k) k λ q=>(s,q)∈l
  | [],k=>.inl rfl
  | (n,q)::l,k=>by
    unfold mtK
    cases hb:decide (n=s) with
    | true =>
      rw [cond_true]
      cases of_decide_eq_true hb
      exact .inr ⟨q,by simp,rfl⟩
    | false=>exact (mtK_ok s l k).mono λ q h=>List.mem_cons_of_mem _ h
theorem not_iface {Γ : Ctx} (hΓ : ∀ t ti,Γ.ty.get t=some ti→TyOk P t ti) {t:TypeId} {ti:TI} (ht : Γ.ty.get t=some ti):∃ u,P.underlying t=some u∧∀ ms,u≠.interface ms:=by
  obtain ⟨u,hu,hd⟩:=(hΓ t ti ht).u
  refine ⟨u,hu,λ ms e=>?_⟩
  subst e
  cases hk:ti.k<;>rw [hk] at hd<;>simp [descK] at hd
theorem makeIface_ok {Γ : Ctx} (hΓ : ∀ t ti, Γ.ty.get t = some ti → TyOk P t ti) (m : Bool) (t : TypeId) (x : Operand) : Out bad (tyK bad Γ t fun _ => eO bad m env x fun v => (match v with
    | .at a=>k (.at (.iface t false [a])) h nx
    | .agg r=>(match r.atoms r.len 0 with|some cs=>k (.at (.iface t true cs)) h nx|none=>bad)
    | _=>bad)) (OutO P fl fd env h nx (.makeInterface t x) k):=by
  unfold tyK
  split
  rotate_left
  . exact .inl rfl
  rename_i ti hti
  obtain ⟨u,hu,hn⟩:=not_iface hΓ hti
  have hrun:∀ (y:Value) (w:World),(Instr.makeInterface t y).run P w=.ok (.iface t y) w:=λ y w=>by
    cases u<;>first|exact absurd rfl (hn _)|simp [Instr.makeInterface,underlying,hu]
  refine (eO_ok m env x _).out λ v hv=>?_
  split
  . rename_i a
    refine PureOk.out λ ρ n act he w d ty pos aft g=>⟨_,by simp [execOp,hrun],.at _ _ (.ifaceV _ _ _ (hv ρ n act he).atom)⟩
  . rename_i r
    split
    . rename_i cs hcs
      refine PureOk.out λ ρ n act he w d ty pos aft g=>⟨.iface t (act.eval x),by simp [execOp,hrun],?_⟩
      have hx:=hv ρ n act he
      generalize act.eval x=z at hx
      cases hx with
      | agg _ xs hr =>
        obtain ⟨h1,h2⟩:=atoms_ok hr _ _ _ hcs
        exact .at _ _ (.ifaceA _ _ _ (by rw [h1,hr.len]) λ i a v h3 h4=>h2 i a v h3 (by rw [Nat.zero_add];exact h4))
    . exact .inl rfl
  . exact .inl rfl
theorem typeAssert_ok {Γ : Ctx} (hΓ : ∀ t ti, Γ.ty.get t = some ti → TyOk P t ti) (m : Bool) (x : Operand) (s0 t : TypeId) (ok : Bool) : Out bad (tyK bad Γ t fun ti => eA bad m env x fun a => (match a with
    | .iface s g cs=>bif Nat.beq s t then ifV bad m g cs (λ v=>bif ok then k (.tup [v,.at (.bool true)]) h nx else k v h nx) else (bif ok then zeroVK bad ti (λ z=>k (.tup [z,.at (.bool false)]) h nx) else bad)
    | .nilIface=>bif ok then zeroVK bad ti (λ z=>k (.tup [z,.at (.bool false)]) h nx) else bad
    | _=>bad)) (OutO P fl fd env h nx (.typeAssert x s0 t ok) k):=by
  unfold tyK
  split
  rotate_left
  . exact .inl rfl
  rename_i ti hti
  obtain ⟨u,hu,hn⟩:=not_iface hΓ hti
  have two2:∀ (ρ : Plc) (v:V) (y:Value) (b:Bool),VR ρ v y→VR ρ (.tup [v,.at (.bool b)]) (.tuple #[y,.bool b]):=λ ρ v y b hv =>
    .tup [v,.at (.bool b)] [y,.bool b] rfl λ i p q h1 h2=>by
      rcases i with _|_|i
      . simp at h1 h2;subst h1 h2;exact hv
      . simp at h1 h2;subst h1 h2;exact .at _ _ (.bool b)
      . simp at h1
  have fail:∀ a,(∀ ρ y,AR ρ a y→y=.nilIface∨∃ s v,y=.iface s v∧s≠t)→(∀ ρ n act,EnvOk ρ n env act→AR ρ a (act.eval x))→Out bad (bif ok then zeroVK bad ti (λ z=>k (.tup [z,.at (.bool false)]) h nx) else bad) (OutO P fl fd env h nx (.typeAssert x s0 t ok) k):=by
    intro a hy ha
    cases ok with
    | false=>exact .inl rfl
    | true =>
      rw [cond_true]
      refine (zeroVK_ok (hΓ t ti hti) _).out λ z hz=>PureOk.out λ ρ n act he w d ty pos aft g=>?_
      obtain ⟨y,h1,h2⟩:=hz ρ w
      refine ⟨.tuple #[y,.bool false],?_,two2 ρ z y false h2⟩
      rcases hy ρ _ (ha ρ n act he) with e|⟨s,v,e,hne⟩
      . cases u<;>first|exact absurd rfl (hn _)|simp [execOp,Instr.typeAssert,underlying,hu,e,h1]
      . cases u<;>first|exact absurd rfl (hn _)|simp [execOp,Instr.typeAssert,underlying,hu,e,h1,hne]
  refine (eA_ok m env x _).out λ a ha=>?_
  split
  . rename_i s g cs
    cases hb:Nat.beq s t with
    | true =>
      rw [cond_true]
      cases Nat.eq_of_beq_eq_true hb
      refine (ifV_ok m g cs _).out λ v hv=>?_
      cases ok with
      | true =>
        rw [cond_true]
        refine PureOk.out λ ρ n act he w d ty pos aft gd=>?_
        obtain ⟨y,e,h2⟩:=hv _ ρ _ (ha ρ n act he)
        refine ⟨.tuple #[y,.bool true],?_,two2 ρ v y true h2⟩
        cases u<;>first|exact absurd rfl (hn _)|simp [execOp,Instr.typeAssert,underlying,hu,e]
      | false =>
        rw [cond_false]
        refine PureOk.out λ ρ n act he w d ty pos aft gd=>?_
        obtain ⟨y,e,h2⟩:=hv _ ρ _ (ha ρ n act he)
        refine ⟨y,?_,h2⟩
        cases u<;>first|exact absurd rfl (hn _)|simp [execOp,Instr.typeAssert,underlying,hu,e]
    | false =>
      rw [cond_false]
      refine fail _ (λ ρ y hy=>.inr ?_) ha
      have hne:=Nat.ne_of_beq_eq_false hb
      cases hy with
      | ifaceV _ _ v _=>exact ⟨_,_,rfl,hne⟩
      | ifaceA _ _ xs _ _=>exact ⟨_,_,rfl,hne⟩
  . exact fail _ (λ ρ y hy=>.inl (by cases hy;rfl)) ha
  . exact .inl rfl
def MtOk (P:Program) (t:TypeId) (s:String) (q:FuncId):Prop:=∀ (fuel:Nat) (v:Value) (w:World),(method (fuel+1) t v s).run P w=.ok (q,v) w
theorem mtB_ok {t:TypeId} {s:String} {q:FuncId} (h:mtB P t s q=true):MtOk P t s q:=by
  intro fuel v w
  unfold mtB at h
  split at h
  rotate_left
  . cases h
  rename_i i u hi hu
  split at h
  rotate_left
  . cases h
  rename_i mm hm
  simp only [Bool.and_eq_true] at h
  obtain ⟨hp,h⟩:=h
  have hp':mm.path.toList=[]:=by simpa [Array.isEmpty_iff] using hp
  unfold method
  have e1:(typeInfo t).run P w=.ok i w:=by simp [typeInfo,hi]
  simp only [Sem.run_bind,e1,Result.andThen_ok,hm,hp',follow,Sem.run_pure,hp]
  split at h
  . rename_i f e hf
    cases Nat.eq_of_beq_eq_true h
    simp [hf,receiverAt,underlying,hu,Place.get]
  . cases h
  . rename_i u f hne hf _
    cases Nat.eq_of_beq_eq_true h
    cases u<;>first|(exact absurd rfl (hne _);done)|simp [hf,receiverAt,underlying,hu,Place.get]
  . cases h
end
end Go.E
namespace Go.E
open Go Go.RowKit Go.V
variable [LoopTab] [Gl]
section
variable {R:Type} {bad:R} {P:Program} {fl fd:Nat} {env:En} {h:H} {nx:Nat} {o:Op} {k:V→H→Nat→R}
theorem rangeM_ok {Γ : Ctx} (hΓ : ∀ t ti, Γ.ty.get t = some ti → TyOk P t ti) (m : Bool) (t : TypeId) (x : Operand) :
    Out bad (eA bad m env x λ a=>rangeK bad Γ m h nx t a k) (OutO P fl fd env h nx (.range t x) k):=by
  refine (eA_ok m env x _).out λ v hv=>?_
  unfold rangeK
  refine (tyK_ok hΓ t _).out λ ti hti=>?_
  split
  . rename_i ta tb hab
    have hu:=hti.mp hab
    split
    . rename_i r
      rcases mapK_ok (bad:=bad) (h:=h) (b:=r) with e|⟨es,c,hh,e⟩
      . exact .inl e
      . rw [e]
        rcases newK_ok (bad:=bad) (h:=h) (nx:=nx) m (.iter r c [] c) (λ h nx'=>k (.at (.ptr nx 0)) h nx') with e|⟨h',nx',⟨rfl,hg⟩,e⟩
        . exact .inl e
        . rw [e]
          refine .inr ⟨_,h',nx+1,λ ρ n act w he hr d ty pos aft g=>?_,rfl⟩
          have h3:=hv ρ n act he
          generalize hx:act.eval x=xv at h3
          cases h3 with
          | map _ p hp =>
            obtain ⟨L,h5,h6⟩:=hr.map hh hp
            have h7:=run_getObj (P:=P) h5
            have hrun:(execOp act.eval ⟨d,.range t x,ty,pos,aft,g⟩).run P w=.ok (.value (.pointer (some ⟨w.heap.size,0,none⟩))) { w with heap:=w.heap.push (.mapIter (some p.blk) c #[] c) }:=by
              simp [execOp,Instr.range,und_run hu,hx,h7]
            rw [hrun]
            have hst:=stp_newB (fl:=fl) (fd:=fd) (w':={ w with heap:=w.heap.push (.mapIter (some p.blk) c #[] c) }) hr (ob:=.mapIter (some p.blk) c #[] c) (sz:=0) (B0:=.iter r c [] c) (λ ρ' hρ=>⟨p,hρ _ _ hp,rfl,rfl⟩) rfl rfl rfl rfl hg
            refine ⟨_,.at _ _ ?_,hst⟩
            exact AR.ptr nx 0 ⟨w.heap.size,0,0⟩ (by simp)
    . exact .inl rfl
  . exact .inl rfl
theorem iterK_ok {b:Nat} {k:Nat→Nat→List Nat→Nat→R}:iterK bad h b k=bad∨∃ m s sn l,h.get b=some (.iter m s sn l)∧iterK bad h b k=k m s sn l:=by
  unfold iterK
  split
  . rename_i m s sn l hh;exact .inr ⟨m,s,sn,l,hh,rfl⟩
  . exact .inl rfl
theorem left_ml {ρ : Plc} {sn:List Nat} {es:List (V×V×Nat)} {L:List MapEntry} (h:ML ρ es L):ML ρ (leftL sn es) (L.filter λ e=>!sn.reverse.toArray.contains e.born):=by
  induction h with
  | nil=>exact .nil
  | cons q v n kk x es L hq hv hL ih =>
    unfold leftL
    rw [List.filter_cons]
    have e:sn.reverse.toArray.contains n=sn.any (Nat.beq n):=by
      rw [Bool.eq_iff_iff]
      simp only [List.contains_toArray,List.contains_reverse,List.any_eq_true,List.contains_iff_mem]
      exact ⟨λ hm=>⟨n,hm,Nat.beq_refl n⟩,λ ⟨y,h1,h2⟩=>Nat.eq_of_beq_eq_true h2▸h1⟩
    rw [show (!sn.reverse.toArray.contains (MapEntry.mk kk x n).born) = !sn.any (Nat.beq n) by rw [← e]]
    cases sn.any (Nat.beq n) with
    | true=>exact ih
    | false=>exact .cons _ _ _ _ _ _ _ hq hv ih
theorem ML.old {ρ : Plc} {s:Nat} {es:List (V×V×Nat)} {L:List MapEntry} (h:ML ρ es L) (ha:(es.all λ e=>Nat.blt e.2.2 s)=true):∀ x∈L,x.born<s:=by
  induction h with
  | nil=>intro x hx;cases hx
  | cons q v n kk x es L hq hv hL ih =>
    simp only [List.all_cons,Bool.and_eq_true] at ha
    intro y hy
    rcases List.mem_cons.1 hy with rfl|hy
    . exact Nat.le_of_ble_eq_true ha.1
    . exact ih ha.2 y hy
theorem run_next1 {w : World} {ty : TypeId} {r bm since c0 : Nat} {seen : Array Nat} {es : List MapEntry} {clock : Nat} {l : List MapEntry}
    (hr:w.heap[r]? = some (.mapIter (some bm) since seen c0)) (hb:w.heap[bm]? = some (.map es.toArray clock)) (hold:∀ x∈es,x.born<since) (hsc:since≤c0)
    (hl:es.filter (λ e=>!seen.contains e.born)=l) :
    (l=[]→(Instr.next (.pointer (some ⟨r,0,none⟩)) false ty).run P w=.ok (.tuple #[.bool false]) w) ∧
    (∀ e,l=[e]→(Instr.next (.pointer (some ⟨r,0,none⟩)) false ty).run P w=((setObj r (.mapIter (some bm) since (seen.push e.born) clock) >>= λ _=>pure (.tuple #[.bool true,e.key,e.val]):Sem Value)).run P w):=by
  have hg1:(getObj r).run P w=.ok (.mapIter (some bm) since seen c0) w:=by simp [getObj,Sem.run,hr]
  have hg2:(getObj bm).run P w=.ok (.map es.toArray clock) w:=by simp [getObj,Sem.run,hb]
  have hf:es.toArray.filter (λ e=>!seen.contains e.born)=l.toArray:=by rw [← hl];simp
  have ht:=next_test_false seen es.toArray since c0 (by simpa using hold) hsc
  constructor
  . rintro rfl
    simp only [Instr.next,Sem.run_bind,hg1,hg2,Result.andThen_ok,ht,Bool.false_eq_true,if_false,hf]
    simp [choose,Sem.run,Question.forced]
  . rintro e rfl
    have he:e.born<since:=hold e (by
      have:e∈es.filter (λ e=>!seen.contains e.born):=by rw [hl];simp
      exact (List.mem_filter.1 this).1)
    simp only [Instr.next,Sem.run_bind,hg1,hg2,Result.andThen_ok,ht,Bool.false_eq_true,if_false,hf]
    have e1:(#[e]:Array MapEntry).filter (λ x=>decide (x.born<since)) = #[e]:=by simp [he]
    have e2:(#[e]:Array MapEntry).filter (λ x=>decide (x.born≥since)) = #[]:=by simp;omega
    rw [show [e].toArray = #[e] from rfl,e1,e2]
    simp [choose,Sem.run,Question.forced]
theorem run_setIter {w:World} {r:Nat} {a:Option Nat} {b:Nat} {c:Array Nat} {d:Nat} (o:Obj) (hh:w.heap[r]? = some (.mapIter a b c d)):∃ w',(setObj r o).run P w=.ok () w'∧Upd r w w'∧w'.heap[r]? = some o:=by
  refine ⟨{ w with heap:=w.heap.setIfInBounds r o },?_,⟨rfl,rfl,rfl,by simp,λ k hk=>?_⟩,?_⟩
  . unfold setObj
    simp only [Sem.run]
    rw [hh]
  . simp [Array.getElem?_setIfInBounds,hk.symm]
  . have hlt:=(Array.getElem?_eq_some_iff.1 hh).1
    simp [Array.getElem?_setIfInBounds,hlt]
theorem next_ok (m:Bool) (x:Operand):Out bad (eA bad m env x λ a=>nextK bad fl h a λ v h=>k v h nx) (OutO P fl fd env h nx (.next x false) k):=by
  refine (eA_ok m env x _).out λ v hv=>?_
  unfold nextK
  refine (ptrK_ok v _).out λ b o hb=>out_if λ h0=>?_
  subst hb
  obtain ⟨h0,hfl⟩:=two_t h0
  cases Nat.eq_of_beq_eq_true h0
  have hfl:fl≤b:=Nat.le_of_ble_eq_true hfl
  rcases iterK_ok (bad:=bad) (h:=h) (b:=b) with e|⟨r,s,sn,l,hi,e⟩
  . exact .inl e
  rw [e]
  rcases mapK_ok (bad:=bad) (h:=h) (b:=r) with e|⟨es,c,hh,e⟩
  . exact .inl e
  rw [e]
  refine out_if λ hc=>?_
  obtain ⟨hall,hsl⟩:=two_t hc
  have hsl:s≤l:=Nat.le_of_ble_eq_true hsl
  have know:∀ ρ n act w,EnvOk ρ n env act→Rel ρ h.get nx w→∃ p q L,ρ b=some p∧act.eval x=.pointer (some ⟨p.blk,0,none⟩)∧w.heap[p.blk]? = some (.mapIter (some q.blk) s sn.reverse.toArray l)∧ρ r=some q∧p.sh=0∧w.heap[q.blk]? = some (.map L.toArray c)∧ML ρ es L∧∀ y∈L,y.born<s:=by
    intro ρ n act w he hr
    have h3:=hv ρ n act he
    generalize hx:act.eval x=xv at h3
    cases h3 with
    | ptr _ _ p hp =>
      obtain ⟨p',hp',q,hq,hsh,hob⟩:=hr.blk b _ hi
      rw [hp] at hp'
      cases hp'
      obtain ⟨L,h5,h6⟩:=hr.map hh hq
      exact ⟨p,q,L,hp,by rw [hsh],hob,hq,hsh,h5,h6,h6.old hall⟩
  split
  . rename_i hl
    refine .inr ⟨_,h,nx,λ ρ n act w he hr d ty pos aft g=>?_,rfl⟩
    obtain ⟨p,q,L,h1,h2,h3,h4,h5,h6,h7,h8⟩:=know ρ n act w he hr
    have hml:=left_ml (sn:=sn) h7
    rw [hl] at hml
    have hnil:L.filter (λ e=>!sn.reverse.toArray.contains e.born)=[]:=by
      generalize L.filter (λ e=>!sn.reverse.toArray.contains e.born)=LL at hml
      cases hml;rfl
    have hrun:(execOp act.eval ⟨d,.next x false,ty,pos,aft,g⟩).run P w=.ok (.value (.tuple #[.bool false])) w:=by
      simp [execOp,h2,(run_next1 (P:=P) (ty:=ty) h3 h6 h8 hsl hnil).1 rfl]
    rw [hrun]
    refine ⟨ρ,VR.tup [.at (.bool false)] [.bool false] rfl (λ j v' x' hj hx=>?_),Stp.refl hr⟩
    match j with
    | 0=>cases hj;cases hx;exact .at _ _ (.bool _)
    | j+1=>cases hj
  . rename_i q0 v0 n0 hl
    refine (setK_ok b (.iter r s (n0::sn) c) _).out λ h' hg=>.inr ⟨_,h',nx,λ ρ n act w he hr d ty pos aft g=>?_,rfl⟩
    obtain ⟨p,q,L,h1,h2,h3,h4,h5,h6,h7,h8⟩:=know ρ n act w he hr
    have hml:=left_ml (sn:=sn) h7
    rw [hl] at hml
    obtain ⟨e,hone,hk,hx,hbn⟩:∃ e:MapEntry,L.filter (λ e=>!sn.reverse.toArray.contains e.born)=[e]∧VR ρ q0 e.key∧VR ρ v0 e.val∧e.born=n0:=by
      generalize L.filter (λ e=>!sn.reverse.toArray.contains e.born)=LL at hml
      cases hml with
      | cons _ _ _ kk xx _ L' a1 a2 a3=>cases a3;exact ⟨_,rfl,a1,a2,rfl⟩
    obtain ⟨w',e1,e2,e3⟩:=run_setIter (P:=P) (.mapIter (some q.blk) s (sn.reverse.toArray.push e.born) c) h3
    have hrun:(execOp act.eval ⟨d,.next x false,ty,pos,aft,g⟩).run P w=.ok (.value (.tuple #[.bool true,e.key,e.val])) w':=by
      simp only [execOp,h2,Sem.run_bind,(run_next1 (P:=P) (ty:=ty) h3 h6 h8 hsl hone).2 e rfl,e1,Result.andThen_ok]
      rfl
    rw [hrun]
    refine ⟨ρ,VR.tup [.at (.bool true),q0,v0] [.bool true,e.key,e.val] rfl λ j v' x' hj hx'=>?_,stp_setB (B1:=.iter r s (n0::sn) c) hr hi h1 hfl ⟨q,h4,h5,?_⟩ (λ ⟨r',hr'⟩=>by rw [h3] at hr';cases hr') e3 e2 hg⟩
    . match j with
      | 0=>cases hj;cases hx';exact .at _ _ (.bool _)
      | 1=>cases hj;cases hx';exact hk
      | 2=>cases hj;cases hx';exact hx
      | j+3=>cases hj
    . rw [hbn]
      simp
  . exact .inl rfl
theorem entK_ok {n:Nat} {k:V→V→R}:∀ {es:List (V×V×Nat)},entK bad n es k=bad∨∃ (i:Nat) (q v:V),es[i]? = some (q,v,n)∧(∀ i',i'<i→∀ q v s,es[i']? = some (q,v,s)→s≠n)∧entK bad n es k=k q v
  | []=>.inl rfl
  | (q,v,s)::es=>by
    unfold entK
    cases hs:Nat.beq s n with
    | true =>
      have:=Nat.eq_of_beq_eq_true hs
      subst this
      exact .inr ⟨0,q,v,rfl,λ i' h=>by omega,rfl⟩
    | false =>
      rw [cond_false]
      rcases entK_ok (n:=n) (es:=es) (k:=k) with e|⟨i,q',v',h1,h2,e⟩
      . exact .inl e
      . refine .inr ⟨i+1,q',v',by simpa using h1,λ i' hi q0 v0 s0 h=>?_,e⟩
        cases i' with
        | zero=>cases h;exact Nat.ne_of_beq_eq_false hs
        | succ i'=>exact h2 i' (by omega) q0 v0 s0 (by simpa using h)
theorem find_at {p:MapEntry→Bool}:∀ {L:List MapEntry} {i:Nat} {e:MapEntry},L[i]? = some e→p e=true→(∀ i',i'<i→∀ e',L[i']? = some e'→p e'=false)→L.find? p=some e
  | [],i,e,h,_,_=>by cases h
  | x::L,0,e,h,hp,_=>by cases h;simp [hp]
  | x::L,i+1,e,h,hp,hn=>by
    have h0:=hn 0 (by omega) x rfl
    have ih:=find_at (L:=L) (i:=i) (by simpa using h) hp λ i' hi e' he=>hn (i'+1) (by omega) e' (by simpa using he)
    simp [List.find?_cons,h0,ih]
theorem entry_ok (m:Bool) (x:Operand):Out bad (eA bad m env x λ a=>entryK bad h a λ v=>k v h nx) (OutO P fl fd env h nx (.entry x) k):=by
  refine (eA_ok m env x _).out λ v hv=>?_
  unfold entryK
  refine (ptrK_ok v _).out λ b o hb=>out_if λ h0=>?_
  subst hb
  cases Nat.eq_of_beq_eq_true h0
  rcases iterK_ok (bad:=bad) (h:=h) (b:=b) with e|⟨r,s,sn,l,hi,e⟩
  . exact .inl e
  rw [e]
  split
  . exact .inl rfl
  rename_i n0 sn'
  rcases mapK_ok (bad:=bad) (h:=h) (b:=r) with e|⟨es,c,hh,e⟩
  . exact .inl e
  rw [e]
  refine out_if λ hc=>?_
  cases Nat.eq_of_beq_eq_true hc
  rcases entK_ok (bad:=bad) (n:=n0) (es:=es) with e|⟨j,q0,v0,hj,hjn,e⟩
  . exact .inl e
  rw [e]
  refine .inr ⟨_,h,nx,λ ρ n act w he hr d ty pos aft g=>?_,rfl⟩
  have h3:=hv ρ n act he
  generalize hx:act.eval x=xv at h3
  cases h3 with
  | ptr _ _ p hp =>
    obtain ⟨p',hp',q,hq,hsh,hob⟩:=hr.blk b _ hi
    rw [hp] at hp'
    cases hp'
    obtain ⟨L,h5,h6⟩:=hr.map hh hq
    obtain ⟨en,g1,g2,g3,g4⟩:=h6.at hj
    have hg1:(getObj p.blk).run P w=.ok (.mapIter (some q.blk) s (n0::sn').reverse.toArray l) w:=by simp [getObj,Sem.run,hob]
    have hg2:(getObj q.blk).run P w=.ok (.map L.toArray l) w:=by simp [getObj,Sem.run,h5]
    have hfind:L.toArray.find? (λ e=>e.born==n0)=some en:=by
      rw [← Array.find?_toList]
      refine find_at g1 (by simp [g4]) λ i' hi' e' he'=>?_
      have hlt:i'<es.length:=by rw [h6.emp];exact (List.getElem?_eq_some_iff.1 he').1
      obtain ⟨e2,k1,_,_,k2⟩:=h6.at (List.getElem?_eq_getElem hlt)
      rw [he'] at k1
      cases k1
      have:=hjn i' hi' _ _ _ (List.getElem?_eq_getElem hlt)
      simp
      omega
    have hback:(n0::sn').reverse.toArray.back? = some n0:=by simp
    have hrun:(execOp act.eval ⟨d,.entry x,ty,pos,aft,g⟩).run P w=.ok (.value (.tuple #[en.key,en.val])) w:=by
      simp only [execOp,hx,hsh,Nat.add_zero,Instr.entry,Sem.run_bind,hg1,hg2,Result.andThen_ok,hback,bne_self_eq_false,Bool.false_eq_true,if_false,hfind]
      rfl
    rw [hrun]
    refine ⟨ρ,VR.tup [q0,v0] [en.key,en.val] rfl (λ j v' x' hj hx'=>?_),Stp.refl hr⟩
    match j with
    | 0=>cases hj;cases hx';exact g2
    | 1=>cases hj;cases hx';exact g3
    | j+2=>cases hj
end
end Go.E
namespace Go.E
open Go Go.RowKit Go.V
variable [LoopTab] [Gl]
section
variable {R:Type} {bad:R} {P:Program} {fl fd:Nat} {env:En} {h:H} {nx:Nat} {o:Op} {k:V→H→Nat→R}
theorem byteTy_ok {Γ : Ctx} (hΓ : ∀ t ti,Γ.ty.get t=some ti→TyOk P t ti) (e:Nat) (x:R) {S:R→Prop} (hx:P.underlying e=some (.int .u8)→Out bad x S):Out bad (byteTy bad Γ e x) S:=by
  unfold byteTy
  unfold tyK
  split
  . rename_i te hte
    dsimp only
    split
    . rename_i kd hk
      refine out_if λ hkd=>hx ?_
      have:=(hΓ e te hte).int hk
      rwa [kn_inj hkd] at this
    . exact .inl rfl
  . exact .inl rfl
theorem packB_bytes:∀ (n s:Nat),packB ((List.range n).map λ i=>UInt8.ofNat (byteAt s i))=s%256^n
  | 0,s=>by simp [packB,Nat.mod_one]
  | n+1,s=>by
    rw [List.range_succ_eq_map,List.map_cons,List.map_map]
    have ih:=packB_bytes n (s / 256)
    have e:(λ i=>UInt8.ofNat (byteAt s i)) ∘ Nat.succ=λ i=>UInt8.ofNat (byteAt (s / 256) i):=by
      funext i
      show UInt8.ofNat (byteAt s (i+1))=_
      unfold byteAt
      rw [Nat.pow_succ,Nat.mul_comm,Nat.div_div_eq_div_mul]
    rw [e]
    show (UInt8.ofNat (byteAt s 0)).toNat+256*packB _=_
    rw [ih,Nat.pow_succ,Nat.mul_comm (256^n),Nat.mod_mul]
    have:(UInt8.ofNat (byteAt s 0)).toNat=s%256:=by
      rw [UInt8.toNat_ofNat']
      simp [byteAt]
    rw [this]
theorem fold_push:∀ (l:List Int) (b:ByteArray),(l.foldl (λ r n=>r.push (UInt8.ofNat n.toNat)) b).data.toList=b.data.toList++l.map λ n=>UInt8.ofNat n.toNat
  | [],b=>by simp
  | n::l,b=>by
    rw [List.foldl_cons,fold_push l]
    simp [ByteArray.push]
theorem conv_str {Γ : Ctx} (hΓ : ∀ t ti, Γ.ty.get t = some ti → TyOk P t ti) {src dst : TypeId} {ts : TI} (m : Bool) (hts : TyOk P src ts) (hdst : P.underlying dst = some .string) (x : Operand) {a : A} (ha : ∀ ρ n act, EnvOk ρ n env act → AR ρ a (act.eval x)) (n : Nat)
    (hsl:∀ ρ u,AR ρ a u→∃ p c,u=.slice (some p) n c) :
    Out bad (elem3K bad ts.k λ e=>byteTy bad Γ e (srcK bad m h a 1 n λ q=>match q.bytes with|some (_,s)=>natK m s λ s=>k (.at (.str n s)) h nx|none=>bad)) (OutO P fl fd env h nx (.convert src dst x) k):=by
  unfold elem3K
  split
  . rename_i e hk
    refine byteTy_ok hΓ e _ λ he=>(srcK_ok (P:=P) (nx:=nx) m a 1 n _).out λ q hq=>?_
    split
    . rename_i n' s hb
      rw [natK_eq]
      refine .inr ⟨_,h,nx,λ ρ n2 act w henv hr d ty pos aft g=>?_,rfl⟩
      have hx:=ha ρ n2 act henv
      obtain ⟨p,c,hu⟩:=hsl ρ _ hx
      obtain ⟨cs,c1,c2,c3⟩:=hq ρ w _ hr hx
      obtain ⟨rfl,hs⟩:=rope_bytes c1 hb
      rw [length_bcells,Nat.mul_one] at c2
      subst c2
      have hf:=c3 w rfl
      rw [hu] at hf
      simp only [Builtin.firstCells,Nat.mul_one] at hf
      have e2:((List.range n').map λ i=>((byteAt s i:Nat):Int)).map (Value.int .u8)=bcells n' s:=by simp [bcells]
      have hrun:=run_bytesToString (P:=P) w p n' c ((List.range n').map λ i=>((byteAt s i:Nat):Int)) (by rw [e2];exact hf)
      have hd:=fold_push ((List.range n').map λ i=>((byteAt s i:Nat):Int)) ByteArray.empty
      have hrun2:(execOp act.eval ⟨d,.convert src dst x,ty,pos,aft,g⟩).run P w=.ok (.value (.string (((List.range n').map λ i=>((byteAt s i:Nat):Int)).foldl (λ r n=>r.push (UInt8.ofNat n.toNat)) ByteArray.empty))) w:=by
        simp only [execOp,hu,convert,Sem.run_bind,underlying,run_program,hts.sl hk,hdst,he,Result.andThen_ok,Sem.run_pure,hrun]
      rw [hrun2]
      refine ⟨ρ,.at _ _ (.str _ _ _ ?_ ?_),Stp.refl hr⟩
      . have:=congrArg List.length hd
        simp only [Array.length_toList] at this
        show (List.foldl _ _ _:ByteArray).data.size=n'
        rw [this]
        simp
      . rw [hd]
        have e2:(ByteArray.empty.data.toList++((List.range n').map λ i=>((byteAt s i:Nat):Int)).map λ z=>UInt8.ofNat z.toNat)=(List.range n').map λ i=>UInt8.ofNat (byteAt s i):=by simp
        rw [e2,packB_bytes,Nat.mod_eq_of_lt hs]
    . exact .inl rfl
  . exact .inl rfl
theorem run_mark {w : World} {b : Nat} {o : Nat} {arr : Array Value} {t : TypeId} {fr : Nat × Nat} (hw : w.heap[b]? = some (.cells arr t fr)) (hf : FrOk t fr arr.size) (hbt : Gl.byt t = true) :
    ∃ w' fr',(markStringish ⟨b,o,none⟩).run P w=.ok () w'∧Upd b w w'∧w'.heap[b]? = some (.cells arr t fr')∧FrOk t fr' arr.size:=by
  have hs:w.shape? b=some (t,arr.size):=by simp [World.shape?,hw]
  refine ⟨w.freeze ⟨b,arr.size,none⟩ 1,(if fr.1==fr.2 then (arr.size,arr.size+1) else (min fr.1 arr.size,max fr.2 (arr.size+1))),?_,⟨rfl,rfl,rfl,by simp [World.freeze],λ k hk=>?_⟩,?_,?_⟩
  . simp [markStringish,shape,freeze,Sem.run,hs]
  . simp only [World.freeze,Nat.one_ne_zero,if_false,Array.getElem?_modify,if_neg (Ne.symm hk)]
  . simp only [World.freeze,Nat.one_ne_zero,if_false,Array.getElem?_modify,if_true,hw,Option.map_some]
  . unfold FrOk at hf ⊢
    split
    . right;exact ⟨Nat.le_refl _,hbt⟩
    . rename_i hne
      have hne:¬ fr.1=fr.2:=by simpa using hne
      right
      refine ⟨?_,hbt⟩
      show arr.size≤min fr.1 arr.size
      have:=(hf.resolve_left hne).1
      omega
theorem conv_ok {Γ : Ctx} (hΓ : ∀ t ti,Γ.ty.get t=some ti→TyOk P t ti) (m:Bool) (src dst:TypeId) (x:Operand):Out bad (eA bad m env x λ x=>convK bad Γ m fl src dst h nx x k) (OutO P fl fd env h nx (.convert src dst x) k):=by
  refine (eA_ok m env x _).out λ a ha=>?_
  unfold convK
  refine (tyK_ok hΓ src _).out λ ts hts=>(tyK_ok hΓ dst _).out λ td htd=>?_
  obtain ⟨us,hus,_⟩:=hts.u
  split
  ·
    rename_i kd hk
    split
    . rename_i k' n
      rw [natK_eq]
      refine PureOk.out λ ρ n' act he w d ty pos aft g=>?_
      have hx:=ha ρ n' act he
      generalize hc:act.eval x=z at hx
      cases hx with
      | int _ _ hn =>
        obtain ⟨h1,h2⟩:=cvI_ok k' kd hn
        refine ⟨.int kd (kd.wrap (k'.wrap n)),?_,.at _ _ (.int' h1 h2)⟩
        simp [execOp,hc,convert,underlying,hus,htd.int hk,Conv.intToInt]
    . exact .inl rfl
  ·
    rename_i hk
    have hdst:=htd.str hk
    split
    . rename_i n s
      refine PureOk.out λ ρ n' act he w d ty pos aft g=>?_
      have hx:=ha ρ n' act he
      generalize hc:act.eval x=z at hx
      cases hx with
      | str y _ _ h1 h2=>exact ⟨.string y,by simp [execOp,hc,convert,underlying,hus,hdst],.at _ _ (.str _ _ _ h1 h2)⟩
    . exact conv_str hΓ m hts hdst x ha _ (λ ρ u hu=>by cases hu;exact ⟨_,_,rfl⟩)
    . exact conv_str hΓ m hts hdst x ha _ (λ ρ u hu=>by cases hu;exact ⟨_,_,rfl⟩)
    . unfold elem3K
      split
      . rename_i e hk2
        refine byteTy_ok hΓ e _ λ he8=>PureOk.out λ ρ n' act he w d ty pos aft g=>?_
        have hx:=ha ρ n' act he
        generalize hc:act.eval x=z at hx
        cases hx
        exact ⟨.string .empty,by simp [execOp,hc,convert,underlying,hts.sl hk2,hdst,he8,Conv.bytesToString],.at _ _ (.str _ _ _ rfl rfl)⟩
      . exact .inl rfl
    . exact .inl rfl
  ·
    rename_i e hk
    have hdst:=htd.sl hk
    refine byteTy_ok hΓ e _ λ he8=>?_
    split
    . rename_i n s
      refine out_if λ hn=>?_
      obtain ⟨hbt,hn⟩:=two_t hn
      have hn:=Nat.le_of_ble_eq_true hn
      rcases newK_ok (bad:=bad) (h:=h) (nx:=nx) m (.cells e (.by n s)) (λ h nx'=>k (.at (.slu nx 0 n 1)) h nx') with e1|⟨h',nx',⟨rfl,hget⟩,e1⟩
      . exact .inl e1
      . rw [e1]
        refine .inr ⟨_,_,_,λ ρ n' act w he hr d ty pos aft g=>?_,rfl⟩
        have hx:=ha ρ n' act he
        generalize hc:act.eval x=z at hx
        cases hx with
        | str y _ _ h1 h2 =>
          subst h1 h2
          have hge:=grownCap_ge w y.size 0 e
          have hle:=grownCap_le_maxLen w y.size 0 e (Nat.le_trans hn (by decide))
          have hsz:(y.data.map (λ b=>Value.int .u8 (b.toNat:Int))++Array.replicate (grownCap w y.size 0 e-y.size) (Value.int .u8 0)).size=grownCap w y.size 0 e:=by
            simp only [Array.size_append,Array.size_map,Array.size_replicate]
            show y.size+(grownCap w y.size 0 e-y.size)=_
            omega
          have hcs:y.data.toList.map (λ b=>Value.int .u8 (b.toNat:Int))=bcells y.size (packB y.data.toList):=by
            apply List.ext_getElem?
            intro i
            have hl:y.data.toList.length=y.size:=by simp
            rcases Nat.lt_or_ge i y.size with hi|hi
            . have hil:i<y.data.toList.length:=by omega
              rw [bcells_get hi,List.getElem?_map,List.getElem?_eq_getElem hil]
              simp only [Option.map_some]
              have e3:byteAt (packB y.data.toList) i=(y.data.toList[i]).toNat:=by
                unfold byteAt
                exact packB_get (List.getElem?_eq_getElem hil)
              rw [e3]
            . rw [List.getElem?_eq_none (by rw [List.length_map];omega),List.getElem?_eq_none (by rw [length_bcells];exact hi)]
          generalize harr:(y.data.map (λ b=>Value.int .u8 (b.toNat:Int))++Array.replicate (grownCap w y.size 0 e-y.size) (Value.int .u8 0))=arr at hsz
          have hw0:(w.drew.alloc (.cells arr e)).heap[w.heap.size]? = some (.cells arr e (0,0)):=by
            show (w.heap.push _)[w.heap.size]? = _
            simp
          obtain ⟨w',fr',m1,m2,m3,m4⟩:=run_mark (P:=P) (o:=0) hw0 (.inl rfl) hbt
          have hheap:w'.heap=w.heap.push (.cells arr e fr'):=by
            apply Array.ext_getElem?
            intro i
            rcases Nat.lt_trichotomy i w.heap.size with hi|hi|hi
            . rw [m2.block i (by omega),Array.getElem?_push,if_neg (by omega)]
              show (w.heap.push _)[i]? = _
              rw [Array.getElem?_push,if_neg (by omega)]
            . subst hi;rw [m3];simp
            . rw [Array.getElem?_eq_none (by rw [m2.size];simp;omega),Array.getElem?_eq_none (by simp;omega)]
          have hrun:(execOp act.eval ⟨d,.convert src dst x,ty,pos,aft,g⟩).run P w=.ok (.value (.slice (some ⟨w.heap.size,0,none⟩) y.size (grownCap w y.size 0 e))) w':=by
            have hm:(markStringish ⟨w.heap.size,0,none⟩).run P (w.drew.alloc (.cells arr e))=.ok () w':=m1
            simp [execOp,hc,convert,underlying,hus,hdst,he8,Conv.stringToBytes,Question.forced,newRow]
            rw [show (Question.appendCap y.size 0 e).cut (w.tape w.drawn (Question.appendCap y.size 0 e))=grownCap w y.size 0 e from rfl,harr,hm]
            rfl
          rw [hrun]
          refine ⟨_,.at _ _ ?_,stp_new hr (cs:=bcells y.size (packB y.data.toList)) (.bys _ _ ?_) (λ i v hv=>?_) m4 hheap m2.os m2.tape m2.output hget⟩
          . refine .slu nx 0 y.size 1 (grownCap w y.size 0 e) 0 ⟨w.heap.size,0,arr.size⟩ ?_ hge hle (.inl rfl) (by show 0+_*1≤arr.size;rw [hsz];omega)
            show (if nx=nx then _ else _)=_
            rw [if_pos rfl]
          . exact packB_lt y.data.toList
          . rw [← hcs] at hv
            rw [← harr]
            have hi:=(List.getElem?_eq_some_iff.1 hv).1
            rw [Array.getElem?_append_left (by simpa using hi)]
            simpa using hv
    . rename_i b o n c
      refine out_if λ hcond=>?_
      obtain ⟨hsd,hfl⟩:=two_t hcond
      have hsd:=Nat.eq_of_beq_eq_true hsd
      have hfl:=Nat.le_of_ble_eq_true hfl
      subst hsd
      refine (cellsK_ok h b _).out λ bt r hb=>out_if λ hbt=>(setK_ok b _ _).out λ h' hget=>.inr ⟨_,_,_,λ ρ n' act w he hr d ty pos aft g=>?_,rfl⟩
      have hx:=ha ρ n' act he
      generalize hc:act.eval x=z at hx
      cases hx with
      | slice _ _ _ _ o' p hp hl hcm ho =>
        obtain ⟨arr,fr,cs,c1,c2,c3,c4,c5⟩:=hr.cells hb hp
        obtain ⟨w',fr',m1,m2,m3,m4⟩:=run_mark (P:=P) (o:=o') c1 c5 hbt
        have hrun:(execOp act.eval ⟨d,.convert src src x,ty,pos,aft,g⟩).run P w=.ok (.value (.slice (some ⟨p.blk,o',none⟩) n c)) w':=by
          simp [execOp,hc,convert,underlying,hdst,he8,m1]
        rw [hrun]
        exact ⟨ρ,.at _ _ (.slice _ _ _ _ _ p hp hl hcm ho),stp_set hr hb hp hfl c3 c4 m4 c2 m3 m2 hget⟩
    . rename_i b o n zz
      refine out_if λ hcond=>?_
      obtain ⟨hsd,hfl⟩:=two_t hcond
      have hsd:=Nat.eq_of_beq_eq_true hsd
      have hfl:=Nat.le_of_ble_eq_true hfl
      subst hsd
      refine (cellsK_ok h b _).out λ bt r hb=>out_if λ hbt=>(setK_ok b _ _).out λ h' hget=>.inr ⟨_,_,_,λ ρ n' act w he hr d ty pos aft g=>?_,rfl⟩
      have hx:=ha ρ n' act he
      generalize hc:act.eval x=z at hx
      cases hx with
      | slu _ _ _ _ c o' p hp hl hcm ho hs =>
        obtain ⟨arr,fr,cs,c1,c2,c3,c4,c5⟩:=hr.cells hb hp
        obtain ⟨w',fr',m1,m2,m3,m4⟩:=run_mark (P:=P) (o:=o') c1 c5 hbt
        have hrun:(execOp act.eval ⟨d,.convert src src x,ty,pos,aft,g⟩).run P w=.ok (.value (.slice (some ⟨p.blk,o',none⟩) n c)) w':=by
          simp [execOp,hc,convert,underlying,hdst,he8,m1]
        rw [hrun]
        exact ⟨ρ,.at _ _ (.slu _ _ _ _ _ _ p hp hl hcm ho hs),stp_set hr hb hp hfl c3 c4 m4 c2 m3 m2 hget⟩
    . exact .inl rfl
  . exact .inl rfl
theorem eAs_ok (m:Bool) (env:En):∀ (xs:List Operand) (k:List A→R),Ok1 bad (eAs bad m env xs k) k λ vs=>vs.length=xs.length∧∀ ρ n a,EnvOk ρ n env a→∀ (i:Nat) (v:A) (x:Value),vs[i]? = some v→(xs.map a.eval)[i]? = some x→AR ρ v x
  | [],k=>.inr ⟨[],⟨rfl,λ _ _ _ _ i v x h=>by simp at h⟩,rfl⟩
  | x::xs,k=>by
    unfold eAs
    refine (eA_ok m env x _).bind λ v hv=>(eAs_ok m env xs _).bind λ vs hvs=>.inr ⟨_,⟨by simp [hvs.1],λ ρ n a he i u y h1 h2=>?_⟩,rfl⟩
    cases i with
    | zero =>
      simp only [List.getElem?_cons_zero,Option.some.injEq,List.map_cons] at h1 h2
      subst h1 h2
      exact hv ρ n a he
    | succ i =>
      simp only [List.getElem?_cons_succ,List.map_cons] at h1 h2
      exact hvs.2 ρ n a he i u y h1 h2
theorem makeFunc_ok (m:Bool) (f:Fn) (fs cs:Array Operand):Out bad (eAs bad m env fs.toList λ fs=>eAs bad m env cs.toList λ cs=>k (.at (.fn f fs cs)) h nx) (OutO P fl fd env h nx (.makeFunc f fs cs) k):=by
  refine (eAs_ok m env _ _).out λ us hu=>(eAs_ok m env _ _).out λ vs hv=>PureOk.out λ ρ n a he w d ty pos aft g=>?_
  refine ⟨.func f (fs.toList.map a.eval).toArray (cs.toList.map a.eval).toArray,?_,.at _ _ (.fn f us vs _ _ (by simp [hu.1]) (by simp [hv.1]) (hu.2 ρ n a he) (hv.2 ρ n a he))⟩
  simp [execOp,Instr.makeFunc]
  constructor<;>(apply Array.ext';simp)
theorem opK_ok {Γ : Ctx} (hΓ : ∀ t ti,Γ.ty.get t=some ti→TyOk P t ti) (m:Bool) (o:Op):Out bad (opK bad Γ m fl o env h nx k) (OutO P fl fd env h nx o k):=by
  unfold opK
  split<;>first
    | exact move_ok _ (.inl rfl) m
    | exact move_ok _ (.inr rfl) m
    | exact pick_ok m _ _ _
    | exact alloc_ok hΓ m _
    | exact box_ok m _ _
    | exact build_ok hΓ m _ _
    | exact buildSlice_ok hΓ m _ _ _
    | exact load_ok hΓ m _ _
    | exact store_ok hΓ m _ _ _
    | exact nilCheck_ok m _
    | exact bin_ok hΓ m _ _ _ _ _
    | exact un_ok m _ _ _
    | exact conv_ok hΓ m _ _ _
    | exact sl2arr_ok hΓ m _ _
    | exact makeFunc_ok m _ _ _
    | exact makeSlice_ok hΓ m _ _ _
    | exact (sliceK_ok hΓ m _ _ _ _ _ _).out λ v hv=>hv.out
    | exact fieldAddr_ok hΓ m _ _ _
    | exact field_ok hΓ m _ _ _
    | exact indexAddr_ok hΓ m _ _ _
    | exact index_ok hΓ m _ _ _
    | exact extract_ok m _ _
    | exact makeIface_ok hΓ m _ _
    | exact typeAssert_ok hΓ m _ _ _ _
    | exact makeMap_ok hΓ m _ _
    | exact lookup_ok hΓ m _ _ _ _
    | exact mapSet_ok hΓ m _ _ _ _ (.inl rfl)
    | exact mapSet_ok hΓ m _ _ _ _ (.inr rfl)
    | exact mapEntry_ok hΓ m _ _ _
    | exact entryStore_ok m _ _ _ _
    | exact rangeM_ok hΓ m _ _
    | exact next_ok m _
    | exact entry_ok m _
    | exact .inl rfl
end
end Go.E
namespace Go.E
open Go Go.RowKit Go.V
variable [LoopTab] [Gl]
section
variable {R:Type} {bad:R} {P:Program} {fl fd:Nat} {env:En} {h:H} {nx:Nat} {k:V→H→Nat→R}
def BuiltOk (P:Program) (fl fd:Nat) (b:Builtin) (ts:List TypeId) (vs:List V) (h:H) (nx:Nat) (v:V) (h':H) (nx':Nat):Prop :=
  ∀ ρ w xs ty consts,VRs ρ vs xs→Rel ρ h.get nx w→∃ x ρ' w',(builtin b ts.toArray ty consts xs.toArray).run P w=.ok (.value x) w'∧VR ρ' v x∧Stp fl fd ρ h.get nx w ρ' h'.get nx' w'
def OutB (P:Program) (fl fd:Nat) (b:Builtin) (ts:List TypeId) (vs:List V) (h:H) (nx:Nat) (k:V→H→Nat→R) (e:R):Prop:=∃ v h' nx',BuiltOk P fl fd b ts vs h nx v h' nx'∧e=k v h' nx'
theorem out_ifB {b:Bool} {e:R} {S:R→Prop} (h:b=true→Out bad e S):Out bad (okK bad b e) S:=out_if h
theorem pureB_out {b:Builtin} {ts:List TypeId} {vs:List V} {v:V} (hp:∀ ρ xs,VRs ρ vs xs→∀ w ty consts,∃ x,(builtin b ts.toArray ty consts xs.toArray).run P w=.ok (.value x) w∧VR ρ v x):Out bad (k v h nx) (OutB P fl fd b ts vs h nx k) :=
  .inr ⟨v,h,nx,λ ρ w xs ty consts hv hr=>by
    obtain ⟨x,h1,h2⟩:=hp ρ xs hv w ty consts
    exact ⟨x,ρ,w,h1,h2,Stp.refl hr⟩,rfl⟩
theorem intLen_ok {b:Builtin} (m:Bool) (n:Nat) {ts:List TypeId} {vs:List V} (hp:∀ ρ xs,VRs ρ vs xs→∀ w ty consts,(builtin b ts.toArray ty consts xs.toArray).run P w=.ok (.value (goInt (n:Int))) w):Out bad (intLen m n h nx bad k) (OutB P fl fd b ts vs h nx k):=by
  unfold intLen
  refine out_if λ hn=>?_
  have hn:=blt_t hn
  rw [natK_eq]
  refine pureB_out λ ρ xs hv w ty consts=>⟨_,hp ρ xs hv w ty consts,.at _ _ ?_⟩
  have:=AR.int (ρ:=ρ) .i64 n (show n<18446744073709551616 by omega)
  rwa [wrap_lo (k:=.i64) hn] at this
theorem intLen_at {b:Builtin} (m:Bool) (n:Nat) {ts:List TypeId} {vs:List V} (hp:∀ ρ xs,VRs ρ vs xs→∀ w,Rel ρ h.get nx w→∀ ty consts,(builtin b ts.toArray ty consts xs.toArray).run P w=.ok (.value (goInt (n:Int))) w):Out bad (intLen m n h nx bad k) (OutB P fl fd b ts vs h nx k):=by
  unfold intLen
  refine out_if λ hn=>?_
  have hn:=blt_t hn
  rw [natK_eq]
  refine .inr ⟨_,h,nx,λ ρ w xs ty consts hv hr=>⟨_,ρ,w,hp ρ xs hv w hr ty consts,.at _ _ ?_,Stp.refl hr⟩,rfl⟩
  have:=AR.int (ρ:=ρ) .i64 n (show n<18446744073709551616 by omega)
  rwa [wrap_lo (k:=.i64) hn] at this
theorem VRs.one {ρ : Plc} {v:V} {xs:List Value} (h:VRs ρ [v] xs):∃ x,xs=[x]∧VR ρ v x:=by
  cases h with
  | cons _ x _ xs h hs=>cases hs;exact ⟨x,rfl,h⟩
theorem VRs.two {ρ : Plc} {u v:V} {xs:List Value} (h:VRs ρ [u,v] xs):∃ x y,xs=[x,y]∧VR ρ u x∧VR ρ v y:=by
  cases h with
  | cons _ x _ xs h hs =>
    obtain ⟨y,rfl,hy⟩:=hs.one
    exact ⟨x,y,rfl,h,hy⟩
theorem len_ok {Γ : Ctx} (hΓ : ∀ t ti, Γ.ty.get t = some ti → TyOk P t ti) (m : Bool) (v : V) (t : TypeId) (ts : List TypeId) : Out bad (tyK bad Γ t fun ti => match ti.k with
      | .ar n _=>intLen m n h nx bad k
      | .pt e=>tyK bad Γ e λ te=>(match te.k with|.ar n _=>intLen m n h nx bad k|_=>bad)
      | .mp _ _=>atK bad v λ a=>mlenK bad h a λ n=>intLen m n h nx bad k
      | tk=>atK bad v λ a=>match lenT tk a with|some n=>intLen m n h nx bad k|none=>bad) (OutB P fl fd .len (t::ts) [v] h nx k):=by
  refine (tyK_ok hΓ t _).out λ ti hti=>?_
  split
  . rename_i n e hk
    refine intLen_ok m n λ ρ xs hv w ty consts=>?_
    obtain ⟨x,rfl,hx⟩:=hv.one
    simp [builtin,Builtin.len_,underlying,hti.ar hk]
  . rename_i e hk
    refine (tyK_ok hΓ e _).out λ te hte=>?_
    split
    . rename_i n e' hk2
      refine intLen_ok m n λ ρ xs hv w ty consts=>?_
      obtain ⟨x,rfl,hx⟩:=hv.one
      simp [builtin,Builtin.len_,underlying,hti.pt hk,hte.ar hk2]
    . exact .inl rfl
  . rename_i ka kb hk
    refine (atK_ok v _).out λ a ha=>?_
    subst ha
    unfold mlenK
    split
    . refine intLen_ok m 0 λ ρ xs hv w ty consts=>?_
      obtain ⟨x,rfl,hx⟩:=hv.one
      have hx:=hx.atom
      cases hx
      simp [builtin,Builtin.len_,underlying,hti.mp hk]
    . rename_i r
      rcases mapK_ok (bad:=bad) (h:=h) (b:=r) with e|⟨es,c,hh,e⟩
      . exact .inl e
      . rw [e]
        refine intLen_at m es.length λ ρ xs hv w hr ty consts=>?_
        obtain ⟨x,rfl,hx⟩:=hv.one
        have hx:=hx.atom
        cases hx with
        | map _ p hp =>
          obtain ⟨L,h5,h6⟩:=hr.map hh hp
          simp [builtin,Builtin.len_,underlying,hti.mp hk,run_getObj (P:=P) h5,h6.emp]
    . exact .inl rfl
  . refine (atK_ok v _).out λ a ha=>?_
    subst ha
    split
    . rename_i n hn
      refine intLen_ok m n λ ρ xs hv w ty consts=>?_
      obtain ⟨x,rfl,hx⟩:=hv.one
      unfold lenT at hn
      split at hn<;>first|(cases hn;done)|skip
      . rename_i hk
        cases hn
        have hx:=hx.atom
        cases hx
        simp [builtin,Builtin.len_,underlying,hti.sl hk]
      . rename_i hk
        cases hn
        have hx:=hx.atom
        cases hx
        simp [builtin,Builtin.len_,underlying,hti.sl hk]
      . rename_i hk
        cases hn
        have hx:=hx.atom
        cases hx
        simp [builtin,Builtin.len_,underlying,hti.sl hk]
      . rename_i hk
        cases hn
        have hx:=hx.atom
        cases hx with
        | str y _ _ h1 h2=>simp [builtin,Builtin.len_,underlying,hti.str hk,h1]
    . exact .inl rfl
theorem ML.erase {ρ : Plc} {es:List (V×V×Nat)} {L:List MapEntry} (h:ML ρ es L):∀ j:Nat,ML ρ (es.eraseIdx j) (L.eraseIdx j):=by
  induction h with
  | nil=>intro j;exact .nil
  | cons q v n kk x es L hq hv hL ih =>
    intro j
    cases j with
    | zero=>exact hL
    | succ j=>exact .cons _ _ _ _ _ _ _ hq hv (ih j)
theorem VR.tup0 (ρ : Plc):VR ρ (.tup []) (.tuple #[]):=VR.tup [] [] rfl λ j v x hj=>by cases hj
theorem mdel_ok {Γ : Ctx} (hΓ : ∀ t ti,Γ.ty.get t=some ti→TyOk P t ti) (m:Bool) (x:A) (key:V) (t:TypeId) (ts:List TypeId):Out bad (mdelK bad Γ m fl h t x key λ h=>k (.tup []) h nx) (OutB P fl fd .delete (t::ts) [.at x,key] h nx k):=by
  unfold mdelK
  refine mtyK_ok hΓ t λ ta tb tbi hu ⟨ka,hka⟩ htb=>?_
  split
  . rcases chkV_ok (bad:=bad) hΓ m 100 10000 (by decide) ta key _ with e|⟨hck,e⟩
    . exact .inl e
    . rw [e]
      refine .inr ⟨_,h,nx,λ ρ w xs ty consts hv hr=>?_,rfl⟩
      obtain ⟨x',y',rfl,hx,hy⟩:=hv.two
      have hx:=hx.atom
      cases hx
      have h4:=hck ρ _ hy
      exact ⟨_,ρ,w,by simp [builtin,Builtin.delete_,und_run hu,h4],VR.tup0 ρ,Stp.refl hr⟩
  . rename_i r
    refine out_if λ hfl=>?_
    have hfl:fl≤r:=Nat.le_of_ble_eq_true hfl
    rcases mapK_ok (bad:=bad) (h:=h) (b:=r) with e|⟨es,c,hh,e⟩
    . exact .inl e
    rw [e]
    rcases chkV_ok (bad:=bad) hΓ m 100 10000 (by decide) ta key _ with e|⟨hck,e⟩
    . exact .inl e
    rw [e]
    rcases findK_ok (bad:=bad) hΓ m ta key es 0 _ _ with e|⟨j,q,v0,s,hf,e⟩|⟨hf,e⟩
    . exact .inl e
    . rw [e]
      rw [Nat.zero_add]
      refine (setK_ok (bad:=bad) (h:=h) r (.map (es.eraseIdx j) c) _).out λ h' hg=>.inr ⟨_,h',nx,λ ρ w xs ty consts hv hr=>?_,rfl⟩
      obtain ⟨x',y',rfl,hx,hy⟩:=hv.two
      have hx:=hx.atom
      cases hx with
      | map _ p hp =>
        obtain ⟨L,h5,h6⟩:=hr.map hh hp
        obtain ⟨en,g1,g2,g3,g4,g5⟩:=hf.2 ρ _ L hy h6
        have h4:=hck ρ _ hy
        have h7:=run_getObj (P:=P) h5
        have h8:(Instr.findKey ta y' L).run P w=.ok (some (j,en.val)) w:=by have:=run_findKey hka (g5 w 0);rwa [Nat.zero_add] at this
        obtain ⟨w',e1,e2,e3⟩:=run_setObj (P:=P) (.map (L.eraseIdx j).toArray c) h5
        refine ⟨_,ρ,w',by simp [builtin,Builtin.delete_,und_run hu,h7,h4,h8,e1],VR.tup0 ρ,stp_map hr hh hp hfl (h6.erase j) e3 e2 hg⟩
    . rw [e]
      refine (setK_ok (bad:=bad) (h:=h) r (.map es c) _).out λ h' hg=>.inr ⟨_,h',nx,λ ρ w xs ty consts hv hr=>?_,rfl⟩
      obtain ⟨x',y',rfl,hx,hy⟩:=hv.two
      have hx:=hx.atom
      cases hx with
      | map _ p hp =>
        obtain ⟨L,h5,h6⟩:=hr.map hh hp
        have g5:=hf ρ _ L hy h6
        have h4:=hck ρ _ hy
        have h7:=run_getObj (P:=P) h5
        have h8:(Instr.findKey ta y' L).run P w=.ok none w:=run_findKey hka (g5 w 0)
        obtain ⟨w',e1,e2,e3⟩:=run_setObj (P:=P) (.map L.toArray c) h5
        refine ⟨_,ρ,w',by simp [builtin,Builtin.delete_,und_run hu,h7,h4,h8,e1],VR.tup0 ρ,stp_map hr hh hp hfl h6 e3 e2 hg⟩
  . exact .inl rfl
theorem mclr_ok {Γ : Ctx} (hΓ : ∀ t ti,Γ.ty.get t=some ti→TyOk P t ti) (x:A) (t:TypeId) (ts:List TypeId):Out bad (mclrK bad Γ fl h t x λ h=>k (.tup []) h nx) (OutB P fl fd .clear (t::ts) [.at x] h nx k):=by
  unfold mclrK
  refine mtyK_ok hΓ t λ ta tb tbi hu ⟨ka,hka⟩ htb=>?_
  split
  . refine .inr ⟨_,h,nx,λ ρ w xs ty consts hv hr=>?_,rfl⟩
    obtain ⟨x',rfl,hx⟩:=hv.one
    have hx:=hx.atom
    cases hx
    exact ⟨_,ρ,w,by simp [builtin,Builtin.clear_,und_run hu],VR.tup0 ρ,Stp.refl hr⟩
  . rename_i r
    refine out_if λ hfl=>?_
    have hfl:fl≤r:=Nat.le_of_ble_eq_true hfl
    rcases mapK_ok (bad:=bad) (h:=h) (b:=r) with e|⟨es,c,hh,e⟩
    . exact .inl e
    rw [e]
    refine (setK_ok (bad:=bad) (h:=h) r (.map [] c) _).out λ h' hg=>.inr ⟨_,h',nx,λ ρ w xs ty consts hv hr=>?_,rfl⟩
    obtain ⟨x',rfl,hx⟩:=hv.one
    have hx:=hx.atom
    cases hx with
    | map _ p hp =>
      obtain ⟨L,h5,h6⟩:=hr.map hh hp
      have h7:=run_getObj (P:=P) h5
      obtain ⟨w',e1,e2,e3⟩:=run_setObj (P:=P) (.map #[] c) h5
      refine ⟨_,ρ,w',by simp [builtin,Builtin.clear_,und_run hu,h7,e1],VR.tup0 ρ,stp_map (L':=[]) hr hh hp hfl .nil e3 e2 hg⟩
  . exact .inl rfl
theorem cap_ok {Γ : Ctx} (hΓ : ∀ t ti,Γ.ty.get t=some ti→TyOk P t ti) (m:Bool) (v:V) (t:TypeId) (ts:List TypeId):Out bad (tyK bad Γ t λ ti=>atK bad v λ a=>match capT ti.k a with|some n=>intLen m n h nx bad k|none=>bad) (OutB P fl fd .cap (t::ts) [v] h nx k):=by
  refine (tyK_ok hΓ t _).out λ ti hti=>(atK_ok v _).out λ a ha=>?_
  subst ha
  split
  . rename_i n hn
    refine intLen_ok m n λ ρ xs hv w ty consts=>?_
    obtain ⟨x,rfl,hx⟩:=hv.one
    unfold capT at hn
    split at hn<;>first|(cases hn;done)|skip
    . rename_i hk
      cases hn
      have hx:=hx.atom
      cases hx
      simp [builtin,Builtin.cap_,underlying,hti.sl hk]
    . rename_i hk
      cases hn
      have hx:=hx.atom
      cases hx
      simp [builtin,Builtin.cap_,underlying,hti.sl hk]
  . exact .inl rfl
inductive ARs (ρ : Plc):List A→List Value→Prop
  | nil:ARs ρ [] []
  | cons (a:A) (x:Value) (as:List A) (xs:List Value) (h:AR ρ a x) (hs:ARs ρ as xs):ARs ρ (a::as) (x::xs)
theorem atsK_ok:∀ (vs:List V) (k:List A→R),Ok1 bad (builtinK.atsK bad vs k) k λ as=>∀ ρ xs,VRs ρ vs xs→ARs ρ as xs
  | [],k=>.inr ⟨[],λ ρ xs h=>by cases h;exact .nil,rfl⟩
  | v::vs,k=>by
    cases v with
    | «at» a =>
      show Ok1 bad (builtinK.atsK bad vs λ az=>k (a::az)) k _
      refine (atsK_ok vs _).bind λ az has=>.inr ⟨_,λ ρ xs h=>?_,rfl⟩
      cases h with
      | cons _ x _ xs h hs=>exact .cons _ _ _ _ h.atom (has ρ xs hs)
    | _=>exact .inl rfl
theorem minK_ok (big:Bool) (f:Value→Value→Sem Value) (hf:f=(if big then Builtin.max2 else Builtin.min2)):∀ (ys:List A) (x:A) (k:V→R),Ok1 bad (minK bad big x ys k) k λ v=>∀ ρ x' ys',AR ρ x x'→ARs ρ ys ys'→∀ w,∃ z,(ys'.foldlM f x').run P w=.ok z w∧VR ρ v z
  | [],x,k=>.inr ⟨_,λ ρ x' ys' hx hy w=>by cases hy;exact ⟨x',by simp,.at _ _ hx⟩,rfl⟩
  | y::ys,x,k=>by
    unfold minK
    split
    . rename_i ka a kb b
      refine out_ok1 λ hk=>?_
      have hk:=kn_inj hk
      subst hk
      have step:∀ (c:Nat),(∀ ρ x' y',AR ρ (.int ka a) x'→AR ρ (.int ka b) y'→∀ w,∃ z,(f x' y').run P w=.ok z w∧AR ρ (.int ka c) z)→Ok1 bad (minK bad big (.int ka c) ys k) k λ v=>∀ ρ x' ys',AR ρ (.int ka a) x'→ARs ρ (.int ka b::ys) ys'→∀ w,∃ z,(ys'.foldlM f x').run P w=.ok z w∧VR ρ v z:=by
        intro c hc
        refine (minK_ok big f hf ys (.int ka c) k).mono λ v hv ρ x' ys' hx hy w=>?_
        cases hy with
        | cons _ y' _ ys' hy hys =>
          obtain ⟨z,h1,h2⟩:=hc ρ x' y' hx hy w
          obtain ⟨z2,h3,h4⟩:=hv ρ z ys' h2 hys w
          exact ⟨z2,by simp [List.foldlM_cons,h1,h3],h4⟩
      cases big with
      | false =>
        simp only [Bool.false_eq_true,if_false] at hf
        subst hf
        simp only [cond_false]
        cases hlt:Nat.blt (sb ka b) (sb ka a) with
        | true =>
          have hlt:=blt_t hlt
          refine step b λ ρ x' y' hx hy w=>?_
          cases hx with
          | int _ _ ha=>cases hy with
            | int _ _ hb=>exact ⟨_,by simp [Builtin.min2,(sb_lt hb ha).2 hlt],.int _ _ hb⟩
        | false =>
          have hlt:=blt_f hlt
          refine step a λ ρ x' y' hx hy w=>?_
          cases hx with
          | int _ _ ha=>cases hy with
            | int _ _ hb =>
              have:¬ (ka.wrap (b:Int)<ka.wrap (a:Int)):=λ h=>hlt ((sb_lt hb ha).1 h)
              exact ⟨_,by simp [Builtin.min2,this],.int _ _ ha⟩
      | true =>
        simp only [if_true] at hf
        subst hf
        simp only [cond_true]
        cases hlt:Nat.blt (sb ka a) (sb ka b) with
        | true =>
          have hlt:=blt_t hlt
          refine step b λ ρ x' y' hx hy w=>?_
          cases hx with
          | int _ _ ha=>cases hy with
            | int _ _ hb=>exact ⟨_,by simp [Builtin.max2,(sb_lt ha hb).2 hlt],.int _ _ hb⟩
        | false =>
          have hlt:=blt_f hlt
          refine step a λ ρ x' y' hx hy w=>?_
          cases hx with
          | int _ _ ha=>cases hy with
            | int _ _ hb =>
              have:¬ (ka.wrap (a:Int)<ka.wrap (b:Int)):=λ h=>hlt ((sb_lt ha hb).1 h)
              exact ⟨_,by simp [Builtin.max2,this],.int _ _ ha⟩
    . exact .inl rfl
theorem elem2K_ok {Γ : Ctx} (hΓ : ∀ t ti,Γ.ty.get t=some ti→TyOk P t ti) {t:TypeId} {ti:TI} (hT:TyOk P t ti) (k:Nat→TI→R):Ok2 bad (elem2K bad Γ ti.k k) k λ e te=>P.underlying t=some (.slice e)∧TyOk P e te:=by
  unfold elem2K tyK
  split
  . rename_i e he
    split
    . rename_i te hte
      exact .inr ⟨e,te,⟨hT.sl he,hΓ e te hte⟩,rfl⟩
    . exact .inl rfl
  . exact .inl rfl
theorem zero_x {ρ : Plc} {w:World} {t t2 e:TypeId} {te ti2:TI} {kd2:IntKind} {n:Nat} (hu:P.underlying t=some (.slice e)) (hte:TyOk P e te) (hti2:TyOk P t2 ti2) (hk2:ti2.k=.int kd2) (hfit:fitsB te n=true) (kd:IntKind):SrcX P ρ w t t2 e te n (zerosR n te) (.int kd (n:Int)):=by
  obtain ⟨f0,f1⟩:=two_t hfit
  obtain ⟨f1,f2⟩:=two_t f1
  have f1:n≤1000000000000:=Nat.le_of_ble_eq_true f1
  have f2:n*te.bytes≤140737488355328:=Nat.le_of_ble_eq_true f2
  obtain ⟨u2,hu2,hd⟩:=hti2.u
  rw [hk2] at hd
  have hu2:∃ kk,P.underlying t2=some (.int kk):=by
    cases u2<;>first|exact ⟨_,hu2⟩|cases hd
  obtain ⟨kk,hu2⟩:=hu2
  obtain ⟨i,z,hi,hs,hb,hz,hza,hzs,hzr⟩:=hte.i
  have w1:IntKind.i64.wrap (n:Int)=(n:Int):=wrap_lo (k:=.i64) (show n<9223372036854775808 by omega)
  have b1:¬ ((n:Int)<0):=by omega
  have b2:¬ (281474976710656<(n:Int)*(te.bytes:Int)):=by
    have:=Int.ofNat_le.2 f2
    rw [Int.natCast_mul] at this
    omega
  have hzc:Builtin.zeroCells z.cells n=(List.replicate n z.cells.toList).flatten.toArray:=by
    have:=zero_cells (n:=n) hzs
    unfold Builtin.zeroCells
    rw [hzs]
    rw [hzs] at this
    exact this
  have hlen:(List.replicate n z.cells.toList).flatten.length=n*te.size:=by simp [← hzs]
  have h0:n*te.size=0→(List.replicate n z.cells.toList).flatten=[]:=λ h=>List.eq_nil_of_length_eq_zero (hlen.trans h)
  refine ⟨(List.replicate n z.cells.toList).flatten,zero_flat (hzr ρ) hzs n,hlen,λ ty base l c w' hr h1 h2=>?_,λ ty base l c olds ho hg hf=>?_⟩
  . cases base with
    | none =>
      have:=h2 rfl
      subst this
      by_cases hn0:n*te.size=0
      . simp [Builtin.append_,underlying,hu,hu2,hte.run_size,asInt,asIntOf,w1,b1,typeInfo,hi,hb,b2,hn0,hr]
      . simp [Builtin.append_,underlying,hu,hu2,hte.run_size,asInt,asIntOf,w1,b1,typeInfo,hi,hb,b2,hn0,hr,zeroValue,hz]
    | some a =>
      have:=h1 a rfl
      by_cases hn0:n*te.size=0
      . rw [h0 hn0] at this
        simp [Builtin.append_,underlying,hu,hu2,hte.run_size,asInt,asIntOf,w1,b1,typeInfo,hi,hb,b2,hn0,hr,this]
      . simp [Builtin.append_,underlying,hu,hu2,hte.run_size,asInt,asIntOf,w1,b1,typeInfo,hi,hb,b2,hn0,hr,zeroValue,hz,hzc,this]
  . obtain ⟨g0,g1⟩:=two_t hf
    obtain ⟨g1,g2⟩:=two_t g1
    have g1:l+n≤1000000000000:=Nat.le_of_ble_eq_true g1
    have g2:(l+n)*te.bytes≤140737488355328:=Nat.le_of_ble_eq_true g2
    have hfits:=growslice_fits (need:=l+n) (old:=c) (bytes:=te.bytes) hg g2
    have hn:¬ (l+n≤c):=by omega
    have h63':¬ (9223372036854775807<((l:Int)+(n:Int))):=by omega
    have h48':¬ (281474976710656<Builtin.nextslicecap (l+n) c*te.bytes):=by omega
    refine ⟨Builtin.zeroCells z.cells (grownCap w (l+n) c e-(l+n)),by rw [size_zeroCells,hzs],?_⟩
    by_cases hn0:n*te.size=0
    . rw [h0 hn0]
      simp [Builtin.append_,underlying,hu,hu2,sizeOf,typeInfo,zeroValue,hi,hz,hb,hn,h63',h48',Question.forced,ho,newRow,grownCap,asInt,asIntOf,w1,b1,b2,hs,hn0]
    . simp [Builtin.append_,underlying,hu,hu2,sizeOf,typeInfo,zeroValue,hi,hz,hb,hn,h63',h48',Question.forced,ho,newRow,grownCap,asInt,asIntOf,w1,b1,b2,hs,hn0,hzc]
      congr 2;apply Array.ext';simp
theorem builtinK_ok {Γ : Ctx} (hΓ : ∀ t ti,Γ.ty.get t=some ti→TyOk P t ti) (hf:fd≤fl) (m:Bool) (b:Builtin) (ts:List TypeId) (vs:List V):Out bad (builtinK bad Γ m fl fd b ts vs h nx k) (OutB P fl fd b ts vs h nx k):=by
  unfold builtinK
  split
  . split
    . exact len_ok hΓ m _ _ _
    . exact .inl rfl
  . split
    . exact mdel_ok hΓ m _ _ _ _
    . exact .inl rfl
  . split
    . exact mclr_ok hΓ _ _ _
    . exact .inl rfl
  . split
    . exact cap_ok hΓ m _ _ _
    . exact .inl rfl
  . split
    . rename_i x vs
      refine (atsK_ok vs _).out λ ys hys=>(minK_ok (P:=P) false Builtin.min2 rfl ys x _).out λ v hv=>pureB_out λ ρ xs hvs w ty consts=>?_
      cases hvs with
      | cons _ x' _ xs' hx hxs =>
        obtain ⟨z,h1,h2⟩:=hv ρ x' xs' hx.atom (hys ρ xs' hxs) w
        exact ⟨z,by simp [builtin,Builtin.min_,h1],h2⟩
    . exact .inl rfl
  . split
    . rename_i x vs
      refine (atsK_ok vs _).out λ ys hys=>(minK_ok (P:=P) true Builtin.max2 rfl ys x _).out λ v hv=>pureB_out λ ρ xs hvs w ty consts=>?_
      cases hvs with
      | cons _ x' _ xs' hx hxs =>
        obtain ⟨z,h1,h2⟩:=hv ρ x' xs' hx.atom (hys ρ xs' hxs) w
        exact ⟨z,by simp [builtin,Builtin.max_,h1],h2⟩
    . exact .inl rfl
  ·
    split
    . rename_i s x t t2 ts
      refine (tyK_ok hΓ t _).out λ ti hti=>(elem2K_ok hΓ hti _).out λ e te he=>(tyK_ok hΓ t2 _).out λ ti2 hti2=>?_
      have ext:∀ ty s' x',(Builtin.append_ (t::t2::ts).toArray ty [s',x'].toArray)=Builtin.append_ #[t,t2] ty #[s',x']:=λ ty s' x'=>rfl
      cases hni:notInt ti2.k with
      | true =>
        rw [cond_true]
        obtain ⟨u2,hu2,hn2⟩:=notInt_ok hti2 hni
        refine (lenA_ok (P:=P) x _).out λ n hn=>(srcK_ok (P:=P) (nx:=nx) m x te.size n _).out λ q hq=>?_
        rcases appK_ok (P:=P) (bad:=bad) (h:=h) (nx:=nx) m (t:=t) (t2:=t2) (e:=e) (te:=te) hf s n q k with e1|⟨v,h',nx',hok,e1⟩
        . exact .inl e1
        . refine .inr ⟨v,h',nx',λ ρ w xs ty consts hvs hr=>?_,e1⟩
          obtain ⟨s',x',rfl,hs',hx'⟩:=hvs.two
          obtain ⟨cs,c1,c2,c3⟩:=hq ρ w x' hr hx'.atom
          obtain ⟨y,ρ',w',h1,h2,h3⟩:=hok ρ w s' x' ty hs'.atom hr (src_x he.1 he.2 hu2 hn2 ⟨hn ρ x' hx'.atom w,cs,c1,c2,c3⟩)
          refine ⟨y,ρ',w',?_,h2,h3⟩
          simp only [builtin,ext,Sem.run_bind,h1,Result.andThen_ok,Sem.run_pure]
      | false =>
        rw [cond_false]
        split
        . rename_i kd2 hk2
          refine (idxK_ok x _).out λ n hn=>out_if λ hfit=>?_
          rcases appK_ok (P:=P) (bad:=bad) (h:=h) (nx:=nx) m (t:=t) (t2:=t2) (e:=e) (te:=te) hf s n (zerosR n te) k with e1|⟨v,h',nx',hok,e1⟩
          . exact .inl e1
          . refine .inr ⟨v,h',nx',λ ρ w xs ty consts hvs hr=>?_,e1⟩
            obtain ⟨s',x',rfl,hs',hx'⟩:=hvs.two
            obtain ⟨kd,rfl⟩:=hn ρ x' hx'.atom
            obtain ⟨y,ρ',w',h1,h2,h3⟩:=hok ρ w s' _ ty hs'.atom hr (zero_x he.1 he.2 hti2 hk2 hfit kd)
            refine ⟨y,ρ',w',?_,h2,h3⟩
            simp only [builtin,ext,Sem.run_bind,h1,Result.andThen_ok,Sem.run_pure]
        . exact .inl rfl
    . exact .inl rfl
  ·
    split
    . rename_i d x t ts
      refine (tyK_ok hΓ t _).out λ ti hti=>(elem2K_ok hΓ hti _).out λ e te he=>out_if λ hsl=>(lenA_ok (P:=P) d _).out λ p hp=>(lenA_ok (P:=P) x _).out λ n0 hn0=>?_
      rw [natK_eq]
      refine out_if λ hlt=>?_
      have hlt:=blt_t hlt
      have hmin:(bif Nat.ble n0 p then n0 else p)=Nat.min n0 p:=by
        rw [ble_dec]
        by_cases h:n0≤p
        . simp only [h,decide_true,cond_true];exact (Nat.min_eq_left h).symm
        . simp only [h,decide_false,cond_false];exact (Nat.min_eq_right (by omega)).symm
      rw [hmin] at hlt ⊢
      generalize hnn:Nat.min n0 p=n at hlt ⊢
      refine (srcK_ok (P:=P) (nx:=nx) m x te.size n _).out λ q hq=>?_
      have fin:∀ ρ : Plc,VR ρ (.at (.int .i64 n)) (goInt (n:Int)):=λ ρ=>by
        have:=AR.int (ρ:=ρ) .i64 n (show n<18446744073709551616 by omega)
        rw [wrap_lo (k:=.i64) hlt] at this
        exact .at _ _ this
      have sl:∀ ρ d',AR ρ d d'→∃ base l c,d'=.slice base l c:=λ ρ d' hd=>by
        cases hd<;>first|exact ⟨_,_,_,rfl⟩|cases hsl
      have dl:∀ ρ base l c w,AR ρ d (.slice base l c)→(Builtin.lenOf (.slice base l c)).run P w=.ok p w→l=p:=λ ρ base l c w _ h=>by simpa [Builtin.lenOf] using h
      cases h0:Nat.beq n 0 with
      | true =>
        have h0:=Nat.eq_of_beq_eq_true h0
        refine .inr ⟨_,h,nx,λ ρ w xs ty consts hvs hr=>?_,rfl⟩
        obtain ⟨d',x',rfl,hd',hx'⟩:=hvs.two
        obtain ⟨cs,c1,c2,c3⟩:=hq ρ w x' hr hx'.atom
        obtain ⟨base,l,c,rfl⟩:=sl ρ d' hd'.atom
        have hl:=dl ρ base l c w hd'.atom (hp ρ _ hd'.atom w)
        subst hl
        have:cs=[]:=List.eq_nil_of_length_eq_zero (by rw [c2,h0,Nat.zero_mul])
        subst this
        refine ⟨goInt (n:Int),ρ,w,?_,fin ρ,Stp.refl hr⟩
        have hq0:=c3 w rfl
        have hx0:=hn0 ρ x' hx'.atom w
        cases base<;>simp [builtin,Builtin.copy_,underlying,he.1,he.2.run_size,hx0,hnn,hq0,storeCells]
      | false =>
        rw [cond_false]
        have h0:=Nat.ne_of_beq_eq_false h0
        have common:∀ (b o:Nat),(∀ ρ d',AR ρ d d'→∃ pl l c,ρ b=some pl∧d'=.slice (some ⟨pl.blk,pl.sh+o,none⟩) l c∨n=0)→Out bad (okK bad (Nat.ble fl b) (cellsK bad h b λ bt r=>r.upd bad m o (Nat.mul n te.size) q λ r=>setK bad h b (.cells bt r) λ h=>k (.at (.int .i64 n)) h nx)) (OutB P fl fd .copy (t::ts) [.at d,.at x] h nx k):=by
          intro b o hd
          refine out_if λ hfl=>(cellsK_ok h b _).out λ bt r hb=>(upd_ok bad m r o (Nat.mul n te.size) q _).out λ r' hr'=>(setK_ok b _ _).out λ h' hget=>.inr ⟨_,h',nx,λ ρ w xs ty consts hvs hr=>?_,rfl⟩
          have hfl:=Nat.le_of_ble_eq_true hfl
          obtain ⟨d',x',rfl,hd',hx'⟩:=hvs.two
          obtain ⟨cs,c1,c2,c3⟩:=hq ρ w x' hr hx'.atom
          obtain ⟨pl,l,c,hdd⟩:=hd ρ d' hd'.atom
          obtain ⟨hp1,rfl⟩:=hdd.resolve_right h0
          have hl:=dl ρ _ l c w hd'.atom (hp ρ _ hd'.atom w)
          subst hl
          obtain ⟨w',s1,s2⟩:=mem_over (P:=P) (fl:=fl) (fd:=fd) hr hb hp1 hfl c1.one (λ cs0 hcs0=>by
            have:=hr' ρ cs0 cs hcs0 c1 c2
            exact ⟨by rw [c2];exact this.1,this.2⟩) hget
          refine ⟨goInt (n:Int),ρ,w',?_,fin ρ,s2⟩
          have hq0:=c3 w rfl
          have hx0:=hn0 ρ x' hx'.atom w
          simp [builtin,Builtin.copy_,underlying,he.1,he.2.run_size,hx0,hnn,hq0,s1]
        have np:∀ ρ d' l,AR ρ d d'→(Builtin.lenOf d').run P default=.ok p default→d'=.slice none l l→True:=λ _ _ _ _ _ _=>trivial
        split
        . rename_i b o l c
          refine common b o λ ρ d' hd=>?_
          have hpl:=hp ρ d' hd default
          cases hd with
          | slice _ _ _ _ o' pl h1 h2 h3 h4 =>
            have hl:l=p:=by simpa [Builtin.lenOf] using hpl
            refine ⟨pl,l,c,?_⟩
            rcases h4 with h4|h4
            . left;rw [h4];exact ⟨h1,rfl⟩
            . right
              have:p=0:=by omega
              rw [← hnn,this];exact Nat.min_zero n0
        . rename_i b o l z
          refine common b o λ ρ d' hd=>?_
          have hpl:=hp ρ d' hd default
          cases hd with
          | slu _ _ _ _ c o' pl h1 h2 h3 h4 h5 =>
            have hl:l=p:=by simpa [Builtin.lenOf] using hpl
            refine ⟨pl,l,c,?_⟩
            rcases h4 with h4|h4
            . left;rw [h4];exact ⟨h1,rfl⟩
            . right
              have:p=0:=by omega
              rw [← hnn,this];exact Nat.min_zero n0
        . exact .inl rfl
    . exact .inl rfl
  . exact .inl rfl
end
end Go.E
namespace Go.E
open Go Go.RowKit Go.V
variable [LoopTab] [Gl]
def calS (g:Fn) (xs:Array Value):Sem Next:=match g with
  | .func f=>callFunc f xs
  | .yield l=>Instr.yield l xs
  | _=>throw ""
def CalR (ρ : Plc):Cal→Fn→Prop
  | .fn f,g=>g=.func f
  | .yld b,g=>∃ p,ρ b=some p∧g=.yield p.blk
def CallM (P:Program) (fl fd:Nat) (c:Cal) (vs:List V) (h:H) (nx:Nat) (v:V) (h':H) (nx':Nat):Prop :=
  ∀ ρ w xs g,CalR ρ c g→VRs ρ vs xs→Rel ρ h.get nx w→Res P (λ x w'=>∃ ρ',VR ρ' v x∧Stp fl fd ρ h.get nx w ρ' h'.get nx' w') ((calS g xs.toArray).run P w)
def Enters (P:Program) (Γ : Ctx) (c:Cal):Prop:=∀ f,c=.fn f→Γ.con.get f=none→∀ xs w,(callFunc f xs).run P w=.ok (.enter f xs) w
def CallOk {R:Type} (bad:R) (P:Program) (Γ : Ctx) (C:CallF R):Prop :=
  ∀ fl fd,fd≤fl→∀ f vs h nx k,Out bad (C fl fd f vs h nx k) λ e=>∃ v h' nx',(CallM P fl fd f vs h nx v h' nx'∧Enters P Γ f)∧e=k v h' nx'
section
variable {R:Type} {bad:R} {P:Program} {fl fd:Nat} {env:En} {h:H} {nx:Nat} {o:Op} {k:V→H→Nat→R}
theorem VRs.append {ρ : Plc} {us vs:List V} {xs ys:List Value} (h:VRs ρ us xs) (k:VRs ρ vs ys):VRs ρ (us++vs) (xs++ys):=by
  induction h with
  | nil=>exact k
  | cons v x vs xs hv _ ih=>exact .cons _ _ _ _ hv ih
theorem VRs.mono {ρ ρ':Plc} (hρ : ρ.le ρ') {us:List V} {xs:List Value} (h:VRs ρ us xs):VRs ρ' us xs:=by
  induction h with
  | nil=>exact .nil
  | cons v x vs xs hv _ ih=>exact .cons _ _ _ _ (hv.mono hρ) ih
theorem atL_ok {ρ : Plc}:∀ {as:List A} {xs:List Value},as.length=xs.length→(∀ (i:Nat) (a:A) (v:Value),as[i]? = some a→xs[i]? = some v→AR ρ a v)→VRs ρ (atL as) xs
  | [],[],_,_=>.nil
  | [],x::xs,hl,_=>by cases hl
  | a::as,[],hl,_=>by cases hl
  | a::as,x::xs,hl,h=>.cons _ _ _ _ (.at _ _ (h 0 a x rfl rfl)) (atL_ok (by simpa using hl) λ i b v h1 h2=>h (i+1) b v (by simpa using h1) (by simpa using h2))
theorem evO_ok {Γ : Ctx} (hΓ : ∀ t ti,Γ.ty.get t=some ti→TyOk P t ti) {C:CallF R} (hC:CallOk bad P Γ C) (hf:fd≤fl) (m:Bool) (o:Op):Out bad (evO bad C Γ m fl fd o env h nx k) (OutO P fl fd env h nx o k):=by
  unfold evO
  split
  . rename_i c
    split
    . rename_i f hc
      refine (eA_ok m env f _).out λ fa hfa=>?_
      split
      . rename_i g fs cs
        refine (eOs_ok m env _ _).out λ vs hvs=>?_
        refine (hC fl fd hf (.fn g) (atL fs++(vs++atL cs)) h nx k).imp id λ ⟨v,h',nx',⟨hm,_⟩,e⟩=>⟨v,h',nx',λ ρ n a w he hr d ty pos aft gd=>?_,e⟩
        have hx:=hfa ρ n a he
        generalize hfx:a.eval f=x at hx
        cases hx with
        | fn _ _ _ xs ys h1 h2 h3 h4 =>
          have hv:=hm ρ w (xs++((c.args.toList.map a.eval)++ys)) (.func g) rfl ((atL_ok h1 h3).append ((hvs ρ n a he).append (atL_ok h2 h4))) hr
          have e2:(execOp a.eval ⟨d,.call c,ty,pos,aft,gd⟩).run P w=(callFunc g (xs++((c.args.toList.map a.eval)++ys)).toArray).run P w:=by
            simp only [execOp,resolve,hc,hfx,Deferred.ofValue,Sem.run_bind,Sem.run_pure,Result.andThen_ok,invoke]
            congr 2
            apply Array.ext'
            simp
          rw [e2]
          exact hv
      . rename_i b
        refine (eOs_ok m env _ _).out λ vs hvs=>?_
        refine (hC fl fd hf (.yld b) vs h nx k).imp id λ ⟨v,h',nx',⟨hm,_⟩,e⟩=>⟨v,h',nx',λ ρ n a w he hr d ty pos aft gd=>?_,e⟩
        have hx:=hfa ρ n a he
        generalize hfx:a.eval f=x at hx
        cases hx with
        | yld _ p hp =>
          have hv:=hm ρ w (c.args.toList.map a.eval) (.yield p.blk) ⟨p,hp,rfl⟩ (hvs ρ n a he) hr
          have e2:(execOp a.eval ⟨d,.call c,ty,pos,aft,gd⟩).run P w=(Instr.yield p.blk (c.args.toList.map a.eval).toArray).run P w:=by
            simp only [execOp,resolve,hc,hfx,Deferred.ofValue,Sem.run_bind,Sem.run_pure,Result.andThen_ok,invoke]
            congr 2
            apply Array.ext'
            simp
          rw [e2]
          exact hv
      . exact .inl rfl
    . rename_i b hc
      refine (eOs_ok m env _ _).out λ vs hvs=>(builtinK_ok hΓ hf m b c.argTypes.toList vs).imp id λ ⟨v,h',nx',hm,e⟩=>⟨v,h',nx',λ ρ n a w he hr d ty pos aft gd=>?_,e⟩
      obtain ⟨x,ρ',w',h1,h2,h3⟩:=hm ρ w (c.args.toList.map a.eval) ty (c.args.map fun|.const _=>true|_=>false) (hvs ρ n a he) hr
      have e2:(execOp a.eval ⟨d,.call c,ty,pos,aft,gd⟩).run P w=.ok (.value x) w':=by
        simp only [execOp,resolve,hc,Sem.run_bind,Sem.run_pure,Result.andThen_ok,invoke]
        have e3:c.args.map a.eval=(c.args.toList.map a.eval).toArray:=by apply Array.ext';simp
        have e4:c.argTypes=c.argTypes.toList.toArray:=by simp
        rw [e3,e4]
        exact h1
      rw [e2]
      exact ⟨ρ',h2,h3⟩
    . rename_i x s hc
      refine (eA_ok m env x _).out λ fa hfa=>?_
      split
      . rename_i t g cs
        unfold tyK
        split
        rotate_left
        . exact .inl rfl
        rename_i ti hti
        refine (mtK_ok s ti.ms _).out λ q hq=>(ifV_ok m g cs _).out λ v hv=>(eOs_ok m env _ _).out λ vs hvs=>?_
        have hmt:=mtB_ok ((hΓ t ti hti).ms s q hq)
        refine (hC fl fd hf (.fn q) (v::vs) h nx k).imp id λ ⟨u,h',nx',⟨hm,_⟩,e⟩=>⟨u,h',nx',λ ρ n a w he hr d ty pos aft gd=>?_,e⟩
        obtain ⟨y,hy,hvy⟩:=hv _ ρ _ (hfa ρ n a he)
        have hv:=hm ρ w (y::c.args.toList.map a.eval) (.func q) rfl (.cons _ _ _ _ hvy (hvs ρ n a he)) hr
        have e2:(execOp a.eval ⟨d,.call c,ty,pos,aft,gd⟩).run P w=(callFunc q (y::c.args.toList.map a.eval).toArray).run P w:=by
          have e3 : #[y]++(#[Value.iface t y]++c.args.map a.eval).extract 1 (#[Value.iface t y]++c.args.map a.eval).size=(y::c.args.toList.map a.eval).toArray:=by
            apply Array.ext'
            simp
            exact List.take_of_length_le (by simp)
          have e4:(#[Value.iface t y]++c.args.map a.eval)[0]? = some (Value.iface t y):=by
            rw [Array.getElem?_append_left (by simp)];rfl
          simp only [execOp,resolve,hc,hy,Sem.run_bind,Sem.run_pure,Result.andThen_ok,invoke,e4,callMethod,run_program,hmt (P.types.size+99),show P.types.size+Made.depth=P.types.size+99+1 from rfl,e3]
        rw [e2]
        exact hv
      . exact .inl rfl
  . exact opK_ok hΓ m o
theorem EnvOk.mono {ρ ρ':Plc} (hρ : ρ.le ρ') {n:Nat} {env:En} {a:Act} (h:EnvOk ρ n env a):EnvOk ρ' n env a:=⟨h.size,λ t v ht=>(h.get t v ht).mono hρ,h.gl.mono hρ⟩
theorem EnvOk.put {ρ : Plc} {n:Nat} {env env':En} {a:Act} {d:Nat} {v:V} {x:Value} (h:EnvOk ρ n env a) (hd:d<n) (hv:VR ρ v x) (hg:∀ j,env'.get j=if j=d then some v else env.get j):EnvOk ρ n env' (a.put (some d) x):=by
  have hlt:d<a.tmps.size:=by rw [h.size];exact hd
  refine ⟨by simp [Act.put,h.size],λ t u hu=>?_,h.gl⟩
  rw [hg] at hu
  by_cases ht:t=d
  . subst ht
    rw [if_pos rfl] at hu
    cases hu
    have:(a.put (some t) x).tmps.getD t undef=x:=by simp [Act.put,hlt]
    rw [this]
    exact hv
  . rw [if_neg ht] at hu
    have h1:=h.get t u hu
    have:(a.put (some d) x).tmps.getD t undef=a.tmps.getD t undef:=by
      simp only [Act.put,Array.getD_eq_getD_getElem?]
      rw [Array.getElem?_setIfInBounds_ne (by omega)]
    rw [this]
    exact h1
def dstB (n:Nat) (o:Oper):Bool:=match o.dst with|none=>true|some d=>Nat.blt d n
theorem dstK_ok {k:En→R} {d:Option Nat} (v:V):Ok1 bad (dstK bad env d v k) k λ env'=>∀ ρ n a x,(match d with|none=>true|some d=>Nat.blt d n)=true→EnvOk ρ n env a→VR ρ v x→EnvOk ρ n env' (a.put d x):=by
  unfold dstK
  cases d with
  | none=>exact .inr ⟨env,λ ρ n a x _ he _=>he,rfl⟩
  | some d=>exact (Tr.get_put 64 env d (some v) k).mono λ env' hg ρ n a x hd he hv=>he.put (blt_t hd) hv hg
def Wants (os:List Oper) (env:En) (g:Option (Nat×Bool)) (b:Bool):Prop:=∀ ρ n a,EnvOk ρ n env a→∀ o:Oper,o.guard=g→Region.wanted o (yielded os.toArray a.tmps)=b
theorem guardK_ok {os:List Oper} {g:Option (Nat×Bool)} {yes no:R} {S:R→Prop} (hy:Wants os env g true→Out bad yes S) (hn:Wants os env g false→Out bad no S):Out bad (guardK bad os env g yes no) S:=by
  unfold guardK
  split
  . exact hy λ ρ n a he o ho=>by simp [Region.wanted,ho]
  . rename_i j want
    split
    . exact .inl rfl
    . rename_i p hp
      split
      . exact .inl rfl
      . rename_i s hs
        split
        . rename_i b hb
          have key:∀ ρ n a,EnvOk ρ n env a→yielded os.toArray a.tmps j=some b:=λ ρ n a he=>by
            have h1:=he.get s _ hb
            have h1:=h1.atom
            generalize hx:a.tmps.getD s undef=x at h1
            cases h1
            have hlt:s<a.tmps.size:=by
              rcases Nat.lt_or_ge s a.tmps.size with h|h
              . exact h
              . simp [Array.getElem?_eq_none h,undef] at hx
            have h2:a.tmps[s]? = some (.bool b):=by
              simp [hlt] at hx
              simp [hlt,hx]
            simp [yielded,hp,hs,h2]
          have hw:Wants os env (some (j,want)) (b==want):=λ ρ n a he o ho=>by
            simp only [Region.wanted,ho,key ρ n a he]
            cases b<;>cases want<;>rfl
          cases b<;>cases want
          . exact hy hw
          . exact hn hw
          . exact hn hw
          . exact hy hw
        . rename_i hb
          refine hn λ ρ n a he o ho=>?_
          have h1:=he.get s _ hb
          have hu:a.tmps.getD s undef=undef:=by
            generalize a.tmps.getD s undef=x at h1
            cases h1
            rfl
          have h2:yielded os.toArray a.tmps j=none:=by
            rcases Nat.lt_or_ge s a.tmps.size with h|h
            . have h3 : a.tmps[s]? = some undef := by
                simp [h] at hu
                simp [h,hu]
              simp [yielded,hp,hs,h3,undef]
            . have h3:a.tmps[s]? = none:=Array.getElem?_eq_none h
              simp [yielded,hp,hs,h3]
          simp [Region.wanted,ho,h2]
        . exact .inl rfl
def FR (ro:Option Nat):Fence:={ Fence.wide with round:=ro }
theorem calls_fr {ro:Option Nat} {f:FuncId} {args:Array Value} {w:World} {Φ : Ending→World→Prop} (h:Calls P f args w Φ):CallsIn (FR ro) 0 P f args w Φ :=
  (callsIn_wide (n:=0)).2 h
theorem round_fr {ro:Option Nat} {l:Nat} {f:FuncId} {tmps:Array Value} {a b:Code} {w:World} {Φ : Ending→World→Prop} (h:RoundIn Fence.wide 0 P l f tmps a b w Φ):RoundIn (FR ro) 0 P l f tmps a b w Φ:=h
theorem Res.sem {Φ : Value→World→Prop} {o:Oper} {ρ : Operand→Value} {w:World} (hr:Res P Φ ((execOp ρ o).run P w)) (ro:Option Nat):o.semAt ro ρ = execOp ρ o:=by
  refine Oper.semAt_eq ro ρ o λ c hc=>?_
  unfold execOp at hr
  rw [hc] at hr
  simp only [Sem.run_bind] at hr
  cases hx:(resolve ρ c o.type).run P w with
  | ok d w'=>rw [hx] at hr;exact hr
  | halt x w'=>rw [hx] at hr;exact hr
theorem Res.upon {Φ : Value→World→Prop} {o:Oper} {a:Act} {w:World} (hr:Res P Φ ((execOp a.eval o).run P w)) {K:Act→World→Prop} {Q:Exit→Act→World→Prop} (ro:Option Nat) (h:∀ x w',Φ x w'→K (a.put o.dst x) w'):o.wpIn (FR ro) 0 P a w K Q:=by
  refine ⟨λ _ _=>trivial,?_⟩
  show o.uponIn (FR ro) 0 P a K Q ((o.semAt ro a.eval).run P w)
  rw [hr.sem ro]
  unfold Res at hr
  split at hr
  . rename_i e;rw [e];exact h _ _ hr
  . rename_i e;rw [e];exact h _ _ hr
  . rename_i e;rw [e]
    refine ⟨(λ h=>by cases h),calls_fr (hr.mono λ e w' he=>?_)⟩
    obtain ⟨v,rfl,he⟩:=he
    exact h _ _ he
  . rename_i e;rw [e]
    refine ⟨(λ h=>by cases h),round_fr (hr.mono λ e w' he=>?_)⟩
    obtain ⟨v,rfl,he⟩:=he
    exact h _ _ he
  . exact hr.elim
def RO (w:World) (ro:Option Nat):Prop:=∀ l,ro=some l→IsLoop w l
theorem Act.put_defers (a:Act) (d:Option Nat) (v:Value):(a.put d v).defers=a.defers:=by cases d<;>rfl
theorem RO.stp {ρ ρ':Plc} {g g':Hp} {nx nx':Nat} {w w':World} {ro:Option Nat} (h:RO w ro) (hs:Stp fl fd ρ g nx w ρ' g' nx' w'):RO w' ro:=λ l hl=>hs.lp l (h l hl)
def mkD (r:Nat):Deferred:={ target:=.collected r,args:=#[] }
def Free (ρ : Plc) (g:Hp) (w:World) (D:Nat):Prop:=D<w.heap.size∧∀ b p,g b≠none→ρ b=some p→p.blk≠D
theorem Free.stp {ρ ρ':Plc} {g g':Hp} {nx nx':Nat} {w w':World} {D:Nat} (h:Free ρ g w D) (hs:Stp fl fd ρ g nx w ρ' g' nx' w'):Free ρ' g' w' D∧w'.heap[D]? = w.heap[D]?:=by
  refine ⟨⟨Nat.lt_of_lt_of_le h.1 hs.size,λ b p hb hp=>?_⟩,hs.fr D h.1 λ b p _ hb hp=>h.2 b p hb hp⟩
  rcases hs.live b p hb hp with ⟨h1,h2⟩|⟨_,h2|⟨b0,p0,_,h3,h4,h5⟩⟩
  . exact h.2 b p h1 h2
  . have:=h.1;omega
  . exact h5▸h.2 b0 p0 h3 h4
def Df (a:Act) (w:World) (ρ':Plc) (g':Hp) (a':Act) (w':World):Prop:=∃ ms:List Nat,a'.defers=ms.map mkD++a.defers∧ms.Nodup∧∀ r∈ms,w.heap.size≤r∧Free ρ' g' w' r∧w'.heap[r]? = some (.deferred (some []))
theorem Df.refl {a a':Act} {w w':World} {ρ':Plc} {g':Hp} (h:a'.defers=a.defers):Df a w ρ' g' a' w':=⟨[],h,List.nodup_nil,λ r hr=>by cases hr⟩
theorem Df.trans {a a1 a2:Act} {w w1 w2:World} {ρ1 ρ2:Plc} {g1 g2:Hp} {nx1 nx2:Nat} (h:Df a w ρ1 g1 a1 w1) (k:Df a1 w1 ρ2 g2 a2 w2) (hw:w.heap.size≤w1.heap.size) (hs:Stp fl fd ρ1 g1 nx1 w1 ρ2 g2 nx2 w2):Df a w ρ2 g2 a2 w2:=by
  obtain ⟨ms,h1,h2,h3⟩:=h
  obtain ⟨ns,k1,k2,k3⟩:=k
  refine ⟨ns++ms,by rw [k1,h1];simp,?_,λ r hr=>?_⟩
  . rw [List.nodup_append]
    refine ⟨k2,h2,λ x hx y hy e=>?_⟩
    have h4:=(k3 x hx).1
    have h5:=(h3 y hy).2.1.1
    omega
  . rcases List.mem_append.1 hr with h4|h4
    . obtain ⟨h5,h6⟩:=k3 r h4
      exact ⟨by omega,h6⟩
    . obtain ⟨h5,h6,h7⟩:=h3 r h4
      have:=h6.stp hs
      exact ⟨h5,this.1,this.2.trans h7⟩
def Goes (P:Program) (fl fd:Nat) (env:En) (h:H) (nx:Nat) (n:Nat) (x:Exit) (env':En) (h':H) (nx':Nat) (G:Option Nat→(Exit→Act→World→Prop)→Act→World→Prop):Prop :=
  ∀ ρ a w,EnvOk ρ n env a→Rel ρ h.get nx w→∀ ro,RO w ro→∀ Q:Exit→Act→World→Prop,(∀ ρ' a' w',EnvOk ρ' n env' a'→Stp fl fd ρ h.get nx w ρ' h'.get nx' w'→Df a w ρ' h'.get a' w'→Q x a' w')→G ro Q a w
theorem evL_ok {Γ : Ctx} (hΓ : ∀ t ti, Γ.ty.get t = some ti → TyOk P t ti) {C : CallF R} (hC : CallOk bad P Γ C) (hf : fd ≤ fl) (m : Bool) (n : Nat) (os : List Oper) : ∀ (l : List Oper) (env : En) (h : H) (nx : Nat) (k : En → H → Nat → R), l.all (dstB n) = true →
    Out bad (evL bad C Γ m fl fd os l env h nx k) λ e=>∃ env' h' nx',Goes P fl fd env h nx n .normal env' h' nx' (λ ro Q=>wpListIn (FR ro) 0 P os.toArray Q l)∧e=k env' h' nx'
  | [],env,h,nx,k,_=>.inr ⟨env,h,nx,λ ρ a w he hr ro hro Q hQ=>wpListIn_nil (hQ ρ a w he (Stp.refl hr) (.refl rfl)),rfl⟩
  | o::r,env,h,nx,k,hd=>by
    simp only [List.all_cons,Bool.and_eq_true] at hd
    unfold evL
    refine guardK_ok (λ hw=>?_) λ hw=>?_
    . rcases evO_ok (env:=env) (h:=h) (nx:=nx) (k:=λ v h nx=>dstK bad env o.dst v λ env=>evL bad C Γ m fl fd os r env h nx k) hΓ hC hf m o.op with e|⟨v,h1,nx1,hm,e⟩
      . exact .inl e
      . rw [e]
        refine (dstK_ok v).out λ env1 henv=>?_
        refine (evL_ok hΓ hC hf m n os r env1 h1 nx1 k hd.2).imp id λ ⟨env2,h2,nx2,hg,e2⟩=>⟨env2,h2,nx2,λ ρ a w he hr ro hro Q hQ=>?_,e2⟩
        refine wpListIn_step λ K hK=>?_
        rw [if_pos (hw ρ n a he o rfl)]
        have:=hm ρ n a w he hr o.dst o.type o.pos o.after o.guard
        refine Res.upon this ro λ x w' ⟨ρ',hv,hs⟩=>hK _ _ ?_
        refine hg ρ' _ w' (henv ρ' n a x hd.1 (he.mono hs.le) hv) hs.rel ro (hro.stp hs) Q λ ρ2 a2 w2 he2 hs2 hf2=>hQ ρ2 a2 w2 he2 (hs.trans hs2 hf) (Df.trans (.refl (Act.put_defers ..)) hf2 hs.size hs2)
    . refine (dstK_ok .skip).out λ env1 henv=>?_
      refine (evL_ok hΓ hC hf m n os r env1 h nx k hd.2).imp id λ ⟨env2,h2,nx2,hg,e2⟩=>⟨env2,h2,nx2,λ ρ a w he hr ro hro Q hQ=>?_,e2⟩
      refine wpListIn_step λ K hK=>?_
      rw [if_neg (by rw [hw ρ n a he o rfl];simp)]
      exact ⟨λ _ _=>trivial,hK _ _ (hg ρ _ w (henv ρ n a undef hd.1 he .skip) hr ro hro Q λ ρ2 a2 w2 he2 hs2 hf2=>hQ ρ2 a2 w2 he2 hs2 (Df.trans (.refl (Act.put_defers ..)) hf2 (Nat.le_refl _) hs2))⟩
end
end Go.E
namespace Go.E
open Go Go.RowKit Go.V
variable [LoopTab] [Gl]
def xOf:X→Exit
  | .normal=>.normal
  | .exit i=>.exit i
  | .ret=>.ret
section
variable {R:Type} {bad:R} {P:Program} {fl fd:Nat} {env:En} {h:H} {nx:Nat}
theorem stp_alloc {ρ : Plc} {g:Hp} {w:World} (hr:Rel ρ g nx w) (o:Obj):Stp fl fd ρ g nx w ρ g nx (w.alloc o)∧Free ρ g (w.alloc o) w.heap.size∧(w.alloc o).heap[w.heap.size]? = some o:=by
  have e:(w.alloc o).heap=w.heap.push o:=rfl
  have hold:∀ k,k<w.heap.size→(w.alloc o).heap[k]? = w.heap[k]?:=λ k hk=>by
    rw [e,Array.getElem?_push];rw [if_neg (by omega)]
  refine ⟨⟨λ _ _ h=>h,Nat.le_refl _,⟨λ b p hp=>?_,λ b B hB=>?_,hr.inj,hr.gl⟩,λ _ _ h=>.inl h,λ _ _=>.inl rfl,λ b p h1 h2=>.inl ⟨h1,h2⟩,rfl,rfl,rfl,by rw [e];simp,λ k hk _=>hold k hk,λ k ⟨r,hk⟩=>⟨r,(hold k (Array.getElem?_eq_some_iff.1 hk).1).trans hk⟩⟩,⟨by rw [e];simp,λ b p _ hp=>?_⟩,by rw [e];simp⟩
  . have:=hr.dom b p hp;rw [e];simp;omega
  . obtain ⟨p,hp,hb⟩:=hr.blk b B hB
    refine ⟨p,hp,?_⟩
    rw [hold _ (hr.dom b p hp).2]
    exact hb
  . have:=(hr.dom b p hp).2;omega
theorem enter_ok (hf : fd ≤ fl) {ρ : Plc} {g g' : Hp} {w : World} (hr : Rel ρ g nx w) {ro : Option Nat} (hro : RO w ro) (fn : FuncId) (tmps : Array Value) (ps : Array Tmp) (a b : Code) {q : FuncId} {u : List Bool} {n : Nat}
    (htab:LoopTab.tab q u=some (ps,a,b)) (hsz:tmps.size=n) (henv:∀ t v,env.get t=some v→VR ρ v (tmps.getD t undef)) (hg:∀ j,g' j=if j=nx then some (.loop q (wayN u) (toE2 env) n .ready) else g j) :
    ∃ l ms w1 ρ1,(Instr.enterLoop fn tmps ps a b ro).run P w=.ok (l,List.map mkD ms) w1∧ρ1 nx=some ⟨l,0,0⟩∧Stp fl fd ρ g nx w ρ1 g' (nx+1) w1∧ms.Nodup ∧
      ∀ r∈ms,w.heap.size≤r∧Free ρ1 g' w1 r∧w1.heap[r]? = some (.deferred (some [])):=by
  cases ro with
  | none =>
    obtain ⟨hs0,hf0,hd0⟩:=stp_alloc (fl:=fl) (fd:=fd) hr (.deferred (some []))
    have hs1:=stp_newB (fl:=fl) (fd:=fd) (g':=g') (w':=(w.alloc (.deferred (some []))).alloc (.loop { state:=.ready,pending:=none,fn,tmps,params:=ps,assign:=a,body:=b,defers:=w.heap.size })) (sz:=0) hs0.rel (B0:=.loop q (wayN u) (toE2 env) n .ready)
      (λ ρ' hle=>⟨_,rfl,by rw [wayL_wayN];exact htab,⟨rfl,rfl⟩,hsz,λ t v ht=>(henv t v (ofE2_toE2 ht)).mono hle⟩) rfl rfl rfl rfl hg
    refine ⟨w.heap.size+1,[w.heap.size],_,_,run_enterLoop_outer fn tmps ps a b,?_,hs0.trans hs1 hf,by simp,λ r hr=>?_⟩
    . simp [World.size_alloc]
    . have:=hf0.stp hs1
      cases List.mem_singleton.1 hr
      exact ⟨Nat.le_refl _,this.1,this.2.trans hd0⟩
  | some l0 =>
    obtain ⟨r0,hr0⟩:=hro l0 rfl
    have hs1:=stp_newB (fl:=fl) (fd:=fd) (g':=g') (w':=w.alloc (.loop { state:=.ready,pending:=none,fn,tmps,params:=ps,assign:=a,body:=b,defers:=r0.defers })) (sz:=0) hr (B0:=.loop q (wayN u) (toE2 env) n .ready)
      (λ ρ' hle=>⟨_,rfl,by rw [wayL_wayN];exact htab,⟨rfl,rfl⟩,hsz,λ t v ht=>(henv t v (ofE2_toE2 ht)).mono hle⟩) rfl rfl rfl rfl hg
    exact ⟨w.heap.size,[],_,_,run_enterLoop_inner hr0 fn tmps ps a b,by simp,hs1,by simp,λ r hr=>by cases hr⟩
theorem range_ok {Γ : Ctx} {C : CallF R} (hC : CallOk bad P Γ C) (m : Bool) (hf : fd ≤ fl) (q : FuncId) (n : Nat) (u : List Bool) {g : Operand} {ps : Array Tmp} {ca cb : Code} (htab : LoopTab.tab q u = some (ps, ca, cb)) {k : X → En → H → Nat → R} :
    Out bad (eA bad m env g λ g=>match g with
      | .fn (.func f) fs cs=>match Γ.con.get f with
       | some _=>bad
       | none=>okK bad (Nat.ble fl nx) (setK bad h nx (.loop q (wayN u) (toE2 env) n .ready) λ h=>C fl fd (.fn f) (atL fs++(.at (.yld nx)::atL cs)) h (Nat.succ nx) λ _ h nx1=>match h.get nx with
        | some (.loop q p env1 sz s)=>match s.out? with
          | some x=>setK bad h nx (.loop q p env1 sz .out) λ h=>k x env h nx1
          | none=>bad
        | _=>bad)
      | _=>bad) λ e=>∃ x env' h' nx',Goes P fl fd env h nx n (xOf x) env' h' nx' (λ ro=>(Code.rangeFunc g ps ca cb).wpIn (FR ro) 0 P)∧e=k x env' h' nx':=by
  refine (eA_ok m env g _).out λ fa hfa=>?_
  split
  . rename_i f fs cs
    split
    . exact .inl rfl
    . rename_i hcon
      refine out_if λ hle=>(setK_ok nx _ _).out λ h1 hg1=>?_
      have hle:=Nat.le_of_ble_eq_true hle
      rcases hC fl fd hf (.fn f) (atL fs++(.at (.yld nx)::atL cs)) h1 (Nat.succ nx) _ with e|⟨v,h2,nx2,⟨hm,hent⟩,e⟩
      . exact .inl e
      . rw [e]
        split
        . rename_i q2 p2 env2 sz2 s hs2'
          split
          . rename_i x hx
            refine (setK_ok nx _ _).out λ h3 hg3=>.inr ⟨x,env,h3,nx2,λ ρ a w he hr ro hro Q hQ=>?_,rfl⟩
            refine wpIn_rangeFunc λ fn _=>?_
            obtain ⟨l,ms,w1,ρ1,henter,hρ1,hs1,hnd,hms⟩:=enter_ok (P:=P) (fl:=fl) (fd:=fd) hf hr hro fn a.tmps ps ca cb htab he.size he.get hg1
            have hxv:=hfa ρ n a he
            generalize hfx:a.eval g=gv at hxv
            cases hxv with
            | fn _ _ _ xs ys e1 e2 e3 e4 =>
              have hv:=hm ρ1 w1 (xs++(.func (.yield l) #[] #[]::ys)) (.func f) rfl (((atL_ok e1 e3).mono hs1.le).append (.cons _ _ _ _ (.at _ _ (.yld nx _ hρ1)) ((atL_ok e2 e4).mono hs1.le))) hs1.rel
              have hen:=hent f rfl hcon (xs++(Value.func (.yield l) #[] #[]::ys)).toArray w1
              have hv2:Res P _ ((callFunc f (xs++(Value.func (.yield l) #[] #[]::ys)).toArray).run P w1):=hv
              rw [hen] at hv2
              have hv3:Calls P f (xs++(Value.func (.yield l) #[] #[]::ys)).toArray w1 (Ret _):=hv2
              refine ⟨l,ms.map mkD,w1,⟨.fn (.func f) ys.toArray,xs.toArray++#[.func (.yield l) #[] #[]]⟩,w1,f,(xs++(.func (.yield l) #[] #[]::ys)).toArray,w1,henter,?_,λ _ _=>trivial,?_,(λ h=>by cases h),?_⟩
              . simp [rangeCall,resolve,hfx,Deferred.ofValue,Sem.run_bind,Result.andThen]
                rfl
              . show (callFunc f ((xs.toArray++#[Value.func (.yield l) #[] #[]])++ys.toArray)).run P w1=_
                rw [show (xs.toArray++#[Value.func (.yield l) #[] #[]])++ys.toArray=(xs++(Value.func (.yield l) #[] #[]::ys)).toArray by apply Array.ext';simp]
                exact hen
              . refine CallsIn.mono (calls_fr hv3) λ en w2 hen2=>?_
                obtain ⟨y,rfl,ρ2,hvr,hs2⟩:=hen2
                obtain ⟨p,hp,r,hr1,hr2,hr3,hr4,hr5⟩:=hs2.rel.blk nx _ hs2'
                have hpl:p.blk=l:=by
                  have:=hs2.le _ _ hρ1
                  rw [hp] at this
                  cases this
                  rfl
                have hst:r.state≠.busy∧r.pending=xCode x:=by
                  cases s with
                  | ready=>cases hx;obtain ⟨h4,h5⟩:=hr3;rw [h4,h5];exact ⟨by simp,rfl⟩
                  | busy=>cases hx
                  | done y=>cases hx;obtain ⟨h4,h5⟩:=hr3;rw [h4,h5];exact ⟨by simp,rfl⟩
                  | out=>cases hx
                rw [hpl] at hr1
                have hlt:=(Array.getElem?_eq_some_iff.1 hr1).1
                refine ⟨r.pending,_,run_endLoop hr1 hst.1,?_⟩
                have hs3:Stp fl fd ρ2 h2.get nx2 w2 ρ2 h3.get nx2 (w2.putObj l (.loop { r with state:=.exhausted })) :=
                  stp_setB (ob:=.loop { r with state:=.exhausted }) (B1:=.loop q2 p2 env2 sz2 .out) hs2.rel hs2' hp hle ⟨_,rfl,hr2,rfl,hr4,hr5⟩ (λ _=>⟨_,rfl⟩) (by rw [hpl];exact World.putObj_heap_same hlt) (by rw [hpl];exact ⟨rfl,rfl,rfl,by simp,λ k hk=>World.putObj_heap_other hk⟩) hg3
                have hall:=(hs1.trans hs2 hf).trans hs3 hf
                have hq:Q (xOf x) { a with defers:=ms.map mkD++a.defers } (w2.putObj l (.loop { r with state:=.exhausted })) :=
                  hQ ρ2 _ _ (EnvOk.mono hall.le ⟨he.size,he.get,he.gl⟩) hall ⟨ms,rfl,hnd,λ r hr=>by
                    obtain ⟨h4,h5,h6⟩:=hms r hr
                    have h7:=h5.stp hs2
                    have h8:=h7.1.stp hs3
                    exact ⟨h4,h8.1,h8.2.trans (h7.2.trans h6)⟩⟩
                revert hq
                generalize w2.putObj l (.loop { r with state:=.exhausted })=w4
                intro hq
                rw [hst.2]
                cases x with
                | normal=>exact hq
                | exit i=>exact wpIn_exit hq
                | ret=>exact wpIn_ret hq
          . exact .inl rfl
        . exact .inl rfl
  . exact .inl rfl
end
end Go.E
