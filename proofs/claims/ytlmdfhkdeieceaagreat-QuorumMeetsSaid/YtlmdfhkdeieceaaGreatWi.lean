import Derived.Test.YtlmdfhkdeieceaaGreatWh
set_option linter.all false
set_option maxHeartbeats 16000000
set_option maxRecDepth 100000
namespace Go.S
open Go Go.E
variable [Gl]
variable {Γ : Ctx}
theorem evO_bi {C : CallF Bool} {m : Bool} {fl fd : Nat} {c : Call} {b : Builtin} (hc : c.callee = .builtin b) (env : En) (h : H) (nx : Nat) (k : V → H → Nat → Bool) :
    evO false C Γ m fl fd (.call c) env h nx k=eOs false m env c.args.toList λ vs=>builtinK false Γ m fl fd b c.argTypes.toList vs h nx k:=by
  simp only [evO,hc]
theorem evO_va {C : CallF Bool} {m : Bool} {fl fd : Nat} {c : Call} {x : Operand} (hc : c.callee = .value x) (env : En) (h : H) (nx : Nat) (k : V → H → Nat → Bool) :
    evO false C Γ m fl fd (.call c) env h nx k=eA false m env x λ f=>match f with
      | .fn (.func g) fs cs=>eOs false m env c.args.toList λ vs=>C fl fd (.fn g) (atL fs++(vs++atL cs)) h nx k
      | .yld b=>eOs false m env c.args.toList λ vs=>C fl fd (.yld b) vs h nx k
      | _=>false:=by
  simp only [evO,hc]
  rfl
theorem eOs_one {env:En} {x:Operand} {v:V} (e1:∀ k':V→Bool,eO false true env x k'=k' v) (k:List V→Bool):eOs false true env [x] k=k [v]:=by
  unfold eOs;rw [e1];rfl
theorem eOs_two {env:En} {x y:Operand} {v w:V} (e1:∀ k':V→Bool,eO false true env x k'=k' v) (e2:∀ k':V→Bool,eO false true env y k'=k' w) (k:List V→Bool):eOs false true env [x,y] k=k [v,w]:=by
  unfold eOs;rw [e1];unfold eOs;rw [e2];rfl
theorem ln_sim {c : Call} {x : Operand} {t : TypeId} {ts : List TypeId} {ti : TI} {s : Bool} {g : GA} (hc : c.callee = .builtin .len) (ha : c.args.toList = [x]) (hts : c.argTypes.toList = t :: ts) (ht : ∀ k' : TI → Bool, tyK false Γ t k' = k' ti)
    (hti:(s=true∧∃ e,ti.k=.sl e)∨(s=false∧ti.k=.str)) (hg:SimA g x):SimOp Γ (lnF s g) (.call c):=by
  intro C C' fl fd e env h nx k k' hC he hk H
  obtain ⟨a,e1,_,H⟩:=hg e env _ he H
  rw [evO_bi hc,ha,eOs_one e1,hts]
  show (tyK false Γ t fun ti => match ti.k with
      | .ar n _=>intLen true n h nx false k'
      | .pt e=>tyK false Γ e λ te=>(match te.k with|.ar n _=>intLen true n h nx false k'|_=>false)
      | .mp _ _=>atK false (V.at a) λ a=>mlenK false h a λ n=>intLen true n h nx false k'
      | tk=>atK false (V.at a) λ a=>match lenT tk a with|some n=>intLen true n h nx false k'|none=>false)=true
  rw [ht]
  have hlen:∀ n,(iF (Nat.ble (Nat.succ n) 9223372036854775808) (k (.at (.int .i64 n)) (.mk h nx)) false)=true→intLen true n h nx false k'=true:=by
    intro n H
    obtain ⟨h1,H⟩:=iF_t H
    unfold intLen
    rw [show Nat.blt n 9223372036854775808=true from h1,natK_eq];exact hk _ _ _ H
  rcases hti with ⟨rfl,et,hti⟩|⟨rfl,hti⟩
  . rw [hti]
    rcases aS_t H with ⟨b,o,n,c,rfl,H⟩|⟨b,o,n,z',rfl,H⟩|⟨rfl,H⟩|⟨_,_,rfl,H⟩
    . exact hlen _ H
    . exact hlen _ H
    . show intLen true 0 h nx false k'=true
      unfold intLen
      rw [natK_eq];exact hk _ _ _ H
    . cases H
  . rw [hti]
    rcases aS_t H with ⟨b,o,n,c,rfl,H⟩|⟨b,o,n,z',rfl,H⟩|⟨rfl,H⟩|⟨n,s,rfl,H⟩
    . cases H
    . cases H
    . cases H
    . exact hlen _ H
theorem lnR_t {a:A} {k:Nat→Bool} (H:lnR a k=true):∃ n,(∀ k':Nat→Bool,lenA false a k'=k' n)∧k n=true:=by
  rcases aS_t H with ⟨b,o,n,c,rfl,H⟩|⟨b,o,n,z',rfl,H⟩|⟨rfl,H⟩|⟨n,s,rfl,H⟩
  all_goals exact ⟨_,λ _=>rfl,H⟩
theorem srcR_t {h:H} {a:A} {z n:Nat} {k:Rope→Bool} (H:srcR h a z n k=true):∃ q,(∀ k':Rope→Bool,srcK false true h a z n k'=k' q)∧k q=true:=by
  rcases aS_t H with ⟨b,o,l,c,rfl,H⟩|⟨b,o,l,z',rfl,H⟩|⟨rfl,H⟩|⟨l,s,rfl,H⟩
  . obtain ⟨h1,H⟩:=iF_t H
    obtain ⟨bt,r,e1,H⟩:=hG_t H
    obtain ⟨q,e2,H⟩:=rS_t H
    exact ⟨q,λ k'=>by
      show okK false (Nat.ble n l) (cellsK false h b λ _ r=>r.sub false true o (Nat.mul n z) k')=_
      rw [h1,okK,cond_true,e1,e2],H⟩
  . obtain ⟨h0,H⟩:=iF_t H
    obtain ⟨h1,H⟩:=iF_t H
    obtain ⟨bt,r,e1,H⟩:=hG_t H
    obtain ⟨q,e2,H⟩:=rS_t H
    exact ⟨q,λ k'=>by
      show okK false (two (Nat.beq z z') (Nat.ble n l)) (cellsK false h b λ _ r=>r.sub false true o (Nat.mul n z) k')=_
      rw [h0,h1]
      show cellsK false h b _=_
      rw [e1,e2],H⟩
  . obtain ⟨h1,H⟩:=iF_t H
    exact ⟨_,λ k'=>by
      show okK false (Nat.beq n 0) (k' (.by 0 0))=_
      rw [h1];rfl,H⟩
  . obtain ⟨h0,H⟩:=iF_t H
    obtain ⟨h1,H⟩:=iF_t H
    rw [nK_eq] at H
    exact ⟨_,λ k'=>by
      show okK false (two (Nat.beq z 1) (Nat.ble n l)) (natK true (lo8 s n) λ s=>k' (.by n s))=_
      rw [h0,h1,natK_eq];rfl,H⟩
theorem fitR_t {te:TI} {n:Nat} {b:Bool} (H:fitR te.size te.bytes n b=true):fitsB te n=true∧b=true:=by
  obtain ⟨h1,H⟩:=iF_t H
  obtain ⟨h2,H⟩:=iF_t H
  obtain ⟨h3,H⟩:=iF_t H
  unfold fitsB
  rw [show Nat.blt 0 te.size=true from h1,h2,h3]
  exact ⟨rfl,H⟩
theorem app_t {fl fd : Nat} {h : H} {nx : Nat} {e : TypeId} {te : TI} {s : A} {n : Nat} {q : Rope} {k : V → M2 → Bool} {k' : V → H → Nat → Bool} (hk : ∀ v h nx, k v (.mk h nx) = true → k' v h nx = true)
    (H:appR fl fd h nx e te.size te.bytes s n q k=true):appK false true fl fd h nx e te s n q k'=true:=by
  rcases aS_t H with ⟨b,o,l,c,rfl,H⟩|⟨b,o,l,z',rfl,H⟩|⟨rfl,H⟩|⟨_,_,rfl,H⟩
  . show (bif Nat.beq n 0 then k' (.at (.slice b o l c)) h nx else natK true (Nat.add l n) λ l'=>bif Nat.ble l' c then cellsK false h b (λ bt r=>okK false (Nat.ble fl b) (r.upd false true (Nat.add o (Nat.mul l te.size)) (Nat.mul n te.size) q λ r=>setK false h b (.cells bt r) λ h=>k' (.at (.slice b o l' c)) h nx)) else okK false (fitsB te l') (bif Nat.beq l 0 then newK false true h nx (.cells e q) (λ h nx'=>k' (.at (.slu nx 0 l' te.size)) h nx') else cellsK false h b λ _ r=>r.sub false true o (Nat.mul l te.size) λ x=>natK true (Nat.mul l te.size) λ p=>jn true p x q λ r=>newK false true h nx (.cells e r) λ h nx'=>k' (.at (.slu nx 0 l' te.size)) h nx'))=true
    rcases iF_c H with ⟨h1,H⟩|⟨h1,H⟩
    . rw [h1];exact hk _ _ _ H
    . rw [h1,cond_false]
      rw [nK_eq] at H
      rw [natK_eq]
      rcases iF_c H with ⟨h2,H⟩|⟨h2,H⟩
      . rw [h2,cond_true]
        obtain ⟨bt,r,e1,H⟩:=hG_t H
        obtain ⟨h3,H⟩:=iF_t H
        obtain ⟨r',e2,H⟩:=rU_t H
        obtain ⟨h',e3,H⟩:=hP_t H
        rw [e1,h3,okK,cond_true,e2,e3];exact hk _ _ _ H
      . rw [h2,cond_false]
        obtain ⟨h3,H⟩:=fitR_t H
        rw [h3,okK,cond_true]
        rcases iF_c H with ⟨h4,H⟩|⟨h4,H⟩
        . rw [h4,cond_true]
          obtain ⟨h',e3,H⟩:=hN_t H
          rw [e3];exact hk _ _ _ H
        . rw [h4,cond_false]
          obtain ⟨bt,r,e1,H⟩:=hG_t H
          obtain ⟨x,e2,H⟩:=rS_t H
          rw [nK_eq] at H
          obtain ⟨r',e3,H⟩:=rJ_t H
          obtain ⟨h',e4,H⟩:=hN_t H
          rw [e1,e2,natK_eq,e3,e4];exact hk _ _ _ H
  . show (bif Nat.beq n 0 then k' (.at (.slu b o l z')) h nx else okK false (two (Nat.beq te.size z') (Nat.ble fd b)) (natK true (Nat.add l n) λ l'=>okK false (fitsB te l') (cellsK false h b λ bt r=>okK false (Nat.beq bt e) (r.sub false true o (Nat.mul l te.size) λ x=>natK true (Nat.mul l te.size) λ p=>jn true p x q λ r=>delK false h b λ h=>newK false true h nx (.cells e r) λ h nx'=>k' (.at (.slu nx 0 l' te.size)) h nx'))))=true
    rcases iF_c H with ⟨h1,H⟩|⟨h1,H⟩
    . rw [h1];exact hk _ _ _ H
    . rw [h1,cond_false]
      obtain ⟨h2,H⟩:=iF_t H
      obtain ⟨h3,H⟩:=iF_t H
      rw [nK_eq] at H
      obtain ⟨h4,H⟩:=fitR_t H
      obtain ⟨bt,r,e1,H⟩:=hG_t H
      obtain ⟨h5,H⟩:=iF_t H
      obtain ⟨x,e2,H⟩:=rS_t H
      rw [nK_eq] at H
      obtain ⟨r',e3,H⟩:=rJ_t H
      obtain ⟨h',e4,H⟩:=hD_t H
      obtain ⟨h'',e5,H⟩:=hN_t H
      rw [h2,h3]
      show (natK true (Nat.add l n) λ l'=>okK false (fitsB te l') (cellsK false h b λ bt r=>okK false (Nat.beq bt e) (r.sub false true o (Nat.mul l te.size) λ x=>natK true (Nat.mul l te.size) λ p=>jn true p x q λ r=>delK false h b λ h=>newK false true h nx (.cells e r) λ h nx'=>k' (.at (.slu nx 0 l' te.size)) h nx')))=true
      rw [natK_eq,h4,okK,cond_true,e1,h5,okK,cond_true,e2,natK_eq,e3,e4,e5];exact hk _ _ _ H
  . show (bif Nat.beq n 0 then k' (.at .nilSlice) h nx else okK false (fitsB te n) (newK false true h nx (.cells e q) λ h nx'=>k' (.at (.slu nx 0 n te.size)) h nx'))=true
    rcases iF_c H with ⟨h1,H⟩|⟨h1,H⟩
    . rw [h1];exact hk _ _ _ H
    . rw [h1,cond_false]
      obtain ⟨h2,H⟩:=fitR_t H
      obtain ⟨h',e1,H⟩:=hN_t H
      rw [h2,okK,cond_true,e1];exact hk _ _ _ H
  . cases H
theorem ap_sim {c : Call} {x y : Operand} {t t2 et : TypeId} {ts : List TypeId} {ti ti2 te : TI} {g g' : GA} (hc : c.callee = .builtin .append) (ha : c.args.toList = [x, y]) (hts : c.argTypes.toList = t :: t2 :: ts)
    (ht:∀ k':TI→Bool,tyK false Γ t k'=k' ti) (ht2:∀ k':TI→Bool,tyK false Γ t2 k'=k' ti2) (hti:ti.k=.sl et) (hte:∀ k':TI→Bool,tyK false Γ et k'=k' te) (hn:notInt ti2.k=true) (hg:SimA g x) (hg':SimA g' y):SimOp Γ (apF et te.size te.bytes g g') (.call c):=by
  intro C C' fl fd e env h nx k k' hC he hk H
  obtain ⟨a,e1,_,H⟩:=hg e env _ he H
  obtain ⟨b,e2,_,H⟩:=hg' e env _ he H
  obtain ⟨n,e3,H⟩:=lnR_t H
  obtain ⟨q,e4,H⟩:=srcR_t H
  rw [evO_bi hc,ha,eOs_two e1 e2,hts]
  show (tyK false Γ t λ ti=>elem2K false Γ ti.k λ e te=>tyK false Γ t2 λ ti2=>bif notInt ti2.k then (lenA false b λ n=>srcK false true h b te.size n λ q=>appK false true fl fd h nx e te a n q k') else (match ti2.k with|.int _=>idxK false b λ n=>okK false (fitsB te n) (appK false true fl fd h nx e te a n (zerosR n te) k')|_=>false))=true
  rw [ht,hti]
  show (tyK false Γ et λ te=>tyK false Γ t2 λ ti2=>bif notInt ti2.k then (lenA false b λ n=>srcK false true h b te.size n λ q=>appK false true fl fd h nx et te a n q k') else (match ti2.k with|.int _=>idxK false b λ n=>okK false (fitsB te n) (appK false true fl fd h nx et te a n (zerosR n te) k')|_=>false))=true
  rw [hte,ht2,hn,cond_true,e3,e4]
  exact app_t hk H
theorem apz_sim {c : Call} {x y : Operand} {t t2 et : TypeId} {ts : List TypeId} {ti ti2 te : TI} {g : GA} {g' : GN} (hc : c.callee = .builtin .append) (ha : c.args.toList = [x, y]) (hts : c.argTypes.toList = t :: t2 :: ts)
    (ht:∀ k':TI→Bool,tyK false Γ t k'=k' ti) (ht2:∀ k':TI→Bool,tyK false Γ t2 k'=k' ti2) (hti:ti.k=.sl et) (hte:∀ k':TI→Bool,tyK false Γ et k'=k' te) (hn:notInt ti2.k=false) (hi:isIntK ti2.k=true) (hg:SimA g x) (hg':SimX2 g' y):SimOp Γ (apZ et te g g') (.call c):=by
  intro C C' fl fd e env h nx k k' hC he hk H
  obtain ⟨a,e1,_,H⟩:=hg e env _ he H
  obtain ⟨b,n,e2,e3,H⟩:=hg' e env _ he H
  rw [evO_bi hc,ha,eOs_two e1 e2,hts]
  show (tyK false Γ t λ ti=>elem2K false Γ ti.k λ e te=>tyK false Γ t2 λ ti2=>bif notInt ti2.k then (lenA false b λ n=>srcK false true h b te.size n λ q=>appK false true fl fd h nx e te a n q k') else (match ti2.k with|.int _=>idxK false b λ n=>okK false (fitsB te n) (appK false true fl fd h nx e te a n (zerosR n te) k')|_=>false))=true
  rw [ht,hti]
  show (tyK false Γ et λ te=>tyK false Γ t2 λ ti2=>bif notInt ti2.k then (lenA false b λ n=>srcK false true h b te.size n λ q=>appK false true fl fd h nx et te a n q k') else (match ti2.k with|.int _=>idxK false b λ n=>okK false (fitsB te n) (appK false true fl fd h nx et te a n (zerosR n te) k')|_=>false))=true
  rw [hte,ht2,hn,cond_false]
  cases hk2:ti2.k<;>rw [hk2] at hi<;>first|(cases hi;done)|skip
  dsimp only
  rw [e3]
  obtain ⟨hfit,H⟩:=fitR_t H
  rw [hfit,okK,cond_true]
  exact app_t hk H
theorem aS_sl {a:A} {k ku:Nat→Nat→Nat→Nat→Bool} {kn:Bool} (h:aS a k ku kn (λ _ _=>false)=true):isSl a=true:=by
  cases a<;>first|rfl|cases h
theorem aS_cp {a : A} {k ku : Nat → Nat → Nat → Nat → Bool} {kn : Bool} (h : aS a k ku kn (fun _ _ => false) = true) :
    (∃ b o n c,a=.slice b o n c∧k b o n c=true)∨(∃ b o n z,a=.slu b o n z∧ku b o n z=true)∨(a=.nilSlice∧kn=true):=by
  cases a<;>first|exact .inl ⟨_,_,_,_,rfl,h⟩|exact .inr (.inl ⟨_,_,_,_,rfl,h⟩)|exact .inr (.inr ⟨rfl,h⟩)|cases h
theorem cp_sim {c : Call} {x y : Operand} {t et : TypeId} {ts : List TypeId} {ti te : TI} {g g' : GA} (hc : c.callee = .builtin .copy) (ha : c.args.toList = [x, y]) (hts : c.argTypes.toList = t :: ts)
    (ht:∀ k':TI→Bool,tyK false Γ t k'=k' ti) (hti:ti.k=.sl et) (hte:∀ k':TI→Bool,tyK false Γ et k'=k' te) (hg:SimA g x) (hg':SimA g' y):SimOp Γ (cpF te.size g g') (.call c):=by
  intro C C' fl fd e env h nx k k' hC he hk H
  obtain ⟨d,e1,_,H⟩:=hg e env _ he H
  obtain ⟨b,e2,_,H⟩:=hg' e env _ he H
  obtain ⟨p,e3,H⟩:=lnR_t H
  obtain ⟨n0,e4,H⟩:=lnR_t H
  rw [nK_eq,iF_eq (Nat.ble n0 p) n0 p] at H
  obtain ⟨h1,H⟩:=iF_t H
  obtain ⟨q,e5,H⟩:=srcR_t H
  rw [evO_bi hc,ha,eOs_two e1 e2,hts]
  generalize hn:(bif Nat.ble n0 p then n0 else p)=n at H e5 h1
  have hsl:isSl d=true:=aS_sl H
  have h1':Nat.blt n 9223372036854775808=true:=h1
  simp only [builtinK,ht,hti,elem2K,hte,hsl,okK,cond_true,e3,e4,hn,natK_eq,h1',e5]
  rcases aS_cp H with ⟨b,o,l,c,rfl,H⟩|⟨b,o,l,z',rfl,H⟩|⟨rfl,H⟩
  . rcases iF_c H with ⟨h2,H⟩|⟨h2,H⟩
    . simp only [h2,cond_true];exact hk _ _ _ H
    . simp only [h2,cond_false]
      obtain ⟨h3,H⟩:=iF_t H
      obtain ⟨bt,r,e6,H⟩:=hG_t H
      obtain ⟨r',e7,H⟩:=rU_t H
      obtain ⟨h',e8,H⟩:=hP_t H
      simp only [h3,cond_true,e6,e7,e8];exact hk _ _ _ H
  . rcases iF_c H with ⟨h2,H⟩|⟨h2,H⟩
    . simp only [h2,cond_true];exact hk _ _ _ H
    . simp only [h2,cond_false]
      obtain ⟨h3,H⟩:=iF_t H
      obtain ⟨bt,r,e6,H⟩:=hG_t H
      obtain ⟨r',e7,H⟩:=rU_t H
      obtain ⟨h',e8,H⟩:=hP_t H
      simp only [h3,cond_true,e6,e7,e8];exact hk _ _ _ H
  . obtain ⟨h2,H⟩:=iF_t H
    simp only [h2,cond_true];exact hk _ _ _ H
theorem min_par (big:Bool):∀ (ys:List A) (x:A),Par λ k=>minK false big x ys k
  | [],x=>Par.pure (V.at x)
  | y::ys,x=>by
    unfold minK
    cases x with
    | int ka a =>
      cases y with
      | int kb b=>exact okK_par (F:=λ k=>bif _ then minK false big (.int ka b) ys k else minK false big (.int ka a) ys k) _ (Par.ite (F:=λ k=>minK false big (.int ka b) ys k) _ (min_par big ys _) (min_par big ys _))
      | _=>exact Par.bad
    | _=>exact Par.bad
theorem ats_par:∀ vs:List V,Par λ k=>builtinK.atsK false vs k
  | []=>Par.pure []
  | v::vs=>by
    cases v with
    | «at» a=>exact (ats_par vs).bind (G:=λ az k=>k (a::az)) λ az=>Par.pure _
    | _=>exact Par.bad
theorem intLen_par (n:Nat) (h:H) (nx:Nat):Par λ k:Out3→Bool=>intLen true n h nx false λ v h nx=>k (v,h,nx):=by
  unfold intLen
  simp only [natK_eq]
  exact okK_par (F:=λ k=>k (V.at (.int .i64 n),h,nx)) _ (Par.pure (α:=Out3) _)
theorem ca_sim {c:Call} {g:FuncId} {l:LsV} (hc:c.callee=.value (.func g)) (hl:SimLv l c.args.toList):SimOp Γ (caF g l) (.call c):=by
  intro C C' fl fd e env h nx k k' hC he hk H
  obtain ⟨vs,e1,H⟩:=hl e env _ he H
  rw [evO_va hc]
  show (eOs false true env c.args.toList λ vs=>C' fl fd (.fn g) (atL []++(vs++atL [])) h nx k')=true
  rw [e1,show atL []++(vs++atL [])=vs by simp [atL]]
  exact hC _ _ _ _ _ _ _ _ (λ v h nx hv=>hk v h nx hv) H
theorem cl_sim {c:Call} {x:Operand} {a:GA} {l:LsV} (hc:c.callee=.value x) (ha:SimA a x) (hl:SimLv l c.args.toList):SimOp Γ (clF a l) (.call c):=by
  intro C C' fl fd e env h nx k k' hC he hk H
  obtain ⟨f,_,e1,H⟩:=ha e env _ he H
  rw [evO_va hc,e1]
  rcases aY_t H with ⟨f,fs,cs,rfl,H⟩|⟨b,rfl,H⟩
  . cases f with
    | func g =>
      obtain ⟨vs,e2,H⟩:=hl e env _ he H
      show (eOs false true env c.args.toList λ vs=>C' fl fd (.fn g) (atL fs++(vs++atL cs)) h nx k')=true
      rw [e2]
      exact hC _ _ _ _ _ _ _ _ (λ v h nx hv=>hk v h nx hv) H
    | _=>cases H
  . obtain ⟨vs,e2,H⟩:=hl e env _ he H
    show (eOs false true env c.args.toList λ vs=>C' fl fd (.yld b) vs h nx k')=true
    rw [e2]
    exact hC _ _ _ _ _ _ _ _ (λ v h nx hv=>hk v h nx hv) H
theorem eqV_par' (t:TypeId) (x y:V):Par λ k=>eqV false Γ true 100 t x y k:=eqV_par 100 t x y
theorem chk_fs {rc:TypeId→V→Bool→Bool} (hrc:∀ t v,(∀ k,rc t v k=false)∨∀ k,rc t v k=k) (r:Rope):∀ fs:List (Nat×Nat),(∀ k,chkFs false Γ true rc r fs k=false)∨∀ k,chkFs false Γ true rc r fs k=k
  | []=>.inr λ _=>rfl
  | (o,t)::fs=>by
    unfold chkFs
    rcases tyK_par (Γ:=Γ) t with h|⟨ti,h⟩
    . exact .inl λ k=>h _
    . rcases part_par ti r o with h1|⟨v,h1⟩
      . exact .inl λ k=>(h _).trans (h1 _)
      . rcases hrc t v with h2|h2
        . exact .inl λ k=>(h _).trans ((h1 _).trans (h2 _))
        . rcases chk_fs hrc r fs with h3|h3
          . exact .inl λ k=>(h _).trans ((h1 _).trans ((h2 _).trans (h3 k)))
          . exact .inr λ k=>(h _).trans ((h1 _).trans ((h2 _).trans (h3 k)))
theorem chk_ar {rc:TypeId→V→Bool→Bool} (hrc:∀ t v,(∀ k,rc t v k=false)∨∀ k,rc t v k=k) (r:Rope) (e:TypeId) (te:TI):∀ n i:Nat,(∀ k,chkAr false true rc r e te n i k=false)∨∀ k,chkAr false true rc r e te n i k=k
  | 0,i=>.inr λ _=>rfl
  | n+1,i=>by
    unfold chkAr
    rcases part_par te r (Nat.mul i te.size) with h1|⟨v,h1⟩
    . exact .inl λ k=>h1 _
    . rcases hrc e v with h2|h2
      . exact .inl λ k=>(h1 _).trans (h2 _)
      . rcases chk_ar hrc r e te n (Nat.succ i) with h3|h3
        . exact .inl λ k=>(h1 _).trans ((h2 _).trans (h3 k))
        . exact .inr λ k=>(h1 _).trans ((h2 _).trans (h3 k))
theorem chk_par:∀ (f:Nat) (t:TypeId) (x:V),(∀ k,chkV false Γ true f t x k=false)∨∀ k,chkV false Γ true f t x k=k
  | 0,t,x=>.inl λ _=>rfl
  | f+1,t,x=>by
    unfold chkV
    rcases tyK_par (Γ:=Γ) t with h|⟨ti,h⟩
    . exact .inl λ k=>h _
    . have ok:∀ (b:Bool),(∀ k,okK false b k=false)∨∀ k,okK false b k=k:=λ b=>by cases b;exact .inl λ _=>rfl;exact .inr λ _=>rfl
      have lift:∀ F:Bool→Bool,((∀ k,F k=false)∨∀ k,F k=k)→(∀ G:Bool→TI→Bool,(∀ k,G k ti=F k)→(∀ k,tyK false Γ t (G k)=false)∨∀ k,tyK false Γ t (G k)=k):=by
        intro F hF G hG
        rcases hF with hF|hF
        . exact .inl λ k=>(h _).trans ((hG k).trans (hF k))
        . exact .inr λ k=>(h _).trans ((hG k).trans (hF k))
      cases x with
      | «at» a=>exact lift (λ k=>okK false (atomK ti.k) k) (ok _) (λ k ti=>okK false (atomK ti.k) k) λ k=>rfl
      | agg r =>
        have body:(∀ k,(match ti.k with
          | .st fs=>okK false ti.flat (chkFs false Γ true (chkV false Γ true f) r fs k)
          | .ar n e=>tyK false Γ e λ te=>bif isIntK te.k then okK false (Nat.beq r.len n) k else chkAr false true (chkV false Γ true f) r e te n 0 k
          | _=>false)=false)∨∀ k,(match ti.k with
          | .st fs=>okK false ti.flat (chkFs false Γ true (chkV false Γ true f) r fs k)
          | .ar n e=>tyK false Γ e λ te=>bif isIntK te.k then okK false (Nat.beq r.len n) k else chkAr false true (chkV false Γ true f) r e te n 0 k
          | _=>false)=k:=by
          cases ti.k with
          | st fs =>
            rcases chk_fs (chk_par f) r fs with h1|h1
            . rcases ok ti.flat with h2|h2
              . exact .inl λ k=>h2 _
              . exact .inl λ k=>(h2 _).trans (h1 k)
            . rcases ok ti.flat with h2|h2
              . exact .inl λ k=>h2 _
              . exact .inr λ k=>(h2 _).trans (h1 k)
          | ar n e =>
            rcases tyK_par (Γ:=Γ) e with h1|⟨te,h1⟩
            . exact .inl λ k=>h1 _
            . cases hi:isIntK te.k with
              | true =>
                rcases ok (Nat.beq r.len n) with h2|h2
                . exact .inl λ k=>(h1 _).trans (by rw [hi];exact h2 k)
                . exact .inr λ k=>(h1 _).trans (by rw [hi];exact h2 k)
              | false =>
                rcases chk_ar (chk_par f) r e te n 0 with h2|h2
                . exact .inl λ k=>(h1 _).trans (by rw [hi];exact h2 k)
                . exact .inr λ k=>(h1 _).trans (by rw [hi];exact h2 k)
          | _=>exact .inl λ _=>rfl
        rcases body with hb|hb
        . exact .inl λ k=>(h _).trans (hb k)
        . exact .inr λ k=>(h _).trans (hb k)
      | _=>exact .inl λ k=>h _
theorem chk_then {α : Type} (t:TypeId) (x:V) {F:(α→Bool)→Bool} (hF:Par F):Par λ k=>chkV false Γ true 100 t x (F k):=by
  rcases chk_par (Γ:=Γ) 100 t x with h|h
  . exact .inl λ k=>h _
  . rcases hF with g|⟨a,g⟩
    . exact .inl λ k=>(h _).trans (g k)
    . exact .inr ⟨a,λ k=>(h _).trans (g k)⟩
theorem find_par {α : Type} (t:TypeId) (key:V) {yes:Nat→V→V→Nat→(α→Bool)→Bool} {no:(α→Bool)→Bool} (hy:∀ i q v n,Par (yes i q v n)) (hn:Par no):∀ (es:List (V×V×Nat)) (i:Nat),Par λ k=>findK false Γ true t key es i (λ i q v n=>yes i q v n k) (no k)
  | [],i=>hn
  | (q,v,n)::es,i=>by
    unfold findK
    exact (eqV_par' t key q).bind (G:=λ b k=>bif b then yes i q v n k else findK false Γ true t key es (Nat.succ i) (λ i q v n=>yes i q v n k) (no k)) λ b=>Par.ite (F:=yes i q v n) _ (hy i q v n) (find_par t key hy hn es (Nat.succ i))
theorem zero_par (te:TI):Par λ k=>zeroVK false te k:=by
  unfold zeroVK
  refine Par.ite (F:=λ k=>k (V.agg te.zero)) _ (Par.pure _) ?_
  cases te.zero.get 0 with
  | none=>exact Par.bad
  | some a=>exact Par.pure _
theorem mty_par {α : Type} (t:TypeId) {F:TypeId→TI→(α→Bool)→Bool} (hF:∀ a tb,Par (F a tb)):Par λ k=>mtyK false Γ t λ a tb=>F a tb k:=by
  unfold mtyK
  refine (tyK_par t).bind (G:=λ ti k=>match ti.k with|.mp a b=>tyK false Γ a λ _=>tyK false Γ b λ tb=>F a tb k|_=>false) λ ti=>?_
  cases ti.k with
  | mp a b=>exact (tyK_par a).bind (G:=λ _ k=>tyK false Γ b λ tb=>F a tb k) λ _=>(tyK_par b).bind (G:=λ tb k=>F a tb k) λ tb=>hF a tb
  | _=>exact Par.bad
theorem map_cases (h:H) (b:Nat):Par2 λ k=>mapK false h b k:=by
  unfold mapK
  split
  . rename_i es c _;exact .inr ⟨es,c,λ _=>rfl⟩
  . exact .inl λ _=>rfl
theorem look_par (h:H) (t:TypeId) (x:A) (key:V) (ok:Bool):Par λ k=>lookK false Γ true h t x key ok k:=by
  unfold lookK
  refine mty_par t (F:=λ a tb k=>_) λ a tb=>?_
  have hz:Par λ k=>zeroVK false tb λ z=>bif ok then k (V.tup [z,.at (.bool false)]) else k z :=
    (zero_par tb).bind (G:=λ z k=>bif ok then k (V.tup [z,.at (.bool false)]) else k z) λ z=>Par.ite (F:=λ k=>k _) _ (Par.pure _) (Par.pure _)
  cases x with
  | nilMap=>exact chk_then a key hz
  | map r => exact (map_cases h r).bind (G := fun es c k => chkV false Γ true 100 a key (findK false Γ true a key es 0 (fun _ _ v _ => bif ok then k (V.tup [v, .at (.bool true)]) else k v) (zeroVK false tb fun z => bif ok then k (V.tup [z, .at (.bool false)]) else k z))) fun es c =>
      chk_then a key (find_par a key (yes:=λ _ _ v _ k=>bif ok then k (V.tup [v,.at (.bool true)]) else k v) (λ i q v n=>Par.ite (F:=λ k=>k _) _ (Par.pure _) (Par.pure _)) hz es 0)
  | _=>exact Par.bad
theorem set_par (h:H) (b:Nat) (bk:Bk):Par λ k=>setK false h b bk k:=put_par 64 h b (some bk)
theorem mapSet_par (fl:Nat) (h:H) (t:TypeId) (x:A) (key v:V):Par λ k=>mapSetK false Γ true fl h t x key v k:=by
  unfold mapSetK
  refine mty_par t (F:=λ a tb k=>_) λ a tb=>?_
  cases x with
  | map r =>
    refine okK_par (F:=λ k=>mapK false h r λ es c=>chkV false Γ true 100 a key (findK false Γ true a key es 0 (λ i q _ n=>okK false (sameK q key) (setK false h r (.map (es.set i (key,v,n)) c) k)) (natK true (Nat.succ c) λ c'=>setK false h r (.map (es++[(key,v,c)]) c') k))) _ ?_
    refine (map_cases h r).bind (G:=λ es c k=>chkV false Γ true 100 a key (findK false Γ true a key es 0 (λ i q _ n=>okK false (sameK q key) (setK false h r (.map (es.set i (key,v,n)) c) k)) (natK true (Nat.succ c) λ c'=>setK false h r (.map (es++[(key,v,c)]) c') k))) λ es c=>?_
    refine chk_then a key (find_par a key (yes:=λ i q _ n k=>okK false (sameK q key) (setK false h r (.map (es.set i (key,v,n)) c) k)) (λ i q v' n=>okK_par _ (set_par h r _)) ?_ es 0)
    simp only [natK_eq]
    exact set_par h r _
  | _=>exact Par.bad
abbrev Out2:=V×H
theorem mapEntry_par (fl:Nat) (h:H) (t:TypeId) (x:A) (key:V):Par λ k:Out2→Bool=>mapEntryK false Γ true fl h t x key λ v h=>k (v,h):=by
  unfold mapEntryK
  refine mty_par t (F:=λ a tb k=>_) λ a tb=>?_
  cases x with
  | map r =>
    have hy:∀ (es:List (V×V×Nat)) (c i:Nat) (q v:V) (n:Nat),Par λ k:Out2→Bool=>okK false (two (sameK q key) (Nat.blt n 9223372036854775808)) (setK false h r (.map (es.set i (key,v,n)) c) λ h=>k (V.tup [v,.at (.int .i64 n)],h)):=λ es c i q v n=>okK_par _ ((set_par h r _).bind (G:=λ h k=>k (V.tup [v,.at (.int .i64 n)],h)) λ h=>Par.pure (α:=Out2) _)
    have hn:∀ (es:List (V×V×Nat)) (c:Nat),Par λ k:Out2→Bool=>zeroVK false tb λ z=>okK false (Nat.blt c 9223372036854775808) (natK true (Nat.succ c) λ c'=>setK false h r (.map (es++[(key,z,c)]) c') λ h=>k (V.tup [z,.at (.int .i64 c)],h)):=λ es c=>by
      simp only [natK_eq]
      exact (zero_par tb).bind (G:=λ z k=>okK false (Nat.blt c 9223372036854775808) (setK false h r (.map (es++[(key,z,c)]) (Nat.succ c)) λ h=>k (V.tup [z,.at (.int .i64 c)],h))) λ z=>okK_par _ ((set_par h r _).bind (G:=λ h k=>k (V.tup [z,.at (.int .i64 c)],h)) λ h=>Par.pure (α:=Out2) _)
    refine okK_par (F:=λ k:Out2→Bool=>mapK false h r λ es c=>chkV false Γ true 100 a key (findK false Γ true a key es 0
      (λ i q v n=>okK false (two (sameK q key) (Nat.blt n 9223372036854775808)) (setK false h r (.map (es.set i (key,v,n)) c) λ h=>k (V.tup [v,.at (.int .i64 n)],h)))
      (zeroVK false tb λ z=>okK false (Nat.blt c 9223372036854775808) (natK true (Nat.succ c) λ c'=>setK false h r (.map (es++[(key,z,c)]) c') λ h=>k (V.tup [z,.at (.int .i64 c)],h))))) _ ?_
    exact (map_cases h r).bind (G:=λ es c k=>chkV false Γ true 100 a key (findK false Γ true a key es 0
      (λ i q v n=>okK false (two (sameK q key) (Nat.blt n 9223372036854775808)) (setK false h r (.map (es.set i (key,v,n)) c) λ h=>k (V.tup [v,.at (.int .i64 n)],h)))
      (zeroVK false tb λ z=>okK false (Nat.blt c 9223372036854775808) (natK true (Nat.succ c) λ c'=>setK false h r (.map (es++[(key,z,c)]) c') λ h=>k (V.tup [z,.at (.int .i64 c)],h))))) λ es c =>
      chk_then a key (find_par a key (yes:=λ i q v n k=>okK false (two (sameK q key) (Nat.blt n 9223372036854775808)) (setK false h r (.map (es.set i (key,v,n)) c) λ h=>k (V.tup [v,.at (.int .i64 n)],h))) (hy es c) (hn es c) es 0)
  | _=>exact Par.bad
theorem stamp_par (n:Nat) {α : Type} {F:Nat→V→(α→Bool)→Bool} (hF:∀ j q,Par (F j q)):∀ (es:List (V×V×Nat)) (j:Nat),Par λ k=>stampK false n es j λ j q=>F j q k
  | [],j=>Par.bad
  | (q,_,i)::es,j=>Par.ite (F:=F j q) _ (hF j q) (stamp_par n hF es (Nat.succ j))
theorem entryStore_par (fl:Nat) (h:H) (x n:A) (v:V):Par λ k=>entryStoreK false fl h x n v k:=by
  unfold entryStoreK
  have hidx:Par λ k=>idxK false n k:=by
    unfold idxK
    cases n with
    | int kd n=>exact Par.ite (F:=λ k=>k n) _ (Par.pure _) Par.bad
    | _=>exact Par.bad
  refine hidx.bind (G:=λ n k=>_) λ n=>?_
  cases x with
  | map r =>
    refine okK_par (F:=λ k=>mapK false h r λ es c=>stampK false n es 0 λ j q=>setK false h r (.map (es.set j (q,v,n)) c) k) _ ?_
    exact (map_cases h r).bind (G:=λ es c k=>stampK false n es 0 λ j q=>setK false h r (.map (es.set j (q,v,n)) c) k) λ es c=>stamp_par n (F:=λ j q k=>setK false h r (.map (es.set j (q,v,n)) c) k) (λ j q=>set_par h r _) es 0
  | _=>exact Par.bad
theorem mdel_par (fl:Nat) (h:H) (t:TypeId) (x:A) (key:V):Par λ k=>mdelK false Γ true fl h t x key k:=by
  unfold mdelK
  refine mty_par t (F:=λ a tb k=>_) λ a tb=>?_
  cases x with
  | nilMap=>exact chk_then a key (Par.pure h)
  | map r =>
    refine okK_par (F:=λ k=>mapK false h r λ es c=>chkV false Γ true 100 a key (findK false Γ true a key es 0 (λ i _ _ _=>setK false h r (.map (es.eraseIdx i) c) k) (setK false h r (.map es c) k))) _ ?_
    refine (map_cases h r).bind (G:=λ es c k=>chkV false Γ true 100 a key (findK false Γ true a key es 0 (λ i _ _ _=>setK false h r (.map (es.eraseIdx i) c) k) (setK false h r (.map es c) k))) λ es c=>?_
    exact chk_then a key (find_par a key (yes:=λ i _ _ _ k=>setK false h r (.map (es.eraseIdx i) c) k) (λ i _ _ _=>set_par h r _) (set_par h r _) es 0)
  | _=>exact Par.bad
theorem mclr_par (fl:Nat) (h:H) (t:TypeId) (x:A):Par λ k=>mclrK false Γ fl h t x k:=by
  unfold mclrK
  refine mty_par t (F:=λ a tb k=>_) λ a tb=>?_
  cases x with
  | nilMap=>exact Par.pure h
  | map r =>
    refine okK_par (F:=λ k=>mapK false h r λ _ c=>setK false h r (.map [] c) k) _ ?_
    exact (map_cases h r).bind (G:=λ es c k=>setK false h r (.map [] c) k) λ es c=>set_par h r _
  | _=>exact Par.bad
theorem bi_par (fl fd:Nat) (b:Builtin) (hb:b=.len∨b=.min∨b=.max∨b=.cap∨b=.delete∨b=.clear) (ts:List TypeId) (vs:List V) (h:H) (nx:Nat):Par λ k:Out3→Bool=>builtinK false Γ true fl fd b ts vs h nx λ v h nx=>k (v,h,nx):=by
  rcases hb with rfl|rfl|rfl|rfl|rfl|rfl
  . simp only [builtinK]
    split
    . refine (tyK_par _).bind (G:=λ ti k=>_) λ ti=>?_
      split
      . exact intLen_par _ _ _
      . refine (tyK_par _).bind (G:=λ te k=>match te.k with|.ar n _=>intLen true n h nx false λ v h nx=>k (v,h,nx)|_=>false) λ te=>?_
        split
        . exact intLen_par _ _ _
        . exact Par.bad
      . unfold atK
        split
        . dsimp only
          unfold mlenK
          split
          . exact intLen_par _ _ _
          . exact (map_cases h _).bind (G:=λ es c (k:Out3→Bool)=>intLen true es.length h nx false λ v h nx=>k (v,h,nx)) λ es c=>intLen_par _ _ _
          . exact Par.bad
        . exact Par.bad
      . unfold atK
        split
        . dsimp only
          split
          . exact intLen_par _ _ _
          . exact Par.bad
        . exact Par.bad
    . exact Par.bad
  . simp only [builtinK]
    split
    . rename_i x vs
      exact (ats_par vs).bind (G:=λ ys k=>minK false false x ys λ v=>k (v,h,nx)) λ ys=>(min_par false ys x).bind (G:=λ v k=>k (v,h,nx)) λ v=>Par.pure (α:=Out3) _
    . exact Par.bad
  . simp only [builtinK]
    split
    . rename_i x vs
      exact (ats_par vs).bind (G:=λ ys k=>minK false true x ys λ v=>k (v,h,nx)) λ ys=>(min_par true ys x).bind (G:=λ v k=>k (v,h,nx)) λ v=>Par.pure (α:=Out3) _
    . exact Par.bad
  . simp only [builtinK]
    split
    . refine (tyK_par _).bind (G:=λ ti k=>_) λ ti=>?_
      unfold atK
      split
      . dsimp only
        split
        . exact intLen_par _ _ _
        . exact Par.bad
      . exact Par.bad
    . exact Par.bad
  . simp only [builtinK]
    split
    . rename_i x key t _
      exact (mdel_par fl h t x key).bind (G:=λ h k=>k (V.tup [],h,nx)) λ h=>Par.pure (α:=Out3) _
    . exact Par.bad
  . simp only [builtinK]
    split
    . rename_i x t _
      exact (mclr_par fl h t x).bind (G:=λ h k=>k (V.tup [],h,nx)) λ h=>Par.pure (α:=Out3) _
    . exact Par.bad
theorem bi_sim {c:Call} {b:Builtin} {l:LsV} (hc:c.callee=.builtin b) (hb:b=.len∨b=.min∨b=.max∨b=.cap∨b=.delete∨b=.clear) (hl:SimLv l c.args.toList):SimOp Γ (biF Γ b c.argTypes.toList l) (.call c):=by
  intro C C' fl fd e env h nx k k' hC he hk H
  obtain ⟨vs,e1,H⟩:=hl e env _ he H
  have H:builtinK false Γ true fl fd b c.argTypes.toList vs h nx (λ v h nx=>k v (.mk h nx))=true:=H
  obtain ⟨v,h',nx',e2,H⟩:=(bi_par fl fd b hb c.argTypes.toList vs h nx).t3 (F:=λ k=>builtinK false Γ true fl fd b c.argTypes.toList vs h nx k) H
  rw [evO_bi hc,e1,e2];exact hk _ _ _ H
theorem mm_sim {t a b:TypeId} {ti:TI} (ht:∀ k':TI→Bool,tyK false Γ t k'=k' ti) (hti:ti.k=.mp a b):SimOp Γ mmF (.makeMap t none):=by
  intro C C' fl fd e env h nx k k' hC he hk H
  have H:hN h nx (.map [] 0) (λ h nx'=>k (.at (.map nx)) (.mk h nx'))=true:=H
  obtain ⟨h',e1,H⟩:=hN_t H
  show (tyK false Γ t λ ti=>match ti.k with|.mp _ _=>newK false true h nx (.map [] 0) λ h nx'=>k' (.at (.map nx)) h nx'|_=>false)=true
  rw [ht,hti]
  show (newK false true h nx (.map [] 0) λ h nx'=>k' (.at (.map nx)) h nx')=true
  rw [e1];exact hk _ _ _ H
theorem mmX_sim {t a b:TypeId} {ti:TI} {x:Operand} {g:GN} (ht:∀ k':TI→Bool,tyK false Γ t k'=k' ti) (hti:ti.k=.mp a b) (hg:SimX g x):SimOp Γ (mmX g) (.makeMap t (some x)):=by
  intro C C' fl fd e env h nx k k' hC he hk H
  obtain ⟨a',n,e2,e3,H⟩:=hg e env _ he H
  have H:hN h nx (.map [] 0) (λ h nx'=>k (.at (.map nx)) (.mk h nx'))=true:=H
  obtain ⟨h',e1,H⟩:=hN_t H
  show (tyK false Γ t λ ti=>match ti.k with|.mp _ _=>(eA false true env x λ a=>idxK false a λ _=>newK false true h nx (.map [] 0) λ h nx'=>k' (.at (.map nx)) h nx')|_=>false)=true
  rw [ht,hti]
  show (eA false true env x λ a=>idxK false a λ _=>newK false true h nx (.map [] 0) λ h nx'=>k' (.at (.map nx)) h nx')=true
  rw [e2,e3,e1];exact hk _ _ _ H
theorem lk_sim {t:TypeId} {x i:Operand} {ok:Bool} {a:GA} {g:GV} (ha:SimA a x) (hg:SimG g i):SimOp Γ (lkF Γ t ok a g) (.lookup t x i ok):=by
  intro C C' fl fd e env h nx k k' hC he hk H
  obtain ⟨av,_,e1,H⟩:=ha e env _ he H
  obtain ⟨key,e2,H⟩:=hg e env _ he H
  obtain ⟨v,e3,H⟩:=(look_par h t av key ok).t (k:=λ v=>k v (.mk h nx)) H
  show (eA false true env x λ a=>eO false true env i λ key=>lookK false Γ true h t a key ok λ v=>k' v h nx)=true
  rw [e1,e2,e3];exact hk _ _ _ H
theorem mu_sim {t:TypeId} {x i y:Operand} {a:GA} {g v:GV} (o:Op) (ho:o=.mapUpdate t x i y∨o=.insert t x i y) (ha:SimA a x) (hg:SimG g i) (hv:SimG v y):SimOp Γ (muF Γ t a g v) o:=by
  intro C C' fl fd e env h nx k k' hC he hk H
  obtain ⟨av,_,e1,H⟩:=ha e env _ he H
  obtain ⟨key,e2,H⟩:=hg e env _ he H
  obtain ⟨vv,e3,H⟩:=hv e env _ he H
  obtain ⟨h',e4,H⟩:=(mapSet_par fl h t av key vv).t (k:=λ h=>k .undef (.mk h nx)) H
  rcases ho with rfl|rfl
  . show (eA false true env x λ a=>eO false true env i λ key=>eO false true env y λ v=>mapSetK false Γ true fl h t a key v λ h=>k' .undef h nx)=true
    rw [e1,e2,e3,e4];exact hk _ _ _ H
  . show (eA false true env x λ a=>eO false true env i λ key=>eO false true env y λ v=>mapSetK false Γ true fl h t a key v λ h=>k' .undef h nx)=true
    rw [e1,e2,e3,e4];exact hk _ _ _ H
theorem me_sim {t:TypeId} {x i:Operand} {a:GA} {g:GV} (ha:SimA a x) (hg:SimG g i):SimOp Γ (meF Γ t a g) (.mapEntry t x i):=by
  intro C C' fl fd e env h nx k k' hC he hk H
  obtain ⟨av,_,e1,H⟩:=ha e env _ he H
  obtain ⟨key,e2,H⟩:=hg e env _ he H
  obtain ⟨⟨v,h'⟩,e3,H⟩:=(mapEntry_par fl h t av key).t (k:=λ p=>k p.1 (.mk p.2 nx)) H
  show (eA false true env x λ a=>eO false true env i λ key=>mapEntryK false Γ true fl h t a key λ v h=>k' v h nx)=true
  rw [e1,e2]
  exact (e3 λ p=>k' p.1 p.2 nx).trans (hk _ _ _ H)
theorem es_sim {t:TypeId} {x i y:Operand} {a n:GA} {v:GV} (ha:SimA a x) (hn:SimA n i) (hv:SimG v y):SimOp Γ (esF a n v) (.entryStore t x i y):=by
  intro C C' fl fd e env h nx k k' hC he hk H
  obtain ⟨av,_,e1,H⟩:=ha e env _ he H
  obtain ⟨nv,_,e2,H⟩:=hn e env _ he H
  obtain ⟨vv,e3,H⟩:=hv e env _ he H
  obtain ⟨h',e4,H⟩:=(entryStore_par fl h av nv vv).t (k:=λ h=>k .undef (.mk h nx)) H
  show (eA false true env x λ a=>eA false true env i λ n=>eO false true env y λ v=>entryStoreK false fl h a n v λ h=>k' .undef h nx)=true
  rw [e1,e2,e3,e4];exact hk _ _ _ H
theorem range_par (h:H) (nx:Nat) (t:TypeId) (x:A):Par λ k:Out3→Bool=>rangeK false Γ true h nx t x λ v h nx=>k (v,h,nx):=by
  unfold rangeK tyK
  cases Γ.ty.get t with
  | none=>exact Par.bad
  | some ti =>
    dsimp only
    cases ti.k with
    | mp a b =>
      cases x with
      | map r =>
        dsimp only
        unfold mapK
        cases h.get r with
        | none=>exact Par.bad
        | some B =>
          cases B with
          | map es c =>
            dsimp only
            unfold newK
            rcases put_par 64 h nx (some (.iter r c [] c)) with e|⟨h',e⟩
            . exact .inl λ k=>e _
            . exact .inr ⟨(V.at (.ptr nx 0),h',Nat.succ nx),λ k=>(e _).trans (natK_eq _ _ _)⟩
          | _=>exact Par.bad
      | _=>exact Par.bad
    | _=>exact Par.bad
theorem next_par (fl:Nat) (h:H) (x:A):Par λ k:Out2→Bool=>nextK false fl h x λ v h=>k (v,h):=by
  unfold nextK ptrK
  cases x with
  | ptr b o =>
    dsimp only
    refine okK_par _ ?_
    unfold iterK
    cases h.get b with
    | none=>exact Par.bad
    | some B =>
      cases B with
      | iter r s sn l =>
        dsimp only
        unfold mapK
        cases h.get r with
        | none=>exact Par.bad
        | some B =>
          cases B with
          | map es c =>
            dsimp only
            refine okK_par _ ?_
            cases leftL sn es with
            | nil=>exact Par.pure (α:=Out2) _
            | cons e l' =>
              obtain ⟨q,v,n⟩:=e
              cases l' with
              | nil=>exact (set_par h b _).bind (G:=λ h k=>k (V.tup [.at (.bool true),q,v],h)) λ h=>Par.pure (α:=Out2) _
              | cons _ _=>exact Par.bad
          | _=>exact Par.bad
      | _=>exact Par.bad
  | _=>exact Par.bad
theorem ent_par (n:Nat):∀ es:List (V×V×Nat),Par λ k:V→Bool=>entK false n es λ q v=>k (.tup [q,v])
  | []=>Par.bad
  | (q,v,i)::es=>Par.ite (F:=λ k:V→Bool=>k (.tup [q,v])) (G:=λ k:V→Bool=>entK false n es λ q v=>k (.tup [q,v])) _ (Par.pure _) (ent_par n es)
theorem entry_par (h:H) (x:A):Par λ k:V→Bool=>entryK false h x k:=by
  unfold entryK ptrK
  cases x with
  | ptr b o =>
    dsimp only
    refine okK_par _ ?_
    unfold iterK
    cases h.get b with
    | none=>exact Par.bad
    | some B =>
      cases B with
      | iter r s sn l =>
        cases sn with
        | nil=>exact Par.bad
        | cons n sn =>
          dsimp only
          unfold mapK
          cases h.get r with
          | none=>exact Par.bad
          | some B =>
            cases B with
            | map es c=>exact okK_par _ (ent_par n es)
            | _=>exact Par.bad
      | _=>exact Par.bad
  | _=>exact Par.bad
theorem rg_sim {t:TypeId} {x:Operand} {a:GA} (ha:SimA a x):SimOp Γ (rgF Γ t a) (.range t x):=by
  intro C C' fl fd e env h nx k k' hC he hk H
  obtain ⟨av,_,e1,H⟩:=ha e env _ he H
  obtain ⟨v,h',nx',e2,H⟩:=(range_par h nx t av).t3 (k:=λ v h nx=>k v (.mk h nx)) H
  show (eA false true env x λ a=>rangeK false Γ true h nx t a k')=true
  rw [e1,e2];exact hk _ _ _ H
theorem nx_sim {x:Operand} {a:GA} (ha:SimA a x):SimOp Γ (nxF a) (.next x false):=by
  intro C C' fl fd e env h nx k k' hC he hk H
  obtain ⟨av,_,e1,H⟩:=ha e env _ he H
  obtain ⟨⟨v,h'⟩,e3,H⟩:=(next_par fl h av).t (k:=λ p=>k p.1 (.mk p.2 nx)) H
  show (eA false true env x λ a=>nextK false fl h a λ v h=>k' v h nx)=true
  rw [e1]
  exact (e3 λ p=>k' p.1 p.2 nx).trans (hk _ _ _ H)
theorem en_sim {x:Operand} {a:GA} (ha:SimA a x):SimOp Γ (enF a) (.entry x):=by
  intro C C' fl fd e env h nx k k' hC he hk H
  obtain ⟨av,_,e1,H⟩:=ha e env _ he H
  obtain ⟨v,e3,H⟩:=(entry_par h av).t (k:=λ v=>k v (.mk h nx)) H
  show (eA false true env x λ a=>entryK false h a λ v=>k' v h nx)=true
  rw [e1,e3];exact hk _ _ _ H
theorem iF_mk2 {α : Type} {b:Bool} {c d:Cl α} {x : α} (h:iF b c d=.mk x):(b=true∧c=.mk x)∨(b=false∧d=.mk x):=by cases b<;>simp_all [iF]
theorem int_ok {op:BinOp} {kd:IntKind} {x y:Operand} {a b:GV} {t yt:TypeId} {f:OpF} (ha:SimG a x) (hb:SimG b y) (h:intC Γ op kd a b yt=.mk f):SimOp Γ f (.binOp op t x y yt):=by
  unfold intC at h
  rw [kdC_eq,nK_eq,nK_eq] at h
  cases op<;>simp only [nK_eq] at h
  case add=>cases h;exact ar_sim (ha.i kd) (hb.i kd) rfl λ _ _=>rfl
  case sub=>cases h;exact ar_sim (ha.i kd) (hb.i kd) rfl λ _ _=>rfl
  case mul=>cases h;exact ar_sim (ha.i kd) (hb.i kd) rfl λ _ _=>rfl
  case and=>cases h;exact ar_sim (ha.i kd) (hb.i kd) rfl λ _ _=>rfl
  case or=>cases h;exact ar_sim (ha.i kd) (hb.i kd) rfl λ _ _=>rfl
  case xor=>cases h;exact ar_sim (ha.i kd) (hb.i kd) rfl λ _ _=>rfl
  case andNot=>cases h;exact ar_sim (ha.i kd) (hb.i kd) rfl λ _ _=>rfl
  case quo=>cases h;exact qr_sim (ha.i kd) (hb.i kd) rfl λ _ _=>rfl
  case rem=>cases h;exact qr_sim (ha.i kd) (hb.i kd) rfl λ _ _=>rfl
  case eql=>cases h;exact cm_sim (ha.i kd) (hb.i kd) rfl λ _ _=>rfl
  case neq=>cases h;exact cm_sim (ha.i kd) (hb.i kd) rfl λ p q=>by show some (A.bool (not (Nat.beq p q)))=_;rw [iF_eq];cases Nat.beq p q<;>rfl
  case lss=>cases h;exact cm_sim (ha.i kd) (hb.i kd) rfl λ _ _=>rfl
  case leq=>cases h;exact cm_sim (ha.i kd) (hb.i kd) rfl λ _ _=>rfl
  case gtr=>cases h;exact cm_sim (ha.i kd) (hb.i kd) rfl λ _ _=>rfl
  case geq=>cases h;exact cm_sim (ha.i kd) (hb.i kd) rfl λ _ _=>rfl
  case shl =>
    obtain ⟨ti,_,_,h⟩:=tyC_mk h
    split at h
    . rw [kdC_eq] at h;cases h;exact shl_sim (ha.i kd) (hb.i _)
    . cases h
  case shr =>
    obtain ⟨ti,_,_,h⟩:=tyC_mk h
    split at h
    . rw [kdC_eq] at h;cases h;exact shr_sim (ha.i kd) (hb.i _)
    . cases h
theorem bin_ok {op:BinOp} {x y:Operand} {a b:GV} {t yt:TypeId} {f:OpF} (ha:SimG a x) (hb:SimG b y) (h:binC Γ op t a b yt=.mk f):SimOp Γ f (.binOp op t x y yt):=by
  unfold binC at h
  obtain ⟨ti,ht,_,h⟩:=tyC_mk h
  split at h
  . exact int_ok ha hb h
  . rename_i hti
    split at h
    . cases h;exact eb_sim true ht hti ha.b hb.b rfl
    . cases h;exact eb_sim false ht hti ha.b hb.b rfl
    . cases h
  . cases h;exact bn_sim ha hb
theorem cvt_ok {s d:TypeId} {x:Operand} {f:OpF} (h:cvC Γ s d x=.mk f):SimOp Γ f (.convert s d x):=by
  unfold cvC at h
  obtain ⟨ts,hs,_,h⟩:=tyC_mk h
  obtain ⟨td,hd,_,h⟩:=tyC_mk h
  split at h
  . rename_i ks kd hks hkd
    obtain ⟨g,h1,h⟩:=Cl.go_mk h
    rw [kdC_eq] at h
    simp only [nK_eq] at h
    rcases iF_mk2 h with ⟨h2,h⟩|⟨h2,h⟩
    . cases h
      refine ci_sim hs hd hkd ((oC_ok h1).i ks) λ n=>?_
      unfold cvI
      rw [h2];cases Nat.blt n (tp ks)<;>rfl
    . cases h
      refine ci_sim hs hd hkd ((oC_ok h1).i ks) λ n=>?_
      unfold cvI
      rw [h2,iF_eq];rfl
  . obtain ⟨g,h1,h⟩:=Cl.go_mk h
    cases h
    exact cv_sim (aC_ok h1)
theorem fld_mk {α : Type} {s:TypeId} {f:Nat} {k:Nat→TI→Cl α} {x : α} (h:fldC Γ s f k=.mk x):∃ o ti,(∀ k':Nat→TI→Bool,(fieldOf false Γ s f λ o t=>tyK false Γ t λ ti=>k' o ti)=k' o ti)∧k o ti=.mk x:=by
  unfold fldC at h
  obtain ⟨ts,hs,_,h⟩:=tyC_mk h
  split at h
  . rename_i fs hfs
    split at h
    . rename_i o t hft
      rw [nK_eq] at h
      obtain ⟨ti,ht,_,h⟩:=tyC_mk h
      refine ⟨o,ti,λ k'=>?_,h⟩
      unfold fieldOf
      rw [hs,hfs]
      show (match fs[f]? with|some (o,t)=>tyK false Γ t λ ti=>k' o ti|none=>false)=_
      rw [hft]
      exact ht _
    . cases h
  . cases h
theorem bi_ok {c:Call} {b:Builtin} {f:OpF} (hc:c.callee=.builtin b) (h:biC Γ b c.argTypes.toList c.args.toList=.mk f):SimOp Γ f (.call c):=by
  unfold biC at h
  split at h
  . rename_i ha hts
    obtain ⟨ti,ht,_,h⟩:=tyC_mk h
    split at h
    . obtain ⟨g,h1,h⟩:=Cl.go_mk h
      cases h
      exact ln_sim hc ha hts ht (.inl ⟨rfl,_,by assumption⟩) (aC_ok h1)
    . obtain ⟨g,h1,h⟩:=Cl.go_mk h
      cases h
      exact ln_sim hc ha hts ht (.inr ⟨rfl,by assumption⟩) (aC_ok h1)
    . obtain ⟨l,h1,h⟩:=Cl.go_mk h
      cases h
      exact bi_sim hc (.inl rfl) (lvC_ok h1)
  . rename_i ha hts
    obtain ⟨ti,ht,_,h⟩:=tyC_mk h
    obtain ⟨ti2,ht2,_,h⟩:=tyC_mk h
    split at h
    . obtain ⟨te,hte,_,h⟩:=tyC_mk h
      rcases iF_mk2 h with ⟨hn,h⟩|⟨hn,h⟩
      . obtain ⟨g,h1,h⟩:=Cl.go_mk h
        obtain ⟨g',h2,h⟩:=Cl.go_mk h
        cases h
        exact ap_sim hc ha hts ht ht2 (by assumption) hte hn (aC_ok h1) (aC_ok h2)
      . obtain ⟨hi,h⟩:=iF_mk h
        obtain ⟨g,h1,h⟩:=Cl.go_mk h
        obtain ⟨g',h2,h⟩:=Cl.go_mk h
        cases h
        exact apz_sim hc ha hts ht ht2 (by assumption) hte hn hi (aC_ok h1) (xC_ok2 h2)
    . cases h
  . rename_i ha hts
    obtain ⟨ti,ht,_,h⟩:=tyC_mk h
    split at h
    . obtain ⟨te,hte,_,h⟩:=tyC_mk h
      obtain ⟨g,h1,h⟩:=Cl.go_mk h
      obtain ⟨g',h2,h⟩:=Cl.go_mk h
      cases h
      exact cp_sim hc ha hts ht (by assumption) hte (aC_ok h1) (aC_ok h2)
    . cases h
  . obtain ⟨l,h1,h⟩:=Cl.go_mk h
    cases h
    exact bi_sim hc (.inr (.inl rfl)) (lvC_ok h1)
  . obtain ⟨l,h1,h⟩:=Cl.go_mk h
    cases h
    exact bi_sim hc (.inr (.inr (.inl rfl))) (lvC_ok h1)
  . obtain ⟨l,h1,h⟩:=Cl.go_mk h
    cases h
    exact bi_sim hc (.inr (.inr (.inr (.inl rfl)))) (lvC_ok h1)
  . obtain ⟨l,h1,h⟩:=Cl.go_mk h
    cases h
    exact bi_sim hc (.inr (.inr (.inr (.inr (.inl rfl))))) (lvC_ok h1)
  . obtain ⟨l,h1,h⟩:=Cl.go_mk h
    cases h
    exact bi_sim hc (.inr (.inr (.inr (.inr (.inr rfl))))) (lvC_ok h1)
  . cases h
theorem ropeL_par:∀ l:List A,Par λ k=>ropeL true l k
  | []=>Par.pure _
  | a::l=>(ropeL_par l).bind (G:=λ x k=>jn true 1 (ofA a) x k) λ x=>jn_par _ _ _
theorem ifV_par (g:Bool) (cs:List A):Par λ k=>ifV false true g cs k:=by
  unfold ifV
  cases g with
  | true=>exact (ropeL_par cs).bind (G:=λ r k=>k (V.agg r)) λ r=>Par.pure _
  | false =>
    cases cs with
    | nil=>exact Par.bad
    | cons a l =>
      cases l with
      | nil=>exact Par.pure (V.at a)
      | cons b l=>exact Par.bad
theorem mt_par (s:String):∀ l:List (String×FuncId),Par λ k=>mtK false s l k
  | []=>Par.bad
  | (n,q)::l=>Par.ite (F:=λ k=>k q) (G:=λ k=>mtK false s l k) _ (Par.pure q) (mt_par s l)
theorem mi_sim {t:TypeId} {ti:TI} {x:Operand} {g:GV} (ht:∀ k':TI→Bool,tyK false Γ t k'=k' ti) (hg:SimG g x):SimOp Γ (miF t g) (.makeInterface t x):=by
  intro C C' fl fd e env h nx k k' hC he hk H
  obtain ⟨v,e1,H⟩:=hg e env _ he H
  show (tyK false Γ t λ _=>eO false true env x λ v=>(match v with
    | .at a=>k' (.at (.iface t false [a])) h nx
    | .agg r=>(match r.atoms r.len 0 with|some cs=>k' (.at (.iface t true cs)) h nx|none=>false)
    | _=>false))=true
  rw [ht,e1]
  cases v with
  | «at» a=>exact hk _ _ _ H
  | agg r =>
    dsimp only at H ⊢
    cases hc:r.atoms r.len 0 with
    | none=>rw [hc] at H;cases H
    | some cs=>rw [hc] at H;exact hk _ _ _ H
  | tup l=>cases H
  | undef=>cases H
  | skip=>cases H
theorem ta_sim {t s0:TypeId} {ti:TI} {x:Operand} {ok:Bool} {g:GA} (ht:∀ k':TI→Bool,tyK false Γ t k'=k' ti) (hg:SimA g x):SimOp Γ (taF t ti ok g) (.typeAssert x s0 t ok):=by
  intro C C' fl fd e env h nx k k' hC he hk H
  obtain ⟨a,_,e1,H⟩:=hg e env _ he H
  show (tyK false Γ t λ ti=>eA false true env x λ a=>(match a with
    | .iface s g cs=>bif Nat.beq s t then ifV false true g cs (λ v=>bif ok then k' (.tup [v,.at (.bool true)]) h nx else k' v h nx) else (bif ok then zeroVK false ti (λ z=>k' (.tup [z,.at (.bool false)]) h nx) else false)
    | .nilIface=>bif ok then zeroVK false ti (λ z=>k' (.tup [z,.at (.bool false)]) h nx) else false
    | _=>false))=true
  rw [ht,e1]
  have fail:(bif ok then zeroVK false ti (λ z=>k (.tup [z,.at (.bool false)]) (.mk h nx)) else false)=true→(bif ok then zeroVK false ti (λ z=>k' (.tup [z,.at (.bool false)]) h nx) else false)=true:=by
    intro H
    cases ok with
    | false=>cases H
    | true =>
      obtain ⟨z,e2,H⟩:=(zero_par ti).t (k:=λ z=>k (.tup [z,.at (.bool false)]) (.mk h nx)) H
      rw [cond_true,e2]
      exact hk _ _ _ H
  cases a with
  | iface s gg cs =>
    dsimp only at H ⊢
    cases hb:Nat.beq s t with
    | true =>
      rw [hb,cond_true] at H
      rw [cond_true]
      obtain ⟨v,e2,H⟩:=(ifV_par gg cs).t (k:=λ v=>bif ok then k (.tup [v,.at (.bool true)]) (.mk h nx) else k v (.mk h nx)) H
      rw [e2]
      cases ok<;>exact hk _ _ _ H
    | false =>
      rw [hb,cond_false] at H
      rw [cond_false]
      exact fail H
  | nilIface=>exact fail H
  | _=>cases H
theorem in_sim {c:Call} {x:Operand} {s:String} {a:GA} {l:LsV} (hc:c.callee=.invoke x s) (ha:SimA a x) (hl:SimLv l c.args.toList):SimOp Γ (inF Γ s a l) (.call c):=by
  intro C C' fl fd e env h nx k k' hC he hk H
  obtain ⟨f,_,e1,H⟩:=ha e env _ he H
  unfold evO
  dsimp only
  rw [hc]
  dsimp only
  rw [e1]
  cases f with
  | iface t g cs =>
    dsimp only at H ⊢
    obtain ⟨ti,e2,H⟩:=(tyK_par (Γ:=Γ) t).t H
    obtain ⟨q,e3,H⟩:=(mt_par s ti.ms).t H
    obtain ⟨v,e4,H⟩:=(ifV_par g cs).t H
    obtain ⟨vs,e5,H⟩:=hl e env _ he H
    rw [e2,e3,e4,e5]
    exact hC _ _ _ _ _ _ _ _ (λ v h nx hv=>hk v h nx hv) H
  | _=>cases H
end Go.S
namespace Go.S
open Go Go.E
variable [Gl]
variable {Γ : Ctx}
theorem opC_ok {o:Op} {f:OpF} (h:opC Γ o=.mk f):SimOp Γ f o:=by
  unfold opC at h
  split at h
  . obtain ⟨g,h1,h⟩:=Cl.go_mk h;cases h;exact mv_sim (oC_ok h1) _ (.inl rfl)
  . obtain ⟨g,h1,h⟩:=Cl.go_mk h;cases h;exact mv_sim (oC_ok h1) _ (.inr rfl)
  . obtain ⟨c,h1,h⟩:=Cl.go_mk h
    obtain ⟨a,h2,h⟩:=Cl.go_mk h
    obtain ⟨b,h3,h⟩:=Cl.go_mk h
    cases h;exact pk_sim (bC_ok h1) (oC_ok h2) (oC_ok h3)
  . obtain ⟨ti,ht,_,h⟩:=tyC_mk h
    rw [tiC_eq] at h;cases h;exact al_sim ht
  . obtain ⟨g,h1,h⟩:=Cl.go_mk h;cases h;exact bx_sim (oC_ok h1)
  . obtain ⟨ti,ht,_,h⟩:=tyC_mk h
    rw [tiC_eq] at h
    split at h
    . rename_i fs hti
      obtain ⟨g,h1,h⟩:=Cl.go_mk h
      cases h
      refine bl_sim ht (.inl ⟨fs,hti,fill_ok (pl:=λ i k=>match fs[i]? with|some (o,t)=>k o t|none=>false) (λ i k x hx=>?_) h1⟩)
      split at hx
      . rename_i o t hft
        exact ⟨o,t,λ k'=>by show (match fs[i]? with|some (o,t)=>k' o t|none=>false)=_;rw [hft],hx⟩
      . cases hx
    . rename_i n e hti
      obtain ⟨te,hte,_,h⟩:=tyC_mk h
      obtain ⟨g,h1,h⟩:=Cl.go_mk h
      cases h
      exact bl_sim ht (.inr ⟨n,e,te,hti,hte,fill_ok (pl:=λ i k=>k (Nat.mul i te.size) e) (λ i k x hx=>⟨_,_,λ _=>rfl,hx⟩) h1⟩)
    . cases h
  . obtain ⟨ti,ht,_,h⟩:=tyC_mk h
    split at h
    . rename_i e hti
      obtain ⟨te,hte,_,h⟩:=tyC_mk h
      obtain ⟨h1,h⟩:=iF_mk h
      obtain ⟨h2,h⟩:=iF_mk h
      obtain ⟨g,h3,h⟩:=Cl.go_mk h
      rw [nK_eq] at h
      cases h
      exact bs_sim ht hti hte h1 h2 (fill_ok (pl:=λ i k=>k (Nat.mul i te.size) e) (λ i k x hx=>⟨_,_,λ _=>rfl,hx⟩) h3)
    . cases h
  . obtain ⟨ti,ht,_,h⟩:=tyC_mk h
    obtain ⟨p,h1,h⟩:=Cl.go_mk h
    rcases iF_mk2 h with ⟨ha,h⟩|⟨ha,h⟩
    . cases h;exact ldG_sim ht (pC_ok h1) ha
    . cases h;exact ld_sim ht (pC_ok h1) ha
  . obtain ⟨ti,ht,_,h⟩:=tyC_mk h
    obtain ⟨p,h1,h⟩:=Cl.go_mk h
    obtain ⟨g,h2,h⟩:=Cl.go_mk h
    cases h;exact st_sim ht (pC_ok h1) (oC_ok h2)
  . obtain ⟨p,h1,h⟩:=Cl.go_mk h;cases h;exact nc_sim (pC_ok h1)
  . obtain ⟨a,h1,h⟩:=Cl.go_mk h
    obtain ⟨b,h2,h⟩:=Cl.go_mk h
    exact bin_ok (oC_ok h1) (oC_ok h2) h
  . split at h
    . obtain ⟨g,h1,h⟩:=Cl.go_mk h;cases h;exact nt_sim (bC_ok h1)
    . obtain ⟨g,h1,h⟩:=Cl.go_mk h;cases h;exact un_sim (aC_ok h1)
  . exact cvt_ok h
  . obtain ⟨ti,ht,_,h⟩:=tyC_mk h
    obtain ⟨g,h1,h⟩:=Cl.go_mk h
    split at h
    . rename_i n e hti
      obtain ⟨h2,h⟩:=iF_mk h
      rw [nK_eq] at h
      cases h;exact sa_sim ht hti h2 (aC_ok h1)
    . cases h
  . obtain ⟨a,h1,h⟩:=Cl.go_mk h
    obtain ⟨b,h2,h⟩:=Cl.go_mk h
    cases h;exact mf_sim (laC_ok h1) (laC_ok h2)
  . obtain ⟨ti,ht,_,h⟩:=tyC_mk h
    split at h
    . rename_i e hti
      obtain ⟨te,hte,_,h⟩:=tyC_mk h
      obtain ⟨a,h1,h⟩:=Cl.go_mk h
      obtain ⟨b,h2,h⟩:=Cl.go_mk h
      cases h;exact ms_sim ht hti hte (xC_ok h1) (xC_ok h2)
    . cases h
  . rename_i t x lo hi mx
    obtain ⟨hm,h⟩:=iF_mk h
    rw [iF_eq] at hm
    obtain ⟨ti,ht,_,h⟩:=tyC_mk h
    obtain ⟨l,h1,h⟩:=Cl.go_mk h
    obtain ⟨q,h2,h⟩:=Cl.go_mk h
    obtain ⟨m,h3,h⟩:=Cl.go_mk h
    split at h
    . rename_i hti
      obtain ⟨hmx,h⟩:=iF_mk h
      obtain ⟨a,h4,h⟩:=Cl.go_mk h
      cases h;exact sls_sim hm hmx ht hti (aC_ok h4) (bdC_ok h1) (bdC_ok h2)
    . rename_i e hti
      obtain ⟨te,hte,_,h⟩:=tyC_mk h
      obtain ⟨a,h4,h⟩:=Cl.go_mk h
      cases h;exact slc_sim hm ht hti hte (aC_ok h4) (bdC_ok h1) (bdC_ok h2) (bdC_ok h3)
    . rename_i n e hti
      obtain ⟨te,hte,_,h⟩:=tyC_mk h
      obtain ⟨hn,h⟩:=iF_mk h
      rw [nK_eq] at h
      obtain ⟨p,h4,h⟩:=Cl.go_mk h
      cases h;exact sla_sim hm hn ht hti hte (pC_ok h4) (bdC_ok h1) (bdC_ok h2) (bdC_ok h3)
    . cases h
  . obtain ⟨o,ti,ho,h⟩:=fld_mk h
    obtain ⟨h1,h⟩:=iF_mk h
    obtain ⟨p,h2,h⟩:=Cl.go_mk h
    cases h;exact fa_sim (λ k'=>ho λ _ ti=>k' ti) ho h1 (pC_ok h2)
  . obtain ⟨o,ti,ho,h⟩:=fld_mk h
    obtain ⟨g,h2,h⟩:=Cl.go_mk h
    have:=fd_sim ho (oC_ok h2)
    rcases iF_mk2 h with ⟨ha,h⟩|⟨ha,h⟩
    . cases h;rw [ha] at this;exact this
    . cases h;rw [ha] at this;exact this
  . obtain ⟨ti,ht,_,h⟩:=tyC_mk h
    obtain ⟨i,h1,h⟩:=Cl.go_mk h
    split at h
    . rename_i e hti
      obtain ⟨te,hte,_,h⟩:=tyC_mk h
      obtain ⟨a,h2,h⟩:=Cl.go_mk h
      cases h;exact ix_sim ht hti hte (aC_ok h2) (xC_ok h1)
    . rename_i n e hti
      obtain ⟨te,hte,_,h⟩:=tyC_mk h
      rw [nK_eq] at h
      obtain ⟨p,h2,h⟩:=Cl.go_mk h
      cases h;exact ixA_sim ht hti hte (pC_ok h2) (xC_ok h1)
    . cases h
  . obtain ⟨ti,ht,_,h⟩:=tyC_mk h
    obtain ⟨i,h1,h⟩:=Cl.go_mk h
    split at h
    . rename_i n e hti
      obtain ⟨te,hte,_,h⟩:=tyC_mk h
      rw [nK_eq] at h
      obtain ⟨g,h2,h⟩:=Cl.go_mk h
      have:=iv_sim ht hti hte (oC_ok h2) (xC_ok h1)
      rcases iF_mk2 h with ⟨ha,h⟩|⟨ha,h⟩
      . cases h;rw [ha] at this;exact this
      . cases h;rw [ha] at this;exact this
    . rename_i hti
      obtain ⟨a,h2,h⟩:=Cl.go_mk h
      cases h;exact ivS_sim ht hti (aC_ok h2) (xC_ok h1)
    . cases h
  . obtain ⟨ti,ht,_,h⟩:=tyC_mk h
    split at h
    . rename_i hti
      split at h
      . cases h;exact mm_sim ht hti
      . obtain ⟨g,h1,h⟩:=Cl.go_mk h
        cases h;exact mmX_sim ht hti (xC_ok h1)
    . cases h
  . obtain ⟨a,h1,h⟩:=Cl.go_mk h
    obtain ⟨g,h2,h⟩:=Cl.go_mk h
    cases h;exact lk_sim (aC_ok h1) (oC_ok h2)
  . obtain ⟨a,h1,h⟩:=Cl.go_mk h
    obtain ⟨g,h2,h⟩:=Cl.go_mk h
    obtain ⟨v,h3,h⟩:=Cl.go_mk h
    cases h;exact mu_sim _ (.inl rfl) (aC_ok h1) (oC_ok h2) (oC_ok h3)
  . obtain ⟨a,h1,h⟩:=Cl.go_mk h
    obtain ⟨g,h2,h⟩:=Cl.go_mk h
    obtain ⟨v,h3,h⟩:=Cl.go_mk h
    cases h;exact mu_sim _ (.inr rfl) (aC_ok h1) (oC_ok h2) (oC_ok h3)
  . obtain ⟨a,h1,h⟩:=Cl.go_mk h
    obtain ⟨g,h2,h⟩:=Cl.go_mk h
    cases h;exact me_sim (aC_ok h1) (oC_ok h2)
  . obtain ⟨a,h1,h⟩:=Cl.go_mk h
    obtain ⟨n,h2,h⟩:=Cl.go_mk h
    obtain ⟨v,h3,h⟩:=Cl.go_mk h
    cases h;exact es_sim (aC_ok h1) (aC_ok h2) (oC_ok h3)
  . obtain ⟨a,h1,h⟩:=Cl.go_mk h
    cases h;exact rg_sim (aC_ok h1)
  . obtain ⟨a,h1,h⟩:=Cl.go_mk h
    cases h;exact nx_sim (aC_ok h1)
  . obtain ⟨a,h1,h⟩:=Cl.go_mk h
    cases h;exact en_sim (aC_ok h1)
  . obtain ⟨f',h1,h⟩:=Cl.go_mk h
    obtain ⟨g,h2,h⟩:=Cl.go_mk h
    cases h;exact ex_sim h1 (oC_ok h2)
  . obtain ⟨ti,ht,_,h⟩:=tyC_mk h
    obtain ⟨g,h1,h⟩:=Cl.go_mk h
    cases h;exact mi_sim ht (oC_ok h1)
  . obtain ⟨ti,ht,_,h⟩:=tyC_mk h
    obtain ⟨a,h1,h⟩:=Cl.go_mk h
    cases h;exact ta_sim ht (aC_ok h1)
  . rename_i c
    split at h
    . rename_i g hc
      obtain ⟨l,h1,h⟩:=Cl.go_mk h
      cases h;exact ca_sim hc (lvC_ok h1)
    . rename_i x _ hc
      obtain ⟨a,h1,h⟩:=Cl.go_mk h
      obtain ⟨l,h2,h⟩:=Cl.go_mk h
      cases h;exact cl_sim hc (aC_ok h1) (lvC_ok h2)
    . rename_i b hc
      exact bi_ok hc h
    . rename_i x s hc
      obtain ⟨a,h1,h⟩:=Cl.go_mk h
      obtain ⟨l,h2,h⟩:=Cl.go_mk h
      cases h;exact in_sim hc (aC_ok h1) (lvC_ok h2)
  . cases h
theorem opB_ok {o:Op} {f:OpF} (h:opB Γ o=.mk f):SimOp Γ f o:=by
  unfold opB at h
  cases hc:opC Γ o with
  | mk g=>rw [hc] at h;cases h;exact opC_ok hc
  | no=>rw [hc] at h;cases h;intro C C' fl fd e env h nx k k' hC he hk H;cases H
def SimGd (os:List Oper) (g:GB) (w:Bool) (gd:Option (Nat×Bool)):Prop:=∀ e env (y n y' n':Bool),EnvS e env→(y=true→y'=true)→(n=true→n'=true)→(iF w (g e y n) (g e n y))=true→guardK false os env gd y' n'=true
theorem gdC_mk {α : Type} {os:List Oper} {gd:Option (Nat×Bool)} {nog:Cl α} {yes:GB→Bool→Cl α} {x : α} (h:gdC os gd nog yes=.mk x):(gd=none∧nog=.mk x)∨∃ g w,SimGd os g w gd∧yes g w=.mk x:=by
  unfold gdC at h
  split at h
  . exact .inl ⟨rfl,h⟩
  . rename_i j w
    split at h
    . cases h
    . rename_i p hp
      split at h
      . cases h
      . rename_i s hs
        obtain ⟨g,h1,h⟩:=Cl.go_mk h
        refine .inr ⟨gU w g,w,λ e env y n y' n' he hy hn H=>?_,h⟩
        have hb:=oC_ok h1
        show (match os[j]? with
          | none=>false
          | some p=>match p.dst with
            | none=>false
            | some s=>match env.get s with
              | some (.at (.bool b))=>bif b then (bif w then y' else n') else (bif w then n' else y')
              | some .skip=>n'
              | _=>false)=true
        rw [hp]
        show (match p.dst with
            | none=>false
            | some s=>match env.get s with
              | some (.at (.bool b))=>bif b then (bif w then y' else n') else (bif w then n' else y')
              | some .skip=>n'
              | _=>false)=true
        rw [hs]
        have key:∀ v,(∀ k':V→Bool,eO false true env (.tmp s) k'=k' v)→env.get s=some v:=by
          intro v e1
          cases hg:env.get s with
          | none =>
            have e2:=e1 λ _=>true
            unfold eO at e2
            have e2:(match env.get s with|some v=>true|none=>false)=true:=e2
            rw [hg] at e2;cases e2
          | some u =>
            have e2:=e1 λ v'=>@decide (v'=u) (Classical.propDecidable _)
            have e2:(match env.get s with|some v'=>@decide (v'=u) (Classical.propDecidable _)|none=>false)=@decide (v=u) (Classical.propDecidable _):=e2
            rw [hg] at e2
            have e2:@decide (u=u) (Classical.propDecidable _)=@decide (v=u) (Classical.propDecidable _):=e2
            rw [@decide_eq_true _ (Classical.propDecidable _) rfl] at e2
            exact congrArg some (@of_decide_eq_true _ (Classical.propDecidable _) e2.symm).symm
        have fin:∀ (v:V) (p q u:Bool),env.get s=some v→vU v (λ a=>aB a p q) u=true→(∃ b,v=.at (.bool b)∧(bif b then p else q)=true)∨(v=.skip∧u=true):=by
          intro v p q u _ hv
          cases v with
          | «at» a =>
            obtain ⟨b,rfl,hb⟩:=aB_t hv
            exact .inl ⟨b,rfl,hb⟩
          | skip=>exact .inr ⟨rfl,hv⟩
          | _=>cases hv
        cases w with
        | true =>
          obtain ⟨v,e1,hv⟩:=hb e env _ he (show g e (λ v=>vU v (λ a=>aB a y n) n)=true from H)
          have hg:=key v e1
          show (match env.get s with
              | some (.at (.bool b))=>bif b then y' else n'
              | some .skip=>n'
              | _=>false)=true
          rcases fin v _ _ _ hg hv with ⟨b,rfl,hb2⟩|⟨rfl,hu⟩
          . rw [hg]
            show (bif b then y' else n')=true
            cases b
            . exact hn hb2
            . exact hy hb2
          . rw [hg];exact hn hu
        | false =>
          obtain ⟨v,e1,hv⟩:=hb e env _ he (show g e (λ v=>vU v (λ a=>aB a n y) n)=true from H)
          have hg:=key v e1
          show (match env.get s with
              | some (.at (.bool b))=>bif b then n' else y'
              | some .skip=>n'
              | _=>false)=true
          rcases fin v _ _ _ hg hv with ⟨b,rfl,hb2⟩|⟨rfl,hu⟩
          . rw [hg]
            show (bif b then n' else y')=true
            cases b
            . exact hy hb2
            . exact hn hb2
          . rw [hg];exact hn hu
def SimL (Γ : Ctx) (f:RgF) (os r:List Oper):Prop:=∀ C C' fl fd e env h nx (k:E2→M2→Bool) (k':En→H→Nat→Bool),CallS C C'→EnvS e env →
  (∀ e env h nx,EnvS e env→k e (.mk h nx)=true→k' env h nx=true)→f (.mk C fl fd) e (.mk h nx) k=true→evL false C' Γ true fl fd os r env h nx k'=true
theorem ordC_ok {os:List Oper}:∀ {r:List Oper} {f:RgF},ordC Γ os r=.mk f→SimL Γ f os r
  | [],f,h=>by
    cases h
    intro C C' fl fd e env h nx k k' hC he hk H
    exact hk _ _ _ _ he H
  | o::r,f,h=>by
    unfold ordC at h
    obtain ⟨g,h1,h⟩:=Cl.go_mk h
    obtain ⟨p,h2,h⟩:=Cl.go_mk h
    obtain ⟨a,h3,h⟩:=Cl.go_mk h
    obtain ⟨b,h4,h⟩:=Cl.go_mk h
    cases h
    have hop:=opB_ok h1
    have hp:=dC_ok h2
    have hr:=ordC_ok h4
    clear h
    intro C C' fl fd e env h nx k k' hC he hk H
    have yes:opR g p (.mk C fl fd) e (.mk h nx) (λ e m=>b (.mk C fl fd) e m k)=true→evO false C' Γ true fl fd o.op env h nx (λ v h nx=>dstK false env o.dst v λ env=>evL false C' Γ true fl fd os r env h nx k')=true:=by
      intro H
      refine hop C C' fl fd e env h nx _ _ hC he (λ v h nx H=>?_) H
      obtain ⟨e',env',e1,he',H⟩:=hp e env v _ he H
      rw [e1]
      exact hr C C' fl fd e' env' h nx k k' hC he' hk H
    rcases gdC_mk h3 with ⟨hg,h3⟩|⟨gb,w,hg,h3⟩
    . cases h3
      unfold evL
      rw [hg]
      exact yes H
    . cases h3
      unfold evL
      refine hg e env _ _ _ _ he yes (λ H=>?_) H
      obtain ⟨e',env',e1,he',H⟩:=hp e env _ _ he H
      rw [e1]
      exact hr C C' fl fd e' env' _ nx k k' hC he' hk H
end Go.S
namespace Go.S
open Go Go.E
variable [Gl]
variable {Γ : Ctx}
def stepD (C:CallF Bool) (Γ : Ctx) (fl fd:Nat) (os:List Oper) (rs:List (Nat×Nat×Oper)) (nx0:Nat) (i bi:Nat) (o:Oper) (al:List Rec) (env:En) (h:H) (nx:Nat) (K:En→H→Nat→List Rec→Bool):Bool :=
  bif pureB o.op then evO false C Γ true nx nx o.op env .lf nx (fun v _ nx' => okK false (Nat.beq nx' nx) (dstK false env o.dst v fun env => K env h nx al))
       else bif callB o.op then
         (bif totB rs i bi then evO false C Γ true fl fd o.op env h nx (λ v h' nx'=>okK false (Nat.ble nx nx') (dstK false env o.dst v λ env=>K env h' nx' (⟨i,bi,nx,Nat.sub nx' nx,none,[],none⟩::al)))
          else bif wmB Γ o.op then argsV false true env o.op λ vs=>memD false C Γ true fl fd i bi o al env h nx (reachV h vs) none K
          else
            let un:=al.filter λ r=>not (ordB i bi r.i r.bi)
            let off:=(un.map λ r=>fromTo r.n r.lo++r.wr).flatten
            dropK false off h λ h1=>okK false (Nat.ble nx0 nx) (evO false C Γ true nx nx0 o.op env h1 nx λ v h2 nx' =>
              let dl:=gone h1 h2 (fromTo (Nat.sub nx nx0) nx0)
              okK false (two (Nat.ble nx nx') (un.all (wrOk al dl))) (backK false h2 (dl++fromTo (Nat.sub nx' nx) nx) h λ h'=>dstK false env o.dst v λ env=>K env h' nx' (⟨i,bi,nx,Nat.sub nx' nx,none,dl,none⟩::al))))
       else footK false true env o.op λ acc w=>memD false C Γ true fl fd i bi o al env h nx acc w K
theorem evD_cons (C : CallF Bool) (Γ : Ctx) (fl fd : Nat) (os : List Oper) (rs : List (Nat × Nat × Oper)) (nx0 : Nat) (i bi : Nat) (o : Oper) (r : List (Nat × Nat × Oper)) (al : List Rec) (env : En) (h : H) (nx : Nat) (k : En → H → Nat → Bool) :
    evD false C Γ true fl fd os rs nx0 ((i,bi,o)::r) al env h nx k=guardK false os env o.guard (stepD C Γ fl fd os rs nx0 i bi o al env h nx λ env h nx al=>evD false C Γ true fl fd os rs nx0 r al env h nx k)
      (dstK false env o.dst .skip λ env=>evD false C Γ true fl fd os rs nx0 r al env h nx k):=by
  rw [evD];rfl
def SimSt (Γ : Ctx) (a:DrF) (os:List Oper) (rs:List (Nat×Nat×Oper)) (i bi:Nat) (o:Oper):Prop:=∀ C C' fl fd n0 e env h nx al (k:E2→M2→List Rec→Bool) (K:En→H→Nat→List Rec→Bool),CallS C C'→EnvS e env →
  (∀ e env h nx al,EnvS e env→k e (.mk h nx) al=true→K env h nx al=true)→a (.mk C fl fd) n0 e (.mk h nx) al k=true→stepD C' Γ fl fd os rs n0 i bi o al env h nx K=true
theorem dPu_ok {os:List Oper} {rs:List (Nat×Nat×Oper)} {i bi:Nat} {o:Oper} {f:OpF} {p:PV} (hf:SimOp Γ f o.op) (hp:SimP p o.dst) (hb:pureB o.op=true):SimSt Γ (dPu f p) os rs i bi o:=by
  intro C C' fl fd n0 e env h nx al k K hC he hk H
  unfold stepD
  rw [hb,cond_true]
  refine hf C C' nx nx e env .lf nx _ _ hC he (λ v h' nx' H=>?_) H
  obtain ⟨h1,H⟩:=iF_t H
  obtain ⟨e',env',e1,he',H⟩:=hp e env v _ he H
  rw [h1,okK,cond_true,e1]
  exact hk _ _ _ _ _ he' H
theorem dTo_ok {os:List Oper} {rs:List (Nat×Nat×Oper)} {i bi:Nat} {o:Oper} {f:OpF} {p:PV} (hf:SimOp Γ f o.op) (hp:SimP p o.dst) (hb:pureB o.op=false) (hc:callB o.op=true) (ht:totB rs i bi=true):SimSt Γ (dTo i bi f p) os rs i bi o:=by
  intro C C' fl fd n0 e env h nx al k K hC he hk H
  unfold stepD
  rw [hb,cond_false,hc,cond_true,ht,cond_true]
  refine hf C C' fl fd e env h nx _ _ hC he (λ v h' nx' H=>?_) H
  obtain ⟨h1,H⟩:=iF_t H
  obtain ⟨e',env',e1,he',H⟩:=hp e env v _ he H
  rw [h1,okK,cond_true,e1]
  exact hk _ _ _ _ _ he' H
theorem drop_par:∀ (l:List Nat) (h:H),Par λ k=>dropK false l h k
  | [],h=>Par.pure h
  | b::bs,h=>by
    unfold dropK
    split
    . exact (put_par 64 h b none).bind (G:=λ h k=>dropK false bs h k) λ h=>drop_par bs h
    . exact drop_par bs h
theorem pick_par (h:H):∀ (l:List Nat) (h1:H),Par λ k=>pickK false h l h1 k
  | [],h1=>Par.pure h1
  | b::bs,h1=>by
    unfold pickK
    split
    . rename_i x hx;exact (put_par 64 h1 b (some x)).bind (G:=λ h1 k=>pickK false h bs h1 k) λ h1=>pick_par h bs h1
    . exact pick_par h bs h1
theorem back_par (h1:H):∀ (l:List Nat) (h:H),Par λ k=>backK false h1 l h k
  | [],h=>Par.pure h
  | b::bs,h=>(put_par 64 h b (h1.get b)).bind (G:=λ h k=>backK false h1 bs h k) λ h=>back_par h1 bs h
theorem get_some {α : Type} (t:Tr α) (b:Nat):tG none t b some=t.get b:=by
  rw [tG_eq];cases t.get b<;>rfl
theorem piR_eq (h:H):∀ (l:List Nat) (h1:H) (k:H→Bool),piR h l h1 k=pickK false h l h1 k
  | [],h1,k=>rfl
  | b::bs,h1,k=>by
    have e:piR h (b::bs) h1 k=Option.rec (motive:=λ _=>Bool) (piR h bs h1 k) (λ x=>tP 64 h1 b (some x) λ h1=>piR h bs h1 k) (tG none h b some):=rfl
    rw [e,get_some]
    unfold pickK
    cases h.get b with
    | none=>exact piR_eq h bs h1 k
    | some x =>
      show tP 64 h1 b (some x) (λ h1=>piR h bs h1 k)=setK false h1 b x λ h1=>pickK false h bs h1 k
      rw [tP_eq]
      simp only [piR_eq h bs]
      rfl
theorem baR_eq (h1:H):∀ (l:List Nat) (h:H) (k:H→Bool),baR h1 l h k=backK false h1 l h k
  | [],h,k=>rfl
  | b::bs,h,k=>by
    have e:baR h1 (b::bs) h k=tP 64 h b (tG none h1 b some) λ h=>baR h1 bs h k:=rfl
    rw [e,get_some,tP_eq]
    simp only [baR_eq h1 bs]
    rfl
theorem frR_eq:∀ (n lo:Nat),frR n lo=fromTo n lo
  | 0,lo=>rfl
  | n+1,lo=>by
    have e:frR (n+1) lo=lo::frR n (Nat.succ lo):=rfl
    rw [e,frR_eq];rfl
theorem allR_eq {α : Type} (p : α→Bool):∀ l:List α,allR p l=l.all p
  | []=>rfl
  | x::l=>by
    have e:allR p (x::l)=iF (p x) (allR p l) false:=rfl
    rw [e,allR_eq,iF_eq,List.all_cons]
    cases p x<;>rfl
theorem unl_eq (i bi:Nat):∀ al:List Rec,unl i bi al=al.filter λ r=>not (ordB i bi r.i r.bi)
  | []=>rfl
  | r::al=>by
    have e:unl i bi (r::al)=iF (odR i bi r.i r.bi) (unl i bi al) (r::unl i bi al):=by cases r;rfl
    have e2:odR i bi r.i r.bi=ordB i bi r.i r.bi:=by unfold odR;rw [iF_eq];rfl
    rw [e,e2,unl_eq,iF_eq]
    cases hb:ordB i bi r.i r.bi with
    | true=>rw [List.filter_cons_of_neg (by simp [hb])];rfl
    | false=>rw [List.filter_cons_of_pos (by simp [hb])];rfl
theorem dFr_ok {os:List Oper} {rs:List (Nat×Nat×Oper)} {i bi:Nat} {o:Oper} {f:OpF} {p:PV} (hf:SimOp Γ f o.op) (hp:SimP p o.dst) (hb:pureB o.op=false) (hc:callB o.op=true) (ht:totB rs i bi=false) (hwm:wmB Γ o.op=false):SimSt Γ (dFr i bi f p) os rs i bi o:=by
  intro C C' fl fd n0 e env h nx al k K hC he hk H
  unfold stepD
  rw [hb,cond_false,hc,cond_true,ht,cond_false,hwm,cond_false]
  obtain ⟨h1,e1,H⟩:=(drop_par _ h).t H
  obtain ⟨h2,H⟩:=iF_t H
  dsimp only
  rw [e1,h2,okK,cond_true]
  refine hf C C' nx n0 e env h1 nx _ _ hC he (λ v h' nx' H=>?_) H
  obtain ⟨h3,H⟩:=iF_t H
  obtain ⟨h4,H⟩:=iF_t H
  obtain ⟨h5,e2,H⟩:=(back_par _ _ h).t H
  obtain ⟨e',env',e3,he',H⟩:=hp e env v _ he H
  rw [two_t,h3,cond_true,h4,okK,cond_true,e2,e3]
  exact hk _ _ _ _ _ he' H
def SimFt (ft:FtF) (o:Op):Prop:=∀ e env (k:List Nat→Option (List Nat)→Bool),EnvS e env→ft e k=true→∃ l w,(∀ k':List Nat→Option (List Nat)→Bool,footK false true env o k'=k' l w)∧k l w=true
theorem bkR_eq (a:A) (k:List Nat→Bool):bkR a k=k (blkOf a):=by cases a<;>rfl
theorem foot_ok {α : Type} {o:Op} {k:FtF→Cl α} {x : α} (h:footC o k=.mk x):∃ ft,SimFt ft o∧k ft=.mk x:=by
  have h0:∀ o:Op,(∀ env (k':List Nat→Option (List Nat)→Bool),footK false true env o k'=k' [] (some []))→SimFt ft0 o:=λ o ho e env k he H=>⟨[],_,λ k'=>ho env k',H⟩
  have h1:∀ (o:Op) (y:Operand) (g:GA) (w:Option (List Nat)),(∀ env (k':List Nat→Option (List Nat)→Bool),footK false true env o k'=eO false true env y λ v=>k' (blkV v) w)→SimA g y→SimFt (ft1 g w) o:=by
    intro o y g w ho hg e env k he H
    obtain ⟨a,e1,_,H⟩:=hg e env _ he H
    rw [bkR_eq] at H
    exact ⟨_,_,λ k'=>by rw [ho,e1];rfl,H⟩
  unfold footC at h
  split at h
  . exact ⟨_,h0 _ λ _ _=>rfl,h⟩
  . exact ⟨_,h0 _ λ _ _=>rfl,h⟩
  . exact ⟨_,h0 _ λ _ _=>rfl,h⟩
  . exact ⟨_,h0 _ λ _ _=>rfl,h⟩
  . exact ⟨_,h0 _ λ _ _=>rfl,h⟩
  . obtain ⟨g,h2,h⟩:=Cl.go_mk h;exact ⟨_,h1 _ _ _ _ (λ _ _=>rfl) (aC_ok h2),h⟩
  . obtain ⟨g,h2,h⟩:=Cl.go_mk h;exact ⟨_,h1 _ _ _ _ (λ _ _=>rfl) (aC_ok h2),h⟩
  . obtain ⟨g,h2,h⟩:=Cl.go_mk h;exact ⟨_,h1 _ _ _ _ (λ _ _=>rfl) (aC_ok h2),h⟩
  . obtain ⟨g,h2,h⟩:=Cl.go_mk h;exact ⟨_,h1 _ _ _ _ (λ _ _=>rfl) (aC_ok h2),h⟩
  . obtain ⟨g,h2,h⟩:=Cl.go_mk h;exact ⟨_,h1 _ _ _ _ (λ _ _=>rfl) (aC_ok h2),h⟩
  . obtain ⟨g,h2,h⟩:=Cl.go_mk h;exact ⟨_,h1 _ _ _ _ (λ _ _=>rfl) (aC_ok h2),h⟩
  . obtain ⟨g,h2,h⟩:=Cl.go_mk h;exact ⟨_,h1 _ _ _ _ (λ _ _=>rfl) (aC_ok h2),h⟩
  . obtain ⟨g,h2,h⟩:=Cl.go_mk h;exact ⟨_,h1 _ _ _ _ (λ _ _=>rfl) (aC_ok h2),h⟩
  . rename_i c
    have hbi : ∀ b, c.callee = .builtin b → ∀ env (k' : List Nat → Option (List Nat) → Bool), footK false true env (.call c) k' = eOs false true env c.args.toList fun vs => match b with
        | .len=>k' ((vs.map blkV).flatten) (some [])
        | .append=>k' ((vs.map blkV).flatten) (appW vs)
        | .copy|.delete|.clear=>k' ((vs.map blkV).flatten) none
        | _=>false:=by
      intro b hc env k'
      simp only [footK,hc]
      rfl
    split at h
    . rename_i x hc ha
      obtain ⟨g,h2,h⟩:=Cl.go_mk h
      refine ⟨_,λ e env k he H=>?_,h⟩
      obtain ⟨a,e1,_,H⟩:=aC_ok h2 e env _ he H
      rw [bkR_eq] at H
      refine ⟨_,_,λ k'=>?_,H⟩
      rw [hbi _ hc,ha,eOs_one e1]
      show k' (([V.at a].map blkV).flatten) (some [])=_
      simp [blkV]
    . rename_i x y hc ha
      obtain ⟨g,h2,h⟩:=Cl.go_mk h
      obtain ⟨g',h3,h⟩:=Cl.go_mk h
      refine ⟨_,λ e env k he H=>?_,h⟩
      obtain ⟨a,e1,_,H⟩:=aC_ok h2 e env _ he H
      obtain ⟨b,e2,_,H⟩:=aC_ok h3 e env _ he H
      rw [bkR_eq,bkR_eq] at H
      refine ⟨_,_,λ k'=>?_,H⟩
      rw [hbi _ hc,ha,eOs_two e1 e2]
      show k' (([V.at a,V.at b].map blkV).flatten) (appW [V.at a,V.at b])=_
      simp [blkV]
    . rename_i x y hc ha
      obtain ⟨g,h2,h⟩:=Cl.go_mk h
      obtain ⟨g',h3,h⟩:=Cl.go_mk h
      refine ⟨_,λ e env k he H=>?_,h⟩
      obtain ⟨a,e1,_,H⟩:=aC_ok h2 e env _ he H
      obtain ⟨b,e2,_,H⟩:=aC_ok h3 e env _ he H
      rw [bkR_eq,bkR_eq] at H
      refine ⟨_,_,λ k'=>?_,H⟩
      rw [hbi _ hc,ha,eOs_two e1 e2]
      show k' (([V.at a,V.at b].map blkV).flatten) none=_
      simp [blkV]
    . rename_i hc
      obtain ⟨l,h2,h⟩:=Cl.go_mk h
      refine ⟨_,λ e env k he H=>?_,h⟩
      obtain ⟨vs,e1,H⟩:=lvC_ok h2 e env _ he H
      exact ⟨_,_,λ k'=>by rw [hbi _ hc,e1],H⟩
    . rename_i hc
      obtain ⟨l,h2,h⟩:=Cl.go_mk h
      refine ⟨_,λ e env k he H=>?_,h⟩
      obtain ⟨vs,e1,H⟩:=lvC_ok h2 e env _ he H
      exact ⟨_,_,λ k'=>by rw [hbi _ hc,e1],H⟩
    . cases h
  . cases h
theorem soft_t {h2:H}:∀ (l:List Rec) (x:Bool),softK false Γ true h2 l x=true→(∀ y:Bool,softK false Γ true h2 l y=y)∧x=true
  | [],x,H=>⟨λ _=>rfl,H⟩
  | r::l,x,H=>by
    unfold softK at H ⊢
    split at H
    . rename_i t a q v acc h3 h4
      obtain ⟨h5,e1,H⟩:=(pick_par h2 acc .lf).t H
      obtain ⟨v',e2,H⟩:=(look_par h5 t a q false).t (k:=λ v'=>okK false (intEq v v') (softK false Γ true h2 l x)) H
      have h6:intEq v v'=true:=by
        cases hb:intEq v v' with
        | true=>rfl
        | false=>rw [hb] at H;cases H
      rw [h6] at H
      obtain ⟨e3,H⟩:=soft_t l x H
      refine ⟨λ y=>?_,H⟩
      rw [e1,e2,h6]
      exact e3 y
    . cases H
def SimAk (ag:AkF) (o:Op):Prop:=∀ e env (k:Option (TypeId×A×V)→Bool),EnvS e env→ag e k=true→∃ g,(∀ k':Option (TypeId×A×V)→Bool,agK false true env o k'=k' g)∧k g=true
theorem agQ_ok {o:Op} {ag:AkF} (h:agQ o=.mk ag):SimAk ag o:=by
  unfold agQ at h
  split at h
  . rename_i t x y
    obtain ⟨a,h1,h⟩:=Cl.go_mk h
    obtain ⟨g,h2,h⟩:=Cl.go_mk h
    cases h
    intro e env k he H
    obtain ⟨av,_,e1,H⟩:=aC_ok h1 e env _ he H
    obtain ⟨q,e2,H⟩:=oC_ok h2 e env _ he H
    refine ⟨_,λ k'=>?_,H⟩
    show (eA false true env x λ a=>eO false true env y λ q=>k' (some (t,a,q)))=_
    rw [e1,e2]
  . rename_i hno
    cases h
    intro e env k he H
    refine ⟨none,λ k'=>?_,H⟩
    unfold agK
    split
    . exact absurd rfl (hno _ _ _)
    . rfl
theorem mem_sim {ag : AkF} {os : List Oper} {rs : List (Nat × Nat × Oper)} {i bi : Nat} {o : Oper} {f : OpF} {p : PV} (hag : SimAk ag o.op) (hf : SimOp Γ f o.op) (hp : SimP p o.dst) {C C' : CallF Bool} {fl fd : Nat} {e : E2} {env : En} {h : H} {nx : Nat} {al : List Rec} {k : E2 → M2 → List Rec → Bool} {K : En → H → Nat → List Rec → Bool} (hC : CallS C C') (he : EnvS e env)
    (hk:∀ e env h nx al,EnvS e env→k e (.mk h nx) al=true→K env h nx al=true) (acc:List Nat) (w:Option (List Nat))
    (H:memF Γ i bi ag f p e h nx al k C fl fd acc w=true):memD false C' Γ true fl fd i bi o al env h nx acc w K=true:=by
  unfold memF at H
  unfold memD
  rw [unl_eq] at H
  dsimp only at H ⊢
  obtain ⟨h0,H⟩:=iF_t H
  obtain ⟨h1,H⟩:=iF_t H
  obtain ⟨h2,H⟩:=iF_t H
  obtain ⟨h3,H⟩:=iF_t H
  rw [allR_eq] at h1 h2 h3
  obtain ⟨g,e9,H⟩:=hag e env _ he H
  rw [piR_eq] at H
  obtain ⟨h4,e2,H⟩:=(pick_par h acc .lf).t H
  rw [h0,show (acc.all λ b=>Nat.blt b nx)=true from h1,h2,h3,show okK false (two true (two true (two true true)))=λ (k:Bool)=>k from rfl]
  dsimp only
  rw [e9,e2]
  refine hf C C' _ _ e env h4 nx _ _ hC he (λ v h' nx' H=>?_) H
  obtain ⟨h5,H⟩:=iF_t H
  obtain ⟨h7,H⟩:=iF_t H
  obtain ⟨e8,H⟩:=soft_t _ _ H
  rw [baR_eq,frR_eq] at H
  obtain ⟨h6,e3,H⟩:=(back_par _ _ h).t H
  obtain ⟨e',env',e4,he',H⟩:=hp e env v _ he H
  rw [h5,h7,show okK false (two true true)=λ (k:Bool)=>k from rfl]
  dsimp only
  rw [e8,e3,e4]
  exact hk _ _ _ _ _ he' H
theorem dMe_ok {ag:AkF} {os:List Oper} {rs:List (Nat×Nat×Oper)} {i bi:Nat} {o:Oper} {ft:FtF} {f:OpF} {p:PV} (hf:SimOp Γ f o.op) (hp:SimP p o.dst) (hb:pureB o.op=false) (hc:callB o.op=false) (hag:SimAk ag o.op) (hft:SimFt ft o.op):SimSt Γ (dMe Γ i bi ag ft f p) os rs i bi o:=by
  intro C C' fl fd n0 e env h nx al k K hC he hk H
  unfold stepD
  rw [hb,cond_false,hc,cond_false]
  obtain ⟨acc,w,e1,H⟩:=hft e env _ he H
  rw [e1]
  exact mem_sim (os:=os) (rs:=rs) hag hf hp hC he hk acc w H
theorem forceL_eq:∀ (l:List Nat) (k:List Nat→Bool),forceL l k=k l
  | [],k=>rfl
  | a::l,k=>by
    have e:forceL (a::l) k=forceL l λ t=>k (a::t):=rfl
    rw [e,forceL_eq l]
theorem dRe_ok {os:List Oper} {rs:List (Nat×Nat×Oper)} {i bi:Nat} {o:Oper} {c:Call} {l:LsV} {f:OpF} {p:PV} (hf:SimOp Γ f o.op) (hp:SimP p o.dst) (hb:pureB o.op=false) (hc:callB o.op=true) (ht:totB rs i bi=false) (hwm:wmB Γ o.op=true) (ho:o.op=.call c) (hl:SimLv l c.args.toList):SimSt Γ (dRe Γ i bi l f p) os rs i bi o:=by
  intro C C' fl fd n0 e env h nx al k K hC he hk H
  unfold stepD
  rw [hb,cond_false,hc,cond_true,ht,cond_false,hwm,cond_true]
  obtain ⟨vs,e1,H⟩:=hl e env _ he H
  have e2:∀ k':List V→Bool,argsV false true env o.op k'=k' vs:=λ k'=>by rw [ho];exact e1 k'
  rw [e2]
  rw [forceL_eq] at H
  exact mem_sim (os:=os) (rs:=rs) (i:=i) (bi:=bi) (λ e env k he H=>⟨none,λ k'=>by rw [ho];rfl,H⟩) hf hp hC he hk (reachV h vs) none H
def SimD (Γ : Ctx) (a:DrF) (os:List Oper) (rs r:List (Nat×Nat×Oper)):Prop:=∀ C C' fl fd n0 e env h nx al (k:E2→M2→List Rec→Bool) (k':En→H→Nat→Bool),CallS C C'→EnvS e env →
  (∀ e env h nx al,EnvS e env→k e (.mk h nx) al=true→k' env h nx=true)→a (.mk C fl fd) n0 e (.mk h nx) al k=true→evD false C' Γ true fl fd os rs n0 r al env h nx k'=true
theorem drwC_ok {os:List Oper} {rs:List (Nat×Nat×Oper)}:∀ {r:List (Nat×Nat×Oper)} {f:DrF},drwC Γ os rs r=.mk f→SimD Γ f os rs r
  | [],f,h=>by
    cases h
    intro C C' fl fd n0 e env h nx al k k' hC he hk H
    exact hk _ _ _ _ _ he H
  | (i,bi,o)::r,f,h=>by
    unfold drwC at h
    obtain ⟨g,h1,h⟩:=Cl.go_mk h
    obtain ⟨p,h2,h⟩:=Cl.go_mk h
    rw [nK_eq,nK_eq] at h
    obtain ⟨a,h3,h⟩:=Cl.go_mk h
    obtain ⟨a',h4,h⟩:=Cl.go_mk h
    obtain ⟨b,h5,h⟩:=Cl.go_mk h
    cases h
    have hop:=opB_ok h1
    have hp:=dC_ok h2
    have hr:=drwC_ok h5
    have hst:SimSt Γ a os rs i bi o:=by
      rcases iF_mk2 h3 with ⟨hb,h3⟩|⟨hb,h3⟩
      . cases h3;exact dPu_ok hop hp hb
      . rcases iF_mk2 h3 with ⟨hc,h3⟩|⟨hc,h3⟩
        . rcases iF_mk2 h3 with ⟨ht,h3⟩|⟨ht,h3⟩
          . cases h3;exact dTo_ok hop hp hb hc ht
          . rcases iF_mk2 h3 with ⟨hwm,h3⟩|⟨hwm,h3⟩
            . unfold argC at h3
              split at h3
              . rename_i c hoc
                obtain ⟨l,h6,h3⟩:=Cl.go_mk h3
                cases h3
                exact dRe_ok hop hp hb hc ht hwm hoc (lvC_ok h6)
              . cases h3
            . cases h3;exact dFr_ok hop hp hb hc ht hwm
        . cases hf:footC o.op λ ft=>(agQ o.op).go λ ag=>.mk (dMe Γ i bi ag ft g p) with
          | no=>rw [hf] at h3;cases h3;intro C C' fl fd n0 e env h nx al k K hC he hk H;cases H
          | mk d =>
            rw [hf] at h3
            cases h3
            obtain ⟨ft,hft,h6⟩:=foot_ok hf
            obtain ⟨ag,h7,h6⟩:=Cl.go_mk h6
            cases h6
            exact dMe_ok hop hp hb hc (agQ_ok h7) hft
    clear h3
    intro C C' fl fd n0 e env h nx al k k' hC he hk H
    rw [evD_cons]
    have yes:a (.mk C fl fd) n0 e (.mk h nx) al (λ e m al=>b (.mk C fl fd) n0 e m al k)=true→stepD C' Γ fl fd os rs n0 i bi o al env h nx (λ env h nx al=>evD false C' Γ true fl fd os rs n0 r al env h nx k')=true:=by
      intro H
      exact hst C C' fl fd n0 e env h nx al _ _ hC he (λ e env h nx al he H=>hr C C' fl fd n0 e env h nx al k k' hC he hk H) H
    rcases gdC_mk h4 with ⟨hg,h4⟩|⟨gb,w,hg,h4⟩
    . cases h4
      rw [hg]
      exact yes H
    . cases h4
      refine hg e env _ _ _ _ he yes (λ H=>?_) H
      obtain ⟨e',env',e1,he',H⟩:=hp e env _ _ he H
      rw [e1]
      exact hr C C' fl fd n0 e' env' _ nx al k k' hC he' hk H
end Go.S
namespace Go.S
open Go Go.E
variable [Gl]
variable {Γ : Ctx}
def SimC (Γ : Ctx) (q:FuncId) (sz:Nat) (u:List Bool) (f:CdF) (c:Code):Prop:=∀ n,need c≤n→∀ C C' fl fd e env h nx (k:X→E2→M2→Bool) (k':X→En→H→Nat→Bool),CallS C C'→EnvS e env →
  (∀ x e env h nx,EnvS e env→k x e (.mk h nx)=true→k' x env h nx=true)→f (.mk C fl fd) e (.mk h nx) k=true→evC false C' Γ true fl fd q sz n u c env h nx k'=true
theorem xK_t {r:X} {a c:Bool} {b:Nat→Bool} (h:xK r a b c=true):(r=.normal∧a=true)∨(∃ i,r=.exit i∧b i=true)∨(r=.ret∧c=true):=by
  cases r<;>first|exact .inl ⟨rfl,h⟩|exact .inr (.inl ⟨_,rfl,h⟩)|exact .inr (.inr ⟨rfl,h⟩)
theorem need_pos (c:Code):0<need c:=by
  cases c with
  | seq a b=>exact Nat.succ_pos _
  | cond c a b=>exact Nat.succ_pos _
  | block j a=>exact Nat.succ_pos _
  | scope a=>exact Nat.succ_pos _
  | loop a=>exact Nat.lt_of_lt_of_le (show 0<1000001 by decide) (Nat.le_add_left 1000001 (need a))
  | _=>exact Nat.succ_pos 0
theorem loop_ok {q : FuncId} {sz : Nat} {u : List Bool} {a : Code} {f : CdF} (ha : SimC Γ q sz (false :: u) f a) (C C' : CallF Bool) (fl fd : Nat) (k : X → E2 → M2 → Bool) (k' : X → En → H → Nat → Bool) (hC : CallS C C')
    (hk:∀ x e env h nx,EnvS e env→k x e (.mk h nx)=true→k' x env h nx=true):∀ (m n:Nat),need a+m≤n→∀ e env h nx,EnvS e env →
    (Nat.rec (motive:=λ _=>E2→M2→Bool) (λ _ _=>false) (λ _ ih e m=>f (.mk C fl fd) e m (λ r e m=>xK r (ih e m) (λ i=>k (.exit i) e m) (k .ret e m))) m:E2→M2→Bool) e (.mk h nx)=true →
    evC false C' Γ true fl fd q sz (n+1) u (.loop a) env h nx k'=true
  | 0,n,hn,e,env,h,nx,he,H=>by cases H
  | m+1,n,hn,e,env,h,nx,he,H=>by
    have hpos:=need_pos a
    obtain ⟨n,rfl⟩:∃ j,n=j+1:=⟨n-1,by omega⟩
    rw [evC]
    refine ha (n+1) (by omega) C C' fl fd e env h nx _ _ hC he (λ x e env h nx he H=>?_) H
    rcases xK_t H with ⟨rfl,H⟩|⟨i,rfl,H⟩|⟨rfl,H⟩
    . exact loop_ok ha C C' fl fd k k' hC hk m n (by omega) e env h nx he H
    . exact hk _ _ _ _ _ he H
    . exact hk _ _ _ _ _ he H
theorem cdC_ok {q:FuncId} {sz:Nat}:∀ {c:Code} {u:List Bool} {f:CdF},cdC Γ q sz u c=.mk f→SimC Γ q sz u f c:=by
  intro c
  have one:∀ c,∀ n,need c≤n→∃ j,n=j+1:=λ c n hn=>⟨n-1,by have:=need_pos c;omega⟩
  have bad:∀ u c f,Cl.mk cBd=Cl.mk f→SimC Γ q sz u f c:=by
    intro u c f h;cases h;intro n hn C C' fl fd e env h nx k k' hC he hk H;cases H
  induction c with
  | skip =>
    intro u f hf;cases hf
    intro n hn C C' fl fd e env h nx k k' hC he hk H
    obtain ⟨n,rfl⟩:=one _ n hn
    rw [evC];exact hk _ _ _ _ _ he H
  | label l =>
    intro u f hf;cases hf
    intro n hn C C' fl fd e env h nx k k' hC he hk H
    obtain ⟨n,rfl⟩:=one _ n hn
    rw [evC];exact hk _ _ _ _ _ he H
  | exit i =>
    intro u f hf
    unfold cdC at hf
    rw [nK_eq] at hf
    cases hf
    intro n hn C C' fl fd e env h nx k k' hC he hk H
    obtain ⟨n,rfl⟩:=one _ n hn
    rw [evC];exact hk _ _ _ _ _ he H
  | ret =>
    intro u f hf;cases hf
    intro n hn C C' fl fd e env h nx k k' hC he hk H
    obtain ⟨n,rfl⟩:=one _ n hn
    rw [evC];exact hk _ _ _ _ _ he H
  | seq a b iha ihb =>
    intro u f hf
    unfold cdC at hf
    obtain ⟨fa,h1,hf⟩:=Cl.go_mk hf
    obtain ⟨fb,h2,hf⟩:=Cl.go_mk hf
    cases hf
    intro n hn C C' fl fd e env h nx k k' hC he hk H
    obtain ⟨n,rfl⟩:=one _ n hn
    have hn:need a+need b+1≤n+1:=hn
    rw [evC]
    refine iha h1 n (by omega) C C' fl fd e env h nx _ _ hC he (λ x e env h nx he H=>?_) H
    rcases xK_t H with ⟨rfl,H⟩|⟨i,rfl,H⟩|⟨rfl,H⟩
    . exact ihb h2 n (by omega) C C' fl fd e env h nx _ _ hC he hk H
    . exact hk _ _ _ _ _ he H
    . exact hk _ _ _ _ _ he H
  | cond c a b iha ihb =>
    intro u f hf
    unfold cdC at hf
    obtain ⟨g,h0,hf⟩:=Cl.go_mk hf
    obtain ⟨fa,h1,hf⟩:=Cl.go_mk hf
    obtain ⟨fb,h2,hf⟩:=Cl.go_mk hf
    cases hf
    intro n hn C C' fl fd e env h nx k k' hC he hk H
    obtain ⟨n,rfl⟩:=one _ n hn
    have hn:need a+need b+1≤n+1:=hn
    obtain ⟨t,_,e1,H⟩:=bC_ok h0 e env _ _ he H
    rw [evC,e1]
    cases t with
    | true=>exact iha h1 n (by omega) C C' fl fd e env h nx _ _ hC he hk H
    | false=>exact ihb h2 n (by omega) C C' fl fd e env h nx _ _ hC he hk H
  | block j a iha =>
    intro u f hf
    unfold cdC at hf
    rw [nK_eq] at hf
    obtain ⟨fa,h1,hf⟩:=Cl.go_mk hf
    cases hf
    intro n hn C C' fl fd e env h nx k k' hC he hk H
    obtain ⟨n,rfl⟩:=one _ n hn
    have hn:need a+1≤n+1:=hn
    rw [evC]
    refine iha h1 n (by omega) C C' fl fd e env h nx _ _ hC he (λ x e env h nx he H=>?_) H
    rcases xK_t H with ⟨rfl,H⟩|⟨i,rfl,H⟩|⟨rfl,H⟩
    . exact hk _ _ _ _ _ he H
    . show (bif Nat.beq i j then k' .normal env h nx else k' (.exit i) env h nx)=true
      rcases iF_c H with ⟨h2,H⟩|⟨h2,H⟩<;>(rw [h2];exact hk _ _ _ _ _ he H)
    . exact hk _ _ _ _ _ he H
  | loop a iha =>
    intro u f hf
    unfold cdC at hf
    obtain ⟨fa,h1,hf⟩:=Cl.go_mk hf
    cases hf
    intro n hn C C' fl fd e env h nx k k' hC he hk H
    obtain ⟨n,rfl⟩:=one _ n hn
    have hn:need a+1000001≤n+1:=hn
    exact loop_ok (iha h1) C C' fl fd k k' hC hk 1000000 n (by omega) e env h nx he H
  | scope a iha =>
    intro u f hf
    intro n hn C C' fl fd e env h nx k k' hC he hk H
    obtain ⟨n,rfl⟩:=one _ n hn
    have hn:need a+1≤n+1:=hn
    rw [evC]
    exact iha hf n (by omega) C C' fl fd e env h nx _ _ hC he hk H
  | region id ops d =>
    intro u f hf
    unfold cdC at hf
    intro n hn C C' fl fd e env h nx k k' hC he hk H
    obtain ⟨n,rfl⟩:=one _ n hn
    rw [evC]
    cases d with
    | true =>
      obtain ⟨h1,hf⟩:=iF_mk (show iF (slotsB ops.toList) _ .no=Cl.mk f from hf)
      obtain ⟨g,h2,hf⟩:=Cl.go_mk hf
      cases hf
      rw [cond_true,h1,okK,cond_true]
      exact drwC_ok h2 C C' fl fd nx e env h nx [] _ _ hC he (λ e env h nx al he H=>hk _ _ _ _ _ he H) H
    | false =>
      obtain ⟨g,h2,hf⟩:=Cl.go_mk (show ((ordC Γ ops.toList ops.toList).go λ f=>Cl.mk (cRg f))=Cl.mk f from hf)
      cases hf
      rw [cond_false]
      exact ordC_ok h2 C C' fl fd e env h nx _ _ hC he (λ e env h nx he H=>hk _ _ _ _ _ he H) H
  | rangeFunc g ps a b =>
    intro u f hf
    unfold cdC at hf
    obtain ⟨ga,h1,hf⟩:=Cl.go_mk hf
    rw [nK_eq] at hf
    cases hf
    intro n hn C C' fl fd e env h nx k k' hC he hk H
    obtain ⟨n,rfl⟩:=one _ n hn
    obtain ⟨a,_,e1,H⟩:=aC_ok h1 e env _ he H
    obtain ⟨f,fs,cs,rfl,H⟩:=aF_t H
    rw [evC,e1]
    cases f with
    | func f =>
      have H:tG _ Γ.con f (λ _=>false)=true:=H
      rw [tG_eq] at H
      show (match Γ.con.get f with
       | some _=>false
       | none=>okK false (Nat.ble fl nx) (setK false h nx (.loop q (wayN u) (toE2 env) sz .ready) λ h=>C' fl fd (.fn f) (atL fs++(.at (.yld nx)::atL cs)) h (Nat.succ nx) λ _ h nx1=>match h.get nx with
        | some (.loop q p env1 sz s)=>match s.out? with
          | some x=>setK false h nx (.loop q p env1 sz .out) λ h=>k' x env h nx1
          | none=>false
        | _=>false))=true
      cases hc : Γ.con.get f with
      | some c=>rw [hc] at H;cases H
      | none =>
        rw [hc] at H
        obtain ⟨h2,H⟩:=iF_t H
        obtain ⟨h',e2,H⟩:=hP_t H
        rw [nK_eq] at H
        dsimp only
        rw [h2,okK,cond_true,← he.eq,e2]
        refine hC _ _ _ _ _ _ _ _ (λ v h nx1 H=>?_) H
        rw [tG_eq] at H
        split at H
        . rename_i bk hb
          obtain ⟨q2,p2,e3,sz2,s2,rfl,H2⟩:=bL_t H
          obtain ⟨x,hx,H⟩:=sO_t H2
          obtain ⟨h3,e4,H⟩:=hP_t H
          rw [hb]
          dsimp only
          rw [hx]
          dsimp only
          rw [e4]
          exact hk _ _ _ _ _ he H
        . cases H
    | _=>cases H
  | goto l=>exact λ {u f} hf=>bad _ _ f hf
  | refuse w=>exact λ {u f} hf=>bad _ _ f hf
def SimAg (a:AgF) (i n:Nat):Prop:=∀ vs e env (k:E2→Bool),EnvS e env→a vs e k=true→vs.length≤n∧∃ e' env',(∀ k':En→Bool,argsK false i vs env k'=k' env')∧EnvS e' env'∧k e'=true
theorem agC_ok:∀ {n i:Nat} {a:AgF},agC n i=.mk a→SimAg a i n
  | 0,i,a,h=>by
    cases h
    intro vs e env k he H
    cases vs with
    | nil=>exact ⟨Nat.le_refl _,e,env,λ _=>rfl,he,H⟩
    | cons v t=>cases H
  | n+1,i,a,h=>by
    unfold agC at h
    obtain ⟨p,h1,h⟩:=Cl.go_mk h
    obtain ⟨f,h2,h⟩:=Cl.go_mk h
    cases h
    intro vs e env k he H
    cases vs with
    | nil=>exact ⟨Nat.zero_le _,e,env,λ _=>rfl,he,H⟩
    | cons v t =>
      obtain ⟨e',env',e1,he',H⟩:=dC_ok h1 e env v _ he H
      obtain ⟨hl,e2,env2,e3,he2,H⟩:=agC_ok h2 t e' env' k he' H
      refine ⟨Nat.succ_le_succ hl,e2,env2,λ k'=>?_,he2,H⟩
      unfold argsK
      exact (e1 _).trans (e3 _)
def SimRs (Γ : Ctx) (f:RsF) (rs:List ResultVar):Prop:=∀ e env h nx (k:List V→Bool),EnvS e env→f e (.mk h nx) k=true→∃ l,(∀ k':List V→Bool,resK false Γ true env h rs k'=k' l)∧k l=true
theorem get_of {env:En} {t:Nat} {v:V} (e1:∀ k':V→Bool,eO false true env (.tmp t) k'=k' v):env.get t=some v:=by
  have e2:=e1 λ v'=>@decide (v'=v) (Classical.propDecidable _)
  have e2:(match env.get t with|some v'=>@decide (v'=v) (Classical.propDecidable _)|none=>false)=@decide (v=v) (Classical.propDecidable _):=e2
  rw [@decide_eq_true _ (Classical.propDecidable _) rfl] at e2
  cases hg:env.get t with
  | none=>rw [hg] at e2;cases e2
  | some w =>
    rw [hg] at e2
    have e2:@decide (w=v) (Classical.propDecidable _)=true:=e2
    exact congrArg some (@of_decide_eq_true _ (Classical.propDecidable _) e2)
theorem rsC_ok:∀ {rs:List ResultVar} {f:RsF},rsC Γ rs=.mk f→SimRs Γ f rs
  | [],f,h=>by cases h;exact λ e env h nx k he H=>⟨[],λ _=>rfl,H⟩
  | .tmp t::r,f,h=>by
    unfold rsC at h
    obtain ⟨g,h1,h⟩:=Cl.go_mk h
    obtain ⟨f',h2,h⟩:=Cl.go_mk h
    cases h
    intro e env h nx k he H
    obtain ⟨v,e1,H⟩:=oC_ok h1 e env _ he H
    obtain ⟨l,e2,H⟩:=rsC_ok h2 e env _ nx _ he H
    refine ⟨v::l,λ k'=>?_,H⟩
    show (match env.get t with|some v=>resK false Γ true env _ r λ vs=>k' (v::vs)|none=>false)=_
    rw [get_of e1]
    exact e2 _
  | .cell t ty::r,f,h=>by
    unfold rsC at h
    obtain ⟨p,h1,h⟩:=Cl.go_mk h
    obtain ⟨f',h2,h⟩:=Cl.go_mk h
    obtain ⟨ti,ht,_,h⟩:=tyC_mk h
    have fin:∀ (e:E2) (env:En) (hh:H) (b o:Nat) (l:List V) (v:V),(∀ k':A→Bool,eA false true env (.tmp t) k'=k' (.ptr b o))→(∀ k':V→Bool,loadK false Γ true hh ty b o k'=k' v)→(∀ k':List V→Bool,resK false Γ true env hh r k'=k' l)→∀ k':List V→Bool,resK false Γ true env hh (.cell t ty::r) k'=k' (v::l):=by
      intro e env hh b o l v e1 e2 e3 k'
      have hg:env.get t=some (.at (.ptr b o)):=by
        cases hg:env.get t with
        | none =>
          have:=e1 λ _=>true
          have:(match env.get t with|some v=>atK false v λ _=>true|none=>false)=true:=this
          rw [hg] at this;cases this
        | some w =>
          have:=e1 λ a=>@decide (a=.ptr b o) (Classical.propDecidable _)
          have:(match env.get t with|some v=>atK false v λ a=>@decide (a=.ptr b o) (Classical.propDecidable _)|none=>false)=@decide (A.ptr b o=.ptr b o) (Classical.propDecidable _):=this
          rw [hg,@decide_eq_true _ (Classical.propDecidable _) rfl] at this
          cases w with
          | «at» a =>
            have this:@decide (a=.ptr b o) (Classical.propDecidable _)=true:=this
            rw [@of_decide_eq_true _ (Classical.propDecidable _) this]
          | _=>cases this
      show (match env.get t with
        | some (.at (.ptr b o))=>loadK false Γ true hh ty b o λ v=>resK false Γ true env hh r λ vs=>k' (v::vs)
        | _=>false)=_
      rw [hg]
      exact (e2 _).trans (e3 _)
    rcases iF_mk2 h with ⟨ha,h⟩|⟨ha,h⟩
    . cases h
      intro e env h nx k he H
      obtain ⟨b,o,e1,H⟩:=pC_ok h1 e env _ he H
      obtain ⟨bt,q,e2,H⟩:=hG_t H
      obtain ⟨q',e3,H⟩:=rS_t H
      obtain ⟨l,e4,H⟩:=rsC_ok h2 e env _ nx _ he H
      refine ⟨_,fin e env _ b o l (.agg q') e1 (λ k'=>?_) e4,H⟩
      unfold loadK
      rw [ht,e2]
      unfold partK
      rw [ha,cond_true,e3]
    . cases h
      intro e env h nx k he H
      obtain ⟨b,o,e1,H⟩:=pC_ok h1 e env _ he H
      obtain ⟨bt,q,e2,H⟩:=hG_t H
      obtain ⟨a,e3,H⟩:=rG_t H
      obtain ⟨l,e4,H⟩:=rsC_ok h2 e env _ nx _ he H
      refine ⟨_,fin e env _ b o l (.at a) e1 (λ k'=>?_) e4,H⟩
      unfold loadK
      rw [ht,e2]
      unfold partK
      rw [ha,cond_false,e3]
      exact strA_eq _ _
theorem pkV_eq (l:List V) (k:V→Bool):pkV l k=k (packV l):=by
  cases l with
  | nil=>rfl
  | cons v t=>cases t<;>rfl
theorem c00_list:c00.list=List.replicate 16 .undef:=rfl
theorem e00_list:e00.list=List.replicate 32 c00:=rfl
theorem slot_e00 (t:Nat):slot e00 t=.undef:=by
  unfold slot
  rw [e00_list,List.getElem?_replicate]
  split
  . rename_i c hc
    split at hc
    . cases hc
      rw [c00_list,List.getElem?_replicate]
      split
      . rename_i v hv;split at hv<;>cases hv;rfl
      . rfl
    . cases hc
  . rfl
def SimF (Γ : Ctx) (F:FnF) (f:Nat):Prop:=∀ d C fl fd vs h nx (k:V→M2→Bool) (k':V→H→Nat→Bool),CallS C (callN false Γ true d)→(∀ v h nx,k v (.mk h nx)=true→k' v h nx=true) →
  F (.mk C fl fd) vs (.mk h nx) k=true→callN false Γ true (d+1) fl fd (.fn f) vs h nx k'=true
def SimBi (f:BiF) (ts:List Tmp):Prop:=∀ vs e env (k:E2→Bool),EnvS e env→f vs e k=true→∃ e' env',(∀ k':En→Bool,bindK false ts vs env k'=k' env')∧EnvS e' env'∧k e'=true
theorem biC_ok:∀ {ts:List Tmp} {f:BiF},biC' ts=.mk f→SimBi f ts
  | [],f,h=>by
    cases h
    intro vs e env k he H
    cases vs with
    | nil=>exact ⟨e,env,λ _=>rfl,he,H⟩
    | cons v t=>cases H
  | t::ts,f,h=>by
    unfold biC' at h
    obtain ⟨p,h1,h⟩:=Cl.go_mk h
    obtain ⟨g,h2,h⟩:=Cl.go_mk h
    cases h
    intro vs e env k he H
    cases vs with
    | nil=>cases H
    | cons v r =>
      obtain ⟨e',env',e1,he',H⟩:=dC_ok h1 e env v _ he H
      obtain ⟨e2,env2,e3,he2,H⟩:=biC_ok h2 r e' env' k he' H
      refine ⟨e2,env2,λ k'=>?_,he2,H⟩
      unfold bindK
      exact (e1 _).trans (e3 _)
def SimY (Γ : Ctx) (y:YF) (q:FuncId) (n u:Nat):Prop:=∃ fi g ps a b,Γ.fn.get q=some fi∧fi.n=n∧sub fi.body (wayL u)=some (.rangeFunc g ps a b)∧∀ C C' fl fd r vs e h nx (k:V→M2→Bool) (k':V→H→Nat→Bool),CallS C C'→(∀ v h nx,k v (.mk h nx)=true→k' v h nx=true) →
  y (.mk C fl fd) r vs e (.mk h nx) k = true → (bindK false ps.toList vs (ofE2 e) fun env => evC false C' Γ true fl fd q n 1000000000 (false :: wayL u) a env h nx fun x env h nx => match x with
          | .normal=>match h.get r with
            | some (.loop q1 p1 env1 sz1 .ready)=>setK false h r (.loop q1 p1 env1 sz1 .busy) λ h=>evC false C' Γ true fl fd q n 1000000000 (true::wayL u) b env h nx λ x _ h nx=>match h.get r with
              | some (.loop q2 p2 env2 sz2 _)=>setK false h r (.loop q2 p2 env2 sz2 (LS.of x)) λ h=>k' (.at (.bool (X.isN x))) h nx
              | _=>false
            | _=>false
          | _=>false)=true
theorem yF_ok {q : FuncId} {n : Nat} {u : List Bool} {bi : BiF} {fa fb : CdF} {ts : List Tmp} {a b : Code} (hb : SimBi bi ts) (ha : SimC Γ q n (false :: u) fa a) (hbb : SimC Γ q n (true :: u) fb b) (na : need a ≤ 1000000000) (nb : need b ≤ 1000000000)
    (C C':CallF Bool) (fl fd r:Nat) (vs:List V) (e:E2) (h:H) (nx:Nat) (k:V→M2→Bool) (k':V→H→Nat→Bool) (hC:CallS C C') (hk:∀ v h nx,k v (.mk h nx)=true→k' v h nx=true) (H:yF bi fa fb (.mk C fl fd) r vs e (.mk h nx) k=true) :
    (bindK false ts vs (ofE2 e) fun env => evC false C' Γ true fl fd q n 1000000000 (false :: u) a env h nx fun x env h nx => match x with
          | .normal=>match h.get r with
            | some (.loop q1 p1 env1 sz1 .ready)=>setK false h r (.loop q1 p1 env1 sz1 .busy) λ h=>evC false C' Γ true fl fd q n 1000000000 (true::u) b env h nx λ x _ h nx=>match h.get r with
              | some (.loop q2 p2 env2 sz2 _)=>setK false h r (.loop q2 p2 env2 sz2 (LS.of x)) λ h=>k' (.at (.bool (X.isN x))) h nx
              | _=>false
            | _=>false
          | _=>false)=true:=by
  obtain ⟨e1,env1,h1,he1,H⟩:=hb vs e (ofE2 e) _ (ofE2_envS e) H
  rw [h1]
  refine ha _ na C C' fl fd e1 env1 h nx _ _ hC he1 (λ x e2 env2 h2 nx2 he2 H=>?_) H
  rcases xK_t H with ⟨rfl,H⟩|⟨i,rfl,H⟩|⟨rfl,H⟩
  rotate_left
  . cases H
  . cases H
  have H:tG false h2 r _=true:=H
  rw [tG_eq] at H
  dsimp only
  split at H
  rotate_left
  . cases H
  rename_i bk hbk
  obtain ⟨q2,p2,e3,sz2,s2,rfl,H2⟩:=bL_t H
  obtain ⟨rfl,H3⟩:=sR_t H2
  obtain ⟨h3,e4,H⟩:=hP_t H3
  rw [hbk]
  dsimp only
  rw [e4]
  refine hbb _ nb C C' fl fd e2 env2 h3 nx2 _ _ hC he2 (λ x e5 env5 h5 nx5 he5 H=>?_) H
  have H:tG false h5 r _=true:=H
  rw [tG_eq] at H
  split at H
  rotate_left
  . cases H
  rename_i bk hbk
  obtain ⟨q6,p6,e6,sz6,s6,rfl,H2⟩:=bL_t H
  rw [hbk]
  dsimp only
  rcases xK_t H2 with ⟨rfl,H7⟩|⟨i,rfl,H7⟩|⟨rfl,H7⟩
  . obtain ⟨h7,e7,H⟩:=hP_t H7
    show setK false h5 r (.loop q6 p6 e6 sz6 .ready) _=true
    rw [e7];exact hk _ _ _ H
  . obtain ⟨h7,e7,H⟩:=hP_t H7
    show setK false h5 r (.loop q6 p6 e6 sz6 (.done (.exit i))) _=true
    rw [e7];exact hk _ _ _ H
  . obtain ⟨h7,e7,H⟩:=hP_t H7
    show setK false h5 r (.loop q6 p6 e6 sz6 (.done .ret)) _=true
    rw [e7];exact hk _ _ _ H
def LpOk (Γ : Ctx) (q:FuncId) (n:Nat):LpT→Prop
  | .nil=>True
  | .cons u y t=>SimY Γ y q n u∧LpOk Γ q n t
theorem lpC_ok {q:FuncId} {fi:FI} (hf : Γ.fn.get q=some fi):∀ {us:List (List Bool)} {L:LpT},lpC Γ q fi fi.n us=.mk L→LpOk Γ q fi.n L
  | [],L,h=>by cases h;trivial
  | u::us,L,h=>by
    unfold lpC at h
    split at h
    . rename_i g ps a b hs
      obtain ⟨na,h⟩:=iF_mk h
      obtain ⟨nb,h⟩:=iF_mk h
      obtain ⟨bi,h1,h⟩:=Cl.go_mk h
      obtain ⟨fa,h2,h⟩:=Cl.go_mk h
      obtain ⟨fb,h3,h⟩:=Cl.go_mk h
      obtain ⟨L',h4,h⟩:=Cl.go_mk h
      rw [nK_eq] at h
      cases h
      refine ⟨⟨fi,g,ps,a,b,hf,rfl,by rw [wayL_wayN];exact hs,?_⟩,lpC_ok hf h4⟩
      rw [wayL_wayN]
      exact yF_ok (biC_ok h1) (cdC_ok h2) (cdC_ok h3) (Nat.le_of_ble_eq_true na) (Nat.le_of_ble_eq_true nb)
    . cases h
theorem lpG_t {q:FuncId} {n:Nat} {p:Nat} {k:YF→Bool}:∀ {L:LpT},LpOk Γ q n L→lpG L p k=true→∃ y,SimY Γ y q n p∧k y=true
  | .nil,_,h=>by cases h
  | .cons u y t,hL,h=>by
    have h:iF (Nat.beq u p) (k y) (lpG t p k)=true:=h
    rcases iF_c h with ⟨h1,h2⟩|⟨h1,h2⟩
    . cases Nat.eq_of_beq_eq_true h1
      exact ⟨y,hL.1,h2⟩
    . exact lpG_t hL.2 h2
def SimT (Γ : Ctx) (f:Nat):TE→Prop
  | .mk F n L=>SimF Γ F f∧LpOk Γ f n L
def SimSp (Γ : Ctx) (q:FuncId) (n:Nat) (u:List Bool) (s:SpF) (c:Code):Prop:=∀ f,dep c≤f→∀ C C' fl fd cl e env h nx (k:X→Option (Nat×List A)→E2→M2→Bool) (k':X→Option (Nat×List A)→En→H→Nat→Bool),CallS C C'→EnvS e env →
  (∀ x cl e env h nx,EnvS e env→k x cl e (.mk h nx)=true→k' x cl env h nx=true)→s (.mk C fl fd) cl e (.mk h nx) k=true→evS false C' Γ true fl fd q n f u c cl env h nx k'=true
theorem spC_ok {q:FuncId} {sz:Nat}:∀ {c:Code} {u:List Bool} {s:SpF},spC Γ q sz u c=.mk s→SimSp Γ q sz u s c:=by
  intro c
  have gen : ∀ {c : Code} {u : List Bool} {s : SpF}, (∀ f C' fl fd cl env h nx (k' : X → Option (Nat × List A) → En → H → Nat → Bool), evS false C' Γ true fl fd q sz (f + 1) u c cl env h nx k' = evC false C' Γ true fl fd q sz 1000000000 u c env h nx fun x env h nx => k' x cl env h nx) → 1 ≤ dep c →
      (iF (Nat.ble (need c) 1000000000) ((cdC Γ q sz u c).go λ f=>Cl.mk (spE f)) .no)=.mk s→SimSp Γ q sz u s c:=by
    intro c u s he hd1 h
    obtain ⟨h0,h⟩:=iF_mk h
    obtain ⟨b,h2,h⟩:=Cl.go_mk h
    cases h
    intro f hf C C' fl fd cl e env h nx k k' hC hE hk H
    cases f with
    | zero=>omega
    | succ f =>
      rw [he]
      exact cdC_ok h2 1000000000 (Nat.le_of_ble_eq_true h0) C C' fl fd e env h nx (λ r e m=>k r cl e m) _ hC hE (λ x e env h nx hE H=>hk x cl e env h nx hE H) H
  induction c with
  | seq a b _ ihb =>
    intro u s h
    unfold spC at h
    intro f hf C C' fl fd cl e env h' nx k k' hC hE hk H
    cases f with
    | zero=>exact absurd hf (by show ¬ dep b+1≤0;omega)
    | succ f =>
      have hf:dep b≤f:=by have:dep b+1≤f+1:=hf;omega
      unfold evS
      split at h
      . rename_i l x hdr
        rw [hdr]
        obtain ⟨fr,h1,h⟩:=Cl.go_mk h
        obtain ⟨g,h2,h⟩:=Cl.go_mk h
        obtain ⟨s',h3,h⟩:=Cl.go_mk h
        cases h
        cases cl with
        | some p=>cases H
        | none =>
          dsimp only
          refine ordC_ok h1 C C' fl fd e env h' nx _ _ hC hE (λ e env h nx hE H=>?_) H
          obtain ⟨f0,_,e2,H⟩:=aC_ok h2 e env _ hE H
          rw [e2]
          split at H
          . exact ihb h3 f hf C C' fl fd _ e env h nx k k' hC hE hk H
          . cases H
      . rename_i hdr
        rw [hdr]
        obtain ⟨h0,h⟩:=iF_mk h
        obtain ⟨fa,h1,h⟩:=Cl.go_mk h
        obtain ⟨s',h3,h⟩:=Cl.go_mk h
        cases h
        dsimp only
        refine cdC_ok h1 1000000000 (Nat.le_of_ble_eq_true h0) C C' fl fd e env h' nx _ _ hC hE (λ x e env h nx hE H=>?_) H
        rcases xK_t H with ⟨rfl,H⟩|⟨i,rfl,H⟩|⟨rfl,H⟩
        . exact ihb h3 f hf C C' fl fd _ e env h nx k k' hC hE hk H
        . exact hk _ _ _ _ _ _ hE H
        . exact hk _ _ _ _ _ _ hE H
  | _=>intro u s h;exact gen (λ f C' fl fd cl env h nx k'=>by unfold evS;rfl) (Nat.le_refl 1) h
theorem dfK_t {Γ : Ctx} {h:H} {cl:Option (Nat×List A)} {e:Bool} (H:dfK false Γ h cl e=true):(∀ e',dfK false Γ h cl e'=e')∧e=true:=by
  unfold dfK at H ⊢
  split at H
  . exact ⟨λ _=>rfl,H⟩
  . split at H
    . rename_i c hc
      unfold okK at H ⊢
      cases hch:c _ h with
      | true=>rw [hch] at H;exact ⟨λ e'=>by simp only [hc,hch,cond_true],H⟩
      | false=>rw [hch] at H;cases H
    . cases H
theorem fnK_ok {f:Nat} {fi:FI} {te:TE} (hc : Γ.con.get f=none) (hf : Γ.fn.get f=some fi) (h:fnK Γ f fi=.mk te):SimT Γ f te:=by
  unfold fnK at h
  cases hhd:hasD fi.body with
  | true =>
    rw [hhd] at h
    obtain ⟨h0,h⟩:=iF_mk (show iF (Nat.ble (dep fi.body) 1000) _ _=Cl.mk te from h)
    obtain ⟨a,h1,h⟩:=Cl.go_mk h
    rw [nK_eq] at h
    obtain ⟨s,h2,h⟩:=Cl.go_mk h
    obtain ⟨r,h3,h⟩:=Cl.go_mk h
    obtain ⟨L,h4,h⟩:=Cl.go_mk h
    cases h
    refine ⟨?_,lpC_ok hf h4⟩
    intro d C fl fd vs h nx k k' hC hk H
    obtain ⟨hl,e',env',e1,he',H⟩:=agC_ok h1 vs e00 .lf _ (λ t ht=>slot_e00 t) H
    have hl:Nat.ble vs.length fi.n=true:=by
      rw [iF_eq] at hl
      refine Nat.ble_eq_true_of_le (Nat.le_trans hl ?_)
      cases hb:Nat.ble fi.n 16 with
      | true=>exact Nat.le_refl _
      | false =>
        show 16≤fi.n
        rcases Nat.lt_or_ge 16 fi.n with hle|hle
        . exact Nat.le_of_lt hle
        . rw [Nat.ble_eq_true_of_le hle] at hb;cases hb
    rw [callN,hc]
    dsimp only
    rw [hf]
    dsimp only
    rw [hl,okK,cond_true,e1,hhd,cond_true]
    refine spC_ok h2 1000 (Nat.le_of_ble_eq_true h0) C _ fl fd none e' env' h nx _ _ hC he' (λ x cl e env h nx he H=>?_) H
    have fin:dfK false Γ h cl (r e (.mk h nx) (λ l=>pkV l λ v=>k v (.mk h nx)))=true→dfK false Γ h cl (resK false Γ true env h fi.res λ vs=>k' (packV vs) h nx)=true:=by
      intro H
      obtain ⟨e9,H⟩:=dfK_t H
      rw [e9]
      obtain ⟨l,e2,H⟩:=rsC_ok h3 e env h nx _ he H
      rw [pkV_eq] at H
      rw [e2];exact hk _ _ _ H
    have H:xK x (dfK false Γ h cl (r e (.mk h nx) (λ l=>pkV l λ v=>k v (.mk h nx)))) (λ _=>false) (dfK false Γ h cl (r e (.mk h nx) (λ l=>pkV l λ v=>k v (.mk h nx))))=true:=H
    rcases xK_t H with ⟨rfl,H⟩|⟨i,rfl,H⟩|⟨rfl,H⟩
    . exact fin H
    . cases H
    . exact fin H
  | false =>
  rw [hhd] at h
  obtain ⟨h0,h⟩:=iF_mk (show iF (Nat.ble (need fi.body) 1000000000) _ _=Cl.mk te from h)
  obtain ⟨a,h1,h⟩:=Cl.go_mk h
  rw [nK_eq] at h
  obtain ⟨b,h2,h⟩:=Cl.go_mk h
  obtain ⟨r,h3,h⟩:=Cl.go_mk h
  obtain ⟨L,h4,h⟩:=Cl.go_mk h
  cases h
  refine ⟨?_,lpC_ok hf h4⟩
  intro d C fl fd vs h nx k k' hC hk H
  obtain ⟨hl,e',env',e1,he',H⟩:=agC_ok h1 vs e00 .lf _ (λ t ht=>slot_e00 t) H
  have hl:Nat.ble vs.length fi.n=true:=by
    rw [iF_eq] at hl
    refine Nat.ble_eq_true_of_le (Nat.le_trans hl ?_)
    cases hb:Nat.ble fi.n 16 with
    | true=>exact Nat.le_refl _
    | false =>
      show 16≤fi.n
      rcases Nat.lt_or_ge 16 fi.n with hle|hle
      . exact Nat.le_of_lt hle
      . rw [Nat.ble_eq_true_of_le hle] at hb;cases hb
  rw [callN,hc]
  dsimp only
  rw [hf]
  dsimp only
  rw [hl,okK,cond_true,e1,hhd,cond_false]
  refine cdC_ok h2 1000000000 (Nat.le_of_ble_eq_true h0) C _ fl fd e' env' h nx _ _ hC he' (λ x e env h nx he H=>?_) H
  have fin:r e (.mk h nx) (λ l=>pkV l λ v=>k v (.mk h nx))=true→(resK false Γ true env h fi.res λ vs=>k' (packV vs) h nx)=true:=by
    intro H
    obtain ⟨l,e2,H⟩:=rsC_ok h3 e env h nx _ he H
    rw [pkV_eq] at H
    rw [e2];exact hk _ _ _ H
  rcases xK_t H with ⟨rfl,H⟩|⟨i,rfl,H⟩|⟨rfl,H⟩
  . exact fin H
  . cases H
  . exact fin H
def ConP (c:Con):Prop:=∀ vs h fl fd nx,Par λ k:Out3→Bool=>c.run false vs h fl fd nx λ v h nx=>k (v,h,nx)
theorem fnC_ok {f:Nat} {c:Con} (hp:ConP c) (hc : Γ.con.get f=some c):SimT Γ f (.mk (fnC c) 0 .nil):=by
  refine ⟨?_,trivial⟩
  intro d C fl fd vs h nx k k' hC hk H
  have H:c.run false vs h fl fd nx (λ v h nx=>k v (.mk h nx))=true:=H
  obtain ⟨v,h',nx',e1,H⟩:=(hp vs h fl fd nx).t3 (F:=λ k=>c.run false vs h fl fd nx k) H
  rw [callN,hc]
  exact (e1 k').trans (hk _ _ _ H)
def TabOk (Γ : Ctx) (t:Tr TE):Prop:=∀ f F,t.get f=some F→SimT Γ f F
theorem put_tab {t:Tr TE} {f:Nat} {F:TE} {k:Tr TE→Bool} (ht:TabOk Γ t) (hF:SimT Γ f F) (H:tP 64 t f (some F) k=true):∃ t',TabOk Γ t'∧k t'=true:=by
  rw [tP_eq] at H
  rcases Tr.get_put 64 t f (some F) k with e|⟨t',h1,e⟩
  . rw [H] at e;cases e
  . refine ⟨t',λ j G hj=>?_,by rw [← e];exact H⟩
    rw [h1] at hj
    split at hj
    . rename_i hjf;cases hj;subst hjf;exact hF
    . exact ht j G hj
theorem tabK_ok (hp:∀ f c,Γ.con.get f=some c→ConP c):∀ {fs:List Nat} {t:Tr TE} {k:Tr TE→Bool},TabOk Γ t→tabK Γ fs t k=true→∃ t',TabOk Γ t'∧k t'=true
  | [],t,k,ht,H=>⟨t,ht,H⟩
  | f::fs,t,k,ht,H=>by
    unfold tabK at H
    rw [tG_eq] at H
    cases hc : Γ.con.get f with
    | some c =>
      rw [hc] at H
      obtain ⟨t',ht',H⟩:=put_tab ht (fnC_ok (hp f c hc) hc) H
      exact tabK_ok hp ht' H
    | none =>
      rw [hc] at H
      have H:(tG false Γ.fn f λ fi=>Cl.rec (motive:=λ _=>Bool) (λ F=>tP 64 t f (some F) λ t=>tabK Γ fs t k) (tabK Γ fs t k) (fnK Γ f fi))=true:=H
      rw [tG_eq] at H
      cases hf : Γ.fn.get f with
      | none=>rw [hf] at H;cases H
      | some fi =>
        rw [hf] at H
        have H:Cl.rec (motive:=λ _=>Bool) (λ F=>tP 64 t f (some F) λ t=>tabK Γ fs t k) (tabK Γ fs t k) (fnK Γ f fi)=true:=H
        cases hk:fnK Γ f fi with
        | no=>rw [hk] at H;exact tabK_ok hp ht H
        | mk F =>
          rw [hk] at H
          obtain ⟨t',ht',H⟩:=put_tab ht (fnK_ok hc hf hk) H
          exact tabK_ok hp ht' H
theorem run_sim {t:Tr TE} (ht:TabOk Γ t):∀ d,CallS (run t d) (callN false Γ true d)
  | 0=>λ fl fd g vs h nx k k' hk H=>by cases H
  | d+1=>λ fl fd c vs h nx k k' hk H=>by
    cases c with
    | yld r =>
      have H:(tG false h r λ bk=>bL bk λ q p e sz s=>sR s (tG false t q λ te=>TE.rec (motive:=λ _=>Bool) (λ _ n L=>iF (Nat.ble fl r) (iF (Nat.beq sz n) (lpG L p λ y=>y (.mk (run t d) fl fd) r vs e (.mk h nx) λ v m=>mH m λ h nx=>k v h nx) false) false) te))=true:=H
      rw [tG_eq] at H
      rw [callN]
      split at H
      rotate_left
      . cases H
      rename_i bk hbk
      obtain ⟨q,p,e,sz,s,rfl,H2⟩:=bL_t H
      obtain ⟨rfl,H3⟩:=sR_t H2
      rw [tG_eq] at H3
      split at H3
      rotate_left
      . cases H3
      rename_i te hte
      have hT:=ht q te hte
      cases te with
      | mk F n L =>
        obtain ⟨_,hL⟩:=hT
        obtain ⟨h1,H4⟩:=iF_t H3
        obtain ⟨h2,H5⟩:=iF_t H4
        obtain ⟨y,⟨fi,g,ps,a,b,hf,hn,hs,hy⟩,H6⟩:=lpG_t hL H5
        cases Nat.eq_of_beq_eq_true h2
        subst hn
        rw [hbk]
        dsimp only
        rw [hf]
        dsimp only
        rw [hs]
        dsimp only
        rw [h1,h2]
        exact hy (run t d) _ fl fd r vs e h nx _ k' (run_sim ht d) (λ v h nx H=>hk v h nx H) H6
    | fn g =>
      have H:(tG false t g λ te=>TE.rec (motive:=λ _=>Bool) (λ F _ _=>F (.mk (run t d) fl fd) vs (.mk h nx) λ v m=>mH m λ h nx=>k v h nx) te)=true:=H
      rw [tG_eq] at H
      cases hg:t.get g with
      | none=>rw [hg] at H;cases H
      | some F =>
        rw [hg] at H
        have hT:=ht g F hg
        cases F with
        | mk F n L=>exact hT.1 d (run t d) fl fd vs h nx _ k' (run_sim ht d) (λ v h nx H=>hk v h nx H) H
theorem run_ok (hp:∀ f c,Γ.con.get f=some c→ConP c) {fs:List Nat} {d f:Nat} {vs:List V} {h:H} {nx fl fd:Nat} {k:V→H→Nat→Bool} (H:tabK Γ fs .lf (λ tab=>run tab d fl fd (.fn f) vs h nx k)=true):callN false Γ true d fl fd (.fn f) vs h nx k=true:=by
  obtain ⟨t,ht,H⟩:=tabK_ok hp (λ f F hF=>by cases hF) H
  exact run_sim ht d fl fd (.fn f) vs h nx k k (λ _ _ _ h=>h) H
end Go.S
