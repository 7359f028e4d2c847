/-
  S, sixth text: operations: what the closure answers, E answers.
-/
import Derived.Test.YtbecokebaikhaaaGreatSe
namespace Go.S
open Go Go.E
set_option linter.unusedVariables false
set_option linter.unusedSimpArgs false

def CallS (C C' : CallF Bool) : Prop := ∀ fl fd g vs h nx (k k' : V → H → Nat → Bool), (∀ v h nx, k v h nx = true → k' v h nx = true) → C fl fd g vs h nx k = true → C' fl fd g vs h nx k' = true
def SimOp (Γ : Ctx) (f : OpF) (o : Op) : Prop := ∀ C C' fl fd e env h nx (k : V → M2 → Bool) (k' : V → H → Nat → Bool), CallS C C' → EnvS e env →
  (∀ v h nx, k v (.mk h nx) = true → k' v h nx = true) → f (.mk C fl fd) e (.mk h nx) k = true → evO false C' Γ true fl fd o env h nx k' = true
variable {Γ : Ctx}

theorem mv_sim {x : Operand} {g : GV} (hg : SimG g x) (o : Op) (ho : o = .move x ∨ o = .assign x) : SimOp Γ (mvF g) o := by
  intro C C' fl fd e env h nx k k' hC he hk H
  obtain ⟨v, e1, H⟩ := hg e env _ he H
  rcases ho with rfl | rfl
  · show (eO false true env x fun v => k' v h nx) = true
    rw [e1]; exact hk _ _ _ H
  · show (eO false true env x fun v => k' v h nx) = true
    rw [e1]; exact hk _ _ _ H
theorem pk_sim {c a b : Operand} {gc : GB} {ga gb : GV} (hc : SimB gc c) (ha : SimG ga a) (hb : SimG gb b) : SimOp Γ (pkF gc ga gb) (.pick c a b) := by
  intro C C' fl fd e env h nx k k' hC he hk H
  obtain ⟨v, _, e1, H⟩ := hc e env _ _ he H
  show (eA false true env c fun c => match c with | .bool b' => bif b' then eO false true env a fun v => k' v h nx else eO false true env b fun v => k' v h nx | _ => false) = true
  rw [e1]
  cases v with
  | true => obtain ⟨w, e2, H⟩ := ha e env _ he H; show (eO false true env a fun v => k' v h nx) = true; rw [e2]; exact hk _ _ _ H
  | false => obtain ⟨w, e2, H⟩ := hb e env _ he H; show (eO false true env b fun v => k' v h nx) = true; rw [e2]; exact hk _ _ _ H
theorem al_sim {t : TypeId} {ti : TI} (ht : ∀ k' : TI → Bool, tyK false Γ t k' = k' ti) : SimOp Γ (alF t ti.zero) (.alloc t) := by
  intro C C' fl fd e env h nx k k' hC he hk H
  have H : hN h nx (.cells t ti.zero) (fun h nx' => k (.at (.ptr nx 0)) (.mk h nx')) = true := H
  obtain ⟨h', e1, H⟩ := hN_t H
  show (tyK false Γ t fun ti => newK false true h nx (.cells t ti.zero) fun h nx' => k' (.at (.ptr nx 0)) h nx') = true
  rw [ht, e1]; exact hk _ _ _ H
theorem bx_sim {t : TypeId} {x : Operand} {g : GV} (hg : SimG g x) : SimOp Γ (bxF t g) (.box t x) := by
  intro C C' fl fd e env h nx k k' hC he hk H
  obtain ⟨v, e1, H⟩ := hg e env _ he H
  obtain ⟨q, _, e2, H⟩ := vR_t H
  obtain ⟨h', e3, H⟩ := hN_t H
  show (eO false true env x fun v => ropeK false v fun r => newK false true h nx (.cells t r) fun h nx' => k' (.at (.ptr nx 0)) h nx') = true
  rw [e1, e2, e3]; exact hk _ _ _ H
def SimFi (Γ : Ctx) (f : FiF) (pl : Nat → (Nat → Nat → Bool) → Bool) (ps : List (Nat × Operand)) : Prop := ∀ e env r (k : Rope → Bool), EnvS e env → f e r k = true → ∃ q, (∀ k' : Rope → Bool, fillK false Γ true env pl ps r k' = k' q) ∧ k q = true
theorem fill_ok {plC : Nat → (Nat → Nat → Cl FiF) → Cl FiF} {pl : Nat → (Nat → Nat → Bool) → Bool} (hpl : ∀ i k x, plC i k = .mk x → ∃ o t, (∀ k' : Nat → Nat → Bool, pl i k' = k' o t) ∧ k o t = .mk x) : ∀ {ps : List (Nat × Operand)} {f : FiF}, fillC Γ plC ps = .mk f → SimFi Γ f pl ps
  | [], f, h => by cases h; exact fun e env r k he H => ⟨r, fun _ => rfl, H⟩
  | (i, x) :: ps, f, h => by
    unfold fillC at h
    obtain ⟨g, h1, h⟩ := Cl.go_mk h
    obtain ⟨nf, h2, h⟩ := Cl.go_mk h
    obtain ⟨o, t, h3, h⟩ := hpl _ _ _ h
    obtain ⟨ti, h4, _, h⟩ := tyC_mk h
    rw [nK_eq] at h
    cases h
    intro e env r k he H
    obtain ⟨v, e1, H⟩ := oC_ok h1 e env _ he H
    obtain ⟨q, _, e2, H⟩ := vR_t H
    obtain ⟨e3, H⟩ := iF_t H
    obtain ⟨r', e4, H⟩ := rU_t H
    obtain ⟨q', e5, H⟩ := fill_ok hpl h2 e env r' _ he H
    refine ⟨q', fun k' => ?_, H⟩
    unfold fillK
    rw [h3, h4, e1, e2, ← rL_eq, e3, okK, cond_true, e4, e5]
theorem bl_sim {t : TypeId} {ti : TI} {ps : Array (Nat × Operand)} {f : FiF} (ht : ∀ k' : TI → Bool, tyK false Γ t k' = k' ti)
    (hh : (∃ fs, ti.k = .st fs ∧ SimFi Γ f (fun i k => match fs[i]? with | some (o, t) => k o t | none => false) ps.toList) ∨
      (∃ n e te, ti.k = .ar n e ∧ (∀ k' : TI → Bool, tyK false Γ e k' = k' te) ∧ SimFi Γ f (fun i k => k (Nat.mul i te.size) e) ps.toList)) : SimOp Γ (blF ti.zero f) (.build t ps) := by
  intro C C' fl fd e env h nx k k' hC he hk H
  show buildK false Γ true env t ps.toList (fun v => k' v h nx) = true
  unfold buildK
  rw [ht]
  rcases hh with ⟨fs, h1, h2⟩ | ⟨n, et, te, h1, h2, h3⟩
  · obtain ⟨q, e1, H⟩ := h2 e env _ _ he H
    rw [h1]
    exact (e1 fun r => k' (.agg r) h nx).trans (hk _ _ _ H)
  · obtain ⟨q, e1, H⟩ := h3 e env _ _ he H
    rw [h1]
    show (tyK false Γ et fun te => fillK false Γ true env (fun i k => k (Nat.mul i te.size) et) ps.toList ti.zero fun r => k' (.agg r) h nx) = true
    rw [h2, e1]; exact hk _ _ _ H
theorem bs_sim {t et : TypeId} {n : Nat} {ti te : TI} {ps : Array (Nat × Operand)} {f : FiF} (ht : ∀ k' : TI → Bool, tyK false Γ t k' = k' ti) (hk : ti.k = .sl et) (hte : ∀ k' : TI → Bool, tyK false Γ et k' = k' te)
    (h1 : Nat.ble (Nat.mul n te.size) 16777216 = true) (h2 : Nat.ble n 1000000000000 = true) (h3 : SimFi Γ f (fun i k => k (Nat.mul i te.size) et) ps.toList) : SimOp Γ (bsF et n (zerosR n te) f) (.buildSlice t n ps) := by
  intro C C' fl fd e env h nx k k' hC he hk' H
  obtain ⟨q, e1, H⟩ := h3 e env _ _ he H
  obtain ⟨h', e2, H⟩ := hN_t H
  show (tyK false Γ t fun ti => match ti.k with
    | .sl e => tyK false Γ e fun te => okK false (Nat.ble (Nat.mul n te.size) 16777216) (fillK false Γ true env (fun i k => k (Nat.mul i te.size) e) ps.toList (zerosR n te) fun r => okK false (Nat.ble n 1000000000000) (newK false true h nx (.cells e r) fun h nx' => k' (.at (.slice nx 0 n n)) h nx'))
    | _ => false) = true
  rw [ht, hk]
  show (tyK false Γ et fun te => okK false (Nat.ble (Nat.mul n te.size) 16777216) (fillK false Γ true env (fun i k => k (Nat.mul i te.size) et) ps.toList (zerosR n te) fun r => okK false (Nat.ble n 1000000000000) (newK false true h nx (.cells et r) fun h nx' => k' (.at (.slice nx 0 n n)) h nx'))) = true
  rw [hte, h1, okK, cond_true, e1, h2, okK, cond_true, e2]; exact hk' _ _ _ H
theorem ld_sim {t : TypeId} {ti : TI} {x : Operand} {p : GP} (ht : ∀ k' : TI → Bool, tyK false Γ t k' = k' ti) (hp : SimPt p x) (ha : ti.agg = false) : SimOp Γ (ldF p) (.load t x) := by
  intro C C' fl fd e env h nx k k' hC he hk H
  obtain ⟨b, o, e1, H⟩ := hp e env _ he H
  obtain ⟨bt, r, e2, H⟩ := hG_t H
  obtain ⟨a, e3, H⟩ := rG_t H
  show (eA false true env x fun a => ptrK false a fun b o => loadK false Γ true h t b o fun v => k' v h nx) = true
  rw [e1]
  show loadK false Γ true h t b o (fun v => k' v h nx) = true
  unfold loadK
  rw [ht, e2]
  unfold partK
  rw [ha, cond_false, e3]
  show (strA true a fun a => k' (.at a) h nx) = true
  rw [strA_eq]; exact hk _ _ _ H
theorem ldG_sim {t : TypeId} {ti : TI} {x : Operand} {p : GP} (ht : ∀ k' : TI → Bool, tyK false Γ t k' = k' ti) (hp : SimPt p x) (ha : ti.agg = true) : SimOp Γ (ldG ti.size p) (.load t x) := by
  intro C C' fl fd e env h nx k k' hC he hk H
  obtain ⟨b, o, e1, H⟩ := hp e env _ he H
  obtain ⟨bt, r, e2, H⟩ := hG_t H
  obtain ⟨q, e3, H⟩ := rS_t H
  show (eA false true env x fun a => ptrK false a fun b o => loadK false Γ true h t b o fun v => k' v h nx) = true
  rw [e1]
  show loadK false Γ true h t b o (fun v => k' v h nx) = true
  unfold loadK
  rw [ht, e2]
  unfold partK
  rw [ha, cond_true, e3]; exact hk _ _ _ H
theorem st_sim {t : TypeId} {ti : TI} {x y : Operand} {p : GP} {g : GV} (ht : ∀ k' : TI → Bool, tyK false Γ t k' = k' ti) (hp : SimPt p x) (hg : SimG g y) : SimOp Γ (stF ti.size p g) (.store t x y) := by
  intro C C' fl fd e env h nx k k' hC he hk H
  obtain ⟨b, o, e1, H⟩ := hp e env _ he H
  obtain ⟨v, e2, H⟩ := hg e env _ he H
  obtain ⟨q, _, e3, H⟩ := vR_t H
  obtain ⟨bt, r, e4, H⟩ := hG_t H
  obtain ⟨e5, H⟩ := iF_t H
  obtain ⟨e6, H⟩ := iF_t H
  obtain ⟨r', e7, H⟩ := rU_t H
  obtain ⟨h', e8, H⟩ := hP_t H
  show (eA false true env x fun a => ptrK false a fun b o => eO false true env y fun v => storeK false Γ true fl h t b o v fun h => k' .undef h nx) = true
  rw [e1]
  show (eO false true env y fun v => storeK false Γ true fl h t b o v fun h => k' .undef h nx) = true
  rw [e2]
  unfold storeK
  rw [ht, e3, e4, ← rL_eq, two_t, e5, e6, cond_true, okK, cond_true, e7, e8]; exact hk _ _ _ H
theorem nc_sim {x : Operand} {p : GP} (hp : SimPt p x) : SimOp Γ (ncF p) (.nilCheck x) := by
  intro C C' fl fd e env h nx k k' hC he hk H
  obtain ⟨b, o, e1, H⟩ := hp e env _ he H
  show (eA false true env x fun a => ptrK false a fun _ _ => k' (.at a) h nx) = true
  rw [e1]; exact hk _ _ _ H

/-! Numbers. -/
theorem ar_sim {op : BinOp} {t yt : TypeId} {x y : Operand} {kd : IntKind} {a b : GN} {f : Nat → Nat → Nat} (ha : SimI a kd x) (hb : SimI b kd y) (hs : shift? op = false) (hf : ∀ p q, intB op kd p q = some (.int kd (f p q))) : SimOp Γ (arF f kd a b) (.binOp op t x y yt) := by
  intro C C' fl fd e env h nx k k' hC he hk H
  obtain ⟨p, e1, _, H⟩ := ha e env _ he H
  obtain ⟨q, e2, _, H⟩ := hb e env _ he H
  rw [nK_eq] at H
  show (eO false true env x fun x => eO false true env y fun y => binV false Γ true op t x y fun v => k' v h nx) = true
  rw [e1, e2]
  show (bif shift? op then outK1 false true (shB op kd p kd q) (fun v => k' v h nx) else bif kEq kd kd then outK1 false true (intB op kd p q) (fun v => k' v h nx) else false) = true
  rw [hs, cond_false, kEq_refl, cond_true, hf]
  show (strA true (.int kd (f p q)) fun r => k' (.at r) h nx) = true
  rw [strA_eq]; exact hk _ _ _ H
theorem cm_sim {op : BinOp} {t yt : TypeId} {x y : Operand} {kd : IntKind} {a b : GN} {f : Nat → Nat → Bool} (ha : SimI a kd x) (hb : SimI b kd y) (hs : shift? op = false) (hf : ∀ p q, intB op kd p q = some (.bool (f p q))) : SimOp Γ (cmF f a b) (.binOp op t x y yt) := by
  intro C C' fl fd e env h nx k k' hC he hk H
  obtain ⟨p, e1, _, H⟩ := ha e env _ he H
  obtain ⟨q, e2, _, H⟩ := hb e env _ he H
  show (eO false true env x fun x => eO false true env y fun y => binV false Γ true op t x y fun v => k' v h nx) = true
  rw [e1, e2]
  show (bif shift? op then outK1 false true (shB op kd p kd q) (fun v => k' v h nx) else bif kEq kd kd then outK1 false true (intB op kd p q) (fun v => k' v h nx) else false) = true
  rw [hs, cond_false, kEq_refl, cond_true, hf]
  show (strA true (.bool (f p q)) fun r => k' (.at r) h nx) = true
  rw [strA_eq]
  rcases iF_c H with ⟨h1, H⟩ | ⟨h1, H⟩ <;> (rw [h1]; exact hk _ _ _ H)
theorem qr_sim {op : BinOp} {t yt : TypeId} {x y : Operand} {kd : IntKind} {a b : GN} {f : Nat → Nat → Nat} (ha : SimI a kd x) (hb : SimI b kd y) (hs : shift? op = false)
    (hf : ∀ p q, intB op kd p q = bif two (two (Nat.blt 0 q) (Nat.blt p (tp kd))) (Nat.blt q (tp kd)) then some (.int kd (f p q)) else none) : SimOp Γ (qrF f kd (tp kd) a b) (.binOp op t x y yt) := by
  intro C C' fl fd e env h nx k k' hC he hk H
  obtain ⟨p, e1, _, H⟩ := ha e env _ he H
  obtain ⟨q, e2, _, H⟩ := hb e env _ he H
  obtain ⟨h1, H⟩ := iF_t H
  obtain ⟨h2, H⟩ := iF_t H
  obtain ⟨h3, H⟩ := iF_t H
  rw [nK_eq] at H
  show (eO false true env x fun x => eO false true env y fun y => binV false Γ true op t x y fun v => k' v h nx) = true
  rw [e1, e2]
  show (bif shift? op then outK1 false true (shB op kd p kd q) (fun v => k' v h nx) else bif kEq kd kd then outK1 false true (intB op kd p q) (fun v => k' v h nx) else false) = true
  rw [hs, cond_false, kEq_refl, cond_true, hf, show Nat.blt 0 q = true from h1, show Nat.blt p (tp kd) = true from h2, show Nat.blt q (tp kd) = true from h3]
  show (strA true (.int kd (f p q)) fun r => k' (.at r) h nx) = true
  rw [strA_eq]; exact hk _ _ _ H
theorem shl_sim {t yt : TypeId} {x y : Operand} {kd kd' : IntKind} {a b : GN} (ha : SimI a kd x) (hb : SimI b kd' y) : SimOp Γ (slF kd (kb kd) (md kd) (tp kd') a b) (.binOp .shl t x y yt) := by
  intro C C' fl fd e env h nx k k' hC he hk H
  obtain ⟨p, e1, _, H⟩ := ha e env _ he H
  obtain ⟨q, e2, _, H⟩ := hb e env _ he H
  obtain ⟨h1, H⟩ := iF_t H
  show (eO false true env x fun x => eO false true env y fun y => binV false Γ true .shl t x y fun v => k' v h nx) = true
  rw [e1, e2]
  show outK1 false true (shB .shl kd p kd' q) (fun v => k' v h nx) = true
  unfold shB
  rw [show Nat.blt q (tp kd') = true from h1, cond_true]
  show outK1 false true (bif Nat.blt q (kb kd) then some (.int kd (Nat.mod (Nat.shiftLeft p q) (md kd))) else some (.int kd 0)) _ = true
  rcases iF_c H with ⟨h2, H⟩ | ⟨h2, H⟩
  · rw [show Nat.blt q (kb kd) = true from h2, cond_true, outK1, strA_eq]; rw [nK_eq] at H; exact hk _ _ _ H
  · rw [show Nat.blt q (kb kd) = false from h2, cond_false, outK1, strA_eq]; exact hk _ _ _ H
theorem shr_sim {t yt : TypeId} {x y : Operand} {kd kd' : IntKind} {a b : GN} (ha : SimI a kd x) (hb : SimI b kd' y) : SimOp Γ (srF kd (kb kd) (tp kd) (tp kd') a b) (.binOp .shr t x y yt) := by
  intro C C' fl fd e env h nx k k' hC he hk H
  obtain ⟨p, e1, _, H⟩ := ha e env _ he H
  obtain ⟨q, e2, _, H⟩ := hb e env _ he H
  obtain ⟨h1, H⟩ := iF_t H
  obtain ⟨h3, H⟩ := iF_t H
  show (eO false true env x fun x => eO false true env y fun y => binV false Γ true .shr t x y fun v => k' v h nx) = true
  rw [e1, e2]
  show outK1 false true (shB .shr kd p kd' q) (fun v => k' v h nx) = true
  unfold shB
  rw [show Nat.blt q (tp kd') = true from h1, cond_true]
  show outK1 false true (bif Nat.blt p (tp kd) then (bif Nat.blt q (kb kd) then some (.int kd (Nat.shiftRight p q)) else some (.int kd 0)) else none) _ = true
  rw [show Nat.blt p (tp kd) = true from h3, cond_true]
  rcases iF_c H with ⟨h2, H⟩ | ⟨h2, H⟩
  · rw [show Nat.blt q (kb kd) = true from h2, cond_true, outK1, strA_eq]; rw [nK_eq] at H; exact hk _ _ _ H
  · rw [show Nat.blt q (kb kd) = false from h2, cond_false, outK1, strA_eq]; exact hk _ _ _ H
theorem eb_sim {t yt : TypeId} {ti : TI} {x y : Operand} {a b : GB} (y' : Bool) {op : BinOp} (ht : ∀ k' : TI → Bool, tyK false Γ t k' = k' ti) (hti : ti.k = .bool) (ha : SimB a x) (hb : SimB b y) (hop : op = (bif y' then .eql else .neq)) : SimOp Γ (ebF y' a b) (.binOp op t x y yt) := by
  intro C C' fl fd e env h nx k k' hC he hk H
  obtain ⟨p, e1, _, H⟩ := ha e env _ _ he H
  show (eO false true env x fun x => eO false true env y fun y => binV false Γ true op t x y fun v => k' v h nx) = true
  rw [e1]
  have key : ∀ q, (∀ k' : V → Bool, eO false true env y k' = k' (.at (.bool q))) → k (.at (.bool (bif y' then (bif p then q else not q) else not (bif p then q else not q)))) (.mk h nx) = true → (eO false true env y fun y => binV false Γ true op t (.at (.bool p)) y fun v => k' v h nx) = true := by
    intro q e2 H
    rw [e2]
    show eqK false Γ true op t (.bool p) (.bool q) (fun v => k' v h nx) = true
    unfold eqK
    rw [ht, hti, hop]
    have H := hk _ _ _ H
    cases y' <;> cases p <;> cases q <;> exact H
  cases p with
  | true =>
    obtain ⟨q, e2, _, H⟩ := hb e env _ _ he H
    refine key q e2 ?_
    cases y' <;> cases q <;> exact H
  | false =>
    obtain ⟨q, e2, _, H⟩ := hb e env _ _ he H
    refine key q e2 ?_
    cases y' <;> cases q <;> exact H
theorem tyK_par' (t : TypeId) : Par fun k => tyK false Γ t k := by
  unfold tyK
  cases Γ.ty.get t with
  | none => exact Par.bad
  | some ti => exact Par.pure ti
theorem part_par (ti : TI) (r : Rope) (o : Nat) : Par fun k => partK false true ti r o k := by
  unfold partK
  refine Par.ite (F := fun k => r.sub false true o ti.size fun r => k (V.agg r)) _ ((sub_par r _ _).bind (G := fun r k => k (V.agg r)) fun r => Par.pure _) ?_
  cases r.get o with
  | none => exact Par.bad
  | some a => exact .inr ⟨.at a, fun k => strA_eq a fun a => k (.at a)⟩
theorem eqFs_par {rc : TypeId → V → V → (Bool → Bool) → Bool} (hrc : ∀ t x y, Par fun k => rc t x y k) (r s : Rope) : ∀ fs : List (Nat × Nat), Par fun k => eqFsK false Γ true rc r s fs k
  | [] => Par.pure true
  | (o, t) :: fs => by
    unfold eqFsK
    refine (tyK_par' t).bind (G := fun ti k => partK false true ti r o fun v => partK false true ti s o fun w => rc t v w fun b => bif b then eqFsK false Γ true rc r s fs k else k false) fun ti => ?_
    refine (part_par ti r o).bind (G := fun v k => partK false true ti s o fun w => rc t v w fun b => bif b then eqFsK false Γ true rc r s fs k else k false) fun v => ?_
    refine (part_par ti s o).bind (G := fun w k => rc t v w fun b => bif b then eqFsK false Γ true rc r s fs k else k false) fun w => ?_
    exact (hrc t v w).bind (G := fun b k => bif b then eqFsK false Γ true rc r s fs k else k false) fun b => Par.ite (F := fun k => eqFsK false Γ true rc r s fs k) (G := fun k => k false) _ (eqFs_par hrc r s fs) (Par.pure _)
theorem eqAr_par {rc : TypeId → V → V → (Bool → Bool) → Bool} (hrc : ∀ t x y, Par fun k => rc t x y k) (r s : Rope) (e : TypeId) (te : TI) : ∀ n i : Nat, Par fun k => eqArK false true rc r s e te n i k
  | 0, i => Par.pure true
  | n + 1, i => by
    unfold eqArK
    refine (part_par te r _).bind (G := fun v k => partK false true te s (Nat.mul i te.size) fun w => rc e v w fun b => bif b then eqArK false true rc r s e te n (Nat.succ i) k else k false) fun v => ?_
    refine (part_par te s _).bind (G := fun w k => rc e v w fun b => bif b then eqArK false true rc r s e te n (Nat.succ i) k else k false) fun w => ?_
    exact (hrc e v w).bind (G := fun b k => bif b then eqArK false true rc r s e te n (Nat.succ i) k else k false) fun b => Par.ite (F := fun k => eqArK false true rc r s e te n (Nat.succ i) k) (G := fun k => k false) _ (eqAr_par hrc r s e te n _) (Par.pure _)
theorem eqV_par : ∀ (f : Nat) (t : TypeId) (x y : V), Par fun k => eqV false Γ true f t x y k
  | 0, t, x, y => .inl fun _ => rfl
  | f + 1, t, x, y => by
    unfold eqV
    refine (tyK_par' t).bind (G := fun ti k => _) fun ti => ?_
    split
    · rename_i a
      cases y with
      | «at» b =>
        have hb : Par fun k => (match leafT ti.k a b with | some r => k r | none => false) := by
          cases leafT ti.k a b with
          | none => exact Par.bad
          | some r => exact Par.pure r
        show Par fun k => sizedK false Γ ti.k (match leafT ti.k a b with | some r => k r | none => false)
        unfold sizedK
        split
        · rename_i e hq
          exact (tyK_par' (Γ := Γ) e).bind (G := fun te k => okK false (Nat.blt 0 te.size) (match leafT ti.k a b with | some r => k r | none => false)) fun te =>
            Par.ite (F := fun k => match leafT ti.k a b with | some r => k r | none => false) _ hb Par.bad
        · exact hb
      | _ => exact Par.bad
    · rename_i r
      split
      · rename_i s
        split
        · rename_i fs hfs
          exact Par.ite (F := fun k => eqFsK false Γ true (eqV false Γ true f) r s fs k) _ (eqFs_par (eqV_par f) r s fs) Par.bad
        · rename_i n e hne
          refine (tyK_par' e).bind (G := fun te k => (match (bif isIntK te.k then bytesEq n r s else none) with | some b => k b | none => eqArK false true (eqV false Γ true f) r s e te n 0 k)) fun te => ?_
          cases (bif isIntK te.k then bytesEq n r s else none) with
          | some b => exact Par.pure b
          | none => exact eqAr_par (eqV_par f) r s e te n 0
        · exact Par.bad
      · exact Par.bad
    · exact Par.bad
theorem binV_par (op : BinOp) (t : TypeId) (v w : V) : Par fun k => binV false Γ true op t v w k := by
  have hout : ∀ r : Option A, Par fun k => outK1 false true r k := by
    intro r
    cases r with
    | none => exact Par.bad
    | some a => exact .inr ⟨.at a, fun k => strA_eq a fun a => k (.at a)⟩
  have hty : ∀ t, Par fun k => tyK false Γ t k := by
    intro t
    unfold tyK
    cases Γ.ty.get t with
    | none => exact Par.bad
    | some ti => exact Par.pure ti
  have heq : ∀ x y, Par fun k => eqK false Γ true op t x y k := by
    intro x y
    unfold eqK
    refine (hty t).bind (G := fun ti k => sizedK false Γ ti.k _) fun ti => ?_
    have hsz : ∀ F : (V → Bool) → Bool, Par F → Par fun k => sizedK false Γ ti.k (F k) := by
      intro F hF
      unfold sizedK
      split
      · rename_i e hq
        refine (hty e).bind (G := fun te k => okK false (Nat.blt 0 te.size) (F k)) fun te => ?_
        exact Par.ite (F := F) _ hF Par.bad
      · exact hF
    apply hsz (fun k => match op with
      | .eql => match eqT ti.k x y with | some r => boolK true r fun r => k (.at (.bool r)) | none => false
      | .neq => match eqT ti.k x y with | some r => boolK true (not r) fun r => k (.at (.bool r)) | none => false
      | _ => false)
    cases op <;> first
      | exact Par.bad
      | (cases eqT ti.k x y with
        | none => exact Par.bad
        | some r => simp only [boolK_eq]; exact Par.pure _)
  have hbin : ∀ x y, Par fun k => binA false Γ true op t x y k := by
    intro x y
    unfold binA
    split
    · exact Par.ite (F := fun k => outK1 false true _ k) _ (hout _) (Par.ite (F := fun k => outK1 false true _ k) _ (hout _) Par.bad)
    · exact hout _
    · exact heq _ _
  unfold binV
  cases v with
  | «at» a =>
    cases w with
    | «at» b => exact hbin a b
    | _ => exact Par.bad
  | agg r =>
    cases w with
    | agg s =>
      refine (tyK_par' t).bind (G := fun ti k => okK false ti.flat (match op with
        | .eql => eqV false Γ true 100 t (.agg r) (.agg s) fun b => boolK true b fun b => k (V.at (.bool b))
        | .neq => eqV false Γ true 100 t (.agg r) (.agg s) fun b => boolK true (not b) fun b => k (V.at (.bool b))
        | _ => false)) fun ti => ?_
      refine Par.ite (F := fun k => match op with
        | .eql => eqV false Γ true 100 t (.agg r) (.agg s) fun b => boolK true b fun b => k (V.at (.bool b))
        | .neq => eqV false Γ true 100 t (.agg r) (.agg s) fun b => boolK true (not b) fun b => k (V.at (.bool b))
        | _ => false) _ ?_ Par.bad
      cases op <;> first
        | exact Par.bad
        | (simp only [boolK_eq]; exact (eqV_par 100 t (.agg r) (.agg s)).bind (G := fun b k => k (V.at (.bool b))) fun b => Par.pure _)
        | (simp only [boolK_eq]; exact (eqV_par 100 t (.agg r) (.agg s)).bind (G := fun b k => k (V.at (.bool (not b)))) fun b => Par.pure _)
    | _ => exact Par.bad
  | _ => exact Par.bad
theorem bn_sim {op : BinOp} {t yt : TypeId} {x y : Operand} {a b : GV} (ha : SimG a x) (hb : SimG b y) : SimOp Γ (bnF Γ op t a b) (.binOp op t x y yt) := by
  intro C C' fl fd e env h nx k k' hC he hk H
  obtain ⟨v, e1, H⟩ := ha e env _ he H
  obtain ⟨w, e2, H⟩ := hb e env _ he H
  obtain ⟨r, e3, H⟩ := (binV_par op t v w).t H
  show (eO false true env x fun x => eO false true env y fun y => binV false Γ true op t x y fun v => k' v h nx) = true
  rw [e1, e2, e3]; exact hk _ _ _ H
theorem nt_sim {t : TypeId} {x : Operand} {g : GB} (hg : SimB g x) : SimOp Γ (ntF g) (.unOp .not t x) := by
  intro C C' fl fd e env h nx k k' hC he hk H
  obtain ⟨b, _, e1, H⟩ := hg e env _ _ he H
  show (eA false true env x fun x => unA false true .not x fun v => k' v h nx) = true
  rw [e1]
  show (boolK true (not b) fun b => k' (.at (.bool b)) h nx) = true
  rw [boolK_eq]
  cases b <;> exact hk _ _ _ H
theorem un_sim {op : UnOp} {t : TypeId} {x : Operand} {g : GA} (hg : SimA g x) : SimOp Γ (unF op g) (.unOp op t x) := by
  intro C C' fl fd e env h nx k k' hC he hk H
  obtain ⟨a, _, e1, H⟩ := hg e env _ he H
  have hp : Par fun k => unA false true op a k := by
    unfold unA
    split
    · simp only [boolK_eq]; exact Par.pure _
    · simp only [natK_eq]; exact Par.pure _
    · simp only [natK_eq]; exact Par.pure _
    · exact Par.bad
  obtain ⟨r, e2, H⟩ := hp.t H
  show (eA false true env x fun x => unA false true op x fun v => k' v h nx) = true
  rw [e1, e2]; exact hk _ _ _ H
theorem ci_sim {s d : TypeId} {x : Operand} {ks kd : IntKind} {ts td : TI} {f : Nat → Nat} {g : GN} (hs : ∀ k' : TI → Bool, tyK false Γ s k' = k' ts) (hd : ∀ k' : TI → Bool, tyK false Γ d k' = k' td) (htd : td.k = .int kd) (hg : SimI g ks x) (hf : ∀ n, cvI ks kd n = f n) : SimOp Γ (ciF f kd g) (.convert s d x) := by
  intro C C' fl fd e env h nx k k' hC he hk H
  obtain ⟨n, _, e1, H⟩ := hg e env _ he H
  rw [nK_eq] at H
  show (eA false true env x fun x => convK false Γ true fl s d h nx x k') = true
  rw [e1]
  unfold convK
  rw [hs, hd, htd]
  show (natK true (cvI ks kd n) fun n => k' (.at (.int kd n)) h nx) = true
  rw [natK_eq, hf]; exact hk _ _ _ H
end Go.S
