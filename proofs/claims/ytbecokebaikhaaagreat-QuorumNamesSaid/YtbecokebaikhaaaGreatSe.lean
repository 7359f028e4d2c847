/-
  S, fifth text: slots and operands.
-/
import Derived.Test.YtbecokebaikhaaaGreatSd
import Derived.Test.YtbecokebaikhaaaGreatEs
namespace Go.S
open Go Go.E
set_option linter.unusedVariables false
set_option linter.unusedSimpArgs false

theorem put_goes {α : Type} : ∀ (f : Nat) (t : Tr α) (n : Nat) (v : Option α), n + 1 < 2 ^ f → ∃ t', ∀ k : Tr α → Bool, Tr.put false f t n v k = k t'
  | 0, t, n, v, h => by simp at h
  | f + 1, t, n, v, h => by
    have key : ∀ (l r : Tr α) (u : Option α), ∃ t', ∀ k : Tr α → Bool, (bif Nat.beq n 0 then k (.nd l v r) else bif Nat.beq (Nat.mod n 2) 1 then Tr.put false f l (Nat.div n 2) v (fun t => k (.nd t u r)) else Tr.put false f r (Nat.pred (Nat.div n 2)) v (fun t => k (.nd l u t))) = k t' := by
      intro l r u
      rw [Nat.pow_succ] at h
      cases h0 : Nat.beq n 0 with
      | true => exact ⟨_, fun k => rfl⟩
      | false =>
        have h0 := Nat.ne_of_beq_eq_false h0
        cases h1 : Nat.beq (Nat.mod n 2) 1 with
        | true =>
          have h1 : n % 2 = 1 := Nat.eq_of_beq_eq_true h1
          obtain ⟨t', ht⟩ := put_goes f l (Nat.div n 2) v (by show n / 2 + 1 < _; omega)
          exact ⟨_, fun k => ht _⟩
        | false =>
          have h1 : ¬ n % 2 = 1 := Nat.ne_of_beq_eq_false h1
          obtain ⟨t', ht⟩ := put_goes f r (Nat.pred (Nat.div n 2)) v (by show n / 2 - 1 + 1 < _; omega)
          exact ⟨_, fun k => ht _⟩
    cases t with
    | lf => exact key .lf .lf none
    | nd l u r => exact key l r u
theorem put_ok {α : Type} (t : Tr α) (n : Nat) (v : Option α) (h : n < 512) : ∃ t', (∀ k : Tr α → Bool, Tr.put false 64 t n v k = k t') ∧ ∀ j, t'.get j = if j = n then v else t.get j := by
  obtain ⟨t', ht⟩ := put_goes 64 t n v (Nat.lt_of_le_of_lt (show n + 1 ≤ 512 by omega) (by decide))
  refine ⟨t', ht, ?_⟩
  have : ¬ ¬ ∀ j, t'.get j = if j = n then v else t.get j := by
    intro hn
    have hk := ht (fun t'' => @decide (¬ ∀ j, t''.get j = if j = n then v else t.get j) (Classical.propDecidable _))
    rw [@decide_eq_true _ (Classical.propDecidable _) hn] at hk
    rcases Tr.get_put 64 t n v (fun t'' => @decide (¬ ∀ j, t''.get j = if j = n then v else t.get j) (Classical.propDecidable _)) with e | ⟨t'', h1, e⟩
    · rw [hk] at e; cases e
    · rw [hk] at e
      exact absurd h1 (@of_decide_eq_true _ (Classical.propDecidable _) e.symm)
  exact Classical.not_not.1 this

noncomputable def slot (e : E2) (t : Nat) : V := match e.list[t / 16]? with
  | some c => (match c.list[t % 16]? with | some v => v | none => .undef)
  | none => .undef
def EnvS (e : E2) (env : En) : Prop := ∀ t, slot e t ≠ .undef → env.get t = some (slot e t)
theorem slot_of {e : E2} {t : Nat} {c : C16 V} {v : V} (h1 : e.list[t / 16]? = some c) (h2 : c.list[t % 16]? = some v) : slot e t = v := by
  unfold slot; rw [h1]; show (match c.list[t % 16]? with | some v => v | none => .undef) = v; rw [h2]
/-- A slot's four selectors. -/
structure SlOk (t : Nat) (og : E2 → (C16 V → Bool) → Bool) (os : E2 → C16 V → (E2 → Bool) → Bool) (ig : C16 V → (V → Bool) → Bool) (is : C16 V → V → (C16 V → Bool) → Bool) : Prop where
  lt : t < 512
  o : SoOk (t / 16) ⟨og, os⟩
  i : SiOk (t % 16) ⟨ig, is⟩
theorem gT_t {t : Nat} {og os ig is} (h : SlOk t og os ig is) {e : E2} {k : V → Bool} (H : gT og ig e k = true) : slot e t ≠ .undef ∧ k (slot e t) = true := by
  unfold gT at H
  obtain ⟨c, h1, h2⟩ := h.o.1 e fun c => ig c fun v => vV v k
  have h2 : og e (fun c => ig c fun v => vV v k) = ig c fun v => vV v k := h2
  rw [h2] at H
  obtain ⟨v, h3, h4⟩ := h.i.1 c fun v => vV v k
  have h4 : ig c (fun v => vV v k) = vV v k := h4
  rw [h4] at H
  rw [slot_of h1 h3]
  exact vV_t H
theorem pT_t {t : Nat} {og os ig is} (h : SlOk t og os ig is) {e : E2} {v : V} {k : E2 → Bool} (H : pT og is os e v k = true) : ∃ e', (∀ j, slot e' j = if j = t then v else slot e j) ∧ k e' = true := by
  unfold pT at H
  obtain ⟨c, h1, h2⟩ := h.o.1 e fun c => is c v fun c => os e c k
  have h2 : og e (fun c => is c v fun c => os e c k) = is c v fun c => os e c k := h2
  rw [h2] at H
  obtain ⟨c', h3, h4⟩ := h.i.2 c v fun c => os e c k
  have h4 : is c v (fun c => os e c k) = os e c' k := h4
  rw [h4] at H
  obtain ⟨e', h5, h6⟩ := h.o.2 e c' k
  have h6 : os e c' k = k e' := h6
  rw [h6] at H
  refine ⟨e', fun j => ?_, H⟩
  have hl : t / 16 < e.list.length := by
    rcases Nat.lt_or_ge (t / 16) e.list.length with h | h
    · exact h
    · rw [List.getElem?_eq_none h] at h1; cases h1
  obtain ⟨w, h7, _⟩ := h.i.1 c fun _ => true
  have hl2 : t % 16 < c.list.length := by
    rcases Nat.lt_or_ge (t % 16) c.list.length with h | h
    · exact h
    · rw [List.getElem?_eq_none h] at h7; cases h7
  by_cases hj : j / 16 = t / 16
  · have e1 : e'.list[j / 16]? = some c' := by rw [h5, hj, List.getElem?_set_self hl]
    by_cases hj2 : j % 16 = t % 16
    · have : j = t := by omega
      subst this
      rw [if_pos rfl]
      exact slot_of e1 (by rw [h3, List.getElem?_set_self hl2])
    · rw [if_neg (by omega)]
      unfold slot
      rw [e1, hj, h1]
      show (match c'.list[j % 16]? with | some v => v | none => .undef) = (match c.list[j % 16]? with | some v => v | none => .undef)
      rw [h3, List.getElem?_set_ne (fun e => hj2 e.symm)]
  · rw [if_neg (by intro e; subst e; exact hj rfl)]
    unfold slot
    rw [h5, List.getElem?_set_ne (fun e => hj e.symm)]
theorem EnvS.put {e e' : E2} {env : En} {t : Nat} {v : V} (h : EnvS e env) (ht : t < 512) (he : ∀ j, slot e' j = if j = t then v else slot e j) : ∃ env', (∀ k : En → Bool, putK false env t v k = k env') ∧ EnvS e' env' := by
  obtain ⟨env', h1, h2⟩ := put_ok env t (some v) ht
  refine ⟨env', h1, fun j hj => ?_⟩
  rw [h2, he] at *
  split
  · rfl
  · rename_i hn; rw [if_neg hn] at hj; exact h j hj

/-! What the compiler hands out. -/
theorem Cl.go_mk {α β : Type} {c : Cl α} {k : α → Cl β} {b : β} (h : c.go k = .mk b) : ∃ f, c = .mk f ∧ k f = .mk b := by
  cases c with
  | mk f => exact ⟨f, rfl, h⟩
  | no => cases h
theorem iF_mk {α : Type} {b : Bool} {c : Cl α} {x : α} (h : iF b c .no = .mk x) : b = true ∧ c = .mk x := by cases b <;> simp_all [iF]
theorem slC_mk {α : Type} {t : Nat} {k} {x : α} (h : slC t k = Cl.mk x) : ∃ og os ig is, SlOk t og os ig is ∧ k og os ig is = Cl.mk x := by
  unfold slC at h
  obtain ⟨h1, h⟩ := iF_mk h
  have h1 : t < 512 := Nat.le_of_ble_eq_true h1
  obtain ⟨so, ho, e1⟩ := selO_ok (Nat.div t 16) (by show t / 16 < 32; omega) (fun o => So.rec (motive := fun _ => Cl α) (fun og os => selI (Nat.mod t 16) fun i => Si.rec (motive := fun _ => Cl α) (fun ig is => k og os ig is) i) o)
  rw [e1] at h
  cases so with
  | mk og os =>
    have h : selI (Nat.mod t 16) (fun i => Si.rec (motive := fun _ => Cl α) (fun ig is => k og os ig is) i) = .mk x := h
    obtain ⟨si, hi, e2⟩ := selI_ok (Nat.mod t 16) (by show t % 16 < 16; omega) (fun i => Si.rec (motive := fun _ => Cl α) (fun ig is => k og os ig is) i)
    rw [e2] at h
    cases si with
    | mk ig is => exact ⟨og, os, ig, is, ⟨h1, ho, hi⟩, h⟩
/-- The closure gets what E gets. -/
def SimG (g : GV) (x : Operand) : Prop := ∀ e env (k : V → Bool), EnvS e env → g e k = true → ∃ v, (∀ k' : V → Bool, eO false true env x k' = k' v) ∧ k v = true
theorem ropeC_par : ∀ vs : List Value, (∀ (R : Type) (bad : R) k, ropeC bad true vs k = bad) ∨ ∃ r, ∀ (R : Type) (bad : R) k, ropeC bad true vs k = k r
  | [] => .inr ⟨.by 0 0, fun _ _ _ => rfl⟩
  | v :: vs => by
    unfold ropeC
    cases hc : cellC v with
    | none => exact .inl fun _ _ _ => rfl
    | some a =>
      rcases ropeC_par vs with h | ⟨r, h⟩
      · exact .inl fun R bad k => h R bad _
      · have : ∃ q, ∀ (R : Type) (k : Rope → R), jn true 1 (ofA a) r k = k q := by
          unfold jn
          simp only [natK_eq, show Nat.beq 1 0 = false from rfl, cond_false]
          cases ofA a with
          | «by» n s =>
            cases r with
            | «by» m t =>
              simp only
              cases two true (Nat.ble (Nat.add n m) 1024) with
              | true => exact ⟨_, fun _ _ => rfl⟩
              | false => exact ⟨_, fun _ _ => rfl⟩
            | _ => exact ⟨_, fun _ _ => rfl⟩
          | _ => exact ⟨_, fun _ _ => rfl⟩
        obtain ⟨q, hq⟩ := this
        exact .inr ⟨q, fun R bad k => (h R bad _).trans (hq R k)⟩
theorem strA_eq {R : Type} (a : A) (k : A → R) : strA true a k = k a := by
  cases a <;> simp only [strA, natK_eq, boolK_eq]
theorem constC_par (v : Value) : (∀ (R : Type) (bad : R) k, constC bad true v k = bad) ∨ ∃ w, ∀ (R : Type) (bad : R) k, constC bad true v k = k w := by
  have ha : ∀ (v : Value), (∀ (R : Type) (bad : R) (k : V → R), (match cellC v with | some a => strA true a fun a => k (.at a) | none => bad) = bad) ∨ ∃ w, ∀ (R : Type) (bad : R) (k : V → R), (match cellC v with | some a => strA true a fun a => k (.at a) | none => bad) = k w := by
    intro v
    cases cellC v with
    | none => exact .inl fun _ _ _ => rfl
    | some a => exact .inr ⟨.at a, fun _ _ k => strA_eq a fun a => k (.at a)⟩
  unfold constC
  split
  · split
    · exact .inr ⟨_, fun _ _ _ => rfl⟩
    · exact .inl fun _ _ _ => rfl
  · rename_i cs
    rcases ropeC_par cs.toList with h | ⟨r, h⟩
    · exact .inl fun R bad k => h R bad _
    · exact .inr ⟨_, fun R bad k => h R bad _⟩
  · split
    · exact .inr ⟨_, fun _ _ _ => rfl⟩
    · exact .inl fun _ _ _ => rfl
  · exact ha _
theorem oC_ok {x : Operand} {g : GV} (h : oC x = .mk g) : SimG g x := by
  unfold oC at h
  cases x with
  | tmp t =>
    obtain ⟨og, os, ig, is, hs, h⟩ := slC_mk h
    cases h
    intro e env k he H
    obtain ⟨h1, h2⟩ := gT_t hs H
    exact ⟨_, fun k' => by
      show (match Tr.get env t with | some v => k' v | none => false) = _
      rw [he t h1], h2⟩
  | const v =>
    rcases constC_par v with hc | ⟨w, hc⟩
    · have := hc (Cl GV) .no fun v => .mk (gC v)
      have h : constC Cl.no true v (fun v => Cl.mk (gC v)) = .mk g := h
      rw [this] at h; cases h
    · have := hc (Cl GV) .no fun v => .mk (gC v)
      have h : constC Cl.no true v (fun v => Cl.mk (gC v)) = .mk g := h
      rw [this] at h; cases h
      intro e env k he H
      exact ⟨w, fun k' => hc Bool false k', H⟩
  | func f =>
    cases h
    intro e env k he H
    exact ⟨_, fun k' => rfl, H⟩
  | global g => cases h
def SimP (p : PV) (d : Option Nat) : Prop := ∀ e env v (k : E2 → Bool), EnvS e env → p e v k = true → ∃ e' env', (∀ k' : En → Bool, dstK false env d v k' = k' env') ∧ EnvS e' env' ∧ k e' = true
theorem dC_ok {d : Option Nat} {p : PV} (h : dC d = .mk p) : SimP p d := by
  unfold dC at h
  cases d with
  | none =>
    cases h
    intro e env v k he H
    exact ⟨e, env, fun _ => rfl, he, H⟩
  | some t =>
    obtain ⟨og, os, ig, is, hs, h⟩ := slC_mk h
    cases h
    intro e env v k he H
    obtain ⟨e', h1, h2⟩ := pT_t hs H
    obtain ⟨env', h3, h4⟩ := he.put hs.lt h1
    exact ⟨e', env', h3, h4, h2⟩
theorem tyC_eq {α : Type} (Γ : Ctx) (t : TypeId) (k : TI → Cl α) : tyC Γ t k = match Γ.ty.get t with | some ti => k ti | none => .no := by
  unfold tyC
  rw [tG_eq]
  cases Γ.ty.get t with
  | none => rfl
  | some ti =>
    cases ti with
    | mk a s b g z f => show nK s (fun s => nK b fun b => k ⟨a, s, b, g, z, f⟩) = k _; rw [nK_eq, nK_eq]
theorem tyC_mk {α : Type} {Γ : Ctx} {t : TypeId} {k : TI → Cl α} {x : α} (h : tyC Γ t k = .mk x) : ∃ ti, (∀ k' : TI → Bool, tyK false Γ t k' = k' ti) ∧ Γ.ty.get t = some ti ∧ k ti = .mk x := by
  rw [tyC_eq] at h
  unfold tyK
  cases hg : Γ.ty.get t with
  | none => rw [hg] at h; cases h
  | some ti => rw [hg] at h; exact ⟨ti, fun k' => rfl, rfl, h⟩
theorem tiC_eq {α : Type} (ti : TI) (k) : (tiC ti k : Cl α) = k ti.k ti.size ti.bytes ti.agg ti.zero := by cases ti; rfl

/-! Operands of one sort. -/
def SimA (g : GA) (x : Operand) : Prop := ∀ e env (k : A → Bool), EnvS e env → g e k = true → ∃ a, (∀ k' : V → Bool, eO false true env x k' = k' (.at a)) ∧ (∀ k' : A → Bool, eA false true env x k' = k' a) ∧ k a = true
theorem SimG.a {g : GV} {x : Operand} (h : SimG g x) : SimA (gA g) x := by
  intro e env k he H
  obtain ⟨v, h1, h2⟩ := h e env _ he H
  obtain ⟨a, rfl, h3⟩ := vA_t h2
  exact ⟨a, h1, fun k' => by unfold eA; rw [h1]; rfl, h3⟩
def SimI (g : GN) (kd : IntKind) (x : Operand) : Prop := ∀ e env (k : Nat → Bool), EnvS e env → g e k = true → ∃ n, (∀ k' : V → Bool, eO false true env x k' = k' (.at (.int kd n))) ∧ (∀ k' : A → Bool, eA false true env x k' = k' (.int kd n)) ∧ k n = true
theorem SimG.i {g : GV} {x : Operand} (h : SimG g x) (kd : IntKind) : SimI (gI g (kC kd)) kd x := by
  intro e env k he H
  obtain ⟨v, h1, h2⟩ := h e env _ he H
  obtain ⟨a, rfl, h3⟩ := vA_t h2
  obtain ⟨kd', n, rfl, h4⟩ := aI_t h3
  obtain ⟨rfl, h5⟩ := kC_t h4
  exact ⟨n, h1, fun k' => by unfold eA; rw [h1]; rfl, h5⟩
def SimX (g : GN) (x : Operand) : Prop := ∀ e env (k : Nat → Bool), EnvS e env → g e k = true → ∃ a n, (∀ k' : A → Bool, eA false true env x k' = k' a) ∧ (∀ k' : Nat → Bool, idxK false a k' = k' n) ∧ k n = true
theorem SimG.x {g : GV} {x : Operand} (h : SimG g x) : SimX (gX g) x := by
  intro e env k he H
  obtain ⟨v, h1, h2⟩ := h e env _ he H
  obtain ⟨a, rfl, h3⟩ := vA_t h2
  obtain ⟨n, h4, h5⟩ := aX_t h3
  exact ⟨a, n, fun k' => by unfold eA; rw [h1]; rfl, h4, h5⟩
def SimPt (g : GP) (x : Operand) : Prop := ∀ e env (k : Nat → Nat → Bool), EnvS e env → g e k = true → ∃ b o, (∀ k' : A → Bool, eA false true env x k' = k' (.ptr b o)) ∧ k b o = true
theorem SimG.p {g : GV} {x : Operand} (h : SimG g x) : SimPt (gP g) x := by
  intro e env k he H
  obtain ⟨v, h1, h2⟩ := h e env _ he H
  obtain ⟨a, rfl, h3⟩ := vA_t h2
  obtain ⟨b, o, rfl, h4⟩ := aP_t h3
  exact ⟨b, o, fun k' => by unfold eA; rw [h1]; rfl, h4⟩
def SimB (g : GB) (x : Operand) : Prop := ∀ e env (y n : Bool), EnvS e env → g e y n = true → ∃ b, (∀ k' : V → Bool, eO false true env x k' = k' (.at (.bool b))) ∧ (∀ k' : A → Bool, eA false true env x k' = k' (.bool b)) ∧ (bif b then y else n) = true
theorem SimG.b {g : GV} {x : Operand} (h : SimG g x) : SimB (gB g) x := by
  intro e env y n he H
  obtain ⟨v, h1, h2⟩ := h e env _ he H
  obtain ⟨a, rfl, h3⟩ := vA_t h2
  obtain ⟨b, rfl, h4⟩ := aB_t h3
  exact ⟨b, h1, fun k' => by unfold eA; rw [h1]; rfl, h4⟩
theorem aC_ok {x : Operand} {g : GA} (h : aC x = .mk g) : SimA g x := by
  obtain ⟨f, h1, h⟩ := Cl.go_mk h; cases h; exact (oC_ok h1).a
theorem pC_ok {x : Operand} {g : GP} (h : pC x = .mk g) : SimPt g x := by
  obtain ⟨f, h1, h⟩ := Cl.go_mk h; cases h; exact (oC_ok h1).p
theorem bC_ok {x : Operand} {g : GB} (h : bC' x = .mk g) : SimB g x := by
  obtain ⟨f, h1, h⟩ := Cl.go_mk h; cases h; exact (oC_ok h1).b
theorem xC_ok {x : Operand} {g : GN} (h : xC x = .mk g) : SimX g x := by
  obtain ⟨f, h1, h⟩ := Cl.go_mk h; cases h; exact (oC_ok h1).x
def SimLv (g : LsV) (xs : List Operand) : Prop := ∀ e env (k : List V → Bool), EnvS e env → g e k = true → ∃ vs, (∀ k' : List V → Bool, eOs false true env xs k' = k' vs) ∧ k vs = true
theorem lvC_ok : ∀ {xs : List Operand} {g : LsV}, lvC xs = .mk g → SimLv g xs
  | [], g, h => by cases h; exact fun e env k he H => ⟨[], fun _ => rfl, H⟩
  | x :: xs, g, h => by
    unfold lvC at h
    obtain ⟨f, h1, h⟩ := Cl.go_mk h
    obtain ⟨l, h2, h⟩ := Cl.go_mk h
    cases h
    intro e env k he H
    obtain ⟨v, h3, h4⟩ := oC_ok h1 e env _ he H
    obtain ⟨vs, h5, h6⟩ := lvC_ok h2 e env _ he h4
    exact ⟨v :: vs, fun k' => by unfold eOs; rw [h3, h5], h6⟩
def SimLa (g : LsA) (xs : List Operand) : Prop := ∀ e env (k : List A → Bool), EnvS e env → g e k = true → ∃ vs, (∀ k' : List A → Bool, eAs false true env xs k' = k' vs) ∧ k vs = true
theorem laC_ok : ∀ {xs : List Operand} {g : LsA}, laC xs = .mk g → SimLa g xs
  | [], g, h => by cases h; exact fun e env k he H => ⟨[], fun _ => rfl, H⟩
  | x :: xs, g, h => by
    unfold laC at h
    obtain ⟨f, h1, h⟩ := Cl.go_mk h
    obtain ⟨l, h2, h⟩ := Cl.go_mk h
    cases h
    intro e env k he H
    obtain ⟨v, _, h3, h4⟩ := aC_ok h1 e env _ he H
    obtain ⟨vs, h5, h6⟩ := laC_ok h2 e env _ he h4
    exact ⟨v :: vs, fun k' => by unfold eAs; rw [h3, h5], h6⟩
def SimBd (g : BdF) (x : Option Operand) : Prop := ∀ e env d (k : Nat → Bool), EnvS e env → g e d k = true → ∃ n, (∀ k' : Nat → Bool, bndK false true env x d k' = k' n) ∧ k n = true
theorem bdC_ok {x : Option Operand} {g : BdF} (h : bdC x = .mk g) : SimBd g x := by
  cases x with
  | none => cases h; exact fun e env d k he H => ⟨d, fun _ => rfl, H⟩
  | some x =>
    obtain ⟨f, h1, h⟩ := Cl.go_mk h
    cases h
    intro e env d k he H
    obtain ⟨a, n, h2, h3, h4⟩ := xC_ok h1 e env _ he H
    exact ⟨n, fun k' => by
      show eA false true env x (fun a => idxK false a k') = _
      rw [h2, h3], h4⟩
theorem kdC_eq {α : Type} (kd : IntKind) (k) : (kdC kd k : Cl α) = k (kC kd) := by cases kd <;> rfl
end Go.S
