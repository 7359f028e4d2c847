/-
  S, eleventh text: code, functions, the table: what a compiled run says.
-/
import Derived.Test.YtbecokebaikhaaaGreatSj
namespace Go.S
open Go Go.E
set_option linter.unusedVariables false
set_option linter.unusedSimpArgs false
variable {Γ : Ctx}

def SimC (Γ : Ctx) (f : CdF) (c : Code) : Prop := ∀ n, need c ≤ n → ∀ C C' fl fd e env h nx (k : X → E2 → M2 → Bool) (k' : X → En → H → Nat → Bool), CallS C C' → EnvS e env →
  (∀ x e env h nx, EnvS e env → k x e (.mk h nx) = true → k' x env h nx = true) → f (.mk C fl fd) e (.mk h nx) k = true → evC false C' Γ true fl fd n c env h nx k' = true
theorem xK_t {r : X} {a c : Bool} {b : Nat → Bool} (h : xK r a b c = true) : (r = .normal ∧ a = true) ∨ (∃ i, r = .exit i ∧ b i = true) ∨ (r = .ret ∧ c = true) := by
  cases r <;> first | exact .inl ⟨rfl, h⟩ | exact .inr (.inl ⟨_, rfl, h⟩) | exact .inr (.inr ⟨rfl, h⟩)
theorem need_pos (c : Code) : 0 < need c := by
  cases c with
  | seq a b => exact Nat.succ_pos _
  | cond c a b => exact Nat.succ_pos _
  | block j a => exact Nat.succ_pos _
  | scope a => exact Nat.succ_pos _
  | loop a => exact Nat.lt_of_lt_of_le (show 0 < 1000001 by decide) (Nat.le_add_left 1000001 (need a))
  | _ => exact Nat.succ_pos 0
theorem loop_ok {a : Code} {f : CdF} (ha : SimC Γ f a) (C C' : CallF Bool) (fl fd : Nat) (k : X → E2 → M2 → Bool) (k' : X → En → H → Nat → Bool) (hC : CallS C C')
    (hk : ∀ x e env h nx, EnvS e env → k x e (.mk h nx) = true → k' x env h nx = true) : ∀ (m n : Nat), need a + m ≤ n → ∀ e env h nx, EnvS e env →
    (Nat.rec (motive := fun _ => E2 → M2 → Bool) (fun _ _ => false) (fun _ ih e m => f (.mk C fl fd) e m (fun r e m => xK r (ih e m) (fun i => k (.exit i) e m) (k .ret e m))) m : E2 → M2 → Bool) e (.mk h nx) = true →
    evC false C' Γ true fl fd (n + 1) (.loop a) env h nx k' = true
  | 0, n, hn, e, env, h, nx, he, H => by cases H
  | m + 1, n, hn, e, env, h, nx, he, H => by
    have hpos := need_pos a
    obtain ⟨n, rfl⟩ : ∃ j, n = j + 1 := ⟨n - 1, by omega⟩
    rw [evC]
    refine ha (n + 1) (by omega) C C' fl fd e env h nx _ _ hC he (fun x e env h nx he H => ?_) H
    rcases xK_t H with ⟨rfl, H⟩ | ⟨i, rfl, H⟩ | ⟨rfl, H⟩
    · exact loop_ok ha C C' fl fd k k' hC hk m n (by omega) e env h nx he H
    · exact hk _ _ _ _ _ he H
    · exact hk _ _ _ _ _ he H
theorem cdC_ok : ∀ {c : Code} {f : CdF}, cdC Γ c = .mk f → SimC Γ f c := by
  intro c
  have one : ∀ c, ∀ n, need c ≤ n → ∃ j, n = j + 1 := fun c n hn => ⟨n - 1, by have := need_pos c; omega⟩
  have bad : ∀ c f, Cl.mk cBd = Cl.mk f → SimC Γ f c := by
    intro c f h; cases h; intro n hn C C' fl fd e env h nx k k' hC he hk H; cases H
  induction c with
  | skip =>
    intro f hf; cases hf
    intro n hn C C' fl fd e env h nx k k' hC he hk H
    obtain ⟨n, rfl⟩ := one _ n hn
    rw [evC]; exact hk _ _ _ _ _ he H
  | label l =>
    intro f hf; cases hf
    intro n hn C C' fl fd e env h nx k k' hC he hk H
    obtain ⟨n, rfl⟩ := one _ n hn
    rw [evC]; exact hk _ _ _ _ _ he H
  | exit i =>
    intro f hf
    unfold cdC at hf
    rw [nK_eq] at hf
    cases hf
    intro n hn C C' fl fd e env h nx k k' hC he hk H
    obtain ⟨n, rfl⟩ := one _ n hn
    rw [evC]; exact hk _ _ _ _ _ he H
  | ret =>
    intro f hf; cases hf
    intro n hn C C' fl fd e env h nx k k' hC he hk H
    obtain ⟨n, rfl⟩ := one _ n hn
    rw [evC]; exact hk _ _ _ _ _ he H
  | seq a b iha ihb =>
    intro f hf
    unfold cdC at hf
    obtain ⟨fa, h1, hf⟩ := Cl.go_mk hf
    obtain ⟨fb, h2, hf⟩ := Cl.go_mk hf
    cases hf
    intro n hn C C' fl fd e env h nx k k' hC he hk H
    obtain ⟨n, rfl⟩ := one _ n hn
    have hn : need a + need b + 1 ≤ n + 1 := hn
    rw [evC]
    refine iha h1 n (by omega) C C' fl fd e env h nx _ _ hC he (fun x e env h nx he H => ?_) H
    rcases xK_t H with ⟨rfl, H⟩ | ⟨i, rfl, H⟩ | ⟨rfl, H⟩
    · exact ihb h2 n (by omega) C C' fl fd e env h nx _ _ hC he hk H
    · exact hk _ _ _ _ _ he H
    · exact hk _ _ _ _ _ he H
  | cond c a b iha ihb =>
    intro f hf
    unfold cdC at hf
    obtain ⟨g, h0, hf⟩ := Cl.go_mk hf
    obtain ⟨fa, h1, hf⟩ := Cl.go_mk hf
    obtain ⟨fb, h2, hf⟩ := Cl.go_mk hf
    cases hf
    intro n hn C C' fl fd e env h nx k k' hC he hk H
    obtain ⟨n, rfl⟩ := one _ n hn
    have hn : need a + need b + 1 ≤ n + 1 := hn
    obtain ⟨t, _, e1, H⟩ := bC_ok h0 e env _ _ he H
    rw [evC, e1]
    cases t with
    | true => exact iha h1 n (by omega) C C' fl fd e env h nx _ _ hC he hk H
    | false => exact ihb h2 n (by omega) C C' fl fd e env h nx _ _ hC he hk H
  | block j a iha =>
    intro f hf
    unfold cdC at hf
    rw [nK_eq] at hf
    obtain ⟨fa, h1, hf⟩ := Cl.go_mk hf
    cases hf
    intro n hn C C' fl fd e env h nx k k' hC he hk H
    obtain ⟨n, rfl⟩ := one _ n hn
    have hn : need a + 1 ≤ n + 1 := hn
    rw [evC]
    refine iha h1 n (by omega) C C' fl fd e env h nx _ _ hC he (fun x e env h nx he H => ?_) H
    rcases xK_t H with ⟨rfl, H⟩ | ⟨i, rfl, H⟩ | ⟨rfl, H⟩
    · exact hk _ _ _ _ _ he H
    · show (bif Nat.beq i j then k' .normal env h nx else k' (.exit i) env h nx) = true
      rcases iF_c H with ⟨h2, H⟩ | ⟨h2, H⟩ <;> (rw [h2]; exact hk _ _ _ _ _ he H)
    · exact hk _ _ _ _ _ he H
  | loop a iha =>
    intro f hf
    unfold cdC at hf
    obtain ⟨fa, h1, hf⟩ := Cl.go_mk hf
    cases hf
    intro n hn C C' fl fd e env h nx k k' hC he hk H
    obtain ⟨n, rfl⟩ := one _ n hn
    have hn : need a + 1000001 ≤ n + 1 := hn
    exact loop_ok (iha h1) C C' fl fd k k' hC hk 1000000 n (by omega) e env h nx he H
  | scope a iha =>
    intro f hf
    intro n hn C C' fl fd e env h nx k k' hC he hk H
    obtain ⟨n, rfl⟩ := one _ n hn
    have hn : need a + 1 ≤ n + 1 := hn
    rw [evC]
    exact iha hf n (by omega) C C' fl fd e env h nx _ _ hC he hk H
  | region id ops d =>
    intro f hf
    unfold cdC at hf
    intro n hn C C' fl fd e env h nx k k' hC he hk H
    obtain ⟨n, rfl⟩ := one _ n hn
    rw [evC]
    cases d with
    | true =>
      obtain ⟨h1, hf⟩ := iF_mk (show iF (slotsB ops.toList) _ .no = Cl.mk f from hf)
      obtain ⟨g, h2, hf⟩ := Cl.go_mk hf
      cases hf
      rw [cond_true, h1, okK, cond_true]
      exact drwC_ok h2 C C' fl fd nx e env h nx [] _ _ hC he (fun e env h nx al he H => hk _ _ _ _ _ he H) H
    | false =>
      obtain ⟨g, h2, hf⟩ := Cl.go_mk (show ((ordC Γ ops.toList ops.toList).go fun f => Cl.mk (cRg f)) = Cl.mk f from hf)
      cases hf
      rw [cond_false]
      exact ordC_ok h2 C C' fl fd e env h nx _ _ hC he (fun e env h nx he H => hk _ _ _ _ _ he H) H
  | rangeFunc f' ps a b => exact fun {f} hf => bad _ f hf
  | goto l => exact fun {f} hf => bad _ f hf
  | refuse w => exact fun {f} hf => bad _ f hf

/-! Functions. -/
def SimAg (a : AgF) (i n : Nat) : Prop := ∀ vs e env (k : E2 → Bool), EnvS e env → a vs e k = true → vs.length ≤ n ∧ ∃ e' env', (∀ k' : En → Bool, argsK false i vs env k' = k' env') ∧ EnvS e' env' ∧ k e' = true
theorem agC_ok : ∀ {n i : Nat} {a : AgF}, agC n i = .mk a → SimAg a i n
  | 0, i, a, h => by
    cases h
    intro vs e env k he H
    cases vs with
    | nil => exact ⟨Nat.le_refl _, e, env, fun _ => rfl, he, H⟩
    | cons v t => cases H
  | n + 1, i, a, h => by
    unfold agC at h
    obtain ⟨p, h1, h⟩ := Cl.go_mk h
    obtain ⟨f, h2, h⟩ := Cl.go_mk h
    cases h
    intro vs e env k he H
    cases vs with
    | nil => exact ⟨Nat.zero_le _, e, env, fun _ => rfl, he, H⟩
    | cons v t =>
      obtain ⟨e', env', e1, he', H⟩ := dC_ok h1 e env v _ he H
      obtain ⟨hl, e2, env2, e3, he2, H⟩ := agC_ok h2 t e' env' k he' H
      refine ⟨Nat.succ_le_succ hl, e2, env2, fun k' => ?_, he2, H⟩
      unfold argsK
      exact (e1 _).trans (e3 _)
def SimRs (Γ : Ctx) (f : RsF) (rs : List ResultVar) : Prop := ∀ e env h nx (k : List V → Bool), EnvS e env → f e (.mk h nx) k = true → ∃ l, (∀ k' : List V → Bool, resK false Γ true env h rs k' = k' l) ∧ k l = true
theorem get_of {env : En} {t : Nat} {v : V} (e1 : ∀ k' : V → Bool, eO false true env (.tmp t) k' = k' v) : env.get t = some v := by
  have e2 := e1 fun v' => @decide (v' = v) (Classical.propDecidable _)
  have e2 : (match env.get t with | some v' => @decide (v' = v) (Classical.propDecidable _) | none => false) = @decide (v = v) (Classical.propDecidable _) := e2
  rw [@decide_eq_true _ (Classical.propDecidable _) rfl] at e2
  cases hg : env.get t with
  | none => rw [hg] at e2; cases e2
  | some w =>
    rw [hg] at e2
    have e2 : @decide (w = v) (Classical.propDecidable _) = true := e2
    exact congrArg some (@of_decide_eq_true _ (Classical.propDecidable _) e2)
theorem rsC_ok : ∀ {rs : List ResultVar} {f : RsF}, rsC Γ rs = .mk f → SimRs Γ f rs
  | [], f, h => by cases h; exact fun e env h nx k he H => ⟨[], fun _ => rfl, H⟩
  | .tmp t :: r, f, h => by
    unfold rsC at h
    obtain ⟨g, h1, h⟩ := Cl.go_mk h
    obtain ⟨f', h2, h⟩ := Cl.go_mk h
    cases h
    intro e env h nx k he H
    obtain ⟨v, e1, H⟩ := oC_ok h1 e env _ he H
    obtain ⟨l, e2, H⟩ := rsC_ok h2 e env _ nx _ he H
    refine ⟨v :: l, fun k' => ?_, H⟩
    show (match env.get t with | some v => resK false Γ true env _ r fun vs => k' (v :: vs) | none => false) = _
    rw [get_of e1]
    exact e2 _
  | .cell t ty :: r, f, h => by
    unfold rsC at h
    obtain ⟨p, h1, h⟩ := Cl.go_mk h
    obtain ⟨f', h2, h⟩ := Cl.go_mk h
    obtain ⟨ti, ht, _, h⟩ := tyC_mk h
    have fin : ∀ (e : E2) (env : En) (hh : H) (b o : Nat) (l : List V) (v : V), (∀ k' : A → Bool, eA false true env (.tmp t) k' = k' (.ptr b o)) → (∀ k' : V → Bool, loadK false Γ true hh ty b o k' = k' v) → (∀ k' : List V → Bool, resK false Γ true env hh r k' = k' l) → ∀ k' : List V → Bool, resK false Γ true env hh (.cell t ty :: r) k' = k' (v :: l) := by
      intro e env hh b o l v e1 e2 e3 k'
      have hg : env.get t = some (.at (.ptr b o)) := by
        cases hg : env.get t with
        | none =>
          have := e1 fun _ => true
          have : (match env.get t with | some v => atK false v fun _ => true | none => false) = true := this
          rw [hg] at this; cases this
        | some w =>
          have := e1 fun a => @decide (a = .ptr b o) (Classical.propDecidable _)
          have : (match env.get t with | some v => atK false v fun a => @decide (a = .ptr b o) (Classical.propDecidable _) | none => false) = @decide (A.ptr b o = .ptr b o) (Classical.propDecidable _) := this
          rw [hg, @decide_eq_true _ (Classical.propDecidable _) rfl] at this
          cases w with
          | «at» a =>
            have this : @decide (a = .ptr b o) (Classical.propDecidable _) = true := this
            rw [@of_decide_eq_true _ (Classical.propDecidable _) this]
          | _ => cases this
      show (match env.get t with
        | some (.at (.ptr b o)) => loadK false Γ true hh ty b o fun v => resK false Γ true env hh r fun vs => k' (v :: vs)
        | _ => false) = _
      rw [hg]
      exact (e2 _).trans (e3 _)
    rcases iF_mk2 h with ⟨ha, h⟩ | ⟨ha, h⟩
    · cases h
      intro e env h nx k he H
      obtain ⟨b, o, e1, H⟩ := pC_ok h1 e env _ he H
      obtain ⟨bt, q, e2, H⟩ := hG_t H
      obtain ⟨q', e3, H⟩ := rS_t H
      obtain ⟨l, e4, H⟩ := rsC_ok h2 e env _ nx _ he H
      refine ⟨_, fin e env _ b o l (.agg q') e1 (fun k' => ?_) e4, H⟩
      unfold loadK
      rw [ht, e2]
      unfold partK
      rw [ha, cond_true, e3]
    · cases h
      intro e env h nx k he H
      obtain ⟨b, o, e1, H⟩ := pC_ok h1 e env _ he H
      obtain ⟨bt, q, e2, H⟩ := hG_t H
      obtain ⟨a, e3, H⟩ := rG_t H
      obtain ⟨l, e4, H⟩ := rsC_ok h2 e env _ nx _ he H
      refine ⟨_, fin e env _ b o l (.at a) e1 (fun k' => ?_) e4, H⟩
      unfold loadK
      rw [ht, e2]
      unfold partK
      rw [ha, cond_false, e3]
      exact strA_eq _ _
theorem pkV_eq (l : List V) (k : V → Bool) : pkV l k = k (packV l) := by
  cases l with
  | nil => rfl
  | cons v t => cases t <;> rfl
theorem c00_list : c00.list = List.replicate 16 .undef := rfl
theorem e00_list : e00.list = List.replicate 32 c00 := rfl
theorem slot_e00 (t : Nat) : slot e00 t = .undef := by
  unfold slot
  rw [e00_list, List.getElem?_replicate]
  split
  · rename_i c hc
    split at hc
    · cases hc
      rw [c00_list, List.getElem?_replicate]
      split
      · rename_i v hv; split at hv <;> cases hv; rfl
      · rfl
    · cases hc
  · rfl
def SimF (Γ : Ctx) (F : FnF) (f : Nat) : Prop := ∀ d C fl fd vs h nx (k : V → M2 → Bool) (k' : V → H → Nat → Bool), CallS C (callN false Γ true d) → (∀ v h nx, k v (.mk h nx) = true → k' v h nx = true) →
  F (.mk C fl fd) vs (.mk h nx) k = true → callN false Γ true (d + 1) fl fd f vs h nx k' = true
theorem fnK_ok {f : Nat} {fi : FI} {F : FnF} (hc : Γ.con.get f = none) (hf : Γ.fn.get f = some fi) (h : fnK Γ fi = .mk F) : SimF Γ F f := by
  unfold fnK at h
  obtain ⟨h0, h⟩ := iF_mk h
  obtain ⟨a, h1, h⟩ := Cl.go_mk h
  obtain ⟨b, h2, h⟩ := Cl.go_mk h
  obtain ⟨r, h3, h⟩ := Cl.go_mk h
  cases h
  intro d C fl fd vs h nx k k' hC hk H
  obtain ⟨hl, e', env', e1, he', H⟩ := agC_ok h1 vs e00 .lf _ (fun t ht => absurd (slot_e00 t) ht) H
  have hl : Nat.ble vs.length fi.n = true := by
    rw [iF_eq] at hl
    refine Nat.ble_eq_true_of_le (Nat.le_trans hl ?_)
    cases hb : Nat.ble fi.n 16 with
    | true => exact Nat.le_refl _
    | false =>
      show 16 ≤ fi.n
      rcases Nat.lt_or_ge 16 fi.n with hle | hle
      · exact Nat.le_of_lt hle
      · rw [Nat.ble_eq_true_of_le hle] at hb; cases hb
  rw [callN, hc]
  show (match Γ.fn.get f with
      | none => false
      | some fi => okK false (Nat.ble vs.length fi.n) (argsK false 0 vs .lf fun env => evC false (callN false Γ true d) Γ true fl fd 1000000000 fi.body env h nx fun x env h nx =>
          match x with
          | .exit _ => false
          | _ => resK false Γ true env h fi.res fun vs => k' (packV vs) h nx)) = true
  rw [hf]
  show okK false (Nat.ble vs.length fi.n) (argsK false 0 vs .lf fun env => evC false (callN false Γ true d) Γ true fl fd 1000000000 fi.body env h nx fun x env h nx =>
          match x with
          | .exit _ => false
          | _ => resK false Γ true env h fi.res fun vs => k' (packV vs) h nx) = true
  rw [hl, okK, cond_true, e1]
  refine cdC_ok h2 1000000000 (Nat.le_of_ble_eq_true h0) C _ fl fd e' env' h nx _ _ hC he' (fun x e env h nx he H => ?_) H
  have fin : r e (.mk h nx) (fun l => pkV l fun v => k v (.mk h nx)) = true → (resK false Γ true env h fi.res fun vs => k' (packV vs) h nx) = true := by
    intro H
    obtain ⟨l, e2, H⟩ := rsC_ok h3 e env h nx _ he H
    rw [pkV_eq] at H
    rw [e2]; exact hk _ _ _ H
  rcases xK_t H with ⟨rfl, H⟩ | ⟨i, rfl, H⟩ | ⟨rfl, H⟩
  · exact fin H
  · cases H
  · exact fin H
/-- A contract may be asked further on. -/
def ConP (c : Con) : Prop := ∀ vs h fl fd nx, Par fun k : Out3 → Bool => c.run false vs h fl fd nx fun v h nx => k (v, h, nx)
theorem fnC_ok {f : Nat} {c : Con} (hp : ConP c) (hc : Γ.con.get f = some c) : SimF Γ (fnC c) f := by
  intro d C fl fd vs h nx k k' hC hk H
  have H : c.run false vs h fl fd nx (fun v h nx => k v (.mk h nx)) = true := H
  obtain ⟨v, h', nx', e1, H⟩ := (hp vs h fl fd nx).t3 (F := fun k => c.run false vs h fl fd nx k) H
  rw [callN, hc]
  exact (e1 k').trans (hk _ _ _ H)
def TabOk (Γ : Ctx) (t : Tr FnF) : Prop := ∀ f F, t.get f = some F → SimF Γ F f
theorem put_tab {t : Tr FnF} {f : Nat} {F : FnF} {k : Tr FnF → Bool} (ht : TabOk Γ t) (hF : SimF Γ F f) (H : tP 64 t f (some F) k = true) : ∃ t', TabOk Γ t' ∧ k t' = true := by
  rw [tP_eq] at H
  rcases Tr.get_put 64 t f (some F) k with e | ⟨t', h1, e⟩
  · rw [H] at e; cases e
  · refine ⟨t', fun j G hj => ?_, by rw [← e]; exact H⟩
    rw [h1] at hj
    split at hj
    · rename_i hjf; cases hj; subst hjf; exact hF
    · exact ht j G hj
theorem tabK_ok (hp : ∀ f c, Γ.con.get f = some c → ConP c) : ∀ {fs : List Nat} {t : Tr FnF} {k : Tr FnF → Bool}, TabOk Γ t → tabK Γ fs t k = true → ∃ t', TabOk Γ t' ∧ k t' = true
  | [], t, k, ht, H => ⟨t, ht, H⟩
  | f :: fs, t, k, ht, H => by
    unfold tabK at H
    rw [tG_eq] at H
    cases hc : Γ.con.get f with
    | some c =>
      rw [hc] at H
      obtain ⟨t', ht', H⟩ := put_tab ht (fnC_ok (hp f c hc) hc) H
      exact tabK_ok hp ht' H
    | none =>
      rw [hc] at H
      have H : (tG false Γ.fn f fun fi => Cl.rec (motive := fun _ => Bool) (fun F => tP 64 t f (some F) fun t => tabK Γ fs t k) (tabK Γ fs t k) (fnK Γ fi)) = true := H
      rw [tG_eq] at H
      cases hf : Γ.fn.get f with
      | none => rw [hf] at H; cases H
      | some fi =>
        rw [hf] at H
        have H : Cl.rec (motive := fun _ => Bool) (fun F => tP 64 t f (some F) fun t => tabK Γ fs t k) (tabK Γ fs t k) (fnK Γ fi) = true := H
        cases hk : fnK Γ fi with
        | no => rw [hk] at H; exact tabK_ok hp ht H
        | mk F =>
          rw [hk] at H
          obtain ⟨t', ht', H⟩ := put_tab ht (fnK_ok hc hf hk) H
          exact tabK_ok hp ht' H
theorem run_sim {t : Tr FnF} (ht : TabOk Γ t) : ∀ d, CallS (run t d) (callN false Γ true d)
  | 0 => fun fl fd g vs h nx k k' hk H => by cases H
  | d + 1 => fun fl fd g vs h nx k k' hk H => by
    have H : (tG false t g fun F => F (.mk (run t d) fl fd) vs (.mk h nx) fun v m => mH m fun h nx => k v h nx) = true := H
    rw [tG_eq] at H
    cases hg : t.get g with
    | none => rw [hg] at H; cases H
    | some F =>
      rw [hg] at H
      exact ht g F hg d (run t d) fl fd vs h nx _ k' (run_sim ht d) (fun v h nx H => hk v h nx H) H
/-- A compiled run is a run. -/
theorem run_ok (hp : ∀ f c, Γ.con.get f = some c → ConP c) {fs : List Nat} {d f : Nat} {vs : List V} {h : H} {nx fl fd : Nat} {k : V → H → Nat → Bool} (H : tabK Γ fs .lf (fun tab => run tab d fl fd f vs h nx k) = true) : callN false Γ true d fl fd f vs h nx k = true := by
  obtain ⟨t, ht, H⟩ := tabK_ok hp (fun f F hF => by cases hF) H
  exact run_sim ht d fl fd f vs h nx k k (fun _ _ _ h => h) H
end Go.S
