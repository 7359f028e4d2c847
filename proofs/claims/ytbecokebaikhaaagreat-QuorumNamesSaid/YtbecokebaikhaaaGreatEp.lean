/-
  E, sixteenth text: calls, operations one after the other.
-/
import Derived.Test.YtbecokebaikhaaaGreatEo
namespace Go.E
open Go Go.RowKit Go.V
set_option linter.unusedVariables false
set_option linter.unusedSimpArgs false
def CallM (P : Program) (fl fd : Nat) (f : FuncId) (vs : List V) (h : H) (nx : Nat) (v : V) (h' : H) (nx' : Nat) : Prop :=
  ∀ ρ w xs, VRs ρ vs xs → Rel ρ h.get nx w → Res P (fun x w' => ∃ ρ', VR ρ' v x ∧ Stp fl fd ρ h.get nx w ρ' h'.get nx' w') ((callFunc f xs.toArray).run P w)
def CallOk {R : Type} (bad : R) (P : Program) (C : CallF R) : Prop :=
  ∀ fl fd, fd ≤ fl → ∀ f vs h nx k, Out bad (C fl fd f vs h nx k) fun e => ∃ v h' nx', CallM P fl fd f vs h nx v h' nx' ∧ e = k v h' nx'
section
variable {R : Type} {bad : R} {P : Program} {fl fd : Nat} {env : En} {h : H} {nx : Nat} {o : Op} {k : V → H → Nat → R}
theorem VRs.append {ρ : Plc} {us vs : List V} {xs ys : List Value} (h : VRs ρ us xs) (k : VRs ρ vs ys) : VRs ρ (us ++ vs) (xs ++ ys) := by
  induction h with
  | nil => exact k
  | cons v x vs xs hv _ ih => exact .cons _ _ _ _ hv ih
theorem VRs.mono {ρ ρ' : Plc} (hρ : ρ.le ρ') {us : List V} {xs : List Value} (h : VRs ρ us xs) : VRs ρ' us xs := by
  induction h with
  | nil => exact .nil
  | cons v x vs xs hv _ ih => exact .cons _ _ _ _ (hv.mono hρ) ih
theorem atL_ok {ρ : Plc} : ∀ {as : List A} {xs : List Value}, as.length = xs.length → (∀ (i : Nat) (a : A) (v : Value), as[i]? = some a → xs[i]? = some v → AR ρ a v) → VRs ρ (atL as) xs
  | [], [], _, _ => .nil
  | [], x :: xs, hl, _ => by cases hl
  | a :: as, [], hl, _ => by cases hl
  | a :: as, x :: xs, hl, h => .cons _ _ _ _ (.at _ _ (h 0 a x rfl rfl)) (atL_ok (by simpa using hl) fun i b v h1 h2 => h (i + 1) b v (by simpa using h1) (by simpa using h2))
theorem evO_ok {Γ : Ctx} (hΓ : ∀ t ti, Γ.ty.get t = some ti → TyOk P t ti) {C : CallF R} (hC : CallOk bad P C) (hf : fd ≤ fl) (m : Bool) (o : Op) : Out bad (evO bad C Γ m fl fd o env h nx k) (OutO P fl fd env h nx o k) := by
  unfold evO
  split
  · rename_i c
    split
    · rename_i f hc
      refine (eA_ok m env f _).out fun fa hfa => ?_
      split
      · rename_i g fs cs
        refine (eOs_ok m env _ _).out fun vs hvs => ?_
        refine (hC fl fd hf g (atL fs ++ (vs ++ atL cs)) h nx k).imp id fun ⟨v, h', nx', hm, e⟩ => ⟨v, h', nx', fun ρ n a w he hr d ty pos aft gd => ?_, e⟩
        have hx := hfa ρ n a he
        generalize hfx : a.eval f = x at hx
        cases hx with
        | fn _ _ _ xs ys h1 h2 h3 h4 =>
          have hv := hm ρ w (xs ++ ((c.args.toList.map a.eval) ++ ys)) ((atL_ok h1 h3).append ((hvs ρ n a he).append (atL_ok h2 h4))) hr
          have e2 : (execOp a.eval ⟨d, .call c, ty, pos, aft, gd⟩).run P w = (callFunc g (xs ++ ((c.args.toList.map a.eval) ++ ys)).toArray).run P w := by
            simp only [execOp, resolve, hc, hfx, Deferred.ofValue, Sem.run_bind, Sem.run_pure, Result.andThen_ok, invoke]
            congr 2
            apply Array.ext'
            simp
          rw [e2]
          exact hv
      · exact .inl rfl
    · rename_i b hc
      refine (eOs_ok m env _ _).out fun vs hvs => (builtinK_ok hΓ hf m b c.argTypes.toList vs).imp id fun ⟨v, h', nx', hm, e⟩ => ⟨v, h', nx', fun ρ n a w he hr d ty pos aft gd => ?_, e⟩
      obtain ⟨x, ρ', w', h1, h2, h3⟩ := hm ρ w (c.args.toList.map a.eval) ty (c.args.map fun | .const _ => true | _ => false) (hvs ρ n a he) hr
      have e2 : (execOp a.eval ⟨d, .call c, ty, pos, aft, gd⟩).run P w = .ok (.value x) w' := by
        simp only [execOp, resolve, hc, Sem.run_bind, Sem.run_pure, Result.andThen_ok, invoke]
        have e3 : c.args.map a.eval = (c.args.toList.map a.eval).toArray := by apply Array.ext'; simp
        have e4 : c.argTypes = c.argTypes.toList.toArray := by simp
        rw [e3, e4]
        exact h1
      rw [e2]
      exact ⟨ρ', h2, h3⟩
    · exact .inl rfl
  · exact opK_ok hΓ m o
theorem EnvOk.mono {ρ ρ' : Plc} (hρ : ρ.le ρ') {n : Nat} {env : En} {a : Act} (h : EnvOk ρ n env a) : EnvOk ρ' n env a := ⟨h.defers, h.size, fun t v ht => (h.get t v ht).mono hρ⟩
theorem EnvOk.put {ρ : Plc} {n : Nat} {env env' : En} {a : Act} {d : Nat} {v : V} {x : Value} (h : EnvOk ρ n env a) (hd : d < n) (hv : VR ρ v x) (hg : ∀ j, env'.get j = if j = d then some v else env.get j) : EnvOk ρ n env' (a.put (some d) x) := by
  have hlt : d < a.tmps.size := by rw [h.size]; exact hd
  refine ⟨h.defers, by simp [Act.put, h.size], fun t u hu => ?_⟩
  rw [hg] at hu
  by_cases ht : t = d
  · subst ht
    rw [if_pos rfl] at hu
    cases hu
    have : (a.put (some t) x).tmps.getD t undef = x := by simp [Act.put, hlt]
    rw [this]
    exact hv
  · rw [if_neg ht] at hu
    have h1 := h.get t u hu
    have : (a.put (some d) x).tmps.getD t undef = a.tmps.getD t undef := by
      simp only [Act.put, Array.getD_eq_getD_getElem?]
      rw [Array.getElem?_setIfInBounds_ne (by omega)]
    rw [this]
    exact h1
def dstB (n : Nat) (o : Oper) : Bool := match o.dst with | none => true | some d => Nat.blt d n
theorem dstK_ok {k : En → R} {d : Option Nat} (v : V) : Ok1 bad (dstK bad env d v k) k fun env' => ∀ ρ n a x, (match d with | none => true | some d => Nat.blt d n) = true → EnvOk ρ n env a → VR ρ v x → EnvOk ρ n env' (a.put d x) := by
  unfold dstK
  cases d with
  | none => exact .inr ⟨env, fun ρ n a x _ he _ => he, rfl⟩
  | some d => exact (Tr.get_put 64 env d (some v) k).mono fun env' hg ρ n a x hd he hv => he.put (blt_t hd) hv hg
/-- A guard: what it says is what the model reads. -/
def Wants (os : List Oper) (env : En) (g : Option (Nat × Bool)) (b : Bool) : Prop := ∀ ρ n a, EnvOk ρ n env a → ∀ o : Oper, o.guard = g → Region.wanted o (yielded os.toArray a.tmps) = b
theorem guardK_ok {os : List Oper} {g : Option (Nat × Bool)} {yes no : R} {S : R → Prop} (hy : Wants os env g true → Out bad yes S) (hn : Wants os env g false → Out bad no S) : Out bad (guardK bad os env g yes no) S := by
  unfold guardK
  split
  · exact hy fun ρ n a he o ho => by simp [Region.wanted, ho]
  · rename_i j want
    split
    · exact .inl rfl
    · rename_i p hp
      split
      · exact .inl rfl
      · rename_i s hs
        split
        · rename_i b hb
          have key : ∀ ρ n a, EnvOk ρ n env a → yielded os.toArray a.tmps j = some b := fun ρ n a he => by
            have h1 := he.get s _ hb
            have h1 := h1.atom
            generalize hx : a.tmps.getD s undef = x at h1
            cases h1
            have hlt : s < a.tmps.size := by
              rcases Nat.lt_or_ge s a.tmps.size with h | h
              · exact h
              · simp [Array.getElem?_eq_none h, undef] at hx
            have h2 : a.tmps[s]? = some (.bool b) := by
              simp [hlt] at hx
              simp [hlt, hx]
            simp [yielded, hp, hs, h2]
          have hw : Wants os env (some (j, want)) (b == want) := fun ρ n a he o ho => by
            simp only [Region.wanted, ho, key ρ n a he]
            cases b <;> cases want <;> rfl
          cases b <;> cases want
          · exact hy hw
          · exact hn hw
          · exact hn hw
          · exact hy hw
        · exact .inl rfl
theorem Res.upon {Φ : Value → World → Prop} {r : Result Next} (hr : Res P Φ r) {o : Oper} {a : Act} {K : Act → World → Prop} {Q : Exit → Act → World → Prop} (h : ∀ x w', Φ x w' → K (a.put o.dst x) w') : o.upon P a K Q r := by
  unfold Res at hr
  split at hr
  · exact h _ _ hr
  · exact h _ _ hr
  · refine hr.mono fun e w' he => ?_
    obtain ⟨v, rfl, he⟩ := he
    exact h _ _ he
  · exact hr.elim
/-- From one state of the evaluator to another. -/
def Goes (P : Program) (fl fd : Nat) (env : En) (h : H) (nx : Nat) (n : Nat) (x : Exit) (env' : En) (h' : H) (nx' : Nat) (G : (Exit → Act → World → Prop) → Act → World → Prop) : Prop :=
  ∀ ρ a w, EnvOk ρ n env a → Rel ρ h.get nx w → ∀ Q : Exit → Act → World → Prop, (∀ ρ' a' w', EnvOk ρ' n env' a' → Stp fl fd ρ h.get nx w ρ' h'.get nx' w' → Q x a' w') → G Q a w
theorem evL_ok {Γ : Ctx} (hΓ : ∀ t ti, Γ.ty.get t = some ti → TyOk P t ti) {C : CallF R} (hC : CallOk bad P C) (hf : fd ≤ fl) (m : Bool) (n : Nat) (os : List Oper) : ∀ (l : List Oper) (env : En) (h : H) (nx : Nat) (k : En → H → Nat → R), l.all (dstB n) = true →
    Out bad (evL bad C Γ m fl fd os l env h nx k) fun e => ∃ env' h' nx', Goes P fl fd env h nx n .normal env' h' nx' (fun Q => wpList P os.toArray Q l) ∧ e = k env' h' nx'
  | [], env, h, nx, k, _ => .inr ⟨env, h, nx, fun ρ a w he hr Q hQ => wpList_nil (hQ ρ a w he (Stp.refl hr)), rfl⟩
  | o :: r, env, h, nx, k, hd => by
    simp only [List.all_cons, Bool.and_eq_true] at hd
    unfold evL
    refine guardK_ok (fun hw => ?_) fun hw => ?_
    · rcases evO_ok (env := env) (h := h) (nx := nx) (k := fun v h nx => dstK bad env o.dst v fun env => evL bad C Γ m fl fd os r env h nx k) hΓ hC hf m o.op with e | ⟨v, h1, nx1, hm, e⟩
      · exact .inl e
      · rw [e]
        refine (dstK_ok v).out fun env1 henv => ?_
        refine (evL_ok hΓ hC hf m n os r env1 h1 nx1 k hd.2).imp id fun ⟨env2, h2, nx2, hg, e2⟩ => ⟨env2, h2, nx2, fun ρ a w he hr Q hQ => ?_, e2⟩
        refine wpList_step fun K hK => ?_
        rw [if_pos (hw ρ n a he o rfl)]
        have := hm ρ n a w he hr o.dst o.type o.pos o.after o.guard
        refine Res.upon this fun x w' ⟨ρ', hv, hs⟩ => hK _ _ ?_
        refine hg ρ' _ w' (henv ρ' n a x hd.1 (he.mono hs.le) hv) hs.rel Q fun ρ2 a2 w2 he2 hs2 => hQ ρ2 a2 w2 he2 (hs.trans hs2 hf)
    · refine (dstK_ok .undef).out fun env1 henv => ?_
      refine (evL_ok hΓ hC hf m n os r env1 h nx k hd.2).imp id fun ⟨env2, h2, nx2, hg, e2⟩ => ⟨env2, h2, nx2, fun ρ a w he hr Q hQ => ?_, e2⟩
      refine wpList_step fun K hK => ?_
      rw [if_neg (by rw [hw ρ n a he o rfl]; simp)]
      exact hK _ _ (hg ρ _ w (henv ρ n a undef hd.1 he .undef) hr Q hQ)
end
end Go.E
