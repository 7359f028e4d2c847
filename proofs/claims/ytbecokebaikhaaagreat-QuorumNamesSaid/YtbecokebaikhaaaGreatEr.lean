/-
  E, eighteenth text: code, functions.
-/
import Derived.Test.YtbecokebaikhaaaGreatEp
namespace Go.E
open Go Go.RowKit Go.V
set_option linter.unusedVariables false
set_option linter.unusedSimpArgs false
def codeB (n : Nat) : Code → Bool
  | .region _ ops _ => ops.toList.all (dstB n)
  | .seq a b => bif codeB n a then codeB n b else false
  | .cond _ a b => bif codeB n a then codeB n b else false
  | .block _ a => codeB n a
  | .loop a => codeB n a
  | .scope a => codeB n a
  | _ => true
def xOf : X → Exit
  | .normal => .normal
  | .exit i => .exit i
  | .ret => .ret
section
variable {R : Type} {bad : R} {P : Program} {fl fd : Nat} {env : En} {h : H} {nx : Nat}
def DrawOk (bad : R) (P : Program) (Γ : Ctx) (C : CallF R) (m : Bool) : Prop := ∀ fl fd n os env h nx (k : En → H → Nat → R), fd ≤ fl → os.all (dstB n) = true → slotsB os = true →
  Out bad (evD bad C Γ m fl fd os (rows os) nx (rows os) [] env h nx k) fun e => ∃ env' h' nx', Goes P fl fd env h nx n .normal env' h' nx' (fun Q a w => ∀ id, (Code.region id os.toArray true).wp P Q a w) ∧ e = k env' h' nx'
/-- What is shown of a code's run: of a loop, that it ends after some rounds. -/
def GoesC (P : Program) (fl fd : Nat) (c : Code) (n : Nat) (env : En) (h : H) (nx : Nat) (x : X) (env' : En) (h' : H) (nx' : Nat) : Prop :=
  match c with
  | .loop b => ∃ r, Goes P fl fd env h nx n (xOf x) env' h' nx' (fun Q => Code.rounds P b Q r)
  | c => Goes P fl fd env h nx n (xOf x) env' h' nx' (c.wp P)
theorem Goes.mono {n : Nat} {x : Exit} {env' : En} {h' : H} {nx' : Nat} {G G' : (Exit → Act → World → Prop) → Act → World → Prop} (hg : Goes P fl fd env h nx n x env' h' nx' G) (hG : ∀ Q a w, G Q a w → G' Q a w) : Goes P fl fd env h nx n x env' h' nx' G' :=
  fun ρ a w he hr Q hQ => hG _ _ _ (hg ρ a w he hr Q hQ)
theorem GoesC.wp {c : Code} {n : Nat} {x : X} {env' : En} {h' : H} {nx' : Nat} (hg : GoesC P fl fd c n env h nx x env' h' nx') : Goes P fl fd env h nx n (xOf x) env' h' nx' (c.wp P) := by
  unfold GoesC at hg
  split at hg
  · obtain ⟨r, hg⟩ := hg
    exact hg.mono fun Q a w => wp_loop_rounds r
  · exact hg
theorem Out.goes {e : R} {A : X → En → H → Nat → Prop} {k : X → En → H → Nat → R} {S : R → Prop} (h : Out bad e fun e => ∃ x env' h' nx', A x env' h' nx' ∧ e = k x env' h' nx') (hk : ∀ x env' h' nx', A x env' h' nx' → Out bad (k x env' h' nx') S) : Out bad e S := by
  rcases h with e | ⟨x, env', h', nx', hA, e⟩
  · exact .inl e
  · rw [e]; exact hk _ _ _ _ hA
theorem evC_ok {Γ : Ctx} (hΓ : ∀ t ti, Γ.ty.get t = some ti → TyOk P t ti) {C : CallF R} (hC : CallOk bad P C) (m : Bool) (hD : DrawOk bad P Γ C m) (hf : fd ≤ fl) (n : Nat) : ∀ (f : Nat) (c : Code) (env : En) (h : H) (nx : Nat) (k : X → En → H → Nat → R), codeB n c = true →
    Out bad (evC bad C Γ m fl fd f c env h nx k) fun e => ∃ x env' h' nx', GoesC P fl fd c n env h nx x env' h' nx' ∧ e = k x env' h' nx' := by
  intro f
  induction f with
  | zero => intro c env h nx k _; exact .inl rfl
  | succ f ih =>
    intro c env h nx k hd
    unfold evC
    split
    · exact .inr ⟨.normal, env, h, nx, fun ρ a w he hr Q hQ => wp_skip (hQ ρ a w he (Stp.refl hr)), rfl⟩
    · exact .inr ⟨.normal, env, h, nx, fun ρ a w he hr Q hQ => wp_label (hQ ρ a w he (Stp.refl hr)), rfl⟩
    · rename_i id; exact .inr ⟨.exit id, env, h, nx, fun ρ a w he hr Q hQ => wp_exit (hQ ρ a w he (Stp.refl hr)), rfl⟩
    · exact .inr ⟨.ret, env, h, nx, fun ρ a w he hr Q hQ => wp_ret (hQ ρ a w he (Stp.refl hr)), rfl⟩
    · -- seq
      rename_i c1 c2
      have hd : (bif codeB n c1 then codeB n c2 else false) = true := hd
      have hd1 : codeB n c1 = true := by cases h1 : codeB n c1 with | true => rfl | false => rw [h1] at hd; cases hd
      have hd2 : codeB n c2 = true := by rw [hd1] at hd; exact hd
      refine Out.goes (ih c1 env h nx _ hd1) fun x env1 h1 nx1 hg => ?_
      · cases x with
        | normal =>
          refine (ih c2 env1 h1 nx1 k hd2).imp id fun ⟨y, env2, h2, nx2, hg2, e2⟩ => ⟨y, env2, h2, nx2, fun ρ a w he hr Q hQ => ?_, e2⟩
          refine wp_seq ((hg.wp ρ a w he hr _ fun ρ1 a1 w1 he1 hs1 => ?_))
          exact (hg2.wp ρ1 a1 w1 he1 hs1.rel Q fun ρ2 a2 w2 he2 hs2 => hQ ρ2 a2 w2 he2 (hs1.trans hs2 hf))
        | exit i => exact .inr ⟨.exit i, env1, h1, nx1, fun ρ a w he hr Q hQ => wp_seq ((hg.wp ρ a w he hr _ fun ρ1 a1 w1 he1 hs1 => hQ ρ1 a1 w1 he1 hs1)), rfl⟩
        | ret => exact .inr ⟨.ret, env1, h1, nx1, fun ρ a w he hr Q hQ => wp_seq ((hg.wp ρ a w he hr _ fun ρ1 a1 w1 he1 hs1 => hQ ρ1 a1 w1 he1 hs1)), rfl⟩
    · -- cond
      rename_i c0 c1 c2
      have hd : (bif codeB n c1 then codeB n c2 else false) = true := hd
      have hd1 : codeB n c1 = true := by cases h1 : codeB n c1 with | true => rfl | false => rw [h1] at hd; cases hd
      have hd2 : codeB n c2 = true := by rw [hd1] at hd; exact hd
      refine (eA_ok m env c0 _).out fun c hc => ?_
      split
      · rename_i t
        have hc' : ∀ ρ a, EnvOk ρ n env a → a.eval c0 = .bool t := fun ρ a he => by
          have := hc ρ n a he
          generalize a.eval c0 = x at this
          cases this
          rfl
        cases t with
        | true => exact (ih c1 env h nx k hd1).imp id fun ⟨y, env2, h2, nx2, hg2, e2⟩ => ⟨y, env2, h2, nx2, fun ρ a w he hr Q hQ => wp_cond_true (hc' ρ a he) ((hg2.wp ρ a w he hr Q hQ)), e2⟩
        | false => exact (ih c2 env h nx k hd2).imp id fun ⟨y, env2, h2, nx2, hg2, e2⟩ => ⟨y, env2, h2, nx2, fun ρ a w he hr Q hQ => wp_cond_false (hc' ρ a he) ((hg2.wp ρ a w he hr Q hQ)), e2⟩
      · exact .inl rfl
    · -- block
      rename_i id c1
      refine Out.goes (ih c1 env h nx _ hd) fun x env1 h1 nx1 hg => ?_
      · cases x with
        | normal => exact .inr ⟨.normal, env1, h1, nx1, fun ρ a w he hr Q hQ => wp_block ((hg.wp ρ a w he hr _ fun ρ1 a1 w1 he1 hs1 => hQ ρ1 a1 w1 he1 hs1)), rfl⟩
        | exit i =>
          cases hi : Nat.beq i id with
          | true => exact .inr ⟨.normal, env1, h1, nx1, fun ρ a w he hr Q hQ => wp_block ((hg.wp ρ a w he hr _ fun ρ1 a1 w1 he1 hs1 => by
              simp only [xOf, Exit.inBlock]
              rw [if_pos (Nat.eq_of_beq_eq_true hi)]
              exact hQ ρ1 a1 w1 he1 hs1)), by simp only [hi, cond_true]⟩
          | false => exact .inr ⟨.exit i, env1, h1, nx1, fun ρ a w he hr Q hQ => wp_block ((hg.wp ρ a w he hr _ fun ρ1 a1 w1 he1 hs1 => by
              simp only [xOf, Exit.inBlock]
              rw [if_neg (Nat.ne_of_beq_eq_false hi)]
              exact hQ ρ1 a1 w1 he1 hs1)), by simp only [hi, cond_false]⟩
        | ret => exact .inr ⟨.ret, env1, h1, nx1, fun ρ a w he hr Q hQ => wp_block ((hg.wp ρ a w he hr _ fun ρ1 a1 w1 he1 hs1 => hQ ρ1 a1 w1 he1 hs1)), rfl⟩
    · -- loop
      rename_i c1
      have hd1 : codeB n c1 = true := hd
      refine Out.goes (ih c1 env h nx _ hd1) fun x env1 h1 nx1 hg => ?_
      · cases x with
        | normal =>
          refine (ih (.loop c1) env1 h1 nx1 k hd).imp id fun ⟨y, env2, h2, nx2, ⟨r, hg2⟩, e2⟩ => ⟨y, env2, h2, nx2, ⟨r + 1, fun ρ a w he hr Q hQ => ?_⟩, e2⟩
          exact hg.wp ρ a w he hr _ fun ρ1 a1 w1 he1 hs1 => hg2 ρ1 a1 w1 he1 hs1.rel Q fun ρ2 a2 w2 he2 hs2 => hQ ρ2 a2 w2 he2 (hs1.trans hs2 hf)
        | exit i => exact .inr ⟨.exit i, env1, h1, nx1, ⟨1, fun ρ a w he hr Q hQ => hg.wp ρ a w he hr _ fun ρ1 a1 w1 he1 hs1 => hQ ρ1 a1 w1 he1 hs1⟩, rfl⟩
        | ret => exact .inr ⟨.ret, env1, h1, nx1, ⟨1, fun ρ a w he hr Q hQ => hg.wp ρ a w he hr _ fun ρ1 a1 w1 he1 hs1 => hQ ρ1 a1 w1 he1 hs1⟩, rfl⟩
    · -- scope
      rename_i c1
      refine (ih c1 env h nx k hd).imp id fun ⟨y, env2, h2, nx2, hg2, e2⟩ => ⟨y, env2, h2, nx2, fun ρ a w he hr Q hQ => ?_, e2⟩
      refine wp_scope_straight ((hg2.wp ρ a w he hr _ fun ρ1 a1 w1 he1 hs1 => ?_))
      cases y <;> exact hQ ρ1 a1 w1 he1 hs1
    · -- region
      rename_i rid ops d
      cases d with
      | true =>
        refine out_if fun hs => ?_
        refine (hD fl fd n ops.toList env h nx _ hf hd hs).imp id fun ⟨env2, h2, nx2, hg2, e2⟩ => ⟨.normal, env2, h2, nx2, fun ρ a w he hr Q hQ => ?_, e2⟩
        have := hg2 ρ a w he hr Q hQ rid
        simpa using this
      | false =>
        refine (evL_ok hΓ hC hf m n ops.toList ops.toList env h nx _ hd).imp id fun ⟨env2, h2, nx2, hg2, e2⟩ => ⟨.normal, env2, h2, nx2, fun ρ a w he hr Q hQ => ?_, e2⟩
        have := wp_region_lit (id := rid) (hg2 ρ a w he hr Q hQ)
        simpa using this
    · exact .inl rfl
/-- A function of the table. -/
structure FnOk (P : Program) (f : Nat) (fi : FI) : Prop where
  ent : FnEnt P f fi
  code : codeB fi.n fi.body = true
def ConOk (P : Program) (f : FuncId) (c : Con) : Prop := ∀ (R : Type) (bad : R) fl fd, fd ≤ fl → ∀ vs h nx (k : V → H → Nat → R), Out bad (c.run bad vs h fl fd nx k) fun e => ∃ v h' nx', CallM P fl fd f vs h nx v h' nx' ∧ e = k v h' nx'
structure CtxOk (P : Program) (Γ : Ctx) : Prop where
  ty : ∀ t ti, Γ.ty.get t = some ti → TyOk P t ti
  fn : ∀ f fi, Γ.fn.get f = some fi → FnOk P f fi
  con : ∀ f c, Γ.con.get f = some c → ConOk P f c
theorem argsK_ok : ∀ (vs : List V) (i : Nat) (env : En) (k : En → R), Ok1 bad (argsK bad i vs env k) k fun env' => ∀ j, env'.get j = if i ≤ j ∧ j < i + vs.length then vs[j - i]? else env.get j
  | [], i, env, k => .inr ⟨env, fun j => by rw [if_neg (by simp <;> omega)], rfl⟩
  | v :: vs, i, env, k => by
    unfold argsK putK
    refine (Tr.get_put 64 env i (some v) _).bind fun env1 h1 => (argsK_ok vs (Nat.succ i) env1 k).mono fun env2 h2 j => ?_
    rw [h2, h1]
    by_cases hj : j = i
    · subst hj
      rw [if_neg (by omega), if_pos rfl, if_pos (by simp), Nat.sub_self]
      rfl
    · by_cases hc : Nat.succ i ≤ j ∧ j < Nat.succ i + vs.length
      · rw [if_pos hc, if_pos (by simp <;> omega), show j - i = (j - Nat.succ i) + 1 by omega]
        rfl
      · rw [if_neg hc, if_neg hj, if_neg (by simp <;> omega)]
theorem resK_ok {Γ : Ctx} (hΓ : ∀ t ti, Γ.ty.get t = some ti → TyOk P t ti) (m : Bool) : ∀ (rs : List ResultVar) (k : List V → R), Ok1 bad (resK bad Γ m env h rs k) k fun vs => ∀ ρ n a w, EnvOk ρ n env a → Rel ρ h.get nx w →
    ∀ g : ResultVar → Sem Value, (∀ t, g (.tmp t) = Pure.pure (a.tmps.getD t undef)) → (∀ t ty, g (.cell t ty) = (do loadVar ty (← asAddr (a.tmps.getD t undef)))) →
    ∃ xs, VRs ρ vs xs ∧ ∀ acc : Array Value, (rs.foldlM (fun bs r => bs.push <$> g r) acc).run P w = .ok (acc ++ xs.toArray) w
  | [], k => .inr ⟨[], fun ρ n a w he hr g h1 h2 => ⟨[], .nil, fun acc => by simp⟩, rfl⟩
  | .tmp t :: rs, k => by
    unfold resK
    split
    · rename_i v hv
      refine (resK_ok hΓ m rs _).bind fun vs hvs => .inr ⟨_, fun ρ n a w he hr g h1 h2 => ?_, rfl⟩
      obtain ⟨xs, h3, h4⟩ := hvs ρ n a w he hr g h1 h2
      refine ⟨_ :: xs, .cons _ _ _ _ (he.get t v hv) h3, fun acc => ?_⟩
      simp only [List.foldlM_cons, h1, Sem.run_bind, Sem.run_map, Sem.run_pure, Result.andThen_ok, h4]
      simp
    · exact .inl rfl
  | .cell t ty :: rs, k => by
    unfold resK
    split
    · rename_i b o hv
      refine (loadK_ok (nx := nx) hΓ m ty b o _).bind fun v hl => (resK_ok hΓ m rs _).bind fun vs hvs => .inr ⟨_, fun ρ n a w he hr g h1 h2 => ?_, rfl⟩
      obtain ⟨xs, h3, h4⟩ := hvs ρ n a w he hr g h1 h2
      have hp := (he.get t _ hv).atom
      generalize hx : a.tmps.getD t undef = x at hp
      cases hp with
      | ptr _ _ p hp =>
        obtain ⟨y, hy, hvy⟩ := hl ρ w p hr hp
        refine ⟨y :: xs, .cons _ _ _ _ hvy h3, fun acc => ?_⟩
        simp only [List.foldlM_cons, h2, hx, asAddr, Sem.run_bind, Sem.run_map, Sem.run_pure, Result.andThen_ok, hy, h4]
        simp
    · exact .inl rfl
theorem VRs.len {ρ : Plc} {vs : List V} {xs : List Value} (h : VRs ρ vs xs) : vs.length = xs.length := by
  induction h with
  | nil => rfl
  | cons _ _ _ _ _ _ ih => simp [ih]
theorem VRs.at {ρ : Plc} {vs : List V} {xs : List Value} (h : VRs ρ vs xs) : ∀ (i : Nat) (v : V) (x : Value), vs[i]? = some v → xs[i]? = some x → VR ρ v x := by
  induction h with
  | nil => intro i v x h1; simp at h1
  | cons u y vs xs hu _ ih =>
    intro i v x h1 h2
    cases i with
    | zero =>
      simp only [List.getElem?_cons_zero, Option.some.injEq] at h1 h2
      subst h1 h2
      exact hu
    | succ i =>
      simp only [List.getElem?_cons_succ] at h1 h2
      exact ih i v x h1 h2
theorem packV_ok {ρ : Plc} {vs : List V} {xs : List Value} (h : VRs ρ vs xs) : VR ρ (packV vs) (packed xs) := by
  cases h with
  | nil => exact .tup [] [] rfl fun i v x h => by simp at h
  | cons v x vs xs hv hs =>
    cases hs with
    | nil => exact hv
    | cons u y us ys hu hs =>
      have hall : VRs ρ (v :: u :: us) (x :: y :: ys) := .cons _ _ _ _ hv (.cons _ _ _ _ hu hs)
      exact .tup _ _ hall.len hall.at
def rg (tmps : Array Value) : ResultVar → Sem Value
  | .tmp t => Pure.pure (tmps.getD t undef)
  | .cell a t => do loadVar t (← asAddr (tmps.getD a undef))
theorem results_eq (fn : Func) (tmps : Array Value) : results fn tmps = (do
    let vs ← fn.results.mapM (rg tmps)
    Pure.pure (if h : vs.size = 1 then vs[0] else .tuple vs)) := by
  have e : rg tmps = (fun r => match r with
    | .tmp t => Pure.pure (tmps.getD t undef)
    | .cell a t => do loadVar t (← asAddr (tmps.getD a undef))) := by
    funext r; cases r <;> rfl
  rw [e]
  rfl
theorem callN_ok {Γ : Ctx} (hΓ : CtxOk P Γ) (m : Bool) (hD : ∀ C : CallF R, CallOk bad P C → DrawOk bad P Γ C m) : ∀ d, CallOk bad P (callN bad Γ m d) := by
  intro d
  induction d with
  | zero => intro fl fd hf f vs h nx k; exact .inl rfl
  | succ d ih =>
    intro fl fd hf f vs h nx k
    unfold callN
    split
    · rename_i c hc
      exact hΓ.con f c hc R bad fl fd hf vs h nx k
    · split
      · exact .inl rfl
      · rename_i fi hfi
        have hF := hΓ.fn f fi hfi
        obtain ⟨fn, e1, e2, e3, e4, e5⟩ := hF.ent.ex
        refine out_if fun hle => (argsK_ok vs 0 .lf _).out fun env henv => ?_
        have hle := Nat.le_of_ble_eq_true hle
        refine Out.goes (evC_ok hΓ.ty ih m (hD _ ih) hf fi.n _ fi.body env h nx _ hF.code) fun x env1 h1 nx1 hg => ?_
        have main : x ≠ .exit (match x with | .exit i => i | _ => 0) → Out bad (resK bad Γ m env1 h1 fi.res fun vs => k (packV vs) h1 nx1) fun e => ∃ v h' nx', CallM P fl fd f vs h nx v h' nx' ∧ e = k v h' nx' := by
          intro hx
          refine (resK_ok (nx := nx1) hΓ.ty m fi.res _).out fun us hus => .inr ⟨packV us, h1, nx1, fun ρ w xs hvs hr => ?_, rfl⟩
          have hent : (callFunc f xs.toArray).run P w = .ok (.enter f xs.toArray) w := by
            have e5' : ¬ fn.name = "runtime.NumGoroutine" := by simpa using e5
            simp [callFunc, e1, e2, e5']
          rw [hent]
          refine calls_of_wp e1 e2 ?_
          have hE : EnvOk ρ fi.n env { tmps := xs.toArray ++ Array.replicate (fn.ntmps - xs.toArray.size) undef, defers := [] } := by
            have hl := hvs.len
            refine ⟨rfl, by simp [e3]; omega, fun t v ht => ?_⟩
            rw [henv] at ht
            split at ht
            · rename_i hc
              have hlt : t < xs.length := by omega
              rw [Nat.sub_zero] at ht
              have := hvs.at t v xs[t] ht (List.getElem?_eq_getElem hlt)
              have e6 : (xs.toArray ++ Array.replicate (fn.ntmps - xs.toArray.size) undef).getD t undef = xs[t] := by
                simp only [Array.getD_eq_getD_getElem?]
                rw [Array.getElem?_append_left (by simpa using hlt)]
                simp [hlt]
              show VR ρ v ((xs.toArray ++ Array.replicate (fn.ntmps - xs.toArray.size) undef).getD t undef)
              rw [e6]
              exact this
            · cases ht
          refine hg.wp ρ _ w hE hr _ fun ρ' a' w' he' hs' => ?_
          have fin : a'.defers = [] ∧ ∃ v, (results fn a'.tmps).run P w' = .ok v w' ∧ Ret (fun x w' => ∃ ρ', VR ρ' (packV us) x ∧ Stp fl fd ρ h.get nx w ρ' h1.get nx1 w') (.returned v) w' := by
            obtain ⟨zs, h3, h4⟩ := hus ρ' fi.n a' w' he' hs'.rel (rg a'.tmps) (fun t => rfl) (fun t ty => rfl)
            refine ⟨he'.defers, packed zs, ?_, packed zs, rfl, ρ', packV_ok h3, hs'⟩
            rw [results_eq, e4]
            simp only [Array.mapM_eq_foldlM, List.foldlM_toArray', bind_pure_comp, Sem.run_map, List.size_toArray, h4, Result.andThen_ok, Array.empty_append]
            match zs with
            | [] => rfl
            | [v] => rfl
            | v :: u :: r => rfl
          cases x with
          | normal => exact fin
          | exit i => exact absurd rfl hx
          | ret => exact fin
        cases x with
        | exit i => exact .inl rfl
        | normal => exact main (by simp)
        | ret => exact main (by simp)
end
end Go.E
