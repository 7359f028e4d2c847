/-
  S, ninth text: compiled operations, regions in order.
-/
import Derived.Test.YtbecokebaikhaaaGreatSh
namespace Go.S
open Go Go.E
set_option linter.unusedVariables false
set_option linter.unusedSimpArgs false
variable {Γ : Ctx}

theorem opC_ok {o : Op} {f : OpF} (h : opC Γ o = .mk f) : SimOp Γ f o := by
  unfold opC at h
  split at h
  · obtain ⟨g, h1, h⟩ := Cl.go_mk h; cases h; exact mv_sim (oC_ok h1) _ (.inl rfl)
  · obtain ⟨g, h1, h⟩ := Cl.go_mk h; cases h; exact mv_sim (oC_ok h1) _ (.inr rfl)
  · obtain ⟨c, h1, h⟩ := Cl.go_mk h
    obtain ⟨a, h2, h⟩ := Cl.go_mk h
    obtain ⟨b, h3, h⟩ := Cl.go_mk h
    cases h; exact pk_sim (bC_ok h1) (oC_ok h2) (oC_ok h3)
  · obtain ⟨ti, ht, _, h⟩ := tyC_mk h
    rw [tiC_eq] at h; cases h; exact al_sim ht
  · obtain ⟨g, h1, h⟩ := Cl.go_mk h; cases h; exact bx_sim (oC_ok h1)
  · obtain ⟨ti, ht, _, h⟩ := tyC_mk h
    rw [tiC_eq] at h
    split at h
    · rename_i fs hti
      obtain ⟨g, h1, h⟩ := Cl.go_mk h
      cases h
      refine bl_sim ht (.inl ⟨fs, hti, fill_ok (pl := fun i k => match fs[i]? with | some (o, t) => k o t | none => false) (fun i k x hx => ?_) h1⟩)
      split at hx
      · rename_i o t hft
        exact ⟨o, t, fun k' => by show (match fs[i]? with | some (o, t) => k' o t | none => false) = _; rw [hft], hx⟩
      · cases hx
    · rename_i n e hti
      obtain ⟨te, hte, _, h⟩ := tyC_mk h
      obtain ⟨g, h1, h⟩ := Cl.go_mk h
      cases h
      exact bl_sim ht (.inr ⟨n, e, te, hti, hte, fill_ok (pl := fun i k => k (Nat.mul i te.size) e) (fun i k x hx => ⟨_, _, fun _ => rfl, hx⟩) h1⟩)
    · cases h
  · obtain ⟨ti, ht, _, h⟩ := tyC_mk h
    split at h
    · rename_i e hti
      obtain ⟨te, hte, _, h⟩ := tyC_mk h
      obtain ⟨h1, h⟩ := iF_mk h
      obtain ⟨h2, h⟩ := iF_mk h
      obtain ⟨g, h3, h⟩ := Cl.go_mk h
      rw [nK_eq] at h
      cases h
      exact bs_sim ht hti hte h1 h2 (fill_ok (pl := fun i k => k (Nat.mul i te.size) e) (fun i k x hx => ⟨_, _, fun _ => rfl, hx⟩) h3)
    · cases h
  · obtain ⟨ti, ht, _, h⟩ := tyC_mk h
    obtain ⟨p, h1, h⟩ := Cl.go_mk h
    rcases iF_mk2 h with ⟨ha, h⟩ | ⟨ha, h⟩
    · cases h; exact ldG_sim ht (pC_ok h1) ha
    · cases h; exact ld_sim ht (pC_ok h1) ha
  · obtain ⟨ti, ht, _, h⟩ := tyC_mk h
    obtain ⟨p, h1, h⟩ := Cl.go_mk h
    obtain ⟨g, h2, h⟩ := Cl.go_mk h
    cases h; exact st_sim ht (pC_ok h1) (oC_ok h2)
  · obtain ⟨p, h1, h⟩ := Cl.go_mk h; cases h; exact nc_sim (pC_ok h1)
  · obtain ⟨a, h1, h⟩ := Cl.go_mk h
    obtain ⟨b, h2, h⟩ := Cl.go_mk h
    exact bin_ok (oC_ok h1) (oC_ok h2) h
  · split at h
    · obtain ⟨g, h1, h⟩ := Cl.go_mk h; cases h; exact nt_sim (bC_ok h1)
    · obtain ⟨g, h1, h⟩ := Cl.go_mk h; cases h; exact un_sim (aC_ok h1)
  · exact cvt_ok h
  · obtain ⟨ti, ht, _, h⟩ := tyC_mk h
    obtain ⟨g, h1, h⟩ := Cl.go_mk h
    split at h
    · rename_i n e hti
      obtain ⟨h2, h⟩ := iF_mk h
      rw [nK_eq] at h
      cases h; exact sa_sim ht hti h2 (aC_ok h1)
    · cases h
  · obtain ⟨a, h1, h⟩ := Cl.go_mk h
    obtain ⟨b, h2, h⟩ := Cl.go_mk h
    cases h; exact mf_sim (laC_ok h1) (laC_ok h2)
  · obtain ⟨ti, ht, _, h⟩ := tyC_mk h
    split at h
    · rename_i e hti
      obtain ⟨te, hte, _, h⟩ := tyC_mk h
      obtain ⟨a, h1, h⟩ := Cl.go_mk h
      obtain ⟨b, h2, h⟩ := Cl.go_mk h
      cases h; exact ms_sim ht hti hte (xC_ok h1) (xC_ok h2)
    · cases h
  · rename_i t x lo hi mx
    obtain ⟨hm, h⟩ := iF_mk h
    rw [iF_eq] at hm
    obtain ⟨ti, ht, _, h⟩ := tyC_mk h
    obtain ⟨l, h1, h⟩ := Cl.go_mk h
    obtain ⟨q, h2, h⟩ := Cl.go_mk h
    obtain ⟨m, h3, h⟩ := Cl.go_mk h
    split at h
    · rename_i hti
      obtain ⟨hmx, h⟩ := iF_mk h
      obtain ⟨a, h4, h⟩ := Cl.go_mk h
      cases h; exact sls_sim hm hmx ht hti (aC_ok h4) (bdC_ok h1) (bdC_ok h2)
    · rename_i e hti
      obtain ⟨te, hte, _, h⟩ := tyC_mk h
      obtain ⟨a, h4, h⟩ := Cl.go_mk h
      cases h; exact slc_sim hm ht hti hte (aC_ok h4) (bdC_ok h1) (bdC_ok h2) (bdC_ok h3)
    · rename_i n e hti
      obtain ⟨te, hte, _, h⟩ := tyC_mk h
      obtain ⟨hn, h⟩ := iF_mk h
      rw [nK_eq] at h
      obtain ⟨p, h4, h⟩ := Cl.go_mk h
      cases h; exact sla_sim hm hn ht hti hte (pC_ok h4) (bdC_ok h1) (bdC_ok h2) (bdC_ok h3)
    · cases h
  · obtain ⟨o, ti, ho, h⟩ := fld_mk h
    obtain ⟨h1, h⟩ := iF_mk h
    obtain ⟨p, h2, h⟩ := Cl.go_mk h
    cases h; exact fa_sim (fun k' => ho fun _ ti => k' ti) ho h1 (pC_ok h2)
  · obtain ⟨o, ti, ho, h⟩ := fld_mk h
    obtain ⟨g, h2, h⟩ := Cl.go_mk h
    have := fd_sim ho (oC_ok h2)
    rcases iF_mk2 h with ⟨ha, h⟩ | ⟨ha, h⟩
    · cases h; rw [ha] at this; exact this
    · cases h; rw [ha] at this; exact this
  · obtain ⟨ti, ht, _, h⟩ := tyC_mk h
    obtain ⟨i, h1, h⟩ := Cl.go_mk h
    split at h
    · rename_i e hti
      obtain ⟨te, hte, _, h⟩ := tyC_mk h
      obtain ⟨a, h2, h⟩ := Cl.go_mk h
      cases h; exact ix_sim ht hti hte (aC_ok h2) (xC_ok h1)
    · rename_i n e hti
      obtain ⟨te, hte, _, h⟩ := tyC_mk h
      rw [nK_eq] at h
      obtain ⟨p, h2, h⟩ := Cl.go_mk h
      cases h; exact ixA_sim ht hti hte (pC_ok h2) (xC_ok h1)
    · cases h
  · obtain ⟨ti, ht, _, h⟩ := tyC_mk h
    obtain ⟨i, h1, h⟩ := Cl.go_mk h
    split at h
    · rename_i n e hti
      obtain ⟨te, hte, _, h⟩ := tyC_mk h
      rw [nK_eq] at h
      obtain ⟨g, h2, h⟩ := Cl.go_mk h
      have := iv_sim ht hti hte (oC_ok h2) (xC_ok h1)
      rcases iF_mk2 h with ⟨ha, h⟩ | ⟨ha, h⟩
      · cases h; rw [ha] at this; exact this
      · cases h; rw [ha] at this; exact this
    · rename_i hti
      obtain ⟨a, h2, h⟩ := Cl.go_mk h
      cases h; exact ivS_sim ht hti (aC_ok h2) (xC_ok h1)
    · cases h
  · obtain ⟨ti, ht, _, h⟩ := tyC_mk h
    split at h
    · rename_i hti
      split at h
      · cases h; exact mm_sim ht hti
      · obtain ⟨g, h1, h⟩ := Cl.go_mk h
        cases h; exact mmX_sim ht hti (xC_ok h1)
    · cases h
  · obtain ⟨a, h1, h⟩ := Cl.go_mk h
    obtain ⟨g, h2, h⟩ := Cl.go_mk h
    cases h; exact lk_sim (aC_ok h1) (oC_ok h2)
  · obtain ⟨a, h1, h⟩ := Cl.go_mk h
    obtain ⟨g, h2, h⟩ := Cl.go_mk h
    obtain ⟨v, h3, h⟩ := Cl.go_mk h
    cases h; exact mu_sim _ (.inl rfl) (aC_ok h1) (oC_ok h2) (oC_ok h3)
  · obtain ⟨a, h1, h⟩ := Cl.go_mk h
    obtain ⟨g, h2, h⟩ := Cl.go_mk h
    obtain ⟨v, h3, h⟩ := Cl.go_mk h
    cases h; exact mu_sim _ (.inr rfl) (aC_ok h1) (oC_ok h2) (oC_ok h3)
  · obtain ⟨a, h1, h⟩ := Cl.go_mk h
    obtain ⟨g, h2, h⟩ := Cl.go_mk h
    cases h; exact me_sim (aC_ok h1) (oC_ok h2)
  · obtain ⟨a, h1, h⟩ := Cl.go_mk h
    obtain ⟨n, h2, h⟩ := Cl.go_mk h
    obtain ⟨v, h3, h⟩ := Cl.go_mk h
    cases h; exact es_sim (aC_ok h1) (aC_ok h2) (oC_ok h3)
  · obtain ⟨f', h1, h⟩ := Cl.go_mk h
    obtain ⟨g, h2, h⟩ := Cl.go_mk h
    cases h; exact ex_sim h1 (oC_ok h2)
  · rename_i c
    split at h
    · rename_i g hc
      obtain ⟨l, h1, h⟩ := Cl.go_mk h
      cases h; exact ca_sim hc (lvC_ok h1)
    · rename_i x _ hc
      obtain ⟨a, h1, h⟩ := Cl.go_mk h
      obtain ⟨l, h2, h⟩ := Cl.go_mk h
      cases h; exact cl_sim hc (aC_ok h1) (lvC_ok h2)
    · rename_i b hc
      exact bi_ok hc h
    · cases h
  · cases h
theorem opB_ok {o : Op} {f : OpF} (h : opB Γ o = .mk f) : SimOp Γ f o := by
  unfold opB at h
  cases hc : opC Γ o with
  | mk g => rw [hc] at h; cases h; exact opC_ok hc
  | no => rw [hc] at h; cases h; intro C C' fl fd e env h nx k k' hC he hk H; cases H

/-! Guards. -/
def SimGd (os : List Oper) (g : GB) (w : Bool) (gd : Option (Nat × Bool)) : Prop := ∀ e env (y n y' n' : Bool), EnvS e env → (y = true → y' = true) → (n = true → n' = true) → (iF w (g e y n) (g e n y)) = true → guardK false os env gd y' n' = true
theorem gdC_mk {α : Type} {os : List Oper} {gd : Option (Nat × Bool)} {nog : Cl α} {yes : GB → Bool → Cl α} {x : α} (h : gdC os gd nog yes = .mk x) : (gd = none ∧ nog = .mk x) ∨ ∃ g w, SimGd os g w gd ∧ yes g w = .mk x := by
  unfold gdC at h
  split at h
  · exact .inl ⟨rfl, h⟩
  · rename_i j w
    split at h
    · cases h
    · rename_i p hp
      split at h
      · cases h
      · rename_i s hs
        obtain ⟨g, h1, h⟩ := Cl.go_mk h
        refine .inr ⟨g, w, fun e env y n y' n' he hy hn H => ?_, h⟩
        have hb := bC_ok h1
        show (match os[j]? with
          | none => false
          | some p => match p.dst with
            | none => false
            | some s => match env.get s with
              | some (.at (.bool b)) => bif b then (bif w then y' else n') else (bif w then n' else y')
              | _ => false) = true
        rw [hp]
        show (match p.dst with
            | none => false
            | some s => match env.get s with
              | some (.at (.bool b)) => bif b then (bif w then y' else n') else (bif w then n' else y')
              | _ => false) = true
        rw [hs]
        have key : ∀ b, (∀ k' : V → Bool, eO false true env (.tmp s) k' = k' (.at (.bool b))) → (bif b then (bif w then y else n) else (bif w then n else y)) = true → (match env.get s with
              | some (.at (.bool b)) => bif b then (bif w then y' else n') else (bif w then n' else y')
              | _ => false) = true := by
          intro b e1 hb
          have hg : env.get s = some (.at (.bool b)) := by
            cases hg : env.get s with
            | none =>
              have e2 := e1 fun _ => true
              unfold eO at e2
              have e2 : (match env.get s with | some v => true | none => false) = true := e2
              rw [hg] at e2; cases e2
            | some v =>
              have e2 := e1 fun v' => @decide (v' = v) (Classical.propDecidable _)
              have e2 : (match env.get s with | some v' => @decide (v' = v) (Classical.propDecidable _) | none => false) = @decide (V.at (.bool b) = v) (Classical.propDecidable _) := e2
              rw [hg] at e2
              have e2 : @decide (v = v) (Classical.propDecidable _) = @decide (V.at (.bool b) = v) (Classical.propDecidable _) := e2
              rw [@decide_eq_true _ (Classical.propDecidable _) rfl] at e2
              exact congrArg some (@of_decide_eq_true _ (Classical.propDecidable _) e2.symm).symm
          rw [hg]
          show (bif b then (bif w then y' else n') else (bif w then n' else y')) = true
          cases b <;> cases w <;> simp_all
        cases w with
        | true =>
          obtain ⟨b, e1, _, hb⟩ := hb e env y n he H
          exact key b e1 hb
        | false =>
          obtain ⟨b, e1, _, hb⟩ := hb e env n y he H
          exact key b e1 hb
def SimL (Γ : Ctx) (f : RgF) (os r : List Oper) : Prop := ∀ C C' fl fd e env h nx (k : E2 → M2 → Bool) (k' : En → H → Nat → Bool), CallS C C' → EnvS e env →
  (∀ e env h nx, EnvS e env → k e (.mk h nx) = true → k' env h nx = true) → f (.mk C fl fd) e (.mk h nx) k = true → evL false C' Γ true fl fd os r env h nx k' = true
theorem ordC_ok {os : List Oper} : ∀ {r : List Oper} {f : RgF}, ordC Γ os r = .mk f → SimL Γ f os r
  | [], f, h => by
    cases h
    intro C C' fl fd e env h nx k k' hC he hk H
    exact hk _ _ _ _ he H
  | o :: r, f, h => by
    unfold ordC at h
    obtain ⟨g, h1, h⟩ := Cl.go_mk h
    obtain ⟨p, h2, h⟩ := Cl.go_mk h
    obtain ⟨a, h3, h⟩ := Cl.go_mk h
    obtain ⟨b, h4, h⟩ := Cl.go_mk h
    cases h
    have hop := opB_ok h1
    have hp := dC_ok h2
    have hr := ordC_ok h4
    clear h
    intro C C' fl fd e env h nx k k' hC he hk H
    have yes : opR g p (.mk C fl fd) e (.mk h nx) (fun e m => b (.mk C fl fd) e m k) = true → evO false C' Γ true fl fd o.op env h nx (fun v h nx => dstK false env o.dst v fun env => evL false C' Γ true fl fd os r env h nx k') = true := by
      intro H
      refine hop C C' fl fd e env h nx _ _ hC he (fun v h nx H => ?_) H
      obtain ⟨e', env', e1, he', H⟩ := hp e env v _ he H
      rw [e1]
      exact hr C C' fl fd e' env' h nx k k' hC he' hk H
    rcases gdC_mk h3 with ⟨hg, h3⟩ | ⟨gb, w, hg, h3⟩
    · cases h3
      unfold evL
      rw [hg]
      exact yes H
    · cases h3
      unfold evL
      refine hg e env _ _ _ _ he yes (fun H => ?_) H
      obtain ⟨e', env', e1, he', H⟩ := hp e env _ _ he H
      rw [e1]
      exact hr C C' fl fd e' env' _ nx k k' hC he' hk H
end Go.S
